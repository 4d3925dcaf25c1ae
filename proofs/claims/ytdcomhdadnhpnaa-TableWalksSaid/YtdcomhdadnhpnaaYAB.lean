import Derived.Test.YtdcomhdadnhpnaaYP23
set_option linter.all false
section
namespace Go.Proofs.Ytdcomhdadnhpnaa
open Go Go.Am Go.RowKit
attribute [local irreducible] wA opsQ opsLQ thenA blockA EndA
theorem put5 (a b c d e f g h i j:AV):putCells [a,b,c,d,e] 0 [f,g,h,i,j]=[f,g,h,i,j]:=rfl
attribute [local go_sem] put5
def emptyR:List (Int×Int):=[]
def emptyC:List (List Nat):=List.replicate 8 []
theorem emptyC_mem {c:List Nat} (h:c∈emptyC):c=[]:=(List.mem_replicate.1 h).2
def emptyL:List Int:=wordsF emptyR emptyC
set_option maxRecDepth 100000 in
set_option maxHeartbeats 4000000 in
theorem empty_rc:RC Try.prog 52 [] (tabG emptyR emptyC):=by
 refine rc_of hmix ctF_ok Try.func52 rfl (by kernel_rfl) (fun E s hs=>?_)
 simp(maxSteps:=300000)only[begA,Try.ntmps52,List.replicate_succ,List.replicate_zero,List.length_cons,List.length_nil,List.cons_append,List.nil_append]
 repeat(first |(with_reducible first |apply Q0 |apply Q1 |apply QG |apply Q2 |apply Q3 |apply Q4 |apply Q5 |apply Q6 |apply Q7 |apply Q8 |apply Q9 |apply QA |apply QB |apply QC |apply QD |apply QE |apply QF) |((first |(with_reducible apply QK rfl) |(apply QT;simp only[go_sem]<;>exact rfl));simp(disch:=omega)only[go_sem,hs,upd_ne];exact rfl;simp only[sB,sA,putA];exact rfl) |((first |(with_reducible apply QL rfl) |(apply QM;simp only[go_sem]<;>exact rfl));simp(disch:=omega)only[go_sem,hs,upd_ne];exact rfl;simp only[sB,sA,putA];exact rfl;simp only[logT_none,logT_rd,logT_wr,List.cons_append,List.nil_append];exact rfl) |((first |apply QI |apply QN);simp only[go_sem]<;>exact rfl;simp only[sB,sA,putA];exact rfl) |(refine QO ?_ ?_;first |focus(simp only[dyn_nil,dyn_cons,allY_nil,allY_cons,dj_rr,true_or,true_and];done) |focus(simp only[dyn_nil,dyn_cons,allY_nil,allY_cons,Dj,List.mem_cons,List.not_mem_nil,or_false,forall_eq,forall_eq_or_imp,and_true,true_and,false_imp_iff,implies_true];omega) |focus(simp only[dyn_nil,dyn_cons,allY_nil,allY_cons,and_true,true_and];(repeat' refine And.intro ?_ ?_);all_goals first |(left;simp only[Dj,List.mem_cons,List.not_mem_nil,or_false,forall_eq,forall_eq_or_imp,and_true,true_and,false_imp_iff,implies_true];first |done |omega) |(right;kernel_rfl))) |(apply QQ;simp only[evA,gB,gA];exact rfl) |((first |apply QX |apply QY);(first |rfl |decide |assumption)))
 (apply QZ;simp(disch:=omega)only[go_sem,Try.results52];exact rfl;simp only[packA];exact rfl)
 refine .agg rfl (fun i a b ha hb=>?_)
 match i with
 |0=>
  simp at ha hb;subst ha;subst hb
  exact .nil
 |1=>
  simp at ha hb;subst ha;subst hb
  refine .sl (by rw[upd_ne _ _ (by omega),upd_same]) (by simp[rowsN,emptyC]) (fun i a b ha hb=>?_)
  have e1:=(List.mem_replicate.1 (List.mem_of_mem_drop (List.mem_of_getElem? ha))).2
  obtain⟨c,hc,rfl⟩:=List.mem_map.1 (List.mem_of_getElem? hb)
  rw[e1,emptyC_mem hc]
  exact .nil
 |i+2=>simp at ha
theorem wok_empty:WOK emptyR emptyC:=⟨by simp[emptyR],rfl,fun c hc r hr=>(by rw[emptyC_mem hc]at hr;cases hr),fun c hc=>(by rw[emptyC_mem hc];simp)⟩
noncomputable def c52:List AV→AP AV
 | []=>.ret (tabG emptyR emptyC)
 |_=>.fail
theorem a52 (args:List AV):ACall Try.prog 52 args (c52 args):=by
 intro ρ H w vs hR hA s r H' s' hm
 unfold c52 at hm
 split at hm
 ·simp only[AP.run,Option.some.injEq,Prod.mk.injEq]at hm
  obtain⟨rfl,rfl,rfl⟩:=hm
  have:vs=[]:=by simpa using hA.len
  subst this
  exact empty_rc.acall hR .nil
 ·simp[AP.run]at hm
noncomputable def ctG:CT:=fun f args=>if f=52 then c52 args else if f=90 then c90 args else ctF f args
theorem ctG_ok:CTok Try.prog ctG:=fun f args=>by
 unfold ctG
 split
 ·rename_i e;subst e;exact a52 args
 split
 ·rename_i e;subst e;exact a90 args
 ·exact ctF_ok f args
theorem ctG_51 (a:List AV):ctG 51 a=c51o a:=rfl
theorem ctG_52 (a:List AV):ctG 52 a=c52 a:=rfl
theorem ctG_90 (a:List AV):ctG 90 a=c90 a:=rfl
theorem cal52:callable Try.prog 52=true:=by kernel_rfl
abbrev playG (L:List (Int×Int)) (ops:List OpT) (b:Bool) (x y:Int):AV:=.agg [.dsl L.length (elsA L),.dsl ops.length (opsA ops),.sc (.bool b),.sc (.int .i64 x),.sc (.int .i64 y)]
noncomputable def addsF (L:List (Int×Int)):List Int:=L.foldl (fun t e=>stepF t ⟨0,e.1,e.2,0⟩) emptyL
noncomputable def madeF (L:List (Int×Int)) (ops:List OpT):List Int:=ops.foldl stepF (addsF L)
theorem foldl_take {α β:Type} (f:α→β→α) (a:α) {l:List β} {k:Nat} (h:k<l.length):(l.take (k+1)).foldl f a=f ((l.take k).foldl f a) l[k]:=by
 rw[List.take_succ_eq_append_getElem h,List.foldl_append];rfl
set_option maxRecDepth 100000 in
set_option maxHeartbeats 4000000 in
theorem made_ro (L:List (Int×Int)) (ops:List OpT) (b:Bool) (x y:Int) (hL:L.length≤9223372036854775806) (ho:ops.length≤9223372036854775806):
  RO Try.prog 47 [playG L ops b x y] (fun a H=>OwnX (some (madeF L ops)) a H∧(madeF L ops).length≤1000000000):=by
 refine ro_of Try.func47 rfl (fun E s hs=>?_)
 refine wA_ok hmix ctG_ok _ (by kernel_rfl) ?_
 simp(maxSteps:=300000)only[begA,Try.ntmps47,List.replicate_succ,List.replicate_zero,List.length_cons,List.length_nil,List.cons_append,List.nil_append]
 have hWE:=wok_empty
 have hrd:∀k,rdT (tabG emptyR emptyC) k=k emptyR emptyC:=fun k=>by simp only[rdT,rdE2_dsl,rdC_dsl]
 repeat(first |(with_reducible first |apply Q0 |apply Q1 |apply QG |apply Q2 |apply Q3 |apply Q4 |apply Q5 |apply Q6 |apply Q7 |apply Q8 |apply Q9 |apply QA |apply QB |apply QC |apply QD |apply QE |apply QF) |((first |(with_reducible apply QK rfl) |(apply QT;simp only[go_sem]<;>exact rfl));simp(disch:=omega)only[go_sem,hs,upd_ne,cal52,ctG_52,c52,cal51,ctG_51,c51o,hrd,hWE];exact rfl;simp only[sB,sA,putA];exact rfl) |((first |(with_reducible apply QL rfl) |(apply QM;simp only[go_sem]<;>exact rfl));simp(disch:=omega)only[go_sem,hs,upd_ne,cal52,ctG_52,c52,cal51,ctG_51,c51o,hrd,hWE];exact rfl;simp only[sB,sA,putA];exact rfl;simp only[logT_none,logT_rd,logT_wr,List.cons_append,List.nil_append];exact rfl) |((first |apply QI |apply QN);simp only[go_sem]<;>exact rfl;simp only[sB,sA,putA];exact rfl) |(refine QO ?_ ?_;first |focus(simp only[dyn_nil,dyn_cons,allY_nil,allY_cons,dj_rr,true_or,true_and];done) |focus(simp only[dyn_nil,dyn_cons,allY_nil,allY_cons,Dj,List.mem_cons,List.not_mem_nil,or_false,forall_eq,forall_eq_or_imp,and_true,true_and,false_imp_iff,implies_true];omega) |focus(simp only[dyn_nil,dyn_cons,allY_nil,allY_cons,and_true,true_and];(repeat' refine And.intro ?_ ?_);all_goals first |(left;simp only[Dj,List.mem_cons,List.not_mem_nil,or_false,forall_eq,forall_eq_or_imp,and_true,true_and,false_imp_iff,implies_true];first |done |omega) |(right;kernel_rfl))) |(apply QQ;simp only[evA,gB,gA];exact rfl) |((first |apply QX |apply QY);(first |rfl |decide |assumption)))
 refine AWp.loop [1,3,4] (fun Γ H s' m=>∃(i q ver:Nat) (t:List Int),i≤L.length∧m=L.length-i∧t=(L.take i).foldl (fun t e=>stepF t ⟨0,e.1,e.2,0⟩) emptyL∧t.length≤1000000000∧Γ=(List.replicate 1 .junk)++[.ptr s 0 0]++(List.replicate 1 .junk)++[.sl q ver 0 t.length,.sc (.int .i64 (i:Nat))]++(List.replicate 40 .junk)∧H s=some (.row 0 1 [.dsl L.length (elsA L),.dsl ops.length (opsA ops),.sc (.bool b),.sc (.int .i64 x),.sc (.int .i64 y)])∧H q=some (.row ver 1 (ints t))∧s<q∧q<s'∧(∀q,s'≤q→H q=none)) L.length ?_ ?_
 ·exact⟨0,s+1,0,emptyL,Nat.zero_le _,rfl,rfl,by unfold emptyL;exact wordsF_le _ (by simp[emptyR]),rfl,by simp(disch:=omega)only[upd_ne,upd_same],upd_same _ _ _,by omega,by omega,fun q hq=>by(simp(disch:=omega)only[upd_ne];exact hs q)⟩
 rintro Γ H s1 m ⟨i,q,ver,t,hi,rfl,ht,ht9,rfl,hHs,hHq,hsq,hq1,hf⟩
 refine wA_ok hmix ctG_ok _ (by kernel_rfl) ?_
 simp(maxSteps:=1000000)only[List.replicate_succ,List.replicate_zero,List.cons_append,List.nil_append,List.append_nil]
 by_cases hlt:i<L.length
 ·have hft:(L.take (i+1)).foldl (fun t e=>stepF t ⟨0,e.1,e.2,0⟩) emptyL=stepF t ⟨0,L[i].1,L[i].2,0⟩:=by rw[foldl_take _ _ hlt,←ht]
  obtain⟨o,hoo⟩:∃o:OpT,o=⟨0,L[i].1,L[i].2,0⟩:=⟨_,rfl⟩
  have hoe:=hoo
  rw[←hoo]at hft
  have hsl:=stepF_le o ht9
  by_cases he:(stepE t o).1=0
  ·have hA:stepA q ver t o= .new (.row 0 1 (ints (stepF t o))) fun n=>.ret (.sl n 0 0 (stepF t o).length):=if_pos he
   repeat(first |(with_reducible first |apply Q0 |apply Q1 |apply QG |apply Q2 |apply Q3 |apply Q4 |apply Q5 |apply Q6 |apply Q7 |apply Q8 |apply Q9 |apply QA |apply QB |apply QC |apply QD |apply QE |apply QF) |((first |(with_reducible apply QK rfl) |(apply QT;simp only[go_sem]<;>exact rfl));simp(disch:=omega)only[go_sem,hf,upd_ne,hHs,hHq,cal90,ctG_90,c90,iK_ok,ht9,elsA_len,elsA_drop,←hoo,hA];exact rfl;simp only[sB,sA,putA];exact rfl) |((first |(with_reducible apply QL rfl) |(apply QM;simp only[go_sem]<;>exact rfl));simp(disch:=omega)only[go_sem,hf,upd_ne,hHs,hHq,cal90,ctG_90,c90,iK_ok,ht9,elsA_len,elsA_drop,←hoo,hA];exact rfl;simp only[sB,sA,putA];exact rfl;simp only[logT_none,logT_rd,logT_wr,List.cons_append,List.nil_append];exact rfl) |((first |apply QI |apply QN);simp only[go_sem]<;>exact rfl;simp only[sB,sA,putA];exact rfl) |(refine QO ?_ ?_;first |focus(simp only[dyn_nil,dyn_cons,allY_nil,allY_cons,dj_rr,true_or,true_and];done) |focus(simp only[dyn_nil,dyn_cons,allY_nil,allY_cons,Dj,List.mem_cons,List.not_mem_nil,or_false,forall_eq,forall_eq_or_imp,and_true,true_and,false_imp_iff,implies_true];omega) |focus(simp only[dyn_nil,dyn_cons,allY_nil,allY_cons,and_true,true_and];(repeat' refine And.intro ?_ ?_);all_goals first |(left;simp only[Dj,List.mem_cons,List.not_mem_nil,or_false,forall_eq,forall_eq_or_imp,and_true,true_and,false_imp_iff,implies_true];first |done |omega) |(right;kernel_rfl))) |(apply QQ;simp only[evA,gB,gA];exact rfl) |((first |apply QX |apply QY);(first |rfl |decide |assumption)))
   exact⟨L.length-(i+1),by omega,i+1,_,0,stepF t o,by omega,rfl,hft.symm,hsl,rfl,by(simp(disch:=omega)only[upd_ne];exact hHs),upd_same _ _ _,by omega,by omega,fun q hq=>by(simp(disch:=omega)only[upd_ne];exact hf q (by omega))⟩
  ·have hA:stepA q ver t o= .ret (.sl q ver 0 t.length):=if_neg he
   have hF:stepF t o=t:=if_neg he
   rw[hF]at hft
   repeat(first |(with_reducible first |apply Q0 |apply Q1 |apply QG |apply Q2 |apply Q3 |apply Q4 |apply Q5 |apply Q6 |apply Q7 |apply Q8 |apply Q9 |apply QA |apply QB |apply QC |apply QD |apply QE |apply QF) |((first |(with_reducible apply QK rfl) |(apply QT;simp only[go_sem]<;>exact rfl));simp(disch:=omega)only[go_sem,hf,upd_ne,hHs,hHq,cal90,ctG_90,c90,iK_ok,ht9,elsA_len,elsA_drop,←hoo,hA];exact rfl;simp only[sB,sA,putA];exact rfl) |((first |(with_reducible apply QL rfl) |(apply QM;simp only[go_sem]<;>exact rfl));simp(disch:=omega)only[go_sem,hf,upd_ne,hHs,hHq,cal90,ctG_90,c90,iK_ok,ht9,elsA_len,elsA_drop,←hoo,hA];exact rfl;simp only[sB,sA,putA];exact rfl;simp only[logT_none,logT_rd,logT_wr,List.cons_append,List.nil_append];exact rfl) |((first |apply QI |apply QN);simp only[go_sem]<;>exact rfl;simp only[sB,sA,putA];exact rfl) |(refine QO ?_ ?_;first |focus(simp only[dyn_nil,dyn_cons,allY_nil,allY_cons,dj_rr,true_or,true_and];done) |focus(simp only[dyn_nil,dyn_cons,allY_nil,allY_cons,Dj,List.mem_cons,List.not_mem_nil,or_false,forall_eq,forall_eq_or_imp,and_true,true_and,false_imp_iff,implies_true];omega) |focus(simp only[dyn_nil,dyn_cons,allY_nil,allY_cons,and_true,true_and];(repeat' refine And.intro ?_ ?_);all_goals first |(left;simp only[Dj,List.mem_cons,List.not_mem_nil,or_false,forall_eq,forall_eq_or_imp,and_true,true_and,false_imp_iff,implies_true];first |done |omega) |(right;kernel_rfl))) |(apply QQ;simp only[evA,gB,gA];exact rfl) |((first |apply QX |apply QY);(first |rfl |decide |assumption)))
   exact⟨L.length-(i+1),by omega,i+1,q,ver,t,by omega,rfl,hft.symm,ht9,rfl,hHs,hHq,hsq,hq1,hf⟩
 ·obtain rfl:i=L.length:=by omega
  rw[List.take_length]at ht
  repeat(first |(with_reducible first |apply Q0 |apply Q1 |apply QG |apply Q2 |apply Q3 |apply Q4 |apply Q5 |apply Q6 |apply Q7 |apply Q8 |apply Q9 |apply QA |apply QB |apply QC |apply QD |apply QE |apply QF) |((first |(with_reducible apply QK rfl) |(apply QT;simp only[go_sem]<;>exact rfl));simp(disch:=omega)only[go_sem,hf,upd_ne,hHs];exact rfl;simp only[sB,sA,putA];exact rfl) |((first |(with_reducible apply QL rfl) |(apply QM;simp only[go_sem]<;>exact rfl));simp(disch:=omega)only[go_sem,hf,upd_ne,hHs];exact rfl;simp only[sB,sA,putA];exact rfl;simp only[logT_none,logT_rd,logT_wr,List.cons_append,List.nil_append];exact rfl) |((first |apply QI |apply QN);simp only[go_sem]<;>exact rfl;simp only[sB,sA,putA];exact rfl) |(refine QO ?_ ?_;first |focus(simp only[dyn_nil,dyn_cons,allY_nil,allY_cons,dj_rr,true_or,true_and];done) |focus(simp only[dyn_nil,dyn_cons,allY_nil,allY_cons,Dj,List.mem_cons,List.not_mem_nil,or_false,forall_eq,forall_eq_or_imp,and_true,true_and,false_imp_iff,implies_true];omega) |focus(simp only[dyn_nil,dyn_cons,allY_nil,allY_cons,and_true,true_and];(repeat' refine And.intro ?_ ?_);all_goals first |(left;simp only[Dj,List.mem_cons,List.not_mem_nil,or_false,forall_eq,forall_eq_or_imp,and_true,true_and,false_imp_iff,implies_true];first |done |omega) |(right;kernel_rfl))) |(apply QQ;simp only[evA,gB,gA];exact rfl) |((first |apply QX |apply QY);(first |rfl |decide |assumption)))
  refine AWp.loop [1,3,5] (fun Γ H s' m=>∃(i q ver:Nat) (t:List Int),i≤ops.length∧m=ops.length-i∧t=(ops.take i).foldl stepF (addsF L)∧t.length≤1000000000∧Γ=(List.replicate 1 .junk)++[.ptr s 0 0]++(List.replicate 1 .junk)++[.sl q ver 0 t.length]++(List.replicate 1 .junk)++[.sc (.int .i64 (i:Nat))]++(List.replicate 39 .junk)∧H s=some (.row 0 1 [.dsl L.length (elsA L),.dsl ops.length (opsA ops),.sc (.bool b),.sc (.int .i64 x),.sc (.int .i64 y)])∧H q=some (.row ver 1 (ints t))∧s<q∧q<s'∧(∀q,s'≤q→H q=none)) ops.length ?_ ?_
  ·exact⟨0,q,ver,t,Nat.zero_le _,rfl,ht,ht9,rfl,hHs,hHq,hsq,hq1,hf⟩
  clear hHs hHq hsq hq1 hf ht ht9
  clear hlt
  rintro Γ H s2 m ⟨i,q,ver,t,hi,rfl,ht,ht9,rfl,hHs,hHq,hsq,hq1,hf⟩
  refine wA_ok hmix ctG_ok _ (by kernel_rfl) ?_
  simp(maxSteps:=1000000)only[List.replicate_succ,List.replicate_zero,List.cons_append,List.nil_append,List.append_nil]
  by_cases hlt:i<ops.length
  ·have hft:(ops.take (i+1)).foldl stepF (addsF L)=stepF t ops[i]:=by rw[foldl_take _ _ hlt,←ht]
   obtain⟨o,hoo⟩:∃o:OpT,o=ops[i]:=⟨_,rfl⟩
   have heta:(⟨ops[i].k,ops[i].h,ops[i].w,ops[i].v⟩:OpT)=o:=by rw[hoo]
   rw[←hoo]at hft
   have hsl:=stepF_le o ht9
   by_cases he:(stepE t o).1=0
   ·have hA:stepA q ver t o= .new (.row 0 1 (ints (stepF t o))) fun n=>.ret (.sl n 0 0 (stepF t o).length):=if_pos he
    repeat(first |(with_reducible first |apply Q0 |apply Q1 |apply QG |apply Q2 |apply Q3 |apply Q4 |apply Q5 |apply Q6 |apply Q7 |apply Q8 |apply Q9 |apply QA |apply QB |apply QC |apply QD |apply QE |apply QF) |((first |(with_reducible apply QK rfl) |(apply QT;simp only[go_sem]<;>exact rfl));simp(disch:=omega)only[go_sem,hf,upd_ne,hHs,hHq,cal90,ctG_90,c90,iK_ok,ht9,opsA_len,opsA_drop,heta,hA];exact rfl;simp only[sB,sA,putA];exact rfl) |((first |(with_reducible apply QL rfl) |(apply QM;simp only[go_sem]<;>exact rfl));simp(disch:=omega)only[go_sem,hf,upd_ne,hHs,hHq,cal90,ctG_90,c90,iK_ok,ht9,opsA_len,opsA_drop,heta,hA];exact rfl;simp only[sB,sA,putA];exact rfl;simp only[logT_none,logT_rd,logT_wr,List.cons_append,List.nil_append];exact rfl) |((first |apply QI |apply QN);simp only[go_sem]<;>exact rfl;simp only[sB,sA,putA];exact rfl) |(refine QO ?_ ?_;first |focus(simp only[dyn_nil,dyn_cons,allY_nil,allY_cons,dj_rr,true_or,true_and];done) |focus(simp only[dyn_nil,dyn_cons,allY_nil,allY_cons,Dj,List.mem_cons,List.not_mem_nil,or_false,forall_eq,forall_eq_or_imp,and_true,true_and,false_imp_iff,implies_true];omega) |focus(simp only[dyn_nil,dyn_cons,allY_nil,allY_cons,and_true,true_and];(repeat' refine And.intro ?_ ?_);all_goals first |(left;simp only[Dj,List.mem_cons,List.not_mem_nil,or_false,forall_eq,forall_eq_or_imp,and_true,true_and,false_imp_iff,implies_true];first |done |omega) |(right;kernel_rfl))) |(apply QQ;simp only[evA,gB,gA];exact rfl) |((first |apply QX |apply QY);(first |rfl |decide |assumption)))
    exact⟨ops.length-(i+1),by omega,i+1,_,0,stepF t o,by omega,rfl,hft.symm,hsl,rfl,by(simp(disch:=omega)only[upd_ne];exact hHs),upd_same _ _ _,by omega,by omega,fun q hq=>by(simp(disch:=omega)only[upd_ne];exact hf q (by omega))⟩
   ·have hA:stepA q ver t o= .ret (.sl q ver 0 t.length):=if_neg he
    have hF:stepF t o=t:=if_neg he
    rw[hF]at hft
    repeat(first |(with_reducible first |apply Q0 |apply Q1 |apply QG |apply Q2 |apply Q3 |apply Q4 |apply Q5 |apply Q6 |apply Q7 |apply Q8 |apply Q9 |apply QA |apply QB |apply QC |apply QD |apply QE |apply QF) |((first |(with_reducible apply QK rfl) |(apply QT;simp only[go_sem]<;>exact rfl));simp(disch:=omega)only[go_sem,hf,upd_ne,hHs,hHq,cal90,ctG_90,c90,iK_ok,ht9,opsA_len,opsA_drop,heta,hA];exact rfl;simp only[sB,sA,putA];exact rfl) |((first |(with_reducible apply QL rfl) |(apply QM;simp only[go_sem]<;>exact rfl));simp(disch:=omega)only[go_sem,hf,upd_ne,hHs,hHq,cal90,ctG_90,c90,iK_ok,ht9,opsA_len,opsA_drop,heta,hA];exact rfl;simp only[sB,sA,putA];exact rfl;simp only[logT_none,logT_rd,logT_wr,List.cons_append,List.nil_append];exact rfl) |((first |apply QI |apply QN);simp only[go_sem]<;>exact rfl;simp only[sB,sA,putA];exact rfl) |(refine QO ?_ ?_;first |focus(simp only[dyn_nil,dyn_cons,allY_nil,allY_cons,dj_rr,true_or,true_and];done) |focus(simp only[dyn_nil,dyn_cons,allY_nil,allY_cons,Dj,List.mem_cons,List.not_mem_nil,or_false,forall_eq,forall_eq_or_imp,and_true,true_and,false_imp_iff,implies_true];omega) |focus(simp only[dyn_nil,dyn_cons,allY_nil,allY_cons,and_true,true_and];(repeat' refine And.intro ?_ ?_);all_goals first |(left;simp only[Dj,List.mem_cons,List.not_mem_nil,or_false,forall_eq,forall_eq_or_imp,and_true,true_and,false_imp_iff,implies_true];first |done |omega) |(right;kernel_rfl))) |(apply QQ;simp only[evA,gB,gA];exact rfl) |((first |apply QX |apply QY);(first |rfl |decide |assumption)))
    exact⟨ops.length-(i+1),by omega,i+1,q,ver,t,by omega,rfl,hft.symm,ht9,rfl,hHs,hHq,hsq,hq1,hf⟩
  ·obtain rfl:i=ops.length:=by omega
   rw[List.take_length]at ht
   repeat(first |(with_reducible first |apply Q0 |apply Q1 |apply QG |apply Q2 |apply Q3 |apply Q4 |apply Q5 |apply Q6 |apply Q7 |apply Q8 |apply Q9 |apply QA |apply QB |apply QC |apply QD |apply QE |apply QF) |((first |(with_reducible apply QK rfl) |(apply QT;simp only[go_sem]<;>exact rfl));simp(disch:=omega)only[go_sem,hf,upd_ne,hHs];exact rfl;simp only[sB,sA,putA];exact rfl) |((first |(with_reducible apply QL rfl) |(apply QM;simp only[go_sem]<;>exact rfl));simp(disch:=omega)only[go_sem,hf,upd_ne,hHs];exact rfl;simp only[sB,sA,putA];exact rfl;simp only[logT_none,logT_rd,logT_wr,List.cons_append,List.nil_append];exact rfl) |((first |apply QI |apply QN);simp only[go_sem]<;>exact rfl;simp only[sB,sA,putA];exact rfl) |(refine QO ?_ ?_;first |focus(simp only[dyn_nil,dyn_cons,allY_nil,allY_cons,dj_rr,true_or,true_and];done) |focus(simp only[dyn_nil,dyn_cons,allY_nil,allY_cons,Dj,List.mem_cons,List.not_mem_nil,or_false,forall_eq,forall_eq_or_imp,and_true,true_and,false_imp_iff,implies_true];omega) |focus(simp only[dyn_nil,dyn_cons,allY_nil,allY_cons,and_true,true_and];(repeat' refine And.intro ?_ ?_);all_goals first |(left;simp only[Dj,List.mem_cons,List.not_mem_nil,or_false,forall_eq,forall_eq_or_imp,and_true,true_and,false_imp_iff,implies_true];first |done |omega) |(right;kernel_rfl))) |(apply QQ;simp only[evA,gB,gA];exact rfl) |((first |apply QX |apply QY);(first |rfl |decide |assumption)))
   (apply QZ;simp(disch:=omega)only[go_sem,Try.results47];exact rfl;simp only[packA];exact rfl)
   have e:madeF L ops=t:=ht.symm
   rw[e]
   exact⟨⟨q,ver,rfl,hHq⟩,ht9⟩
end Go.Proofs.Ytdcomhdadnhpnaa
end
section
namespace Go.Proofs.Ytdcomhdadnhpnaa
open Go Go.Am Go.RowKit
attribute [local irreducible] wA opsQ opsLQ thenA blockA EndA
attribute [local go_sem] put5
theorem foldl_le {β:Type} {f:List Int→β→List Int} (hf:∀t b,t.length≤1000000000→(f t b).length≤1000000000):∀(l:List β) (t:List Int),t.length≤1000000000→(l.foldl f t).length≤1000000000
 | [],t,h=>h
 |b::l,t,h=>foldl_le hf l (f t b) (hf t b h)
theorem madeF_le (L:List (Int×Int)) (ops:List OpT):(madeF L ops).length≤1000000000:=
 foldl_le (fun t o h=>stepF_le o h) ops _ (foldl_le (fun t e h=>stepF_le _ h) L _ (by unfold emptyL;exact wordsF_le _ (by simp[emptyR])))
theorem RO.mono {P:Program} {f:FuncId} {args:List AV} {R R':AV→AHp→Prop} (h:RO P f args R) (hr:∀a H,R a H→R' a H):RO P f args R':=fun w vs ha=>
 (h w vs ha).mono fun e w' ⟨v,r1,H1,ρ1,a,b,c,d⟩=>⟨v,r1,H1,ρ1,a,b,c,hr _ _ d⟩
theorem made_own (L:List (Int×Int)) (ops:List OpT) (b:Bool) (x y:Int) (hL:L.length≤9223372036854775806) (ho:ops.length≤9223372036854775806):RO Try.prog 47 [playG L ops b x y] (OwnX (some (madeF L ops))):=
 (made_ro L ops b x y hL ho).mono fun _ _ h=>h.1
theorem play_data {ρ:Inj} {H:AHp} {w:World} {L:List (Int×Int)} {ops:List OpT} {b:Bool} {x y:Int} {v:Value} (h:Rep ρ (own ρ H) w (playG L ops b x y) v):Rep ρ0 (own ρ0 H0) w (playG L ops b x y) v:=by
 have key:∀ {n:Nat} {cs:List AV} {u:Value},(∀a∈cs,∃z,a= .sc z)→Rep ρ (own ρ H) w (.dsl n cs) u→Rep ρ0 (own ρ0 H0) w (.dsl n cs) u:=by
  intro n cs u hx hu
  cases hu with
  |dnil hl=>exact .dnil hl
  |dsl h1 h2 h3 h4 h5 h6=>
   refine .dsl h1 (own0 _) h3 h4 h5 (fun i a z ha hz=>?_)
   have h7:=h6 i a z ha hz
   obtain⟨z',rfl⟩:=hx a (List.mem_of_getElem? ha)
   cases h7
   exact .sc _
 obtain⟨us,rfl,hu⟩:=Rep.agg_iff.1 h
 obtain⟨v0,t,e0,k0,hu⟩:=Reps.uncons hu
 obtain⟨v1,t1,e1,k1,hu⟩:=Reps.uncons hu
 refine Rep.agg_iff.2 ⟨us,rfl,?_⟩
 rw[e0,e1]
 refine .cons (key (fun a ha=>elsA_sc ha) k0) (.cons (key (fun a ha=>?_) k1) (reps_sc (T:=[.bool b,.int .i64 x,.int .i64 y]) hu))
 obtain⟨o,_,ha⟩:=List.mem_flatMap.1 ha
 simp at ha
 rcases ha with rfl |rfl |rfl |rfl<;>exact⟨_,rfl⟩
open Classical in
noncomputable def c47p (L:List (Int×Int)) (ops:List OpT) (b:Bool) (x y:Int) (args:List AV):AP AV:=
 if args=[playG L ops b x y]∧L.length≤9223372036854775806∧ops.length≤9223372036854775806 then .new (.row 0 1 (ints (madeF L ops))) fun n=>.ret (.sl n 0 0 (madeF L ops).length)else .fail
theorem a47p (L:List (Int×Int)) (ops:List OpT) (b:Bool) (x y:Int) (args:List AV):ACall Try.prog 47 args (c47p L ops b x y args):=by
 intro ρ H w vs hR hA s r H' s' hm
 unfold c47p at hm
 split at hm
 ·rename_i h
  obtain⟨rfl,hL,ho⟩:=h
  obtain⟨v0,rfl,hv0⟩:=reps1 hA
  exact(made_own L ops b x y hL ho).own1 hR (.cons (play_data hv0) .nil) hm
 ·simp[AP.run]at hm
noncomputable def ctH (L:List (Int×Int)) (ops:List OpT) (b:Bool) (x y:Int):CT:=fun f args=>if f=47 then c47p L ops b x y args else ctG f args
theorem ctH_ok (L:List (Int×Int)) (ops:List OpT) (b:Bool) (x y:Int):CTok Try.prog (ctH L ops b x y):=fun f args=>by
 unfold ctH
 split
 ·rename_i e;subst e;exact a47p L ops b x y args
 ·exact ctG_ok f args
theorem ctH_47 (L:List (Int×Int)) (ops:List OpT) (b:Bool) (x y:Int) (a:List AV):ctH L ops b x y 47 a=c47p L ops b x y a:=rfl
theorem cal47:callable Try.prog 47=true:=by kernel_rfl
noncomputable def bentF (L:List (Int×Int)) (ops:List OpT) (b:Bool) (x y:Int):List Int:=
 if b=true∧0≤x∧x<((madeF L ops).length:Nat)then(madeF L ops).set x.toNat y else madeF L ops
theorem bentF_le (L:List (Int×Int)) (ops:List OpT) (b:Bool) (x y:Int):(bentF L ops b x y).length≤1000000000:=by
 unfold bentF
 split
 ·rw[List.length_set];exact madeF_le L ops
 ·exact madeF_le L ops
set_option maxRecDepth 100000 in
set_option maxHeartbeats 4000000 in
theorem bent_rc (L:List (Int×Int)) (ops:List OpT) (b:Bool) (x y:Int) (hL:L.length≤9223372036854775806) (ho:ops.length≤9223372036854775806):
  RC Try.prog 33 [playG L ops b x y] (.dsl (bentF L ops b x y).length (ints (bentF L ops b x y))):=by
 refine rc_of hmix (ctH_ok L ops b x y) Try.func33 rfl (by kernel_rfl) (fun E s hs=>?_)
 simp(maxSteps:=300000)only[begA,Try.ntmps33,List.replicate_succ,List.replicate_zero,List.length_cons,List.length_nil,List.cons_append,List.nil_append]
 have hm:=madeF_le L ops
 have hc:c47p L ops b x y [playG L ops b x y]= .new (.row 0 1 (ints (madeF L ops))) fun n=>.ret (.sl n 0 0 (madeF L ops).length):=if_pos ⟨rfl,hL,ho⟩
 unfold bentF
 generalize madeF L ops=t at*
 have hil:=ints_len t
 cases b with
 |false=>
  rw[if_neg (by simp)]
  repeat(first |(with_reducible first |apply Q0 |apply Q1 |apply Q2 |apply Q3 |apply Q4 |apply Q5 |apply Q6 |apply Q7 |apply Q8 |apply Q9 |apply QA |apply QB |apply QC |apply QD |apply QE |apply QF) |((first |(with_reducible apply QK rfl) |(apply QT;simp only[go_sem]<;>exact rfl));simp(disch:=omega)only[go_sem,hs,upd_ne,cal47,ctH_47,hc];exact rfl;simp only[sB,sA,putA];exact rfl) |(apply QI;simp only[go_sem]<;>exact rfl;simp only[sB,sA,putA];exact rfl) |(apply QQ;simp only[evA,gB,gA];exact rfl) |((first |apply QX |apply QY);(first |rfl |decide |assumption)))
  (apply QZ;simp(disch:=omega)only[go_sem,Try.results33];exact rfl;simp only[packA];exact rfl)
  exact Exp.ints (by simp(disch:=omega)only[upd_same,upd_ne])
 |true=>
  by_cases h0:0≤x
  ·by_cases h1:x<(t.length:Nat)
   ·rw[if_pos ⟨rfl,h0,h1⟩]
    obtain⟨i,hi⟩:∃i:Nat,x=(i:Int):=⟨x.toNat,by omega⟩
    subst hi
    have hit:i<t.length:=by omega
    rw[Int.toNat_natCast,List.length_set]
    repeat(first |(with_reducible first |apply Q0 |apply Q1 |apply Q2 |apply Q3 |apply Q4 |apply Q5 |apply Q6 |apply Q7 |apply Q8 |apply Q9 |apply QA |apply QB |apply QC |apply QD |apply QE |apply QF) |((first |(with_reducible apply QK rfl) |(apply QT;simp only[go_sem]<;>exact rfl));simp(disch:=omega)only[go_sem,hs,upd_ne,cal47,ctH_47,hc,hil,ints_set];exact rfl;simp only[sB,sA,putA];exact rfl) |(apply QI;simp only[go_sem]<;>exact rfl;simp only[sB,sA,putA];exact rfl) |(apply QQ;simp only[evA,gB,gA];exact rfl) |((first |apply QX |apply QY);(first |rfl |decide |assumption)))
    (apply QZ;simp(disch:=omega)only[go_sem,Try.results33];exact rfl;simp only[packA];exact rfl)
    exact Exp.ints (by simp(disch:=omega)only[upd_same,upd_ne])
   ·rw[if_neg (fun h=>h1 h.2.2)]
    repeat(first |(with_reducible first |apply Q0 |apply Q1 |apply Q2 |apply Q3 |apply Q4 |apply Q5 |apply Q6 |apply Q7 |apply Q8 |apply Q9 |apply QA |apply QB |apply QC |apply QD |apply QE |apply QF) |((first |(with_reducible apply QK rfl) |(apply QT;simp only[go_sem]<;>exact rfl));simp(disch:=omega)only[go_sem,hs,upd_ne,cal47,ctH_47,hc,h0,h1];exact rfl;simp only[sB,sA,putA];exact rfl) |(apply QI;simp only[go_sem]<;>exact rfl;simp only[sB,sA,putA];exact rfl) |(apply QQ;simp only[evA,gB,gA];exact rfl) |((first |apply QX |apply QY);(first |rfl |decide |assumption)))
    (apply QZ;simp(disch:=omega)only[go_sem,Try.results33];exact rfl;simp only[packA];exact rfl)
    exact Exp.ints (by simp(disch:=omega)only[upd_same,upd_ne])
  ·rw[if_neg (fun h=>h0 h.2.1)]
   repeat(first |(with_reducible first |apply Q0 |apply Q1 |apply Q2 |apply Q3 |apply Q4 |apply Q5 |apply Q6 |apply Q7 |apply Q8 |apply Q9 |apply QA |apply QB |apply QC |apply QD |apply QE |apply QF) |((first |(with_reducible apply QK rfl) |(apply QT;simp only[go_sem]<;>exact rfl));simp(disch:=omega)only[go_sem,hs,upd_ne,cal47,ctH_47,hc,h0];exact rfl;simp only[sB,sA,putA];exact rfl) |(apply QI;simp only[go_sem]<;>exact rfl;simp only[sB,sA,putA];exact rfl) |(apply QQ;simp only[evA,gB,gA];exact rfl) |((first |apply QX |apply QY);(first |rfl |decide |assumption)))
   (apply QZ;simp(disch:=omega)only[go_sem,Try.results33];exact rfl;simp only[packA];exact rfl)
   exact Exp.ints (by simp(disch:=omega)only[upd_same,upd_ne])
set_option maxRecDepth 100000 in
set_option maxHeartbeats 4000000 in
theorem small_rc (L:List (Int×Int)) (ops:List OpT) (b:Bool) (x y:Int):
  RC Try.prog 32 [playG L ops b x y] (.sc (.bool (decide (L.length≤300∧ops.length≤300)))):=by
 refine rc_of hmix ctG_ok Try.func32 rfl (by kernel_rfl) (fun E s hs=>?_)
 simp(maxSteps:=300000)only[begA,Try.ntmps32,List.replicate_succ,List.replicate_zero,List.length_cons,List.length_nil,List.cons_append,List.nil_append]
 by_cases h1:L.length≤300
 ·by_cases h2:ops.length≤300
  ·rw[decide_eq_true (show L.length≤300∧ops.length≤300 from⟨h1,h2⟩)]
   repeat(first |(with_reducible first |apply Q0 |apply Q1 |apply Q2 |apply Q3 |apply Q4 |apply Q5 |apply Q6 |apply Q7 |apply Q8 |apply Q9 |apply QA |apply QB |apply QC |apply QD |apply QE |apply QF) |((first |(with_reducible apply QK rfl) |(apply QT;simp only[go_sem]<;>exact rfl));simp(disch:=omega)only[go_sem,hs,upd_ne];exact rfl;simp only[sB,sA,putA];exact rfl) |(apply QI;simp only[go_sem]<;>exact rfl;simp only[sB,sA,putA];exact rfl) |(apply QQ;simp only[evA,gB,gA];exact rfl) |((first |apply QX |apply QY);(first |rfl |decide |assumption)))
   (apply QZ;simp(disch:=omega)only[go_sem,Try.results32];exact rfl;simp only[packA];exact rfl)
   exact .sc _
  ·rw[decide_eq_false (fun h=>h2 h.2)]
   repeat(first |(with_reducible first |apply Q0 |apply Q1 |apply Q2 |apply Q3 |apply Q4 |apply Q5 |apply Q6 |apply Q7 |apply Q8 |apply Q9 |apply QA |apply QB |apply QC |apply QD |apply QE |apply QF) |((first |(with_reducible apply QK rfl) |(apply QT;simp only[go_sem]<;>exact rfl));simp(disch:=omega)only[go_sem,hs,upd_ne];exact rfl;simp only[sB,sA,putA];exact rfl) |(apply QI;simp only[go_sem]<;>exact rfl;simp only[sB,sA,putA];exact rfl) |(apply QQ;simp only[evA,gB,gA];exact rfl) |((first |apply QX |apply QY);(first |rfl |decide |assumption)))
   (apply QZ;simp(disch:=omega)only[go_sem,Try.results32];exact rfl;simp only[packA];exact rfl)
   exact .sc _
 ·rw[decide_eq_false (fun h=>h1 h.1)]
  repeat(first |(with_reducible first |apply Q0 |apply Q1 |apply Q2 |apply Q3 |apply Q4 |apply Q5 |apply Q6 |apply Q7 |apply Q8 |apply Q9 |apply QA |apply QB |apply QC |apply QD |apply QE |apply QF) |((first |(with_reducible apply QK rfl) |(apply QT;simp only[go_sem]<;>exact rfl));simp(disch:=omega)only[go_sem,hs,upd_ne];exact rfl;simp only[sB,sA,putA];exact rfl) |(apply QI;simp only[go_sem]<;>exact rfl;simp only[sB,sA,putA];exact rfl) |(apply QQ;simp only[evA,gB,gA];exact rfl) |((first |apply QX |apply QY);(first |rfl |decide |assumption)))
  (apply QZ;simp(disch:=omega)only[go_sem,Try.results32];exact rfl;simp only[packA];exact rfl)
  exact .sc _
end Go.Proofs.Ytdcomhdadnhpnaa
end
