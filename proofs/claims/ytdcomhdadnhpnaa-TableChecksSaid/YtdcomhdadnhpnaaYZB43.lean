import Derived.Test.YtdcomhdadnhpnaaYZB54
import Derived.Test.YtdcomhdadnhpnaaYZB55
import Derived.Test.YtdcomhdadnhpnaaYZC4
import Derived.Test.YtdcomhdadnhpnaaYZP5
set_option linter.all false
namespace Go.Proofs.Ytdcomhdadnhpnaa
open Go Go.Am Go.RowKit
attribute [local irreducible] wA opsQ opsLQ thenA blockA EndA
attribute [local go_sem] Try.underlying24 Try.underlying36 Try.underlying44 sz91 ze91 by91 ag91 fo91_0 bu91 Try.underlying91 sz92 ze92 by92 ag92 Try.underlying92 Try.underlying94 sz102 ze102 by102 ag102 fo102_0 fo102_1 bu102 Try.underlying102 Try.underlying106
attribute [local go_sem] put5
set_option maxRecDepth 100000 in
set_option maxHeartbeats 1000000 in
theorem elems_call (L M:List (Int×Int)) (hL:L.length≤100000) (hM:M.length≤100000):
  ACall Try.prog 31 [.dsl L.length (elsA L),.dsl M.length (elsA M)] (.ret (.sc (.bool (decide (L=M))))):=by
 refine acall_pure' hmix (ct:=noCT) noCT_ok Try.func31 rfl (by kernel_rfl) (fun E s hs=>?_)
 simp(maxSteps:=300000)only[begA,Try.ntmps31,List.replicate_succ,List.replicate_zero,List.length_cons,List.length_nil,List.cons_append,List.nil_append]
 by_cases hne:L.length=M.length
 ·repeat(first |(with_reducible first |apply Q0 |apply Q1 |apply QG |apply Q2 |apply Q3 |apply Q4 |apply Q5 |apply Q6 |apply Q7 |apply Q8 |apply Q9 |apply QA |apply QB |apply QC |apply QD |apply QE |apply QF) |((first |(with_reducible apply QK rfl) |(apply QT;simp only[go_sem]<;>exact rfl));simp(disch:=omega)only[go_sem];exact rfl;simp only[sB,sA,putA];exact rfl) |((first |(with_reducible apply QL rfl) |(apply QM;simp only[go_sem]<;>exact rfl));simp(disch:=omega)only[go_sem];exact rfl;simp only[sB,sA,putA];exact rfl;simp only[logT_none,logT_rd,logT_wr,List.cons_append,List.nil_append];exact rfl) |((first |apply QI |apply QN);simp only[go_sem]<;>exact rfl;simp only[sB,sA,putA];exact rfl) |(refine QO ?_ ?_;first |focus(simp only[dyn_nil,dyn_cons,allY_nil,allY_cons,dj_rr,true_or,true_and];done) |focus(simp only[dyn_nil,dyn_cons,allY_nil,allY_cons,Dj,List.mem_cons,List.not_mem_nil,or_false,forall_eq,forall_eq_or_imp,and_true,true_and,false_imp_iff,implies_true];omega) |focus(simp only[dyn_nil,dyn_cons,allY_nil,allY_cons,and_true,true_and];(repeat' refine And.intro ?_ ?_);all_goals first |(left;simp only[Dj,List.mem_cons,List.not_mem_nil,or_false,forall_eq,forall_eq_or_imp,and_true,true_and,false_imp_iff,implies_true];first |done |omega) |(right;kernel_rfl))) |(apply QQ;simp only[evA,gB,gA];exact rfl) |((first |apply QX |apply QY);(first |rfl |decide |assumption)))
  refine AWp.loop [0,1,5] (fun Γ H s' m=>∃j:Nat,j≤L.length∧m=L.length-j∧Γ=[.dsl L.length (elsA L),.dsl M.length (elsA M)]++(List.replicate 3 .junk)++[.sc (.int .i64 (j:Nat))]++(List.replicate 20 .junk)∧H=E.H∧∀i (h1:i<j) (h2:i<L.length) (h3:i<M.length),L[i]=M[i]) L.length ?_ ?_
  ·exact⟨0,Nat.zero_le _,rfl,rfl,rfl,fun i h=>absurd h (by omega)⟩
  rintro Γ H s1 m ⟨j,hj,rfl,rfl,rfl,hI⟩
  refine wA_ok hmix noCT_ok _ (by kernel_rfl) ?_
  simp(maxSteps:=1000000)only[List.replicate_succ,List.replicate_zero,List.cons_append,List.nil_append,List.append_nil]
  by_cases hlt:j<L.length
  ·have hlt2:j<M.length:=by omega
   by_cases he:L[j]=M[j]
   ·have he1:L[j].1=M[j].1∧L[j].2=M[j].2:=by rw[he];exact⟨rfl,rfl⟩
    repeat(first |(with_reducible first |apply Q0 |apply Q1 |apply QG |apply Q2 |apply Q3 |apply Q4 |apply Q5 |apply Q6 |apply Q7 |apply Q8 |apply Q9 |apply QA |apply QB |apply QC |apply QD |apply QE |apply QF) |((first |(with_reducible apply QK rfl) |(apply QT;simp only[go_sem]<;>exact rfl));simp(disch:=omega)only[go_sem,elsA_len,elsA_drop,bin_neq43,he1.1,he1.2];exact rfl;simp only[sB,sA,putA];exact rfl) |((first |(with_reducible apply QL rfl) |(apply QM;simp only[go_sem]<;>exact rfl));simp(disch:=omega)only[go_sem,elsA_len,elsA_drop,bin_neq43,he1.1,he1.2];exact rfl;simp only[sB,sA,putA];exact rfl;simp only[logT_none,logT_rd,logT_wr,List.cons_append,List.nil_append];exact rfl) |((first |apply QI |apply QN);simp only[go_sem]<;>exact rfl;simp only[sB,sA,putA];exact rfl) |(refine QO ?_ ?_;first |focus(simp only[dyn_nil,dyn_cons,allY_nil,allY_cons,dj_rr,true_or,true_and];done) |focus(simp only[dyn_nil,dyn_cons,allY_nil,allY_cons,Dj,List.mem_cons,List.not_mem_nil,or_false,forall_eq,forall_eq_or_imp,and_true,true_and,false_imp_iff,implies_true];omega) |focus(simp only[dyn_nil,dyn_cons,allY_nil,allY_cons,and_true,true_and];(repeat' refine And.intro ?_ ?_);all_goals first |(left;simp only[Dj,List.mem_cons,List.not_mem_nil,or_false,forall_eq,forall_eq_or_imp,and_true,true_and,false_imp_iff,implies_true];first |done |omega) |(right;kernel_rfl))) |(apply QQ;simp only[evA,gB,gA];exact rfl) |((first |apply QX |apply QY);(first |rfl |decide |assumption)))
    refine⟨L.length-(j+1),by omega,j+1,by omega,rfl,rfl,rfl,fun i h1 h2 h3=>?_⟩
    by_cases e:i=j
    ·subst e;exact he
    ·exact hI i (by omega) h2 h3
   ·have he1:¬(L[j].1=M[j].1∧L[j].2=M[j].2):=fun h=>he (Prod.ext h.1 h.2)
    repeat(first |(with_reducible first |apply Q0 |apply Q1 |apply QG |apply Q2 |apply Q3 |apply Q4 |apply Q5 |apply Q6 |apply Q7 |apply Q8 |apply Q9 |apply QA |apply QB |apply QC |apply QD |apply QE |apply QF) |((first |(with_reducible apply QK rfl) |(apply QT;simp only[go_sem]<;>exact rfl));simp(disch:=omega)only[go_sem,elsA_len,elsA_drop,bin_neq43,he1];exact rfl;simp only[sB,sA,putA];exact rfl) |((first |(with_reducible apply QL rfl) |(apply QM;simp only[go_sem]<;>exact rfl));simp(disch:=omega)only[go_sem,elsA_len,elsA_drop,bin_neq43,he1];exact rfl;simp only[sB,sA,putA];exact rfl;simp only[logT_none,logT_rd,logT_wr,List.cons_append,List.nil_append];exact rfl) |((first |apply QI |apply QN);simp only[go_sem]<;>exact rfl;simp only[sB,sA,putA];exact rfl) |(refine QO ?_ ?_;first |focus(simp only[dyn_nil,dyn_cons,allY_nil,allY_cons,dj_rr,true_or,true_and];done) |focus(simp only[dyn_nil,dyn_cons,allY_nil,allY_cons,Dj,List.mem_cons,List.not_mem_nil,or_false,forall_eq,forall_eq_or_imp,and_true,true_and,false_imp_iff,implies_true];omega) |focus(simp only[dyn_nil,dyn_cons,allY_nil,allY_cons,and_true,true_and];(repeat' refine And.intro ?_ ?_);all_goals first |(left;simp only[Dj,List.mem_cons,List.not_mem_nil,or_false,forall_eq,forall_eq_or_imp,and_true,true_and,false_imp_iff,implies_true];first |done |omega) |(right;kernel_rfl))) |(apply QQ;simp only[evA,gB,gA];exact rfl) |((first |apply QX |apply QY);(first |rfl |decide |assumption)))
    (apply QZ;simp only[aRes,Try.results31,List.toList_toArray,List.getD_cons_succ,List.getD_cons_zero];exact rfl;simp only[packA];exact rfl)
    have:decide (L=M)=false:=by
     refine decide_eq_false fun e=>he ?_
     subst e;rfl
    rw[this]
    exact⟨fun _ _=>rfl,Pub.sc _⟩
  ·repeat(first |(with_reducible first |apply Q0 |apply Q1 |apply QG |apply Q2 |apply Q3 |apply Q4 |apply Q5 |apply Q6 |apply Q7 |apply Q8 |apply Q9 |apply QA |apply QB |apply QC |apply QD |apply QE |apply QF) |((first |(with_reducible apply QK rfl) |(apply QT;simp only[go_sem]<;>exact rfl));simp(disch:=omega)only[go_sem];exact rfl;simp only[sB,sA,putA];exact rfl) |((first |(with_reducible apply QL rfl) |(apply QM;simp only[go_sem]<;>exact rfl));simp(disch:=omega)only[go_sem];exact rfl;simp only[sB,sA,putA];exact rfl;simp only[logT_none,logT_rd,logT_wr,List.cons_append,List.nil_append];exact rfl) |((first |apply QI |apply QN);simp only[go_sem]<;>exact rfl;simp only[sB,sA,putA];exact rfl) |(refine QO ?_ ?_;first |focus(simp only[dyn_nil,dyn_cons,allY_nil,allY_cons,dj_rr,true_or,true_and];done) |focus(simp only[dyn_nil,dyn_cons,allY_nil,allY_cons,Dj,List.mem_cons,List.not_mem_nil,or_false,forall_eq,forall_eq_or_imp,and_true,true_and,false_imp_iff,implies_true];omega) |focus(simp only[dyn_nil,dyn_cons,allY_nil,allY_cons,and_true,true_and];(repeat' refine And.intro ?_ ?_);all_goals first |(left;simp only[Dj,List.mem_cons,List.not_mem_nil,or_false,forall_eq,forall_eq_or_imp,and_true,true_and,false_imp_iff,implies_true];first |done |omega) |(right;kernel_rfl))) |(apply QQ;simp only[evA,gB,gA];exact rfl) |((first |apply QX |apply QY);(first |rfl |decide |assumption)))
   (apply QZ;simp only[aRes,Try.results31,List.toList_toArray,List.getD_cons_succ,List.getD_cons_zero];exact rfl;simp only[packA];exact rfl)
   have:decide (L=M)=true:=decide_eq_true (List.ext_getElem hne (fun i h1 h2=>hI i (by omega) h1 h2))
   rw[this]
   exact⟨fun _ _=>rfl,Pub.sc _⟩
 ·repeat(first |(with_reducible first |apply Q0 |apply Q1 |apply QG |apply Q2 |apply Q3 |apply Q4 |apply Q5 |apply Q6 |apply Q7 |apply Q8 |apply Q9 |apply QA |apply QB |apply QC |apply QD |apply QE |apply QF) |((first |(with_reducible apply QK rfl) |(apply QT;simp only[go_sem]<;>exact rfl));simp(disch:=omega)only[go_sem];exact rfl;simp only[sB,sA,putA];exact rfl) |((first |(with_reducible apply QL rfl) |(apply QM;simp only[go_sem]<;>exact rfl));simp(disch:=omega)only[go_sem];exact rfl;simp only[sB,sA,putA];exact rfl;simp only[logT_none,logT_rd,logT_wr,List.cons_append,List.nil_append];exact rfl) |((first |apply QI |apply QN);simp only[go_sem]<;>exact rfl;simp only[sB,sA,putA];exact rfl) |(refine QO ?_ ?_;first |focus(simp only[dyn_nil,dyn_cons,allY_nil,allY_cons,dj_rr,true_or,true_and];done) |focus(simp only[dyn_nil,dyn_cons,allY_nil,allY_cons,Dj,List.mem_cons,List.not_mem_nil,or_false,forall_eq,forall_eq_or_imp,and_true,true_and,false_imp_iff,implies_true];omega) |focus(simp only[dyn_nil,dyn_cons,allY_nil,allY_cons,and_true,true_and];(repeat' refine And.intro ?_ ?_);all_goals first |(left;simp only[Dj,List.mem_cons,List.not_mem_nil,or_false,forall_eq,forall_eq_or_imp,and_true,true_and,false_imp_iff,implies_true];first |done |omega) |(right;kernel_rfl))) |(apply QQ;simp only[evA,gB,gA];exact rfl) |((first |apply QX |apply QY);(first |rfl |decide |assumption)))
  (apply QZ;simp only[aRes,Try.results31,List.toList_toArray,List.getD_cons_succ,List.getD_cons_zero];exact rfl;simp only[packA];exact rfl)
  have:decide (L=M)=false:=decide_eq_false (fun e=>hne (by rw[e]))
  rw[this]
  exact⟨fun _ _=>rfl,Pub.sc _⟩
def rdE (a:AV) (k:List (Int×Int)→AP AV):AP AV:=match a with
 | .dsl len cells=>match elsOf cells with
   |some L=>if L.length=len then k L else .fail
   |none=>.fail
 | .sc (.slice none 0 0)=>k []
 |_=>.fail
theorem rdE_dsl (L:List (Int×Int)) (k:List (Int×Int)→AP AV):rdE (.dsl L.length (elsA L)) k=k L:=by
 unfold rdE;simp only[elsOf_elsA,if_true]
theorem rdE_ok {ρ:Inj} {H H':AHp} {w:World} {a r:AV} {v:Value} {k:List (Int×Int)→AP AV} {s s':Nat} {O:Nat→Prop} (hr:Rep ρ O w a v) (hm:(rdE a k).run H s=some (r,H',s')):
  ∃L,Rep ρ O w (.dsl L.length (elsA L)) v∧(k L).run H s=some (r,H',s'):=by
 unfold rdE at hm
 split at hm
 ·rename_i len cells
  split at hm
  ·rename_i L hL
   split at hm
   ·rename_i e
    subst e
    rw[elsOf_some hL]at hr
    exact⟨L,hr,hm⟩
   ·simp[AP.run]at hm
  ·simp[AP.run]at hm
 ·exact⟨[],Wk.nil _ _ _ _ hr,hm⟩
 ·simp[AP.run]at hm
theorem natsK (c:List Nat) (k:List Int→AP AV):rdK (.dsl c.length (natsA c)) k=k (c.map fun r:Nat=>(r:Int)):=by
 have:(c.map fun r:Nat=>(r:Int)).length=c.length:=by simp
 rw[←this,rdK_dsl]
theorem ctT_36 (a:List AV):ctT 36 a=c36 a:=rfl
theorem cal36':callable Try.prog 36=true:=by kernel_rfl
set_option maxRecDepth 100000 in
set_option maxHeartbeats 4000000 in
theorem chains_rc (chs:List (List Nat)) (hn:chs.length≤1000000) (hc:∀c∈chs,c.length≤1000000):
  RC Try.prog 94 [.dsl chs.length (rowsN chs),.dsl chs.length (rowsN chs)] (.sc (.bool true)):=by
 refine rc_of hmix ctT_ok Try.func94 rfl (by kernel_rfl) (fun E s hs=>?_)
 simp(maxSteps:=300000)only[begA,Try.ntmps94,List.replicate_succ,List.replicate_zero,List.length_cons,List.length_nil,List.cons_append,List.nil_append]
 have hcn:(rowsN chs).length=chs.length:=rowsN_len _
 repeat(first |(with_reducible first |apply Q0 |apply Q1 |apply Q2 |apply Q3 |apply Q4 |apply Q5 |apply Q6 |apply Q7 |apply Q8 |apply Q9 |apply QA |apply QB |apply QC |apply QD |apply QE |apply QF) |((first |(with_reducible apply QK rfl) |(apply QT;simp only[go_sem]<;>exact rfl));simp(disch:=omega)only[go_sem,hs,upd_ne];exact rfl;simp only[sB,sA,putA];exact rfl) |(apply QI;simp only[go_sem]<;>exact rfl;simp only[sB,sA,putA];exact rfl) |(apply QQ;simp only[evA,gB,gA];exact rfl) |((first |apply QX |apply QY);(first |rfl |decide |assumption)))
 refine AWp.loop [0,1,5] (fun Γ H s' m=>∃k:Nat,k≤chs.length∧m=chs.length-k∧Γ=[.dsl chs.length (rowsN chs),.dsl chs.length (rowsN chs)]++(List.replicate 3 .junk)++[.sc (.int .i64 (k:Nat))]++(List.replicate 21 .junk)∧(∀q,s'≤q→H q=none)) chs.length ?_ ?_
 ·exact⟨0,Nat.zero_le _,rfl,rfl,fun q hq=>hs q⟩
 rintro Γ H s1 m ⟨k,hk,rfl,rfl,hf⟩
 refine wA_ok hmix ctT_ok _ (by kernel_rfl) ?_
 simp(maxSteps:=1000000)only[List.replicate_succ,List.replicate_zero,List.cons_append,List.nil_append,List.append_nil]
 by_cases hlt:k<chs.length
 ·obtain⟨c,hcc⟩:∃c,chs[k]=c:=⟨_,rfl⟩
  have hcx:(rowsN chs)[k]? =some (.dsl c.length (natsA c)):=by rw[←hcc];simp[rowsN,hlt]
  have hcl:c.length≤1000000:=by rw[←hcc];exact hc _ (List.getElem_mem hlt)
  have hml:(c.map fun r:Nat=>(r:Int)).length≤1000000000:=by rw[List.length_map];omega
  repeat(first |(with_reducible first |apply Q0 |apply Q1 |apply QG |apply Q2 |apply Q3 |apply Q4 |apply Q5 |apply Q6 |apply Q7 |apply Q8 |apply Q9 |apply QA |apply QB |apply QC |apply QD |apply QE |apply QF) |((first |(with_reducible apply QK rfl) |(apply QT;simp only[go_sem]<;>exact rfl));simp(disch:=omega)only[go_sem,hf,upd_ne,hcn,hcx,cal36',ctT_36,c36,natsK,hml];exact rfl;simp only[sB,sA,putA];exact rfl) |((first |(with_reducible apply QL rfl) |(apply QM;simp only[go_sem]<;>exact rfl));simp(disch:=omega)only[go_sem,hf,upd_ne,hcn,hcx,cal36',ctT_36,c36,natsK,hml];exact rfl;simp only[sB,sA,putA];exact rfl;simp only[logT_none,logT_rd,logT_wr,List.cons_append,List.nil_append];exact rfl) |((first |apply QI |apply QN);simp only[go_sem]<;>exact rfl;simp only[sB,sA,putA];exact rfl) |(refine QO ?_ ?_;first |focus(simp only[dyn_nil,dyn_cons,allY_nil,allY_cons,dj_rr,true_or,true_and];done) |focus(simp only[dyn_nil,dyn_cons,allY_nil,allY_cons,Dj,List.mem_cons,List.not_mem_nil,or_false,forall_eq,forall_eq_or_imp,and_true,true_and,false_imp_iff,implies_true];omega) |focus(simp only[dyn_nil,dyn_cons,allY_nil,allY_cons,and_true,true_and];(repeat' refine And.intro ?_ ?_);all_goals first |(left;simp only[Dj,List.mem_cons,List.not_mem_nil,or_false,forall_eq,forall_eq_or_imp,and_true,true_and,false_imp_iff,implies_true];first |done |omega) |(right;kernel_rfl))) |(apply QQ;simp only[evA,gB,gA];exact rfl) |((first |apply QX |apply QY);(first |rfl |decide |assumption)))
  exact⟨chs.length-(k+1),by omega,k+1,by omega,rfl,rfl,hf⟩
 ·obtain rfl:k=chs.length:=by omega
  repeat(first |(with_reducible first |apply Q0 |apply Q1 |apply QG |apply Q2 |apply Q3 |apply Q4 |apply Q5 |apply Q6 |apply Q7 |apply Q8 |apply Q9 |apply QA |apply QB |apply QC |apply QD |apply QE |apply QF) |((first |(with_reducible apply QK rfl) |(apply QT;simp only[go_sem]<;>exact rfl));simp(disch:=omega)only[go_sem,hf,upd_ne,hcn];exact rfl;simp only[sB,sA,putA];exact rfl) |((first |(with_reducible apply QL rfl) |(apply QM;simp only[go_sem]<;>exact rfl));simp(disch:=omega)only[go_sem,hf,upd_ne,hcn];exact rfl;simp only[sB,sA,putA];exact rfl;simp only[logT_none,logT_rd,logT_wr,List.cons_append,List.nil_append];exact rfl) |((first |apply QI |apply QN);simp only[go_sem]<;>exact rfl;simp only[sB,sA,putA];exact rfl) |(refine QO ?_ ?_;first |focus(simp only[dyn_nil,dyn_cons,allY_nil,allY_cons,dj_rr,true_or,true_and];done) |focus(simp only[dyn_nil,dyn_cons,allY_nil,allY_cons,Dj,List.mem_cons,List.not_mem_nil,or_false,forall_eq,forall_eq_or_imp,and_true,true_and,false_imp_iff,implies_true];omega) |focus(simp only[dyn_nil,dyn_cons,allY_nil,allY_cons,and_true,true_and];(repeat' refine And.intro ?_ ?_);all_goals first |(left;simp only[Dj,List.mem_cons,List.not_mem_nil,or_false,forall_eq,forall_eq_or_imp,and_true,true_and,false_imp_iff,implies_true];first |done |omega) |(right;kernel_rfl))) |(apply QQ;simp only[evA,gB,gA];exact rfl) |((first |apply QX |apply QY);(first |rfl |decide |assumption)))
  (apply QZ;simp(disch:=omega)only[go_sem,Try.results94];exact rfl;simp only[packA];exact rfl)
  exact .sc _
def c31:List AV→AP AV
 | [a,b]=>rdE a fun L=>rdE b fun M=>if L.length≤100000∧M.length≤100000 then .ret (.sc (.bool (decide (L=M))))else .fail
 |_=>.fail
theorem a31 (args:List AV):ACall Try.prog 31 args (c31 args):=by
 intro ρ H w vs hR hA s r H' s' hm
 unfold c31 at hm
 split at hm
 ·obtain⟨v0,v1,rfl,hv0,hv1⟩:=reps2 hA
  obtain⟨L,hr,hm⟩:=rdE_ok hv0 hm
  obtain⟨M,hr2,hm⟩:=rdE_ok hv1 hm
  split at hm
  ·rename_i hle
   exact elems_call L M hle.1 hle.2 ρ H w _ hR (.cons hr (.cons hr2 .nil)) s r H' s' hm
  ·simp[AP.run]at hm
 ·simp[AP.run]at hm
noncomputable def c93:List AV→AP AV
 | [t]=>rdK t fun l=>if l.length≤1000000000 then .ret (.tup [.dsl (slotsF l).1.length (ints (slotsF l).1),.sc (.int .i64 (slotsF l).2)])else .fail
 |_=>.fail
theorem a93 (args:List AV):ACall Try.prog 93 args (c93 args):=by
 intro ρ H w vs hR hA s r H' s' hm
 unfold c93 at hm
 split at hm
 ·obtain⟨v0,rfl,hv0⟩:=reps1 hA
  obtain⟨l,hr,hm⟩:=rdK_data hR hv0 hm
  split at hm
  ·rename_i hc
   simp only[AP.run,Option.some.injEq,Prod.mk.injEq]at hm
   obtain⟨rfl,rfl,rfl⟩:=hm
   exact(rslots_rc l hc).acall hR (.cons hr .nil)
  ·simp[AP.run]at hm
 ·simp[AP.run]at hm
open Classical in
noncomputable def c94:List AV→AP AV
 | [a,b]=>rdC a fun x=>rdC b fun y=>if x=y∧x.length≤1000000∧∀c∈x,c.length≤1000000 then .ret (.sc (.bool true))else .fail
 |_=>.fail
theorem a94 (args:List AV):ACall Try.prog 94 args (c94 args):=by
 intro ρ H w vs hR hA s r H' s' hm
 unfold c94 at hm
 split at hm
 ·obtain⟨v0,v1,rfl,hv0,hv1⟩:=reps2 hA
  obtain⟨x,hr,hm⟩:=rdC_data hR hv0 hm
  obtain⟨y,hr2,hm⟩:=rdC_data hR hv1 hm
  split at hm
  ·rename_i hc
   obtain⟨rfl,h1,h2⟩:=hc
   simp only[AP.run,Option.some.injEq,Prod.mk.injEq]at hm
   obtain⟨rfl,rfl,rfl⟩:=hm
   exact(chains_rc x h1 h2).acall hR (.cons hr (.cons hr2 .nil))
  ·simp[AP.run]at hm
 ·simp[AP.run]at hm
open Classical in
noncomputable def c95:List AV→AP AV
 | [t]=>rdT t fun recs chs=>if WOK recs chs then .ret (.dsl (ordX recs chs).length (elsA (ordX recs chs)))else .fail
 |_=>.fail
theorem a95 (args:List AV):ACall Try.prog 95 args (c95 args):=by
 intro ρ H w vs hR hA s r H' s' hm
 unfold c95 at hm
 split at hm
 ·obtain⟨v0,rfl,hv0⟩:=reps1 hA
  obtain⟨recs,chs,hr,hm⟩:=rdT_data hR hv0 hm
  split at hm
  ·rename_i hc
   simp only[AP.run,Option.some.injEq,Prod.mk.injEq]at hm
   obtain⟨rfl,rfl,rfl⟩:=hm
   exact(rord_rc recs chs hc).acall hR (.cons hr .nil)
  ·simp[AP.run]at hm
 ·simp[AP.run]at hm
noncomputable def ctChk:CT:=fun f args=>if f=78 then c78 args else if f=45 then c45 args else if f=28 then c28 args else if f=54 then c54 args else if f=93 then c93 args else if f=94 then c94 args else if f=95 then c95 args else if f=31 then c31 args else ctT f args
theorem ctChk_ok:CTok Try.prog ctChk:=fun f args=>by
 unfold ctChk
 split
 ·rename_i e;subst e;exact a78 args
 split
 ·rename_i e;subst e;exact a45 args
 split
 ·rename_i e;subst e;exact a28 args
 split
 ·rename_i e;subst e;exact a54 args
 split
 ·rename_i e;subst e;exact a93 args
 split
 ·rename_i e;subst e;exact a94 args
 split
 ·rename_i e;subst e;exact a95 args
 split
 ·rename_i e;subst e;exact a31 args
 ·exact ctT_ok f args
section
variable (a:List AV)
theorem ctChk_25:ctChk 25 a=c25 a:=rfl
theorem ctChk_28:ctChk 28 a=c28 a:=rfl
theorem ctChk_31:ctChk 31 a=c31 a:=rfl
theorem ctChk_36:ctChk 36 a=c36 a:=rfl
theorem ctChk_45:ctChk 45 a=c45 a:=rfl
theorem ctChk_54:ctChk 54 a=c54 a:=rfl
theorem ctChk_62:ctChk 62 a=c62 a:=rfl
theorem ctChk_78:ctChk 78 a=c78 a:=rfl
theorem ctChk_93:ctChk 93 a=c93 a:=rfl
theorem ctChk_94:ctChk 94 a=c94 a:=rfl
theorem ctChk_95:ctChk 95 a=c95 a:=rfl
end
theorem hcal25:callable Try.prog 25=true:=by kernel_rfl
theorem hcal28:callable Try.prog 28=true:=by kernel_rfl
theorem hcal31:callable Try.prog 31=true:=by kernel_rfl
theorem hcal93:callable Try.prog 93=true:=by kernel_rfl
theorem hcal94:callable Try.prog 94=true:=by kernel_rfl
theorem hcal95:callable Try.prog 95=true:=by kernel_rfl
theorem rowsA_chains (l:List Int):rowsA (chainsF l)=rowsN (chsT l):=by
 unfold rowsA chainsF rowsN chsT natsA
 rw[List.map_map,List.map_map]
 refine List.map_congr_left fun i _=>?_
 simp
theorem chainsF_len (l:List Int):(chainsF l).length=(chsT l).length:=by simp[chainsF,chsT]
theorem ordX_ord {l:List Int} (hV:ValidL l):ordX (recsT l) (chsT l)=ordF l:=by
 rw[ordF_flat]
 unfold ordX
 refine List.map_congr_left fun r hr=>?_
 obtain⟨c,hc,hr⟩:=List.mem_flatten.1 hr
 have:=(wok_valid hV).r c hc r hr
 rw[show(recsT l).length=tabN l from recsF_len l _]at this
 exact recsT_get this
set_option maxRecDepth 100000 in
set_option maxHeartbeats 4000000 in
theorem checks_rc (l:List Int) (hl:l.length≤1000000000):RC Try.prog 53 [.dsl l.length (ints l)] (.sc (.bool true)):=by
 refine rc_of hmix ctChk_ok Try.func53 rfl (by kernel_rfl) (fun E s hs=>?_)
 simp(maxSteps:=300000)only[begA,Try.ntmps53,List.replicate_succ,List.replicate_zero,List.length_cons,List.length_nil,List.cons_append,List.nil_append]
 by_cases hV:ValidL l
 rotate_left
 ·repeat(first |(with_reducible first |apply Q0 |apply Q1 |apply Q2 |apply Q3 |apply Q4 |apply Q5 |apply Q6 |apply Q7 |apply Q8 |apply Q9 |apply QA |apply QB |apply QC |apply QD |apply QE |apply QF) |((first |(with_reducible apply QK rfl) |(apply QT;simp only[go_sem]<;>exact rfl));simp(disch:=omega)only[go_sem,hs,upd_ne,rdK_dsl,cal78,ctChk_78,c78,rdD_dsl,hl,hV,tabG,hcal45,ctChk_45,c45,hcal25,ctChk_25,c25,hcal28,ctChk_28,c28,hcal54,ctChk_54,c54,slotsF_bad hV,hcal62,ctChk_62,c62];exact rfl;simp only[sB,sA,putA];exact rfl) |(apply QI;simp only[go_sem]<;>exact rfl;simp only[sB,sA,putA];exact rfl) |(apply QQ;simp only[evA,gB,gA];exact rfl) |((first |apply QX |apply QY);(first |rfl |decide |assumption)))
  (apply QZ;simp(disch:=omega)only[go_sem,Try.results53];exact rfl;simp only[packA];exact rfl)
  exact .sc _
 have hW:=wok_valid hV
 have hrl:(recsT l).length=tabN l:=recsF_len l _
 have hol:=ordF_len hV
 have hox:=ordX_ord hV
 have hcl:=chainsF_len l
 have hca:=rowsA_chains l
 have hn1:=hW.n
 have hb:=hW.b
 have hbl:=bkts_le (recsT l).length (by omega)
 rw[←hb]at hbl
 have hb2:(chsT l).length≤1000000:=by omega
 have hcc:∀c∈chsT l,c.length≤1000000:=fun c hc=>by have:=hW.l c hc;omega
 have hob:(ordF l).length≤100000:=by omega
 have hsl:=slotsF_ok hV
 have hsb:(slotsL (tabN l)).length≤1000000000:=by rw[slotsL_len];omega
 rw[←hrl]at hsl hsb
 have hrl':=hrl.symm
 generalize slotsL (recsT l).length=S at*
 repeat(first |(with_reducible first |apply Q0 |apply Q1 |apply Q2 |apply Q3 |apply Q4 |apply Q5 |apply Q6 |apply Q7 |apply Q8 |apply Q9 |apply QA |apply QB |apply QC |apply QD |apply QE |apply QF) |((first |(with_reducible apply QK rfl) |(apply QT;simp only[go_sem]<;>exact rfl));simp(disch:=omega)only[go_sem,hs,upd_ne,rdK_dsl,cal78,ctChk_78,c78,rdD_dsl,hl,hV,tabG,hcal45,ctChk_45,c45,hcal25,ctChk_25,c25,hcal28,ctChk_28,c28,hcal54,ctChk_54,c54,hsl,hcal62,ctChk_62,c62,hcal93,ctChk_93,c93,hcal94,ctChk_94,c94,hcal95,ctChk_95,c95,hcal31,ctChk_31,c31,cal36',ctChk_36,c36,hrl',hcl,hca,hox,rdC_dsl,rdT_tab,rdE_dsl,hW,hb2,hcc,hob,hsb];exact rfl;simp only[sB,sA,putA];exact rfl) |(apply QI;simp only[go_sem]<;>exact rfl;simp only[sB,sA,putA];exact rfl) |(apply QQ;simp only[evA,gB,gA];exact rfl) |((first |apply QX |apply QY);(first |rfl |decide |assumption)))
 (apply QZ;simp(disch:=omega)only[go_sem,Try.results53];exact rfl;simp only[packA];exact rfl)
 exact .sc _
end Go.Proofs.Ytdcomhdadnhpnaa
