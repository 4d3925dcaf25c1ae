import Derived.Test.YtdcomhdadnhpnaaYB36
set_option linter.all false
namespace Go.Proofs.Ytdcomhdadnhpnaa
open Go Go.Am Go.RowKit
attribute [local irreducible] wA opsQ opsLQ thenA blockA EndA
def scanC:List (List Nat)→Nat→Option (Nat×Nat)
 | [],_=>none
 | []::cs,k=>scanC cs (k+1)
 |(r::_)::_,k=>some (r,k)
structure NextA where
 h:Int
 w:Int
 n:Int
 k:Int
 e:Int
def goN (recs:List (Int×Int)) (chs:List (List Nat)) (i:Nat):NextA:=match scanC (chs.drop i) 0 with
 |some (r,k)=>⟨(recs.getD r (0,0)).1,(recs.getD r (0,0)).2,(r:Int)+1,(k:Int)+1,0⟩
 |none=>⟨0,0,0,0,5⟩
def nextN (recs:List (Int×Int)) (chs:List (List Nat)) (r:Nat):NextA:=
 match (chs.getD (bkt (recs.getD r (0,0)).1.toNat chs.length) [])[(chs.getD (bkt (recs.getD r (0,0)).1.toNat chs.length) []).idxOf r+1]? with
 |some s=>⟨(recs.getD s (0,0)).1,(recs.getD s (0,0)).2,(s:Int)+1,0,0⟩
 |none=>goN recs chs (bkt (recs.getD r (0,0)).1.toNat chs.length+1)
open Classical in
noncomputable def nextF (l:List Int) (x:Int):NextA:=
 if ¬ValidL l then⟨0,0,0,0,600⟩else if x<0∨((recsT l).length:Int)<x then⟨0,0,0,0,1⟩
 else if x=0 then goN (recsT l) (chsT l) 0 else nextN (recsT l) (chsT l) (x-1).toNat
abbrev nextG (a:NextA):AV:=.tup [.agg [.sc (.int .i64 a.h),.sc (.int .i64 a.w)],.sc (.int .i64 a.n),.sc (.int .i64 a.k),.sc (.int .i64 a.e)]
theorem Exp.next {H:AHp} {a b c d e:Int}:Exp H (.tup [.agg [.sc (.int .i64 a),.sc (.int .i64 b)],.sc (.int .i64 c),.sc (.int .i64 d),.sc (.int .i64 e)]) (nextG ⟨a,b,c,d,e⟩):=by
 have h0:Exp H (.agg [.sc (.int .i64 a),.sc (.int .i64 b)]) (.agg [.sc (.int .i64 a),.sc (.int .i64 b)]):=.agg rfl (fun i x y hx hy=>by
  rw[hx]at hy;cases hy
  match i with
  |0=>simp at hx;subst hx;exact .sc _
  |1=>simp at hx;subst hx;exact .sc _
  |i+2=>simp at hx)
 refine .tup rfl (fun i x y hx hy=>?_)
 match i with
 |0=>simp at hx hy;subst hx;subst hy;exact h0
 |1=>simp at hx hy;subst hx;subst hy;exact .sc _
 |2=>simp at hx hy;subst hx;subst hy;exact .sc _
 |3=>simp at hx hy;subst hx;subst hy;exact .sc _
 |i+4=>simp at hx
theorem rec_mem {l:List Int} (hV:ValidL l) {r:Nat} (hr:r<(recsT l).length):bkt ((recsT l).getD r (0,0)).1.toNat (chsT l).length<(chsT l).length∧r∈(chsT l).getD (bkt ((recsT l).getD r (0,0)).1.toNat (chsT l).length) []∧0≤((recsT l).getD r (0,0)).1∧((recsT l).getD r (0,0)).1≤2147483647:=by
 have g:=tab_g hV
 have hrl:(recsT l).length=tabN l:=recsF_len l _
 rw[hrl]at hr
 have hi:=bkt_lt ((recsT l).getD r (0,0)).1.toNat (b:=bkts (tabN l)) (by have:=bkts8 (tabN l);omega)
 rw[chsT_len]
 refine⟨hi,?_,?_⟩
 ·rw[chsT_getD hi]
  refine(g.mem _ hi r).2 ⟨hr,?_⟩
  rw[recsT_get hr];rfl
 ·rw[recsT_get hr];exact g.hash r hr
set_option maxRecDepth 100000 in
set_option maxHeartbeats 4000000 in
theorem rnext_rc (l:List Int) (x:Int) (hl:l.length≤1000000000):RC Try.prog 42 [.dsl l.length (ints l),.sc (.int .i64 x)] (nextG (nextF l x)):=by
 refine rc_of hmix ctS_ok Try.func42 rfl (by kernel_rfl) (fun E s hs=>?_)
 simp(maxSteps:=300000)only[begA,Try.ntmps42,List.replicate_succ,List.replicate_zero,List.length_cons,List.length_nil,List.cons_append,List.nil_append]
 by_cases hV:ValidL l
 rotate_left
 ·have hw:nextF l x=⟨0,0,0,0,600⟩:=by unfold nextF;rw[if_pos (by simpa using hV)]
  rw[hw]
  repeat(first |(with_reducible first |apply Q0 |apply Q1 |apply Q2 |apply Q3 |apply Q4 |apply Q5 |apply Q6 |apply Q7 |apply Q8 |apply Q9 |apply QA |apply QB |apply QC |apply QD |apply QE |apply QF) |((first |(with_reducible apply QK rfl) |(apply QT;simp only[go_sem]<;>exact rfl));simp(disch:=omega)only[go_sem,hs,upd_ne,cal78,ctS_78,c78o,rdD_dsl,hl,hV];exact rfl;simp only[sB,sA,putA];exact rfl) |(apply QI;simp only[go_sem]<;>exact rfl;simp only[sB,sA,putA];exact rfl) |(apply QQ;simp only[evA,gB,gA];exact rfl) |((first |apply QX |apply QY);(first |rfl |decide |assumption)))
  (apply QZ;simp(disch:=omega)only[go_sem,Try.results42];exact rfl;simp only[packA];exact rfl)
  exact .next
 have hW:=wok_valid hV
 have hn1:=hW.n
 have hb:=hW.b
 have hb8:=bkts8 (recsT l).length
 have hbl:=bkts_le (recsT l).length (by omega)
 have hmem:=fun r hr=>rec_mem hV (r:=r) hr
 have hF:nextF l x=if x<0∨((recsT l).length:Int)<x then⟨0,0,0,0,1⟩else if x=0 then goN (recsT l) (chsT l) 0 else nextN (recsT l) (chsT l) (x-1).toNat:=by
  unfold nextF;rw[if_neg (by simpa using hV)]
 obtain⟨recs,hR⟩:∃recs,recs=recsT l:=⟨_,rfl⟩
 obtain⟨chs,hC⟩:∃chs,chs=chsT l:=⟨_,rfl⟩
 rw[←hR,←hC]at hW hb hF hmem
 rw[←hR]at hn1 hb8 hbl
 replace hR:=hR.symm
 replace hC:=hC.symm
 rw[←hb]at hb8 hbl
 have hN:(recs=[]∧∀k,newE recs k=k (.sc (.slice none 0 0)))∨(0<recs.length∧∀k,newE recs k= .new (.row 0 2 (elsA recs)) fun n=>k (.sl n 0 0 recs.length)):=by
  by_cases h0:recs.length=0
  ·obtain rfl:=List.length_eq_zero_iff.1 h0
   exact .inl ⟨rfl,fun k=>rfl⟩
  ·exact .inr ⟨by omega,fun k=>if_neg h0⟩
 by_cases hx0:x<0
 ·rw[hF,if_pos (.inl hx0)]
  rcases hN with⟨rfl,hN⟩ |⟨h0,hN⟩
  all_goals
   repeat(first |(with_reducible first |apply Q0 |apply Q1 |apply Q2 |apply Q3 |apply Q4 |apply Q5 |apply Q6 |apply Q7 |apply Q8 |apply Q9 |apply QA |apply QB |apply QC |apply QD |apply QE |apply QF) |((first |(with_reducible apply QK rfl) |(apply QT;simp only[go_sem]<;>exact rfl));simp(disch:=omega)only[go_sem,hs,upd_ne,cal78,ctS_78,c78o,rdD_dsl,hl,hV,hR,hC,hN,hx0];exact rfl;simp only[sB,sA,putA];exact rfl) |(apply QI;simp only[go_sem]<;>exact rfl;simp only[sB,sA,putA];exact rfl) |(apply QQ;simp only[evA,gB,gA];exact rfl) |((first |apply QX |apply QY);(first |rfl |decide |assumption)))
   (apply QZ;simp(disch:=omega)only[go_sem,Try.results42];exact rfl;simp only[packA];exact rfl)
   exact .next
 by_cases hx1:((recs.length:Nat):Int)<x
 ·rw[hF,if_pos (.inr hx1)]
  rcases hN with⟨rfl,hN⟩ |⟨h0,hN⟩
  ·have hx1:(0:Int)<x:=by simpa using hx1
   repeat(first |(with_reducible first |apply Q0 |apply Q1 |apply Q2 |apply Q3 |apply Q4 |apply Q5 |apply Q6 |apply Q7 |apply Q8 |apply Q9 |apply QA |apply QB |apply QC |apply QD |apply QE |apply QF) |((first |(with_reducible apply QK rfl) |(apply QT;simp only[go_sem]<;>exact rfl));simp(disch:=omega)only[go_sem,hs,upd_ne,cal78,ctS_78,c78o,rdD_dsl,hl,hV,hR,hC,hN,hx0,hx1,len_nil40];exact rfl;simp only[sB,sA,putA];exact rfl) |(apply QI;simp only[go_sem]<;>exact rfl;simp only[sB,sA,putA];exact rfl) |(apply QQ;simp only[evA,gB,gA];exact rfl) |((first |apply QX |apply QY);(first |rfl |decide |assumption)))
   (apply QZ;simp(disch:=omega)only[go_sem,Try.results42];exact rfl;simp only[packA];exact rfl)
   exact .next
  ·repeat(first |(with_reducible first |apply Q0 |apply Q1 |apply Q2 |apply Q3 |apply Q4 |apply Q5 |apply Q6 |apply Q7 |apply Q8 |apply Q9 |apply QA |apply QB |apply QC |apply QD |apply QE |apply QF) |((first |(with_reducible apply QK rfl) |(apply QT;simp only[go_sem]<;>exact rfl));simp(disch:=omega)only[go_sem,hs,upd_ne,cal78,ctS_78,c78o,rdD_dsl,hl,hV,hR,hC,hN,hx0,hx1];exact rfl;simp only[sB,sA,putA];exact rfl) |(apply QI;simp only[go_sem]<;>exact rfl;simp only[sB,sA,putA];exact rfl) |(apply QQ;simp only[evA,gB,gA];exact rfl) |((first |apply QX |apply QY);(first |rfl |decide |assumption)))
   (apply QZ;simp(disch:=omega)only[go_sem,Try.results42];exact rfl;simp only[packA];exact rfl)
   exact .next
 rw[hF,if_neg (by omega)]
 obtain⟨y,rfl⟩:∃y:Nat,x=(y:Int):=⟨x.toNat,by omega⟩
 have hcn:(rowsN chs).length=chs.length:=rowsN_len _
 have hlen:=elsA_len recs
 by_cases hy:y=0
 ·subst hy
  rw[if_pos (show((0:Nat):Int)=0 from rfl)]
  rcases hN with⟨hr0,hN⟩ |⟨h0,hN⟩
  case' inl=>
   repeat(first |(with_reducible first |apply Q0 |apply Q1 |apply QG |apply Q2 |apply Q3 |apply Q4 |apply Q5 |apply Q6 |apply Q7 |apply Q8 |apply Q9 |apply QA |apply QB |apply QC |apply QD |apply QE |apply QF) |((first |(with_reducible apply QK rfl) |(apply QT;simp only[go_sem]<;>exact rfl));simp(disch:=omega)only[go_sem,hs,upd_ne,cal78,ctS_78,c78o,rdD_dsl,hl,hV,hR,hC,hN,hx0,hx1];exact rfl;simp only[sB,sA,putA];exact rfl) |((first |(with_reducible apply QL rfl) |(apply QM;simp only[go_sem]<;>exact rfl));simp(disch:=omega)only[go_sem,hs,upd_ne,cal78,ctS_78,c78o,rdD_dsl,hl,hV,hR,hC,hN,hx0,hx1];exact rfl;simp only[sB,sA,putA];exact rfl;simp only[logT_none,logT_rd,logT_wr,List.cons_append,List.nil_append];exact rfl) |((first |apply QI |apply QN);simp only[go_sem]<;>exact rfl;simp only[sB,sA,putA];exact rfl) |(refine QO ?_ ?_;first |focus(simp only[dyn_nil,dyn_cons,allY_nil,allY_cons,dj_rr,true_or,true_and];done) |focus(simp only[dyn_nil,dyn_cons,allY_nil,allY_cons,Dj,List.mem_cons,List.not_mem_nil,or_false,forall_eq,forall_eq_or_imp,and_true,true_and,false_imp_iff,implies_true];omega) |focus(simp only[dyn_nil,dyn_cons,allY_nil,allY_cons,and_true,true_and];(repeat' refine And.intro ?_ ?_);all_goals first |(left;simp only[Dj,List.mem_cons,List.not_mem_nil,or_false,forall_eq,forall_eq_or_imp,and_true,true_and,false_imp_iff,implies_true];first |done |omega) |(right;kernel_rfl))) |(apply QQ;simp only[evA,gB,gA];exact rfl) |((first |apply QX |apply QY);(first |rfl |decide |assumption)))
   refine AWp.loop [4,8,10,13] (fun Γ H s' m=>∃(k p n2:Nat) (v1:AV),0≤k∧k≤chs.length∧m=chs.length-k∧Γ=(List.replicate 4 .junk)++[.ptr s 0 0]++(List.replicate 3 .junk)++[.ptr p 0 0]++(List.replicate 1 .junk)++[.sc (.int .i64 (k:Nat))]++(List.replicate 2 .junk)++[.sc (.int .i64 (((k-0:Nat):Int)+1))]++(List.replicate 98 .junk)∧
  scanC (chs.drop 0) 0=scanC (chs.drop k) (k-0)∧H s=some (.row 0 1 [.sc (.int .i64 0),.sc (.int .i64 0)])∧H p=some (.row 0 1 [v1,.sl n2 0 0 chs.length])∧H n2=some (.row 0 1 (rowsN chs))∧RowE (s+1) 2 v1 H s' (elsA recs) recs.length∧s<p∧s<n2∧(∀q,s'≤q→H q=none)) chs.length ?_ ?_
   ·refine⟨0,s+1+1,s+1,_,Nat.le_refl _,Nat.zero_le _,rfl,rfl,rfl,?_,?_,?_,.inl ⟨by rw[hr0];rfl,by rw[hr0];rfl,rfl⟩,by omega,by omega,fun q hq=>?_⟩
    ·simp(disch:=omega)only[upd_ne,upd_same]
    ·simp(disch:=omega)only[upd_ne,upd_same]
    ·simp(disch:=omega)only[upd_ne,upd_same]
    ·simp(disch:=omega)only[upd_ne];exact hs q
  case' inr=>
   repeat(first |(with_reducible first |apply Q0 |apply Q1 |apply QG |apply Q2 |apply Q3 |apply Q4 |apply Q5 |apply Q6 |apply Q7 |apply Q8 |apply Q9 |apply QA |apply QB |apply QC |apply QD |apply QE |apply QF) |((first |(with_reducible apply QK rfl) |(apply QT;simp only[go_sem]<;>exact rfl));simp(disch:=omega)only[go_sem,hs,upd_ne,cal78,ctS_78,c78o,rdD_dsl,hl,hV,hR,hC,hN,hx0,hx1];exact rfl;simp only[sB,sA,putA];exact rfl) |((first |(with_reducible apply QL rfl) |(apply QM;simp only[go_sem]<;>exact rfl));simp(disch:=omega)only[go_sem,hs,upd_ne,cal78,ctS_78,c78o,rdD_dsl,hl,hV,hR,hC,hN,hx0,hx1];exact rfl;simp only[sB,sA,putA];exact rfl;simp only[logT_none,logT_rd,logT_wr,List.cons_append,List.nil_append];exact rfl) |((first |apply QI |apply QN);simp only[go_sem]<;>exact rfl;simp only[sB,sA,putA];exact rfl) |(refine QO ?_ ?_;first |focus(simp only[dyn_nil,dyn_cons,allY_nil,allY_cons,dj_rr,true_or,true_and];done) |focus(simp only[dyn_nil,dyn_cons,allY_nil,allY_cons,Dj,List.mem_cons,List.not_mem_nil,or_false,forall_eq,forall_eq_or_imp,and_true,true_and,false_imp_iff,implies_true];omega) |focus(simp only[dyn_nil,dyn_cons,allY_nil,allY_cons,and_true,true_and];(repeat' refine And.intro ?_ ?_);all_goals first |(left;simp only[Dj,List.mem_cons,List.not_mem_nil,or_false,forall_eq,forall_eq_or_imp,and_true,true_and,false_imp_iff,implies_true];first |done |omega) |(right;kernel_rfl))) |(apply QQ;simp only[evA,gB,gA];exact rfl) |((first |apply QX |apply QY);(first |rfl |decide |assumption)))
   refine AWp.loop [4,8,10,13] (fun Γ H s' m=>∃(k p n2:Nat) (v1:AV),0≤k∧k≤chs.length∧m=chs.length-k∧Γ=(List.replicate 4 .junk)++[.ptr s 0 0]++(List.replicate 3 .junk)++[.ptr p 0 0]++(List.replicate 1 .junk)++[.sc (.int .i64 (k:Nat))]++(List.replicate 2 .junk)++[.sc (.int .i64 (((k-0:Nat):Int)+1))]++(List.replicate 98 .junk)∧
  scanC (chs.drop 0) 0=scanC (chs.drop k) (k-0)∧H s=some (.row 0 1 [.sc (.int .i64 0),.sc (.int .i64 0)])∧H p=some (.row 0 1 [v1,.sl n2 0 0 chs.length])∧H n2=some (.row 0 1 (rowsN chs))∧RowE (s+1) 2 v1 H s' (elsA recs) recs.length∧s<p∧s<n2∧(∀q,s'≤q→H q=none)) chs.length ?_ ?_
   ·refine⟨0,s+1+1+1,s+1+1,_,Nat.le_refl _,Nat.zero_le _,rfl,rfl,rfl,?_,?_,?_,.inr ⟨s+1,0,h0,rfl,?_,by omega,by omega⟩,by omega,by omega,fun q hq=>?_⟩
    ·simp(disch:=omega)only[upd_ne,upd_same]
    ·simp(disch:=omega)only[upd_ne,upd_same]
    ·simp(disch:=omega)only[upd_ne,upd_same]
    ·simp(disch:=omega)only[upd_ne,upd_same]
    ·simp(disch:=omega)only[upd_ne];exact hs q
  all_goals
   rintro Γ H s1 m ⟨k,p,n2,v1,hk0,hk,rfl,rfl,hsc,hHs,hHp,hH2,hv1,hsp,hsn,hf⟩
   refine wA_ok hmix ctS_ok _ (by kernel_rfl) ?_
   simp(maxSteps:=1000000)only[List.replicate_succ,List.replicate_zero,List.cons_append,List.nil_append,List.append_nil]
   by_cases hlt:k<chs.length
   ·obtain⟨c,hc⟩:∃c,chs[k]=c:=⟨_,rfl⟩
    have hcx:(rowsN chs)[k]? =some (.dsl c.length (natsA c)):=by rw[←hc];simp[rowsN,hlt]
    have hdk:chs.drop k=c::chs.drop (k+1):=by rw[←hc];exact List.drop_eq_getElem_cons hlt
    have hri:∀r∈c,r<recs.length:=by rw[←hc];exact hW.r _ (List.getElem_mem hlt)
    have hcl:c.length≤100000:=by rw[←hc];exact hW.l _ (List.getElem_mem hlt)
    cases c with
    |nil=>
     have hsc2:scanC (chs.drop 0) 0=scanC (chs.drop (k+1)) (k+1-0):=by rw[hsc,hdk,scanC,show k+1-0=k-0+1 by omega]
     have hkk:((k-0:Nat):Int)+1=((k+1-0:Nat):Int):=by omega
     have hcx0:(rowsN chs)[k]? =some (.dsl 0 []):=hcx
     repeat(first |(with_reducible first |apply Q0 |apply Q1 |apply QG |apply Q2 |apply Q3 |apply Q4 |apply Q5 |apply Q6 |apply Q7 |apply Q8 |apply Q9 |apply QA |apply QB |apply QC |apply QD |apply QE |apply QF) |((first |(with_reducible apply QK rfl) |(apply QT;simp only[go_sem]<;>exact rfl));simp(disch:=omega)only[go_sem,hf,upd_ne,hHp,hH2,hcx0,hcn];exact rfl;simp only[sB,sA,putA];exact rfl) |((first |(with_reducible apply QL rfl) |(apply QM;simp only[go_sem]<;>exact rfl));simp(disch:=omega)only[go_sem,hf,upd_ne,hHp,hH2,hcx0,hcn];exact rfl;simp only[sB,sA,putA];exact rfl;simp only[logT_none,logT_rd,logT_wr,List.cons_append,List.nil_append];exact rfl) |((first |apply QI |apply QN);simp only[go_sem]<;>exact rfl;simp only[sB,sA,putA];exact rfl) |(refine QO ?_ ?_;first |focus(simp only[dyn_nil,dyn_cons,allY_nil,allY_cons,dj_rr,true_or,true_and];done) |focus(simp only[dyn_nil,dyn_cons,allY_nil,allY_cons,Dj,List.mem_cons,List.not_mem_nil,or_false,forall_eq,forall_eq_or_imp,and_true,true_and,false_imp_iff,implies_true];omega) |focus(simp only[dyn_nil,dyn_cons,allY_nil,allY_cons,and_true,true_and];(repeat' refine And.intro ?_ ?_);all_goals first |(left;simp only[Dj,List.mem_cons,List.not_mem_nil,or_false,forall_eq,forall_eq_or_imp,and_true,true_and,false_imp_iff,implies_true];first |done |omega) |(right;kernel_rfl))) |(apply QQ;simp only[evA,gB,gA];exact rfl) |((first |apply QX |apply QY);(first |rfl |decide |assumption)))
     refine⟨chs.length-(k+1),by omega,k+1,p,n2,v1,by omega,by omega,rfl,?_,hsc2,hHs,hHp,hH2,hv1,hsp,hsn,hf⟩
     rw[←hkk];rfl
    |cons r c=>
     have hrr:=hri r (by simp)
     obtain⟨hx,_,_⟩ |⟨nm1,ver1,h0,rfl,hH1,hn1a,hn1b⟩:=hv1
     ·omega
     have hgk:recs.getD r (0,0)=recs[r]:=by simp[hrr]
     have hw:goN recs chs 0=⟨recs[r].1,recs[r].2,(r:Int)+1,((k-0:Nat):Int)+1,0⟩:=by
      unfold goN
      rw[hsc,hdk,scanC]
      simp only[hgk]
     have hat0:=elsA_at0 hrr
     have hat1:=elsA_at1 hrr
     have hdr:=elsA_drop hrr
     have hc0:(natsA (r::c)).head? =some (.sc (.int .i64 (r:Nat))):=rfl
     have hlc:(0:Int)<(((r::c).length:Nat):Int):=by rw[List.length_cons];omega
     rw[hw]
     repeat(first |(with_reducible first |apply Q0 |apply Q1 |apply QG |apply Q2 |apply Q3 |apply Q4 |apply Q5 |apply Q6 |apply Q7 |apply Q8 |apply Q9 |apply QA |apply QB |apply QC |apply QD |apply QE |apply QF) |((first |(with_reducible apply QK rfl) |(apply QT;simp only[go_sem]<;>exact rfl));simp(disch:=omega)only[go_sem,hf,upd_ne,hHs,hHp,hH2,hH1,hcx,hcn,hlc,hc0,hat0,hat1,hlen,hdr,tn1];exact rfl;simp only[sB,sA,putA];exact rfl) |((first |(with_reducible apply QL rfl) |(apply QM;simp only[go_sem]<;>exact rfl));simp(disch:=omega)only[go_sem,hf,upd_ne,hHs,hHp,hH2,hH1,hcx,hcn,hlc,hc0,hat0,hat1,hlen,hdr,tn1];exact rfl;simp only[sB,sA,putA];exact rfl;simp only[logT_none,logT_rd,logT_wr,List.cons_append,List.nil_append];exact rfl) |((first |apply QI |apply QN);simp only[go_sem]<;>exact rfl;simp only[sB,sA,putA];exact rfl) |(refine QO ?_ ?_;first |focus(simp only[dyn_nil,dyn_cons,allY_nil,allY_cons,dj_rr,true_or,true_and];done) |focus(simp only[dyn_nil,dyn_cons,allY_nil,allY_cons,Dj,List.mem_cons,List.not_mem_nil,or_false,forall_eq,forall_eq_or_imp,and_true,true_and,false_imp_iff,implies_true];omega) |focus(simp only[dyn_nil,dyn_cons,allY_nil,allY_cons,and_true,true_and];(repeat' refine And.intro ?_ ?_);all_goals first |(left;simp only[Dj,List.mem_cons,List.not_mem_nil,or_false,forall_eq,forall_eq_or_imp,and_true,true_and,false_imp_iff,implies_true];first |done |omega) |(right;kernel_rfl))) |(apply QQ;simp only[evA,gB,gA];exact rfl) |((first |apply QX |apply QY);(first |rfl |decide |assumption)))
     (apply QZ;simp(disch:=omega)only[go_sem,Try.results42];exact rfl;simp only[packA];exact rfl)
     exact .next
   ·obtain rfl:k=chs.length:=by omega
    have hw:goN recs chs 0=⟨0,0,0,0,5⟩:=by
     unfold goN
     rw[hsc,List.drop_length,scanC]
    rw[hw]
    repeat(first |(with_reducible first |apply Q0 |apply Q1 |apply QG |apply Q2 |apply Q3 |apply Q4 |apply Q5 |apply Q6 |apply Q7 |apply Q8 |apply Q9 |apply QA |apply QB |apply QC |apply QD |apply QE |apply QF) |((first |(with_reducible apply QK rfl) |(apply QT;simp only[go_sem]<;>exact rfl));simp(disch:=omega)only[go_sem,hf,upd_ne,hHs,hHp,hH2];exact rfl;simp only[sB,sA,putA];exact rfl) |((first |(with_reducible apply QL rfl) |(apply QM;simp only[go_sem]<;>exact rfl));simp(disch:=omega)only[go_sem,hf,upd_ne,hHs,hHp,hH2];exact rfl;simp only[sB,sA,putA];exact rfl;simp only[logT_none,logT_rd,logT_wr,List.cons_append,List.nil_append];exact rfl) |((first |apply QI |apply QN);simp only[go_sem]<;>exact rfl;simp only[sB,sA,putA];exact rfl) |(refine QO ?_ ?_;first |focus(simp only[dyn_nil,dyn_cons,allY_nil,allY_cons,dj_rr,true_or,true_and];done) |focus(simp only[dyn_nil,dyn_cons,allY_nil,allY_cons,Dj,List.mem_cons,List.not_mem_nil,or_false,forall_eq,forall_eq_or_imp,and_true,true_and,false_imp_iff,implies_true];omega) |focus(simp only[dyn_nil,dyn_cons,allY_nil,allY_cons,and_true,true_and];(repeat' refine And.intro ?_ ?_);all_goals first |(left;simp only[Dj,List.mem_cons,List.not_mem_nil,or_false,forall_eq,forall_eq_or_imp,and_true,true_and,false_imp_iff,implies_true];first |done |omega) |(right;kernel_rfl))) |(apply QQ;simp only[evA,gB,gA];exact rfl) |((first |apply QX |apply QY);(first |rfl |decide |assumption)))
    (apply QZ;simp(disch:=omega)only[go_sem,Try.results42];exact rfl;simp only[packA];exact rfl)
    exact .next
 ·rw[if_neg (by omega)]
  obtain⟨r,rfl⟩:∃r,y=r+1:=⟨y-1,by omega⟩
  have hr:r<recs.length:=by omega
  have hrI:((r+1:Nat):Int)-1=((r:Nat):Int):=by omega
  have hrT:((r:Nat):Int).toNat=r:=Int.toNat_natCast _
  rw[hrI,hrT]
  obtain⟨m1,m2,m3,m4⟩:=hmem r hr
  have hgr:recs.getD r (0,0)=recs[r]:=by simp[hr]
  unfold nextN
  rw[hgr]at m1 m2 m3 m4 ⊢
  obtain⟨ix,hix⟩:∃ix,bkt recs[r].1.toNat chs.length=ix:=⟨_,rfl⟩
  rw[hix]at m1 m2 ⊢
  obtain⟨c,hc⟩:∃c,chs[ix]=c:=⟨_,rfl⟩
  have hcx:(rowsN chs)[ix]? =some (.dsl c.length (natsA c)):=by rw[←hc];simp[rowsN,m1]
  have hgd:chs.getD ix []=c:=by rw[←hc];simp[m1]
  rw[hgd]at m2 ⊢
  have hri:∀r∈c,r<recs.length:=by rw[←hc];exact hW.r _ (List.getElem_mem m1)
  have hcl:c.length≤100000:=by rw[←hc];exact hW.l _ (List.getElem_mem m1)
  have hidx:=List.idxOf_lt_length_of_mem m2
  obtain⟨j,hj⟩:∃j,c.idxOf r=j:=⟨_,rfl⟩
  rw[hj]at hidx ⊢
  have hat0:=elsA_at0 hr
  have h429:recs[r].1≤4294967296:=by omega
  have hy0:(0:Int)<((r+1:Nat):Int):=by omega
  rcases hN with⟨rfl,hN⟩ |⟨h0,hN⟩
  ·simp at hr
  by_cases hjl:j+1<c.length
  ·have hs1:=hri _ (List.getElem_mem hjl)
   have hgs:recs.getD c[j+1] (0,0)=recs[c[j+1]]:=by simp[hs1]
   rw[List.getElem?_eq_getElem hjl]
   simp only[hgs]
   have hdr:=elsA_drop hs1
   have hjI:(((j:Nat):Int)+1).toNat=j+1:=by omega
   have hjI2:((j:Nat):Int)+1<((c.length:Nat):Int):=by omega
   have hcj:(natsA c)[j+1]? =some (.sc (.int .i64 (c[j+1]:Nat))):=by simp[hjl]
   repeat(first |(with_reducible first |apply Q0 |apply Q1 |apply QG |apply Q2 |apply Q3 |apply Q4 |apply Q5 |apply Q6 |apply Q7 |apply Q8 |apply Q9 |apply QA |apply QB |apply QC |apply QD |apply QE |apply QF) |((first |(with_reducible apply QK rfl) |(apply QT;simp only[go_sem]<;>exact rfl));simp(disch:=omega)only[go_sem,hs,upd_ne,cal78,ctS_78,c78o,rdD_dsl,hl,hV,hR,hC,hN,hx0,hx1,hy0,hrI,hrT,hat0,hlen,cal22,ctS_22,ctR_22,c22r,m3,h429,hix,hcx,hcn,cal83,ctS_83,c83,rdN_dsl,m2,hcl,hj,hjI,hjI2,hcj,hdr];exact rfl;simp only[sB,sA,putA];exact rfl) |((first |(with_reducible apply QL rfl) |(apply QM;simp only[go_sem]<;>exact rfl));simp(disch:=omega)only[go_sem,hs,upd_ne,cal78,ctS_78,c78o,rdD_dsl,hl,hV,hR,hC,hN,hx0,hx1,hy0,hrI,hrT,hat0,hlen,cal22,ctS_22,ctR_22,c22r,m3,h429,hix,hcx,hcn,cal83,ctS_83,c83,rdN_dsl,m2,hcl,hj,hjI,hjI2,hcj,hdr];exact rfl;simp only[sB,sA,putA];exact rfl;simp only[logT_none,logT_rd,logT_wr,List.cons_append,List.nil_append];exact rfl) |((first |apply QI |apply QN);simp only[go_sem]<;>exact rfl;simp only[sB,sA,putA];exact rfl) |(refine QO ?_ ?_;first |focus(simp only[dyn_nil,dyn_cons,allY_nil,allY_cons,dj_rr,true_or,true_and];done) |focus(simp only[dyn_nil,dyn_cons,allY_nil,allY_cons,Dj,List.mem_cons,List.not_mem_nil,or_false,forall_eq,forall_eq_or_imp,and_true,true_and,false_imp_iff,implies_true];omega) |focus(simp only[dyn_nil,dyn_cons,allY_nil,allY_cons,and_true,true_and];(repeat' refine And.intro ?_ ?_);all_goals first |(left;simp only[Dj,List.mem_cons,List.not_mem_nil,or_false,forall_eq,forall_eq_or_imp,and_true,true_and,false_imp_iff,implies_true];first |done |omega) |(right;kernel_rfl))) |(apply QQ;simp only[evA,gB,gA];exact rfl) |((first |apply QX |apply QY);(first |rfl |decide |assumption)))
   (apply QZ;simp(disch:=omega)only[go_sem,Try.results42];exact rfl;simp only[packA];exact rfl)
   exact .next
  ·rw[List.getElem?_eq_none (by omega)]
   simp only
   have hjI2:¬((j:Nat):Int)+1<((c.length:Nat):Int):=by omega
   repeat(first |(with_reducible first |apply Q0 |apply Q1 |apply QG |apply Q2 |apply Q3 |apply Q4 |apply Q5 |apply Q6 |apply Q7 |apply Q8 |apply Q9 |apply QA |apply QB |apply QC |apply QD |apply QE |apply QF) |((first |(with_reducible apply QK rfl) |(apply QT;simp only[go_sem]<;>exact rfl));simp(disch:=omega)only[go_sem,hs,upd_ne,cal78,ctS_78,c78o,rdD_dsl,hl,hV,hR,hC,hN,hx0,hx1,hy0,hrI,hrT,hat0,hlen,cal22,ctS_22,ctR_22,c22r,m3,h429,hix,hcx,hcn,cal83,ctS_83,c83,rdN_dsl,m2,hcl,hj,hjI2];exact rfl;simp only[sB,sA,putA];exact rfl) |((first |(with_reducible apply QL rfl) |(apply QM;simp only[go_sem]<;>exact rfl));simp(disch:=omega)only[go_sem,hs,upd_ne,cal78,ctS_78,c78o,rdD_dsl,hl,hV,hR,hC,hN,hx0,hx1,hy0,hrI,hrT,hat0,hlen,cal22,ctS_22,ctR_22,c22r,m3,h429,hix,hcx,hcn,cal83,ctS_83,c83,rdN_dsl,m2,hcl,hj,hjI2];exact rfl;simp only[sB,sA,putA];exact rfl;simp only[logT_none,logT_rd,logT_wr,List.cons_append,List.nil_append];exact rfl) |((first |apply QI |apply QN);simp only[go_sem]<;>exact rfl;simp only[sB,sA,putA];exact rfl) |(refine QO ?_ ?_;first |focus(simp only[dyn_nil,dyn_cons,allY_nil,allY_cons,dj_rr,true_or,true_and];done) |focus(simp only[dyn_nil,dyn_cons,allY_nil,allY_cons,Dj,List.mem_cons,List.not_mem_nil,or_false,forall_eq,forall_eq_or_imp,and_true,true_and,false_imp_iff,implies_true];omega) |focus(simp only[dyn_nil,dyn_cons,allY_nil,allY_cons,and_true,true_and];(repeat' refine And.intro ?_ ?_);all_goals first |(left;simp only[Dj,List.mem_cons,List.not_mem_nil,or_false,forall_eq,forall_eq_or_imp,and_true,true_and,false_imp_iff,implies_true];first |done |omega) |(right;kernel_rfl))) |(apply QQ;simp only[evA,gB,gA];exact rfl) |((first |apply QX |apply QY);(first |rfl |decide |assumption)))
   refine AWp.loop [4,8,10,13] (fun Γ H s' m=>∃(k p n2:Nat) (v1:AV),(ix+1)≤k∧k≤chs.length∧m=chs.length-k∧Γ=(List.replicate 4 .junk)++[.ptr s 0 0]++(List.replicate 3 .junk)++[.ptr p 0 0]++(List.replicate 1 .junk)++[.sc (.int .i64 (k:Nat))]++(List.replicate 2 .junk)++[.sc (.int .i64 (((k-(ix+1):Nat):Int)+1))]++(List.replicate 98 .junk)∧
  scanC (chs.drop (ix+1)) 0=scanC (chs.drop k) (k-(ix+1))∧H s=some (.row 0 1 [.sc (.int .i64 0),.sc (.int .i64 0)])∧H p=some (.row 0 1 [v1,.sl n2 0 0 chs.length])∧H n2=some (.row 0 1 (rowsN chs))∧RowE (s+1) 2 v1 H s' (elsA recs) recs.length∧s<p∧s<n2∧(∀q,s'≤q→H q=none)) (chs.length-(ix+1)) ?_ ?_
   ·refine⟨ix+1,s+1+1+1,s+1+1,_,Nat.le_refl _,by omega,rfl,by rw[Nat.sub_self];rfl,by rw[Nat.sub_self],?_,?_,?_,.inr ⟨s+1,0,h0,rfl,?_,by omega,by omega⟩,by omega,by omega,fun q hq=>?_⟩
    ·simp(disch:=omega)only[upd_ne,upd_same]
    ·simp(disch:=omega)only[upd_ne,upd_same]
    ·simp(disch:=omega)only[upd_ne,upd_same]
    ·simp(disch:=omega)only[upd_ne,upd_same]
    ·simp(disch:=omega)only[upd_ne];exact hs q
   clear hcx hcl hri hgd hc hidx hj m2 hjl hjI2
   rintro Γ H s1 m ⟨k,p,n2,v1,hk0,hk,rfl,rfl,hsc,hHs,hHp,hH2,hv1,hsp,hsn,hf⟩
   refine wA_ok hmix ctS_ok _ (by kernel_rfl) ?_
   simp(maxSteps:=1000000)only[List.replicate_succ,List.replicate_zero,List.cons_append,List.nil_append,List.append_nil]
   by_cases hlt:k<chs.length
   ·obtain⟨c,hc⟩:∃c,chs[k]=c:=⟨_,rfl⟩
    have hcx:(rowsN chs)[k]? =some (.dsl c.length (natsA c)):=by rw[←hc];simp[rowsN,hlt]
    have hdk:chs.drop k=c::chs.drop (k+1):=by rw[←hc];exact List.drop_eq_getElem_cons hlt
    have hri:∀r∈c,r<recs.length:=by rw[←hc];exact hW.r _ (List.getElem_mem hlt)
    have hcl:c.length≤100000:=by rw[←hc];exact hW.l _ (List.getElem_mem hlt)
    cases c with
    |nil=>
     have hsc2:scanC (chs.drop (ix+1)) 0=scanC (chs.drop (k+1)) (k+1-(ix+1)):=by rw[hsc,hdk,scanC,show k+1-(ix+1)=k-(ix+1)+1 by omega]
     have hkk:((k-(ix+1):Nat):Int)+1=((k+1-(ix+1):Nat):Int):=by omega
     have hcx0:(rowsN chs)[k]? =some (.dsl 0 []):=hcx
     repeat(first |(with_reducible first |apply Q0 |apply Q1 |apply QG |apply Q2 |apply Q3 |apply Q4 |apply Q5 |apply Q6 |apply Q7 |apply Q8 |apply Q9 |apply QA |apply QB |apply QC |apply QD |apply QE |apply QF) |((first |(with_reducible apply QK rfl) |(apply QT;simp only[go_sem]<;>exact rfl));simp(disch:=omega)only[go_sem,hf,upd_ne,hHp,hH2,hcx0,hcn];exact rfl;simp only[sB,sA,putA];exact rfl) |((first |(with_reducible apply QL rfl) |(apply QM;simp only[go_sem]<;>exact rfl));simp(disch:=omega)only[go_sem,hf,upd_ne,hHp,hH2,hcx0,hcn];exact rfl;simp only[sB,sA,putA];exact rfl;simp only[logT_none,logT_rd,logT_wr,List.cons_append,List.nil_append];exact rfl) |((first |apply QI |apply QN);simp only[go_sem]<;>exact rfl;simp only[sB,sA,putA];exact rfl) |(refine QO ?_ ?_;first |focus(simp only[dyn_nil,dyn_cons,allY_nil,allY_cons,dj_rr,true_or,true_and];done) |focus(simp only[dyn_nil,dyn_cons,allY_nil,allY_cons,Dj,List.mem_cons,List.not_mem_nil,or_false,forall_eq,forall_eq_or_imp,and_true,true_and,false_imp_iff,implies_true];omega) |focus(simp only[dyn_nil,dyn_cons,allY_nil,allY_cons,and_true,true_and];(repeat' refine And.intro ?_ ?_);all_goals first |(left;simp only[Dj,List.mem_cons,List.not_mem_nil,or_false,forall_eq,forall_eq_or_imp,and_true,true_and,false_imp_iff,implies_true];first |done |omega) |(right;kernel_rfl))) |(apply QQ;simp only[evA,gB,gA];exact rfl) |((first |apply QX |apply QY);(first |rfl |decide |assumption)))
     refine⟨chs.length-(k+1),by omega,k+1,p,n2,v1,by omega,by omega,rfl,?_,hsc2,hHs,hHp,hH2,hv1,hsp,hsn,hf⟩
     rw[←hkk];rfl
    |cons r c=>
     have hrr:=hri r (by simp)
     obtain⟨hx,_,_⟩ |⟨nm1,ver1,h0,rfl,hH1,hn1a,hn1b⟩:=hv1
     ·omega
     have hgk:recs.getD r (0,0)=recs[r]:=by simp[hrr]
     have hw:goN recs chs (ix+1)=⟨recs[r].1,recs[r].2,(r:Int)+1,((k-(ix+1):Nat):Int)+1,0⟩:=by
      unfold goN
      rw[hsc,hdk,scanC]
      simp only[hgk]
     have hat0:=elsA_at0 hrr
     have hat1:=elsA_at1 hrr
     have hdr:=elsA_drop hrr
     have hc0:(natsA (r::c)).head? =some (.sc (.int .i64 (r:Nat))):=rfl
     have hlc:(0:Int)<(((r::c).length:Nat):Int):=by rw[List.length_cons];omega
     rw[hw]
     repeat(first |(with_reducible first |apply Q0 |apply Q1 |apply QG |apply Q2 |apply Q3 |apply Q4 |apply Q5 |apply Q6 |apply Q7 |apply Q8 |apply Q9 |apply QA |apply QB |apply QC |apply QD |apply QE |apply QF) |((first |(with_reducible apply QK rfl) |(apply QT;simp only[go_sem]<;>exact rfl));simp(disch:=omega)only[go_sem,hf,upd_ne,hHs,hHp,hH2,hH1,hcx,hcn,hlc,hc0,hat0,hat1,hlen,hdr,tn1];exact rfl;simp only[sB,sA,putA];exact rfl) |((first |(with_reducible apply QL rfl) |(apply QM;simp only[go_sem]<;>exact rfl));simp(disch:=omega)only[go_sem,hf,upd_ne,hHs,hHp,hH2,hH1,hcx,hcn,hlc,hc0,hat0,hat1,hlen,hdr,tn1];exact rfl;simp only[sB,sA,putA];exact rfl;simp only[logT_none,logT_rd,logT_wr,List.cons_append,List.nil_append];exact rfl) |((first |apply QI |apply QN);simp only[go_sem]<;>exact rfl;simp only[sB,sA,putA];exact rfl) |(refine QO ?_ ?_;first |focus(simp only[dyn_nil,dyn_cons,allY_nil,allY_cons,dj_rr,true_or,true_and];done) |focus(simp only[dyn_nil,dyn_cons,allY_nil,allY_cons,Dj,List.mem_cons,List.not_mem_nil,or_false,forall_eq,forall_eq_or_imp,and_true,true_and,false_imp_iff,implies_true];omega) |focus(simp only[dyn_nil,dyn_cons,allY_nil,allY_cons,and_true,true_and];(repeat' refine And.intro ?_ ?_);all_goals first |(left;simp only[Dj,List.mem_cons,List.not_mem_nil,or_false,forall_eq,forall_eq_or_imp,and_true,true_and,false_imp_iff,implies_true];first |done |omega) |(right;kernel_rfl))) |(apply QQ;simp only[evA,gB,gA];exact rfl) |((first |apply QX |apply QY);(first |rfl |decide |assumption)))
     (apply QZ;simp(disch:=omega)only[go_sem,Try.results42];exact rfl;simp only[packA];exact rfl)
     exact .next
   ·obtain rfl:k=chs.length:=by omega
    have hw:goN recs chs (ix+1)=⟨0,0,0,0,5⟩:=by
     unfold goN
     rw[hsc,List.drop_length,scanC]
    rw[hw]
    repeat(first |(with_reducible first |apply Q0 |apply Q1 |apply QG |apply Q2 |apply Q3 |apply Q4 |apply Q5 |apply Q6 |apply Q7 |apply Q8 |apply Q9 |apply QA |apply QB |apply QC |apply QD |apply QE |apply QF) |((first |(with_reducible apply QK rfl) |(apply QT;simp only[go_sem]<;>exact rfl));simp(disch:=omega)only[go_sem,hf,upd_ne,hHs,hHp,hH2];exact rfl;simp only[sB,sA,putA];exact rfl) |((first |(with_reducible apply QL rfl) |(apply QM;simp only[go_sem]<;>exact rfl));simp(disch:=omega)only[go_sem,hf,upd_ne,hHs,hHp,hH2];exact rfl;simp only[sB,sA,putA];exact rfl;simp only[logT_none,logT_rd,logT_wr,List.cons_append,List.nil_append];exact rfl) |((first |apply QI |apply QN);simp only[go_sem]<;>exact rfl;simp only[sB,sA,putA];exact rfl) |(refine QO ?_ ?_;first |focus(simp only[dyn_nil,dyn_cons,allY_nil,allY_cons,dj_rr,true_or,true_and];done) |focus(simp only[dyn_nil,dyn_cons,allY_nil,allY_cons,Dj,List.mem_cons,List.not_mem_nil,or_false,forall_eq,forall_eq_or_imp,and_true,true_and,false_imp_iff,implies_true];omega) |focus(simp only[dyn_nil,dyn_cons,allY_nil,allY_cons,and_true,true_and];(repeat' refine And.intro ?_ ?_);all_goals first |(left;simp only[Dj,List.mem_cons,List.not_mem_nil,or_false,forall_eq,forall_eq_or_imp,and_true,true_and,false_imp_iff,implies_true];first |done |omega) |(right;kernel_rfl))) |(apply QQ;simp only[evA,gB,gA];exact rfl) |((first |apply QX |apply QY);(first |rfl |decide |assumption)))
    (apply QZ;simp(disch:=omega)only[go_sem,Try.results42];exact rfl;simp only[packA];exact rfl)
    exact .next
end Go.Proofs.Ytdcomhdadnhpnaa
