import Derived.Test.YtdcomhdadnhpnaaYZA5
import Derived.Test.YtdcomhdadnhpnaaYZA1
import Derived.Test.YtdcomhdadnhpnaaYZA2
set_option linter.all false
section
namespace Go.Proofs.Ytdcomhdadnhpnaa
open Go Go.Am Go.RowKit
attribute [local irreducible] wA opsQ opsLQ thenA blockA EndA
def srtF (i b:Nat):Option Int→List Int→List (Int×Int)→Bool
 |_,_,[]=>true
 |p,seen,e::t=>
  if ¬(0≤e.1∧e.1≤2147483647)∨bkt e.1.toNat b≠i then false
  else match p with
   |some h=>if e.1<h then false else if h=e.1 then(if e.2∈seen then false else srtF i b (some e.1) (seen++[e.2]) t)else srtF i b (some e.1) [e.2] t
   |none=>srtF i b (some e.1) [e.2] t
theorem srtF_bad {i b:Nat} {p:Option Int} {seen:List Int} {e:Int×Int} {t:List (Int×Int)} (h:¬(0≤e.1∧e.1≤2147483647)∨bkt e.1.toNat b≠i):srtF i b p seen (e::t)=false:=by
 cases p<;>rw[srtF,if_pos h]
def onesM (seen:List Int):List (Int×Int):=seen.map fun w=>(w,(1:Int))
theorem onesM_len (seen:List Int):(onesM seen).length=seen.length:=by simp[onesM]
theorem onesM_app (seen:List Int) (x:Int):onesM seen++[(x,1)]=onesM (seen++[x]):=by simp[onesM]
theorem mget_onesM (seen:List Int) (x:Int):(mget (onesM seen) x).getD 0=if x∈seen then 1 else 0:=mget_ones seen x
theorem onesM_not {seen:List Int} {x:Int} (h:x∉seen):x∉(onesM seen).map (·.1):=by
 have:(onesM seen).map (·.1)=seen:=by unfold onesM;rw[List.map_map];exact List.map_id' _
 rw[this];exact h
theorem upK_one {n:Nat} {x:Int} {seen:List Int} (h:x∉seen):upK n x (.sc (.int .i64 1)) (.mapo 0 (entM (onesM seen)) seen.length)= .set n (.mapo 0 (entM (onesM (seen++[x]))) (seen++[x]).length) (.ret (.sc undef)):=by
 have:=upK_new (n:=n) (y:=1) (onesM_not h)
 rw[onesM_len,onesM_app,onesM_len]at this
 exact this
theorem upK_first {n:Nat} {x:Int}:upK n x (.sc (.int .i64 1)) (.mapo 0 [] 0)= .set n (.mapo 0 (entM (onesM [x])) 1) (.ret (.sc undef)):=upK_one (seen:=[]) (by simp)
theorem lkK_first (x:Int):lkK x false (.mapo 0 [] 0)= .ret (.sc (.int .i64 0)):=by
 have:=lkK_ent x false [] 0
 rw[entM_nil]at this
 rw[this];rfl
theorem lkK_one (x:Int) (seen:List Int) (c:Nat):lkK x false (.mapo 0 (entM (onesM seen)) c)= .ret (.sc (.int .i64 (if x∈seen then 1 else 0))):=by
 rw[lkK_ent,mget_onesM];rfl
def elsOfC (recs:List (Int×Int)) (c:List Nat):List (Int×Int):=c.map fun r=>recs.getD r (0,0)
set_option maxRecDepth 100000 in
set_option maxHeartbeats 4000000 in
theorem sorted_call (recs:List (Int×Int)) (chs:List (List Nat)) (i:Nat) (hi:i<chs.length) (hn:recs.length≤100000) (hb:chs.length≤1000000) (hr:∀r∈chs[i],r<recs.length) (hcn:chs[i].length≤100000):
  RC Try.prog 96 [tabG recs chs,.sc (.int .i64 (i:Nat))] (.sc (.bool (srtF i chs.length none [] (elsOfC recs chs[i])))):=by
 refine rc_of hmix ctN_ok Try.func96 rfl (by kernel_rfl) (fun E s hs=>?_)
 simp(maxSteps:=300000)only[begA,Try.ntmps96,List.replicate_succ,List.replicate_zero,List.length_cons,List.length_nil,List.cons_append,List.nil_append]
 have hel:(elsOfC recs chs[i]).length=chs[i].length:=by simp[elsOfC]
 repeat(first |(with_reducible first |apply Q0 |apply Q1 |apply Q2 |apply Q3 |apply Q4 |apply Q5 |apply Q6 |apply Q7 |apply Q8 |apply Q9 |apply QA |apply QB |apply QC |apply QD |apply QE |apply QF) |((with_reducible apply QK rfl);simp(disch:=omega)only[go_sem,hs,upd_ne,rowsN,aMakeMap];exact rfl;simp only[sB,sA,putA];exact rfl) |(apply QQ;simp only[evA,gB,gA];exact rfl) |((first |apply QX |apply QY);(first |rfl |decide |assumption)))
 refine AWp.loop [1,2,5,6,7] (fun Γ H s' m=>∃(k nm:Nat) (p:Option Int) (seen:List Int),k≤chs[i].length∧m=chs[i].length-k∧Γ=(List.replicate 1 .junk)++[.sc (.int .i64 (i:Nat)),.ptr s 0 0]++(List.replicate 2 .junk)++[.dsl chs[i].length (natsA chs[i]),.mp nm 0,.sc (.int .i64 (k:Nat))]++(List.replicate 78 .junk)∧
  H s=some (.row 0 1 [.dsl recs.length (elsA recs),.dsl chs.length (rowsN chs)])∧H nm=some (.mapo 0 (entM (onesM seen)) seen.length)∧s<nm∧nm<s'∧(∀q,s'≤q→H q=none)∧
  srtF i chs.length none [] (elsOfC recs chs[i])=srtF i chs.length p seen ((elsOfC recs chs[i]).drop k)∧((k=0∧p=none)∨∃h:k-1<chs[i].length,0<k∧p=some (recs[chs[i][k-1]]'(hr _ (List.getElem_mem h))).1)) chs[i].length ?_ ?_
 ·refine⟨0,s+1,none,[],Nat.zero_le _,rfl,rfl,by(simp(disch:=omega)only[upd_ne,upd_same];rfl),upd_same _ _ _,by omega,by omega,fun q hq=>?_,by rw[List.drop_zero],.inl ⟨rfl,rfl⟩⟩
  rw[upd_ne _ _ (by omega),upd_ne _ _ (by omega)];exact hs q
 rintro Γ H s1 m ⟨k,nm,p,seen,hk,rfl,rfl,hH0,hM,hn1,hn2,hf,hS,hp⟩
 refine wA_ok hmix ctN_ok _ (by kernel_rfl) ?_
 simp(maxSteps:=1000000)only[List.replicate_succ,List.replicate_zero,List.cons_append,List.nil_append,List.append_nil]
 by_cases hlt:k<chs[i].length
 ·have hrn:=hr _ (List.getElem_mem hlt)
  have hdr:(elsOfC recs chs[i]).drop k=recs[chs[i][k]]::(elsOfC recs chs[i]).drop (k+1):=by
   rw[List.drop_eq_getElem_cons (by rw[hel];exact hlt)]
   congr 1
   simp[elsOfC,hrn]
  rw[hdr]at hS
  by_cases hok:0≤recs[chs[i][k]].1∧recs[chs[i][k]].1≤2147483647
  ·by_cases hbk:bkt recs[chs[i][k]].1.toNat chs.length=i
   ·have hg:¬(¬(0≤recs[chs[i][k]].1∧recs[chs[i][k]].1≤2147483647)∨bkt recs[chs[i][k]].1.toNat chs.length≠i):=fun h=>h.elim (fun h=>h hok) (fun h=>h hbk)
    rcases hp with⟨hk00,rfl⟩ |⟨hk1,hk0,rfl⟩
    ·have hS2:srtF i chs.length none [] (elsOfC recs chs[i])=srtF i chs.length (some recs[chs[i][k]].1) [recs[chs[i][k]].2] ((elsOfC recs chs[i]).drop (k+1)):=by
      rw[hS,srtF,if_neg hg]
     repeat(first |(with_reducible first |apply Q0 |apply Q1 |apply QG |apply Q2 |apply Q3 |apply Q4 |apply Q5 |apply Q6 |apply Q7 |apply Q8 |apply Q9 |apply QA |apply QB |apply QC |apply QD |apply QE |apply QF) |((first |(with_reducible apply QK rfl) |(apply QT;simp only[go_sem]<;>exact rfl));simp(disch:=omega)only[go_sem,hf,hH0,hM,upd_ne,elsA_len,elsA_drop,rowsN,cal21,ctN_21,c21,cal22,ctN_22,c22r,lk120,up120,aMakeMap,hbk,lkK_first,upK_first];exact rfl;simp only[sB,sA,putA];exact rfl) |((first |(with_reducible apply QL rfl) |(apply QM;simp only[go_sem]<;>exact rfl));simp(disch:=omega)only[go_sem,hf,hH0,hM,upd_ne,elsA_len,elsA_drop,rowsN,cal21,ctN_21,c21,cal22,ctN_22,c22r,lk120,up120,aMakeMap,hbk,lkK_first,upK_first];exact rfl;simp only[sB,sA,putA];exact rfl;simp only[logT_none,logT_rd,logT_wr,List.cons_append,List.nil_append];exact rfl) |((first |apply QI |apply QN);simp only[go_sem]<;>exact rfl;simp only[sB,sA,putA];exact rfl) |(refine QO ?_ ?_;first |focus(simp only[dyn_nil,dyn_cons,allY_nil,allY_cons,dj_rr,true_or,true_and];done) |focus(simp only[dyn_nil,dyn_cons,allY_nil,allY_cons,Dj,List.mem_cons,List.not_mem_nil,or_false,forall_eq,forall_eq_or_imp,and_true,true_and,false_imp_iff,implies_true];omega) |focus(simp only[dyn_nil,dyn_cons,allY_nil,allY_cons,and_true,true_and];(repeat' refine And.intro ?_ ?_);all_goals first |(left;simp only[Dj,List.mem_cons,List.not_mem_nil,or_false,forall_eq,forall_eq_or_imp,and_true,true_and,false_imp_iff,implies_true];first |done |omega) |(right;kernel_rfl))) |(apply QQ;simp only[evA,gB,gA];exact rfl) |((first |apply QX |apply QY);(first |rfl |decide |assumption)))
     exact⟨chs[i].length-(k+1),by omega,k+1,s1+1,some recs[chs[i][k]].1,[recs[chs[i][k]].2],by omega,rfl,rfl,by(simp(disch:=omega)only[upd_ne];exact hH0),by(simp(disch:=omega)only[upd_ne,upd_same];try rfl),by omega,by omega,fun q hq=>by(simp(disch:=omega)only[upd_ne];exact hf q (by omega)),hS2,.inr ⟨by simpa using hlt,by omega,rfl⟩⟩
    ·have hrp:=hr _ (List.getElem_mem hk1)
     have hkm:((k:Int)-1).toNat=k-1:=by omega
     have hS1:srtF i chs.length none [] (elsOfC recs chs[i])=if recs[chs[i][k]].1<recs[chs[i][k-1]].1 then false else if recs[chs[i][k-1]].1=recs[chs[i][k]].1 then(if recs[chs[i][k]].2∈seen then false else srtF i chs.length (some recs[chs[i][k]].1) (seen++[recs[chs[i][k]].2]) ((elsOfC recs chs[i]).drop (k+1)))else srtF i chs.length (some recs[chs[i][k]].1) [recs[chs[i][k]].2] ((elsOfC recs chs[i]).drop (k+1)):=by
      rw[hS,srtF,if_neg hg]
     by_cases hl1:recs[chs[i][k]].1<recs[chs[i][k-1]].1
     ·rw[if_pos hl1]at hS1
      rw[hS1]
      repeat(first |(with_reducible first |apply Q0 |apply Q1 |apply QG |apply Q2 |apply Q3 |apply Q4 |apply Q5 |apply Q6 |apply Q7 |apply Q8 |apply Q9 |apply QA |apply QB |apply QC |apply QD |apply QE |apply QF) |((first |(with_reducible apply QK rfl) |(apply QT;simp only[go_sem]<;>exact rfl));simp(disch:=omega)only[go_sem,hf,hH0,hM,upd_ne,elsA_len,elsA_drop,rowsN,cal21,ctN_21,c21,cal22,ctN_22,c22r,lk120,up120,aMakeMap,hbk,hkm];exact rfl;simp only[sB,sA,putA];exact rfl) |((first |(with_reducible apply QL rfl) |(apply QM;simp only[go_sem]<;>exact rfl));simp(disch:=omega)only[go_sem,hf,hH0,hM,upd_ne,elsA_len,elsA_drop,rowsN,cal21,ctN_21,c21,cal22,ctN_22,c22r,lk120,up120,aMakeMap,hbk,hkm];exact rfl;simp only[sB,sA,putA];exact rfl;simp only[logT_none,logT_rd,logT_wr,List.cons_append,List.nil_append];exact rfl) |((first |apply QI |apply QN);simp only[go_sem]<;>exact rfl;simp only[sB,sA,putA];exact rfl) |(refine QO ?_ ?_;first |focus(simp only[dyn_nil,dyn_cons,allY_nil,allY_cons,dj_rr,true_or,true_and];done) |focus(simp only[dyn_nil,dyn_cons,allY_nil,allY_cons,Dj,List.mem_cons,List.not_mem_nil,or_false,forall_eq,forall_eq_or_imp,and_true,true_and,false_imp_iff,implies_true];omega) |focus(simp only[dyn_nil,dyn_cons,allY_nil,allY_cons,and_true,true_and];(repeat' refine And.intro ?_ ?_);all_goals first |(left;simp only[Dj,List.mem_cons,List.not_mem_nil,or_false,forall_eq,forall_eq_or_imp,and_true,true_and,false_imp_iff,implies_true];first |done |omega) |(right;kernel_rfl))) |(apply QQ;simp only[evA,gB,gA];exact rfl) |((first |apply QX |apply QY);(first |rfl |decide |assumption)))
      (apply QZ;simp only[aRes,Try.results96,List.toList_toArray,List.getD_cons_succ,List.getD_cons_zero];exact rfl;simp only[packA];exact rfl)
      exact .sc _
     rw[if_neg hl1]at hS1
     by_cases hl2:recs[chs[i][k-1]].1=recs[chs[i][k]].1
     ·rw[if_pos hl2]at hS1
      by_cases hin:recs[chs[i][k]].2∈seen
      ·rw[if_pos hin]at hS1
       rw[hS1]
       repeat(first |(with_reducible first |apply Q0 |apply Q1 |apply QG |apply Q2 |apply Q3 |apply Q4 |apply Q5 |apply Q6 |apply Q7 |apply Q8 |apply Q9 |apply QA |apply QB |apply QC |apply QD |apply QE |apply QF) |((first |(with_reducible apply QK rfl) |(apply QT;simp only[go_sem]<;>exact rfl));simp(disch:=omega)only[go_sem,hf,hH0,hM,upd_ne,elsA_len,elsA_drop,rowsN,cal21,ctN_21,c21,cal22,ctN_22,c22r,lk120,up120,aMakeMap,hbk,hkm,lkK_one,hin];exact rfl;simp only[sB,sA,putA];exact rfl) |((first |(with_reducible apply QL rfl) |(apply QM;simp only[go_sem]<;>exact rfl));simp(disch:=omega)only[go_sem,hf,hH0,hM,upd_ne,elsA_len,elsA_drop,rowsN,cal21,ctN_21,c21,cal22,ctN_22,c22r,lk120,up120,aMakeMap,hbk,hkm,lkK_one,hin];exact rfl;simp only[sB,sA,putA];exact rfl;simp only[logT_none,logT_rd,logT_wr,List.cons_append,List.nil_append];exact rfl) |((first |apply QI |apply QN);simp only[go_sem]<;>exact rfl;simp only[sB,sA,putA];exact rfl) |(refine QO ?_ ?_;first |focus(simp only[dyn_nil,dyn_cons,allY_nil,allY_cons,dj_rr,true_or,true_and];done) |focus(simp only[dyn_nil,dyn_cons,allY_nil,allY_cons,Dj,List.mem_cons,List.not_mem_nil,or_false,forall_eq,forall_eq_or_imp,and_true,true_and,false_imp_iff,implies_true];omega) |focus(simp only[dyn_nil,dyn_cons,allY_nil,allY_cons,and_true,true_and];(repeat' refine And.intro ?_ ?_);all_goals first |(left;simp only[Dj,List.mem_cons,List.not_mem_nil,or_false,forall_eq,forall_eq_or_imp,and_true,true_and,false_imp_iff,implies_true];first |done |omega) |(right;kernel_rfl))) |(apply QQ;simp only[evA,gB,gA];exact rfl) |((first |apply QX |apply QY);(first |rfl |decide |assumption)))
       (apply QZ;simp only[aRes,Try.results96,List.toList_toArray,List.getD_cons_succ,List.getD_cons_zero];exact rfl;simp only[packA];exact rfl)
       exact .sc _
      ·rw[if_neg hin]at hS1
       have hS2:=hS1
       repeat(first |(with_reducible first |apply Q0 |apply Q1 |apply QG |apply Q2 |apply Q3 |apply Q4 |apply Q5 |apply Q6 |apply Q7 |apply Q8 |apply Q9 |apply QA |apply QB |apply QC |apply QD |apply QE |apply QF) |((first |(with_reducible apply QK rfl) |(apply QT;simp only[go_sem]<;>exact rfl));simp(disch:=omega)only[go_sem,hf,hH0,hM,upd_ne,elsA_len,elsA_drop,rowsN,cal21,ctN_21,c21,cal22,ctN_22,c22r,lk120,up120,aMakeMap,hbk,hkm,lkK_one,hin,upK_one];exact rfl;simp only[sB,sA,putA];exact rfl) |((first |(with_reducible apply QL rfl) |(apply QM;simp only[go_sem]<;>exact rfl));simp(disch:=omega)only[go_sem,hf,hH0,hM,upd_ne,elsA_len,elsA_drop,rowsN,cal21,ctN_21,c21,cal22,ctN_22,c22r,lk120,up120,aMakeMap,hbk,hkm,lkK_one,hin,upK_one];exact rfl;simp only[sB,sA,putA];exact rfl;simp only[logT_none,logT_rd,logT_wr,List.cons_append,List.nil_append];exact rfl) |((first |apply QI |apply QN);simp only[go_sem]<;>exact rfl;simp only[sB,sA,putA];exact rfl) |(refine QO ?_ ?_;first |focus(simp only[dyn_nil,dyn_cons,allY_nil,allY_cons,dj_rr,true_or,true_and];done) |focus(simp only[dyn_nil,dyn_cons,allY_nil,allY_cons,Dj,List.mem_cons,List.not_mem_nil,or_false,forall_eq,forall_eq_or_imp,and_true,true_and,false_imp_iff,implies_true];omega) |focus(simp only[dyn_nil,dyn_cons,allY_nil,allY_cons,and_true,true_and];(repeat' refine And.intro ?_ ?_);all_goals first |(left;simp only[Dj,List.mem_cons,List.not_mem_nil,or_false,forall_eq,forall_eq_or_imp,and_true,true_and,false_imp_iff,implies_true];first |done |omega) |(right;kernel_rfl))) |(apply QQ;simp only[evA,gB,gA];exact rfl) |((first |apply QX |apply QY);(first |rfl |decide |assumption)))
       exact⟨chs[i].length-(k+1),by omega,k+1,nm,some recs[chs[i][k]].1,seen++[recs[chs[i][k]].2],by omega,rfl,rfl,by(simp(disch:=omega)only[upd_ne];exact hH0),by(simp(disch:=omega)only[upd_ne,upd_same];try rfl),by omega,by omega,fun q hq=>by(simp(disch:=omega)only[upd_ne];exact hf q (by omega)),hS2,.inr ⟨by simpa using hlt,by omega,rfl⟩⟩
     ·rw[if_neg hl2]at hS1
      have hS2:=hS1
      repeat(first |(with_reducible first |apply Q0 |apply Q1 |apply QG |apply Q2 |apply Q3 |apply Q4 |apply Q5 |apply Q6 |apply Q7 |apply Q8 |apply Q9 |apply QA |apply QB |apply QC |apply QD |apply QE |apply QF) |((first |(with_reducible apply QK rfl) |(apply QT;simp only[go_sem]<;>exact rfl));simp(disch:=omega)only[go_sem,hf,hH0,hM,upd_ne,elsA_len,elsA_drop,rowsN,cal21,ctN_21,c21,cal22,ctN_22,c22r,lk120,up120,aMakeMap,hbk,hkm,lkK_first,upK_first];exact rfl;simp only[sB,sA,putA];exact rfl) |((first |(with_reducible apply QL rfl) |(apply QM;simp only[go_sem]<;>exact rfl));simp(disch:=omega)only[go_sem,hf,hH0,hM,upd_ne,elsA_len,elsA_drop,rowsN,cal21,ctN_21,c21,cal22,ctN_22,c22r,lk120,up120,aMakeMap,hbk,hkm,lkK_first,upK_first];exact rfl;simp only[sB,sA,putA];exact rfl;simp only[logT_none,logT_rd,logT_wr,List.cons_append,List.nil_append];exact rfl) |((first |apply QI |apply QN);simp only[go_sem]<;>exact rfl;simp only[sB,sA,putA];exact rfl) |(refine QO ?_ ?_;first |focus(simp only[dyn_nil,dyn_cons,allY_nil,allY_cons,dj_rr,true_or,true_and];done) |focus(simp only[dyn_nil,dyn_cons,allY_nil,allY_cons,Dj,List.mem_cons,List.not_mem_nil,or_false,forall_eq,forall_eq_or_imp,and_true,true_and,false_imp_iff,implies_true];omega) |focus(simp only[dyn_nil,dyn_cons,allY_nil,allY_cons,and_true,true_and];(repeat' refine And.intro ?_ ?_);all_goals first |(left;simp only[Dj,List.mem_cons,List.not_mem_nil,or_false,forall_eq,forall_eq_or_imp,and_true,true_and,false_imp_iff,implies_true];first |done |omega) |(right;kernel_rfl))) |(apply QQ;simp only[evA,gB,gA];exact rfl) |((first |apply QX |apply QY);(first |rfl |decide |assumption)))
      exact⟨chs[i].length-(k+1),by omega,k+1,s1+1,some recs[chs[i][k]].1,[recs[chs[i][k]].2],by omega,rfl,rfl,by(simp(disch:=omega)only[upd_ne];exact hH0),by(simp(disch:=omega)only[upd_ne,upd_same];try rfl),by omega,by omega,fun q hq=>by(simp(disch:=omega)only[upd_ne];exact hf q (by omega)),hS2,.inr ⟨by simpa using hlt,by omega,rfl⟩⟩
   ·have hg:¬(0≤recs[chs[i][k]].1∧recs[chs[i][k]].1≤2147483647)∨bkt recs[chs[i][k]].1.toNat chs.length≠i:=.inr hbk
    rw[hS,srtF_bad hg]
    repeat(first |(with_reducible first |apply Q0 |apply Q1 |apply QG |apply Q2 |apply Q3 |apply Q4 |apply Q5 |apply Q6 |apply Q7 |apply Q8 |apply Q9 |apply QA |apply QB |apply QC |apply QD |apply QE |apply QF) |((first |(with_reducible apply QK rfl) |(apply QT;simp only[go_sem]<;>exact rfl));simp(disch:=omega)only[go_sem,hf,hH0,hM,upd_ne,elsA_len,elsA_drop,rowsN,cal21,ctN_21,c21,cal22,ctN_22,c22r,lk120,up120,aMakeMap];exact rfl;simp only[sB,sA,putA];exact rfl) |((first |(with_reducible apply QL rfl) |(apply QM;simp only[go_sem]<;>exact rfl));simp(disch:=omega)only[go_sem,hf,hH0,hM,upd_ne,elsA_len,elsA_drop,rowsN,cal21,ctN_21,c21,cal22,ctN_22,c22r,lk120,up120,aMakeMap];exact rfl;simp only[sB,sA,putA];exact rfl;simp only[logT_none,logT_rd,logT_wr,List.cons_append,List.nil_append];exact rfl) |((first |apply QI |apply QN);simp only[go_sem]<;>exact rfl;simp only[sB,sA,putA];exact rfl) |(refine QO ?_ ?_;first |focus(simp only[dyn_nil,dyn_cons,allY_nil,allY_cons,dj_rr,true_or,true_and];done) |focus(simp only[dyn_nil,dyn_cons,allY_nil,allY_cons,Dj,List.mem_cons,List.not_mem_nil,or_false,forall_eq,forall_eq_or_imp,and_true,true_and,false_imp_iff,implies_true];omega) |focus(simp only[dyn_nil,dyn_cons,allY_nil,allY_cons,and_true,true_and];(repeat' refine And.intro ?_ ?_);all_goals first |(left;simp only[Dj,List.mem_cons,List.not_mem_nil,or_false,forall_eq,forall_eq_or_imp,and_true,true_and,false_imp_iff,implies_true];first |done |omega) |(right;kernel_rfl))) |(apply QQ;simp only[evA,gB,gA];exact rfl) |((first |apply QX |apply QY);(first |rfl |decide |assumption)))
    (apply QZ;simp only[aRes,Try.results96,List.toList_toArray,List.getD_cons_succ,List.getD_cons_zero];exact rfl;simp only[packA];exact rfl)
    exact .sc _
  ·have hg:¬(0≤recs[chs[i][k]].1∧recs[chs[i][k]].1≤2147483647)∨bkt recs[chs[i][k]].1.toNat chs.length≠i:=.inl hok
   rw[hS,srtF_bad hg]
   repeat(first |(with_reducible first |apply Q0 |apply Q1 |apply QG |apply Q2 |apply Q3 |apply Q4 |apply Q5 |apply Q6 |apply Q7 |apply Q8 |apply Q9 |apply QA |apply QB |apply QC |apply QD |apply QE |apply QF) |((first |(with_reducible apply QK rfl) |(apply QT;simp only[go_sem]<;>exact rfl));simp(disch:=omega)only[go_sem,hf,hH0,hM,upd_ne,elsA_len,elsA_drop,rowsN,cal21,ctN_21,c21,cal22,ctN_22,c22r,lk120,up120,aMakeMap];exact rfl;simp only[sB,sA,putA];exact rfl) |((first |(with_reducible apply QL rfl) |(apply QM;simp only[go_sem]<;>exact rfl));simp(disch:=omega)only[go_sem,hf,hH0,hM,upd_ne,elsA_len,elsA_drop,rowsN,cal21,ctN_21,c21,cal22,ctN_22,c22r,lk120,up120,aMakeMap];exact rfl;simp only[sB,sA,putA];exact rfl;simp only[logT_none,logT_rd,logT_wr,List.cons_append,List.nil_append];exact rfl) |((first |apply QI |apply QN);simp only[go_sem]<;>exact rfl;simp only[sB,sA,putA];exact rfl) |(refine QO ?_ ?_;first |focus(simp only[dyn_nil,dyn_cons,allY_nil,allY_cons,dj_rr,true_or,true_and];done) |focus(simp only[dyn_nil,dyn_cons,allY_nil,allY_cons,Dj,List.mem_cons,List.not_mem_nil,or_false,forall_eq,forall_eq_or_imp,and_true,true_and,false_imp_iff,implies_true];omega) |focus(simp only[dyn_nil,dyn_cons,allY_nil,allY_cons,and_true,true_and];(repeat' refine And.intro ?_ ?_);all_goals first |(left;simp only[Dj,List.mem_cons,List.not_mem_nil,or_false,forall_eq,forall_eq_or_imp,and_true,true_and,false_imp_iff,implies_true];first |done |omega) |(right;kernel_rfl))) |(apply QQ;simp only[evA,gB,gA];exact rfl) |((first |apply QX |apply QY);(first |rfl |decide |assumption)))
   (apply QZ;simp only[aRes,Try.results96,List.toList_toArray,List.getD_cons_succ,List.getD_cons_zero];exact rfl;simp only[packA];exact rfl)
   exact .sc _
 ·obtain rfl:k=chs[i].length:=by omega
  rw[List.drop_of_length_le (by omega)]at hS
  rw[hS]
  repeat(first |(with_reducible first |apply Q0 |apply Q1 |apply Q2 |apply Q3 |apply Q4 |apply Q5 |apply Q6 |apply Q7 |apply Q8 |apply Q9 |apply QA |apply QB |apply QC |apply QD |apply QE |apply QF) |((with_reducible apply QK rfl);simp(disch:=omega)only[go_sem];exact rfl;simp only[sB,sA,putA];exact rfl) |(apply QQ;simp only[evA,gB,gA];exact rfl) |((first |apply QX |apply QY);(first |rfl |decide |assumption)))
  (apply QZ;simp only[aRes,Try.results96,List.toList_toArray,List.getD_cons_succ,List.getD_cons_zero];exact rfl;simp only[packA];exact rfl)
  exact .sc _
end Go.Proofs.Ytdcomhdadnhpnaa
end
section
namespace Go.Proofs.Ytdcomhdadnhpnaa
open Go Go.Am Go.RowKit
attribute [local irreducible] wA opsQ opsLQ thenA blockA EndA
set_option maxRecDepth 100000 in
set_option maxHeartbeats 1000000 in
theorem equal_call (l m:List Int) (hl:l.length≤1000000000) (hm:m.length≤1000000000):RC Try.prog 107 [.dsl l.length (ints l),.dsl m.length (ints m)] (.sc (.bool (decide (l=m)))):=by
 refine rc_of hmix (ct:=noCT) noCT_ok Try.func107 rfl (by kernel_rfl) (fun E s hs=>?_)
 simp(maxSteps:=300000)only[begA,Try.ntmps107,List.replicate_succ,List.replicate_zero,List.length_cons,List.length_nil,List.cons_append,List.nil_append]
 by_cases hne:l.length=m.length
 ·repeat(first |(with_reducible first |apply Q0 |apply Q1 |apply Q2 |apply Q3 |apply Q4 |apply Q5 |apply Q6 |apply Q7 |apply Q8 |apply Q9 |apply QA |apply QB |apply QC |apply QD |apply QE |apply QF) |((with_reducible apply QK rfl);simp(disch:=omega)only[go_sem];exact rfl;simp only[sB,sA,putA];exact rfl) |(apply QQ;simp only[evA,gB,gA];exact rfl) |((first |apply QX |apply QY);(first |rfl |decide |assumption)))
  refine AWp.loop [0,1,5] (fun Γ H s' mm=>∃j:Nat,j≤l.length∧mm=l.length-j∧Γ=[.dsl l.length (ints l),.dsl m.length (ints m)]++(List.replicate 3 .junk)++[.sc (.int .i64 (j:Nat))]++(List.replicate 20 .junk)∧∀i (h1:i<j) (h2:i<l.length) (h3:i<m.length),l[i]=m[i]) l.length ?_ ?_
  ·exact⟨0,Nat.zero_le _,rfl,rfl,fun i h=>absurd h (by omega)⟩
  rintro Γ H s1 mm ⟨j,hj,rfl,rfl,hI⟩
  refine wA_ok hmix noCT_ok _ (by kernel_rfl) ?_
  simp(maxSteps:=1000000)only[List.replicate_succ,List.replicate_zero,List.cons_append,List.nil_append,List.append_nil]
  by_cases hlt:j<l.length
  ·have hlt2:j<m.length:=by omega
   by_cases he:l[j]=m[j]
   ·repeat(first |(with_reducible first |apply Q0 |apply Q1 |apply QG |apply Q2 |apply Q3 |apply Q4 |apply Q5 |apply Q6 |apply Q7 |apply Q8 |apply Q9 |apply QA |apply QB |apply QC |apply QD |apply QE |apply QF) |((with_reducible apply QK rfl);simp(disch:=omega)only[go_sem,ints_len,he];exact rfl;simp only[sB,sA,putA];exact rfl) |((first |(with_reducible apply QL rfl) |(apply QM;simp only[go_sem]<;>exact rfl));simp(disch:=omega)only[go_sem,ints_len,he];exact rfl;simp only[sB,sA,putA];exact rfl;simp only[logT_none,logT_rd,logT_wr,List.cons_append,List.nil_append];exact rfl) |((first |apply QI |apply QN);simp only[go_sem]<;>exact rfl;simp only[sB,sA,putA];exact rfl) |(refine QO ?_ ?_;first |focus(simp only[dyn_nil,dyn_cons,allY_nil,allY_cons,dj_rr,true_or,true_and];done) |focus(simp only[dyn_nil,dyn_cons,allY_nil,allY_cons,Dj,List.mem_cons,List.not_mem_nil,or_false,forall_eq,forall_eq_or_imp,and_true,true_and,false_imp_iff,implies_true];omega) |focus(simp only[dyn_nil,dyn_cons,allY_nil,allY_cons,and_true,true_and];(repeat' refine And.intro ?_ ?_);all_goals first |(left;simp only[Dj,List.mem_cons,List.not_mem_nil,or_false,forall_eq,forall_eq_or_imp,and_true,true_and,false_imp_iff,implies_true];first |done |omega) |(right;kernel_rfl))) |(apply QQ;simp only[evA,gB,gA];exact rfl) |((first |apply QX |apply QY);(first |rfl |decide |assumption)))
    refine⟨l.length-(j+1),by omega,j+1,by omega,rfl,rfl,fun i h1 h2 h3=>?_⟩
    by_cases e:i=j
    ·subst e;exact he
    ·exact hI i (by omega) h2 h3
   ·repeat(first |(with_reducible first |apply Q0 |apply Q1 |apply QG |apply Q2 |apply Q3 |apply Q4 |apply Q5 |apply Q6 |apply Q7 |apply Q8 |apply Q9 |apply QA |apply QB |apply QC |apply QD |apply QE |apply QF) |((with_reducible apply QK rfl);simp(disch:=omega)only[go_sem,ints_len,he];exact rfl;simp only[sB,sA,putA];exact rfl) |((first |(with_reducible apply QL rfl) |(apply QM;simp only[go_sem]<;>exact rfl));simp(disch:=omega)only[go_sem,ints_len,he];exact rfl;simp only[sB,sA,putA];exact rfl;simp only[logT_none,logT_rd,logT_wr,List.cons_append,List.nil_append];exact rfl) |((first |apply QI |apply QN);simp only[go_sem]<;>exact rfl;simp only[sB,sA,putA];exact rfl) |(refine QO ?_ ?_;first |focus(simp only[dyn_nil,dyn_cons,allY_nil,allY_cons,dj_rr,true_or,true_and];done) |focus(simp only[dyn_nil,dyn_cons,allY_nil,allY_cons,Dj,List.mem_cons,List.not_mem_nil,or_false,forall_eq,forall_eq_or_imp,and_true,true_and,false_imp_iff,implies_true];omega) |focus(simp only[dyn_nil,dyn_cons,allY_nil,allY_cons,and_true,true_and];(repeat' refine And.intro ?_ ?_);all_goals first |(left;simp only[Dj,List.mem_cons,List.not_mem_nil,or_false,forall_eq,forall_eq_or_imp,and_true,true_and,false_imp_iff,implies_true];first |done |omega) |(right;kernel_rfl))) |(apply QQ;simp only[evA,gB,gA];exact rfl) |((first |apply QX |apply QY);(first |rfl |decide |assumption)))
    (apply QZ;simp only[aRes,Try.results107,List.toList_toArray,List.getD_cons_succ,List.getD_cons_zero];exact rfl;simp only[packA];exact rfl)
    have:decide (l=m)=false:=decide_eq_false fun e=>he (by subst e;rfl)
    rw[this]
    exact .sc _
  ·repeat(first |(with_reducible first |apply Q0 |apply Q1 |apply Q2 |apply Q3 |apply Q4 |apply Q5 |apply Q6 |apply Q7 |apply Q8 |apply Q9 |apply QA |apply QB |apply QC |apply QD |apply QE |apply QF) |((with_reducible apply QK rfl);simp(disch:=omega)only[go_sem];exact rfl;simp only[sB,sA,putA];exact rfl) |(apply QQ;simp only[evA,gB,gA];exact rfl) |((first |apply QX |apply QY);(first |rfl |decide |assumption)))
   (apply QZ;simp only[aRes,Try.results107,List.toList_toArray,List.getD_cons_succ,List.getD_cons_zero];exact rfl;simp only[packA];exact rfl)
   have:decide (l=m)=true:=decide_eq_true (List.ext_getElem hne (fun i h1 h2=>hI i (by omega) h1 h2))
   rw[this]
   exact .sc _
 ·repeat(first |(with_reducible first |apply Q0 |apply Q1 |apply Q2 |apply Q3 |apply Q4 |apply Q5 |apply Q6 |apply Q7 |apply Q8 |apply Q9 |apply QA |apply QB |apply QC |apply QD |apply QE |apply QF) |((with_reducible apply QK rfl);simp(disch:=omega)only[go_sem];exact rfl;simp only[sB,sA,putA];exact rfl) |(apply QQ;simp only[evA,gB,gA];exact rfl) |((first |apply QX |apply QY);(first |rfl |decide |assumption)))
  (apply QZ;simp only[aRes,Try.results107,List.toList_toArray,List.getD_cons_succ,List.getD_cons_zero];exact rfl;simp only[packA];exact rfl)
  have:decide (l=m)=false:=decide_eq_false (fun e=>hne (by rw[e]))
  rw[this]
  exact .sc _
structure WOK (recs:List (Int×Int)) (chs:List (List Nat)):Prop where
 n:recs.length≤100000
 b:chs.length=bkts recs.length
 r:∀c∈chs,∀r∈c,r<recs.length
 l:∀c∈chs,c.length≤100000
open Classical in
noncomputable def c51:List AV→AP AV
 | [x]=>rdT x fun recs chs=>if WOK recs chs then .ret (.dsl (wordsF recs chs).length (ints (wordsF recs chs)))else .fail
 |_=>.fail
open Classical in
noncomputable def c96:List AV→AP AV
 | [x,.sc (.int .i64 i)]=>rdT x fun recs chs=>if WOK recs chs∧0≤i∧i.toNat<chs.length then .ret (.sc (.bool (srtF i.toNat chs.length none [] (elsOfC recs (chs.getD i.toNat [])))))else .fail
 |_=>.fail
def c106:List AV→AP AV
 | [t,.sc (.int .i64 n),.sc (.int .i64 i)]=>rdK t fun l=>if 0≤n∧n≤100000∧l.length=wlen n.toNat∧0≤i∧i<(bkts n.toNat:Nat)then .ret (chG (chF l n.toNat n.toNat (headAt i.toNat)))else .fail
 |_=>.fail
def c107:List AV→AP AV
 | [a,b]=>rdK a fun l=>rdK b fun m=>if l.length≤1000000000∧m.length≤1000000000 then .ret (.sc (.bool (decide (l=m))))else .fail
 |_=>.fail
theorem a51 (args:List AV):ACall Try.prog 51 args (c51 args):=by
 intro ρ H w vs hR hA s r H' s' hm
 unfold c51 at hm
 split at hm
 ·obtain⟨v0,rfl,hv0⟩:=reps1 hA
  obtain⟨recs,chs,hr,hm⟩:=rdT_data hR hv0 hm
  split at hm
  ·rename_i hw
   simp only[AP.run,Option.some.injEq,Prod.mk.injEq]at hm
   obtain⟨rfl,rfl,rfl⟩:=hm
   exact(words_call recs chs hw.n hw.b hw.r hw.l).acall hR (.cons hr .nil)
  ·simp[AP.run]at hm
 ·simp[AP.run]at hm
theorem a96 (args:List AV):ACall Try.prog 96 args (c96 args):=by
 intro ρ H w vs hR hA s r H' s' hm
 unfold c96 at hm
 split at hm
 ·rename_i x i
  obtain⟨v0,v1,rfl,hv0,hv1⟩:=reps2 hA
  obtain⟨recs,chs,hr,hm⟩:=rdT_data hR hv0 hm
  split at hm
  ·rename_i hw
   obtain⟨hw,h0,h1⟩:=hw
   simp only[AP.run,Option.some.injEq,Prod.mk.injEq]at hm
   obtain⟨rfl,rfl,rfl⟩:=hm
   obtain rfl:=Rep.sc_iff.1 hv1
   have e:chs.getD i.toNat []=chs[i.toNat]:=by simp[h1]
   rw[e]
   have:=sorted_call recs chs i.toNat h1 hw.n (by rw[hw.b];have:=hw.n;exact bkts_le _ (by omega)) (hw.r _ (List.getElem_mem h1)) (hw.l _ (List.getElem_mem h1))
   rw[show((i.toNat:Nat):Int)=i by omega]at this
   exact this.acall hR (.cons hr (.cons (.sc _) .nil))
  ·simp[AP.run]at hm
 ·simp[AP.run]at hm
theorem a106 (args:List AV):ACall Try.prog 106 args (c106 args):=by
 intro ρ H w vs hR hA s r H' s' hm
 unfold c106 at hm
 split at hm
 ·rename_i t n i
  obtain⟨v0,v1,v2,rfl,hv0,hv1,hv2⟩:∃x y z,vs=[x,y,z]∧Rep ρ (own ρ H) w _ x∧Rep ρ (own ρ H) w _ y∧Rep ρ (own ρ H) w _ z:=by
   obtain⟨x,t,rfl,h1,h2⟩:=Reps.uncons hA
   obtain⟨y,z,rfl,h3,h4⟩:=reps2 h2
   exact⟨x,y,z,rfl,h1,h3,h4⟩
  obtain⟨l,hr,hm⟩:=rdK_data hR hv0 hm
  split at hm
  ·rename_i hw
   obtain⟨h1,h2,h3,h4,h5⟩:=hw
   simp only[AP.run,Option.some.injEq,Prod.mk.injEq]at hm
   obtain⟨rfl,rfl,rfl⟩:=hm
   obtain rfl:=Rep.sc_iff.1 hv1
   obtain rfl:=Rep.sc_iff.1 hv2
   have:=chain_call l n.toNat i.toNat (by omega) h3 (by omega)
   rw[show((i.toNat:Nat):Int)=i by omega,show((n.toNat:Nat):Int)=n by omega]at this
   exact this.acall hR (.cons hr (.cons (.sc _) (.cons (.sc _) .nil)))
  ·simp[AP.run]at hm
 ·simp[AP.run]at hm
theorem a107 (args:List AV):ACall Try.prog 107 args (c107 args):=by
 intro ρ H w vs hR hA s r H' s' hm
 unfold c107 at hm
 split at hm
 ·obtain⟨v0,v1,rfl,hv0,hv1⟩:=reps2 hA
  obtain⟨l,hr,hm⟩:=rdK_data hR hv0 hm
  obtain⟨m,hr2,hm⟩:=rdK_data hR hv1 hm
  split at hm
  ·rename_i hw
   simp only[AP.run,Option.some.injEq,Prod.mk.injEq]at hm
   obtain⟨rfl,rfl,rfl⟩:=hm
   exact(equal_call l m hw.1 hw.2).acall hR (.cons hr (.cons hr2 .nil))
  ·simp[AP.run]at hm
 ·simp[AP.run]at hm
noncomputable def ctQ:CT:=fun f args=>if f=51 then c51 args else if f=96 then c96 args else if f=106 then c106 args else if f=107 then c107 args else ctN f args
theorem ctQ_ok:CTok Try.prog ctQ:=fun f args=>by
 unfold ctQ
 split
 ·rename_i e;subst e;exact a51 args
 split
 ·rename_i e;subst e;exact a96 args
 split
 ·rename_i e;subst e;exact a106 args
 split
 ·rename_i e;subst e;exact a107 args
 ·exact ctN_ok f args
theorem ctQ_18 (a:List AV):ctQ 18 a=c18r a:=rfl
theorem ctQ_22 (a:List AV):ctQ 22 a=c22r a:=rfl
theorem ctQ_19 (a:List AV):ctQ 19 a=c19r a:=rfl
theorem ctQ_91 (a:List AV):ctQ 91 a=c91r a:=rfl
theorem ctQ_51 (a:List AV):ctQ 51 a=c51 a:=rfl
theorem ctQ_96 (a:List AV):ctQ 96 a=c96 a:=rfl
theorem ctQ_106 (a:List AV):ctQ 106 a=c106 a:=rfl
theorem ctQ_107 (a:List AV):ctQ 107 a=c107 a:=rfl
theorem cal51:callable Try.prog 51=true:=by kernel_rfl
theorem cal96:callable Try.prog 96=true:=by kernel_rfl
theorem cal106:callable Try.prog 106=true:=by kernel_rfl
theorem cal107:callable Try.prog 107=true:=by kernel_rfl
end Go.Proofs.Ytdcomhdadnhpnaa
end
