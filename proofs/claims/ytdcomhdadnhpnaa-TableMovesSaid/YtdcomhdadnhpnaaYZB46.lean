import Derived.Test.YtdcomhdadnhpnaaYZC4
import Derived.Test.YtdcomhdadnhpnaaYZB42
import Derived.Test.YtdcomhdadnhpnaaYZP26
import Derived.Test.YtdcomhdadnhpnaaYZP28
import Derived.Test.YtdcomhdadnhpnaaYZT32
import Derived.Test.YtdcomhdadnhpnaaYZB55
set_option linter.all false
namespace Go.Proofs.Ytdcomhdadnhpnaa
open Go Go.Am Go.RowKit
attribute [local irreducible] wA opsQ opsLQ thenA blockA EndA
attribute [local go_sem] Try.underlying106
theorem sameF_rev {t u:List Int} (hT:ValidL t) (hU:ValidL u) (hn:(recsT t).length=(recsT u).length):(∀e∈recsT u,e∈recsT t)↔∀e∈recsT t,e∈recsT u:=
 ⟨fun h=>sub_rev (recsT_nodup hU) (by omega) h,fun h=>sub_rev (recsT_nodup hT) (by omega) h⟩
theorem ctJ_79' (a:List AV):ctJ 79 a=c79 a:=rfl
theorem scal78:callable Try.prog 78=true:=by kernel_rfl
theorem scal79:callable Try.prog 79=true:=by kernel_rfl
set_option maxRecDepth 100000 in
set_option maxHeartbeats 8000000 in
theorem rsame_rc (t u:List Int) (ht:t.length≤1000000000) (hu:u.length≤1000000000):RC Try.prog 60 [.dsl t.length (ints t),.dsl u.length (ints u)] (.tup [.sc (.bool (sameF t u).1),.sc (.int .i64 (sameF t u).2)]):=by
 refine rc_of hmix ctJ_ok Try.func60 rfl (by kernel_rfl) (fun E s hs=>?_)
 simp(maxSteps:=300000)only[begA,Try.ntmps60,List.replicate_succ,List.replicate_zero,List.length_cons,List.length_nil,List.cons_append,List.nil_append]
 by_cases hT:ValidL t
 rotate_left
 ·rw[sameF_bad (.inl hT)]
  by_cases hU:ValidL u
  ·repeat(first |(with_reducible first |apply Q0 |apply Q1 |apply Q2 |apply Q3 |apply Q4 |apply Q5 |apply Q6 |apply Q7 |apply Q8 |apply Q9 |apply QA |apply QB |apply QC |apply QD |apply QE |apply QF) |((first |(with_reducible apply QK rfl) |(apply QT;simp only[go_sem]<;>exact rfl));simp(disch:=omega)only[go_sem,hs,upd_ne,scal78,ctJ_78,c78,rdD_dsl,ht,hu,hT,hU,tabG];exact rfl;simp only[sB,sA,putA];exact rfl) |(apply QI;simp only[go_sem]<;>exact rfl;simp only[sB,sA,putA];exact rfl) |(apply QQ;simp only[evA,gB,gA];exact rfl) |((first |apply QX |apply QY);(first |rfl |decide |assumption)))
   (apply QZ;simp(disch:=omega)only[go_sem,Try.results60];exact rfl;simp only[packA];exact rfl)
   exact .tup2 (.sc _) (.sc _)
  ·repeat(first |(with_reducible first |apply Q0 |apply Q1 |apply Q2 |apply Q3 |apply Q4 |apply Q5 |apply Q6 |apply Q7 |apply Q8 |apply Q9 |apply QA |apply QB |apply QC |apply QD |apply QE |apply QF) |((first |(with_reducible apply QK rfl) |(apply QT;simp only[go_sem]<;>exact rfl));simp(disch:=omega)only[go_sem,hs,upd_ne,scal78,ctJ_78,c78,rdD_dsl,ht,hu,hT,hU,tabG];exact rfl;simp only[sB,sA,putA];exact rfl) |(apply QI;simp only[go_sem]<;>exact rfl;simp only[sB,sA,putA];exact rfl) |(apply QQ;simp only[evA,gB,gA];exact rfl) |((first |apply QX |apply QY);(first |rfl |decide |assumption)))
   (apply QZ;simp(disch:=omega)only[go_sem,Try.results60];exact rfl;simp only[packA];exact rfl)
   exact .tup2 (.sc _) (.sc _)
 by_cases hU:ValidL u
 rotate_left
 ·rw[sameF_bad (.inr hU)]
  repeat(first |(with_reducible first |apply Q0 |apply Q1 |apply Q2 |apply Q3 |apply Q4 |apply Q5 |apply Q6 |apply Q7 |apply Q8 |apply Q9 |apply QA |apply QB |apply QC |apply QD |apply QE |apply QF) |((first |(with_reducible apply QK rfl) |(apply QT;simp only[go_sem]<;>exact rfl));simp(disch:=omega)only[go_sem,hs,upd_ne,scal78,ctJ_78,c78,rdD_dsl,ht,hu,hT,hU,tabG];exact rfl;simp only[sB,sA,putA];exact rfl) |(apply QI;simp only[go_sem]<;>exact rfl;simp only[sB,sA,putA];exact rfl) |(apply QQ;simp only[evA,gB,gA];exact rfl) |((first |apply QX |apply QY);(first |rfl |decide |assumption)))
  (apply QZ;simp(disch:=omega)only[go_sem,Try.results60];exact rfl;simp only[packA];exact rfl)
  exact .tup2 (.sc _) (.sc _)
 have yes:((recsT t).length=(recsT u).length∧∀e∈recsT u,e∈recsT t)→sameF t u=(true,0):=sameF_yes hT hU
 have no:¬((recsT t).length=(recsT u).length∧∀e∈recsT u,e∈recsT t)→sameF t u=(false,0):=sameF_no hT hU
 have hrev:=sameF_rev hT hU
 have hW:=wok_valid hU
 have hWT:=wok_valid hT
 have hn1:=hWT.n
 have hmem:=of_mem hU
 have hhash:∀e∈recsT t,0≤e.1∧e.1≤4294967296:=fun e he=>by
  obtain⟨r,hr,rfl⟩:=List.mem_iff_getElem.1 he
  rw[recsT_at hr]
  have hrl:(recsT t).length=tabN t:=recsF_len t _
  have:=(tab_g hT).hash r (by omega)
  exact⟨this.1,by have:=this.2;simp only[elm];omega⟩
 obtain⟨T,hT1⟩:∃T,recsT t=T:=⟨_,rfl⟩
 obtain⟨U,hU1⟩:∃U,recsT u=U:=⟨_,rfl⟩
 obtain⟨cT,hT2⟩:∃c,chsT t=c:=⟨_,rfl⟩
 obtain⟨cU,hU2⟩:∃c,chsT u=c:=⟨_,rfl⟩
 rw[hT1,hU1]at yes no hrev
 rw[hU1,hU2]at hW hmem
 rw[hT1]at hn1 hhash
 have hlT:=elsA_len T
 by_cases hn:T.length=U.length
 rotate_left
 ·have hnI:¬((T.length:Nat):Int)=((U.length:Nat):Int):=by omega
  rw[no (fun h=>hn h.1)]
  repeat(first |(with_reducible first |apply Q0 |apply Q1 |apply Q2 |apply Q3 |apply Q4 |apply Q5 |apply Q6 |apply Q7 |apply Q8 |apply Q9 |apply QA |apply QB |apply QC |apply QD |apply QE |apply QF) |((first |(with_reducible apply QK rfl) |(apply QT;simp only[go_sem]<;>exact rfl));simp(disch:=omega)only[go_sem,hs,upd_ne,scal78,ctJ_78,c78,rdD_dsl,ht,hu,hT,hU,hT1,hU1,hT2,hU2,tabG,hnI];exact rfl;simp only[sB,sA,putA];exact rfl) |(apply QI;simp only[go_sem]<;>exact rfl;simp only[sB,sA,putA];exact rfl) |(apply QQ;simp only[evA,gB,gA];exact rfl) |((first |apply QX |apply QY);(first |rfl |decide |assumption)))
  (apply QZ;simp(disch:=omega)only[go_sem,Try.results60];exact rfl;simp only[packA];exact rfl)
  exact .tup2 (.sc _) (.sc _)
 have hnI:((T.length:Nat):Int)=((U.length:Nat):Int):=by omega
 repeat(first |(with_reducible first |apply Q0 |apply Q1 |apply Q2 |apply Q3 |apply Q4 |apply Q5 |apply Q6 |apply Q7 |apply Q8 |apply Q9 |apply QA |apply QB |apply QC |apply QD |apply QE |apply QF) |((first |(with_reducible apply QK rfl) |(apply QT;simp only[go_sem]<;>exact rfl));simp(disch:=omega)only[go_sem,hs,upd_ne,scal78,ctJ_78,c78,rdD_dsl,ht,hu,hT,hU,hT1,hU1,hT2,hU2,tabG,hnI];exact rfl;simp only[sB,sA,putA];exact rfl) |(apply QI;simp only[go_sem]<;>exact rfl;simp only[sB,sA,putA];exact rfl) |(apply QQ;simp only[evA,gB,gA];exact rfl) |((first |apply QX |apply QY);(first |rfl |decide |assumption)))
 refine AWp.loop [6,8,10] (fun Γ H s' m=>∃k:Nat,k≤T.length∧m=T.length-k∧Γ=(List.replicate 6 .junk)++[.ptr s 0 0]++(List.replicate 1 .junk)++[.ptr (s+1) 0 0]++(List.replicate 1 .junk)++[.sc (.int .i64 (k:Nat))]++(List.replicate 38 .junk)∧
  H s=some (.row 0 1 [.dsl T.length (elsA T),.dsl cT.length (rowsN cT)])∧H (s+1)=some (.row 0 1 [.dsl U.length (elsA U),.dsl cU.length (rowsN cU)])∧(∀q,s'≤q→H q=none)∧∀j (hj:j<T.length),j<k→T[j]∈U) T.length ?_ ?_
 ·refine⟨0,Nat.zero_le _,rfl,rfl,?_,?_,fun q hq=>?_,fun j _ hj=>absurd hj (by omega)⟩
  ·simp(disch:=omega)only[upd_ne,upd_same]
  ·simp(disch:=omega)only[upd_ne,upd_same]
  ·simp(disch:=omega)only[upd_ne];exact hs q
 rintro Γ H s1 m ⟨k,hk,rfl,rfl,hH0,hH1,hf,hin⟩
 refine wA_ok hmix ctJ_ok _ (by kernel_rfl) ?_
 simp(maxSteps:=1000000)only[List.replicate_succ,List.replicate_zero,List.cons_append,List.nil_append,List.append_nil]
 by_cases hlt:k<T.length
 ·have hat:=elsA_drop hlt
  have hh:=hhash _ (List.getElem_mem hlt)
  have hh1:=hh.1
  have hh2:=hh.2
  by_cases hm:0≤ofF U cU T[k]
  ·have hof:¬ofF U cU (T[k].1,T[k].2)<0:=by show ¬ofF U cU T[k]<0;omega
   repeat(first |(with_reducible first |apply Q0 |apply Q1 |apply QG |apply Q2 |apply Q3 |apply Q4 |apply Q5 |apply Q6 |apply Q7 |apply Q8 |apply Q9 |apply QA |apply QB |apply QC |apply QD |apply QE |apply QF) |((first |(with_reducible apply QK rfl) |(apply QT;simp only[go_sem]<;>exact rfl));simp(disch:=omega)only[go_sem,hf,upd_ne,hH0,hH1,hat,hlT,scal79,ctJ_79',c79,rdT_tab,hW,hh1,hh2,hof];exact rfl;simp only[sB,sA,putA];exact rfl) |((first |(with_reducible apply QL rfl) |(apply QM;simp only[go_sem]<;>exact rfl));simp(disch:=omega)only[go_sem,hf,upd_ne,hH0,hH1,hat,hlT,scal79,ctJ_79',c79,rdT_tab,hW,hh1,hh2,hof];exact rfl;simp only[sB,sA,putA];exact rfl;simp only[logT_none,logT_rd,logT_wr,List.cons_append,List.nil_append];exact rfl) |((first |apply QI |apply QN);simp only[go_sem]<;>exact rfl;simp only[sB,sA,putA];exact rfl) |(refine QO ?_ ?_;first |focus(simp only[dyn_nil,dyn_cons,allY_nil,allY_cons,dj_rr,true_or,true_and];done) |focus(simp only[dyn_nil,dyn_cons,allY_nil,allY_cons,Dj,List.mem_cons,List.not_mem_nil,or_false,forall_eq,forall_eq_or_imp,and_true,true_and,false_imp_iff,implies_true];omega) |focus(simp only[dyn_nil,dyn_cons,allY_nil,allY_cons,and_true,true_and];(repeat' refine And.intro ?_ ?_);all_goals first |(left;simp only[Dj,List.mem_cons,List.not_mem_nil,or_false,forall_eq,forall_eq_or_imp,and_true,true_and,false_imp_iff,implies_true];first |done |omega) |(right;kernel_rfl))) |(apply QQ;simp only[evA,gB,gA];exact rfl) |((first |apply QX |apply QY);(first |rfl |decide |assumption)))
   refine⟨T.length-(k+1),by omega,k+1,by omega,rfl,rfl,hH0,hH1,hf,fun j hj hjk=>?_⟩
   by_cases e:j=k
   ·subst e;exact(hmem _).1 hm
   ·exact hin j hj (by omega)
  ·have hof:ofF U cU (T[k].1,T[k].2)<0:=by show ofF U cU T[k]<0;omega
   rw[no (fun h=>hm ((hmem _).2 ((hrev hn).1 h.2 _ (List.getElem_mem hlt))))]
   repeat(first |(with_reducible first |apply Q0 |apply Q1 |apply QG |apply Q2 |apply Q3 |apply Q4 |apply Q5 |apply Q6 |apply Q7 |apply Q8 |apply Q9 |apply QA |apply QB |apply QC |apply QD |apply QE |apply QF) |((first |(with_reducible apply QK rfl) |(apply QT;simp only[go_sem]<;>exact rfl));simp(disch:=omega)only[go_sem,hf,upd_ne,hH0,hH1,hat,hlT,scal79,ctJ_79',c79,rdT_tab,hW,hh1,hh2,hof];exact rfl;simp only[sB,sA,putA];exact rfl) |((first |(with_reducible apply QL rfl) |(apply QM;simp only[go_sem]<;>exact rfl));simp(disch:=omega)only[go_sem,hf,upd_ne,hH0,hH1,hat,hlT,scal79,ctJ_79',c79,rdT_tab,hW,hh1,hh2,hof];exact rfl;simp only[sB,sA,putA];exact rfl;simp only[logT_none,logT_rd,logT_wr,List.cons_append,List.nil_append];exact rfl) |((first |apply QI |apply QN);simp only[go_sem]<;>exact rfl;simp only[sB,sA,putA];exact rfl) |(refine QO ?_ ?_;first |focus(simp only[dyn_nil,dyn_cons,allY_nil,allY_cons,dj_rr,true_or,true_and];done) |focus(simp only[dyn_nil,dyn_cons,allY_nil,allY_cons,Dj,List.mem_cons,List.not_mem_nil,or_false,forall_eq,forall_eq_or_imp,and_true,true_and,false_imp_iff,implies_true];omega) |focus(simp only[dyn_nil,dyn_cons,allY_nil,allY_cons,and_true,true_and];(repeat' refine And.intro ?_ ?_);all_goals first |(left;simp only[Dj,List.mem_cons,List.not_mem_nil,or_false,forall_eq,forall_eq_or_imp,and_true,true_and,false_imp_iff,implies_true];first |done |omega) |(right;kernel_rfl))) |(apply QQ;simp only[evA,gB,gA];exact rfl) |((first |apply QX |apply QY);(first |rfl |decide |assumption)))
   (apply QZ;simp(disch:=omega)only[go_sem,Try.results60];exact rfl;simp only[packA];exact rfl)
   exact .tup2 (.sc _) (.sc _)
 ·obtain rfl:k=T.length:=by omega
  rw[yes ⟨hn,(hrev hn).2 fun e he=>by
   obtain⟨j,hj,rfl⟩:=List.mem_iff_getElem.1 he
   exact hin j hj hj⟩]
  repeat(first |(with_reducible first |apply Q0 |apply Q1 |apply Q2 |apply Q3 |apply Q4 |apply Q5 |apply Q6 |apply Q7 |apply Q8 |apply Q9 |apply QA |apply QB |apply QC |apply QD |apply QE |apply QF) |((first |(with_reducible apply QK rfl) |(apply QT;simp only[go_sem]<;>exact rfl));simp(disch:=omega)only[go_sem,hf,upd_ne,hH0,hH1];exact rfl;simp only[sB,sA,putA];exact rfl) |(apply QI;simp only[go_sem]<;>exact rfl;simp only[sB,sA,putA];exact rfl) |(apply QQ;simp only[evA,gB,gA];exact rfl) |((first |apply QX |apply QY);(first |rfl |decide |assumption)))
  (apply QZ;simp(disch:=omega)only[go_sem,Try.results60];exact rfl;simp only[packA];exact rfl)
  exact .tup2 (.sc _) (.sc _)
noncomputable def ctMd:CT:=fun f args=>if f=35 then c35o args else if f=51 then c51o args else if f=52 then c52 args else noCT f args
theorem ctMd_ok:CTok Try.prog ctMd:=fun f args=>by
 unfold ctMd
 split
 ·rename_i e;subst e;exact a35o args
 split
 ·rename_i e;subst e;exact a51o args
 split
 ·rename_i e;subst e;exact a52 args
 ·exact noCT_ok f args
theorem ctMd_35 (a:List AV):ctMd 35 a=c35o a:=rfl
theorem ctMd_51 (a:List AV):ctMd 51 a=c51o a:=rfl
theorem ctMd_52 (a:List AV):ctMd 52 a=c52 a:=rfl
theorem mcal35:callable Try.prog 35=true:=by kernel_rfl
theorem mcal51:callable Try.prog 51=true:=by kernel_rfl
theorem mcal52:callable Try.prog 52=true:=by kernel_rfl
set_option maxRecDepth 100000 in
set_option maxHeartbeats 8000000 in
theorem rmade_rc (L:List (Int×Int)) (hL:L.length≤1000000000):RC Try.prog 59 [.dsl L.length (elsA L)] (.tup [.dsl (ofL freshL L).1.length (ints (ofL freshL L).1),.sc (.int .i64 (ofL freshL L).2)]):=by
 refine rc_of hmix ctMd_ok Try.func59 rfl (by kernel_rfl) (fun E s hs=>?_)
 simp(maxSteps:=300000)only[begA,Try.ntmps59,List.replicate_succ,List.replicate_zero,List.length_cons,List.length_nil,List.cons_append,List.nil_append]
 have hfw:=fresh_words
 have hwk:=wok_empty
 repeat(first |(with_reducible first |apply Q0 |apply Q1 |apply Q2 |apply Q3 |apply Q4 |apply Q5 |apply Q6 |apply Q7 |apply Q8 |apply Q9 |apply QA |apply QB |apply QC |apply QD |apply QE |apply QF) |((first |(with_reducible apply QK rfl) |(apply QT;simp only[go_sem]<;>exact rfl));simp(disch:=omega)only[go_sem,hs,upd_ne,mcal52,ctMd_52,c52,mcal51,ctMd_51,c51o,rdT_tab,hwk,hfw];exact rfl;simp only[sB,sA,putA];exact rfl) |(apply QI;simp only[go_sem]<;>exact rfl;simp only[sB,sA,putA];exact rfl) |(apply QQ;simp only[evA,gB,gA];exact rfl) |((first |apply QX |apply QY);(first |rfl |decide |assumption)))
 refine AWp.loop [0,4,5] (fun Γ H s' m=>∃(k q ver:Nat) (l:List Int),k≤L.length∧m=L.length-k∧Γ=[.dsl L.length (elsA L)]++(List.replicate 3 .junk)++[.sl q ver 0 l.length,.sc (.int .i64 (k:Nat))]++(List.replicate 32 .junk)∧
  ofL freshL L=ofL l (L.drop k)∧l.length≤1000000000∧H q=some (.row ver 1 (ints l))∧q<s'∧∀q,s'≤q→H q=none) L.length ?_ ?_
 ·exact⟨0,s,0,freshL,Nat.zero_le _,rfl,rfl,rfl,freshL_le,upd_same _ _ _,by omega,fun q hq=>by(simp(disch:=omega)only[upd_ne];exact hs q)⟩
 rintro Γ H s1 m ⟨k,q,ver,l,hk,rfl,rfl,hI,hl,hHq,hq,hf⟩
 refine wA_ok hmix ctMd_ok _ (by kernel_rfl) ?_
 simp(maxSteps:=1000000)only[List.replicate_succ,List.replicate_zero,List.cons_append,List.nil_append,List.append_nil]
 have hil:=ints_len l
 have hit:=ints_take l
 by_cases hlt:k<L.length
 ·rw[List.drop_eq_getElem_cons hlt,ofL]at hI
  have hA:=addF_le l L[k].1 L[k].2
  obtain⟨⟨a,u,c⟩,hadd⟩:∃r,addF l L[k].1 L[k].2=r:=⟨_,rfl⟩
  rw[hadd]at hI hA
  dsimp only at hI hA
  by_cases hc:c=0
  ·subst hc
   rw[if_pos rfl]at hI
   have hX:outX (ansX 0 u) [.int .i64 a,.int .i64 0]= .new (.row 0 1 (ints u)) fun n=>.ret (.tup [.sl n 0 0 u.length,.sc (.int .i64 a),.sc (.int .i64 0)]):=rfl
   repeat(first |(with_reducible first |apply Q0 |apply Q1 |apply QG |apply Q2 |apply Q3 |apply Q4 |apply Q5 |apply Q6 |apply Q7 |apply Q8 |apply Q9 |apply QA |apply QB |apply QC |apply QD |apply QE |apply QF) |((first |(with_reducible apply QK rfl) |(apply QT;simp only[go_sem]<;>exact rfl));simp(disch:=omega)only[go_sem,hf,upd_ne,elsA_len,elsA_drop,hHq,mcal35,ctMd_35,c35o,rdK,hil,hit,intsOf_ints,hl,hadd,hX];exact rfl;simp only[sB,sA,putA];exact rfl) |((first |(with_reducible apply QL rfl) |(apply QM;simp only[go_sem]<;>exact rfl));simp(disch:=omega)only[go_sem,hf,upd_ne,elsA_len,elsA_drop,hHq,mcal35,ctMd_35,c35o,rdK,hil,hit,intsOf_ints,hl,hadd,hX];exact rfl;simp only[sB,sA,putA];exact rfl;simp only[logT_none,logT_rd,logT_wr,List.cons_append,List.nil_append];exact rfl) |((first |apply QI |apply QN);simp only[go_sem]<;>exact rfl;simp only[sB,sA,putA];exact rfl) |(refine QO ?_ ?_;first |focus(simp only[dyn_nil,dyn_cons,allY_nil,allY_cons,dj_rr,true_or,true_and];done) |focus(simp only[dyn_nil,dyn_cons,allY_nil,allY_cons,Dj,List.mem_cons,List.not_mem_nil,or_false,forall_eq,forall_eq_or_imp,and_true,true_and,false_imp_iff,implies_true];omega) |focus(simp only[dyn_nil,dyn_cons,allY_nil,allY_cons,and_true,true_and];(repeat' refine And.intro ?_ ?_);all_goals first |(left;simp only[Dj,List.mem_cons,List.not_mem_nil,or_false,forall_eq,forall_eq_or_imp,and_true,true_and,false_imp_iff,implies_true];first |done |omega) |(right;kernel_rfl))) |(apply QQ;simp only[evA,gB,gA];exact rfl) |((first |apply QX |apply QY);(first |rfl |decide |assumption)))
   exact⟨L.length-(k+1),by omega,k+1,s1,0,u,by omega,rfl,rfl,hI,hA,upd_same _ _ _,by omega,fun q hq=>by(simp(disch:=omega)only[upd_ne];exact hf q (by omega))⟩
  ·rw[if_neg hc]at hI
   rw[hI]
   have hX:outX (ansX c u) [.int .i64 a,.int .i64 c]= .ret (.tup [.sc (.slice none 0 0),.sc (.int .i64 a),.sc (.int .i64 c)]):=by unfold ansX;rw[if_neg hc];rfl
   repeat(first |(with_reducible first |apply Q0 |apply Q1 |apply QG |apply Q2 |apply Q3 |apply Q4 |apply Q5 |apply Q6 |apply Q7 |apply Q8 |apply Q9 |apply QA |apply QB |apply QC |apply QD |apply QE |apply QF) |((first |(with_reducible apply QK rfl) |(apply QT;simp only[go_sem]<;>exact rfl));simp(disch:=omega)only[go_sem,hf,upd_ne,elsA_len,elsA_drop,hHq,mcal35,ctMd_35,c35o,rdK,hil,hit,intsOf_ints,hl,hadd,hX,hc];exact rfl;simp only[sB,sA,putA];exact rfl) |((first |(with_reducible apply QL rfl) |(apply QM;simp only[go_sem]<;>exact rfl));simp(disch:=omega)only[go_sem,hf,upd_ne,elsA_len,elsA_drop,hHq,mcal35,ctMd_35,c35o,rdK,hil,hit,intsOf_ints,hl,hadd,hX,hc];exact rfl;simp only[sB,sA,putA];exact rfl;simp only[logT_none,logT_rd,logT_wr,List.cons_append,List.nil_append];exact rfl) |((first |apply QI |apply QN);simp only[go_sem]<;>exact rfl;simp only[sB,sA,putA];exact rfl) |(refine QO ?_ ?_;first |focus(simp only[dyn_nil,dyn_cons,allY_nil,allY_cons,dj_rr,true_or,true_and];done) |focus(simp only[dyn_nil,dyn_cons,allY_nil,allY_cons,Dj,List.mem_cons,List.not_mem_nil,or_false,forall_eq,forall_eq_or_imp,and_true,true_and,false_imp_iff,implies_true];omega) |focus(simp only[dyn_nil,dyn_cons,allY_nil,allY_cons,and_true,true_and];(repeat' refine And.intro ?_ ?_);all_goals first |(left;simp only[Dj,List.mem_cons,List.not_mem_nil,or_false,forall_eq,forall_eq_or_imp,and_true,true_and,false_imp_iff,implies_true];first |done |omega) |(right;kernel_rfl))) |(apply QQ;simp only[evA,gB,gA];exact rfl) |((first |apply QX |apply QY);(first |rfl |decide |assumption)))
   (apply QZ;simp(disch:=omega)only[go_sem,Try.results59];exact rfl;simp only[packA];exact rfl)
   exact .tup2 .nil (.sc _)
 ·obtain rfl:k=L.length:=by omega
  rw[List.drop_length,ofL]at hI
  rw[hI]
  repeat(first |(with_reducible first |apply Q0 |apply Q1 |apply Q2 |apply Q3 |apply Q4 |apply Q5 |apply Q6 |apply Q7 |apply Q8 |apply Q9 |apply QA |apply QB |apply QC |apply QD |apply QE |apply QF) |((first |(with_reducible apply QK rfl) |(apply QT;simp only[go_sem]<;>exact rfl));simp(disch:=omega)only[go_sem,hf,upd_ne];exact rfl;simp only[sB,sA,putA];exact rfl) |(apply QI;simp only[go_sem]<;>exact rfl;simp only[sB,sA,putA];exact rfl) |(apply QQ;simp only[evA,gB,gA];exact rfl) |((first |apply QX |apply QY);(first |rfl |decide |assumption)))
  (apply QZ;simp(disch:=omega)only[go_sem,Try.results59];exact rfl;simp only[packA];exact rfl)
  exact .tup2 (Exp.ints hHq) (.sc _)
end Go.Proofs.Ytdcomhdadnhpnaa
