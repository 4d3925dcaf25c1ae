import Derived.Test.YtdcomhdadnhpnaaYB40
import Derived.Test.YtdcomhdadnhpnaaYB4
import Derived.Test.YtdcomhdadnhpnaaYP5
set_option linter.all false
namespace Go.Proofs.Ytdcomhdadnhpnaa
open Go Go.Am Go.RowKit
attribute [local irreducible] wA opsQ opsLQ thenA blockA EndA
attribute [local go_sem] Try.underlying24 Try.underlying44 Try.underlying60
attribute [local go_sem] put5
section
variable (L:List (Int×Int)) (ops:List OpT) (b:Bool) (x y:Int)
noncomputable def ctWk:CT:=fun f args=>if f=47 then c47p L ops b x y args else if f=28 then c28 args else if f=41 then c41 args else if f=32 then c32p L ops b x y args else ctT f args
theorem ctWk_ok:CTok Try.prog (ctWk L ops b x y):=fun f args=>by
 unfold ctWk
 split
 ·rename_i e;subst e;exact a47p L ops b x y args
 split
 ·rename_i e;subst e;exact a28 args
 split
 ·rename_i e;subst e;exact a41 args
 split
 ·rename_i e;subst e;exact a32p L ops b x y args
 ·exact ctT_ok f args
variable (a:List AV)
theorem ctWk_15:ctWk L ops b x y 15 a=c15 a:=rfl
theorem ctWk_16:ctWk L ops b x y 16 a=c16 a:=rfl
theorem ctWk_28:ctWk L ops b x y 28 a=c28 a:=rfl
theorem ctWk_32:ctWk L ops b x y 32 a=c32p L ops b x y a:=rfl
theorem ctWk_41:ctWk L ops b x y 41 a=c41 a:=rfl
theorem ctWk_47:ctWk L ops b x y 47 a=c47p L ops b x y a:=rfl
end
theorem wcal16:callable Try.prog 16=true:=by kernel_rfl
theorem wcal28:callable Try.prog 28=true:=by kernel_rfl
theorem WalkAt.le {chs:List (List Nat)} {j x k:Nat} (h:WalkAt chs j x k):k≤chs.length:=by
 rcases h with⟨_,_,rfl⟩ |⟨i,_,_,hi,_,_,_,rfl⟩
 ·exact Nat.zero_le _
 ·exact hi
set_option maxRecDepth 100000 in
set_option maxHeartbeats 8000000 in
theorem tableWalks_call (L:List (Int×Int)) (ops:List OpT) (b:Bool) (x y:Int):
  ACall Try.prog 11 [playG L ops b x y] (.ret (.sc (.bool true))):=by
 refine acall_pure' hmix (ctWk_ok L ops b x y) Try.func11 rfl (by kernel_rfl) (fun E s hs=>?_)
 simp(maxSteps:=300000)only[begA,Try.ntmps11,List.replicate_succ,List.replicate_zero,List.length_cons,List.length_nil,List.cons_append,List.nil_append]
 have h32:c32p L ops b x y [playG L ops b x y]= .ret (.sc (.bool (decide (L.length≤300∧ops.length≤300)))):=if_pos rfl
 by_cases hsm:L.length≤300∧ops.length≤300
 rotate_left
 ·rw[decide_eq_false hsm]at h32
  repeat(first |(with_reducible first |apply Q0 |apply Q1 |apply Q2 |apply Q3 |apply Q4 |apply Q5 |apply Q6 |apply Q7 |apply Q8 |apply Q9 |apply QA |apply QB |apply QC |apply QD |apply QE |apply QF) |((first |(with_reducible apply QK rfl) |(apply QT;simp only[go_sem]<;>exact rfl));simp(disch:=omega)only[go_sem,hs,upd_ne,cal15,ctWk_15,c15,cal32,ctWk_32,h32];exact rfl;simp only[sB,sA,putA];exact rfl) |(apply QI;simp only[go_sem]<;>exact rfl;simp only[sB,sA,putA];exact rfl) |(apply QQ;simp only[evA,gB,gA];exact rfl) |((first |apply QX |apply QY);(first |rfl |decide |assumption)))
  (apply QZ;simp(disch:=omega)only[go_sem,Try.results11];exact rfl;simp only[packA];exact rfl)
  exact⟨fun q hq=>(by have hq2:q<s:=Nat.lt_of_not_le (fun hle=>hq (hs q hle));simp(disch:=omega)only[upd_ne]),Pub.sc _⟩
 rw[decide_eq_true hsm]at h32
 have h47:c47p L ops b x y [playG L ops b x y]= .new (.row 0 1 (ints (madeF L ops))) fun n=>.ret (.sl n 0 0 (madeF L ops).length):=if_pos ⟨rfl,by omega,by omega⟩
 have hV:=madeF_valid L ops
 generalize madeF L ops=t at*
 have hol:=ordF_len hV
 have hn1:=(tab_g hV).n1
 have hcb:=chsT_len t
 have hn:(ordF t).length≤100000:=by omega
 have hit:=ints_take t
 have hil:=ints_len t
 have hwn:=fun j x looked h hj=>walk_next hV (j:=j) (x:=x) (looked:=looked) h hj
 have hwe:=fun j x looked h hj=>walk_end hV (j:=j) (x:=x) (looked:=looked) h hj
 have h16:c16 [.sc (.int .i64 ((ordF t).length:Nat))]= .ret (.tup [.sc (.int .i64 ((chsT t).length:Nat)),.sc (.int .i64 0)]):=by
  unfold c16
  simp only
  rw[if_neg (by omega),if_neg (by omega),Int.toNat_natCast,hol,hcb]
 generalize chsT t=chs at*
 generalize hO:ordF t=O at hol hn hwn hwe h16
 repeat(first |(with_reducible first |apply Q0 |apply Q1 |apply Q2 |apply Q3 |apply Q4 |apply Q5 |apply Q6 |apply Q7 |apply Q8 |apply Q9 |apply QA |apply QB |apply QC |apply QD |apply QE |apply QF) |((first |(with_reducible apply QK rfl) |(apply QT;simp only[go_sem]<;>exact rfl));simp(disch:=omega)only[go_sem,hs,upd_ne,cal15,ctWk_15,c15,cal32,ctWk_32,h32,cal47,ctWk_47,h47,wcal28,ctWk_28,c28,rdK,hit,hil,intsOf_ints,hV,wcal16,ctWk_16,h16,hO];exact rfl;simp only[sB,sA,putA];exact rfl) |(apply QI;simp only[go_sem]<;>exact rfl;simp only[sB,sA,putA];exact rfl) |(apply QQ;simp only[evA,gB,gA];exact rfl) |((first |apply QX |apply QY);(first |rfl |decide |assumption)))
 refine AWp.loop [3,4,5,7,9,10,11] (fun Γ H s' m=>∃j at_ looked:Nat,j≤O.length∧m=O.length-j∧Γ=(List.replicate 3 .junk)++[.sc (.bool true),.sl (s+1) 0 0 t.length,.dsl O.length (elsA O)]++(List.replicate 1 .junk)++[.sc (.int .i64 (chs.length:Nat))]++(List.replicate 1 .junk)++[.sc (.int .i64 (at_:Nat)),.sc (.int .i64 (looked:Nat)),.sc (.int .i64 (j:Nat))]++(List.replicate 92 .junk)∧
  WalkAt chs j at_ looked∧H (s+1)=some (.row 0 1 (ints t))∧s+1<s'∧(∀q,s'≤q→H q=none)∧∀q,q<s→H q=E.H q) O.length ?_ ?_
 ·exact⟨0,0,0,Nat.zero_le _,rfl,rfl,.inl ⟨rfl,rfl,rfl⟩,upd_same _ _ _,by omega,fun q hq=>by(simp(disch:=omega)only[upd_ne];exact hs q (by omega)),fun q hq=>by simp(disch:=omega)only[upd_ne]⟩
 rintro Γ H s1 m ⟨j,at_,looked,hj,rfl,rfl,hw,hHt,hss,hf,hE⟩
 refine wA_ok hmix (ctWk_ok L ops b x y) _ (by kernel_rfl) ?_
 simp(maxSteps:=1000000)only[List.replicate_succ,List.replicate_zero,List.cons_append,List.nil_append,List.append_nil]
 by_cases hlt:j<O.length
 ·obtain⟨x',d,e1,e2,e3,e4⟩:=hwn j at_ looked hw hlt
  have hdl:=e4.le
  have hbl:=bkts_le (tabN t) (by omega)
  repeat(first |(with_reducible first |apply Q0 |apply Q1 |apply QG |apply Q2 |apply Q3 |apply Q4 |apply Q5 |apply Q6 |apply Q7 |apply Q8 |apply Q9 |apply QA |apply QB |apply QC |apply QD |apply QE |apply QF) |((first |(with_reducible apply QK rfl) |(apply QT;simp only[go_sem]<;>exact rfl));simp(disch:=omega)only[go_sem,hf,upd_ne,hHt,cal41,ctWk_41,c41,rdK,hit,hil,intsOf_ints,e1,elsA_len,elsA_drop,bin_neq43];exact rfl;simp only[sB,sA,putA];exact rfl) |((first |(with_reducible apply QL rfl) |(apply QM;simp only[go_sem]<;>exact rfl));simp(disch:=omega)only[go_sem,hf,upd_ne,hHt,cal41,ctWk_41,c41,rdK,hit,hil,intsOf_ints,e1,elsA_len,elsA_drop,bin_neq43];exact rfl;simp only[sB,sA,putA];exact rfl;simp only[logT_none,logT_rd,logT_wr,List.cons_append,List.nil_append];exact rfl) |((first |apply QI |apply QN);simp only[go_sem]<;>exact rfl;simp only[sB,sA,putA];exact rfl) |(refine QO ?_ ?_;first |focus(simp only[dyn_nil,dyn_cons,allY_nil,allY_cons,dj_rr,true_or,true_and];done) |focus(simp only[dyn_nil,dyn_cons,allY_nil,allY_cons,Dj,List.mem_cons,List.not_mem_nil,or_false,forall_eq,forall_eq_or_imp,and_true,true_and,false_imp_iff,implies_true];omega) |focus(simp only[dyn_nil,dyn_cons,allY_nil,allY_cons,and_true,true_and];(repeat' refine And.intro ?_ ?_);all_goals first |(left;simp only[Dj,List.mem_cons,List.not_mem_nil,or_false,forall_eq,forall_eq_or_imp,and_true,true_and,false_imp_iff,implies_true];first |done |omega) |(right;kernel_rfl))) |(apply QQ;simp only[evA,gB,gA];exact rfl) |((first |apply QX |apply QY);(first |rfl |decide |assumption)))
  exact⟨O.length-(j+1),by omega,j+1,x',looked+d,by omega,rfl,rfl,e4,by(simp(disch:=omega)only[upd_ne];exact hHt),by omega,fun q hq=>by(simp(disch:=omega)only[upd_ne];exact hf q (by omega)),fun q hq=>by(simp(disch:=omega)only[upd_ne];exact hE q hq)⟩
 ·obtain rfl:j=O.length:=by omega
  obtain⟨e1,e2⟩:=hwe _ _ _ hw rfl
  repeat(first |(with_reducible first |apply Q0 |apply Q1 |apply QG |apply Q2 |apply Q3 |apply Q4 |apply Q5 |apply Q6 |apply Q7 |apply Q8 |apply Q9 |apply QA |apply QB |apply QC |apply QD |apply QE |apply QF) |((first |(with_reducible apply QK rfl) |(apply QT;simp only[go_sem]<;>exact rfl));simp(disch:=omega)only[go_sem,hf,upd_ne,hHt,cal41,ctWk_41,c41,rdK,hit,hil,intsOf_ints,e1];exact rfl;simp only[sB,sA,putA];exact rfl) |((first |(with_reducible apply QL rfl) |(apply QM;simp only[go_sem]<;>exact rfl));simp(disch:=omega)only[go_sem,hf,upd_ne,hHt,cal41,ctWk_41,c41,rdK,hit,hil,intsOf_ints,e1];exact rfl;simp only[sB,sA,putA];exact rfl;simp only[logT_none,logT_rd,logT_wr,List.cons_append,List.nil_append];exact rfl) |((first |apply QI |apply QN);simp only[go_sem]<;>exact rfl;simp only[sB,sA,putA];exact rfl) |(refine QO ?_ ?_;first |focus(simp only[dyn_nil,dyn_cons,allY_nil,allY_cons,dj_rr,true_or,true_and];done) |focus(simp only[dyn_nil,dyn_cons,allY_nil,allY_cons,Dj,List.mem_cons,List.not_mem_nil,or_false,forall_eq,forall_eq_or_imp,and_true,true_and,false_imp_iff,implies_true];omega) |focus(simp only[dyn_nil,dyn_cons,allY_nil,allY_cons,and_true,true_and];(repeat' refine And.intro ?_ ?_);all_goals first |(left;simp only[Dj,List.mem_cons,List.not_mem_nil,or_false,forall_eq,forall_eq_or_imp,and_true,true_and,false_imp_iff,implies_true];first |done |omega) |(right;kernel_rfl))) |(apply QQ;simp only[evA,gB,gA];exact rfl) |((first |apply QX |apply QY);(first |rfl |decide |assumption)))
  (apply QZ;simp(disch:=omega)only[go_sem,Try.results11];exact rfl;simp only[packA];exact rfl)
  exact⟨fun q hq=>(by have hq2:q<s:=Nat.lt_of_not_le (fun hle=>hq (hs q hle));(simp(disch:=omega)only[upd_ne];exact hE q hq2)),Pub.sc _⟩
end Go.Proofs.Ytdcomhdadnhpnaa
