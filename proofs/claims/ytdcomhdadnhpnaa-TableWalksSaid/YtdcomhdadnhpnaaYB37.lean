import Derived.Test.YtdcomhdadnhpnaaYA27
set_option linter.all false
namespace Go.Proofs.Ytdcomhdadnhpnaa
open Go Go.Am Go.RowKit
attribute [local irreducible] wA opsQ opsLQ thenA blockA EndA
attribute [local go_sem] sz91 ze91 by91 ag91 fo91_0 bu91 Try.underlying91 sz92 ze92 by92 ag92 Try.underlying92 sz102 ze102 by102 ag102 fo102_0 fo102_1 bu102 Try.underlying102
def wK (k:Nat→Nat→Nat→AP AV) (o:AO):AP AV:=match o with
 | .row 0 1 [.sl n ver 0 len]=>k n ver len
 |_=>.fail
theorem wK_some {s:Nat} {k:Nat→Nat→Nat→AP AV} {o:AO} {H:AHp} {x:AV×AHp×Nat} (h:(wK k o).run H s=some x):∃n ver len,o= .row 0 1 [.sl n ver 0 len]∧(k n ver len).run H s=some x:=by
 unfold wK at h
 split at h
 ·exact⟨_,_,_,rfl,h⟩
 ·simp[AP.run]at h
noncomputable def rdW (p:Nat) (k:List Int→AP AV):AP AV:=.get p (wK fun n ver len=>.get n (iK ver fun l=>if len=l.length then k l else .fail))
theorem rdW_some {p s:Nat} {k:List Int→AP AV} {H:AHp} {x:AV×AHp×Nat} (h:(rdW p k).run H s=some x):∃n ver l,H p=some (.row 0 1 [.sl n ver 0 l.length])∧H n=some (.row ver 1 (ints l))∧(k l).run H s=some x:=by
 unfold rdW at h
 obtain⟨o,h1,q1⟩:=get_some h
 obtain⟨n,ver,len,rfl,q2⟩:=wK_some q1
 obtain⟨o,h2,q3⟩:=get_some q2
 obtain⟨l,rfl,q4⟩:=iK_some q3
 clear h q1 q2 q3
 have h:=q4
 clear q4
 split at h
 ·rename_i e
  subst e
  exact⟨n,ver,l,h1,h2,h⟩
 ·simp[AP.run]at h
noncomputable def c74:List AV→AP AV
 | [.agg [.ptr p 0 0,.sc (.int .i64 a)]]=>rdW p fun l=>if 0≤a∧a<(l.length:Nat)then .ret (.sc (.int .i64 (ati l a.toNat)))else .fail
 |_=>.fail
noncomputable def c75:List AV→AP AV
 | [.agg [.ptr p 0 0,.sc (.int .i64 a)]]=>rdW p fun l=>if 0≤a∧a+1<(l.length:Nat)∧a<1000000000 then .ret (.sc (.int .i64 (ati l (a.toNat+1))))else .fail
 |_=>.fail
noncomputable def c77:List AV→AP AV
 | [.agg [.ptr p 0 0,.sc (.int .i64 a)]]=>rdW p fun l=>if 0≤a∧a+1<(l.length:Nat)∧a<1000000000 then .ret (.agg [.sc (.int .i64 (ati l a.toNat)),.sc (.int .i64 (ati l (a.toNat+1)))])else .fail
 |_=>.fail
noncomputable def c88:List AV→AP AV
 | [.ptr p 0 0]=>rdW p fun l=>if 0<l.length then .ret (.sc (.int .i64 (ati l 0)))else .fail
 |_=>.fail
def c73:List AV→AP AV
 | [.ptr p 0 0,.sc (.int .i64 r)]=>.get p fun _=>if 0≤r∧r≤1000000 then .ret (.agg [.ptr p 0 0,.sc (.int .i64 (recAt r.toNat:Nat))])else .fail
 |_=>.fail
def c87:List AV→AP AV
 | [.sc (.int .i64 r)]=>if 0≤r∧r≤1000000 then .ret (.sc (.int .i64 (recAt r.toNat:Nat)))else .fail
 |_=>.fail
def c89:List AV→AP AV
 | [.sc (.int .i64 r)]=>if 0≤r∧r≤1000000 then .ret (.sc (.int .i64 (headAt r.toNat:Nat)))else .fail
 |_=>.fail
def c66:List AV→AP AV
 | [.sc (.int .i64 h),.sc (.int .i64 b)]=>if 0≤h∧h≤4294967296∧1≤b∧b≤1000000 then .ret (.sc (.int .i64 (bkt h.toNat b.toNat:Nat)))else .fail
 |_=>.fail
theorem fin_pure {H0 H2:AHp} {s:Nat} (hs:∀n,s≤n→H0 n=none) (hE:∀q,q<s→H2 q=H0 q):Fin H0 H2 (fun _=>none) H0:=
 ⟨fun n hn=>⟨hn,rfl⟩,fun n o' hn=>.inl ⟨rfl,.inl ⟨hn,by rw[hE n (Nat.lt_of_not_le fun k=>by rw[hs n k]at hn;cases hn)];exact hn⟩⟩,fun a b n o o' h=>by simp at h,fun q n o h=>by simp at h,⟨s,hs⟩⟩
theorem end_sc {E:Ent} {s:Nat} {H1:AHp} {x y:AV} (hs:∀q,s≤q→E.H q=none) (hE:∀q,q<s→H1 q=E.H q) (hx:Pub H1 (fun n=>E.H n≠none∧(none:Option (Nat×Nat))=none) (fun _=>none) x y):
  ∃(H2:AHp) (r2:AV) (N:Nat→Option (Nat×Nat)),WkH H1 H2∧Wk r2 y∧Fin E.H H2 N E.H∧Pub H2 (fun n=>E.H n≠none∧N n=none) N x r2:=
 ⟨H1,y,fun _=>none,WkH.refl _,Wk.rfl',fin_pure hs hE,hx⟩
theorem a74 (args:List AV):ACall Try.prog 74 args (c74 args):=by
 intro ρ H w vs hR hA s r H' s' hm
 unfold c74 at hm
 split at hm
 ·rename_i p a
  refine acall_genW (args:=[.agg [.ptr p 0 0,.sc (.int .i64 a)]]) Try.func74 rfl (fun E s0 s r H' s' hr hs=>?_) ρ H w _ hR hA s r H' s' hm
  obtain⟨n,ver,l,h1,h2,hr⟩:=rdW_some hr
  split at hr
  ·rename_i hc
   obtain⟨c1,c2⟩:=hc
   simp only[AP.run,Option.some.injEq,Prod.mk.injEq]at hr
   obtain⟨rfl,rfl,rfl⟩:=hr
   have hs0:∀q,s≤q→E.H q=none:=fun q hq=>(hs q hq).1
   have hpl:p<s:=Nat.lt_of_not_le fun h=>by rw[hs0 p h]at h1;cases h1
   have hnl:n<s:=Nat.lt_of_not_le fun h=>by rw[hs0 n h]at h2;cases h2
   refine wA_ok hmix noCT_ok _ (by kernel_rfl) ?_
   simp(maxSteps:=300000)only[begA,Try.ntmps74,List.replicate_succ,List.replicate_zero,List.length_cons,List.length_nil,List.cons_append,List.nil_append]
   have hil:=ints_len l
   have hit:=ints_take l
   obtain⟨i,rfl⟩:∃i:Nat,a=(i:Int):=⟨a.toNat,by omega⟩
   have hi:i<l.length:=by omega
   have hat:=ints_at_ hi
   rw[Int.toNat_natCast]
   repeat(first |(with_reducible first |apply Q0 |apply Q1 |apply QG |apply Q2 |apply Q3 |apply Q4 |apply Q5 |apply Q6 |apply Q7 |apply Q8 |apply Q9 |apply QA |apply QB |apply QC |apply QD |apply QE |apply QF) |((first |(with_reducible apply QK rfl) |(apply QT;simp only[go_sem]<;>exact rfl));simp(disch:=omega)only[go_sem,hs0,upd_ne,h1,h2,hil,hit,hat];exact rfl;simp only[sB,sA,putA];exact rfl) |((first |(with_reducible apply QL rfl) |(apply QM;simp only[go_sem]<;>exact rfl));simp(disch:=omega)only[go_sem,hs0,upd_ne,h1,h2,hil,hit,hat];exact rfl;simp only[sB,sA,putA];exact rfl;simp only[logT_none,logT_rd,logT_wr,List.cons_append,List.nil_append];exact rfl) |((first |apply QI |apply QN);simp only[go_sem]<;>exact rfl;simp only[sB,sA,putA];exact rfl) |(refine QO ?_ ?_;first |focus(simp only[dyn_nil,dyn_cons,allY_nil,allY_cons,dj_rr,true_or,true_and];done) |focus(simp only[dyn_nil,dyn_cons,allY_nil,allY_cons,Dj,List.mem_cons,List.not_mem_nil,or_false,forall_eq,forall_eq_or_imp,and_true,true_and,false_imp_iff,implies_true];omega) |focus(simp only[dyn_nil,dyn_cons,allY_nil,allY_cons,and_true,true_and];(repeat' refine And.intro ?_ ?_);all_goals first |(left;simp only[Dj,List.mem_cons,List.not_mem_nil,or_false,forall_eq,forall_eq_or_imp,and_true,true_and,false_imp_iff,implies_true];first |done |omega) |(right;kernel_rfl))) |(apply QQ;simp only[evA,gB,gA];exact rfl) |((first |apply QX |apply QY);(first |rfl |decide |assumption)))
   (apply QZ;simp(disch:=omega)only[go_sem,Try.results74];exact rfl;simp only[packA];exact rfl)
   exact end_sc hs0 (fun q hq=>by simp(disch:=omega)only[upd_ne]) (Pub.sc _)
  ·simp[AP.run]at hr
 ·simp[AP.run]at hm
theorem a75 (args:List AV):ACall Try.prog 75 args (c75 args):=by
 intro ρ H w vs hR hA s r H' s' hm
 unfold c75 at hm
 split at hm
 ·rename_i p a
  refine acall_genW (args:=[.agg [.ptr p 0 0,.sc (.int .i64 a)]]) Try.func75 rfl (fun E s0 s r H' s' hr hs=>?_) ρ H w _ hR hA s r H' s' hm
  obtain⟨n,ver,l,h1,h2,hr⟩:=rdW_some hr
  split at hr
  ·rename_i hc
   obtain⟨c1,c2,c3⟩:=hc
   simp only[AP.run,Option.some.injEq,Prod.mk.injEq]at hr
   obtain⟨rfl,rfl,rfl⟩:=hr
   have hs0:∀q,s≤q→E.H q=none:=fun q hq=>(hs q hq).1
   have hpl:p<s:=Nat.lt_of_not_le fun h=>by rw[hs0 p h]at h1;cases h1
   have hnl:n<s:=Nat.lt_of_not_le fun h=>by rw[hs0 n h]at h2;cases h2
   refine wA_ok hmix noCT_ok _ (by kernel_rfl) ?_
   simp(maxSteps:=300000)only[begA,Try.ntmps75,List.replicate_succ,List.replicate_zero,List.length_cons,List.length_nil,List.cons_append,List.nil_append]
   have hil:=ints_len l
   have hit:=ints_take l
   obtain⟨i,rfl⟩:∃i:Nat,a=(i:Int):=⟨a.toNat,by omega⟩
   have hi:i+1<l.length:=by omega
   have hat:=ints_at_ hi
   have hi1:(((i:Nat):Int)+1).toNat=i+1:=by omega
   rw[Int.toNat_natCast]
   repeat(first |(with_reducible first |apply Q0 |apply Q1 |apply QG |apply Q2 |apply Q3 |apply Q4 |apply Q5 |apply Q6 |apply Q7 |apply Q8 |apply Q9 |apply QA |apply QB |apply QC |apply QD |apply QE |apply QF) |((first |(with_reducible apply QK rfl) |(apply QT;simp only[go_sem]<;>exact rfl));simp(disch:=omega)only[go_sem,hs0,upd_ne,h1,h2,hil,hit,hat,hi1,tn1];exact rfl;simp only[sB,sA,putA];exact rfl) |((first |(with_reducible apply QL rfl) |(apply QM;simp only[go_sem]<;>exact rfl));simp(disch:=omega)only[go_sem,hs0,upd_ne,h1,h2,hil,hit,hat,hi1,tn1];exact rfl;simp only[sB,sA,putA];exact rfl;simp only[logT_none,logT_rd,logT_wr,List.cons_append,List.nil_append];exact rfl) |((first |apply QI |apply QN);simp only[go_sem]<;>exact rfl;simp only[sB,sA,putA];exact rfl) |(refine QO ?_ ?_;first |focus(simp only[dyn_nil,dyn_cons,allY_nil,allY_cons,dj_rr,true_or,true_and];done) |focus(simp only[dyn_nil,dyn_cons,allY_nil,allY_cons,Dj,List.mem_cons,List.not_mem_nil,or_false,forall_eq,forall_eq_or_imp,and_true,true_and,false_imp_iff,implies_true];omega) |focus(simp only[dyn_nil,dyn_cons,allY_nil,allY_cons,and_true,true_and];(repeat' refine And.intro ?_ ?_);all_goals first |(left;simp only[Dj,List.mem_cons,List.not_mem_nil,or_false,forall_eq,forall_eq_or_imp,and_true,true_and,false_imp_iff,implies_true];first |done |omega) |(right;kernel_rfl))) |(apply QQ;simp only[evA,gB,gA];exact rfl) |((first |apply QX |apply QY);(first |rfl |decide |assumption)))
   (apply QZ;simp(disch:=omega)only[go_sem,Try.results75];exact rfl;simp only[packA];exact rfl)
   exact end_sc hs0 (fun q hq=>by simp(disch:=omega)only[upd_ne]) (Pub.sc _)
  ·simp[AP.run]at hr
 ·simp[AP.run]at hm
noncomputable def ctV:CT:=fun f args=>if f=74 then c74 args else if f=75 then c75 args else noCT f args
theorem ctV_ok:CTok Try.prog ctV:=fun f args=>by
 unfold ctV
 split
 ·rename_i e;subst e;exact a74 args
 split
 ·rename_i e;subst e;exact a75 args
 ·exact noCT_ok f args
theorem ctV_74 (a:List AV):ctV 74 a=c74 a:=rfl
theorem ctV_75 (a:List AV):ctV 75 a=c75 a:=rfl
theorem cal74:callable Try.prog 74=true:=by kernel_rfl
theorem cal75:callable Try.prog 75=true:=by kernel_rfl
theorem a77 (args:List AV):ACall Try.prog 77 args (c77 args):=by
 intro ρ H w vs hR hA s r H' s' hm
 unfold c77 at hm
 split at hm
 ·rename_i p a
  refine acall_genW (args:=[.agg [.ptr p 0 0,.sc (.int .i64 a)]]) Try.func77 rfl (fun E s0 s r H' s' hr hs=>?_) ρ H w _ hR hA s r H' s' hm
  obtain⟨n,ver,l,h1,h2,hr⟩:=rdW_some hr
  split at hr
  ·rename_i hc
   obtain⟨c1,c2,c3⟩:=hc
   simp only[AP.run,Option.some.injEq,Prod.mk.injEq]at hr
   obtain⟨rfl,rfl,rfl⟩:=hr
   have hs0:∀q,s≤q→E.H q=none:=fun q hq=>(hs q hq).1
   have hpl:p<s:=Nat.lt_of_not_le fun h=>by rw[hs0 p h]at h1;cases h1
   have hnl:n<s:=Nat.lt_of_not_le fun h=>by rw[hs0 n h]at h2;cases h2
   refine wA_ok hmix ctV_ok _ (by kernel_rfl) ?_
   simp(maxSteps:=300000)only[begA,Try.ntmps77,List.replicate_succ,List.replicate_zero,List.length_cons,List.length_nil,List.cons_append,List.nil_append]
   have hil:=ints_len l
   have hit:=ints_take l
   obtain⟨i,rfl⟩:∃i:Nat,a=(i:Int):=⟨a.toNat,by omega⟩
   have hi:i+1<l.length:=by omega
   have hi0:((i:Nat):Int)<((l.length:Nat):Int):=by omega
   have hi2:((i:Nat):Int)+1<((l.length:Nat):Int):=by omega
   rw[Int.toNat_natCast]
   repeat(first |(with_reducible first |apply Q0 |apply Q1 |apply QG |apply Q2 |apply Q3 |apply Q4 |apply Q5 |apply Q6 |apply Q7 |apply Q8 |apply Q9 |apply QA |apply QB |apply QC |apply QD |apply QE |apply QF) |((first |(with_reducible apply QK rfl) |(apply QT;simp only[go_sem]<;>exact rfl));simp(disch:=omega)only[go_sem,hs0,upd_ne,h1,h2,hil,hit,cal74,ctV_74,c74,cal75,ctV_75,c75,rdW,wK,iK_ok,hi0,hi2,c3];exact rfl;simp only[sB,sA,putA];exact rfl) |((first |(with_reducible apply QL rfl) |(apply QM;simp only[go_sem]<;>exact rfl));simp(disch:=omega)only[go_sem,hs0,upd_ne,h1,h2,hil,hit,cal74,ctV_74,c74,cal75,ctV_75,c75,rdW,wK,iK_ok,hi0,hi2,c3];exact rfl;simp only[sB,sA,putA];exact rfl;simp only[logT_none,logT_rd,logT_wr,List.cons_append,List.nil_append];exact rfl) |((first |apply QI |apply QN);simp only[go_sem]<;>exact rfl;simp only[sB,sA,putA];exact rfl) |(refine QO ?_ ?_;first |focus(simp only[dyn_nil,dyn_cons,allY_nil,allY_cons,dj_rr,true_or,true_and];done) |focus(simp only[dyn_nil,dyn_cons,allY_nil,allY_cons,Dj,List.mem_cons,List.not_mem_nil,or_false,forall_eq,forall_eq_or_imp,and_true,true_and,false_imp_iff,implies_true];omega) |focus(simp only[dyn_nil,dyn_cons,allY_nil,allY_cons,and_true,true_and];(repeat' refine And.intro ?_ ?_);all_goals first |(left;simp only[Dj,List.mem_cons,List.not_mem_nil,or_false,forall_eq,forall_eq_or_imp,and_true,true_and,false_imp_iff,implies_true];first |done |omega) |(right;kernel_rfl))) |(apply QQ;simp only[evA,gB,gA];exact rfl) |((first |apply QX |apply QY);(first |rfl |decide |assumption)))
   (apply QZ;simp(disch:=omega)only[go_sem,Try.results77];exact rfl;simp only[packA];exact rfl)
   exact end_sc hs0 (fun q hq=>by simp(disch:=omega)only[upd_ne]) (.agg rfl (fun i x y hx hy=>by
    match i with
    |0=>simp at hx hy;subst hx;subst hy;exact Pub.sc _
    |1=>simp at hx hy;subst hx;subst hy;exact Pub.sc _
    |i+2=>simp at hx))
  ·simp[AP.run]at hr
 ·simp[AP.run]at hm
theorem a88 (args:List AV):ACall Try.prog 88 args (c88 args):=by
 intro ρ H w vs hR hA s r H' s' hm
 unfold c88 at hm
 split at hm
 ·rename_i p
  refine acall_genW (args:=[.ptr p 0 0]) Try.func88 rfl (fun E s0 s r H' s' hr hs=>?_) ρ H w _ hR hA s r H' s' hm
  obtain⟨n,ver,l,h1,h2,hr⟩:=rdW_some hr
  split at hr
  ·rename_i hc
   have c1:=hc
   simp only[AP.run,Option.some.injEq,Prod.mk.injEq]at hr
   obtain⟨rfl,rfl,rfl⟩:=hr
   have hs0:∀q,s≤q→E.H q=none:=fun q hq=>(hs q hq).1
   have hpl:p<s:=Nat.lt_of_not_le fun h=>by rw[hs0 p h]at h1;cases h1
   have hnl:n<s:=Nat.lt_of_not_le fun h=>by rw[hs0 n h]at h2;cases h2
   refine wA_ok hmix noCT_ok _ (by kernel_rfl) ?_
   simp(maxSteps:=300000)only[begA,Try.ntmps88,List.replicate_succ,List.replicate_zero,List.length_cons,List.length_nil,List.cons_append,List.nil_append]
   have hil:=ints_len l
   have hit:=ints_take l
   have hat:=ints_at_ c1
   have hat0:(ints l).head? =some (.sc (.int .i64 (ati l 0))):=by rw[List.head?_eq_getElem?];exact hat
   repeat(first |(with_reducible first |apply Q0 |apply Q1 |apply QG |apply Q2 |apply Q3 |apply Q4 |apply Q5 |apply Q6 |apply Q7 |apply Q8 |apply Q9 |apply QA |apply QB |apply QC |apply QD |apply QE |apply QF) |((first |(with_reducible apply QK rfl) |(apply QT;simp only[go_sem]<;>exact rfl));simp(disch:=omega)only[go_sem,hs0,upd_ne,h1,h2,hil,hit,hat,hat0];exact rfl;simp only[sB,sA,putA];exact rfl) |((first |(with_reducible apply QL rfl) |(apply QM;simp only[go_sem]<;>exact rfl));simp(disch:=omega)only[go_sem,hs0,upd_ne,h1,h2,hil,hit,hat,hat0];exact rfl;simp only[sB,sA,putA];exact rfl;simp only[logT_none,logT_rd,logT_wr,List.cons_append,List.nil_append];exact rfl) |((first |apply QI |apply QN);simp only[go_sem]<;>exact rfl;simp only[sB,sA,putA];exact rfl) |(refine QO ?_ ?_;first |focus(simp only[dyn_nil,dyn_cons,allY_nil,allY_cons,dj_rr,true_or,true_and];done) |focus(simp only[dyn_nil,dyn_cons,allY_nil,allY_cons,Dj,List.mem_cons,List.not_mem_nil,or_false,forall_eq,forall_eq_or_imp,and_true,true_and,false_imp_iff,implies_true];omega) |focus(simp only[dyn_nil,dyn_cons,allY_nil,allY_cons,and_true,true_and];(repeat' refine And.intro ?_ ?_);all_goals first |(left;simp only[Dj,List.mem_cons,List.not_mem_nil,or_false,forall_eq,forall_eq_or_imp,and_true,true_and,false_imp_iff,implies_true];first |done |omega) |(right;kernel_rfl))) |(apply QQ;simp only[evA,gB,gA];exact rfl) |((first |apply QX |apply QY);(first |rfl |decide |assumption)))
   (apply QZ;simp(disch:=omega)only[go_sem,Try.results88];exact rfl;simp only[packA];exact rfl)
   exact end_sc hs0 (fun q hq=>by simp(disch:=omega)only[upd_ne]) (Pub.sc _)
  ·simp[AP.run]at hr
 ·simp[AP.run]at hm
theorem a87 (args:List AV):ACall Try.prog 87 args (c87 args):=by
 intro ρ H w vs hR hA s r H' s' hm
 unfold c87 at hm
 split at hm
 ·split at hm
  ·rename_i n hn
   exact num1 (fun w=>recordAt_any n w hn.1 hn.2) hR hA hm
  ·simp[AP.run]at hm
 ·simp[AP.run]at hm
theorem a89 (args:List AV):ACall Try.prog 89 args (c89 args):=by
 intro ρ H w vs hR hA s r H' s' hm
 unfold c89 at hm
 split at hm
 ·split at hm
  ·rename_i n hn
   exact num1 (fun w=>headAt_any n w hn.1 hn.2) hR hA hm
  ·simp[AP.run]at hm
 ·simp[AP.run]at hm
theorem a66 (args:List AV):ACall Try.prog 66 args (c66 args):=by
 intro ρ H w vs hR hA s r H' s' hm
 unfold c66 at hm
 split at hm
 ·split at hm
  ·rename_i h b hh
   obtain⟨v0,v1,rfl,hv0,hv1⟩:=reps2 hA
   obtain rfl:=Rep.sc_iff.1 hv0
   obtain rfl:=Rep.sc_iff.1 hv1
   simp only[AP.run,Option.some.injEq,Prod.mk.injEq]at hm
   obtain⟨rfl,rfl,rfl⟩:=hm
   refine(bucket_any h b w hh.1 hh.2.1 hh.2.2.1 hh.2.2.2).mono ?_
   rintro e w' ⟨rfl,rfl⟩
   exact⟨_,ρ,rfl,.refl hR,.sc _⟩
  ·simp[AP.run]at hm
 ·simp[AP.run]at hm
noncomputable def ctV1:CT:=fun f args=>if f=87 then c87 args else ctV f args
theorem ctV1_ok:CTok Try.prog ctV1:=fun f args=>by
 unfold ctV1
 split
 ·rename_i e;subst e;exact a87 args
 ·exact ctV_ok f args
theorem ctV1_87 (a:List AV):ctV1 87 a=c87 a:=rfl
theorem cal87:callable Try.prog 87=true:=by kernel_rfl
theorem a73 (args:List AV):ACall Try.prog 73 args (c73 args):=by
 intro ρ H w vs hR hA s r H' s' hm
 unfold c73 at hm
 split at hm
 ·rename_i p a
  refine acall_genW (args:=[.ptr p 0 0,.sc (.int .i64 a)]) Try.func73 rfl (fun E s0 s r H' s' hr hs=>?_) ρ H w _ hR hA s r H' s' hm
  obtain⟨o,h1,hr⟩:=get_some hr
  split at hr
  ·rename_i hc
   simp only[AP.run,Option.some.injEq,Prod.mk.injEq]at hr
   obtain⟨rfl,rfl,rfl⟩:=hr
   have hs0:∀q,s≤q→E.H q=none:=fun q hq=>(hs q hq).1
   refine wA_ok hmix ctV1_ok _ (by kernel_rfl) ?_
   simp(maxSteps:=300000)only[begA,Try.ntmps73,List.replicate_succ,List.replicate_zero,List.length_cons,List.length_nil,List.cons_append,List.nil_append]
   repeat(first |(with_reducible first |apply Q0 |apply Q1 |apply QG |apply Q2 |apply Q3 |apply Q4 |apply Q5 |apply Q6 |apply Q7 |apply Q8 |apply Q9 |apply QA |apply QB |apply QC |apply QD |apply QE |apply QF) |((first |(with_reducible apply QK rfl) |(apply QT;simp only[go_sem]<;>exact rfl));simp(disch:=omega)only[go_sem,hs0,upd_ne,cal87,ctV1_87,c87,hc];exact rfl;simp only[sB,sA,putA];exact rfl) |((first |(with_reducible apply QL rfl) |(apply QM;simp only[go_sem]<;>exact rfl));simp(disch:=omega)only[go_sem,hs0,upd_ne,cal87,ctV1_87,c87,hc];exact rfl;simp only[sB,sA,putA];exact rfl;simp only[logT_none,logT_rd,logT_wr,List.cons_append,List.nil_append];exact rfl) |((first |apply QI |apply QN);simp only[go_sem]<;>exact rfl;simp only[sB,sA,putA];exact rfl) |(refine QO ?_ ?_;first |focus(simp only[dyn_nil,dyn_cons,allY_nil,allY_cons,dj_rr,true_or,true_and];done) |focus(simp only[dyn_nil,dyn_cons,allY_nil,allY_cons,Dj,List.mem_cons,List.not_mem_nil,or_false,forall_eq,forall_eq_or_imp,and_true,true_and,false_imp_iff,implies_true];omega) |focus(simp only[dyn_nil,dyn_cons,allY_nil,allY_cons,and_true,true_and];(repeat' refine And.intro ?_ ?_);all_goals first |(left;simp only[Dj,List.mem_cons,List.not_mem_nil,or_false,forall_eq,forall_eq_or_imp,and_true,true_and,false_imp_iff,implies_true];first |done |omega) |(right;kernel_rfl))) |(apply QQ;simp only[evA,gB,gA];exact rfl) |((first |apply QX |apply QY);(first |rfl |decide |assumption)))
   (apply QZ;simp(disch:=omega)only[go_sem,Try.results73];exact rfl;simp only[packA];exact rfl)
   refine end_sc hs0 (fun q hq=>by simp(disch:=omega)only[upd_ne]) (.agg rfl (fun i x y hx hy=>?_))
   match i with
   |0=>simp at hx hy;subst hx;subst hy;exact .same ⟨by rw[h1];simp,rfl⟩
   |1=>simp at hx hy;subst hx;subst hy;exact Pub.sc _
   |i+2=>simp at hx
  ·simp[AP.run]at hr
 ·simp[AP.run]at hm
noncomputable def ctY:CT:=fun f args=>if f=69 then c69 args else if f=73 then c73 args else if f=77 then c77 args else if f=88 then c88 args else if f=89 then c89 args else if f=66 then c66 args else ctV1 f args
theorem ctY_ok:CTok Try.prog ctY:=fun f args=>by
 unfold ctY
 split
 ·rename_i e;subst e;exact a69 args
 split
 ·rename_i e;subst e;exact a73 args
 split
 ·rename_i e;subst e;exact a77 args
 split
 ·rename_i e;subst e;exact a88 args
 split
 ·rename_i e;subst e;exact a89 args
 split
 ·rename_i e;subst e;exact a66 args
 ·exact ctV1_ok f args
theorem ctY_66 (a:List AV):ctY 66 a=c66 a:=rfl
theorem ctY_69 (a:List AV):ctY 69 a=c69 a:=rfl
theorem ctY_73 (a:List AV):ctY 73 a=c73 a:=rfl
theorem ctY_74 (a:List AV):ctY 74 a=c74 a:=rfl
theorem ctY_77 (a:List AV):ctY 77 a=c77 a:=rfl
theorem ctY_87 (a:List AV):ctY 87 a=c87 a:=rfl
theorem ctY_88 (a:List AV):ctY 88 a=c88 a:=rfl
theorem ctY_89 (a:List AV):ctY 89 a=c89 a:=rfl
theorem cal66:callable Try.prog 66=true:=by kernel_rfl
theorem cal69:callable Try.prog 69=true:=by kernel_rfl
theorem cal73:callable Try.prog 73=true:=by kernel_rfl
theorem cal77:callable Try.prog 77=true:=by kernel_rfl
theorem cal88:callable Try.prog 88=true:=by kernel_rfl
theorem cal89:callable Try.prog 89=true:=by kernel_rfl
end Go.Proofs.Ytdcomhdadnhpnaa
