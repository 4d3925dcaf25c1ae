import Derived.Test.YtdcomhdadnhpnaaYB35
import Derived.Test.YtdcomhdadnhpnaaYB39
set_option linter.all false
namespace Go.Proofs.Ytdcomhdadnhpnaa
open Go Go.Am Go.RowKit
attribute [local irreducible] wA opsQ opsLQ thenA blockA EndA
attribute [local go_sem] Try.underlying60
attribute [local go_sem] put5
theorem findF_le (l:List Int) (h:Int):(findF l h).1.length≤1000000000:=by
 unfold findF
 split
 ·simp
 ·rename_i hV
  split
  ·simp
  ·have hV:ValidL l:=by simpa using hV
   have g:=tab_g hV
   have hi:=bkt_lt h.toNat (b:=bkts (tabN l)) (by have:=bkts8 (tabN l);omega)
   have h1:=g.clen hi
   have h2:=g.n1
   simp only
   unfold outL
   rw[List.length_map]
   have:=List.length_filter_le (fun r=>decide (ati l (recAt r)=h)) (tabC l (bkt h.toNat (bkts (tabN l))))
   omega
noncomputable def c40:List AV→AP AV
 | [t,.sc (.int .i64 h)]=>rdK t fun l=>if l.length≤1000000000 then .ret (.tup [.dsl (findF l h).1.length (ints (findF l h).1),.sc (.int .i64 (findF l h).2.1),.sc (.int .i64 (findF l h).2.2)])else .fail
 |_=>.fail
noncomputable def c41:List AV→AP AV
 | [t,.sc (.int .i64 x)]=>rdK t fun l=>.ret (nextG (nextF l x))
 |_=>.fail
noncomputable def c42:List AV→AP AV
 | [t,.sc (.int .i64 x)]=>rdK t fun l=>if l.length≤1000000000 then .ret (nextG (nextF l x))else .fail
 |_=>.fail
theorem a40 (args:List AV):ACall Try.prog 40 args (c40 args):=by
 intro ρ H w vs hR hA s r H' s' hm
 unfold c40 at hm
 split at hm
 ·obtain⟨v0,v1,rfl,hv0,hv1⟩:=arg2 hA
  obtain⟨l,hr,hm⟩:=rdK_data hR hv0 hm
  split at hm
  ·rename_i hc
   obtain rfl:=Rep.sc_iff.1 hv1
   simp only[AP.run,Option.some.injEq,Prod.mk.injEq]at hm
   obtain⟨rfl,rfl,rfl⟩:=hm
   exact(rfind_rc l _ hc).acall hR (.cons hr (.cons (.sc _) .nil))
  ·simp[AP.run]at hm
 ·simp[AP.run]at hm
theorem a41 (args:List AV):ACall Try.prog 41 args (c41 args):=by
 intro ρ H w vs hR hA s r H' s' hm
 unfold c41 at hm
 split at hm
 ·obtain⟨v0,v1,rfl,hv0,hv1⟩:=arg2 hA
  obtain⟨l,hr,hm⟩:=rdK_data hR hv0 hm
  obtain rfl:=Rep.sc_iff.1 hv1
  simp only[AP.run,Option.some.injEq,Prod.mk.injEq]at hm
  obtain⟨rfl,rfl,rfl⟩:=hm
  exact(next_rc l _).acall hR (.cons hr (.cons (.sc _) .nil))
 ·simp[AP.run]at hm
theorem a42 (args:List AV):ACall Try.prog 42 args (c42 args):=by
 intro ρ H w vs hR hA s r H' s' hm
 unfold c42 at hm
 split at hm
 ·obtain⟨v0,v1,rfl,hv0,hv1⟩:=arg2 hA
  obtain⟨l,hr,hm⟩:=rdK_data hR hv0 hm
  split at hm
  ·rename_i hc
   obtain rfl:=Rep.sc_iff.1 hv1
   simp only[AP.run,Option.some.injEq,Prod.mk.injEq]at hm
   obtain⟨rfl,rfl,rfl⟩:=hm
   exact(rnext_rc l _ hc).acall hR (.cons hr (.cons (.sc _) .nil))
  ·simp[AP.run]at hm
 ·simp[AP.run]at hm
section
variable (L:List (Int×Int)) (ops:List OpT) (b:Bool) (x y:Int)
noncomputable def ctZ:CT:=fun f args=>if f=40 then c40 args else if f=41 then c41 args else if f=42 then c42 args else if f=32 then c32p L ops b x y args else if f=33 then c33p L ops b x y args else ctT f args
theorem ctZ_ok:CTok Try.prog (ctZ L ops b x y):=fun f args=>by
 unfold ctZ
 split
 ·rename_i e;subst e;exact a40 args
 split
 ·rename_i e;subst e;exact a41 args
 split
 ·rename_i e;subst e;exact a42 args
 split
 ·rename_i e;subst e;exact a32p L ops b x y args
 split
 ·rename_i e;subst e;exact a33p L ops b x y args
 ·exact ctT_ok f args
variable (a:List AV)
theorem ctZ_15:ctZ L ops b x y 15 a=c15 a:=rfl
theorem ctZ_26:ctZ L ops b x y 26 a=c26 a:=rfl
theorem ctZ_32:ctZ L ops b x y 32 a=c32p L ops b x y a:=rfl
theorem ctZ_33:ctZ L ops b x y 33 a=c33p L ops b x y a:=rfl
theorem ctZ_36:ctZ L ops b x y 36 a=c36 a:=rfl
theorem ctZ_40:ctZ L ops b x y 40 a=c40 a:=rfl
theorem ctZ_41:ctZ L ops b x y 41 a=c41 a:=rfl
theorem ctZ_42:ctZ L ops b x y 42 a=c42 a:=rfl
end
theorem cal26:callable Try.prog 26=true:=by kernel_rfl
theorem cal40:callable Try.prog 40=true:=by kernel_rfl
theorem cal41:callable Try.prog 41=true:=by kernel_rfl
theorem cal42:callable Try.prog 42=true:=by kernel_rfl
set_option maxRecDepth 100000 in
set_option maxHeartbeats 8000000 in
theorem tableFinds_call (L:List (Int×Int)) (ops:List OpT) (b:Bool) (x y h at_:Int):
  ACall Try.prog 7 [playG L ops b x y,.sc (.int .i64 h),.sc (.int .i64 at_)] (.ret (.sc (.bool true))):=by
 refine acall_pure' hmix (ctZ_ok L ops b x y) Try.func7 rfl (by kernel_rfl) (fun E s hs=>?_)
 simp(maxSteps:=300000)only[begA,Try.ntmps7,List.replicate_succ,List.replicate_zero,List.length_cons,List.length_nil,List.cons_append,List.nil_append]
 have h32:c32p L ops b x y [playG L ops b x y]= .ret (.sc (.bool (decide (L.length≤300∧ops.length≤300)))):=if_pos rfl
 by_cases hsm:L.length≤300∧ops.length≤300
 rotate_left
 ·rw[decide_eq_false hsm]at h32
  repeat(first |(with_reducible first |apply Q0 |apply Q1 |apply Q2 |apply Q3 |apply Q4 |apply Q5 |apply Q6 |apply Q7 |apply Q8 |apply Q9 |apply QA |apply QB |apply QC |apply QD |apply QE |apply QF) |((first |(with_reducible apply QK rfl) |(apply QT;simp only[go_sem]<;>exact rfl));simp(disch:=omega)only[go_sem,hs,upd_ne,cal15,ctZ_15,c15,cal32,ctZ_32,h32];exact rfl;simp only[sB,sA,putA];exact rfl) |(apply QI;simp only[go_sem]<;>exact rfl;simp only[sB,sA,putA];exact rfl) |(apply QQ;simp only[evA,gB,gA];exact rfl) |((first |apply QX |apply QY);(first |rfl |decide |assumption)))
  (apply QZ;simp(disch:=omega)only[go_sem,Try.results7];exact rfl;simp only[packA];exact rfl)
  exact⟨fun q hq=>(by have hq2:q<s:=Nat.lt_of_not_le (fun hle=>hq (hs q hle));simp(disch:=omega)only[upd_ne]),Pub.sc _⟩
 rw[decide_eq_true hsm]at h32
 have h33:c33p L ops b x y [playG L ops b x y]= .ret (.dsl (bentF L ops b x y).length (ints (bentF L ops b x y))):=if_pos ⟨rfl,by omega,by omega⟩
 have hl:=bentF_le L ops b x y
 generalize bentF L ops b x y=t at*
 have hfl:=findF_le t h
 obtain⟨a,ha⟩:∃a,nextF t at_=a:=⟨_,rfl⟩
 obtain⟨a1,a2,a3,a4,a5⟩:=a
 repeat(first |(with_reducible first |apply Q0 |apply Q1 |apply Q2 |apply Q3 |apply Q4 |apply Q5 |apply Q6 |apply Q7 |apply Q8 |apply Q9 |apply QA |apply QB |apply QC |apply QD |apply QE |apply QF) |((first |(with_reducible apply QK rfl) |(apply QT;simp only[go_sem]<;>exact rfl));simp(disch:=omega)only[go_sem,hs,upd_ne,cal15,ctZ_15,c15,cal32,ctZ_32,h32,cal33,ctZ_33,h33,cal26,ctZ_26,c26,rdK_dsl,cal40,ctZ_40,c40,hl,cal41,ctZ_41,c41,cal42,ctZ_42,c42,cal36,ctZ_36,c36,hfl,bin_eql43,ha];exact rfl;simp only[sB,sA,putA];exact rfl) |(apply QI;simp only[go_sem]<;>exact rfl;simp only[sB,sA,putA];exact rfl) |(apply QQ;simp only[evA,gB,gA];exact rfl) |((first |apply QX |apply QY);(first |rfl |decide |assumption)))
 (apply QZ;simp(disch:=omega)only[go_sem,Try.results7];exact rfl;simp only[packA];exact rfl)
 exact⟨fun q hq=>(by have hq2:q<s:=Nat.lt_of_not_le (fun hle=>hq (hs q hle));simp(disch:=omega)only[upd_ne]),Pub.sc _⟩
end Go.Proofs.Ytdcomhdadnhpnaa
