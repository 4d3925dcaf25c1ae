import Derived.Test.YtdcomhdadnhpnaaYZB43
import Derived.Test.YtdcomhdadnhpnaaYZP28
set_option linter.all false
namespace Go.Proofs.Ytdcomhdadnhpnaa
open Go Go.Am Go.RowKit
attribute [local irreducible] wA opsQ opsLQ thenA blockA EndA
attribute [local go_sem] Try.underlying24 Try.underlying36 Try.underlying44
attribute [local go_sem] put5
noncomputable def c53:List AV→AP AV
 | [t]=>rdK t fun l=>if l.length≤1000000000 then .ret (.sc (.bool true))else .fail
 |_=>.fail
theorem a53 (args:List AV):ACall Try.prog 53 args (c53 args):=by
 intro ρ H w vs hR hA s r H' s' hm
 unfold c53 at hm
 split at hm
 ·obtain⟨v0,rfl,hv0⟩:=reps1 hA
  obtain⟨l,hr,hm⟩:=rdK_data hR hv0 hm
  split at hm
  ·rename_i hc
   simp only[AP.run,Option.some.injEq,Prod.mk.injEq]at hm
   obtain⟨rfl,rfl,rfl⟩:=hm
   exact(checks_rc l hc).acall hR (.cons hr .nil)
  ·simp[AP.run]at hm
 ·simp[AP.run]at hm
section
variable (L:List (Int×Int)) (ops:List OpT) (b:Bool) (x y:Int)
noncomputable def ctTC:CT:=fun f args=>if f=51 then c51 args else if f=52 then c52 args else if f=53 then c53 args else if f=32 then c32p L ops b x y args else if f=33 then c33p L ops b x y args else ctT f args
theorem ctTC_ok:CTok Try.prog (ctTC L ops b x y):=fun f args=>by
 unfold ctTC
 split
 ·rename_i e;subst e;exact a51 args
 split
 ·rename_i e;subst e;exact a52 args
 split
 ·rename_i e;subst e;exact a53 args
 split
 ·rename_i e;subst e;exact a32p L ops b x y args
 split
 ·rename_i e;subst e;exact a33p L ops b x y args
 ·exact ctT_ok f args
variable (a:List AV)
theorem ctTC_15:ctTC L ops b x y 15 a=c15 a:=rfl
theorem ctTC_23:ctTC L ops b x y 23 a=c23 a:=rfl
theorem ctTC_32:ctTC L ops b x y 32 a=c32p L ops b x y a:=rfl
theorem ctTC_33:ctTC L ops b x y 33 a=c33p L ops b x y a:=rfl
theorem ctTC_36:ctTC L ops b x y 36 a=c36 a:=rfl
theorem ctTC_51:ctTC L ops b x y 51 a=c51 a:=rfl
theorem ctTC_52:ctTC L ops b x y 52 a=c52 a:=rfl
theorem ctTC_53:ctTC L ops b x y 53 a=c53 a:=rfl
end
theorem kcal15:callable Try.prog 15=true:=by kernel_rfl
theorem kcal23:callable Try.prog 23=true:=by kernel_rfl
theorem kcal51:callable Try.prog 51=true:=by kernel_rfl
theorem kcal52:callable Try.prog 52=true:=by kernel_rfl
theorem kcal53:callable Try.prog 53=true:=by kernel_rfl
set_option maxRecDepth 100000 in
set_option maxHeartbeats 8000000 in
theorem tableChecks_call (t:List Int) (L:List (Int×Int)) (ops:List OpT) (b:Bool) (x y:Int):
  ACall Try.prog 12 [.dsl t.length (ints t),playG L ops b x y] (.ret (.sc (.bool true))):=by
 refine acall_pure' hmix (ctTC_ok L ops b x y) Try.func12 rfl (by kernel_rfl) (fun E s hs=>?_)
 simp(maxSteps:=300000)only[begA,Try.ntmps12,List.replicate_succ,List.replicate_zero,List.length_cons,List.length_nil,List.cons_append,List.nil_append]
 have h32:c32p L ops b x y [playG L ops b x y]= .ret (.sc (.bool (decide (L.length≤300∧ops.length≤300)))):=if_pos rfl
 have hfw:=fresh_words
 have hfl:=freshL_le
 have hwk:=wok_empty
 by_cases h3:(3000:Int)<((t.length:Nat):Int)
 ·repeat(first |(with_reducible first |apply Q0 |apply Q1 |apply Q2 |apply Q3 |apply Q4 |apply Q5 |apply Q6 |apply Q7 |apply Q8 |apply Q9 |apply QA |apply QB |apply QC |apply QD |apply QE |apply QF) |((first |(with_reducible apply QK rfl) |(apply QT;simp only[go_sem]<;>exact rfl));simp(disch:=omega)only[go_sem,hs,upd_ne,kcal15,ctTC_15,c15,kcal23,ctTC_23,c23,kcal52,ctTC_52,c52,kcal51,ctTC_51,c51,rdT_tab,hwk,hfw,cal36',ctTC_36,c36,rdK_dsl,hfl,h3];exact rfl;simp only[sB,sA,putA];exact rfl) |(apply QI;simp only[go_sem]<;>exact rfl;simp only[sB,sA,putA];exact rfl) |(apply QQ;simp only[evA,gB,gA];exact rfl) |((first |apply QX |apply QY);(first |rfl |decide |assumption)))
  (apply QZ;simp(disch:=omega)only[go_sem,Try.results12];exact rfl;simp only[packA];exact rfl)
  exact⟨fun q hq=>(by have hq2:q<s:=Nat.lt_of_not_le (fun hle=>hq (hs q hle));simp(disch:=omega)only[upd_ne]),Pub.sc _⟩
 by_cases hsm:L.length≤300∧ops.length≤300
 rotate_left
 ·rw[decide_eq_false hsm]at h32
  repeat(first |(with_reducible first |apply Q0 |apply Q1 |apply Q2 |apply Q3 |apply Q4 |apply Q5 |apply Q6 |apply Q7 |apply Q8 |apply Q9 |apply QA |apply QB |apply QC |apply QD |apply QE |apply QF) |((first |(with_reducible apply QK rfl) |(apply QT;simp only[go_sem]<;>exact rfl));simp(disch:=omega)only[go_sem,hs,upd_ne,kcal15,ctTC_15,c15,kcal23,ctTC_23,c23,kcal52,ctTC_52,c52,kcal51,ctTC_51,c51,rdT_tab,hwk,hfw,cal36',ctTC_36,c36,rdK_dsl,hfl,h3,cal32,ctTC_32,h32];exact rfl;simp only[sB,sA,putA];exact rfl) |(apply QI;simp only[go_sem]<;>exact rfl;simp only[sB,sA,putA];exact rfl) |(apply QQ;simp only[evA,gB,gA];exact rfl) |((first |apply QX |apply QY);(first |rfl |decide |assumption)))
  (apply QZ;simp(disch:=omega)only[go_sem,Try.results12];exact rfl;simp only[packA];exact rfl)
  exact⟨fun q hq=>(by have hq2:q<s:=Nat.lt_of_not_le (fun hle=>hq (hs q hle));simp(disch:=omega)only[upd_ne]),Pub.sc _⟩
 rw[decide_eq_true hsm]at h32
 have h33:c33p L ops b x y [playG L ops b x y]= .ret (.dsl (bentF L ops b x y).length (ints (bentF L ops b x y))):=if_pos ⟨rfl,by omega,by omega⟩
 have hl:=bentF_le L ops b x y
 have htl:t.length≤1000000000:=by omega
 generalize bentF L ops b x y=u at*
 repeat(first |(with_reducible first |apply Q0 |apply Q1 |apply Q2 |apply Q3 |apply Q4 |apply Q5 |apply Q6 |apply Q7 |apply Q8 |apply Q9 |apply QA |apply QB |apply QC |apply QD |apply QE |apply QF) |((first |(with_reducible apply QK rfl) |(apply QT;simp only[go_sem]<;>exact rfl));simp(disch:=omega)only[go_sem,hs,upd_ne,kcal15,ctTC_15,c15,kcal23,ctTC_23,c23,kcal52,ctTC_52,c52,kcal51,ctTC_51,c51,rdT_tab,hwk,hfw,cal36',ctTC_36,c36,rdK_dsl,hfl,h3,cal32,ctTC_32,h32,cal33,ctTC_33,h33,kcal53,ctTC_53,c53,hl,htl];exact rfl;simp only[sB,sA,putA];exact rfl) |(apply QI;simp only[go_sem]<;>exact rfl;simp only[sB,sA,putA];exact rfl) |(apply QQ;simp only[evA,gB,gA];exact rfl) |((first |apply QX |apply QY);(first |rfl |decide |assumption)))
 (apply QZ;simp(disch:=omega)only[go_sem,Try.results12];exact rfl;simp only[packA];exact rfl)
 exact⟨fun q hq=>(by have hq2:q<s:=Nat.lt_of_not_le (fun hle=>hq (hs q hle));simp(disch:=omega)only[upd_ne]),Pub.sc _⟩
end Go.Proofs.Ytdcomhdadnhpnaa
