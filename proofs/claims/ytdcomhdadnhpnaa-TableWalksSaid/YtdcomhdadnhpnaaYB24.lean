import Derived.Test.YtdcomhdadnhpnaaYB23
set_option linter.all false
namespace Go.Proofs.Ytdcomhdadnhpnaa
open Go Go.Am Go.RowKit
attribute [local irreducible] wA opsQ opsLQ thenA blockA EndA
theorem mrg_end {H0 H1 H':AHp} {s s' p nm V i:Nat} {P:List AV} {chs:List (List Nat)} {vS:AV} {cS:List Nat} {x:Value} (hi:i<chs.length)
  (hs:∀n,s≤n→H0 n=none∧H' n=none) (hE:∀q,q<s→q≠p→q≠nm→H1 q=H0 q)
  (hp1:H1 p=some (.row 0 1 P)) (hn1:H1 nm=some (.row V 1 ((rowsN chs).set i vS))) (hpn:p≠nm) (hp0:H0 p≠none) (hn0:H0 nm≠none)
  (hP:∀a∈P,∀K:Nat→Prop,(∀q,H0 q≠none→K q)→a.inS K) (hS:RowE s 1 vS H1 s' (natsA cS) cS.length)
  (hH:H'=upd (upd H0 nm (.row V 1 (rowsN (chs.set i cS)))) p (.row 0 1 P)):
  ∃(H2:AHp) (r2:AV) (N:Nat→Option (Nat×Nat)),WkH H1 H2∧Wk r2 (.sc x)∧Fin H0 H2 N H'∧Pub H2 (fun n=>H' n≠none∧N n=none) N (.sc x) r2:=by
 obtain⟨vS',wS,pS⟩:=hS.told
 have hlt:∀q,H0 q≠none→q<s:=fun q h=>Nat.lt_of_not_le fun k=>h (hs q k).1
 have hps:=hlt p hp0
 have hns:=hlt nm hn0
 have hrl:(rowsN chs).length=chs.length:=rowsN_len _
 let H2:AHp:=upd H1 nm (.row V 1 ((rowsN chs).set i vS'))
 have e2:∀q,s≤q→H2 q=H1 q:=fun q hq=>upd_ne _ _ (by omega)
 have hK:∀q,H0 q≠none→H' q≠none:=fun q hq=>by
  rw[hH]
  by_cases e:q=p
  ·subst e;rw[upd_same];simp
  ·rw[upd_ne _ _ e]
   by_cases e':q=nm
   ·subst e';rw[upd_same];simp
   ·rw[upd_ne _ _ e'];exact hq
 refine⟨H2,_,fun _=>none,fun q=>?_,Wk.rfl',⟨fun n hn=>⟨hK n hn,rfl⟩,fun n o' hn=>.inl ⟨rfl,?_⟩,fun a b n o o' h=>by simp at h,fun q n o h=>by simp at h,⟨s,fun n hn=>(hs n hn).2⟩⟩,Pub.sc _⟩
 ·by_cases e:q=nm
  ·subst e
   refine .inr ⟨_,_,hn1,upd_same _ _ _,.inr ⟨V,1,_,_,rfl,rfl,by simp,fun j a b ha hb=>?_⟩⟩
   by_cases e:i=j
   ·subst e
    rw[List.getElem?_set_self (by omega)]at ha hb
    cases ha;cases hb;exact wS
   ·rw[List.getElem?_set_ne e]at ha hb
    rw[ha]at hb;cases hb;exact Wk.rfl'
  ·have e3:H2 q=H1 q:=upd_ne _ _ e
   cases h:H1 q with
   |none=>exact .inl ⟨rfl,by rw[e3];exact h⟩
   |some o=>exact .inr ⟨o,o,rfl,by rw[e3];exact h,.inl rfl⟩
 ·rw[hH]at hn
  by_cases e:n=p
  ·subst e
   rw[upd_same]at hn;cases hn
   refine .inr ⟨_,(upd_ne _ _ hpn).trans hp1,.row rfl (fun j a b ha hb=>?_)⟩
   rw[ha]at hb;cases hb
   exact .same (hP a (List.mem_of_getElem? ha) _ (fun q hq=>⟨hK q hq,rfl⟩))
  ·rw[upd_ne _ _ e]at hn
   by_cases e':n=nm
   ·subst e'
    rw[upd_same]at hn;cases hn
    have hh:∀q,s≤q→H2 q=H1 q∧¬(H' q≠none∧(none:Option (Nat×Nat))=none):=fun q hq=>⟨e2 q hq,fun k=>k.1 (hs q hq).2⟩
    refine .inr ⟨_,upd_same _ _ _,.row (by simp[rowsN]) (fun j a b ha hb=>?_)⟩
    rw[rowsN_set]at hb
    by_cases e:i=j
    ·subst e
     rw[List.getElem?_set_self (by omega)]at ha hb
     cases ha;cases hb;exact pS _ _ hh
    ·rw[List.getElem?_set_ne e]at ha hb
     rw[ha]at hb;cases hb;exact .same (row_inS (List.mem_of_getElem? ha))
   ·rw[upd_ne _ _ e']at hn
    have hns:=hlt n (by rw[hn];simp)
    refine .inl ⟨hn,?_⟩
    show upd H1 nm _ n=_
    rw[upd_ne _ _ e',hE n hns e e']
    exact hn
theorem a85 (args:List AV):ACall Try.prog 85 args (c85 args):=by
 by_cases ha:∃p,args=[.ptr p 0 0]
 ·obtain⟨p,rfl⟩:=ha
  refine acall_genW Try.func85 rfl (fun E s0 s r H' s' hr hs=>?_)
  have hs0:∀q,s≤q→E.H q=none:=fun q hq=>(hs q hq).1
  obtain⟨o,hp,q1⟩:=get_some hr
  obtain⟨nm1,ver1,n,nm,ver,b,rfl,q2⟩:=bxK_some q1
  obtain⟨o,h1,q3⟩:=get_some q2
  obtain⟨recs,rfl,q4⟩:=eK_some q3
  obtain⟨o,h2,q5⟩:=get_some q4
  obtain⟨chs,rfl,q6⟩:=cK_some q5
  clear hr q1 q2 q3 q4 q5
  have hr:=q6
  clear q6
  split at hr
  ·rename_i hc
   obtain⟨hW,rfl⟩:=hc
   simp only[AP.run,Option.some.injEq,Prod.mk.injEq]at hr
   obtain⟨rfl,rfl,rfl⟩:=hr
   have hpn:p≠nm:=fun e=>by
    rw[e,h2]at hp
    injection hp with hp
    injection hp with _ _ h3
    have:=hW.b.1
    cases chs with
    |nil=>simp[rowsN]at h3
    |cons c chs=>simp[rowsN]at h3
   have hi:mrgI chs.length<chs.length:=by have:=hW.b.1;unfold mrgI;omega
   refine wA_ok hmix ctQ_ok _ (by kernel_rfl) (mrg_walk hW E s p nm1 ver1 nm ver hs0 hp h1 h2 hpn _ (fun H1 vO s' k1 k2 k3 k4=>?_))
   refine mrg_end hi hs k1 k2 k3 hpn (by rw[hp];simp) (by rw[h2];simp) (fun a ha K hK=>?_) k4 rfl
   rcases List.mem_cons.1 ha with rfl |ha
   ·exact hK _ (by rw[h1];simp)
   ·rcases List.mem_cons.1 ha with rfl |ha
    ·exact hK _ (by rw[h2];simp)
    ·cases ha
  ·simp[AP.run]at hr
 ·have:c85 args= .fail:=by
   unfold c85
   split
   ·exact absurd ⟨_,rfl⟩ ha
   ·rfl
  rw[this]
  intro ρ H w vs hR hA s r H' s' hm;simp[AP.run]at hm
open Classical in
noncomputable def c51o:List AV→AP AV
 | [x]=>rdT x fun recs chs=>if WOK recs chs then .new (.row 0 1 (ints (wordsF recs chs))) fun n=>.ret (.sl n 0 0 (wordsF recs chs).length)else .fail
 |_=>.fail
theorem a51o (args:List AV):ACall Try.prog 51 args (c51o args):=by
 intro ρ H w vs hR hA s r H' s' hm
 unfold c51o at hm
 split at hm
 ·obtain⟨v0,rfl,hv0⟩:=reps1 hA
  obtain⟨recs,chs,hr,hm⟩:=rdT_data hR hv0 hm
  split at hm
  ·rename_i hw
   exact(words_ro recs chs hw.n hw.b hw.r hw.l).own1 hR (.cons hr .nil) hm
  ·simp[AP.run]at hm
 ·simp[AP.run]at hm
noncomputable def ctS:CT:=fun f args=>if f=51 then c51o args else if f=85 then c85 args else ctR f args
theorem ctS_ok:CTok Try.prog ctS:=fun f args=>by
 unfold ctS
 split
 ·rename_i e;subst e;exact a51o args
 split
 ·rename_i e;subst e;exact a85 args
 ·exact ctR_ok f args
theorem ctS_18 (a:List AV):ctS 18 a=ctR 18 a:=rfl
theorem ctS_21 (a:List AV):ctS 21 a=ctR 21 a:=rfl
theorem ctS_22 (a:List AV):ctS 22 a=ctR 22 a:=rfl
theorem ctS_51 (a:List AV):ctS 51 a=c51o a:=rfl
theorem ctS_78 (a:List AV):ctS 78 a=c78o a:=rfl
theorem ctS_79 (a:List AV):ctS 79 a=c79 a:=rfl
theorem ctS_80 (a:List AV):ctS 80 a=c80 a:=rfl
theorem ctS_81 (a:List AV):ctS 81 a=c81 a:=rfl
theorem ctS_82 (a:List AV):ctS 82 a=c82 a:=rfl
theorem ctS_83 (a:List AV):ctS 83 a=c83 a:=rfl
theorem ctS_96 (a:List AV):ctS 96 a=ctR 96 a:=rfl
theorem cal85:callable Try.prog 85=true:=by kernel_rfl
end Go.Proofs.Ytdcomhdadnhpnaa
