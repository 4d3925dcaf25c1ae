import Derived.Test.YtdcomhdadnhpnaaYZB23
import Derived.Test.YtdcomhdadnhpnaaYZP1
set_option linter.all false
section
namespace Go.Proofs.Ytdcomhdadnhpnaa
open Go Go.Am Go.RowKit
attribute [local irreducible] wA opsQ opsLQ thenA blockA EndA
theorem mrg_end {H0 H1 H':AHp} {s s' p nm V i:Nat} {P:List AV} {chs:List (List Nat)} {vS:AV} {cS:List Nat} {x:Value} (hi:i<chs.length)
  (hs:∀n,s≤n→H0 n=none∧H' n=none) (hE:∀q,q<s→q≠p→q≠nm→H1 q=H0 q)
  (hp1:H1 p=some (.row 0 1 P)) (hn1:H1 nm=some (.row V 1 ((rowsN chs).set i vS))) (hpn:p≠nm) (hp0:H0 p≠none) (hn0:H0 nm≠none)
  (hP:∀a∈P,∀K:Nat→Prop,(∀q,H0 q≠none→K q)→a.inS K) (hS:RowE s 1 vS H1 s' (natsA cS) cS.length)
  (hH:H'=upd (upd H0 nm (.row V 1 (rowsN (chs.set i cS)))) p (.row 0 1 P)):
  ∃(H2:AHp) (r2:AV) (N:Nat→Option (Nat×Nat)),WkH H1 H2∧Wk r2 (.sc x)∧Fin H0 H2 N H'∧Pub H2 (fun n=>H' n≠none∧N n=none) N (.sc x) r2:=by
 obtain⟨vS',wS,pS⟩:=hS.told
 have hlt:∀q,H0 q≠none→q<s:=fun q h=>Nat.lt_of_not_le fun k=>h (hs q k).1
 have hps:=hlt p hp0
 have hns:=hlt nm hn0
 have hrl:(rowsN chs).length=chs.length:=rowsN_len _
 let H2:AHp:=upd H1 nm (.row V 1 ((rowsN chs).set i vS'))
 have e2:∀q,s≤q→H2 q=H1 q:=fun q hq=>upd_ne _ _ (by omega)
 have hK:∀q,H0 q≠none→H' q≠none:=fun q hq=>by
  rw[hH]
  by_cases e:q=p
  ·subst e;rw[upd_same];simp
  ·rw[upd_ne _ _ e]
   by_cases e':q=nm
   ·subst e';rw[upd_same];simp
   ·rw[upd_ne _ _ e'];exact hq
 refine⟨H2,_,fun _=>none,fun q=>?_,Wk.rfl',⟨fun n hn=>⟨hK n hn,rfl⟩,fun n o' hn=>.inl ⟨rfl,?_⟩,fun a b n o o' h=>by simp at h,fun q n o h=>by simp at h,⟨s,fun n hn=>(hs n hn).2⟩⟩,Pub.sc _⟩
 ·by_cases e:q=nm
  ·subst e
   refine .inr ⟨_,_,hn1,upd_same _ _ _,.inr ⟨V,1,_,_,rfl,rfl,by simp,fun j a b ha hb=>?_⟩⟩
   by_cases e:i=j
   ·subst e
    rw[List.getElem?_set_self (by omega)]at ha hb
    cases ha;cases hb;exact wS
   ·rw[List.getElem?_set_ne e]at ha hb
    rw[ha]at hb;cases hb;exact Wk.rfl'
  ·have e3:H2 q=H1 q:=upd_ne _ _ e
   cases h:H1 q with
   |none=>exact .inl ⟨rfl,by rw[e3];exact h⟩
   |some o=>exact .inr ⟨o,o,rfl,by rw[e3];exact h,.inl rfl⟩
 ·rw[hH]at hn
  by_cases e:n=p
  ·subst e
   rw[upd_same]at hn;cases hn
   refine .inr ⟨_,(upd_ne _ _ hpn).trans hp1,.row rfl (fun j a b ha hb=>?_)⟩
   rw[ha]at hb;cases hb
   exact .same (hP a (List.mem_of_getElem? ha) _ (fun q hq=>⟨hK q hq,rfl⟩))
  ·rw[upd_ne _ _ e]at hn
   by_cases e':n=nm
   ·subst e'
    rw[upd_same]at hn;cases hn
    have hh:∀q,s≤q→H2 q=H1 q∧¬(H' q≠none∧(none:Option (Nat×Nat))=none):=fun q hq=>⟨e2 q hq,fun k=>k.1 (hs q hq).2⟩
    refine .inr ⟨_,upd_same _ _ _,.row (by simp[rowsN]) (fun j a b ha hb=>?_)⟩
    rw[rowsN_set]at hb
    by_cases e:i=j
    ·subst e
     rw[List.getElem?_set_self (by omega)]at ha hb
     cases ha;cases hb;exact pS _ _ hh
    ·rw[List.getElem?_set_ne e]at ha hb
     rw[ha]at hb;cases hb;exact .same (row_inS (List.mem_of_getElem? ha))
   ·rw[upd_ne _ _ e']at hn
    have hns:=hlt n (by rw[hn];simp)
    refine .inl ⟨hn,?_⟩
    show upd H1 nm _ n=_
    rw[upd_ne _ _ e',hE n hns e e']
    exact hn
theorem a85 (args:List AV):ACall Try.prog 85 args (c85 args):=by
 by_cases ha:∃p,args=[.ptr p 0 0]
 ·obtain⟨p,rfl⟩:=ha
  refine acall_genW Try.func85 rfl (fun E s0 s r H' s' hr hs=>?_)
  have hs0:∀q,s≤q→E.H q=none:=fun q hq=>(hs q hq).1
  obtain⟨o,hp,q1⟩:=get_some hr
  obtain⟨nm1,ver1,n,nm,ver,b,rfl,q2⟩:=bxK_some q1
  obtain⟨o,h1,q3⟩:=get_some q2
  obtain⟨recs,rfl,q4⟩:=eK_some q3
  obtain⟨o,h2,q5⟩:=get_some q4
  obtain⟨chs,rfl,q6⟩:=cK_some q5
  clear hr q1 q2 q3 q4 q5
  have hr:=q6
  clear q6
  split at hr
  ·rename_i hc
   obtain⟨hW,rfl⟩:=hc
   simp only[AP.run,Option.some.injEq,Prod.mk.injEq]at hr
   obtain⟨rfl,rfl,rfl⟩:=hr
   have hpn:p≠nm:=fun e=>by
    rw[e,h2]at hp
    injection hp with hp
    injection hp with _ _ h3
    have:=hW.b.1
    cases chs with
    |nil=>simp[rowsN]at h3
    |cons c chs=>simp[rowsN]at h3
   have hi:mrgI chs.length<chs.length:=by have:=hW.b.1;unfold mrgI;omega
   refine wA_ok hmix ctQ_ok _ (by kernel_rfl) (mrg_walk hW E s p nm1 ver1 nm ver hs0 hp h1 h2 hpn _ (fun H1 vO s' k1 k2 k3 k4=>?_))
   refine mrg_end hi hs k1 k2 k3 hpn (by rw[hp];simp) (by rw[h2];simp) (fun a ha K hK=>?_) k4 rfl
   rcases List.mem_cons.1 ha with rfl |ha
   ·exact hK _ (by rw[h1];simp)
   ·rcases List.mem_cons.1 ha with rfl |ha
    ·exact hK _ (by rw[h2];simp)
    ·cases ha
  ·simp[AP.run]at hr
 ·have:c85 args= .fail:=by
   unfold c85
   split
   ·exact absurd ⟨_,rfl⟩ ha
   ·rfl
  rw[this]
  intro ρ H w vs hR hA s r H' s' hm;simp[AP.run]at hm
open Classical in
noncomputable def c51o:List AV→AP AV
 | [x]=>rdT x fun recs chs=>if WOK recs chs then .new (.row 0 1 (ints (wordsF recs chs))) fun n=>.ret (.sl n 0 0 (wordsF recs chs).length)else .fail
 |_=>.fail
theorem a51o (args:List AV):ACall Try.prog 51 args (c51o args):=by
 intro ρ H w vs hR hA s r H' s' hm
 unfold c51o at hm
 split at hm
 ·obtain⟨v0,rfl,hv0⟩:=reps1 hA
  obtain⟨recs,chs,hr,hm⟩:=rdT_data hR hv0 hm
  split at hm
  ·rename_i hw
   exact(words_ro recs chs hw.n hw.b hw.r hw.l).own1 hR (.cons hr .nil) hm
  ·simp[AP.run]at hm
 ·simp[AP.run]at hm
noncomputable def ctS:CT:=fun f args=>if f=51 then c51o args else if f=85 then c85 args else ctR f args
theorem ctS_ok:CTok Try.prog ctS:=fun f args=>by
 unfold ctS
 split
 ·rename_i e;subst e;exact a51o args
 split
 ·rename_i e;subst e;exact a85 args
 ·exact ctR_ok f args
theorem ctS_18 (a:List AV):ctS 18 a=ctR 18 a:=rfl
theorem ctS_21 (a:List AV):ctS 21 a=ctR 21 a:=rfl
theorem ctS_22 (a:List AV):ctS 22 a=ctR 22 a:=rfl
theorem ctS_51 (a:List AV):ctS 51 a=c51o a:=rfl
theorem ctS_78 (a:List AV):ctS 78 a=c78o a:=rfl
theorem ctS_79 (a:List AV):ctS 79 a=c79 a:=rfl
theorem ctS_80 (a:List AV):ctS 80 a=c80 a:=rfl
theorem ctS_81 (a:List AV):ctS 81 a=c81 a:=rfl
theorem ctS_82 (a:List AV):ctS 82 a=c82 a:=rfl
theorem ctS_96 (a:List AV):ctS 96 a=ctR 96 a:=rfl
theorem cal85:callable Try.prog 85=true:=by kernel_rfl
end Go.Proofs.Ytdcomhdadnhpnaa
end
section
namespace Go.Proofs.Ytdcomhdadnhpnaa
open Go Go.Am Go.RowKit
def drpA (chs:List (List Nat)) (h:Int) (r:Nat):List (List Nat):=chs.set (bkt h.toNat chs.length) (wiN (chs.getD (bkt h.toNat chs.length) []) r)
def drpK (recs:List (Int×Int)) (b:Nat):Nat:=bkt (recs.getD (recs.length-1) (0,0)).1.toNat b
def drpC (recs:List (Int×Int)) (chs:List (List Nat)) (h:Int) (r:Nat):List Nat:=(drpA chs h r).getD (drpK recs chs.length) []
def drpB (recs:List (Int×Int)) (chs:List (List Nat)) (h:Int) (r:Nat):List (List Nat):=
 if r=recs.length-1 then drpA chs h r else(drpA chs h r).set (drpK recs chs.length) ((drpC recs chs h r).set ((drpC recs chs h r).idxOf (recs.length-1)) r)
def drpR (recs:List (Int×Int)) (r:Nat):List (Int×Int):=if r=recs.length-1 then recs else recs.set r (recs.getD (recs.length-1) (0,0))
def drpL (recs:List (Int×Int)) (chs:List (List Nat)) (h:Int) (r:Nat):Nat:=
 (chs.getD (bkt h.toNat chs.length) []).idxOf r+1+(if r=recs.length-1 then 0 else(drpC recs chs h r).idxOf (recs.length-1)+1)
def rdropX (recs:List (Int×Int)) (chs:List (List Nat)) (h:Int) (r:Nat):Int×List Int×Int:=
 if bkts (recs.length-1)<chs.length then
  ((drpL recs chs h r+(mrgO (drpR recs r) (drpB recs chs h r)).length:Nat),wordsF ((drpR recs r).take (recs.length-1)) ((mrgS (drpR recs r) (drpB recs chs h r)).take (chs.length-1)),0)
 else((drpL recs chs h r:Nat),wordsF ((drpR recs r).take (recs.length-1)) (drpB recs chs h r),0)
structure DropOK (l:List Int) (h x:Int) (recs:List (Int×Int)) (chs:List (List Nat)) (r:Nat):Prop where
 e:dropF l h x=rdropX recs chs h r
 lt:r<recs.length
 rc:r∈chs.getD (bkt h.toNat chs.length) []
 lk:r≠recs.length-1→recs.length-1∈drpC recs chs h r
 hk:r≠recs.length-1→0≤(recs.getD (recs.length-1) (0,0)).1∧(recs.getD (recs.length-1) (0,0)).1≤2147483647
 w0:¬bkts (recs.length-1)<chs.length→WOK ((drpR recs r).take (recs.length-1)) (drpB recs chs h r)
 m1:bkts (recs.length-1)<chs.length→MOK (drpR recs r) (recs.length-1) (drpB recs chs h r)
 w1:bkts (recs.length-1)<chs.length→WOK ((drpR recs r).take (recs.length-1)) ((mrgS (drpR recs r) (drpB recs chs h r)).take (chs.length-1))
theorem wiN_mid {pre post:List Nat} {r:Nat} (h:(pre++r::post).Nodup):wiN (pre++r::post) r=pre++post:=by
 have h2:=List.nodup_append.1 h
 have h3:=List.nodup_cons.1 h2.2.1
 unfold wiN
 rw[List.filter_append,List.filter_cons_of_neg (by simp),List.filter_eq_self.2 (fun s hs=>?_),List.filter_eq_self.2 (fun s hs=>?_)]
 ·have:s≠r:=by rintro rfl;exact h3.1 hs
  simpa using this
 ·have:s≠r:=h2.2.2 s hs r (by simp)
  simpa using this
theorem idx_mid {pre post:List Nat} {r:Nat} (h:(pre++r::post).Nodup):(pre++r::post).idxOf r=pre.length:=by
 have h2:=List.nodup_append.1 h
 have:r∉pre:=fun hm=>h2.2.2 r hm r (by simp) rfl
 rw[List.idxOf_append,if_neg this,List.idxOf_cons_self];simp
theorem set_mid {pre post:List Nat} {m r:Nat}:(pre++m::post).set pre.length r=pre++r::post:=by
 rw[List.set_append_right _ _ (Nat.le_refl _),Nat.sub_self];rfl
theorem mrgR_eq {recs:List (Int×Int)} {L:List Int}:∀(k:Nat) (a l:List Nat),a.length+l.length≤k→(∀x∈a,(recs.getD x (0,0)).1=ati L (recAt x))→(∀y∈l,(recs.getD y (0,0)).1=ati L (recAt y))→(∀x∈a,∀y∈l,ati L (recAt x)≠ati L (recAt y))→
  mrgR recs a l=mergedL L a l
 |_,[],l,_,_,_,_=>by rw[mrgR_nill,mergedL_nil (.inl rfl)];rfl
 |_,x::a,[],_,_,_,_=>by rw[mrgR_nilr,mergedL_nil (.inr rfl),List.append_nil]
 |0,x::a,y::l,hk,_,_,_=>by simp at hk
 |k+1,x::a,y::l,hk,h1,h2,h3=>by
  have hx:=h1 x (by simp)
  have hy:=h2 y (by simp)
  have hxy:=h3 x (by simp) y (by simp)
  simp only[List.length_cons]at hk
  by_cases e:(recs.getD x (0,0)).1<(recs.getD y (0,0)).1
  ·rw[mrgR_lt e,mergedL_ge (by rw[←hx,←hy];omega),mrgR_eq k a (y::l) (by simp only[List.length_cons];omega) (fun s hs=>h1 s (by simp[hs])) h2 (fun s hs t ht=>h3 s (by simp[hs]) t ht)]
  ·rw[mrgR_ge e,mergedL_lt (by rw[←hx,←hy];rw[←hx,←hy]at hxy;omega),mrgR_eq k (x::a) l (by simp only[List.length_cons];omega) h1 (fun s hs=>h2 s (by simp[hs])) (fun s hs t ht=>h3 s hs t (by simp[ht]))]
section
variable {l:List Int} {n:Nat} {C:Nat→List Nat} {pre post:List Nat} {r k1:Nat} {l1:List Int} {C1:Nat→List Nat} {h:Int}
theorem G.move_el (g:G l n (bkts n) C) (hC:C (bkt h.toNat (bkts n))=pre++r::post)
  (hM:MoveS (remL l (endp (headAt (bkt h.toNat (bkts n))) pre) r) n (bkts n) (fun i=>if i=bkt h.toNat (bkts n)then pre++post else C i) r k1 l1 C1):
  ∀s,s<n-1→∀a,a<2→ati (zerL l1 (n-1)) (recAt s+a)=ati l (recAt (if s=r then n-1 else s)+a):=by
 have hi:bkt h.toNat (bkts n)<bkts n:=bkt_lt _ (by have:=g.b8;omega)
 have hrn:r<n:=g.lt hi (by rw[hC];simp)
 intro s hs a ha
 have g1:=g.gs.rem hi hC
 have hml:recAt (n-1)+2<l1.length:=(g1.move hrn hM).1.rl (n-1) (by omega)
 have h3:ati (zerL l1 (n-1)) (recAt s+a)=ati l1 (recAt s+a):=by
  have hne:∀c,c<3→recAt s+a≠recAt (n-1)+c:=fun c hc e=>by have:=(recAt_inj e (by omega) hc).1;omega
  rw[ati_zerL hml,if_neg (by rintro(e |e |e);exact hne 0 (by omega) e;exact hne 1 (by omega) e;exact hne 2 (by omega) e)]
 have hr0:∀t c,c<2→ati (remL l (endp (headAt (bkt h.toNat (bkts n))) pre) r) (recAt t+c)=ati l (recAt t+c):=fun t c hc=>ati_set_ne (endp_no01 _ _ _ _ hc)
 rw[h3]
 rcases hM with⟨e,_,rfl,_⟩ |⟨hne,pre',post',hC',_,rfl,_⟩
 ·rw[hr0 s a ha,if_neg (by omega)]
 ·have hj:bkt (ati (remL l (endp (headAt (bkt h.toNat (bkts n))) pre) r) (recAt (n-1))).toNat (bkts n)<bkts n:=bkt_lt _ g1.bpos
  have hrl:recAt r+2<(remL l (endp (headAt (bkt h.toNat (bkts n))) pre) r).length:=g1.rl r hrn
  have hle:=g1.chn _ hj
  dsimp only at hC' hle
  rw[hC']at hle
  have hn2:∀c,c<3→endp (headAt (bkt (ati (remL l (endp (headAt (bkt h.toNat (bkts n))) pre) r) (recAt (n-1))).toNat (bkts n))) pre'≠recAt r+c:=fun c hc e=>by
   rcases endp_cases (headAt (bkt (ati (remL l (endp (headAt (bkt h.toNat (bkts n))) pre) r) (recAt (n-1))).toNat (bkts n))) pre' with⟨_,e2⟩ |⟨t,ht,e2⟩
   ·exact head_rec (e2.symm.trans e) hc
   ·have e3:=(recAt_inj (e2.symm.trans e) (by omega) hc).1
    exact((g1.mem _ hj t).1 (by rw[hC'];simp[ht])).1.2 e3
  rw[ati_movL hrl hle.split.endlt (hn2 0 (by omega)) (hn2 1 (by omega)) (hn2 2 (by omega)),if_neg (fun e=>endp_no01 _ _ _ _ ha e.symm)]
  by_cases e:s=r
  ·subst e
   rw[if_pos rfl]
   rcases(by omega:a=0∨a=1)with rfl |rfl
   ·simp;exact hr0 _ 0 (by omega)
   ·simp;exact hr0 _ 1 (by omega)
  ·have hne3:∀c,c<3→recAt s+a≠recAt r+c:=fun c hc e2=>e (recAt_inj e2 (by omega) hc).1
   rw[if_neg e,if_neg (hne3 2 (by omega)),if_neg (hne3 1 (by omega)),if_neg (show ¬recAt s+a=recAt r from hne3 0 (by omega)),hr0 s a ha]
theorem G.move_g (g:G l n (bkts n) C) (hH:HeadOk l n) (hC:C (bkt h.toNat (bkts n))=pre++r::post)
  (hM:MoveS (remL l (endp (headAt (bkt h.toNat (bkts n))) pre) r) n (bkts n) (fun i=>if i=bkt h.toNat (bkts n)then pre++post else C i) r k1 l1 C1):
  G (zerL l1 (n-1)) (n-1) (bkts n) C1:=by
 have hi:bkt h.toNat (bkts n)<bkts n:=bkt_lt _ (by have:=g.b8;omega)
 have hrn:r<n:=g.lt hi (by rw[hC];simp)
 have g1:=g.gs.rem hi hC
 obtain⟨g2,hl2,h23⟩:=g1.move hrn hM
 obtain⟨g3,hz⟩:=g2.zer (m:=n-1) (by omega) (by omega)
 exact g3.g hz
end
set_option maxHeartbeats 1000000 in
theorem drop_ok {l:List Int} {h x:Int} (hV:ValidL l) (hh:0≤h∧h≤2147483647) (h0:0≤ofF (recsT l) (chsT l) (h,x)) {r:Nat} (hr:ofF (recsT l) (chsT l) (h,x)=(r:Int)):DropOK l h x (recsT l) (chsT l) r:=by
 have g:=tab_g hV
 have hH:=tab_h hV
 have hb8:=bkts8 (tabN l)
 have hi:=bkt_lt h.toNat (b:=bkts (tabN l)) (by omega)
 obtain⟨r',q1,q2,q3,q4⟩:=of_rec hV h0
 obtain rfl:r=r':=by omega
 clear hr q1
 have hhas:=(of_has hV).1 h0
 obtain⟨k,l',C',hD,heq⟩:=dropF_ok hV hh hhas
 obtain⟨hn0,gF,hHF⟩:=g.drop hH hD
 obtain⟨rr,hrr,hit2,hel⟩:=g.drop_el hH hD
 have hrl:(recsT l).length=tabN l:=recsF_len l _
 have hcl:=chsT_len l
 have hgd:=chsT_getD hi
 have hrg:∀s,s<tabN l→(recsT l).getD s (0,0)=elm l s:=fun s hs=>recsT_get hs
 have hchs:chsT l=(List.range (bkts (tabN l))).map (tabC l):=rfl
 rw[hrl]at q2
 have hh1:hits l h x r:=by
  have he:=hrg r q2
  rw[q3]at he
  unfold elm at he
  simp only[Prod.mk.injEq]at he
  exact⟨he.1.symm,he.2.symm⟩
 generalize recsT l=recs at*
 generalize chsT l=chs at*
 generalize hn':tabN l=n at*
 generalize hC:tabC l=C at*
 obtain rfl:rr=r:=g.dif rr hrr r q2 (hit2.1.trans hh1.1.symm) (hit2.2.trans hh1.2.symm)
 obtain⟨pre,r1,post,k1,l1,C1,k2,l2,hCi,hit,hpre,hM,hJ,rfl,rfl⟩:=hD
 have hr1n:r1<n:=g.lt hi (by rw[hCi];simp)
 obtain rfl:r1=rr:=g.dif r1 hr1n rr hrr (hit.1.trans hh1.1.symm) (hit.2.trans hh1.2.symm)
 have gL:=g.move_g hH hCi hM
 have hmv:=g.move_el hCi hM
 have hnd:=g.nd _ hi
 rw[hCi]at hnd
 have hA:drpA chs h r1=(List.range (bkts n)).map fun j=>if j=bkt h.toNat (bkts n)then pre++post else C j:=by
  unfold drpA
  rw[hcl,hgd,hCi,wiN_mid hnd,hchs,map_set_range]
 have hgl:(recs.getD (recs.length-1) (0,0)).1=ati l (recAt (n-1)):=by
  rw[hrl,hrg _ (by omega)];rfl
 have hkk:drpK recs chs.length=bkt (ati l (recAt (n-1))).toNat (bkts n):=by
  unfold drpK
  rw[hgl,hcl]
 have hkl:bkt (ati l (recAt (n-1))).toNat (bkts n)<bkts n:=bkt_lt _ (by omega)
 have hrem0:ati (remL l (endp (headAt (bkt h.toNat (bkts n))) pre) r1) (recAt (n-1))=ati l (recAt (n-1)):=by
  have:ati (remL l (endp (headAt (bkt h.toNat (bkts n))) pre) r1) (recAt (n-1)+0)=_:=ati_set_ne (endp_no01 _ _ _ _ (by omega))
  exact this
 have hCk:drpC recs chs h r1=(if bkt (ati l (recAt (n-1))).toNat (bkts n)=bkt h.toNat (bkts n)then pre++post else C (bkt (ati l (recAt (n-1))).toNat (bkts n))):=by
  unfold drpC
  rw[hkk,hA]
  simp[hkl]
 have g1:=g.gs.rem hi hCi
 -- the chains,the records looked at
 have hkey:drpB recs chs h r1=(List.range (bkts n)).map C1∧drpL recs chs h r1=pre.length+1+k1∧(r1≠recs.length-1→recs.length-1∈drpC recs chs h r1):=by
  unfold drpB drpL
  rw[hcl,hgd,hCi,idx_mid hnd]
  rcases hM with⟨e,rfl,rfl,rfl⟩ |⟨hne,pre',post',hC',rfl,rfl,rfl⟩
  ·rw[hrl,if_pos e,if_pos e]
   exact⟨hA,rfl,fun h=>absurd e h⟩
  ·rw[hrem0]at hC'
   dsimp only at hC'
   have hnd2:=g1.nd _ hkl
   rw[hC']at hnd2
   have hkk2:=hkk
   rw[hcl]at hkk2
   rw[hrl,if_neg hne,if_neg hne,hkk2,hCk,hC',idx_mid hnd2,set_mid,hA,map_set_range,hrem0]
   exact⟨rfl,rfl,fun _=>by simp⟩
 obtain⟨hB,hL,hlk⟩:=hkey
 -- the records
 have hRl:(drpR recs r1).length=n:=by unfold drpR;split<;>simp[hrl]
 have hRg:∀s,s<n-1→(drpR recs r1).getD s (0,0)=elm l (if s=r1 then n-1 else s):=fun s hs=>by
  unfold drpR
  rw[hrl]
  by_cases e:r1=n-1
  ·rw[if_pos e,if_neg (by omega),hrg s (by omega)]
  ·rw[if_neg e]
   by_cases e2:s=r1
   ·subst e2
    rw[if_pos rfl,←hrg (n-1) (by omega)]
    have:(recs.set s (recs.getD (n-1) (0,0))).getD s (0,0)=recs.getD (n-1) (0,0):=by
     rw[List.getD_eq_getElem?_getD,List.getElem?_set_self (by omega)];rfl
    exact this
   ·rw[if_neg e2,←hrg s (by omega)]
    rw[List.getD_eq_getElem?_getD,List.getElem?_set_ne (Ne.symm e2),List.getD_eq_getElem?_getD]
 have hFl:((drpR recs r1).take (n-1)).length=n-1:=by rw[List.length_take,hRl];omega
 have hFg:∀s,s<n-1→((drpR recs r1).take (n-1)).getD s (0,0)=elm (sizedL l2 (n-1)) s:=fun s hs=>by
  have e1:((drpR recs r1).take (n-1)).getD s (0,0)=(drpR recs r1).getD s (0,0):=by
   rw[List.getD_eq_getElem?_getD,List.getElem?_take_of_lt hs,List.getD_eq_getElem?_getD]
  rw[e1,hRg s hs]
  have a0:=hel s hs 0 (by omega)
  have a1:=hel s hs 1 (by omega)
  rw[Nat.add_zero,Nat.add_zero]at a0
  unfold elm
  rw[a0,a1]
 have hfin:=wordsF_eq hHF gF hFl hFg
 have hwok:=wok_of gF hFl
 have hh0:∀s,s<n-1→((drpR recs r1).getD s (0,0)).1=ati (zerL l1 (n-1)) (recAt s):=fun s hs=>by
  have a0:=hmv s hs 0 (by omega)
  rw[Nat.add_zero,Nat.add_zero]at a0
  rw[hRg s hs,a0];rfl
 have hhl:r1≠recs.length-1→0≤(recs.getD (recs.length-1) (0,0)).1∧(recs.getD (recs.length-1) (0,0)).1≤2147483647:=fun _=>by
  rw[hgl];exact g.hash _ (by omega)
 have hrc:r1∈chs.getD (bkt h.toNat chs.length) []:=by rw[hcl,hgd,hCi];simp
 rcases hJ with⟨hb,rfl,rfl,rfl⟩ |⟨hb,rfl,rfl,rfl⟩
 ·have e:bkts (n-1)=bkts n:=by rcases bkts_down (n:=n) (by omega)with h |h<;>omega
  have hnl:¬bkts (recs.length-1)<chs.length:=by rw[hrl,hcl,e];omega
  rw[e,←hB]at hfin hwok
  refine⟨?_,by omega,hrc,hlk,hhl,fun _=>by rw[hrl];exact hwok,fun h=>absurd h hnl,fun h=>absurd h hnl⟩
  rw[heq]
  unfold rdropX
  rw[if_neg hnl,hrl,hfin,hL]
  simp
 ·have hlt:bkts (recs.length-1)<chs.length:=by rw[hrl,hcl,hb];omega
  have hbn:bkts n-1<bkts n:=by omega
  have hp:=pow2_le1 (b:=bkts n-1) (by omega)
  have hmi:bkts n-1-pow2 (bkts n-1)<bkts n:=by omega
  have hBl:(drpB recs chs h r1).length=bkts n:=by rw[hB];simp
  have hge:(drpB recs chs h r1).getD (mrgI (bkts n)) []=C1 (bkts n-1-pow2 (bkts n-1)):=by
   rw[hB];unfold mrgI;simp[hmi]
  have hgl2:(drpB recs chs h r1).getD (bkts n-1) []=C1 (bkts n-1):=by rw[hB];simp[hbn]
  have hO:mrgO (drpR recs r1) (drpB recs chs h r1)=mergedL (zerL l1 (n-1)) (C1 (bkts n-1-pow2 (bkts n-1))) (C1 (bkts n-1)):=by
   unfold mrgO
   rw[hBl,hge,hgl2]
   refine mrgR_eq _ _ _ (Nat.le_refl _) (fun y hy=>hh0 y (gL.lt hmi hy)) (fun y hy=>hh0 y (gL.lt hbn hy)) (fun y hy z hz e=>?_)
   have e1:=((gL.mem _ hmi y).1 hy).2
   have e2:=((gL.mem _ hbn z).1 hz).2
   rw[e,e2]at e1
   omega
  have hS:(mrgS (drpR recs r1) (drpB recs chs h r1)).take (chs.length-1)=(List.range (bkts (n-1))).map fun i=>if i=bkts n-1-pow2 (bkts n-1)then mergedL (zerL l1 (n-1)) (C1 (bkts n-1-pow2 (bkts n-1))) (C1 (bkts n-1))else C1 i:=by
   unfold mrgS
   rw[hBl,hO,hB,map_set_range,hcl,←List.map_take,List.take_range,hb,Nat.min_eq_left (by omega)]
   rfl
  rw[←hS]at hfin hwok
  have hml:(mrgO (drpR recs r1) (drpB recs chs h r1)).length=(C1 (bkts n-1-pow2 (bkts n-1))).length+(C1 (bkts n-1)).length:=by
   rw[hO,(mergedL_perm _ _ _ _ (Nat.le_refl _)).length_eq,List.length_append]
  refine⟨?_,by omega,hrc,hlk,hhl,fun h=>absurd hlt h,fun _=>?_,fun _=>by rw[hrl];exact hwok⟩
  ·rw[heq]
   unfold rdropX
   rw[if_pos hlt,hrl,hfin,hL,hml]
  ·have key:∀c∈drpB recs chs h r1,∃i,i<bkts n∧c=C1 i:=fun c hc=>by
    rw[hB]at hc
    obtain⟨i,hi,rfl⟩:=List.mem_map.1 hc
    exact⟨i,List.mem_range.1 hi,rfl⟩
   have hn1:=g.n1
   refine⟨by rw[hRl,hrl];omega,by rw[hBl];exact⟨by omega,by unfold bkts;split<;>omega⟩,fun c hc s hs=>?_,fun c hc=>?_⟩
   ·obtain⟨i,hi,rfl⟩:=key c hc
    rw[hrl];exact gL.lt hi hs
   ·obtain⟨i,hi,rfl⟩:=key c hc
    have:=gL.clen hi
    omega
end Go.Proofs.Ytdcomhdadnhpnaa
end
