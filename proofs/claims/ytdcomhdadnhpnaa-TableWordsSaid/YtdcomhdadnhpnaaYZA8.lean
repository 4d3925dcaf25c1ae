import Derived.Test.YtdcomhdadnhpnaaYZA1
import Derived.Test.YtdcomhdadnhpnaaYZB16
set_option linter.all false
section
namespace Go.Proofs.Ytdcomhdadnhpnaa
open Go Go.Am Go.RowKit
theorem RowE.told {s s':Nat} {v:AV} {H1:AHp} {c:List Nat} (h:RowE s 1 v H1 s' (natsA c) c.length):
  ∃v',Wk v v'∧∀(H2:AHp) (K:Nat→Prop),(∀q,s≤q→H2 q=H1 q∧¬K q)→Pub H2 K (fun _=>none) v' (.dsl c.length (natsA c)):=by
 rcases h with⟨h0,_,rfl⟩ |⟨nm,ver,h0,rfl,hH,h1,h2⟩
 ·obtain rfl:=List.length_eq_zero_iff.1 h0
  exact⟨_,Wk.nil,fun H2 K _=>.same (row_inS (chs:=[[]]) (by simp[rowsN]))⟩
 ·refine⟨_,Wk.rfl',fun H2 K hk=>Pub.sl (by rw[(hk nm h2).1];exact hH) (hk nm h2).2 (by simp) (by simp) (fun i a b ha hb=>?_)⟩
  rw[List.drop_zero]at ha
  rw[ha]at hb;cases hb
  have:∃x,a= .sc x:=by
   obtain⟨x,_,rfl⟩:=List.mem_map.1 (List.mem_of_getElem? ha)
   exact⟨_,rfl⟩
  obtain⟨x,rfl⟩:=this
  exact Pub.sc _
theorem rowsN_set (chs:List (List Nat)) (i:Nat) (c:List Nat):rowsN (chs.set i c)=(rowsN chs).set i (.dsl c.length (natsA c)):=by simp[rowsN,List.map_set]
theorem rowsN_app (a b:List (List Nat)):rowsN (a++b)=rowsN a++rowsN b:=by simp[rowsN]
theorem div_end {H0 H1 H':AHp} {s s' s2 p nm V i:Nat} {P:List AV} {chs:List (List Nat)} {vS vM:AV} {cS cM:List Nat} {x:Value} (hi:i<chs.length)
  (hs:∀n,s≤n→H0 n=none∧H' n=none) (hE:∀q,q<s→q≠p→q≠nm→H1 q=H0 q)
  (hp1:H1 p=some (.row 0 1 P)) (hn1:H1 nm=some (.row V 1 ((rowsN chs).set i vS++[vM]))) (hpn:p≠nm) (hp0:H0 p≠none) (hn0:H0 nm≠none)
  (hP:∀a∈P,∀K:Nat→Prop,(∀q,H0 q≠none→K q)→a.inS K) (hS:RowE s 1 vS H1 s' (natsA cS) cS.length) (hM:RowE s 1 vM H1 s2 (natsA cM) cM.length)
  (hH:H'=upd (upd H0 nm (.row V 1 (rowsN (chs.set i cS++[cM])))) p (.row 0 1 P)):
  ∃(H2:AHp) (r2:AV) (N:Nat→Option (Nat×Nat)),WkH H1 H2∧Wk r2 (.sc x)∧Fin H0 H2 N H'∧Pub H2 (fun n=>H' n≠none∧N n=none) N (.sc x) r2:=by
 obtain⟨vS',wS,pS⟩:=hS.told
 obtain⟨vM',wM,pM⟩:=hM.told
 have hlt:∀q,H0 q≠none→q<s:=fun q h=>Nat.lt_of_not_le fun k=>h (hs q k).1
 have hps:=hlt p hp0
 have hns:=hlt nm hn0
 have hrl:(rowsN chs).length=chs.length:=rowsN_len _
 let H2:AHp:=upd H1 nm (.row V 1 ((rowsN chs).set i vS'++[vM']))
 have e2:∀q,s≤q→H2 q=H1 q:=fun q hq=>upd_ne _ _ (by omega)
 have hK:∀q,H0 q≠none→H' q≠none:=fun q hq=>by
  rw[hH]
  by_cases e:q=p
  ·subst e;rw[upd_same];simp
  ·rw[upd_ne _ _ e]
   by_cases e':q=nm
   ·subst e';rw[upd_same];simp
   ·rw[upd_ne _ _ e'];exact hq
 refine⟨H2,_,fun _=>none,fun q=>?_,Wk.rfl',⟨fun n hn=>⟨hK n hn,rfl⟩,fun n o' hn=>.inl ⟨rfl,?_⟩,fun a b n o o' h=>by simp at h,fun q n o h=>by simp at h,⟨s,fun n hn=>(hs n hn).2⟩⟩,Pub.sc _⟩
 ·by_cases e:q=nm
  ·subst e
   refine .inr ⟨_,_,hn1,upd_same _ _ _,.inr ⟨V,1,_,_,rfl,rfl,by simp,fun j a b ha hb=>?_⟩⟩
   by_cases hj:j<chs.length
   ·rw[List.getElem?_append_left (by simp;omega)]at ha hb
    by_cases e:i=j
    ·subst e
     rw[List.getElem?_set_self (by omega)]at ha hb
     cases ha;cases hb;exact wS
    ·rw[List.getElem?_set_ne e]at ha hb
     rw[ha]at hb;cases hb;exact Wk.rfl'
   ·rw[List.getElem?_append_right (by simp;omega)]at ha hb
    have:j-((rowsN chs).set i vS).length=0:=by
     have:=(List.getElem?_eq_some_iff.1 ha).1
     simp at this ⊢;omega
    rw[this]at ha
    have:j-((rowsN chs).set i vS').length=0:=by
     have:=(List.getElem?_eq_some_iff.1 hb).1
     simp at this ⊢;omega
    rw[this]at hb
    simp at ha hb
    subst ha;subst hb;exact wM
  ·have e3:H2 q=H1 q:=upd_ne _ _ e
   cases h:H1 q with
   |none=>exact .inl ⟨rfl,by rw[e3];exact h⟩
   |some o=>exact .inr ⟨o,o,rfl,by rw[e3];exact h,.inl rfl⟩
 ·rw[hH]at hn
  by_cases e:n=p
  ·subst e
   rw[upd_same]at hn;cases hn
   refine .inr ⟨_,(upd_ne _ _ hpn).trans hp1,.row rfl (fun j a b ha hb=>?_)⟩
   rw[ha]at hb;cases hb
   exact .same (hP a (List.mem_of_getElem? ha) _ (fun q hq=>⟨hK q hq,rfl⟩))
  ·rw[upd_ne _ _ e]at hn
   by_cases e':n=nm
   ·subst e'
    rw[upd_same]at hn;cases hn
    have hh:∀q,s≤q→H2 q=H1 q∧¬(H' q≠none∧(none:Option (Nat×Nat))=none):=fun q hq=>⟨e2 q hq,fun k=>k.1 (hs q hq).2⟩
    refine .inr ⟨_,upd_same _ _ _,.row (by simp[rowsN]) (fun j a b ha hb=>?_)⟩
    rw[rowsN_app,rowsN_set]at hb
    by_cases hj:j<chs.length
    ·rw[List.getElem?_append_left (by simp;omega)]at ha hb
     by_cases e:i=j
     ·subst e
      rw[List.getElem?_set_self (by omega)]at ha hb
      cases ha;cases hb;exact pS _ _ hh
     ·rw[List.getElem?_set_ne e]at ha hb
      rw[ha]at hb;cases hb;exact .same (row_inS (List.mem_of_getElem? ha))
    ·rw[List.getElem?_append_right (by simp;omega)]at ha hb
     have h1:j-((rowsN chs).set i vS').length=0:=by
      have:=(List.getElem?_eq_some_iff.1 ha).1
      simp at this ⊢;omega
     rw[h1]at ha
     have h2:j-((rowsN chs).set i (.dsl cS.length (natsA cS))).length=0:=by
      have:=(List.getElem?_eq_some_iff.1 hb).1
      simp[rowsN]at this ⊢;omega
     rw[h2]at hb
     change some (AV.dsl cM.length (natsA cM))=some b at hb
     change some vM'=some a at ha
     cases ha;cases hb;exact pM _ _ hh
   ·rw[upd_ne _ _ e']at hn
    have hns:=hlt n (by rw[hn];simp)
    refine .inl ⟨hn,?_⟩
    show upd H1 nm _ n=_
    rw[upd_ne _ _ e',hE n hns e e']
    exact hn
end Go.Proofs.Ytdcomhdadnhpnaa
end
section
namespace Go.Proofs.Ytdcomhdadnhpnaa
open Go Go.Am Go.RowKit
attribute [local irreducible] wA opsQ opsLQ thenA blockA EndA
def goes (recs:List (Int×Int)) (b:Nat) (r:Nat):Bool:=decide (bkt (recs.getD r (0,0)).1.toNat (b+1)=b)
def divI (b:Nat):Nat:=b-pow2 b
def divC (recs:List (Int×Int)) (chs:List (List Nat)):List (List Nat):=
 chs.set (divI chs.length) ((chs.getD (divI chs.length) []).filter fun r=>!goes recs chs.length r)++[(chs.getD (divI chs.length) []).filter (goes recs chs.length)]
structure WOD (recs:List (Int×Int)) (chs:List (List Nat)):Prop where
 n:recs.length≤100000
 b:1≤chs.length∧chs.length≤100000
 r:∀c∈chs,∀r∈c,r<recs.length
 l:∀c∈chs,c.length≤100000
 h:∀e∈recs,0≤e.1∧e.1≤4294967296
theorem elsA_inj {L M:List (Int×Int)} (h:elsA L=elsA M):L=M:=by
 have:=congrArg elsOf h
 rw[elsOf_elsA,elsOf_elsA]at this
 exact Option.some.inj this
theorem natsA_inj {a b:List Nat} (h:natsA a=natsA b):a=b:=by
 have:=congrArg intsOf h
 rw[intsOf_ints,intsOf_ints]at this
 exact(List.map_inj_right (fun x y h=>Int.ofNat_inj.1 h)).1 (Option.some.inj this)
theorem rowsN_inj {a b:List (List Nat)} (h:rowsN a=rowsN b):a=b:=by
 refine(List.map_inj_right (fun x y h=>?_)).1 h
 injection h with _ h2
 exact natsA_inj h2
open Classical in
/-- a row of elements,read -/
noncomputable def eK (ver:Nat) (k:List (Int×Int)→AP AV) (o:AO):AP AV:=if h:∃L,o= .row ver 2 (elsA L)then k h.choose else .fail
open Classical in
/-- a row of chains,read -/
noncomputable def cK (ver:Nat) (k:List (List Nat)→AP AV) (o:AO):AP AV:=if h:∃chs,o= .row ver 1 (rowsN chs)then k h.choose else .fail
theorem eK_ok {ver:Nat} {k:List (Int×Int)→AP AV} {L:List (Int×Int)}:eK ver k (.row ver 2 (elsA L))=k L:=by
 have h:∃M,AO.row ver 2 (elsA L)= .row ver 2 (elsA M):=⟨L,rfl⟩
 unfold eK;rw[dif_pos h]
 have:=h.choose_spec
 injection this with _ _ h3
 rw[←elsA_inj h3]
theorem cK_ok {ver:Nat} {k:List (List Nat)→AP AV} {L:List (List Nat)}:cK ver k (.row ver 1 (rowsN L))=k L:=by
 have h:∃M,AO.row ver 1 (rowsN L)= .row ver 1 (rowsN M):=⟨L,rfl⟩
 unfold cK;rw[dif_pos h]
 have:=h.choose_spec
 injection this with _ _ h3
 rw[←rowsN_inj h3]
theorem eK_some {ver s:Nat} {k:List (Int×Int)→AP AV} {o:AO} {H:AHp} {x:AV×AHp×Nat} (h:(eK ver k o).run H s=some x):∃L,o= .row ver 2 (elsA L)∧(k L).run H s=some x:=by
 unfold eK at h
 split at h
 ·rename_i hh;exact⟨_,hh.choose_spec,h⟩
 ·simp[AP.run]at h
theorem cK_some {ver s:Nat} {k:List (List Nat)→AP AV} {o:AO} {H:AHp} {x:AV×AHp×Nat} (h:(cK ver k o).run H s=some x):∃L,o= .row ver 1 (rowsN L)∧(k L).run H s=some x:=by
 unfold cK at h
 split at h
 ·rename_i hh;exact⟨_,hh.choose_spec,h⟩
 ·simp[AP.run]at h
theorem get_some {n s:Nat} {k:AO→AP AV} {H:AHp} {x:AV×AHp×Nat} (h:(AP.get n k).run H s=some x):∃o,H n=some o∧(k o).run H s=some x:=by
 simp only[AP.run]at h
 split at h
 ·rename_i o ho;exact⟨o,ho,h⟩
 ·cases h
def bxK (k:Nat→Nat→Nat→Nat→Nat→Nat→AP AV) (o:AO):AP AV:=match o with
 | .row 0 1 [.sl nm1 ver1 0 n,.sl nm ver 0 b]=>k nm1 ver1 n nm ver b
 |_=>.fail
theorem bxK_some {s:Nat} {k:Nat→Nat→Nat→Nat→Nat→Nat→AP AV} {o:AO} {H:AHp} {x:AV×AHp×Nat} (h:(bxK k o).run H s=some x):∃nm1 ver1 n nm ver b,o= .row 0 1 [.sl nm1 ver1 0 n,.sl nm ver 0 b]∧(k nm1 ver1 n nm ver b).run H s=some x:=by
 unfold bxK at h
 split at h
 ·exact⟨_,_,_,_,_,_,rfl,h⟩
 ·simp[AP.run]at h
open Classical in
noncomputable def c82:List AV→AP AV
 | [.ptr p 0 0]=>.get p (bxK fun nm1 ver1 n nm ver b=>.get nm1 (eK ver1 fun recs=>.get nm (cK ver fun chs=>
   if WOD recs chs∧n=recs.length∧b=chs.length then
    .set nm (.row (ver+1) 1 (rowsN (divC recs chs))) (.set p (.row 0 1 [.sl nm1 ver1 0 recs.length,.sl nm (ver+1) 0 (chs.length+1)]) (.ret (.sc (.int .i64 ((chs.getD (divI chs.length) []).length:Nat)))))
   else .fail)))
 |_=>.fail
theorem RowE.upd_new {lo esz s' s2 len q:Nat} {v:AV} {H:AHp} {cs:List AV} {o:AO} (h:RowE lo esz v H s' cs len) (hq:s'≤q) (hs:s'≤s2):RowE lo esz v (upd H q o) s2 cs len:=by
 rcases h with h |⟨nm,ver,h0,hv,h1,h2,h3⟩
 ·exact .inl h
 ·exact .inr ⟨nm,ver,h0,hv,by rw[upd_ne _ _ (by omega)];exact h1,by omega,h3⟩
theorem RowE.upd_off {lo esz s' s2 len q:Nat} {v:AV} {H:AHp} {cs:List AV} {o:AO} (h:RowE lo esz v H s' cs len) (hq:∀nm ver n,v= .sl nm ver 0 n→nm≠q) (hs:s'≤s2):RowE lo esz v (upd H q o) s2 cs len:=by
 rcases h with h |⟨nm,ver,h0,hv,h1,h2,h3⟩
 ·exact .inl h
 ·exact .inr ⟨nm,ver,h0,hv,by rw[upd_ne _ _ (hq nm ver _ hv)];exact h1,by omega,h3⟩
theorem RowE.name_lt {lo esz s' len:Nat} {v:AV} {H:AHp} {cs:List AV} (h:RowE lo esz v H s' cs len) {nm ver n:Nat} (hv:v= .sl nm ver 0 n):nm<s':=by
 rcases h with⟨_,_,h⟩ |⟨nm',ver',h0,hv',h1,h2,h3⟩
 ·rw[h]at hv;cases hv
 ·rw[hv']at hv;cases hv;exact h2
theorem fil_take {c:List Nat} {P:Nat→Bool} {k:Nat} (hk:k<c.length):(c.take (k+1)).filter P=if P c[k]=true then(c.take k).filter P++[c[k]]else(c.take k).filter P:=by
 rw[List.take_succ_eq_append_getElem hk,List.filter_append]
 by_cases e:P c[k]=true<;>simp[e]
theorem ctQ_67 (a:List AV):ctQ 67 a=c67r a:=rfl
theorem bs35v (v:AV) (h:v.one=true) (ha:aCells v=some [v]):aBuildSlice Try.prog 35 1 [(0,v)]= .new (.row 0 1 [v]) fun n=>.ret (.sl n 0 0 1):=by
 have hz:aZeros (.slice none 0 0) 1=[.sc (.slice none 0 0)]:=rfl
 simp[aBuildSlice,Try.underlying35,sz31,ze31,hz,aFill,ha,h,putCells]
theorem bs35s (n v o l:Nat):aBuildSlice Try.prog 35 1 [(0,.sl n v o l)]= .new (.row 0 1 [.sl n v o l]) fun n=>.ret (.sl n 0 0 1):=bs35v _ rfl rfl
theorem bs35n:aBuildSlice Try.prog 35 1 [(0,.sc (.slice none 0 0))]= .new (.row 0 1 [.sc (.slice none 0 0)]) fun n=>.ret (.sl n 0 0 1):=bs35v _ rfl rfl
theorem rowsN_put (chs:List (List Nat)) (i:Nat) (v:AV) (h:v.one=true):((rowsN chs).set i v).all AV.one=true:=by
 rw[List.all_eq_true]
 intro a ha
 rcases List.mem_or_eq_of_mem_set ha with h1 |h1
 ·exact List.all_eq_true.1 (rowsN_one chs) a h1
 ·rw[h1];exact h
theorem pow2_le1 {b:Nat} (h:1≤b):pow2 b≤b∧1≤pow2 b:=⟨Nat.log2_self_le (by omega),Nat.one_le_two_pow⟩
set_option maxRecDepth 100000 in
set_option maxHeartbeats 4000000 in
theorem div_walk {recs:List (Int×Int)} {chs:List (List Nat)} (hW:WOD recs chs) (E:Ent) (s p nm1 ver1 nm ver:Nat) (hs:∀q,s≤q→E.H q=none) (hp:E.H p=some (.row 0 1 [.sl nm1 ver1 0 recs.length,.sl nm ver 0 chs.length]))
  (h1:E.H nm1=some (.row ver1 2 (elsA recs))) (h2:E.H nm=some (.row ver 1 (rowsN chs))) (hpn:p≠nm) (R:AV→AHp→Prop)
  (hR:∀(H1:AHp) (vS vM:AV) (s' s2:Nat),(∀q,q<s→q≠p→q≠nm→H1 q=E.H q)→H1 p=some (.row 0 1 [.sl nm1 ver1 0 recs.length,.sl nm (ver+1) 0 (chs.length+1)])→
   H1 nm=some (.row (ver+1) 1 ((rowsN chs).set (divI chs.length) vS++[vM]))→RowE s 1 vS H1 s' (natsA ((chs.getD (divI chs.length) []).filter fun r=>!goes recs chs.length r)) ((chs.getD (divI chs.length) []).filter fun r=>!goes recs chs.length r).length→
   RowE s 1 vM H1 s2 (natsA ((chs.getD (divI chs.length) []).filter (goes recs chs.length))) ((chs.getD (divI chs.length) []).filter (goes recs chs.length)).length→
   R (.sc (.int .i64 ((chs.getD (divI chs.length) []).length:Nat))) H1):
  wA Try.prog E ctQ Try.f82.body.get! (begA Try.f82 [.ptr p 0 0]) E.H s (EndA Try.prog Try.f82 R):=by
 simp(maxSteps:=300000)only[begA,Try.ntmps82,List.replicate_succ,List.replicate_zero,List.length_cons,List.length_nil,List.cons_append,List.nil_append]
 simp only[Try.f82,Option.get!_some]
 obtain⟨hn,hb,hr,hl,hh⟩:=hW
 have hp2:=pow2_le1 hb.1
 have hpl:p<s:=Nat.lt_of_not_le fun h=>by rw[hs p h]at hp;cases hp
 have hnl:nm<s:=Nat.lt_of_not_le fun h=>by rw[hs nm h]at h2;cases h2
 have hn1l:nm1<s:=Nat.lt_of_not_le fun h=>by rw[hs nm1 h]at h1;cases h1
 have hi:divI chs.length<chs.length:=by unfold divI;omega
 obtain⟨i,hix⟩:∃i,i=divI chs.length:=⟨_,rfl⟩
 rw[←hix]at hR hi
 have hii:((chs.length:Nat):Int)-((pow2 chs.length:Nat):Int)=((i:Nat):Int):=by rw[hix];unfold divI;omega
 have hg:chs.getD i []=chs[i]:=by simp[hi]
 rw[hg]at hR
 have hri:∀r∈chs[i],r<recs.length:=hr _ (List.getElem_mem hi)
 have hcl:=hl _ (List.getElem_mem hi)
 have hrat:(rowsN chs)[i]? =some (.dsl chs[i].length (natsA chs[i])):=by simp[rowsN,hi]
 have hrlen:(rowsN chs).length=chs.length:=rowsN_len _
 have hb1:((chs.length:Nat):Int).toNat=chs.length:=Int.toNat_natCast _
 have hb2:(((chs.length:Nat):Int)+1).toNat=chs.length+1:=by omega
 repeat(first |(with_reducible first |apply Q0 |apply Q1 |apply Q2 |apply Q3 |apply Q4 |apply Q5 |apply Q6 |apply Q7 |apply Q8 |apply Q9 |apply QA |apply QB |apply QC |apply QD |apply QE |apply QF) |((with_reducible apply QK rfl);simp(disch:=omega)only[go_sem,hp,h2,cal67,ctQ_67,c67r,hb1,hii,hrat,hrlen];exact rfl;simp only[sB,sA,putA];exact rfl) |(apply QQ;simp only[evA,gB,gA];exact rfl) |((first |apply QX |apply QY);(first |rfl |decide |assumption)))
 refine AWp.loop [0,3,4,5,6,7,8] (fun Γ H s' m=>∃(k:Nat) (vS vM:AV),k≤chs[i].length∧m=chs[i].length-k∧Γ=[.ptr p 0 0]++(List.replicate 2 .junk)++[.sc (.int .i64 (chs.length:Nat)),.sc (.int .i64 (i:Nat)),.dsl chs[i].length (natsA chs[i]),vS,vM,.sc (.int .i64 (k:Nat))]++(List.replicate 71 .junk)∧
  s≤s'∧(∀q,s'≤q→H q=none)∧(∀q,q<s→H q=E.H q)∧RowE s 1 vS H s' (natsA ((chs[i].take k).filter fun r=>!goes recs chs.length r)) ((chs[i].take k).filter fun r=>!goes recs chs.length r).length∧
  RowE s 1 vM H s' (natsA ((chs[i].take k).filter (goes recs chs.length))) ((chs[i].take k).filter (goes recs chs.length)).length∧(∀a b c d e f,vS= .sl a b 0 c→vM= .sl d e 0 f→a≠d)) chs[i].length ?_ ?_
 ·exact⟨0,_,_,Nat.zero_le _,rfl,rfl,Nat.le_refl _,hs,fun _ _=>rfl,.inl ⟨rfl,rfl,rfl⟩,.inl ⟨rfl,rfl,rfl⟩,fun a b c d e f h=>by cases h⟩
 rintro Γ H s1 m ⟨k,vS,vM,hk,rfl,rfl,hss,hf,hE,hS,hM,hne⟩
 refine wA_ok hmix ctQ_ok _ (by kernel_rfl) ?_
 simp(maxSteps:=1000000)only[List.replicate_succ,List.replicate_zero,List.cons_append,List.nil_append,List.append_nil]
 have hHp:H p=some (.row 0 1 [.sl nm1 ver1 0 recs.length,.sl nm ver 0 chs.length]):=by rw[hE p hpl];exact hp
 have hH1:H nm1=some (.row ver1 2 (elsA recs)):=by rw[hE nm1 hn1l];exact h1
 have hH2:H nm=some (.row ver 1 (rowsN chs)):=by rw[hE nm hnl];exact h2
 by_cases hlt:k<chs[i].length
 ·have hrk:=hri _ (List.getElem_mem hlt)
  have hgr:recs.getD chs[i][k] (0,0)=recs[chs[i][k]]:=by simp[hrk]
  have hhe:=hh _ (List.getElem_mem hrk)
  have hex:(elsA recs)[chs[i][k]*2]? =some (.sc (.int .i64 recs[chs[i][k]].1)):=by
   have h:=elsA_drop hrk
   rw[←List.head?_drop,h];rfl
  have tkS:=fil_take (P:=fun r=>!goes recs chs.length r) hlt
  have tkM:=fil_take (P:=goes recs chs.length) hlt
  have hgo:goes recs chs.length chs[i][k]=decide (bkt recs[chs[i][k]].1.toNat (chs.length+1)=chs.length):=by unfold goes;rw[hgr]
  have hbi:(((bkt recs[chs[i][k]].1.toNat (chs.length+1):Nat):Int)=((chs.length:Nat):Int))=(bkt recs[chs[i][k]].1.toNat (chs.length+1)=chs.length):=by rw[Int.ofNat_inj]
  generalize hbk:bkt recs[chs[i][k]].1.toNat (chs.length+1)=bk at*
  by_cases he:bk=chs.length
  ·have hgt:goes recs chs.length chs[i][k]=true:=by rw[hgo];exact decide_eq_true he
   rw[if_pos hgt]at tkM
   rw[if_neg (by rw[hgt];simp)]at tkS
   have hap:natsA ((chs[i].take k).filter (goes recs chs.length)++[chs[i][k]])=natsA ((chs[i].take k).filter (goes recs chs.length))++[.sc (.int .i64 (chs[i][k]:Nat))]:=natsA_app _ _
   generalize hcM:(chs[i].take k).filter (goes recs chs.length)=cM at*
   have hal:(natsA cM).length=cM.length:=natsA_len _
   have hat:(natsA cM).take cM.length=natsA cM:=natsA_take _
   have hao:(natsA cM).all AV.one=true:=ints_all _
   have hacl:cM.length≤200000:=by
    have:cM.length≤(chs[i].take k).length:=by rw[←hcM];exact List.length_filter_le _ _
    rw[List.length_take]at this;omega
   rcases hM with⟨h0,hcs,rfl⟩ |⟨nM,vrM,h0,rfl,hHM,hMl,hMs⟩
   ·repeat(first |(with_reducible first |apply Q0 |apply Q1 |apply QG |apply Q2 |apply Q3 |apply Q4 |apply Q5 |apply Q6 |apply Q7 |apply Q8 |apply Q9 |apply QA |apply QB |apply QC |apply QD |apply QE |apply QF) |((with_reducible apply QK rfl);simp(disch:=omega)only[go_sem,hf,upd_ne,hHp,hH1,hH2,elsA_len,elsA_drop,hex,List.getElem_map,cal22,ctQ_22,c22r,hb2,hbk,he];exact rfl;simp only[sB,sA,putA];exact rfl) |((first |(with_reducible apply QL rfl) |(apply QM;simp only[go_sem]<;>exact rfl));simp(disch:=omega)only[go_sem,hf,upd_ne,hHp,hH1,hH2,elsA_len,elsA_drop,hex,List.getElem_map,cal22,ctQ_22,c22r,hb2,hbk,he];exact rfl;simp only[sB,sA,putA];exact rfl;simp only[logT_none,logT_rd,logT_wr,List.cons_append,List.nil_append];exact rfl) |((first |apply QI |apply QN);simp only[go_sem]<;>exact rfl;simp only[sB,sA,putA];exact rfl) |(refine QO ?_ ?_;first |focus(simp only[dyn_nil,dyn_cons,allY_nil,allY_cons,dj_rr,true_or,true_and];done) |focus(simp only[dyn_nil,dyn_cons,allY_nil,allY_cons,Dj,List.mem_cons,List.not_mem_nil,or_false,forall_eq,forall_eq_or_imp,and_true,true_and,false_imp_iff,implies_true];omega) |focus(simp only[dyn_nil,dyn_cons,allY_nil,allY_cons,and_true,true_and];(repeat' refine And.intro ?_ ?_);all_goals first |(left;simp only[Dj,List.mem_cons,List.not_mem_nil,or_false,forall_eq,forall_eq_or_imp,and_true,true_and,false_imp_iff,implies_true];first |done |omega) |(right;kernel_rfl))) |(apply QQ;simp only[evA,gB,gA];exact rfl) |((first |apply QX |apply QY);(first |rfl |decide |assumption)))
    refine⟨chs[i].length-(k+1),by omega,k+1,_,_,by omega,rfl,rfl,by omega,fun q hq=>by(simp(disch:=omega)only[upd_ne];exact hf q (by omega)),fun q hq=>by(simp(disch:=omega)only[upd_ne];exact hE q hq),by rw[tkS];exact(hS.upd_new (Nat.le_refl _) (Nat.le_succ _)).upd_new (Nat.le_refl _) (by omega),?_,fun a b c d e f ha hb=>?_⟩
    ·have hnil:cM=[]:=List.length_eq_zero_iff.1 h0
     rw[tkM,hap,hnil]
     exact .inr ⟨_,_,app_pos _ _,rfl,upd_same _ _ _,by omega,by omega⟩
    ·have:=hS.name_lt ha
     cases hb;omega
   ·repeat(first |(with_reducible first |apply Q0 |apply Q1 |apply QG |apply Q2 |apply Q3 |apply Q4 |apply Q5 |apply Q6 |apply Q7 |apply Q8 |apply Q9 |apply QA |apply QB |apply QC |apply QD |apply QE |apply QF) |((with_reducible apply QK rfl);simp(disch:=omega)only[go_sem,hf,upd_ne,hHp,hH1,hH2,hHM,elsA_len,elsA_drop,hex,List.getElem_map,cal22,ctQ_22,c22r,hb2,hbk,he,hal,hat,hao];exact rfl;simp only[sB,sA,putA];exact rfl) |((first |(with_reducible apply QL rfl) |(apply QM;simp only[go_sem]<;>exact rfl));simp(disch:=omega)only[go_sem,hf,upd_ne,hHp,hH1,hH2,hHM,elsA_len,elsA_drop,hex,List.getElem_map,cal22,ctQ_22,c22r,hb2,hbk,he,hal,hat,hao];exact rfl;simp only[sB,sA,putA];exact rfl;simp only[logT_none,logT_rd,logT_wr,List.cons_append,List.nil_append];exact rfl) |((first |apply QI |apply QN);simp only[go_sem]<;>exact rfl;simp only[sB,sA,putA];exact rfl) |(refine QO ?_ ?_;first |focus(simp only[dyn_nil,dyn_cons,allY_nil,allY_cons,dj_rr,true_or,true_and];done) |focus(simp only[dyn_nil,dyn_cons,allY_nil,allY_cons,Dj,List.mem_cons,List.not_mem_nil,or_false,forall_eq,forall_eq_or_imp,and_true,true_and,false_imp_iff,implies_true];omega) |focus(simp only[dyn_nil,dyn_cons,allY_nil,allY_cons,and_true,true_and];(repeat' refine And.intro ?_ ?_);all_goals first |(left;simp only[Dj,List.mem_cons,List.not_mem_nil,or_false,forall_eq,forall_eq_or_imp,and_true,true_and,false_imp_iff,implies_true];first |done |omega) |(right;kernel_rfl))) |(apply QQ;simp only[evA,gB,gA];exact rfl) |((first |apply QX |apply QY);(first |rfl |decide |assumption)))
    refine⟨chs[i].length-(k+1),by omega,k+1,_,_,by omega,rfl,rfl,by omega,fun q hq=>by(simp(disch:=omega)only[upd_ne];exact hf q (by omega)),fun q hq=>by(simp(disch:=omega)only[upd_ne];exact hE q hq),by rw[tkS];exact(hS.upd_new (Nat.le_refl _) (Nat.le_succ _)).upd_off (fun a b c hv=>hne a b c _ _ _ hv rfl) (Nat.le_refl _),?_,fun a b c d e f ha hb=>?_⟩
    ·rw[tkM,hap]
     exact .inr ⟨nM,vrM+1,app_pos _ _,by rw[List.length_append];rfl,upd_same _ _ _,by omega,hMs⟩
    ·cases hb;exact hne _ _ _ _ _ _ ha rfl
  ·have hgt:goes recs chs.length chs[i][k]=false:=by rw[hgo];exact decide_eq_false he
   rw[if_neg (by rw[hgt];simp)]at tkM
   rw[if_pos (by rw[hgt];rfl)]at tkS
   have hap:natsA ((chs[i].take k).filter (fun r=>!goes recs chs.length r)++[chs[i][k]])=natsA ((chs[i].take k).filter fun r=>!goes recs chs.length r)++[.sc (.int .i64 (chs[i][k]:Nat))]:=natsA_app _ _
   generalize hcS:(chs[i].take k).filter (fun r=>!goes recs chs.length r)=cS at*
   have hal:(natsA cS).length=cS.length:=natsA_len _
   have hat:(natsA cS).take cS.length=natsA cS:=natsA_take _
   have hao:(natsA cS).all AV.one=true:=ints_all _
   have hacl:cS.length≤200000:=by
    have:cS.length≤(chs[i].take k).length:=by rw[←hcS];exact List.length_filter_le _ _
    rw[List.length_take]at this;omega
   rcases hS with⟨h0,hcs,rfl⟩ |⟨nS,vrS,h0,rfl,hHS,hSl,hSs⟩
   ·repeat(first |(with_reducible first |apply Q0 |apply Q1 |apply QG |apply Q2 |apply Q3 |apply Q4 |apply Q5 |apply Q6 |apply Q7 |apply Q8 |apply Q9 |apply QA |apply QB |apply QC |apply QD |apply QE |apply QF) |((with_reducible apply QK rfl);simp(disch:=omega)only[go_sem,hf,upd_ne,hHp,hH1,hH2,elsA_len,elsA_drop,hex,List.getElem_map,cal22,ctQ_22,c22r,hb2,hbk,hbi,he];exact rfl;simp only[sB,sA,putA];exact rfl) |((first |(with_reducible apply QL rfl) |(apply QM;simp only[go_sem]<;>exact rfl));simp(disch:=omega)only[go_sem,hf,upd_ne,hHp,hH1,hH2,elsA_len,elsA_drop,hex,List.getElem_map,cal22,ctQ_22,c22r,hb2,hbk,hbi,he];exact rfl;simp only[sB,sA,putA];exact rfl;simp only[logT_none,logT_rd,logT_wr,List.cons_append,List.nil_append];exact rfl) |((first |apply QI |apply QN);simp only[go_sem]<;>exact rfl;simp only[sB,sA,putA];exact rfl) |(refine QO ?_ ?_;first |focus(simp only[dyn_nil,dyn_cons,allY_nil,allY_cons,dj_rr,true_or,true_and];done) |focus(simp only[dyn_nil,dyn_cons,allY_nil,allY_cons,Dj,List.mem_cons,List.not_mem_nil,or_false,forall_eq,forall_eq_or_imp,and_true,true_and,false_imp_iff,implies_true];omega) |focus(simp only[dyn_nil,dyn_cons,allY_nil,allY_cons,and_true,true_and];(repeat' refine And.intro ?_ ?_);all_goals first |(left;simp only[Dj,List.mem_cons,List.not_mem_nil,or_false,forall_eq,forall_eq_or_imp,and_true,true_and,false_imp_iff,implies_true];first |done |omega) |(right;kernel_rfl))) |(apply QQ;simp only[evA,gB,gA];exact rfl) |((first |apply QX |apply QY);(first |rfl |decide |assumption)))
    refine⟨chs[i].length-(k+1),by omega,k+1,_,_,by omega,rfl,rfl,by omega,fun q hq=>by(simp(disch:=omega)only[upd_ne];exact hf q (by omega)),fun q hq=>by(simp(disch:=omega)only[upd_ne];exact hE q hq),?_,by rw[tkM];exact(hM.upd_new (Nat.le_refl _) (Nat.le_succ _)).upd_new (Nat.le_refl _) (by omega),fun a b c d e f ha hb=>?_⟩
    ·have hnil:cS=[]:=List.length_eq_zero_iff.1 h0
     rw[tkS,hap,hnil]
     exact .inr ⟨_,_,app_pos _ _,rfl,upd_same _ _ _,by omega,by omega⟩
    ·have:=hM.name_lt hb
     cases ha;omega
   ·repeat(first |(with_reducible first |apply Q0 |apply Q1 |apply QG |apply Q2 |apply Q3 |apply Q4 |apply Q5 |apply Q6 |apply Q7 |apply Q8 |apply Q9 |apply QA |apply QB |apply QC |apply QD |apply QE |apply QF) |((with_reducible apply QK rfl);simp(disch:=omega)only[go_sem,hf,upd_ne,hHp,hH1,hH2,hHS,elsA_len,elsA_drop,hex,List.getElem_map,cal22,ctQ_22,c22r,hb2,hbk,hbi,he,hal,hat,hao];exact rfl;simp only[sB,sA,putA];exact rfl) |((first |(with_reducible apply QL rfl) |(apply QM;simp only[go_sem]<;>exact rfl));simp(disch:=omega)only[go_sem,hf,upd_ne,hHp,hH1,hH2,hHS,elsA_len,elsA_drop,hex,List.getElem_map,cal22,ctQ_22,c22r,hb2,hbk,hbi,he,hal,hat,hao];exact rfl;simp only[sB,sA,putA];exact rfl;simp only[logT_none,logT_rd,logT_wr,List.cons_append,List.nil_append];exact rfl) |((first |apply QI |apply QN);simp only[go_sem]<;>exact rfl;simp only[sB,sA,putA];exact rfl) |(refine QO ?_ ?_;first |focus(simp only[dyn_nil,dyn_cons,allY_nil,allY_cons,dj_rr,true_or,true_and];done) |focus(simp only[dyn_nil,dyn_cons,allY_nil,allY_cons,Dj,List.mem_cons,List.not_mem_nil,or_false,forall_eq,forall_eq_or_imp,and_true,true_and,false_imp_iff,implies_true];omega) |focus(simp only[dyn_nil,dyn_cons,allY_nil,allY_cons,and_true,true_and];(repeat' refine And.intro ?_ ?_);all_goals first |(left;simp only[Dj,List.mem_cons,List.not_mem_nil,or_false,forall_eq,forall_eq_or_imp,and_true,true_and,false_imp_iff,implies_true];first |done |omega) |(right;kernel_rfl))) |(apply QQ;simp only[evA,gB,gA];exact rfl) |((first |apply QX |apply QY);(first |rfl |decide |assumption)))
    refine⟨chs[i].length-(k+1),by omega,k+1,_,_,by omega,rfl,rfl,by omega,fun q hq=>by(simp(disch:=omega)only[upd_ne];exact hf q (by omega)),fun q hq=>by(simp(disch:=omega)only[upd_ne];exact hE q hq),?_,by rw[tkM];exact(hM.upd_new (Nat.le_refl _) (Nat.le_succ _)).upd_off (fun a b c hv e=>hne _ _ _ _ _ _ rfl hv e.symm) (Nat.le_refl _),fun a b c d e f ha hb=>?_⟩
    ·rw[tkS,hap]
     exact .inr ⟨nS,vrS+1,app_pos _ _,by rw[List.length_append];rfl,upd_same _ _ _,by omega,hSs⟩
    ·cases ha;exact hne _ _ _ _ _ _ rfl hb
 ·obtain rfl:k=chs[i].length:=by omega
  rw[List.take_length]at hS hM
  have hone:∀v:AV,v.one=true→((rowsN chs).set i v).all AV.one=true:=rowsN_put chs i
  have hso:∀v:AV,((rowsN chs).set i v).length=chs.length:=fun v=>by rw[List.length_set,rowsN_len]
  have htk:∀v:AV,((rowsN chs).set i v).take chs.length=(rowsN chs).set i v:=fun v=>List.take_of_length_le (by rw[hso];exact Nat.le_refl _)
  obtain⟨hSv,hSn⟩:(vS= .sc (.slice none 0 0)∨∃a b c,vS= .sl a b 0 c∧s≤a∧a<s1)∧True:=⟨by
   rcases hS with⟨_,_,h⟩ |⟨a,b,_,h,_,h1,h2⟩
   ·exact .inl h
   ·exact .inr ⟨a,b,_,h,h2,h1⟩,trivial⟩
  obtain⟨hMv,hMn⟩:(vM= .sc (.slice none 0 0)∨∃a b c,vM= .sl a b 0 c∧s≤a∧a<s1)∧True:=⟨by
   rcases hM with⟨_,_,h⟩ |⟨a,b,_,h,_,h1,h2⟩
   ·exact .inl h
   ·exact .inr ⟨a,b,_,h,h2,h1⟩,trivial⟩
  have kS:∀(H1:AHp),(∀q,s≤q→q<s1→H1 q=H q)→RowE s 1 vS H1 s1 (natsA (chs[i].filter fun r=>!goes recs chs.length r)) (chs[i].filter fun r=>!goes recs chs.length r).length:=fun H1 hh=>by
   rcases hS with h |⟨a,b,h0,h,k1,k2,k3⟩
   ·exact .inl h
   ·exact .inr ⟨a,b,h0,h,by rw[hh a k3 k2];exact k1,k2,k3⟩
  have kM:∀(H1:AHp),(∀q,s≤q→q<s1→H1 q=H q)→RowE s 1 vM H1 s1 (natsA (chs[i].filter (goes recs chs.length))) (chs[i].filter (goes recs chs.length)).length:=fun H1 hh=>by
   rcases hM with h |⟨a,b,h0,h,k1,k2,k3⟩
   ·exact .inl h
   ·exact .inr ⟨a,b,h0,h,by rw[hh a k3 k2];exact k1,k2,k3⟩
  have oS:vS.one=true∧aCells vS=some [vS]:=by rcases hSv with rfl |⟨a,b,c,rfl,_⟩<;>exact⟨rfl,rfl⟩
  have oM:vM.one=true∧aCells vM=some [vM]:=by rcases hMv with rfl |⟨a,b,c,rfl,_⟩<;>exact⟨rfl,rfl⟩
  have hb35:=bs35v vM oM.1 oM.2
  have ho1:=hone vS oS.1
  rcases hSv with rfl |⟨a1,b1,c1,rfl,hS1,hS2⟩<;>rcases hMv with rfl |⟨a2,b2,c2,rfl,hM1,hM2⟩
  all_goals
   repeat(first |(with_reducible first |apply Q0 |apply Q1 |apply Q2 |apply Q3 |apply Q4 |apply Q5 |apply Q6 |apply Q7 |apply Q8 |apply Q9 |apply QA |apply QB |apply QC |apply QD |apply QE |apply QF) |((with_reducible apply QK rfl);simp(disch:=omega)only[go_sem,hf,upd_ne,hHp,hH1,hH2,bs35s,bs35n,ho1,hso,htk,hrlen];exact rfl;simp only[sB,sA,putA];exact rfl) |(apply QQ;simp only[evA,gB,gA];exact rfl) |((first |apply QX |apply QY);(first |rfl |decide |assumption)))
   (apply QZ;simp(disch:=omega)only[go_sem,Try.results82];exact rfl;simp only[packA];exact rfl)
   refine hR _ _ _ s1 s1 (fun q a b c=>by(simp(disch:=omega)only[upd_ne];exact hE q a)) ?_ ?_ (kS _ (fun q a b=>by simp(disch:=omega)only[upd_ne])) (kM _ (fun q a b=>by simp(disch:=omega)only[upd_ne]))
   ·simp(disch:=omega)only[upd_ne,upd_same]
   ·simp(disch:=omega)only[upd_ne,upd_same]
theorem a82 (args:List AV):ACall Try.prog 82 args (c82 args):=by
 by_cases ha:∃p,args=[.ptr p 0 0]
 ·obtain⟨p,rfl⟩:=ha
  refine acall_genW Try.func82 rfl (fun E s0 s r H' s' hr hs=>?_)
  have hs0:∀q,s≤q→E.H q=none:=fun q hq=>(hs q hq).1
  obtain⟨o,hp,q1⟩:=get_some hr
  obtain⟨nm1,ver1,n,nm,ver,b,rfl,q2⟩:=bxK_some q1
  obtain⟨o,h1,q3⟩:=get_some q2
  obtain⟨recs,rfl,q4⟩:=eK_some q3
  obtain⟨o,h2,q5⟩:=get_some q4
  obtain⟨chs,rfl,q6⟩:=cK_some q5
  clear hr q1 q2 q3 q4 q5
  have hr:=q6
  clear q6
  split at hr
  ·rename_i hc
   obtain⟨hW,rfl,rfl⟩:=hc
   simp only[AP.run,Option.some.injEq,Prod.mk.injEq]at hr
   obtain⟨rfl,rfl,rfl⟩:=hr
   have hpn:p≠nm:=fun e=>by
    rw[e,h2]at hp
    injection hp with hp
    injection hp with _ _ h3
    have:=hW.b.1
    cases chs with
    |nil=>simp[rowsN]at h3
    |cons c chs=>simp[rowsN]at h3
   have hi:divI chs.length<chs.length:=by have:=pow2_le1 hW.b.1;have:=hW.b.1;unfold divI;omega
   refine wA_ok hmix ctQ_ok _ (by kernel_rfl) (div_walk hW E s p nm1 ver1 nm ver hs0 hp h1 h2 hpn _ (fun H1 vS vM s' s2 k1 k2 k3 k4 k5=>?_))
   refine div_end hi hs k1 k2 k3 hpn (by rw[hp];simp) (by rw[h2];simp) (fun a ha K hK=>?_) k4 k5 rfl
   rcases List.mem_cons.1 ha with rfl |ha
   ·exact hK _ (by rw[h1];simp)
   ·rcases List.mem_cons.1 ha with rfl |ha
    ·exact hK _ (by rw[h2];simp)
    ·cases ha
  ·simp[AP.run]at hr
 ·have:c82 args= .fail:=by
   unfold c82
   split
   ·exact absurd ⟨_,rfl⟩ ha
   ·rfl
  rw[this]
  intro ρ H w vs hR hA s r H' s' hm;simp[AP.run]at hm
end Go.Proofs.Ytdcomhdadnhpnaa
end
section
namespace Go.Proofs.Ytdcomhdadnhpnaa
open Go Go.Am Go.RowKit
attribute [local irreducible] wA opsQ opsLQ thenA blockA EndA
theorem min33 (ts:Array TypeId) (ty:TypeId) (x y:Int):aGL Try.prog (fun vs=>Builtin.min_ ts ty vs) [.sc (.int .i64 x),.sc (.int .i64 y)]= .ret (.sc (.int .i64 (min x y))):=by
 have h:(if y<x then y else x)=min x y:=by split<;>omega
 simp[aGL,Builtin.min_,AV.val?,valL?,List.foldlM,Builtin.min2,AP.ofOption,pureRun_pure,h]
def rdN (a:AV) (k:List Nat→AP AV):AP AV:=rdK a fun l=>match toN l with
 |some c=>k c
 |none=>.fail
theorem rdN_dsl (c:List Nat) (k:List Nat→AP AV):rdN (.dsl c.length (natsA c)) k=k c:=by
 have:(c.map fun r:Nat=>(r:Int)).length=c.length:=by simp
 unfold rdN
 rw[←this,rdK_dsl,toN_cast]
theorem rdN_data {ρ:Inj} {H H':AHp} {w:World} {a r:AV} {v:Value} {k:List Nat→AP AV} {s s':Nat} (h:Rel ρ H w) (hr:Rep ρ (own ρ H) w a v) (hm:(rdN a k).run H s=some (r,H',s')):
  ∃c,Rep ρ0 (own ρ0 H0) w (.dsl c.length (natsA c)) v∧(k c).run H s=some (r,H',s'):=by
 obtain⟨l,h1,h2⟩:=rdK_data h hr hm
 split at h2
 ·rename_i c hc
  have:=toN_some hc
  rw[this]at h1
  refine⟨c,?_,h2⟩
  rw[show(c.map fun r:Nat=>(r:Int)).length=c.length by simp]at h1
  exact h1
 ·simp[AP.run]at h2
open Classical in
noncomputable def c79:List AV→AP AV
 | [x,.agg [.sc (.int .i64 a),.sc (.int .i64 b)]]=>rdT x fun recs chs=>if WOK recs chs∧0≤a∧a≤4294967296 then .ret (.sc (.int .i64 (ofF recs chs (a,b))))else .fail
 |_=>.fail
open Classical in
noncomputable def c80:List AV→AP AV
 | [x,y,.sc (.int .i64 h)]=>rdT x fun recs chs=>rdN y fun c=>if recs.length≤100000∧(∀r∈c,r<recs.length)∧c.length≤100000 then .ret (.sc (.int .i64 (ahF recs c h:Nat)))else .fail
 |_=>.fail
def c81:List AV→AP AV
 | [y,.sc (.int .i64 p),.sc (.int .i64 n)]=>rdN y fun c=>if 0≤p∧p.toNat≤c.length∧c.length≤100000∧0≤n∧n≤100000 then .ret (.dsl (insN c p.toNat n.toNat).length (natsA (insN c p.toNat n.toNat)))else .fail
 |_=>.fail
open Classical in
noncomputable def c83:List AV→AP AV
 | [y,.sc (.int .i64 n)]=>rdN y fun c=>if 0≤n∧n.toNat∈c∧c.length≤100000 then .ret (.sc (.int .i64 (c.idxOf n.toNat:Nat)))else .fail
 |_=>.fail
theorem a79 (args:List AV):ACall Try.prog 79 args (c79 args):=by
 intro ρ H w vs hR hA s r H' s' hm
 unfold c79 at hm
 split at hm
 ·rename_i x a b
  obtain⟨v0,v1,rfl,hv0,hv1⟩:=reps2 hA
  obtain⟨recs,chs,hr,hm⟩:=rdT_data hR hv0 hm
  split at hm
  ·rename_i hw
   obtain⟨hw,h0,h1⟩:=hw
   simp only[AP.run,Option.some.injEq,Prod.mk.injEq]at hm
   obtain⟨rfl,rfl,rfl⟩:=hm
   have hv1':Rep ρ0 (own ρ0 H0) w (elG (a,b)) v1:=by
    obtain⟨us,rfl,hu⟩:=Rep.agg_iff.1 hv1
    obtain⟨p,q,e,k1,k2⟩:=arg2 hu
    obtain rfl:=Rep.sc_iff.1 k1
    obtain rfl:=Rep.sc_iff.1 k2
    exact Rep.agg_iff.2 ⟨us,rfl,by rw[e];exact .cons (.sc _) (.cons (.sc _) .nil)⟩
   exact(of_call recs chs (a,b) hw ⟨h0,h1⟩).acall hR (.cons hr (.cons hv1' .nil))
  ·simp[AP.run]at hm
 ·simp[AP.run]at hm
theorem a80 (args:List AV):ACall Try.prog 80 args (c80 args):=by
 intro ρ H w vs hR hA s r H' s' hm
 unfold c80 at hm
 split at hm
 ·rename_i x y h
  obtain⟨v0,v1,v2,rfl,hv0,hv1,hv2⟩:∃x y z,vs=[x,y,z]∧Rep ρ (own ρ H) w _ x∧Rep ρ (own ρ H) w _ y∧Rep ρ (own ρ H) w _ z:=by
   obtain⟨x,t,rfl,h1,h2⟩:=Reps.uncons hA
   obtain⟨y,z,rfl,h3,h4⟩:=reps2 h2
   exact⟨x,y,z,rfl,h1,h3,h4⟩
  obtain⟨recs,chs,hr,hm⟩:=rdT_data hR hv0 hm
  obtain⟨c,hr2,hm⟩:=rdN_data hR hv1 hm
  split at hm
  ·rename_i hw
   obtain⟨h1,h2,h3⟩:=hw
   simp only[AP.run,Option.some.injEq,Prod.mk.injEq]at hm
   obtain⟨rfl,rfl,rfl⟩:=hm
   obtain rfl:=Rep.sc_iff.1 hv2
   exact(ahead_call recs chs c h h1 h2 h3).acall hR (.cons hr (.cons hr2 (.cons (.sc _) .nil)))
  ·simp[AP.run]at hm
 ·simp[AP.run]at hm
theorem a81 (args:List AV):ACall Try.prog 81 args (c81 args):=by
 intro ρ H w vs hR hA s r H' s' hm
 unfold c81 at hm
 split at hm
 ·rename_i y p n
  obtain⟨v0,v1,v2,rfl,hv0,hv1,hv2⟩:∃x y z,vs=[x,y,z]∧Rep ρ (own ρ H) w _ x∧Rep ρ (own ρ H) w _ y∧Rep ρ (own ρ H) w _ z:=by
   obtain⟨x,t,rfl,h1,h2⟩:=Reps.uncons hA
   obtain⟨y,z,rfl,h3,h4⟩:=reps2 h2
   exact⟨x,y,z,rfl,h1,h3,h4⟩
  obtain⟨c,hr,hm⟩:=rdN_data hR hv0 hm
  split at hm
  ·rename_i hw
   obtain⟨h1,h2,h3,h4,h5⟩:=hw
   simp only[AP.run,Option.some.injEq,Prod.mk.injEq]at hm
   obtain⟨rfl,rfl,rfl⟩:=hm
   obtain rfl:=Rep.sc_iff.1 hv1
   obtain rfl:=Rep.sc_iff.1 hv2
   have:=insert_call c p.toNat n.toNat h2 h3 (by omega)
   rw[show((p.toNat:Nat):Int)=p by omega,show((n.toNat:Nat):Int)=n by omega]at this
   exact this.acall hR (.cons hr (.cons (.sc _) (.cons (.sc _) .nil)))
  ·simp[AP.run]at hm
 ·simp[AP.run]at hm
theorem a83 (args:List AV):ACall Try.prog 83 args (c83 args):=by
 intro ρ H w vs hR hA s r H' s' hm
 unfold c83 at hm
 split at hm
 ·rename_i y n
  obtain⟨v0,v1,rfl,hv0,hv1⟩:=reps2 hA
  obtain⟨c,hr,hm⟩:=rdN_data hR hv0 hm
  split at hm
  ·rename_i hw
   obtain⟨h1,h2,h3⟩:=hw
   simp only[AP.run,Option.some.injEq,Prod.mk.injEq]at hm
   obtain⟨rfl,rfl,rfl⟩:=hm
   obtain rfl:=Rep.sc_iff.1 hv1
   have:=rindex_call c n.toNat h3 h2
   rw[show((n.toNat:Nat):Int)=n by omega]at this
   exact this.acall hR (.cons hr (.cons (.sc _) .nil))
  ·simp[AP.run]at hm
 ·simp[AP.run]at hm
def newN (L:List Nat) (k:AV→AP AV):AP AV:=if L.length=0 then k (.sc (.slice none 0 0))else .new (.row 0 1 (natsA L)) fun n=>k (.sl n 0 0 L.length)
def c84:List AV→AP AV
 | [.dsl len cells,.sc (.int .i64 n)]=>rdN (.dsl len cells) fun c=>if 0≤n∧c.length≤100000∧len=c.length∧cells.length=c.length then newN (wiN c n.toNat) .ret else .fail
 |_=>.fail
theorem rdN_some {len s:Nat} {cells:List AV} {k:List Nat→AP AV} {H:AHp} {x:AV×AHp×Nat} (h:(rdN (.dsl len cells) k).run H s=some x):∃c,len=c.length∧cells=natsA c∧(k c).run H s=some x:=by
 unfold rdN rdK at h
 simp only at h
 split at h
 ·rename_i l hl
  split at h
  ·rename_i e
   split at h
   ·rename_i c hc
    have h2:=toN_some hc
    refine⟨c,?_,?_,h⟩
    ·rw[←e,h2];simp
    ·rw[intsOf_some hl,h2]
   ·simp[AP.run]at h
  ·simp[AP.run]at h
 ·simp[AP.run]at h
theorem natsA_sc {c:List Nat}:∀a∈natsA c,∃v,a=AV.sc v:=fun a ha=>by
 obtain⟨x,_,rfl⟩:=List.mem_map.1 ha
 exact⟨_,rfl⟩
theorem a84 (args:List AV):ACall Try.prog 84 args (c84 args):=by
 intro ρ H w vs hR hA s r H' s' hm
 unfold c84 at hm
 split at hm
 ·rename_i len cells n
  obtain⟨c,rfl,rfl,hm⟩:=rdN_some hm
  split at hm
  ·rename_i hw
   obtain⟨h1,h2,_,_⟩:=hw
   unfold newN at hm
   have hn:((n.toNat:Nat):Int)=n:=by omega
   split at hm
   ·rename_i h0
    refine acall_pure' (args:=[.dsl c.length (natsA c),.sc (.int .i64 n)]) (r:=.sc (.slice none 0 0)) hmix noCT_ok Try.func84 rfl (by kernel_rfl) (fun E s hs=>?_) ρ H w _ hR hA s r H' s' hm
    rw[←hn]
    refine rwithout_walk c n.toNat h2 E s hs _ (fun v H1 s1 hO=>⟨hO.keep hs,?_⟩)
    obtain⟨_,_,_,⟨_,_,rfl⟩ |⟨nm,ver,k0,_⟩⟩:=hO
    ·exact Pub.sc _
    ·omega
   ·rename_i h0
    refine acall_row (args:=[.dsl c.length (natsA c),.sc (.int .i64 n)]) (esz:=1) (len:=(wiN c n.toNat).length) (cs:=natsA (wiN c n.toNat)) natsA_sc hmix noCT_ok Try.func84 rfl (by kernel_rfl) (fun E s hs=>?_) ρ H w _ hR hA s r H' s' hm
    rw[←hn]
    refine rwithout_walk c n.toNat h2 E s hs _ (fun v H1 s1 hO=>⟨hO.keep hs,?_⟩)
    obtain⟨_,_,_,⟨k0,_,rfl⟩ |⟨nm,ver,k0,rfl,k1,k2,k3⟩⟩:=hO
    ·exact absurd k0 h0
    ·exact⟨nm,ver,rfl,k1,k3⟩
  ·simp[AP.run]at hm
 ·simp[AP.run]at hm
noncomputable def ctR:CT:=fun f args=>if f=78 then c78o args else if f=79 then c79 args else if f=80 then c80 args else if f=81 then c81 args else if f=82 then c82 args else if f=83 then c83 args else if f=84 then c84 args else ctQ f args
theorem ctR_ok:CTok Try.prog ctR:=fun f args=>by
 unfold ctR
 split
 ·rename_i e;subst e;exact a78o args
 split
 ·rename_i e;subst e;exact a79 args
 split
 ·rename_i e;subst e;exact a80 args
 split
 ·rename_i e;subst e;exact a81 args
 split
 ·rename_i e;subst e;exact a82 args
 split
 ·rename_i e;subst e;exact a83 args
 split
 ·rename_i e;subst e;exact a84 args
 ·exact ctQ_ok f args
theorem ctR_18 (a:List AV):ctR 18 a=c18r a:=rfl
theorem ctR_21 (a:List AV):ctR 21 a=c21 a:=rfl
theorem ctR_22 (a:List AV):ctR 22 a=c22r a:=rfl
theorem cal78:callable Try.prog 78=true:=by kernel_rfl
theorem cal79:callable Try.prog 79=true:=by kernel_rfl
theorem cal80:callable Try.prog 80=true:=by kernel_rfl
theorem cal81:callable Try.prog 81=true:=by kernel_rfl
theorem cal82:callable Try.prog 82=true:=by kernel_rfl
theorem cal83:callable Try.prog 83=true:=by kernel_rfl
theorem cal84:callable Try.prog 84=true:=by kernel_rfl
end Go.Proofs.Ytdcomhdadnhpnaa
end
