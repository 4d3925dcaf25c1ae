import Derived.Test.YtdcomhdadnhpnaaYZA8
import Derived.Test.YtdcomhdadnhpnaaYZT1
set_option linter.all false
section
namespace Go.Proofs.Ytdcomhdadnhpnaa
open Go Go.Am Go.RowKit
theorem wok_of {l:List Int} {n:Nat} {C:Nat→List Nat} {recs:List (Int×Int)} (g:G l n (bkts n) C) (hr:recs.length=n):WOK recs ((List.range (bkts n)).map C):=by
 have key:∀c∈(List.range (bkts n)).map C,∃i,i<bkts n∧c=C i:=fun c hc=>by
  obtain⟨i,hi,rfl⟩:=List.mem_map.1 hc
  exact⟨i,List.mem_range.1 hi,rfl⟩
 refine⟨by rw[hr];exact g.n1,by simp[hr],fun c hc r h=>?_,fun c hc=>?_⟩
 ·obtain⟨i,hi,rfl⟩:=key c hc
  rw[hr];exact g.lt hi h
 ·obtain⟨i,hi,rfl⟩:=key c hc
  exact Nat.le_trans (g.clen hi) g.n1
theorem wod_of {l:List Int} {n b:Nat} {C:Nat→List Nat} {recs:List (Int×Int)} (g:G l n b C) (hr:recs.length=n) (hrec:∀r,r<n→recs.getD r (0,0)=elm l r) (hb:b≤100000):WOD recs ((List.range b).map C):=by
 have key:∀c∈(List.range b).map C,∃i,i<b∧c=C i:=fun c hc=>by
  obtain⟨i,hi,rfl⟩:=List.mem_map.1 hc
  exact⟨i,List.mem_range.1 hi,rfl⟩
 have:=g.b8
 refine⟨by rw[hr];exact g.n1,by simp;omega,fun c hc r h=>?_,fun c hc=>?_,fun e he=>?_⟩
 ·obtain⟨i,hi,rfl⟩:=key c hc
  rw[hr];exact g.lt hi h
 ·obtain⟨i,hi,rfl⟩:=key c hc
  exact Nat.le_trans (g.clen hi) g.n1
 ·obtain⟨r,hr',rfl⟩:=List.mem_iff_getElem.1 he
  have h1:=hrec r (by omega)
  have h2:recs.getD r (0,0)=recs[r]:=by simp[hr']
  rw[←h2,h1]
  have:=g.hash r (by omega)
  show 0≤ati l (recAt r)∧ati l (recAt r)≤4294967296
  omega
theorem chsT_getD {l:List Int} {i:Nat} (hi:i<bkts (tabN l)):(chsT l).getD i []=tabC l i:=by simp[chsT,hi]
theorem wok_valid {l:List Int} (hV:ValidL l):WOK (recsT l) (chsT l):=wok_of (tab_g hV) (recsF_len l _)
theorem recsT_get {l:List Int} {r:Nat} (h:r<tabN l):(recsT l).getD r (0,0)=elm l r:=recsF_get l h
theorem of_has {l:List Int} (hV:ValidL l) {h x:Int}:(0≤ofF (recsT l) (chsT l) (h,x))↔hasR l h x (tabC l (bkt h.toNat (bkts (tabN l))))=true:=by
 have g:=tab_g hV
 have hi:=bkt_lt h.toNat (b:=bkts (tabN l)) (by have:=bkts8 (tabN l);omega)
 unfold ofF hasR
 rw[chsT_len,chsT_getD hi,List.any_eq_true]
 have key:∀r∈tabC l (bkt h.toNat (bkts (tabN l))),((recsT l).getD r (0,0)=(h,x))↔(ati l (recAt r)=h∧ati l (recAt r+1)=x):=fun r hr=>by
  rw[recsT_get (g.lt hi hr)];unfold elm;simp
 split
 ·rename_i r hf
  have h1:=List.mem_of_find?_eq_some hf
  have h2:=List.find?_some hf
  refine⟨fun _=>⟨r,h1,?_⟩,fun _=>by omega⟩
  rw[decide_eq_true_iff]at h2 ⊢
  exact(key r h1).1 h2
 ·rename_i hf
  refine⟨fun h=>absurd h (by omega),fun⟨r,h1,h2⟩=>?_⟩
  have:=List.find?_eq_none.1 hf r h1
  rw[decide_eq_true_iff]at h2
  rw[decide_eq_true_iff]at this
  exact absurd ((key r h1).2 h2) this
theorem takeWhile_congr {α:Type} {p q:α→Bool}:∀ {c:List α},(∀a∈c,p a=q a)→c.takeWhile p=c.takeWhile q
 | [],_=>rfl
 |a::c,h=>by
  rw[List.takeWhile_cons,List.takeWhile_cons,h a List.mem_cons_self,takeWhile_congr (fun b hb=>h b (List.mem_cons_of_mem _ hb))]
theorem ah_pre {l:List Int} {recs:List (Int×Int)} {c:List Nat} {h:Int} (hr:∀r∈c,recs.getD r (0,0)=elm l r):ahF recs c h=(preR l h c).length:=by
 unfold ahF preR
 rw[takeWhile_congr (q:=fun r=>decide (ati l (recAt r)≤h)) (fun r hrc=>by rw[hr r hrc];rfl)]
theorem ins_pre (l:List Int) (h:Int) (c:List Nat) (n:Nat):insN c (preR l h c).length n=preR l h c++n::c.drop (preR l h c).length:=by
 unfold insN
 congr 1
 exact(List.prefix_iff_eq_take.1 (List.takeWhile_prefix _)).symm
theorem map_set_range {α:Type} (C:Nat→α) (b i:Nat) (v:α):((List.range b).map C).set i v=(List.range b).map fun k=>if k=i then v else C k:=by
 apply List.ext_getElem
 ·simp
 ·intro k h1 h2
  simp only[List.getElem_set,List.getElem_map,List.getElem_range]
  by_cases e:i=k
  ·simp[e]
  ·rw[if_neg e,if_neg (Ne.symm e)]
def chs1 (recs:List (Int×Int)) (chs:List (List Nat)) (h:Int):List (List Nat):=
 chs.set (bkt h.toNat chs.length) (insN (chs.getD (bkt h.toNat chs.length) []) (ahF recs (chs.getD (bkt h.toNat chs.length) []) h) recs.length)
theorem chs1_eq {l:List Int} (hV:ValidL l) {h:Int}:chs1 (recsT l) (chsT l) h=(List.range (bkts (tabN l))).map (addC l (tabN l) (tabC l) h):=by
 have g:=tab_g hV
 have hi:=bkt_lt h.toNat (b:=bkts (tabN l)) (by have:=bkts8 (tabN l);omega)
 unfold chs1
 rw[chsT_len,chsT_getD hi,ah_pre (l:=l) (fun r hr=>recsT_get (g.lt hi hr)),ins_pre,recsF_len]
 unfold chsT
 rw[map_set_range]
 refine List.map_congr_left (fun k _=>?_)
 unfold addC
 by_cases e:k=bkt h.toNat (bkts (tabN l))
 ·rw[if_pos e,if_pos e,e]
 ·rw[if_neg e,if_neg e]
def raddX (recs:List (Int×Int)) (chs:List (List Nat)) (h x:Int):Int×List Int×Int:=
 if 0≤ofF recs chs (h,x)then(0,[],6)else if 100000≤recs.length then(0,[],3)
 else if chs.length<bkts (recs.length+1)then
  ((min (chs.getD (bkt h.toNat chs.length) []).length (ahF recs (chs.getD (bkt h.toNat chs.length) []) h+1):Nat)+(((chs1 recs chs h).getD (divI chs.length) []).length:Nat),wordsF (recs++[(h,x)]) (divC (recs++[(h,x)]) (chs1 recs chs h)),0)
 else((min (chs.getD (bkt h.toNat chs.length) []).length (ahF recs (chs.getD (bkt h.toNat chs.length) []) h+1):Nat),wordsF (recs++[(h,x)]) (chs1 recs chs h),0)
structure AddOK (l:List Int) (h x:Int):Prop where
 d:WOD (recsT l++[(h,x)]) (chs1 (recsT l) (chsT l) h)
 w1:(chsT l).length<bkts (tabN l+1)→WOK (recsT l++[(h,x)]) (divC (recsT l++[(h,x)]) (chs1 (recsT l) (chsT l) h))
 w2:¬(chsT l).length<bkts (tabN l+1)→WOK (recsT l++[(h,x)]) (chs1 (recsT l) (chsT l) h)
 e:raddX (recsT l) (chsT l) h x=addF l h x
theorem app_get {L:List (Int×Int)} {e:Int×Int} {n:Nat} (hn:L.length=n) {r:Nat} (hr:r<n+1):(L++[e]).getD r (0,0)=if r=n then e else L.getD r (0,0):=by
 by_cases h:r=n
 ·rw[if_pos h,h,←hn];simp
 ·rw[if_neg h];simp[List.getElem?_append_left (show r<L.length by omega)]
theorem add_ok {l:List Int} {h x:Int} (hV:ValidL l) (hh:0≤h∧h≤2147483647) (hno:¬0≤ofF (recsT l) (chsT l) (h,x)) (hn:tabN l<100000):AddOK l h x:=by
 have g:=tab_g hV
 have hH:=tab_h hV
 have hb8:=bkts8 (tabN l)
 have hi:=bkt_lt h.toNat (b:=bkts (tabN l)) (by omega)
 have hhas:hasR l h x (tabC l (bkt h.toNat (bkts (tabN l))))=false:=by
  rw[of_has hV]at hno;simpa using hno
 have hcl:=chsT_len l
 have hrl:(recsT l).length=tabN l:=recsF_len l _
 have hch:=chs1_eq hV (h:=h)
 have hc1l:(chs1 (recsT l) (chsT l) h).length=bkts (tabN l):=by rw[hch];simp
 have hgd:=chsT_getD hi
 have hah:ahF (recsT l) (tabC l (bkt h.toNat (bkts (tabN l)))) h=(preR l h (tabC l (bkt h.toNat (bkts (tabN l))))).length:=ah_pre (l:=l) (fun r hr=>recsT_get (g.lt hi hr))
 have hor:ofF (recsT l) (chsT l) (h,x)<0:=by omega
 have hadd:=addF_ok (x:=x) hV hh
 generalize hn':tabN l=n at*
 generalize hC:tabC l=C at*
 have hx0:(addR l n C h x).2.1=0:=by
  unfold addR
  rw[if_neg (by simpa using hh),if_neg (by rw[hhas];simp),if_neg (by omega)]
  split<;>rfl
 obtain⟨_,_,_,h4,h5,h6⟩:=g.add hH hx0
 have g1:=G_addR (x:=x) g hH.len hn hh.1 hh.2 hhas
 have hfr:4≤endp (headAt (bkt h.toNat (bkts n))) (preR l h (C (bkt h.toNat (bkts n))))∧endp (headAt (bkt h.toNat (bkts n))) (preR l h (C (bkt h.toNat (bkts n))))<l.length:=by
  rcases endp_cases (headAt (bkt h.toNat (bkts n))) (preR l h (C (bkt h.toNat (bkts n))))with⟨_,e⟩ |⟨r,hr,e⟩
  ·rw[e];exact⟨headAt_ge _,g.headlt hi⟩
  ·rw[e];have:=recAt_ge r;exact⟨by omega,g.rl r (g.lt hi ((List.takeWhile_sublist _).subset hr))⟩
 have hnofr:∀r a,a<2→recAt r+a≠endp (headAt (bkt h.toNat (bkts n))) (preR l h (C (bkt h.toNat (bkts n)))):=fun r a ha e=>endp_no01 _ _ _ _ ha e.symm
 have hw:=wlen_mono (show n≤n+1 by omega)
 have hA:∀q,3≤q→_:=fun q hq=>ati_addL (h:=h) (x:=x) (show 3≤endp (headAt (bkt h.toNat (bkts n))) (preR l h (C (bkt h.toNat (bkts n))))by omega) (by rw[hH.len]at hfr;omega) q hq hH.len
 have hel:∀r,r<n+1→∀a,a<2→ati (addL l n (endp (headAt (bkt h.toNat (bkts n))) (preR l h (C (bkt h.toNat (bkts n))))) h x) (recAt r+a)=if r=n then(if a=0 then h else x)else ati l (recAt r+a):=fun r hr a ha=>by
  rw[hA _ (by have:=recAt_ge r;omega),if_neg (hnofr r a ha)]
  by_cases e:r=n
  ·subst e
   rcases(by omega:a=0∨a=1)with rfl |rfl
   ·simp
   ·simp
  ·have h3:∀c,c<3→recAt r+a≠recAt n+c:=fun c hc e2=>e (recAt_inj e2 (by omega) hc).1
   rw[if_neg (h3 2 (by omega)),if_neg (h3 1 (by omega)),if_neg (show ¬recAt r+a=recAt n from h3 0 (by omega)),if_neg e]
 generalize hl1:addL l n (endp (headAt (bkt h.toNat (bkts n))) (preR l h (C (bkt h.toNat (bkts n))))) h x=l1 at*
 have hr1l:(recsT l++[(h,x)]).length=n+1:=by rw[List.length_append,hrl];rfl
 have elm1:∀ {m:List Int},(∀r,r<n+1→∀a,a<2→ati m (recAt r+a)=if r=n then(if a=0 then h else x)else ati l (recAt r+a))→∀r,r<n+1→(recsT l++[(h,x)]).getD r (0,0)=elm m r:=fun hm r hr=>by
  rw[app_get hrl hr]
  have e0:=hm r hr 0 (by omega)
  have e1:=hm r hr 1 (by omega)
  rw[Nat.add_zero]at e0
  unfold elm
  rw[e0,e1]
  by_cases e:r=n
  ·rw[if_pos e,if_pos e,if_pos e,if_pos rfl,if_neg (by omega)]
  ·rw[if_neg e,if_neg e,if_neg e]
   have:=recsT_get (l:=l) (r:=r) (by omega)
   rw[this];rfl
 have hd:WOD (recsT l++[(h,x)]) (chs1 (recsT l) (chsT l) h):=by
  rw[hch]
  exact wod_of g1 hr1l (elm1 hel) (by unfold bkts;split<;>omega)
 have hfin:=wordsF_eq h4 h5 hr1l (elm1 h6)
 have hcase:∀b,b=bkts n→True:=fun _ _=>trivial
 have hdivC:bkts n<bkts (n+1)→divC (recsT l++[(h,x)]) (chs1 (recsT l) (chsT l) h)=(List.range (bkts (n+1))).map (addCC l n C h l1):=fun hb=>by
  have hbn:=bkts_nx hb
  have hp:=pow2_le1 (b:=bkts n) (by omega)
  have hdi:divI (bkts n)<bkts n:=by unfold divI;omega
  have hg1:(chs1 (recsT l) (chsT l) h).getD (divI (bkts n)) []=addC l n C h (divI (bkts n)):=by rw[hch];simp[hdi]
  have hgo:∀r∈addC l n C h (divI (bkts n)),goes (recsT l++[(h,x)]) (bkts n) r=isNew l1 (bkts n) r:=fun r hr=>by
   have:=g1.lt hdi hr
   unfold goes isNew
   rw[elm1 hel r this];rfl
  unfold divC
  rw[hc1l,hg1,hbn,List.range_succ,List.map_append,hch,map_set_range]
  unfold addCC stayS goneS
  rw[if_pos hb,List.filter_congr (fun r hr=>by rw[hgo r hr]:∀r∈addC l n C h (divI (bkts n)),(!goes (recsT l++[(h,x)]) (bkts n) r)= !isNew l1 (bkts n) r),List.filter_congr hgo]
  congr 1
  ·refine List.map_congr_left (fun k hk=>?_)
   have hk':=List.mem_range.1 hk
   show(if k=divI (bkts n)then _ else _)=_
   unfold divI
   by_cases e:k=bkts n-pow2 (bkts n)
   ·rw[if_pos e,if_pos e]
   ·rw[if_neg e,if_neg e,if_neg (by omega)]
  ·simp only[List.map_cons,List.map_nil]
   rw[if_neg (by omega)]
   rfl
 refine⟨hd,fun hb=>?_,fun hb=>?_,?_⟩
 ·rw[hcl,hn']at hb
  rw[hdivC hb]
  exact wok_of h5 hr1l
 ·rw[hcl,hn']at hb
  have hbe:bkts (n+1)=bkts n:=by have:=bkts_mono (show n≤n+1 by omega);omega
  rw[hch]
  have:=wok_of (C:=addC l n C h) (recs:=recsT l++[(h,x)]) (n:=n+1) (by rw[hbe];exact g1) hr1l
  rw[hbe]at this
  exact this
 ·rw[hadd,if_pos hx0]
  unfold raddX
  rw[if_neg hno,hrl,if_neg (by omega),hcl,hgd,hah]
  by_cases hb:bkts n<bkts (n+1)
  ·rw[if_pos hb,hdivC hb,hfin,hx0]
   have e1:(addR l n C h x).1=((min (C (bkt h.toNat (bkts n))).length ((preR l h (C (bkt h.toNat (bkts n)))).length+1):Nat)+((addC l n C h (bkts n-pow2 (bkts n))).length:Nat):Int):=by
    unfold addR
    rw[if_neg (by simpa using hh),if_neg (by rw[hhas];simp),if_neg (by omega),if_pos hb]
   have hp:=pow2_le1 (b:=bkts n) (by omega)
   have hdi:divI (bkts n)<bkts n:=by unfold divI;omega
   rw[e1,hch]
   have:((List.range (bkts n)).map (addC l n C h)).getD (divI (bkts n)) []=addC l n C h (bkts n-pow2 (bkts n)):=by
    simp[hdi];rfl
   rw[this]
  ·have hbe:bkts (n+1)=bkts n:=by have:=bkts_mono (show n≤n+1 by omega);omega
   have e1:(addR l n C h x).1=((min (C (bkt h.toNat (bkts n))).length ((preR l h (C (bkt h.toNat (bkts n)))).length+1):Nat):Int):=by
    unfold addR
    rw[if_neg (by simpa using hh),if_neg (by rw[hhas];simp),if_neg (by omega),if_neg hb]
   have hcc:addCC l n C h l1=addC l n C h:=by unfold addCC;rw[if_neg hb]
   rw[hcc,hbe,←hch]at hfin
   rw[if_neg hb,hfin,e1,hx0]
end Go.Proofs.Ytdcomhdadnhpnaa
end
section
namespace Go.Proofs.Ytdcomhdadnhpnaa
open Go Go.Am Go.RowKit
theorem of_wds {l:List Int} (hV:ValidL l) {h x:Int}:(0≤ofF (recsT l) (chsT l) (h,x))↔x∈wds l h:=by rw[of_has hV];exact hasR_wds
theorem of_rec {l:List Int} (hV:ValidL l) {h x:Int} (h0:0≤ofF (recsT l) (chsT l) (h,x)):
  ∃r:Nat,ofF (recsT l) (chsT l) (h,x)=(r:Int)∧r<(recsT l).length∧(recsT l).getD r (0,0)=(h,x)∧r∈tabC l (bkt h.toNat (bkts (tabN l))):=by
 have g:=tab_g hV
 have hi:=bkt_lt h.toNat (b:=bkts (tabN l)) (by have:=bkts8 (tabN l);omega)
 unfold ofF at h0 ⊢
 rw[chsT_len,chsT_getD hi]at h0 ⊢
 split at h0
 ·rename_i r hf
  have h1:=List.mem_of_find?_eq_some hf
  have h2:=List.find?_some hf
  rw[decide_eq_true_iff]at h2
  exact⟨r,rfl,by rw[recsF_len];exact g.lt hi h1,h2,h1⟩
 ·omega
theorem put_of {l:List Int} (hV:ValidL l) {h x v:Int} (hh:okH h) (h0:0≤ofF (recsT l) (chsT l) (h,x)) (h1:v=x∨¬0≤ofF (recsT l) (chsT l) (h,v)) {r:Nat} (hr:ofF (recsT l) (chsT l) (h,x)=(r:Int)):
  putF l h x v=(wordsF ((recsT l).set r (h,v)) (chsT l),0)∧WOK ((recsT l).set r (h,v)) (chsT l):=by
 have g:=tab_g hV
 have hH:=tab_h hV
 have hi:=bkt_lt h.toNat (b:=bkts (tabN l)) (by have:=bkts8 (tabN l);omega)
 obtain⟨r',e1,e2,e3,e4⟩:=of_rec hV h0
 obtain rfl:r=r':=by omega
 have hrn:r<tabN l:=g.lt hi e4
 have he:=recsT_get hrn
 rw[e3]at he
 have hh1:ati l (recAt r)=h∧ati l (recAt r+1)=x:=by
  unfold elm at he
  simp only[Prod.mk.injEq]at he
  exact⟨he.1.symm,he.2.symm⟩
 have hv:v=x∨v∉wds l h:=h1.imp id (fun k=>mt (of_wds hV).2 k)
 have e:putF l h x v=(l.set (recAt r+1) v,0):=putF_eq (.inr (.inr ⟨hV,hh,tabN l,tabC l,hH,g,.inr (.inr ⟨hv.imp id (fun h1=>hasR_out.2 h1),rfl,r,e4,hh1,rfl⟩)⟩))
 have g2:=g.put hrn hh1 (v:=v) (hv.imp id (fun h1 s hs hs2=>h1 (outL_mem.2 ⟨s,(g.mem _ hi s).2 ⟨hs,by rw[hs2.1]⟩,hs2⟩)))
 have hH2:=hH.put (r:=r) v
 have hl:((recsT l).set r (h,v)).length=tabN l:=by rw[List.length_set,recsF_len]
 have hw:=wordsF_eq hH2 g2 hl (fun s hs=>by
  by_cases es:s=r
  ·subst es
   have:((recsT l).set s (h,v)).getD s (0,0)=(h,v):=by simp[e2]
   rw[this]
   unfold elm
   rw[ati_set_ne (by omega),ati_set_eq (by have:=g.rl s hs;omega),hh1.1]
  ·have:((recsT l).set r (h,v)).getD s (0,0)=(recsT l).getD s (0,0):=by simp[List.getElem?_set,Ne.symm es]
   rw[this,recsT_get hs]
   unfold elm
   have q0:ati (l.set (recAt r+1) v) (recAt s)=ati l (recAt s):=ati_set_ne (rec1_ne (s:=s) (a:=0) (by omega) (.inl es))
   rw[q0,ati_set_ne (rec1_ne (s:=s) (a:=1) (by omega) (.inl es))])
 refine⟨?_,wok_of g2 hl⟩
 rw[e]
 unfold chsT
 rw[hw]
end Go.Proofs.Ytdcomhdadnhpnaa
end
