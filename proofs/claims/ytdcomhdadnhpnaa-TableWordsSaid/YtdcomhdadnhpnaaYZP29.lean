import Derived.Test.YtdcomhdadnhpnaaYZP26
set_option linter.all false
namespace Go.Proofs.Ytdcomhdadnhpnaa
theorem outL_no {l:List Int} {h:Int} {rs:List Nat} (hn:∀r∈rs,ati l (recAt r)≠h):outL l h rs=[]:=by
 unfold outL
 rw[List.map_eq_nil_iff,List.filter_eq_nil_iff]
 exact fun r hr e=>hn r hr (of_decide_eq_true e)
theorem chain_ext {a b:List Int} (hA:ValidL a) (hB:ValidL b) (hn:tabN a=tabN b) (he:∀r,r<tabN a→elm a r=elm b r) (hw:∀h,wds a h=wds b h) {i:Nat} (hi:i<bkts (tabN a)):tabC a i=tabC b i:=by
 have g:=tab_g hA
 have g':=tab_g hB
 have hi':i<bkts (tabN b):=by rw[←hn];exact hi
 have hm:(tabC a i).map (elm a)=(tabC b i).map (elm b):=by
  refine srt_ext (List.pairwise_map.2 (g.srt i hi)) (List.pairwise_map.2 (g'.srt i hi')) fun h=>?_
  rw[outL_pairs,outL_pairs]
  by_cases e:bkt h.toNat (bkts (tabN a))=i
  ·have e1:outL a h (tabC a i)=wds a h:=by unfold wds;rw[e]
   have e2:outL b h (tabC b i)=wds b h:=by unfold wds;rw[←hn,e]
   rw[e1,e2,hw]
  ·rw[outL_no (fun r hr c=>e (by rw[←c];exact((g.mem i hi r).1 hr).2)),outL_no (fun r hr c=>e (by rw[hn,←c];exact((g'.mem i hi' r).1 hr).2))]
 have hl:(tabC a i).length=(tabC b i).length:=by have:=congrArg List.length hm;simpa using this
 refine List.ext_getElem hl fun k h1 h2=>?_
 have hk:elm a (tabC a i)[k]=elm b (tabC b i)[k]:=by
  have:=congrArg (fun L=>L[k]?) hm
  simpa[h1,h2]using this
 have r1:=g.lt hi (List.getElem_mem h1)
 have r2:=g'.lt hi' (List.getElem_mem h2)
 rw[←he _ (by omega)]at hk
 simp only[elm,Prod.mk.injEq]at hk
 exact g.dif _ r1 _ (by omega) hk.1 hk.2
theorem words_back {l:List Int} (hV:ValidL l):wordsF (recsT l) (chsT l)=l:=
 wordsF_eq (tab_h hV) (tab_g hV) (recsF_len l _) (fun r hr=>recsT_get hr)
theorem tab_ext {a b:List Int} (hA:ValidL a) (hB:ValidL b) (hn:tabN a=tabN b) (he:∀r,r<tabN a→elm a r=elm b r) (hw:∀h,wds a h=wds b h):a=b:=by
 have hra:(recsT a).length=tabN a:=recsF_len a _
 have hrb:(recsT b).length=tabN b:=recsF_len b _
 have hr:recsT a=recsT b:=List.ext_getElem (by omega) fun k h1 h2=>by rw[recsT_at h1,recsT_at h2];exact he k (by omega)
 have hc:chsT a=chsT b:=by
  unfold chsT
  rw[←hn]
  exact List.map_congr_left fun i hi=>chain_ext hA hB hn he hw (List.mem_range.1 hi)
 rw[←words_back hA,←words_back hB,hr,hc]
/-- what Add makes of a table -/
theorem addF_made {l:List Int} {h x:Int} (hV:ValidL l) (h0:(addF l h x).2.2=0):
  okH h∧x∉wds l h∧tabN l<100000∧ValidL (addF l h x).2.1∧tabN (addF l h x).2.1=tabN l+1∧(∀h',wds (addF l h x).2.1 h'=wds l h'++(if h'=h then [x]else []))∧
   (∀r,r<tabN l→elm (addF l h x).2.1 r=elm l r)∧elm (addF l h x).2.1 (tabN l)=(h,x):=by
 obtain⟨q1,q2⟩:=addF_tab (h:=h) (x:=x) hV
 rw[h0]at q1
 obtain⟨hh,_,hn,_,_,hel⟩:=(tab_g hV).add (tab_h hV) q1.symm
 obtain⟨_,hx⟩:=addF_zero hV hn h0
 obtain⟨_,h2,h3,h4⟩:=addF_new hV hh hx hn
 rw[←q2 q1.symm]at hel
 refine⟨hh,hx,hn,h2,h3,h4,fun r hr=>?_,?_⟩
 ·have e0:=hel r (by omega) 0 (by omega)
  have e1:=hel r (by omega) 1 (by omega)
  rw[if_neg (by omega)]at e0 e1
  simp only[elm,Nat.add_zero]at e0 ⊢
  rw[e0,e1]
 ·have e0:=hel (tabN l) (by omega) 0 (by omega)
  have e1:=hel (tabN l) (by omega) 1 (by omega)
  rw[if_pos rfl,if_pos rfl]at e0
  rw[if_pos rfl,if_neg (by omega)]at e1
  simp only[elm,Nat.add_zero]at e0 ⊢
  rw[e0,e1]
theorem drop_back {l:List Int} {h x:Int} (hV:ValidL l) (h0:(addF l h x).2.2=0):∃k,dropF (addF l h x).2.1 h x=(k,l,0):=by
 obtain⟨hh,hx,hn,hVa,hna,hwa,hea,hen⟩:=addF_made hV h0
 generalize (addF l h x).2.1=a at*
 have hxa:x∈wds a h:=by rw[hwa,if_pos rfl];simp
 obtain⟨d1,d2,d3,d4⟩:=dropF_has hVa hh hxa
 obtain⟨k,l',C',hD,e⟩:=dropF_ok hVa hh (hasR_wds.2 hxa)
 obtain⟨r,hr,hit,hel⟩:=(tab_g hVa).drop_el (tab_h hVa) hD
 rw[e]at d1 d2 d3 d4
 dsimp only at d1 d2 d3 d4
 rw[hna]at hr hel d3
 have hrn:r=tabN l:=by
  refine(tab_g hVa).dif r (by omega) (tabN l) (by omega) ?_ ?_
  ·simp only[elm,Prod.mk.injEq]at hen
   rw[hen.1];exact hit.1
  ·simp only[elm,Prod.mk.injEq]at hen
   rw[hen.2];exact hit.2
 refine⟨k,?_⟩
 rw[e]
 have:l'=l:=by
  refine tab_ext d2 hV (by omega) (fun s hs=>?_) (fun h'=>?_)
  ·rw[←hea s (by omega)]
   have e0:=hel s (by omega) 0 (by omega)
   have e1:=hel s (by omega) 1 (by omega)
   rw[if_neg (by omega)]at e0 e1
   simp only[elm,Nat.add_zero]at e0 ⊢
   rw[e0,e1]
  ·rw[d4]
   by_cases e:h'=h
   ·subst e
    rw[if_pos rfl,hwa,if_pos rfl,List.erase_append_right _ hx]
    simp
   ·rw[if_neg e,hwa,if_neg e,List.append_nil]
 rw[this]
theorem chosen_back {l:List Int} (hV:ValidL l) {e:Int×Int} (he:e∈recsT l):
  ∃k c,dropF l e.1 e.2=(k,c,0)∧c.length≤1000000000∧(addF c e.1 e.2).2.2=0∧sameF (addF c e.1 e.2).2.1 l=(true,0)∧sameF c l=(false,0):=by
 obtain⟨h,x⟩:=e
 have hx:=(mem_wds hV).1 he
 obtain⟨r,hr,hre⟩:=List.mem_iff_getElem.1 he
 have hrl:(recsT l).length=tabN l:=recsF_len l _
 have hh:okH h:=by
  have:=(tab_g hV).hash r (by omega)
  rw[recsT_at hr]at hre
  simp only[elm,Prod.mk.injEq]at hre
  rw[hre.1]at this
  exact this
 obtain⟨d1,d2,d3,d4⟩:=dropF_has hV hh hx
 obtain⟨⟨k,c,f⟩,hd⟩:∃D,dropF l h x=D:=⟨_,rfl⟩
 rw[hd]at d1 d2 d3 d4
 dsimp only at d1 d2 d3 d4
 subst d1
 have hnd:=wds_nodup hV h
 have hxc:x∉wds c h:=by rw[d4,if_pos rfl];exact fun hm=>(List.Nodup.mem_erase_iff hnd).1 hm |>.1 rfl
 have hn1:=(tab_g hV).n1
 obtain⟨a1,a2,a3,a4⟩:=addF_new d2 hh hxc (by omega)
 have hcl:(recsT c).length=tabN c:=recsF_len c _
 have hal:(recsT (addF c h x).2.1).length=tabN (addF c h x).2.1:=recsF_len _ _
 dsimp only
 refine⟨k,c,hd,Nat.le_trans d2.le (by decide),a1,sameF_yes a2 hV ⟨by omega,fun e he=>?_⟩,sameF_no d2 hV fun h=>by omega⟩
 obtain⟨h',y⟩:=e
 have hy:=(mem_wds hV).1 he
 refine(mem_wds a2).2 ?_
 show y∈wds (addF c h x).2.1 h'
 rw[a4,d4]
 by_cases e:h'=h
 ·subst e
  rw[if_pos rfl,if_pos rfl,List.mem_append]
  by_cases e2:y=x
  ·exact .inr (by simp[e2])
  ·exact .inl ((List.mem_erase_of_ne e2).2 hy)
 ·rw[if_neg e,if_neg e,List.append_nil];exact hy
end Go.Proofs.Ytdcomhdadnhpnaa
