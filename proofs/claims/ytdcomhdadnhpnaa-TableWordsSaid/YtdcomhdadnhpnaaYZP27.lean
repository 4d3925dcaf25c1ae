import Derived.Test.YtdcomhdadnhpnaaYZP5
import Derived.Test.YtdcomhdadnhpnaaYZP26
set_option linter.all false
namespace Go.Proofs.Ytdcomhdadnhpnaa
theorem extA {a b:List Int} (hl:a.length=b.length) (h:∀q,ati a q=ati b q):a=b:=
 List.ext_getElem hl fun i h1 h2=>by
  have:=h i
  unfold ati at this
  rwa[List.getD_eq_getElem?_getD,List.getD_eq_getElem?_getD,List.getElem?_eq_getElem h1,List.getElem?_eq_getElem h2,Option.getD_some,Option.getD_some]at this
theorem chgL_zero (l:List Int) (w:Nat→Int):chgL l 0 w=l:=extA (chgL_len _ _ _) fun q=>chgL_ne (fun r hr=>absurd hr (by omega))
theorem chgL_other {l:List Int} {n:Nat} {w:Nat→Int} {r:Nat} (h:n≤r):ati (chgL l n w) (recAt r+1)=ati l (recAt r+1):=
 chgL_ne fun s hs e=>by have:=(recAt_inj (a:=1) (b:=1) e (by omega) (by omega)).1;omega
theorem chgL_same {l:List Int} {n:Nat} {w:Nat→Int} {q:Nat} (h:∀r,q≠recAt r+1):ati (chgL l n w) q=ati l q:=chgL_ne fun s _=>h s
theorem chgL_hash {l:List Int} {n:Nat} {w:Nat→Int} (r:Nat):ati (chgL l n w) (recAt r)=ati l (recAt r):=
 chgL_same fun s e=>by have:=(recAt_inj (a:=0) (b:=1) e (by omega) (by omega)).2;omega
theorem chgL_succ {l:List Int} {k:Nat} {w:Nat→Int} (h:∀r,r≤k→recAt r+1<l.length):(chgL l k w).set (recAt k+1) (w k)=chgL l (k+1) w:=by
 refine extA (by rw[List.length_set,chgL_len,chgL_len]) fun q=>?_
 rw[ati_set,chgL_len]
 by_cases e:∃r,r<k+1∧q=recAt r+1
 ·obtain⟨r,hr,rfl⟩:=e
  rw[chgL_at hr (h r (by omega))]
  by_cases e2:r=k
  ·subst e2;rw[if_pos ⟨rfl,h r (by omega)⟩]
  ·rw[if_neg (fun c=>e2 (recAt_inj (a:=1) (b:=1) c.1 (by omega) (by omega)).1.symm),chgL_at (by omega) (h r (by omega))]
 ·have e1:∀r,r<k+1→q≠recAt r+1:=fun r hr hq=>e ⟨r,hr,hq⟩
  rw[if_neg (fun c=>e1 k (by omega) c.1.symm),chgL_ne e1,chgL_ne (fun r hr=>e1 r (by omega))]
/-- the words of moved elements -/
def mvW (mv:List (Int×Int)) (l:List Int) (r:Nat):Int:=(mget mv (ati l (recAt r+1))).getD (ati l (recAt r+1))
theorem mvE_elm (mv:List (Int×Int)) (l:List Int) (r:Nat):mvE mv (elm l r)=(ati l (recAt r),mvW mv l r):=rfl
theorem moved_get {l:List Int} (mv:List (Int×Int)) {r:Nat} (hr:r<tabN l):((recsT l).map (mvE mv)).getD r (0,0)=mvE mv (elm l r):=by
 have hrl:(recsT l).length=tabN l:=recsF_len l _
 have h2:r<(recsT l).length:=by omega
 rw[List.getD_eq_getElem?_getD,List.getElem?_map,List.getElem?_eq_getElem h2,recsT_at h2];rfl
theorem move_srt {l:List Int} (hV:ValidL l) (mv:List (Int×Int)) (hnd:((recsT l).map (mvE mv)).Nodup):
  ∀i,i<(chsT l).length→srtF i (chsT l).length none [] (elsOfC ((recsT l).map (mvE mv)) ((chsT l).getD i []))=true:=by
 intro i hi
 have g:=tab_g hV
 have hrl:(recsT l).length=tabN l:=recsF_len l _
 rw[chsT_len]at hi ⊢
 rw[chsT_getD hi]
 have hget:∀r∈tabC l i,((recsT l).map (mvE mv)).getD r (0,0)=mvE mv (elm l r):=fun r hr=>moved_get mv (g.lt hi hr)
 unfold elsOfC
 refine srtF_of (fun e he=>?_) (List.pairwise_map.2 ((g.srt i hi).imp_of_mem (fun {r s} hr hs h=>by rw[hget r hr,hget s hs];exact h))) ?_ (by simp)
 ·obtain⟨r,hr,rfl⟩:=List.mem_map.1 he
  rw[hget r hr]
  exact⟨g.hash r (g.lt hi hr),((g.mem i hi r).1 hr).2⟩
 ·refine List.pairwise_map.2 ((g.nd i hi).imp_of_mem (fun {r s} hr hs hne e=>?_))
  have hr':r<((recsT l).map (mvE mv)).length:=by rw[List.length_map,hrl];exact g.lt hi hr
  have hs':s<((recsT l).map (mvE mv)).length:=by rw[List.length_map,hrl];exact g.lt hi hs
  rw[List.getD_eq_getElem?_getD,List.getD_eq_getElem?_getD,List.getElem?_eq_getElem hr',List.getElem?_eq_getElem hs',Option.getD_some,Option.getD_some]at e
  unfold List.Nodup at hnd
  rw[List.pairwise_iff_getElem]at hnd
  rcases Nat.lt_or_gt_of_ne hne with h |h
  ·exact hnd r s hr' hs' h e
  ·exact hnd s r hs' hr' h e.symm
theorem move_eq {l:List Int} (hV:ValidL l) (mv:List (Int×Int)) (hnd:((recsT l).map (mvE mv)).Nodup):wordsF ((recsT l).map (mvE mv)) (chsT l)=chgL l (tabN l) (mvW mv l):=by
 have g:=tab_g hV
 have hrl:(recsT l).length=tabN l:=recsF_len l _
 have hd:∀r,r<tabN l→∀s,s<tabN l→ati l (recAt r)=ati l (recAt s)→mvW mv l r=mvW mv l s→r=s:=fun r hr s hs e1 e2=>by
  have hr':r<((recsT l).map (mvE mv)).length:=by rw[List.length_map,hrl];exact hr
  have hs':s<((recsT l).map (mvE mv)).length:=by rw[List.length_map,hrl];exact hs
  have e:((recsT l).map (mvE mv))[r]=((recsT l).map (mvE mv))[s]:=by
   rw[List.getElem_map,List.getElem_map,recsT_at (by omega),recsT_at (by omega),mvE_elm,mvE_elm,e1,e2]
  unfold List.Nodup at hnd
  rw[List.pairwise_iff_getElem]at hnd
  refine Classical.byContradiction fun hne=>?_
  rcases Nat.lt_or_gt_of_ne hne with h |h
  ·exact hnd r s hr' hs' h e
  ·exact hnd s r hs' hr' h e.symm
 have g2:=g.chg (mvW mv l) hd
 have hH2:=(tab_h hV).chg (mvW mv l)
 exact wordsF_eq hH2 g2 (recs:=(recsT l).map (mvE mv)) (by rw[List.length_map,hrl]) (fun r hr=>by
  rw[moved_get mv hr,mvE_elm]
  refine Prod.ext ?_ ?_
  ·exact(chgL_hash r).symm
  ·exact(chgL_at (l:=l) (w:=mvW mv l) hr (by have:=g.rl r hr;omega)).symm)
theorem move_dup {l:List Int} (hV:ValidL l) (mv:List (Int×Int)) {k:Nat} (hk:k<(recsT l).length) (hd:mvE mv (elm l k)∈((recsT l).take k).map (mvE mv)):
  ¬ ∀i,i<(chsT l).length→srtF i (chsT l).length none [] (elsOfC ((recsT l).map (mvE mv)) ((chsT l).getD i []))=true:=fun h=>by
 have g:=tab_g hV
 have hb8:=bkts8 (tabN l)
 have hrl:(recsT l).length=tabN l:=recsF_len l _
 obtain⟨e,he,e2⟩:=List.mem_map.1 hd
 obtain⟨j,hj,rfl⟩:=List.mem_iff_getElem.1 he
 rw[List.length_take]at hj
 rw[List.getElem_take,recsT_at (by omega)]at e2
 have e1:ati l (recAt j)=ati l (recAt k):=congrArg Prod.fst e2
 have hi:=bkt_lt (ati l (recAt j)).toNat (b:=bkts (tabN l)) (by omega)
 have m1:=(g.mem _ hi j).2 ⟨by omega,rfl⟩
 have m2:=(g.mem _ hi k).2 ⟨by omega,by rw[e1]⟩
 have hs1:=h _ (by rw[chsT_len];exact hi)
 rw[chsT_getD hi]at hs1
 have hp:=(srtF_to hs1).2.1
 have:=pair_eq (f:=fun r=>((recsT l).map (mvE mv)).getD r (0,0)) (hp.imp (fun h=>h.2)) m1 m2 (by
  show((recsT l).map (mvE mv)).getD j (0,0)=((recsT l).map (mvE mv)).getD k (0,0)
  rw[moved_get mv (by omega),moved_get mv (by omega)];exact e2)
 omega
theorem rmoveF_bad {l:List Int} {mv:List (Int×Int)} (h:¬ValidL l):rmoveF l mv=([],600):=if_pos h
theorem rmoveF_arg {l:List Int} {mv:List (Int×Int)} (hV:ValidL l) (h:¬ascK mv mv.length):rmoveF l mv=([],1):=by unfold rmoveF rmoveX;rw[if_neg (by simpa using hV),if_pos h]
theorem rmoveF_twice {l:List Int} {mv:List (Int×Int)} (hV:ValidL l) (h:ascK mv mv.length) {k:Nat} (hk:k<(recsT l).length) (hd:mvE mv (elm l k)∈((recsT l).take k).map (mvE mv)):rmoveF l mv=([],6):=by
 unfold rmoveF rmoveX;rw[if_neg (by simpa using hV),if_neg (by simpa using h),if_neg (move_dup hV mv hk hd)]
theorem rmoveF_ok {l:List Int} {mv:List (Int×Int)} (hV:ValidL l) (h:ascK mv mv.length) (hnd:((recsT l).map (mvE mv)).Nodup):rmoveF l mv=(chgL l (tabN l) (mvW mv l),0):=by
 unfold rmoveF rmoveX;rw[if_neg (by simpa using hV),if_neg (by simpa using h),if_pos (move_srt hV mv hnd),move_eq hV mv hnd]
end Go.Proofs.Ytdcomhdadnhpnaa
