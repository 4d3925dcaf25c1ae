import Derived.Test.YtdcomhdadnhpnaaYZT1
import Derived.Test.YtdcomhdadnhpnaaYZA3
import Derived.Test.YtdcomhdadnhpnaaYZAB
import Derived.Test.YtdcomhdadnhpnaaYZP15
import Derived.Test.YtdcomhdadnhpnaaYZB42
set_option linter.all false
section
namespace Go.Proofs.Ytdcomhdadnhpnaa
open Go Go.Am Go.RowKit
section
variable {ρ:Inj} {H H':AHp} {w w':World}
theorem elsA_map (l:List Int) (rs:List Nat):(elsA (rs.map (elm l))).length=rs.length*2∧∀ {ρ:Inj} {O:Nat→Prop} {w:World} (i:Nat) (a:AV) (x:Value),(elsA (rs.map (elm l)))[i]? =some a→(cellsE l rs)[i]? =some x→Rep ρ O w a x:=by
 refine⟨by rw[elsA_len,List.length_map],?_⟩
 intro ρ O w
 induction rs with
 |nil=>intro i a x h;simp[elsA]at h
 |cons r rs ih=>
  intro i a x ha hx
  rw[List.map_cons,elsA_cons]at ha
  simp only[cellsE,List.flatMap_cons,List.cons_append,List.nil_append]at hx
  match i with
  |0=>simp at ha hx;subst ha;subst hx;exact .sc _
  |1=>simp at ha hx;subst ha;subst hx;exact .sc _
  |i+2=>exact ih i a x (by simpa using ha) (by simpa[cellsE]using hx)
theorem rep_own2 {O:Nat→Prop} {base:Nat} {v:Value} {l:List Int} {rs:List Nat} (h:w.ownsRow base 43 2 v rs.length (cellsE l rs)) (hno:∀b,O b→b<base):Rep ρ O w (.dsl rs.length (elsA (rs.map (elm l)))) v:=by
 have hcs:=fun g hg=>h.cells (g:=g) hg
 rcases h.2 with⟨rfl,h0⟩ |⟨g,c,cur,rfl,hb,hg,hle,_⟩
 ·obtain rfl:rs=[]:=List.length_eq_zero_iff.1 h0
  exact .dnil (Nat.le_refl _)
 ·refine .dsl hle (fun h=>by have:=hno g h;omega) (lt_heap hg) (by rw[(elsA_map l rs).1,cellsE_len]) (fun i x hx=>?_) (elsA_map l rs).2
  have:=hcs g rfl i x hx
  rwa[addr_add]at this
end
open Classical in
noncomputable def c28:List AV→AP AV
 | [a]=>rdK a fun l=>if ValidL l then .ret (.tup [.dsl (ordF l).length (elsA (ordF l)),.sc (.int .i64 0)])else .ret (.tup [.dsl 0 [],.sc (.int .i64 600)])
 |_=>.fail
theorem a28 (args:List AV):ACall Try.prog 28 args (c28 args):=by
 intro ρ H w vs hR hA s r H' s' hm
 unfold c28 at hm
 split at hm
 ·obtain⟨v0,rfl,hv0⟩:=reps1 hA
  obtain⟨l,A,c,rfl,hr,_,hm⟩:=rdK_ok hR hv0 hm
  refine(elemsX_any A c l w hr).mono ?_
  rintro e w' ⟨(⟨h1,rfl⟩ |⟨h1,n,C,v,hH,g,rfl,ho⟩),hb⟩
  ·rw[if_neg h1]at hm
   simp only[AP.run,Option.some.injEq,Prod.mk.injEq]at hm
   obtain⟨rfl,rfl,rfl⟩:=hm
   exact⟨_,ρ,rfl,step_of_below hR hb,Rep.tup_iff.2 ⟨_,rfl,.cons (.dnil (Nat.le_refl _)) (.cons (.sc _) .nil)⟩⟩
  ·rw[if_pos h1]at hm
   simp only[AP.run,Option.some.injEq,Prod.mk.injEq]at hm
   obtain⟨rfl,rfl,rfl⟩:=hm
   refine⟨_,ρ,rfl,step_of_below hR hb,Rep.tup_iff.2 ⟨_,rfl,.cons ?_ (.cons (.sc _) .nil)⟩⟩
   have e:ordF l=(recsL C (bkts n)).map (elm l):=by
    have:∀k,k≤bkts n→recsL (tabC l) k=recsL C k:=fun k=>by
     induction k with
     |zero=>intro _;rfl
     |succ k ih=>intro hk;rw[recsL,recsL,ih (by omega),tab_c hH g (by omega)]
    unfold ordF
    rw[tab_n hH,this _ (Nat.le_refl _)]
   rw[e]
   have:=rep_own2 (ρ:=ρ) (O:=own ρ H) ho (fun b hb=>hR.own_lt hb)
   rwa[show(recsL C (bkts n)).length=((recsL C (bkts n)).map (elm l)).length from by rw[List.length_map]]at this
 ·simp[AP.run]at hm
end Go.Proofs.Ytdcomhdadnhpnaa
end
section
section
namespace Go.Proofs.Ytdcomhdadnhpnaa
open Go Go.Am Go.RowKit
open Classical in
/-- the words of elements,changed -/
noncomputable def chgL (l:List Int) (n:Nat) (w:Nat→Int):List Int:=(List.range l.length).map fun q=>if h:∃r,r<n∧q=recAt r+1 then w h.choose else ati l q
theorem chgL_len (l:List Int) (n:Nat) (w:Nat→Int):(chgL l n w).length=l.length:=by simp[chgL]
theorem chgL_at {l:List Int} {n:Nat} {w:Nat→Int} {r:Nat} (hr:r<n) (hl:recAt r+1<l.length):ati (chgL l n w) (recAt r+1)=w r:=by
 have h:∃s,s<n∧recAt r+1=recAt s+1:=⟨r,hr,rfl⟩
 unfold ati chgL
 rw[List.getD_eq_getElem?_getD,List.getElem?_map,List.getElem?_range hl]
 simp only[Option.map_some,Option.getD_some]
 rw[dif_pos h]
 have e:=h.choose_spec.2
 have:h.choose=r:=(recAt_inj (a:=1) (b:=1) e.symm (by omega) (by omega)).1
 rw[this]
theorem chgL_ne {l:List Int} {n:Nat} {w:Nat→Int} {q:Nat} (hq:∀r,r<n→q≠recAt r+1):ati (chgL l n w) q=ati l q:=by
 by_cases hl:q<l.length
 ·have h:¬ ∃r,r<n∧q=recAt r+1:=fun⟨r,h1,h2⟩=>hq r h1 h2
  have e:ati (chgL l n w) q=(if h:∃r,r<n∧q=recAt r+1 then w h.choose else ati l q):=by
   conv=>lhs;unfold ati chgL
   rw[List.getD_eq_getElem?_getD,List.getElem?_map,List.getElem?_range hl]
   rfl
  rw[e,dif_neg h]
 ·have h1:ati (chgL l n w) q=0:=by unfold ati;rw[List.getD_eq_getElem?_getD,List.getElem?_eq_none (by rw[chgL_len];omega)];rfl
  have h2:ati l q=0:=by unfold ati;rw[List.getD_eq_getElem?_getD,List.getElem?_eq_none (by omega)];rfl
  rw[h1,h2]
theorem G.chg {l:List Int} {n b:Nat} {C:Nat→List Nat} (g:G l n b C) (w:Nat→Int) (hd:∀r,r<n→∀s,s<n→ati l (recAt r)=ati l (recAt s)→w r=w s→r=s):G (chgL l n w) n b C:=by
 have h0:∀r,ati (chgL l n w) (recAt r)=ati l (recAt r):=fun r=>chgL_ne (fun s _ e=>by
  have:=(recAt_inj (a:=0) (b:=1) e (by omega) (by omega)).2;omega)
 have h2:∀r,ati (chgL l n w) (recAt r+2)=ati l (recAt r+2):=fun r=>chgL_ne (fun s _ e=>by
  have:=(recAt_inj (a:=2) (b:=1) e (by omega) (by omega)).2;omega)
 have hh:∀i,ati (chgL l n w) (headAt i)=ati l (headAt i):=fun i=>chgL_ne (fun s _ e=>head_rec (a:=1) e (by omega))
 have h1:∀r,r<n→ati (chgL l n w) (recAt r+1)=w r:=fun r hr=>chgL_at hr (by have:=g.rl r hr;omega)
 refine⟨g.n1,fun r hr=>by rw[chgL_len];exact g.rl r hr,g.b8,fun i hi=>by rw[chgL_len];exact g.hl i hi,fun r hr=>by rw[h0];exact g.hash r hr,fun i hi=>?_,g.nd,fun i hi r=>by rw[h0];exact g.mem i hi r,fun i hi=>?_,fun r hr s hs e1 e2=>?_,fun i hi=>by rw[hh];exact g.zh i hi,fun r hr a ha=>?_⟩
 ·refine(g.chn i hi).frame (fun q hq=>?_)
  rcases hq with rfl |⟨r,hr,rfl⟩
  ·exact⟨by rw[chgL_len];exact g.hl i hi,hh i⟩
  ·exact⟨by rw[chgL_len];exact g.rl r (g.lt hi hr),h2 r⟩
 ·exact(g.srt i hi).imp (fun h=>by rw[h0,h0];exact h)
 ·rw[h0,h0]at e1
  rw[h1 r hr,h1 s hs]at e2
  exact hd r hr s hs e1 e2
 ·rw[chgL_ne (fun s hs e=>by
   have:=(recAt_inj (a:=a) (b:=1) e (by omega) (by omega)).1;omega)]
  exact g.zr r hr a ha
theorem HeadOk.chg {l:List Int} {n:Nat} (h:HeadOk l n) (w:Nat→Int):HeadOk (chgL l n w) n:=by
 have hne:∀q,q<4→ati (chgL l n w) q=ati l q:=fun q hq=>chgL_ne (fun s _ e=>by have:=recAt_ge s;omega)
 exact⟨by rw[hne _ (by omega)];exact h.n0,h.n1,by rw[chgL_len];exact h.len,by rw[hne _ (by omega)];exact h.b1,by rw[hne _ (by omega)];exact h.b2,by rw[hne _ (by omega)];exact h.b3⟩
theorem pair_eq {α:Type} {c:List Nat} {f:Nat→α} (h:(c.map f).Pairwise (fun x y=>x≠y)) {r s:Nat} (hr:r∈c) (hs:s∈c) (e:f r=f s):r=s:=by
 induction c with
 |nil=>cases hr
 |cons a c ih=>
  have h2:=List.pairwise_cons.1 h
  rcases List.mem_cons.1 hr with q1 |q1<;>rcases List.mem_cons.1 hs with q2 |q2
  ·rw[q1,q2]
  ·subst q1;exact absurd e (h2.1 _ (List.mem_map.2 ⟨s,q2,rfl⟩))
  ·subst q2;exact absurd e.symm (h2.1 _ (List.mem_map.2 ⟨r,q1,rfl⟩))
  ·exact ih h2.2 q1 q2
theorem move_valid {l:List Int} (hV:ValidL l) (mv:List (Int×Int)) (h:∀i,i<(chsT l).length→srtF i (chsT l).length none [] (elsOfC ((recsT l).map (mvE mv)) ((chsT l).getD i []))=true):
  ValidL (wordsF ((recsT l).map (mvE mv)) (chsT l)):=by
 have g:=tab_g hV
 have hH:=tab_h hV
 have hb8:=bkts8 (tabN l)
 have hrl:(recsT l).length=tabN l:=recsF_len l _
 have hrg:∀r,r<tabN l→((recsT l).map (mvE mv)).getD r (0,0)=mvE mv (elm l r):=fun r hr=>by
  have h1:r<((recsT l).map (mvE mv)).length:=by rw[List.length_map,hrl];exact hr
  have h2:r<(recsT l).length:=by omega
  have e:(recsT l)[r]=elm l r:=by
   have:=recsT_get hr
   rw[←this];simp[h2]
  rw[List.getD_eq_getElem?_getD,List.getElem?_map,List.getElem?_eq_getElem h2,e];rfl
 have hd:∀r,r<tabN l→∀s,s<tabN l→ati l (recAt r)=ati l (recAt s)→(mvE mv (elm l r)).2=(mvE mv (elm l s)).2→r=s:=fun r hr s hs e1 e2=>by
  have hi:=bkt_lt (ati l (recAt r)).toNat (b:=bkts (tabN l)) (by omega)
  have m1:=(g.mem _ hi r).2 ⟨hr,rfl⟩
  have m2:=(g.mem _ hi s).2 ⟨hs,by rw[e1]⟩
  have hs1:=h _ (by rw[chsT_len];exact hi)
  rw[chsT_getD hi]at hs1
  have hp:=(srtF_to hs1).2.1
  refine pair_eq (f:=fun r=>((recsT l).map (mvE mv)).getD r (0,0)) (hp.imp (fun h=>h.2)) m1 m2 ?_
  show((recsT l).map (mvE mv)).getD r (0,0)=((recsT l).map (mvE mv)).getD s (0,0)
  rw[hrg r hr,hrg s hs]
  exact Prod.ext e1 e2
 have g2:=g.chg (fun r=>(mvE mv (elm l r)).2) hd
 have hH2:=hH.chg (fun r=>(mvE mv (elm l r)).2)
 have hw:=wordsF_eq hH2 g2 (recs:=(recsT l).map (mvE mv)) (by rw[List.length_map,hrl]) (fun r hr=>by
  rw[hrg r hr]
  refine Prod.ext ?_ ?_
  ·show(elm l r).1=ati (chgL _ _ _) (recAt r)
   rw[chgL_ne (fun s _ e=>by have:=(recAt_inj (a:=0) (b:=1) e (by omega) (by omega)).2;omega)];rfl
  ·show _=ati (chgL _ _ _) (recAt r+1)
   rw[chgL_at hr (by have:=g.rl r hr;omega)])
 have e:chsT l=(List.range (bkts (tabN l))).map (tabC l):=rfl
 rw[e,hw]
 exact g_validL hH2 g2
theorem empty_v:ValidL emptyL:=by
 have h:=wordsF_eq freshL_head freshL_g (recs:=emptyR) rfl (fun r hr=>absurd hr (by omega))
 have e:emptyL=freshL:=by
  rw[←h];rfl
 rw[e];exact fresh_v
theorem stepF_valid {l:List Int} (o:OpT) (hV:ValidL l):ValidL (stepF l o):=by
 unfold stepF
 split
 ·rename_i h0
  unfold stepE at h0 ⊢
  split at h0
  ·rename_i k0
   rw[if_pos k0]
   by_cases hn:tabN l<100000
   ·obtain⟨h1,h2⟩:=addF_zero hV hn h0
    exact(addF_new hV h1 h2 hn).2.1
   ·exfalso
    by_cases hh:okH o.h
    ·have h0:(addF l o.h o.w).2.2=0:=h0
     rw[addF_ok hV hh]at h0
     unfold addR at h0
     rw[if_neg (by simpa[okH]using hh)]at h0
     split at h0
     ·simp at h0
     ·have:=(tab_g hV).n1
      rw[if_pos (by omega)]at h0;simp at h0
    ·have h0:(addF l o.h o.w).2.2=0:=h0
     rw[addF_bad hV hh]at h0;simp at h0
  ·rename_i k0
   rw[if_neg k0]
   split at h0
   ·rename_i k1
    rw[if_pos k1]
    by_cases hh:okH (chosenF l o.w).1
    ·by_cases hx:(chosenF l o.w).2∈wds l (chosenF l o.w).1
     ·exact(dropF_has hV hh hx).2.1
     ·have h0:(dropF l (chosenF l o.w).1 (chosenF l o.w).2).2.2=0:=h0
      rw[dropF_none hV hh hx]at h0;simp at h0
    ·have h0:(dropF l (chosenF l o.w).1 (chosenF l o.w).2).2.2=0:=h0
     rw[dropF_bad hV hh]at h0;simp at h0
   ·rename_i k1
    rw[if_neg k1]
    split at h0
    ·rename_i k2
     rw[if_pos k2]
     have h0:(putF l (chosenF l o.w).1 (chosenF l o.w).2 o.v).2=0:=h0
     by_cases hh:okH (chosenF l o.w).1
     ·by_cases hx:(chosenF l o.w).2∈wds l (chosenF l o.w).1
      ·by_cases hv:o.v=(chosenF l o.w).2∨o.v∉wds l (chosenF l o.w).1
       ·exact(putF_ok hV hh hx hv).2.1
       ·have hv1:o.v≠(chosenF l o.w).2:=fun e=>hv (.inl e)
        have hv2:o.v∈wds l (chosenF l o.w).1:=Classical.byContradiction fun k=>hv (.inr k)
        rw[putF_twice hV hh hx hv1 hv2]at h0;simp at h0
      ·rw[putF_none hV hh hx]at h0;simp at h0
     ·rw[putF_bad hV hh]at h0;simp at h0
    ·rename_i k2
     rw[if_neg k2]
     split at h0
     ·rename_i k3
      rw[if_pos k3]
      have h0:(rmoveF l [(o.w,o.v)]).2=0:=h0
      show ValidL (rmoveF l [(o.w,o.v)]).1
      unfold rmoveF at h0 ⊢
      rw[if_neg (by simpa using hV)]at h0 ⊢
      unfold rmoveX at h0 ⊢
      split at h0
      ·simp at h0
      ·rename_i ha
       rw[if_neg ha]
       split at h0
       ·rename_i hs
        rw[if_pos hs]
        exact move_valid hV _ hs
       ·simp at h0
     ·simp at h0
 ·exact hV
theorem foldl_valid {β:Type} {f:List Int→β→List Int} (hf:∀t b,ValidL t→ValidL (f t b)):∀(l:List β) (t:List Int),ValidL t→ValidL (l.foldl f t)
 | [],t,h=>h
 |b::l,t,h=>foldl_valid hf l (f t b) (hf t b h)
theorem madeF_valid (L:List (Int×Int)) (ops:List OpT):ValidL (madeF L ops):=
 foldl_valid (fun t o h=>stepF_valid o h) ops _ (foldl_valid (fun t e h=>stepF_valid _ h) L _ empty_v)
end Go.Proofs.Ytdcomhdadnhpnaa
end
section
namespace Go.Proofs.Ytdcomhdadnhpnaa
open Go Go.Am Go.RowKit
section
variable {l:List Int}
theorem ordF_flat (l:List Int):ordF l=(chsT l).flatten.map (elm l):=by
 have e:chsT l=(List.range (bkts (tabN l))).map (tabC l):=rfl
 unfold ordF
 rw[e,recsL_flat]
end
end Go.Proofs.Ytdcomhdadnhpnaa
end
end
