import Derived.Test.YtdcomhdadnhpnaaYAB
import Derived.Test.YtdcomhdadnhpnaaYP15
import Derived.Test.YtdcomhdadnhpnaaYB38
set_option linter.all false
section
namespace Go.Proofs.Ytdcomhdadnhpnaa
open Go Go.Am Go.RowKit
open Classical in
/-- the words of elements,changed -/
noncomputable def chgL (l:List Int) (n:Nat) (w:Nat→Int):List Int:=(List.range l.length).map fun q=>if h:∃r,r<n∧q=recAt r+1 then w h.choose else ati l q
theorem chgL_len (l:List Int) (n:Nat) (w:Nat→Int):(chgL l n w).length=l.length:=by simp[chgL]
theorem chgL_at {l:List Int} {n:Nat} {w:Nat→Int} {r:Nat} (hr:r<n) (hl:recAt r+1<l.length):ati (chgL l n w) (recAt r+1)=w r:=by
 have h:∃s,s<n∧recAt r+1=recAt s+1:=⟨r,hr,rfl⟩
 unfold ati chgL
 rw[List.getD_eq_getElem?_getD,List.getElem?_map,List.getElem?_range hl]
 simp only[Option.map_some,Option.getD_some]
 rw[dif_pos h]
 have e:=h.choose_spec.2
 have:h.choose=r:=(recAt_inj (a:=1) (b:=1) e.symm (by omega) (by omega)).1
 rw[this]
theorem chgL_ne {l:List Int} {n:Nat} {w:Nat→Int} {q:Nat} (hq:∀r,r<n→q≠recAt r+1):ati (chgL l n w) q=ati l q:=by
 by_cases hl:q<l.length
 ·have h:¬ ∃r,r<n∧q=recAt r+1:=fun⟨r,h1,h2⟩=>hq r h1 h2
  have e:ati (chgL l n w) q=(if h:∃r,r<n∧q=recAt r+1 then w h.choose else ati l q):=by
   conv=>lhs;unfold ati chgL
   rw[List.getD_eq_getElem?_getD,List.getElem?_map,List.getElem?_range hl]
   rfl
  rw[e,dif_neg h]
 ·have h1:ati (chgL l n w) q=0:=by unfold ati;rw[List.getD_eq_getElem?_getD,List.getElem?_eq_none (by rw[chgL_len];omega)];rfl
  have h2:ati l q=0:=by unfold ati;rw[List.getD_eq_getElem?_getD,List.getElem?_eq_none (by omega)];rfl
  rw[h1,h2]
theorem G.chg {l:List Int} {n b:Nat} {C:Nat→List Nat} (g:G l n b C) (w:Nat→Int) (hd:∀r,r<n→∀s,s<n→ati l (recAt r)=ati l (recAt s)→w r=w s→r=s):G (chgL l n w) n b C:=by
 have h0:∀r,ati (chgL l n w) (recAt r)=ati l (recAt r):=fun r=>chgL_ne (fun s _ e=>by
  have:=(recAt_inj (a:=0) (b:=1) e (by omega) (by omega)).2;omega)
 have h2:∀r,ati (chgL l n w) (recAt r+2)=ati l (recAt r+2):=fun r=>chgL_ne (fun s _ e=>by
  have:=(recAt_inj (a:=2) (b:=1) e (by omega) (by omega)).2;omega)
 have hh:∀i,ati (chgL l n w) (headAt i)=ati l (headAt i):=fun i=>chgL_ne (fun s _ e=>head_rec (a:=1) e (by omega))
 have h1:∀r,r<n→ati (chgL l n w) (recAt r+1)=w r:=fun r hr=>chgL_at hr (by have:=g.rl r hr;omega)
 refine⟨g.n1,fun r hr=>by rw[chgL_len];exact g.rl r hr,g.b8,fun i hi=>by rw[chgL_len];exact g.hl i hi,fun r hr=>by rw[h0];exact g.hash r hr,fun i hi=>?_,g.nd,fun i hi r=>by rw[h0];exact g.mem i hi r,fun i hi=>?_,fun r hr s hs e1 e2=>?_,fun i hi=>by rw[hh];exact g.zh i hi,fun r hr a ha=>?_⟩
 ·refine(g.chn i hi).frame (fun q hq=>?_)
  rcases hq with rfl |⟨r,hr,rfl⟩
  ·exact⟨by rw[chgL_len];exact g.hl i hi,hh i⟩
  ·exact⟨by rw[chgL_len];exact g.rl r (g.lt hi hr),h2 r⟩
 ·exact(g.srt i hi).imp (fun h=>by rw[h0,h0];exact h)
 ·rw[h0,h0]at e1
  rw[h1 r hr,h1 s hs]at e2
  exact hd r hr s hs e1 e2
 ·rw[chgL_ne (fun s hs e=>by
   have:=(recAt_inj (a:=a) (b:=1) e (by omega) (by omega)).1;omega)]
  exact g.zr r hr a ha
theorem HeadOk.chg {l:List Int} {n:Nat} (h:HeadOk l n) (w:Nat→Int):HeadOk (chgL l n w) n:=by
 have hne:∀q,q<4→ati (chgL l n w) q=ati l q:=fun q hq=>chgL_ne (fun s _ e=>by have:=recAt_ge s;omega)
 exact⟨by rw[hne _ (by omega)];exact h.n0,h.n1,by rw[chgL_len];exact h.len,by rw[hne _ (by omega)];exact h.b1,by rw[hne _ (by omega)];exact h.b2,by rw[hne _ (by omega)];exact h.b3⟩
theorem pair_eq {α:Type} {c:List Nat} {f:Nat→α} (h:(c.map f).Pairwise (fun x y=>x≠y)) {r s:Nat} (hr:r∈c) (hs:s∈c) (e:f r=f s):r=s:=by
 induction c with
 |nil=>cases hr
 |cons a c ih=>
  have h2:=List.pairwise_cons.1 h
  rcases List.mem_cons.1 hr with q1 |q1<;>rcases List.mem_cons.1 hs with q2 |q2
  ·rw[q1,q2]
  ·subst q1;exact absurd e (h2.1 _ (List.mem_map.2 ⟨s,q2,rfl⟩))
  ·subst q2;exact absurd e.symm (h2.1 _ (List.mem_map.2 ⟨r,q1,rfl⟩))
  ·exact ih h2.2 q1 q2
theorem move_valid {l:List Int} (hV:ValidL l) (mv:List (Int×Int)) (h:∀i,i<(chsT l).length→srtF i (chsT l).length none [] (elsOfC ((recsT l).map (mvE mv)) ((chsT l).getD i []))=true):
  ValidL (wordsF ((recsT l).map (mvE mv)) (chsT l)):=by
 have g:=tab_g hV
 have hH:=tab_h hV
 have hb8:=bkts8 (tabN l)
 have hrl:(recsT l).length=tabN l:=recsF_len l _
 have hrg:∀r,r<tabN l→((recsT l).map (mvE mv)).getD r (0,0)=mvE mv (elm l r):=fun r hr=>by
  have h1:r<((recsT l).map (mvE mv)).length:=by rw[List.length_map,hrl];exact hr
  have h2:r<(recsT l).length:=by omega
  have e:(recsT l)[r]=elm l r:=by
   have:=recsT_get hr
   rw[←this];simp[h2]
  rw[List.getD_eq_getElem?_getD,List.getElem?_map,List.getElem?_eq_getElem h2,e];rfl
 have hd:∀r,r<tabN l→∀s,s<tabN l→ati l (recAt r)=ati l (recAt s)→(mvE mv (elm l r)).2=(mvE mv (elm l s)).2→r=s:=fun r hr s hs e1 e2=>by
  have hi:=bkt_lt (ati l (recAt r)).toNat (b:=bkts (tabN l)) (by omega)
  have m1:=(g.mem _ hi r).2 ⟨hr,rfl⟩
  have m2:=(g.mem _ hi s).2 ⟨hs,by rw[e1]⟩
  have hs1:=h _ (by rw[chsT_len];exact hi)
  rw[chsT_getD hi]at hs1
  have hp:=(srtF_to hs1).2.1
  refine pair_eq (f:=fun r=>((recsT l).map (mvE mv)).getD r (0,0)) (hp.imp (fun h=>h.2)) m1 m2 ?_
  show((recsT l).map (mvE mv)).getD r (0,0)=((recsT l).map (mvE mv)).getD s (0,0)
  rw[hrg r hr,hrg s hs]
  exact Prod.ext e1 e2
 have g2:=g.chg (fun r=>(mvE mv (elm l r)).2) hd
 have hH2:=hH.chg (fun r=>(mvE mv (elm l r)).2)
 have hw:=wordsF_eq hH2 g2 (recs:=(recsT l).map (mvE mv)) (by rw[List.length_map,hrl]) (fun r hr=>by
  rw[hrg r hr]
  refine Prod.ext ?_ ?_
  ·show(elm l r).1=ati (chgL _ _ _) (recAt r)
   rw[chgL_ne (fun s _ e=>by have:=(recAt_inj (a:=0) (b:=1) e (by omega) (by omega)).2;omega)];rfl
  ·show _=ati (chgL _ _ _) (recAt r+1)
   rw[chgL_at hr (by have:=g.rl r hr;omega)])
 have e:chsT l=(List.range (bkts (tabN l))).map (tabC l):=rfl
 rw[e,hw]
 exact g_validL hH2 g2
theorem empty_v:ValidL emptyL:=by
 have h:=wordsF_eq freshL_head freshL_g (recs:=emptyR) rfl (fun r hr=>absurd hr (by omega))
 have e:emptyL=freshL:=by
  rw[←h];rfl
 rw[e];exact fresh_v
theorem stepF_valid {l:List Int} (o:OpT) (hV:ValidL l):ValidL (stepF l o):=by
 unfold stepF
 split
 ·rename_i h0
  unfold stepE at h0 ⊢
  split at h0
  ·rename_i k0
   rw[if_pos k0]
   by_cases hn:tabN l<100000
   ·obtain⟨h1,h2⟩:=addF_zero hV hn h0
    exact(addF_new hV h1 h2 hn).2.1
   ·exfalso
    by_cases hh:okH o.h
    ·have h0:(addF l o.h o.w).2.2=0:=h0
     rw[addF_ok hV hh]at h0
     unfold addR at h0
     rw[if_neg (by simpa[okH]using hh)]at h0
     split at h0
     ·simp at h0
     ·have:=(tab_g hV).n1
      rw[if_pos (by omega)]at h0;simp at h0
    ·have h0:(addF l o.h o.w).2.2=0:=h0
     rw[addF_bad hV hh]at h0;simp at h0
  ·rename_i k0
   rw[if_neg k0]
   split at h0
   ·rename_i k1
    rw[if_pos k1]
    by_cases hh:okH (chosenF l o.w).1
    ·by_cases hx:(chosenF l o.w).2∈wds l (chosenF l o.w).1
     ·exact(dropF_has hV hh hx).2.1
     ·have h0:(dropF l (chosenF l o.w).1 (chosenF l o.w).2).2.2=0:=h0
      rw[dropF_none hV hh hx]at h0;simp at h0
    ·have h0:(dropF l (chosenF l o.w).1 (chosenF l o.w).2).2.2=0:=h0
     rw[dropF_bad hV hh]at h0;simp at h0
   ·rename_i k1
    rw[if_neg k1]
    split at h0
    ·rename_i k2
     rw[if_pos k2]
     have h0:(putF l (chosenF l o.w).1 (chosenF l o.w).2 o.v).2=0:=h0
     by_cases hh:okH (chosenF l o.w).1
     ·by_cases hx:(chosenF l o.w).2∈wds l (chosenF l o.w).1
      ·by_cases hv:o.v=(chosenF l o.w).2∨o.v∉wds l (chosenF l o.w).1
       ·exact(putF_ok hV hh hx hv).2.1
       ·have hv1:o.v≠(chosenF l o.w).2:=fun e=>hv (.inl e)
        have hv2:o.v∈wds l (chosenF l o.w).1:=Classical.byContradiction fun k=>hv (.inr k)
        rw[putF_twice hV hh hx hv1 hv2]at h0;simp at h0
      ·rw[putF_none hV hh hx]at h0;simp at h0
     ·rw[putF_bad hV hh]at h0;simp at h0
    ·rename_i k2
     rw[if_neg k2]
     split at h0
     ·rename_i k3
      rw[if_pos k3]
      have h0:(rmoveF l [(o.w,o.v)]).2=0:=h0
      show ValidL (rmoveF l [(o.w,o.v)]).1
      unfold rmoveF at h0 ⊢
      rw[if_neg (by simpa using hV)]at h0 ⊢
      unfold rmoveX at h0 ⊢
      split at h0
      ·simp at h0
      ·rename_i ha
       rw[if_neg ha]
       split at h0
       ·rename_i hs
        rw[if_pos hs]
        exact move_valid hV _ hs
       ·simp at h0
     ·simp at h0
 ·exact hV
theorem foldl_valid {β:Type} {f:List Int→β→List Int} (hf:∀t b,ValidL t→ValidL (f t b)):∀(l:List β) (t:List Int),ValidL t→ValidL (l.foldl f t)
 | [],t,h=>h
 |b::l,t,h=>foldl_valid hf l (f t b) (hf t b h)
theorem madeF_valid (L:List (Int×Int)) (ops:List OpT):ValidL (madeF L ops):=
 foldl_valid (fun t o h=>stepF_valid o h) ops _ (foldl_valid (fun t e h=>stepF_valid _ h) L _ empty_v)
end Go.Proofs.Ytdcomhdadnhpnaa
end
section
namespace Go.Proofs.Ytdcomhdadnhpnaa
open Go Go.Am Go.RowKit
theorem scanC_go:∀(cs:List (List Nat)) (k0:Nat),(scanC cs k0=none∧cs.flatten=[])∨∃a r rest cs',cs=List.replicate a []++(r::rest)::cs'∧scanC cs k0=some (r,k0+a)
 | [],k0=>.inl ⟨rfl,rfl⟩
 | []::cs,k0=>by
   rcases scanC_go cs (k0+1)with⟨h1,h2⟩ |⟨a,r,rest,cs',h1,h2⟩
   ·exact .inl ⟨h1,h2⟩
   ·exact .inr ⟨a+1,r,rest,cs',by rw[h1];rfl,by rw[scanC,h2];congr 2;omega⟩
 |(r::rest)::cs,k0=>.inr ⟨0,r,rest,cs,rfl,rfl⟩
theorem scanC_spec (chs:List (List Nat)) (i:Nat) (hi:i≤chs.length):(scanC (chs.drop i) 0=none∧(chs.drop i).flatten=[])∨∃k r rest,scanC (chs.drop i) 0=some (r,k)∧i+k<chs.length∧chs.getD (i+k) []=r::rest∧(chs.take (i+k)).flatten=(chs.take i).flatten:=by
 rcases scanC_go (chs.drop i) 0 with h |⟨a,r,rest,cs',h1,h2⟩
 ·exact .inl h
 ·rw[Nat.zero_add]at h2
  have e:chs=chs.take i++(List.replicate a []++(r::rest)::cs'):=by rw[←h1,List.take_append_drop]
  have hl:(chs.take i).length=i:=by rw[List.length_take];omega
  have hlen:=congrArg List.length e
  simp only[List.length_append,hl,List.length_replicate,List.length_cons]at hlen
  refine .inr ⟨a,r,rest,h2,by omega,?_,?_⟩
  ·rw[e,List.getD_eq_getElem?_getD,List.getElem?_append_right (by omega),hl,Nat.add_sub_cancel_left,List.getElem?_append_right (by simp)]
   simp
  ·have e2:chs.take (i+a)=chs.take i++List.replicate a []:=by
    have h5:=congrArg (List.take (i+a)) e
    rw[h5,List.take_append,hl,Nat.add_sub_cancel_left,List.take_of_length_le (by rw[hl];omega),List.take_append_of_le_length (by simp),List.take_of_length_le (l:=List.replicate a []) (by simp)]
   rw[e2,List.flatten_append]
   have:(List.replicate a ([]:List Nat)).flatten=[]:=by simp
   rw[this,List.append_nil]
theorem flat_at {chs:List (List Nat)} {i k r:Nat} (h:(chs.getD i [])[k]? =some r):chs.flatten[(chs.take i).flatten.length+k]? =some r:=by
 by_cases hi:i<chs.length
 ·have e:chs.getD i []=chs[i]:=by simp[hi]
  rw[e]at h
  have hk:=(List.getElem?_eq_some_iff.1 h).1
  have e2:chs=chs.take i++chs[i]::chs.drop (i+1):=by rw[←List.drop_eq_getElem_cons hi,List.take_append_drop]
  conv=>lhs;rw[e2]
  rw[List.flatten_append,List.flatten_cons]
  have e3:(chs.take i++chs[i]::chs.drop (i+1)).take i=chs.take i:=by rw[←e2]
  rw[e3,List.getElem?_append_right (by omega),Nat.add_sub_cancel_left,List.getElem?_append_left hk]
  exact h
 ·have e0:chs.getD i []=[]:=by rw[List.getD_eq_getElem?_getD,List.getElem?_eq_none (by omega)];rfl
  rw[e0]at h
  simp at h
theorem flat_len {chs:List (List Nat)} {i:Nat} (hi:i<chs.length):(chs.take (i+1)).flatten.length=(chs.take i).flatten.length+(chs.getD i []).length∧chs.flatten.length=(chs.take (i+1)).flatten.length+(chs.drop (i+1)).flatten.length:=by
 have e:chs.getD i []=chs[i]:=by simp[hi]
 refine⟨?_,?_⟩
 ·rw[List.take_succ_eq_append_getElem hi,List.flatten_append,List.length_append,e];simp
 ·conv=>lhs;rw[←List.take_append_drop (i+1) chs]
  rw[List.flatten_append,List.length_append]
def WalkAt (chs:List (List Nat)) (j x looked:Nat):Prop:=(j=0∧x=0∧looked=0)∨∃i k r,i<chs.length∧(chs.getD i [])[k]? =some r∧j=(chs.take i).flatten.length+k+1∧x=r+1∧looked=i+1
section
variable {l:List Int}
theorem ordF_flat (l:List Int):ordF l=(chsT l).flatten.map (elm l):=by
 have e:chsT l=(List.range (bkts (tabN l))).map (tabC l):=rfl
 unfold ordF
 rw[e,recsL_flat]
theorem chain_at (hV:ValidL l) {i k r:Nat} (hi:i<(chsT l).length) (h:((chsT l).getD i [])[k]? =some r):r<(recsT l).length∧bkt ((recsT l).getD r (0,0)).1.toNat (chsT l).length=i∧((chsT l).getD i []).idxOf r=k:=by
 have g:=tab_g hV
 have hrl:(recsT l).length=tabN l:=recsF_len l _
 rw[chsT_len]at hi ⊢
 rw[chsT_getD hi]at h ⊢
 have hk:=(List.getElem?_eq_some_iff.1 h).1
 have hm:r∈tabC l i:=List.mem_of_getElem? h
 have hr:=(g.mem i hi r).1 hm
 refine⟨by omega,?_,?_⟩
 ·rw[recsT_get hr.1];exact hr.2
 ·have e:=(List.getElem?_eq_some_iff.1 h).2
  rw[←e]
  exact(g.nd i hi).idxOf_getElem k hk
theorem nextF_zero (hV:ValidL l):nextF l ((0:Nat):Int)=goN (recsT l) (chsT l) 0:=by
 unfold nextF
 rw[if_neg (by simpa using hV),if_neg (by omega),if_pos (show((0:Nat):Int)=0 from rfl)]
theorem nextF_rec (hV:ValidL l) {r:Nat} (hr:r<(recsT l).length):nextF l ((r+1:Nat):Int)=nextN (recsT l) (chsT l) r:=by
 unfold nextF
 rw[if_neg (by simpa using hV),if_neg (by omega),if_neg (by omega),show((r+1:Nat):Int)-1=(r:Int)by omega,Int.toNat_natCast]
theorem scan_next (hV:ValidL l) {i j looked:Nat} (hi:i≤(chsT l).length) (hj:j=((chsT l).take i).flatten.length) (hl:looked=i):
  (j<(ordF l).length→∃(x' d:Nat) (h:j<(ordF l).length),goN (recsT l) (chsT l) i=⟨(ordF l)[j].1,(ordF l)[j].2,(x':Int),(d:Int),0⟩∧1≤x'∧x'≤(ordF l).length∧WalkAt (chsT l) (j+1) x' (looked+d))∧
  (j=(ordF l).length→goN (recsT l) (chsT l) i=⟨0,0,0,0,5⟩):=by
 have hol:(ordF l).length=(recsT l).length:=by rw[ordF_len hV];exact(recsF_len l _).symm
 have hfl:(ordF l).length=(chsT l).flatten.length:=by rw[ordF_flat,List.length_map]
 have hsplit:(chsT l).flatten.length=((chsT l).take i).flatten.length+((chsT l).drop i).flatten.length:=by
  conv=>lhs;rw[←List.take_append_drop i (chsT l)]
  rw[List.flatten_append,List.length_append]
 rcases scanC_spec (chsT l) i hi with⟨h1,h2⟩ |⟨k,r,rest,h1,h2,h3,h4⟩
 ·rw[h2]at hsplit
  refine⟨fun h=>?_,fun _=>?_⟩
  ·simp only[List.length_nil]at hsplit;omega
  ·unfold goN;rw[h1]
 ·have h0:((chsT l).getD (i+k) [])[0]? =some r:=by rw[h3];rfl
  have hf:=flat_at h0
  rw[h4,←hj,Nat.add_zero]at hf
  have hjl:=(List.getElem?_eq_some_iff.1 hf).1
  obtain⟨c1,_,_⟩:=chain_at hV h2 h0
  refine⟨fun h=>⟨r+1,k+1,h,?_,by omega,by omega,.inr ⟨i+k,0,r,h2,h0,by rw[h4,hj],rfl,by omega⟩⟩,fun h=>by omega⟩
  have e:(ordF l)[j]=(recsT l).getD r (0,0):=by
   have e1:(ordF l)[j]? =some (elm l r):=by rw[ordF_flat,List.getElem?_map,hf];rfl
   have e2:=(List.getElem?_eq_some_iff.1 e1).2
   rw[e2,recsT_get (by rw[←recsF_len l (tabN l)];exact c1)]
  unfold goN
  rw[h1,e]
  rfl
theorem walk_next (hV:ValidL l) {j x looked:Nat} (h:WalkAt (chsT l) j x looked) (hj:j<(ordF l).length):
  ∃x' d:Nat,nextF l (x:Int)=⟨(ordF l)[j].1,(ordF l)[j].2,(x':Int),(d:Int),0⟩∧1≤x'∧x'≤(ordF l).length∧WalkAt (chsT l) (j+1) x' (looked+d):=by
 rcases h with⟨rfl,rfl,rfl⟩ |⟨i,k,r,hi,hr,rfl,rfl,rfl⟩
 ·rw[nextF_zero hV]
  obtain⟨x',d,_,a,b,c,e⟩:=(scan_next hV (i:=0) (j:=0) (looked:=0) (Nat.zero_le _) (by simp) rfl).1 hj
  exact⟨x',d,a,b,c,e⟩
 ·obtain⟨c1,c2,c3⟩:=chain_at hV hi hr
  have hk:=(List.getElem?_eq_some_iff.1 hr).1
  rw[nextF_rec hV c1]
  unfold nextN
  rw[c2,c3]
  have hol:(ordF l).length=(recsT l).length:=by rw[ordF_len hV];exact(recsF_len l _).symm
  cases hs:((chsT l).getD i [])[k+1]? with
  |some s=>
   obtain⟨d1,_,_⟩:=chain_at hV hi hs
   have hf:=flat_at hs
   have e:(ordF l)[((chsT l).take i).flatten.length+k+1]=(recsT l).getD s (0,0):=by
    have e1:(ordF l)[((chsT l).take i).flatten.length+k+1]? =some (elm l s):=by rw[ordF_flat,List.getElem?_map,Nat.add_assoc,hf];rfl
    have e2:=(List.getElem?_eq_some_iff.1 e1).2
    rw[e2,recsT_get (by rw[←recsF_len l (tabN l)];exact d1)]
   refine⟨s+1,0,by rw[e];rfl,by omega,by omega,.inr ⟨i,k+1,s,hi,hs,by omega,rfl,by omega⟩⟩
  |none=>
   have hkl:((chsT l).getD i []).length=k+1:=by have:=List.getElem?_eq_none_iff.1 hs;omega
   have hfl:=(flat_len hi).1
   obtain⟨x',d,_,a,b,c,e⟩:=(scan_next hV (i:=i+1) (j:=((chsT l).take i).flatten.length+k+1) (looked:=i+1) (by omega) (by omega) rfl).1 hj
   exact⟨x',d,a,b,c,e⟩
theorem walk_end (hV:ValidL l) {j x looked:Nat} (h:WalkAt (chsT l) j x looked) (hj:j=(ordF l).length):nextF l (x:Int)=⟨0,0,0,0,5⟩∧looked≤(chsT l).length:=by
 rcases h with⟨rfl,rfl,rfl⟩ |⟨i,k,r,hi,hr,rfl,rfl,rfl⟩
 ·rw[nextF_zero hV]
  exact⟨(scan_next hV (i:=0) (j:=0) (looked:=0) (Nat.zero_le _) (by simp) rfl).2 hj,Nat.zero_le _⟩
 ·obtain⟨c1,c2,c3⟩:=chain_at hV hi hr
  have hk:=(List.getElem?_eq_some_iff.1 hr).1
  rw[nextF_rec hV c1]
  unfold nextN
  rw[c2,c3]
  have hfl:(ordF l).length=(chsT l).flatten.length:=by rw[ordF_flat,List.length_map]
  cases hs:((chsT l).getD i [])[k+1]? with
  |some s=>
   have hf:=(List.getElem?_eq_some_iff.1 (flat_at hs)).1
   omega
  |none=>
   have hkl:((chsT l).getD i []).length=k+1:=by have:=List.getElem?_eq_none_iff.1 hs;omega
   have hfl2:=(flat_len hi).1
   exact⟨(scan_next hV (i:=i+1) (j:=((chsT l).take i).flatten.length+k+1) (looked:=i+1) (by omega) (by omega) rfl).2 hj,by omega⟩
end
end Go.Proofs.Ytdcomhdadnhpnaa
end
