import Derived.Test.YtdcomhdadnhpnaaYZM6
import Derived.Maps.AppendAt
import Derived.Test.YtdcomhdadnhpnaaYZMB
set_option linter.all false
section
namespace Go.Proofs.Ytdcomhdadnhpnaa
variable {l l':List Int} {n b:Nat} {C C':Nat→List Nat}
theorem outL_append (l:List Int) (h:Int) (a b:List Nat):outL l h (a++b)=outL l h a++outL l h b:=by simp[outL]
theorem outL_cons (l:List Int) (h:Int) (r:Nat) (b:List Nat):outL l h (r::b)=(if ati l (recAt r)=h then [ati l (recAt r+1)]else [])++outL l h b:=by
 unfold outL
 rw[List.filter_cons]
 by_cases e:ati l (recAt r)=h
 ·rw[if_pos (by simpa using e),if_pos e];rfl
 ·rw[if_neg (by simpa using e),if_neg e];rfl
theorem outL_congr {h:Int}:∀ {rs:List Nat},(∀r∈rs,ati l' (recAt r)=ati l (recAt r)∧ati l' (recAt r+1)=ati l (recAt r+1))→outL l' h rs=outL l h rs
 | [],_=>rfl
 |r::rs,hE=>by
  rw[outL_cons,outL_cons,(hE r (by simp)).1,(hE r (by simp)).2,outL_congr (rs:=rs) (fun s hs=>hE s (by simp[hs]))]
theorem outL_none {h:Int} {rs:List Nat} (h0:∀r∈rs,ati l (recAt r)≠h):outL l h rs=[]:=by
 unfold outL
 rw[List.filter_eq_nil_iff.2 (fun r hr=>by simpa using h0 r hr)];rfl
theorem outL_filter {h:Int} {p:Nat→Bool}:∀ {rs:List Nat},(∀r∈rs,ati l (recAt r)=h→p r=true)→outL l h (rs.filter p)=outL l h rs
 | [],_=>rfl
 |r::rs,hp=>by
  have ih:=outL_filter (h:=h) (p:=p) (rs:=rs) (fun s hs=>hp s (by simp[hs]))
  rw[List.filter_cons]
  by_cases e:ati l (recAt r)=h
  ·rw[if_pos (hp r (by simp) e),outL_cons,outL_cons,ih]
  ·rw[outL_cons,if_neg e,List.nil_append,←ih]
   split
   ·rw[outL_cons,if_neg e,List.nil_append]
   ·rfl
theorem outL_mem {h w:Int} {rs:List Nat}:w∈outL l h rs↔∃r∈rs,ati l (recAt r)=h∧ati l (recAt r+1)=w:=by
 unfold outL
 simp only[List.mem_map,List.mem_filter,decide_eq_true_eq]
 constructor
 ·rintro⟨r,⟨h1,h2⟩,h3⟩;exact⟨r,h1,h2,h3⟩
 ·rintro⟨r,h1,h2,h3⟩;exact⟨r,⟨h1,h2⟩,h3⟩
theorem preR_drop {h:Int}:∀ {rs:List Nat},rs.Pairwise (fun r s=>ati l (recAt r)≤ati l (recAt s))→∀r∈rs.drop (preR l h rs).length,h<ati l (recAt r)
 | [],_,r,hr=>by simp at hr
 |a::rs,hs,r,hr=>by
  have h2:=List.pairwise_cons.1 hs
  unfold preR at hr
  rw[List.takeWhile_cons]at hr
  by_cases e:ati l (recAt a)≤h
  ·rw[if_pos (by simpa using e)]at hr
   exact preR_drop h2.2 r (by simpa[preR]using hr)
  ·rw[if_neg (by simpa using e)]at hr
   simp only[List.length_nil,List.drop_zero]at hr
   rcases List.mem_cons.1 hr with rfl |hr
   ·omega
   ·have:=h2.1 r hr;omega
theorem preR_sub (l:List Int) (h:Int) (rs:List Nat):∀r∈preR l h rs,r∈rs:=fun r hr=>(List.takeWhile_sublist _).subset hr
theorem G.add_out (g:G l n (bkts n) C) (hH:HeadOk l n) {h x:Int} (h0:(addR l n C h x).2.1=0) {h':Int}:
  outL (addR l n C h x).2.2 h' (addCC l n C h (addL l n (endp (headAt (bkt h.toNat (bkts n))) (preR l h (C (bkt h.toNat (bkts n))))) h x) (bkt h'.toNat (bkts (n+1))))=
   outL l h' (C (bkt h'.toNat (bkts n)))++(if h'=h then [x]else []):=by
 obtain⟨hh,hhas,hnl,hH',g',hel⟩:=g.add hH h0
 have h8:=bkts8 n
 have hi:=bkt_lt h.toNat (b:=bkts n) (by omega)
 have hi':=bkt_lt h'.toNat (b:=bkts n) (by omega)
 have hpw:=pow2_pos (bkts n)
 -- the chain with the new record
 have key:outL (addR l n C h x).2.2 h' (addC l n C h (bkt h'.toNat (bkts n)))=outL l h' (C (bkt h'.toNat (bkts n)))++(if h'=h then [x]else []):=by
  have hcg:∀ {rs:List Nat},(∀r∈rs,r<n)→outL (addR l n C h x).2.2 h' rs=outL l h' rs:=fun {rs} hr=>outL_congr (fun r hm=>by
   have hrn:=hr r hm
   have e0:=hel r (by omega) 0 (by omega)
   have e1:=hel r (by omega) 1 (by omega)
   rw[if_neg (by omega)]at e0 e1
   exact⟨e0,e1⟩)
  have hC:∀ {i},i<bkts n→∀r∈C i,r<n:=fun hi r hr=>g.lt hi hr
  unfold addC
  by_cases e:bkt h'.toNat (bkts n)=bkt h.toNat (bkts n)
  ·rw[if_pos e,e]
   have hn0:=hel n (by omega) 0 (by omega)
   have hn1:=hel n (by omega) 1 (by omega)
   rw[if_pos rfl,if_pos rfl]at hn0
   rw[if_pos rfl,if_neg (by omega)]at hn1
   have hpost:=preR_drop (l:=l) (h:=h) (g.srt _ hi)
   have hd:∀r∈(C (bkt h.toNat (bkts n))).drop (preR l h (C (bkt h.toNat (bkts n)))).length,r<n:=fun r hr=>hC hi r (List.mem_of_mem_drop hr)
   rw[outL_append,outL_cons,hcg (fun r hr=>hC hi r (preR_sub _ _ _ r hr)),hcg hd,hn1]
   rw[show ati (addR l n C h x).2.2 (recAt n)=h from hn0]
   conv=>rhs;rw[preR_split l h (C (bkt h.toNat (bkts n)))]
   rw[outL_append]
   by_cases eh:h'=h
   ·subst eh
    have e0:outL l h' ((C (bkt h'.toNat (bkts n))).drop (preR l h' (C (bkt h'.toNat (bkts n)))).length)=[]:=outL_none (fun r hr=>by have:=hpost r hr;omega)
    rw[if_pos rfl,e0]
    simp
   ·rw[if_neg (Ne.symm eh),if_neg eh]
    simp
  ·rw[if_neg e,if_neg (fun eh=>e (by rw[eh])),List.append_nil]
   exact hcg (hC hi')
 unfold addCC
 generalize hl1:addL l n (endp (headAt (bkt h.toNat (bkts n))) (preR l h (C (bkt h.toNat (bkts n))))) h x=l1
 have hCn:∀k,k<bkts n→∀r∈addC l n C h k,r<n+1:=fun k hk r hr=>by
  unfold addC at hr
  split at hr
  ·rcases List.mem_append.1 hr with hr |hr
   ·have:=g.lt hk (preR_sub _ _ _ r hr);omega
   ·rcases List.mem_cons.1 hr with rfl |hr
    ·omega
    ·have:=g.lt hk (List.mem_of_mem_drop hr);omega
  ·have:=g.lt hk hr;omega
 by_cases hb:bkts n<bkts (n+1)
 ·rw[if_pos hb]
  have hbn:=bkts_nx hb
  rw[hbn]
  have hR:(addR l n C h x).2.2=divL l1 (bkts n) (addC l n C h (bkts n-pow2 (bkts n))):=by
   unfold addR;rw[if_neg (by simpa using hh),if_neg (by rw[hhas];simp),if_neg (by omega),if_pos hb,hl1]
  have hD:∀r,ati (addR l n C h x).2.2 (recAt r)=ati l1 (recAt r):=fun r=>by
   rw[hR]
   exact divL_ati _ _ _ _ (fun e=>head_rec (a:=0) e.symm (by omega)) (fun e=>head_rec (a:=0) e.symm (by omega)) (fun s _ e=>by have:=(recAt_inj (a:=0) e (by omega) (by omega)).2;omega)
  have hlt2:bkts n-pow2 (bkts n)<bkts n:=by omega
  by_cases e:bkt h'.toNat (bkts n+1)=bkts n
  ·have eo:=bkt_new (by omega) e
   rw[e]
   try dsimp only
   rw[if_neg (by omega),if_pos rfl,←key,eo]
   unfold goneS
   refine outL_filter (fun r hr e2=>?_)
   unfold isNew
   rw[←hD,e2]
   simpa using e
  ·have eo:=bkt_old (by omega) e
   have hne:bkt h'.toNat (bkts n)≠bkts n:=by omega
   rw[eo]
   try dsimp only
   rw[if_neg hne,←key]
   split
   ·rename_i e3
    rw[e3]
    unfold stayS
    refine outL_filter (fun r hr e2=>?_)
    unfold isNew
    rw[←hD,e2]
    simpa using e
   ·rfl
 ·rw[if_neg hb]
  have hbe:bkts (n+1)=bkts n:=by have:=bkts_mono (show n≤n+1 by omega);omega
  rw[hbe]
  exact key
theorem outL_merged {h:Int}:∀(k:Nat) (xs ys:List Nat),xs.length+ys.length≤k→(outL l h xs=[]∨outL l h ys=[])→outL l h (mergedL l xs ys)=outL l h xs++outL l h ys
 |_,[],ys,_,_=>by rw[mergedL_nil (.inl rfl)];rfl
 |_,x::xs,[],_,_=>by rw[mergedL_nil (.inr rfl),outL_append]
 |0,x::xs,y::ys,h,_=>absurd h (by simp)
 |k+1,x::xs,y::ys,hk,h0=>by
  simp only[List.length_cons]at hk
  by_cases e:ati l (recAt y)<ati l (recAt x)
  ·rw[mergedL_lt e,outL_cons]
   have h0':outL l h (x::xs)=[]∨outL l h ys=[]:=h0.imp id (fun h1=>by rw[outL_cons]at h1;exact(List.append_eq_nil_iff.1 h1).2)
   rw[outL_merged k _ _ (by simp only[List.length_cons];omega) h0',outL_cons (b:=ys)]
   rcases h0 with h1 |h1
   ·rw[h1];rfl
   ·rw[outL_cons]at h1
    have:=List.append_eq_nil_iff.1 h1
    rw[this.1,this.2];simp
  ·rw[mergedL_ge e,outL_cons]
   have h0':outL l h xs=[]∨outL l h (y::ys)=[]:=h0.imp (fun h1=>by rw[outL_cons]at h1;exact(List.append_eq_nil_iff.1 h1).2) id
   rw[outL_merged k _ _ (by simp only[List.length_cons];omega) h0',outL_cons (b:=xs),List.append_assoc]
theorem G.drop_out (g:G l n (bkts n) C) (hH:HeadOk l n) {h x:Int} {k:Nat} (hD:DropS l n C h x k l' C') {h':Int}:
  outL l' h' (C' (bkt h'.toNat (bkts (n-1))))=if h'=h then(outL l h (C (bkt h.toNat (bkts n)))).erase x else outL l h' (C (bkt h'.toNat (bkts n))):=by
 have hG:=g.drop hH hD
 obtain⟨pre,r,post,k1,l1,C1,k2,l2,hC,hh,hp,hM,hJ,rfl,rfl⟩:=hD
 have h8:=bkts8 n
 have hi:bkt h.toNat (bkts n)<bkts n:=bkt_lt _ (by omega)
 have hi':bkt h'.toNat (bkts n)<bkts n:=bkt_lt _ (by omega)
 have hrn:r<n:=g.lt hi (by rw[hC];simp)
 have g1:=g.gs.rem hi hC
 obtain⟨g2,hl2,_⟩:=g1.move hrn hM
 have hla:∀s a,a<2→ati (remL l (endp (headAt (bkt h.toNat (bkts n))) pre) r) (recAt s+a)=ati l (recAt s+a):=fun s a ha=>ati_set_ne (endp_no01 _ pre s a ha)
 have s1:outL (remL l (endp (headAt (bkt h.toNat (bkts n))) pre) r) h' ((fun i=>if i=bkt h.toNat (bkts n)then pre++post else C i) (bkt h'.toNat (bkts n)))=if h'=h then(outL l h (C (bkt h.toNat (bkts n)))).erase x else outL l h' (C (bkt h'.toNat (bkts n))):=by
  rw[outL_congr (fun s _=>⟨hla s 0 (by omega),hla s 1 (by omega)⟩)]
  dsimp only
  by_cases e:bkt h'.toNat (bkts n)=bkt h.toNat (bkts n)
  ·rw[if_pos e,e,hC,outL_append,outL_append,outL_append,outL_cons,outL_cons,hh.1,hh.2]
   by_cases eh:h'=h
   ·subst eh
    rw[if_pos rfl,if_pos rfl]
    have hnx:x∉outL l h' pre:=fun hm=>by
     obtain⟨s,hs,e1,e2⟩:=outL_mem.1 hm
     exact hp s hs ⟨e1,e2⟩
    rw[List.erase_append_right _ hnx]
    simp
   ·rw[if_neg eh,if_neg (Ne.symm eh)]
    simp
  ·rw[if_neg e,if_neg (fun eh=>e (by rw[eh]))]
 have s2:∀k,k<bkts n→outL l1 h' (C1 k)=outL (remL l (endp (headAt (bkt h.toNat (bkts n))) pre) r) h' ((fun i=>if i=bkt h.toNat (bkts n)then pre++post else C i) k):=by
  intro k hk
  rcases hM with⟨_,_,rfl,rfl⟩ |⟨hne,pre2,post2,hC2,rfl,rfl,rfl⟩
  ·rfl
  ·generalize hj:bkt (ati (remL l (endp (headAt (bkt h.toNat (bkts n))) pre) r) (recAt (n-1))).toNat (bkts n)=j at*
   have hjb:j<bkts n:=by rw[←hj];exact bkt_lt _ (by omega)
   generalize remL l (endp (headAt (bkt h.toNat (bkts n))) pre) r=la at*
   generalize hCa:(fun i=>if i=bkt h.toNat (bkts n)then pre++post else C i)=Ca at*
   have hout:∀i,i<bkts n→r∉Ca i:=fun i hi hm=>((g1.mem i hi r).1 hm).1.2 rfl
   have hlead:endp (headAt j) pre2≠recAt r+2:=fun e=>by
    rcases endp_cases (headAt j) pre2 with⟨_,e2⟩ |⟨t,ht,e2⟩
    ·exact head_rec (a:=2) (e2.symm.trans e) (by omega)
    ·have:=(recAt_inj (e2.symm.trans e) (by omega) (by omega)).1
     exact hout j hjb (by rw[hC2,←this];simp[ht])
   have hll:endp (headAt j) pre2<la.length:=by have:=g1.chn j hjb;rw[hC2]at this;exact this.split.endlt
   have hA:=ati_movL (l:=la) (m:=n-1) (g1.rl r hrn) hll (endp_no01 j pre2 r 0 (by omega)) (endp_no01 j pre2 r 1 (by omega)) hlead
   have hm:∀s a,a<2→ati (movL la r (n-1) (endp (headAt j) pre2)) (recAt s+a)=if s=r then ati la (recAt (n-1)+a)else ati la (recAt s+a):=fun s a ha=>by
    rw[hA,if_neg (fun e=>endp_no01 j pre2 s a ha e.symm),if_neg (fun e=>by have:=(recAt_inj e (by omega) (by omega)).2;omega)]
    by_cases e:s=r
    ·subst e
     rw[if_pos rfl]
     rcases(by omega:a=0∨a=1)with rfl |rfl
     ·rw[if_neg (by omega),if_pos (Nat.add_zero _)];rfl
     ·rw[if_pos rfl]
    ·rw[if_neg e,if_neg (fun e2=>e (recAt_inj e2 (by omega) (by omega)).1),if_neg (fun e2=>e (recAt_inj (b:=0) (e2.trans (Nat.add_zero _).symm) (by omega) (by omega)).1)]
   have hcg:∀ {rs:List Nat},r∉rs→outL (movL la r (n-1) (endp (headAt j) pre2)) h' rs=outL la h' rs:=fun {rs} hr=>outL_congr (fun s hs=>by
    have e0:=hm s 0 (by omega)
    have e1:=hm s 1 (by omega)
    rw[if_neg (by rintro rfl;exact hr hs)]at e0 e1
    exact⟨e0,e1⟩)
   dsimp only
   by_cases e:k=j
   ·subst e
    have hno:=hout k hk
    rw[hC2]at hno
    rw[if_pos rfl,hC2,outL_append,outL_append,outL_cons,outL_cons,hcg (fun hx=>hno (by simp[hx])),hcg (fun hx=>hno (by simp[hx]))]
    have e0:=hm r 0 (by omega)
    have e1:=hm r 1 (by omega)
    rw[if_pos rfl]at e0 e1
    rw[e1,show ati (movL la r (n-1) (endp (headAt k) pre2)) (recAt r)=ati la (recAt (n-1))from e0]
   ·rw[if_neg e]
    exact hcg (hout k hk)
 have hz:∀s a,s≠n-1→a<2→ati (zerL l1 (n-1)) (recAt s+a)=ati l1 (recAt s+a):=fun s a hs ha=>by
  have h3:∀c,c<3→recAt s+a≠recAt (n-1)+c:=fun c hc e=>hs (recAt_inj e (by omega) hc).1
  rw[ati_zerL (g2.rl (n-1) (by omega)),if_neg (by rintro(e |e |e);exact h3 0 (by omega) e;exact h3 1 (by omega) e;exact h3 2 (by omega) e)]
 have hlt1:∀k,k<bkts n→∀s∈C1 k,s<n-1:=fun k hk s hs=>((g2.mem k hk s).1 hs).1
 have s3:∀k,k<bkts n→outL (zerL l1 (n-1)) h' (C1 k)=outL l1 h' (C1 k):=fun k hk=>outL_congr (fun s hs=>by
  have:=hlt1 k hk s hs
  exact⟨hz s 0 (by omega) (by omega),hz s 1 (by omega) (by omega)⟩)
 obtain⟨hn0,hG1,hG2⟩:=hG
 have hsz:∀s a,s<n-1→a<2→ati (sizedL l2 (n-1)) (recAt s+a)=ati l2 (recAt s+a):=fun s a hs ha=>by
  have h12:=recAt_ge s
  have h1:=hG1.rl s hs
  rw[sizedL_len]at h1
  rw[ati_sizedL,if_neg (by omega),if_neg (by omega),if_neg (by omega),if_pos (by omega)]
 have s5:∀ {rs:List Nat},(∀s∈rs,s<n-1)→outL (sizedL l2 (n-1)) h' rs=outL l2 h' rs:=fun {rs} hr=>outL_congr (fun s hs=>⟨hsz s 0 (hr s hs) (by omega),hsz s 1 (hr s hs) (by omega)⟩)
 have hi2:bkt h'.toNat (bkts (n-1))<bkts (n-1):=bkt_lt _ (by have:=bkts8 (n-1);omega)
 rw[s5 (fun s hs=>hG1.lt hi2 hs),←s1]
 rcases hJ with⟨hb,rfl,rfl,rfl⟩ |⟨hb,rfl,rfl,rfl⟩
 ·have e:bkts (n-1)=bkts n:=by rcases bkts_down (n:=n) (by omega)with h |h<;>omega
  rw[e,s3 _ hi',s2 _ hi']
 ·have hp2:=pow2_pos (bkts n-1)
  have h81:=bkts8 (n-1)
  have hbn:bkts n-1+1=bkts n:=by omega
  have hj:∀s a,a<2→ati (joiL (zerL l1 (n-1)) (bkts n-1) (C1 (bkts n-1-pow2 (bkts n-1))) (C1 (bkts n-1))) (recAt s+a)=ati (zerL l1 (n-1)) (recAt s+a):=fun s a ha=>
   joiL_ati _ _ _ _ _ (fun e=>head_rec e.symm (by omega)) (fun e=>head_rec e.symm (by omega)) (fun t _ e=>by have:=(recAt_inj e (by omega) (by omega)).2;omega)
  rw[outL_congr (fun s _=>⟨hj s 0 (by omega),hj s 1 (by omega)⟩),hb]
  dsimp only
  have hh0:∀k,k<bkts n→bkt h'.toNat (bkts n)≠k→outL (zerL l1 (n-1)) h' (C1 k)=[]:=fun k hk hne=>by
   rw[s3 k hk]
   exact outL_none (fun s hs e=>hne (by rw[←e];exact((g2.mem k hk s).1 hs).2))
  by_cases e:bkt h'.toNat (bkts n)=bkts n-1
  ·have eo:=bkt_new (h:=h'.toNat) (b:=bkts n-1) (by omega) (by rw[hbn];exact e)
   rw[if_pos eo,outL_merged _ _ _ (Nat.le_refl _) (.inl (hh0 _ (by omega) (by omega))),hh0 _ (by omega) (by omega),List.nil_append,←e,s3 _ hi',s2 _ hi']
  ·have eo:=bkt_old (h:=h'.toNat) (b:=bkts n-1) (by omega) (by rw[hbn];exact e)
   rw[hbn]at eo
   rw[←eo]
   split
   ·rename_i e3
    rw[outL_merged _ _ _ (Nat.le_refl _) (.inr (hh0 _ (by omega) (by omega))),hh0 (bkts n-1) (by omega) (by omega),List.append_nil,←e3,s3 _ hi',s2 _ hi']
   ·rw[s3 _ hi',s2 _ hi']
end Go.Proofs.Ytdcomhdadnhpnaa
end
section
namespace Go.Proofs.Ytdcomhdadnhpnaa
open Go.RowKit Go.Shelf
open Go.Proofs.YtdcomhdadnhpnaaW.PrintWords (own_move)
attribute [local irreducible] wpStill
attribute [local go_sem] Oper.semAt_some
theorem info43:(Try.prog.info? 43).map (fun i=>(i.zero,i.size,i.bytes))=some (some (.agg #[.int .i64 0,.int .i64 0]),2,16):=by kernel_rfl
def recsL (C:Nat→List Nat):Nat→List Nat
 |0=>[]
 |k+1=>recsL C k++C k
def cellsE (l:List Int) (rs:List Nat):List Value:=rs.flatMap fun r=>[.int .i64 (ati l (recAt r)),.int .i64 (ati l (recAt r+1))]
theorem cellsE_len (l:List Int) (rs:List Nat):(cellsE l rs).length=rs.length*2:=by
 induction rs with
 |nil=>rfl
 |cons r rs ih=>simp only[cellsE,List.flatMap_cons,List.length_append,List.length_cons,List.length_nil]at ih ⊢;omega
theorem cellsE_append (l:List Int) (a b:List Nat):cellsE l (a++b)=cellsE l a++cellsE l b:=by simp[cellsE]
theorem own_keepS {W W':World} {base n size:Nat} {e:TypeId} {v:Value} {xs:List Value} (h:W.ownsRow base e size v n xs) (hk:Keep (fun _=>True) W W'):W'.ownsRow base e size v n xs:=
 ⟨h.1,h.2.imp id (fun⟨g,c,cur,e1,e2,hg,r⟩=>⟨g,c,cur,e1,e2,hk g _ trivial hg rfl,r⟩)⟩
theorem cell_two_new (W:World) (t:TypeId) (x y:Value):∀j u,[x,y][j]? =some u→(W.alloc (.cells #[x,y] t)).cell? ((⟨W.heap.size,0,none⟩:Addr).add j)=some u:=by
 intro j u hu
 have hh:(W.alloc (.cells #[x,y] t)).heap[W.heap.size]? =some (.cells #[x,y] t):=World.alloc_heap_new _ _
 rw[Go.WideShapes.add_plain,Nat.zero_add]
 refine(cell_of_heap hh).trans ?_
 match j with
 |0=>simpa using hu
 |1=>simpa using hu
 |j+2=>simp at hu
theorem app_fact43 {V:World} {base k:Nat} {v:Value} {xs:List Value} (h:V.ownsRow base 43 2 v k xs) (hb:base≤V.heap.size) (hk:k≤1000000) (x y:Int):
  ∃g cap V6,(appS #[40,40] 40 #[v,.slice (some ⟨V.heap.size,0,none⟩) 1 1]).run Try.prog (V.alloc (.cells #[.int .i64 x,.int .i64 y] 43))= .ok (.slice (some ⟨g,0,none⟩) (k+1) cap) V6∧
   V6.ownsRow base 43 2 (.slice (some ⟨g,0,none⟩) (k+1) cap) (k+1) (xs++[.int .i64 x,.int .i64 y])∧(V.alloc (.cells #[.int .i64 x,.int .i64 y] 43)).grownBy V6 v.ownBlock:=by
 obtain⟨i0,hinf,hz0,hz1,hz2⟩:=info_parts info43
 obtain⟨v',w',hrun,hown,hg,_,_⟩:=run_append_own_at (P:=Try.prog) (w:=V.alloc (.cells #[.int .i64 x,.int .i64 y] 43)) base 40 40 43 i0 (.agg #[.int .i64 0,.int .i64 0]) 2 16 Try.underlying40 hinf hz0 hz1 hz2 rfl (by decide) v k xs (h.alloc _) ⟨V.heap.size,0,none⟩ 1 1 [.int .i64 x,.int .i64 y] rfl (cell_two_new _ _ _ _) (by simp[Value.oneCell']) (by unfold maxLen;omega) (by omega) (by simp;omega)
 obtain⟨g,cap,rfl⟩:=ownsRow_succ hown
 exact⟨g,cap,w',hrun,hown,hg⟩
def ElemsE (base:Nat) (l:List Int) (e:Ending) (W':World):Prop:=
 (¬ValidL l∧e= .returned (.tuple #[.slice none 0 0,.int .i64 600]))∨
 (ValidL l∧∃n C v,HeadOk l n∧G l n (bkts n) C∧e= .returned (.tuple #[v,.int .i64 0])∧W'.ownsRow base 43 2 v (recsL C (bkts n)).length (cellsE l (recsL C (bkts n))))
def cD (D:Nat):Deferred:={ target:=.collected D,args:=#[] }
theorem leaves_marks {F:Fence} {n:Nat} {P:Program} {fn:Func} {tmps:Array Value} {R:Ending→World→Prop}:∀(Ds:List Nat) (W:World),Ds.Nodup→(∀D∈Ds,W.heap[D]? =some (.deferred (some [])))→
  (∀W',W'.os=W.os→W'.tape=W.tape→W'.output=W.output→W'.heap.size=W.heap.size→(∀k,k∉Ds→W'.heap[k]? =W.heap[k]?)→LeavesInM F n P fn tmps R [] .returning W')→LeavesInM F n P fn tmps R (Ds.map cD) .returning W
 | [],W,_,_,h=>h W rfl rfl rfl rfl (fun _ _=>rfl)
 |D::Ds,W,hn,hd,h=>by
  refine⟨by simp,.inl ⟨D,W.putObj D (.deferred none),rfl,run_takeDeferred (hd D (by simp)),?_⟩⟩
  have hn':=List.nodup_cons.1 hn
  refine leaves_marks Ds _ hn'.2 (fun E hE=>?_) (fun W' h1 h2 h3 h4 h5=>?_)
  ·exact(World.putObj_heap_other (by rintro rfl;exact hn'.1 hE)).trans (hd E (by simp[hE]))
  ·refine h W' (h1.trans rfl) (h2.trans rfl) (h3.trans rfl) (h4.trans (by simp[World.putObj])) (fun k hk=>?_)
   simp only[List.mem_cons,not_or]at hk
   exact(h5 k hk.2).trans (World.putObj_heap_other hk.1)
theorem _root_.Go.Proofs.Ytdcomhdadnhpnaa.G.recs {l:List Int} {n b:Nat} {C:Nat→List Nat} (g:G l n b C):∀k,k≤b→(recsL C k).Nodup∧∀r∈recsL C k,r<n∧∃i,i<k∧r∈C i
 |0,_=>⟨List.nodup_nil,by simp[recsL]⟩
 |k+1,hk=>by
  obtain⟨h1,h2⟩:=g.recs k (by omega)
  refine⟨List.nodup_append.2 ⟨h1,g.nd k (by omega),fun a ha b hb e=>?_⟩,fun r hr=>?_⟩
  ·subst e
   obtain⟨_,i,hi,hm⟩:=h2 a ha
   have:=g.only (by omega) (by omega) hm hb
   omega
  ·rcases List.mem_append.1 hr with hr |hr
   ·obtain⟨h3,i,hi,hm⟩:=h2 r hr
    exact⟨h3,i,by omega,hm⟩
   ·exact⟨g.lt (by omega) hr,k,by omega,hr⟩
theorem _root_.Go.Proofs.Ytdcomhdadnhpnaa.G.recs_le {l:List Int} {n b:Nat} {C:Nat→List Nat} (g:G l n b C) (k:Nat) (hk:k≤b):(recsL C k).length≤n:=
 nodup_len n _ (g.recs k hk).1 (fun r hr=>((g.recs k hk).2 r hr).1)
theorem app_same {W w1:World} {B:Nat} {v v':Value} {tmp:Obj} (hgrow:(W.alloc tmp).grownBy w1 v.ownBlock):∀k,k<W.heap.size→k≠B→v.ownBlock≠some k→(w1.setCell ⟨B,0,none⟩ v').heap[k]? =W.heap[k]? :=by
 intro k hk hne ho
 rw[Below.heap_setCell _ _ _ _ hne,hgrow.block k (by simp;omega) (fun e=>ho e.symm)]
 exact Below.heap_alloc _ _ _ hk
attribute [local go_sem ↓ high] append_fold
set_option maxRecDepth 100000 in
set_option maxHeartbeats 4000000 in
theorem elemsX_any (A:Option Addr) (c:Nat) (l:List Int) (w:World) (hR:RdL w A l):
  Calls Try.prog 28 #[.slice A l.length c] w fun e W'=>ElemsE w.heap.size l e W'∧Below w.heap.size w W':=by
 have hop:=opened_any A c l 0 w hR
 by_cases hV:ValidL l
 ·obtain⟨C,hH,g⟩:=validL_iff.1 hV
  generalize (ati l 0).toNat=n at hH g
  have hop2:Calls Try.prog 69 #[.slice A l.length c,.int .i64 0] w fun e W'=>(∃p B cap,e= .returned (.tuple #[.pointer (some ⟨p,0,none⟩),.int .i64 0])∧Tb w.heap.size W' p B cap l)∧Below w.heap.size w W':=by
   refine hop.mono ?_
   rintro e W' ⟨(⟨h1,_⟩ |⟨_,h1,_⟩ |⟨_,_,h1⟩),h2⟩
   ·exact absurd hV h1
   ·exact absurd (by decide) h1
   ·exact⟨h1,h2⟩
  have hlen:=hH.len
  have hl60:=wlen_ge n
  have hnn:=g.n1
  have hll:=wlen_le n (by omega)
  have hb1:=bkts_le n (by omega)
  have hbp:=bkts_pos n
  have ha1:=hH.b1
  have HG:=Lib.hid g
  have HH:=Lib.hid hH
  have HV:=Lib.hid hV
  have HOP:=Lib.hid hop2
  have HL:=Lib.hid hlen
  clear hop hop2 g hH hV hlen
  refine(callsIn_wide (n:=8)).1 ?_
  refine callsIn_of_wp_marks Try.func28 rfl trivial ?_ rfl
  simp only[Try.ntmps28,List.size_toArray,List.length_cons,List.length_nil,Nat.reduceAdd,Nat.reduceSub,Array.replicate_succ,Array.replicate_zero,List.push_toArray,List.append_toArray,List.nil_append,List.cons_append]
  refine wpIn_wide.2 ?_
  go_wp2_with fail
  refine HOP.out.mono ?_
  rintro e w1 ⟨⟨p,B,cap,rfl,hT⟩,hB1⟩
  have hT2:Tb w.heap.size ((w1.alloc (.cells #[.pointer (some ⟨p,0,none⟩)] 92)).alloc (.cells #[.slice none 0 0] 40)) p B cap l:=(hT.alloc _).alloc _
  have hp2:=hT2.head
  have c2:=hT2.cell 1 (by have:=HL.out;omega)
  rw[ha1]at c2
  have i1:(1:Int)<(l.length:Int):=by have:=HL.out;omega
  go_wp2
  obtain⟨s,hs⟩:∃s,s=w1.heap.size:=⟨_,rfl⟩
  have hs1:=hB1.size
  rw[←hs]
  obtain⟨wx,hwx⟩:∃wx,wx=w1.alloc (.cells #[.pointer (some ⟨p,0,none⟩)] 92):=⟨_,rfl⟩
  have hzx:wx.heap.size=s+1:=by rw[hwx,hs];simp
  have hTx:Tb w.heap.size wx p B cap l:=by rw[hwx];exact hT.alloc _
  have bxx:Boxed wx s 92 (.pointer (some ⟨p,0,none⟩)):=by rw[hwx,hs];exact Boxed.new _ _ _
  have hBwx:Below w.heap.size w wx:=by rw[hwx];exact hB1.alloc hs1 _
  have bo:Boxed (wx.alloc (.cells #[.slice none 0 0] 40)) (s+1) 40 (.slice none 0 0):=by rw[←hzx];exact Boxed.new _ _ _
  have hB2:Below (s+1) wx (wx.alloc (.cells #[.slice none 0 0] 40)):=by rw[←hzx];exact(Below.refl _ _).alloc (Nat.le_refl _) _
  have hz2:(wx.alloc (.cells #[.slice none 0 0] 40)).heap.size=s+2:=by simp[hzx]
  rw[←hwx]
  have hps:p<s:=by rw[hs];exact hT.ltp
  have hBs:B<s:=by rw[hs];exact hT.ltB
  have hws:w.heap.size≤s:=by omega
  clear hwx hT2 hp2 c2 i1 hs hs1 hB1 hT hR
  generalize wx.alloc (.cells #[.slice none 0 0] 40)=w2 at bo hB2 hz2 ⊢
  obtain⟨w₀,hw0⟩:∃z,z=w.heap.size:=⟨_,rfl⟩
  refine wp_loop (fun a W=>∃(k:Nat) (Ds:List Nat) (v u7 u24 u25 u26 u27 u28 u38:Value),k≤bkts n∧
    a=⟨#[.slice A l.length c,undef,.slice none 0 0,.int .i64 0,.pointer (some ⟨s,0,none⟩),.int .i64 0,.pointer (some ⟨s+1,0,none⟩),u7,undef,.tuple #[.pointer (some ⟨p,0,none⟩),.int .i64 0],.slice A l.length c,.tuple #[.pointer (some ⟨p,0,none⟩),.int .i64 0],.pointer (some ⟨p,0,none⟩),.int .i64 0,.int .i64 0,.bool false,undef,.pointer (some ⟨p,0,none⟩),.pointer (some ⟨p,0,none⟩),.pointer (some ⟨p,0,none⟩),.slice (some ⟨B,0,none⟩) l.length cap,.pointer (some ⟨B,1,none⟩),.int .i64 (bkts n:Nat),.int .i64 (k:Nat),u24,u25,u26,u27,u28,undef,undef,undef,undef,undef,undef,undef,undef,undef,u38,undef],Ds.map cD⟩∧
    Below (s+1) wx W∧Boxed W (s+1) 40 v∧W.ownsRow (s+2) 43 2 v (recsL C k).length (cellsE l (recsL C k))∧s+2≤W.heap.size∧Ds.Nodup∧∀D∈Ds,s+2≤D∧W.heap[D]? =some (.deferred (some [])))
   (fun a _=>bkts n-(intOf (a.tmps.getD 23 undef)).toNat) ?start ?round
  case start=>exact⟨0,[],_,_,_,_,_,_,_,_,Nat.zero_le _,rfl,hB2,bo,World.ownsRow_nil _ _ _ _,by omega,List.nodup_nil,by simp⟩
  case round=>
   rintro a W ⟨k,Ds,v,u7,u24,u25,u26,u27,u28,u38,hk,rfl,hBW,bv,hrow,hz,hnd,hds⟩
   have hTW:=hTx.below (by rw[hzx];exact hBW)
   have bxW:Boxed W s 92 (.pointer (some ⟨p,0,none⟩)):=(hBW.block s (by omega)).trans bxx
   by_cases hlt:k<bkts n
   ·have hk':(k:Int)<(bkts n:Int):=by omega
    have cx:=bxW.cell
    have HR:=Lib.hid hrow
    have HD:=Lib.hid hds
    clear hrow hds
    go_wp2_with (go_at_call 72;refine(chain_any p _ _).mono ?_;rintro e wc ⟨rfl,rfl⟩)
    clear cx hk'
    obtain⟨z,hzW⟩:∃z,z=W.heap.size:=⟨_,rfl⟩
    rw[←hzW]
    obtain⟨w9,hw9⟩:∃w9,w9=(W.alloc (.cells #[.pointer (some ⟨p,0,none⟩)] 92)).alloc (.cells #[.int .i64 (k:Nat)] 3):=⟨_,rfl⟩
    rw[←hw9]
    have h9:Below W.heap.size W w9:=by rw[hw9];exact((Below.refl _ _).alloc (Nat.le_refl _) _).alloc (by simp) _
    have hz9:w9.heap.size=z+2:=by rw[hw9,hzW];simp
    have bt9:Boxed w9 z 92 (.pointer (some ⟨p,0,none⟩)):=by rw[hw9,hzW];exact(Boxed.new _ _ _).alloc _
    have bi9:Boxed w9 (z+1) 3 (.int .i64 (k:Nat)):=by
     have h:=Boxed.new (W.alloc (.cells #[.pointer (some ⟨p,0,none⟩)] 92)) 3 (.int .i64 (k:Nat))
     rw[World.size_alloc,←hzW]at h;rw[hw9];exact h
    have hB9:Below (s+1) wx w9:=hBW.trans (h9.mono (by omega))
    have bv9:=boxed_below bv h9
    have hr9:=own_move (w1:=w9) HR.out (fun j hj=>h9.block j (HR.out.lt j hj).2)
    have hd9:∀D∈Ds,w9.heap[D]? =some (.deferred (some [])):=fun D hD=>by
     obtain⟨h1,h2⟩:=HD.out D hD
     exact(h9.block D (lt_heap h2)).trans h2
    have hDlt:∀D∈Ds,s+2≤D∧D<z:=fun D hD=>by
     obtain⟨h1,h2⟩:=HD.out D hD
     exact⟨h1,by rw[hzW];exact lt_heap h2⟩
    have hTb:∀V,Below (s+1) wx V→Tb w.heap.size V p B cap l:=fun V hb=>hTx.below (by rw[hzx];exact hb)
    have hbx:∀V,Below (s+1) wx V→Boxed V s 92 (.pointer (some ⟨p,0,none⟩)):=fun V hb=>(hb.block s (by omega)).trans bxx
    have hT9:=(hTb w9 hB9).r
    have bct:=bt9.cell
    have bci:=bi9.cell
    have hzs:s+2≤z:=by omega
    have hll1:l.length≤100000000:=by have:=HL.out;omega
    have h41:4≤l.length:=by have:=HL.out;omega
    have hib:k≤1000000:=by omega
    have hrec:∀q∈wf (headAt k) (C k),recAt q.1+2<l.length∧q.1≤100000:=fun q hq=>by
     have hm:q.1∈C k:=by rw[←wf_map (headAt k) (C k)];exact List.mem_map_of_mem hq
     have:=HG.out.lt hlt hm
     exact⟨HG.out.rl _ this,by omega⟩
    have hch:=(HG.out.chn k hlt).chn
    have hmap:=toRF_map l.length (wf (headAt k) (C k)) hrec
    have hcl:=HG.out.clen hlt
    generalize toRF l.length (wf (headAt k) (C k)) hrec=cr at hmap
    rw[←hmap]at hch
    have hmp:cr.map (·.1.1)=C k:=by
     have:=congrArg (List.map (·.1)) hmap
     rw[wf_map,List.map_map]at this
     exact this
    have hrl:(recsL C k).length≤200000:=by have:=HG.out.recs_le k (by omega);omega
    have HMP:=Lib.hid hmp
    have HCL:=Lib.hid hcl
    have HZW:=Lib.hid hzW
    have HZ9:=Lib.hid hz9
    have HH9:=Lib.hid h9
    have HRL:=Lib.hid hrl
    have HDL:=Lib.hid hDlt
    clear hrec hmap hmp hcl hw9 hzW hz9 h9 hrl hz bv hTW bxW hDlt
    have hcrl:cr.length≤200000:=by have:=congrArg List.length HMP.out;rw[List.length_map]at this;have:=HCL.out;omega
    have HCR:=Lib.hid hcrl
    clear hcrl
    have hsw:s+1≤wx.heap.size:=by omega
    refine(wpIn_wide (n:=8)).1 ?_
    refine wpIn_rangeFunc_ownG (n:=8) rfl (by omega) (gf:=102) (lb:=#[.pointer (some ⟨z+1,0,none⟩),.pointer (some ⟨z,0,none⟩)]) rfl trivial (enters_of Try.func102 (by kernel_rfl) rfl)
     (chain_stops (α:=RF l.length) Subtype.val (8-1) (by omega) p B 0 cap z (z+1) k l cr hib hll1 h41 w9 hT9 bct bci hch)
     Keep.trans (fun W l o o' _ h hc _=>Keep.putObj W l o o' h hc) (Below.refl _ _) (fun _=>rfl)
     (fun pr V=>((∃ v,Boxed V (s+1) 40 v∧V.ownsRow (s+2) 43 2 v (recsL C k++pr.map (·.1.1)).length (cellsE l (recsL C k++pr.map (·.1.1))))∧(∀D∈Ds,V.heap[D]? =some (.deferred (some [])))∧Boxed V z 92 (.pointer (some ⟨p,0,none⟩))∧Boxed V (z+1) 3 (.int .i64 (k:Nat))∧z+2≤V.heap.size)∧Below (s+1) wx V)
     (fun c pr V=>False)
     ?hI ?hIx ?h0
     (fun y=>{ tmps:=#[.slice A l.length c,undef,.slice none 0 0,.int .i64 0,.pointer (some ⟨s,0,none⟩),.int .i64 0,.pointer (some ⟨s+1,0,none⟩),.int .i64 (k:Nat),.int .i64 (y.1.1:Nat),.tuple #[.pointer (some ⟨p,0,none⟩),.int .i64 0],.slice A l.length c,.tuple #[.pointer (some ⟨p,0,none⟩),.int .i64 0],.pointer (some ⟨p,0,none⟩),.int .i64 0,.int .i64 0,.bool false,undef,.pointer (some ⟨p,0,none⟩),.pointer (some ⟨p,0,none⟩),.pointer (some ⟨p,0,none⟩),.slice (some ⟨B,0,none⟩) l.length cap,.pointer (some ⟨B,1,none⟩),.int .i64 (bkts n:Nat),.int .i64 (k:Nat),.bool true,.int .i64 (k:Nat),.pointer (some ⟨p,0,none⟩),.int .i64 (k:Nat),.func (Fn.func 102) #[] #[.pointer (some ⟨z+1,0,none⟩),.pointer (some ⟨z,0,none⟩)],.int .i64 (y.1.1:Nat),.int .i64 (y.1.2:Nat),undef,undef,undef,undef,undef,undef,undef,u38,undef],defers:=[] }) ?assign ?body ?done ?stop
    case hI=>
     refine OwnFrom.and (fun pr A B row hs hg hr=>?_) (ownFrom_below hsw (by have:=HZ9.out;omega))
     have hk:=keep_of_own hg hr
     obtain⟨⟨v,k1,k4⟩,k5,k6,k7,k2⟩:=hs
     refine⟨⟨v,hk _ _ trivial k1 rfl,own_keepS k4 hk⟩,fun D hD=>?_,hk _ _ trivial k6 rfl,hk _ _ trivial k7 rfl,Nat.le_trans k2 hg.size⟩
     have h2:=k5 D hD
     rw[hg.block D (lt_heap h2) (fun e=>by obtain⟨h3,_⟩:=hr D e.symm;have:=(HDL.out D hD).2;have:=HZ9.out;omega)]
     exact h2
    case hIx=>
     intro c pr A B row hs hg hr
     exact hs.elim
    case h0=>exact⟨⟨⟨_,bv9,by simpa using hr9⟩,hd9,bt9,bi9,by have:=HZ9.out;omega⟩,hB9⟩
    case assign=>
     intro L y W K hK
     dsimp only[encRF]
     gi_wp2
     exact hK
    case body=>
     rintro L pr y V ⟨⟨⟨v,k1,kr⟩,k2,k3,k4,k5⟩,hB⟩ hlt
     have hy1:=y.2.1
     have hy2:=y.2.2
     have cx:=(hbx V hB).cell
     have co:=k1.cell
     have fo:=k1.frozen
     have hT1:=hTb V hB
     have hnl:(recsL C k++pr.map (·.1.1)).length≤1000000:=by have:=HRL.out;have:=HCR.out;simp;omega
     obtain⟨rs,hrs⟩:∃rs,rs=recsL C k++pr.map (·.1.1):=⟨_,rfl⟩
     rw[←hrs]at kr hnl
     have KR:=Lib.hid kr
     have HRS:=Lib.hid hrs
     have n3:=k3.not_row (by decide) kr
     have n4:=k4.not_row (by decide) kr
     clear kr hrs
     gi_wp2
     gi_region_with (first
      |(refine⟨trivial,?_⟩;gi_at_call 73;refine(CallsIn.inRound L (callsIn_wide.2 (record_any p (y.1.1:Nat) _ (by omega) (by omega)))).mono ?_;rintro e V1 ⟨rfl,hb1⟩;rw[Int.toNat_natCast];have co1:=cell_below hb1 (show V.drew.cell? ⟨s+1,0,none⟩=_ from co))
      |(refine⟨trivial,?_⟩;gi_at_call 77;refine(CallsIn.inRound L (callsIn_wide.2 (elem_any V1 p B 0 cap l (hT1.drew.below hb1).r ((recAt y.1.1:Nat):Int) (by omega) (by omega) (by omega)))).mono ?_;rintro e V2 ⟨rfl,hb2⟩;rw[Int.toNat_natCast];have hb12:Below V.heap.size V V2:=((Below.refl _ _).drew.trans hb1).trans (hb2.mono hb1.size);have no5:=boxed_below k1 hb12;have co5:=no5.cell;have co6:=(no5.alloc (.cells #[.int .i64 (ati l (recAt y.1.1)),.int .i64 (ati l (recAt y.1.1+1))] 43)).cell;have fo5:=no5.frozen;have nr5:=own_move (w1:=V2) KR.out (fun j hj=>hb12.block j (KR.out.lt j hj).2);have nz5:s+2≤V2.heap.size:=(by have:=hb12.size;omega);obtain⟨g',cap',V6,hrun,hown',hgrow⟩:=app_fact43 nr5 nz5 hnl (ati l (recAt y.1.1)) (ati l (recAt y.1.1+1));obtain⟨hv1,hv2,hr2,hk2,hb6,hsame⟩:=boxed_appended (n₀:=s+1) no5 (by decide) nr5 nz5 (by omega) (Nat.le_refl _) hown' hgrow;have cv1:=hv1.cell;have fv1:=hv1.frozen;have HO6:=Lib.hid hown';have HR5:=Lib.hid nr5;have HR6:=Lib.hid hr2;clear hown' nr5 hr2)
      |(rw[hrun]))
     all_goals
      gi_wp2
      have hz12:=hb12.size
      have hat:∀j,j=p∨j=B∨j=z∨j=z+1→(V6.setCell ⟨s+1,0,none⟩ (.slice (some ⟨g',0,none⟩) (rs.length+1) cap')).heap[j]? =V.heap[j]? :=fun j hj=>by
       have hjl:j<V.heap.size:=by have:=hB.size;rcases hj with rfl |rfl |rfl |rfl<;>omega
       have ho:v.ownBlock≠some j:=by
        rcases hj with rfl |rfl |rfl |rfl
        ·intro e;have:=(KR.out.lt _ e).1;omega
        ·intro e;have:=(KR.out.lt _ e).1;omega
        ·exact fun e=>n3 e.symm
        ·exact fun e=>n4 e.symm
       exact(app_same hgrow j (by omega) (by rcases hj with rfl |rfl |rfl |rfl<;>omega) ho).trans (hb12.block j hjl)
      have hkk:=(keepsOthers_of_below hb12).trans hk2
      refine⟨hkk.from _,keep_of_same hat,⟨⟨_,hv2,?_⟩,fun D hD=>?_,(hat z (by simp)).trans k3,(hat (z+1) (by simp)).trans k4,Nat.le_trans k5 hkk.size⟩,(hB.trans (hb12.mono (by omega))).trans hb6⟩
      ·have:=HR6.out
       rw[show recsL C k++(pr++[y]).map (·.1.1)=rs++[y.1.1]by rw[HRS.out];simp,List.length_append,cellsE_append]
       exact this
      ·have h2:=k2 D hD
       exact hkk.same D _ h2 rfl
    case done=>
     rintro D ys V hD rfl ⟨⟨⟨v,k1,kr⟩,k2,k3,k4,k5⟩,hB⟩ hK
     have e1:IntKind.i64.wrap ((k:Int)+1)=(k:Int)+1:=IntWalk.i64_in _ (by omega)
     rw[HMP.out]at kr
     have KR:=Lib.hid kr
     have K2:=Lib.hid k2
     have HK:=Lib.hid hK
     clear kr k2 hK
     gi_wp2
     go_wp2
     refine⟨⟨k+1,D::Ds,v,_,_,_,_,_,_,_,by omega,rfl,hB,k1,KR.out,by omega,?_,?_⟩,?_⟩
     ·refine List.nodup_cons.2 ⟨fun hm=>?_,hnd⟩
      have:=(HDL.out D hm).2
      have:=HZ9.out
      omega
     ·intro E hE
      rcases List.mem_cons.1 hE with rfl |hE
      ·exact⟨by have:=HZ9.out;omega,HK.out⟩
      ·exact⟨(HDL.out E hE).1,K2.out E hE⟩
     ·simp[intOf];omega
    case stop=>
     rintro D c pre W _ _ h _
     exact h.elim
   ·have hkk:k=bkts n:=by omega
    subst hkk
    have hk':¬((bkts n:Nat):Int)<(bkts n:Int):=by omega
    have co:=bv.cell
    have HR:=Lib.hid hrow
    have HD:=Lib.hid hds
    clear hrow hds
    go_wp2
    refine leaves_marks Ds _ hnd (fun D hD=>(HD.out D hD).2) (fun W' h1 h2 h3 h4 h5=>?_)
    refine⟨.tuple #[v,.int .i64 0],by simp[results,Try.results28,go_sem],.inr ⟨HV.out,?_⟩,?_⟩
    ·refine⟨n,C,v,HH.out,HG.out,rfl,?_⟩
     refine ownsRow_lower (own_move HR.out (fun j hj=>h5 j fun hm=>?_)) (by omega)
     have h6:=(HD.out j hm).2
     rcases HR.out.2 with⟨rfl,_⟩ |⟨g,cap,cur,rfl,_,hgb,_⟩
     ·simp[Value.ownBlock]at hj
     ·simp[Value.ownBlock]at hj
      subst hj
      rw[hgb]at h6
      cases h6
    ·have hb:=hBwx.trans (hBW.mono (by omega))
     exact⟨h1.trans hb.os,h2.trans hb.tape,h3.trans hb.output,by rw[h4];exact hb.size,fun j hj=>(h5 j fun hm=>by have:=(HD.out j hm).1;omega).trans (hb.block j hj)⟩
 ·have HOP:=Lib.hid hop
  clear hop
  go_enter Try.func28,Try.ntmps28
  go_wp2_with fail
  refine HOP.out.mono ?_
  rintro e w1 ⟨(⟨h1,rfl⟩ |⟨h1,h2,rfl⟩ |⟨h1,h2,_⟩),hB1⟩
  ·go_wp2
   refine bodyPost_ret (v:=.tuple #[.slice none 0 0,.int .i64 600]) (by simp[results,Try.results28,go_sem]) rfl ?_
   exact⟨.inl ⟨h1,rfl⟩,hB1.alloc hB1.size _⟩
  ·exact absurd h1 hV
  ·exact absurd h1 hV
end Go.Proofs.Ytdcomhdadnhpnaa
end
section
namespace Go.Proofs.Ytdcomhdadnhpnaa
variable {l l':List Int} {n b:Nat} {C C':Nat→List Nat}
abbrev okH (h:Int):Prop:=0≤h∧h≤2147483647
noncomputable def wds (l:List Int) (h:Int):List Int:=outL l h (tabC l (bkt h.toNat (bkts (tabN l))))
theorem wds_g (hH:HeadOk l n) (g:G l n (bkts n) C) (h:Int):wds l h=outL l h (C (bkt h.toNat (bkts n))):=by
 unfold wds
 rw[tab_n hH,tab_c hH g (bkt_lt _ (by have:=bkts8 n;omega))]
theorem hasR_wds {rs:List Nat} {h x:Int}:hasR l h x rs=true↔x∈outL l h rs:=by
 rw[outL_mem]
 unfold hasR
 simp only[List.any_eq_true,decide_eq_true_eq]
theorem addF_has (hV:ValidL l) {h x:Int} (hh:okH h) (hx:x∈wds l h):addF l h x=(0,[],6):=by
 have h1:hasR l h x (tabC l (bkt h.toNat (bkts (tabN l))))=true:=hasR_wds.2 hx
 rw[addF_ok hV hh]
 unfold addR
 rw[if_neg (by simpa using hh),if_pos h1]
 simp
theorem addF_new (hV:ValidL l) {h x:Int} (hh:okH h) (hx:x∉wds l h) (hn:tabN l<100000):
  (addF l h x).2.2=0∧ValidL (addF l h x).2.1∧tabN (addF l h x).2.1=tabN l+1∧∀h',wds (addF l h x).2.1 h'=wds l h'++(if h'=h then [x]else []):=by
 have h1:hasR l h x (tabC l (bkt h.toNat (bkts (tabN l))))=false:=by
  rw[Bool.eq_false_iff];exact fun e=>hx (hasR_wds.1 e)
 have g:=tab_g hV
 have hH:=tab_h hV
 have h0:(addR l (tabN l) (tabC l) h x).2.1=0:=by
  unfold addR
  rw[if_neg (by simpa using hh),if_neg (by rw[h1];simp),if_neg (by omega)]
  split<;>rfl
 rw[addF_ok hV hh,if_pos h0]
 have ha:=g.add hH h0
 refine⟨h0,g_validL ha.2.2.2.1 ha.2.2.2.2.1,tab_n ha.2.2.2.1,fun h'=>?_⟩
 rw[wds_g ha.2.2.2.1 ha.2.2.2.2.1]
 exact g.add_out hH h0
theorem addF_bad (hV:ValidL l) {h x:Int} (hh:¬okH h):addF l h x=(0,[],1):=by
 unfold addF;rw[if_neg (by simpa using hV),if_pos hh]
theorem dropF_has (hV:ValidL l) {h x:Int} (hh:okH h) (hx:x∈wds l h):
  (dropF l h x).2.2=0∧ValidL (dropF l h x).2.1∧tabN (dropF l h x).2.1+1=tabN l∧∀h',wds (dropF l h x).2.1 h'=if h'=h then(wds l h).erase x else wds l h':=by
 obtain⟨k,l',C',hD,e⟩:=dropF_ok (x:=x) hV hh (hasR_wds.2 hx)
 have g:=tab_g hV
 have hH:=tab_h hV
 obtain⟨h0,hg,hH'⟩:=g.drop hH hD
 rw[e]
 refine⟨rfl,g_validL hH' hg,by rw[tab_n hH'];omega,fun h'=>?_⟩
 rw[wds_g hH' hg]
 exact g.drop_out hH hD
theorem wds_nodup (hV:ValidL l) (h:Int):(wds l h).Nodup:=by
 have g:=tab_g hV
 have hi:=bkt_lt h.toNat (b:=bkts (tabN l)) (by have:=bkts8 (tabN l);omega)
 unfold wds outL
 refine List.pairwise_map.2 ((List.Pairwise.filter _ (g.nd _ hi)).imp_of_mem ?_)
 intro r s hr hs hne e
 simp only[List.mem_filter,decide_eq_true_eq]at hr hs
 exact hne (g.dif r (g.lt hi hr.1) s (g.lt hi hs.1) (hr.2.trans hs.2.symm) e)
noncomputable def ordF (l:List Int):List (Int×Int):=(recsL (tabC l) (bkts (tabN l))).map (elm l)
theorem recsL_mem {C:Nat→List Nat} {r:Nat}:∀ {k:Nat},r∈recsL C k↔∃i,i<k∧r∈C i
 |0=>by simp[recsL]
 |k+1=>by
  rw[recsL,List.mem_append,recsL_mem (k:=k)]
  constructor
  ·rintro(⟨i,h1,h2⟩ |h)
   ·exact⟨i,by omega,h2⟩
   ·exact⟨k,by omega,h⟩
  ·rintro⟨i,h1,h2⟩
   by_cases e:i=k
   ·exact .inr (e ▸ h2)
   ·exact .inl ⟨i,by omega,h2⟩
theorem ordF_mem (hV:ValidL l) {h x:Int}:(h,x)∈ordF l↔x∈wds l h:=by
 have g:=tab_g hV
 have h8:=bkts8 (tabN l)
 unfold ordF wds
 rw[outL_mem]
 simp only[List.mem_map,recsL_mem,elm,Prod.mk.injEq]
 constructor
 ·rintro⟨r,⟨i,hi,hr⟩,e1,e2⟩
  have:=((g.mem i hi r).1 hr).2
  rw[e1]at this
  exact⟨r,by rw[this];exact hr,e1,e2⟩
 ·rintro⟨r,hr,e1,e2⟩
  exact⟨r,⟨_,bkt_lt _ (by omega),hr⟩,e1,e2⟩
theorem nodup_len_ge:∀(n:Nat) (m:List Nat),(∀r,r<n→r∈m)→n≤m.length
 |0,_,_=>Nat.zero_le _
 |n+1,m,h=>by
  have h1:=h n (by omega)
  have:=nodup_len_ge n (m.erase n) (fun r hr=>(List.mem_erase_of_ne (by omega)).2 (h r (by omega)))
  rw[List.length_erase_of_mem h1]at this
  have:=List.length_pos_of_mem h1
  omega
theorem ordF_len (hV:ValidL l):(ordF l).length=tabN l:=by
 have g:=tab_g hV
 have h8:=bkts8 (tabN l)
 unfold ordF
 rw[List.length_map]
 have h1:=g.recs_le _ (Nat.le_refl _)
 have h2:=nodup_len_ge (tabN l) (recsL (tabC l) (bkts (tabN l))) (fun r hr=>recsL_mem.2 ⟨bkt (ati l (recAt r)).toNat (bkts (tabN l)),bkt_lt _ (by omega),(g.mem _ (bkt_lt _ (by omega)) r).2 ⟨hr,rfl⟩⟩)
 omega
theorem srt_ext:∀ {A B:List (Int×Int)},A.Pairwise (fun x y=>x.1≤y.1)→B.Pairwise (fun x y=>x.1≤y.1)→(∀h,A.filter (fun e=>decide (e.1=h))=B.filter (fun e=>decide (e.1=h)))→A=B
 | [],[],_,_,_=>rfl
 | [],y::B,_,_,h=>by have:=h y.1;simp at this
 |x::A,[],_,_,h=>by have:=h x.1;simp at this
 |x::A,y::B,hA,hB,h=>by
  have pA:=List.pairwise_cons.1 hA
  have pB:=List.pairwise_cons.1 hB
  have hle:∀ {x y:Int×Int} {A B:List (Int×Int)},(∀z∈B,y.1≤z.1)→(∀h,(x::A).filter (fun e=>decide (e.1=h))=(y::B).filter (fun e=>decide (e.1=h)))→y.1≤x.1:=by
   intro x y A B hB h
   have h1:x∈(y::B).filter (fun e=>decide (e.1=x.1)):=by rw[←h x.1];simp
   rcases List.mem_cons.1 (List.mem_filter.1 h1).1 with rfl |h2
   ·exact Int.le_refl _
   ·exact hB x h2
  have h1:=hle pB.1 h
  have h2:=hle pA.1 (fun k=>(h k).symm)
  have e:x.1=y.1:=by omega
  have hx:=h x.1
  rw[List.filter_cons,List.filter_cons,if_pos (by simp),if_pos (by simp[e])]at hx
  have exy:x=y:=(List.cons.inj hx).1
  subst exy
  rw[srt_ext pA.2 pB.2 (fun k=>?_)]
  have hk:=h k
  rw[List.filter_cons,List.filter_cons]at hk
  split at hk
  ·exact(List.cons.inj hk).2
  ·exact hk
theorem outL_pairs (h:Int) (rs:List Nat):(rs.map (elm l)).filter (fun e=>decide (e.1=h))=(outL l h rs).map fun w=>(h,w):=by
 unfold outL
 induction rs with
 |nil=>rfl
 |cons r rs ih=>
  rw[List.map_cons,List.filter_cons,List.filter_cons]
  by_cases e:ati l (recAt r)=h
  ·rw[if_pos (show decide ((elm l r).1=h)=true from decide_eq_true e),if_pos (show decide (ati l (recAt r)=h)=true from decide_eq_true e),List.map_cons,List.map_cons,ih]
   simp[elm,e]
  ·rw[if_neg (show ¬decide ((elm l r).1=h)=true from fun h1=>e (of_decide_eq_true h1)),if_neg (show ¬decide (ati l (recAt r)=h)=true from fun h1=>e (of_decide_eq_true h1)),ih]
theorem fresh_v:ValidL freshL:=g_validL freshL_head freshL_g
end Go.Proofs.Ytdcomhdadnhpnaa
end
section
namespace Go.Proofs.Ytdcomhdadnhpnaa
open Go.RowKit
def CountE (l:List Int) (e:Ending):Prop:=
 (¬ValidL l∧e= .returned (.tuple #[.int .i64 0,.int .i64 600]))∨(ValidL l∧e= .returned (.tuple #[.int .i64 (ati l 0),.int .i64 0]))
set_option maxRecDepth 100000 in
set_option maxHeartbeats 1000000 in
theorem countX_any (A:Option Addr) (c:Nat) (l:List Int) (w:World) (hR:RdL w A l):
  Calls Try.prog 45 #[.slice A l.length c] w fun e W'=>CountE l e∧Below w.heap.size w W':=by
 go_enter Try.func45,Try.ntmps45
 go_wp2_with fail
 refine(opened_any A c l 0 w hR).mono ?_
 rintro e w1 ⟨(⟨hV,rfl⟩ |⟨hV,hh,rfl⟩ |⟨hV,hh,p,B,cap,rfl,hT⟩),hB1⟩
 ·go_wp2
  refine bodyPost_ret (v:=.tuple #[.int .i64 0,.int .i64 600]) (by simp[results,Try.results45,go_sem]) rfl ?_
  exact⟨.inl ⟨hV,rfl⟩,hB1⟩
 ·exact absurd (by decide) hh
 ·have h60:=hV.len60
  have HV:=Lib.hid hV
  have HT:=Lib.hid hT
  clear hV hT hh
  go_wp2_with fail
  refine(count_any _ p B 0 cap l HT.out.r (by omega)).mono ?_
  rintro e w2 ⟨rfl,rfl⟩
  go_wp2
  refine bodyPost_ret (v:=.tuple #[.int .i64 (ati l 0),.int .i64 0]) (by simp[results,Try.results45,go_sem]) rfl ?_
  exact⟨.inr ⟨HV.out,rfl⟩,hB1⟩
theorem find_tab {base p B cap:Nat} {l:List Int} {n:Nat} {C:Nat→List Nat} {h x:Int} (hH:HeadOk l n) (g:G l n (bkts n) C) (hh0:0≤h) (hh1:h≤2147483647) (W:World) (hT:Tb base W p B cap l):
  Calls Try.prog 86 #[.pointer (some ⟨p,0,none⟩),.agg #[.int .i64 h,.int .i64 x]] W fun e W'=>
   e= .returned (.tuple #[.int .i64 (findC l h x (wf (headAt (bkt h.toNat (bkts n))) (C (bkt h.toNat (bkts n)))) 0).1,.int .i64 (findC l h x (wf (headAt (bkt h.toNat (bkts n))) (C (bkt h.toNat (bkts n)))) 0).2.1,.int .i64 (findC l h x (wf (headAt (bkt h.toNat (bkts n))) (C (bkt h.toNat (bkts n)))) 0).2.2])∧Below W.heap.size W W':=by
 have hb0:=bkts_pos n
 have hnn:=g.n1
 have hb1:=bkts_le n (by omega)
 have hlen:=hH.len
 have hl60:=wlen_ge n
 have hll:=wlen_le n (by omega)
 have hi:=bkt_lt h.toNat (b:=bkts n) (by omega)
 have ha1:=hH.b1
 exact find_any p B 0 cap h x l _ (by omega) (by omega) W hh0 (by omega) hT.r (by omega) (by omega) (by rw[hH.b1'];exact(g.chn _ hi).chn)
  (fun q hq=>by
   have hm:q.1∈C (bkt h.toNat (bkts n)):=by rw[←wf_map (headAt (bkt h.toNat (bkts n))) (C (bkt h.toNat (bkts n)))];exact List.mem_map_of_mem hq
   have:=g.lt hi hm
   exact⟨g.rl _ this,by omega⟩)
  (by rw[wf_len];have:=g.clen hi;omega)
def PutQ (l:List Int) (h x v:Int) (l':List Int) (c:Int):Prop:=
 (¬ValidL l∧l'=[]∧c=600)∨
 (ValidL l∧¬(0≤h∧h≤2147483647)∧l'=[]∧c=1)∨
 (ValidL l∧(0≤h∧h≤2147483647)∧∃n C,HeadOk l n∧G l n (bkts n) C∧
  ((hasR l h x (C (bkt h.toNat (bkts n)))=false∧l'=[]∧c=5)∨
   (hasR l h x (C (bkt h.toNat (bkts n)))=true∧v≠x∧hasR l h v (C (bkt h.toNat (bkts n)))=true∧l'=[]∧c=6)∨
   ((v=x∨hasR l h v (C (bkt h.toNat (bkts n)))=false)∧c=0∧∃r,r∈C (bkt h.toNat (bkts n))∧hits l h x r∧l'=l.set (recAt r+1) v)))
def MadeE2 (base:Nat) (e:Ending) (W':World) (R:List Int→Int→Prop):Prop:=
 (∃c,c≠0∧e= .returned (.tuple #[.slice none 0 0,.int .i64 c])∧R [] c)∨
 (∃B cap l',e= .returned (.tuple #[.slice (some ⟨B,0,none⟩) l'.length cap,.int .i64 0])∧Rw base W' B cap l'∧R l' 0)
set_option maxRecDepth 100000 in
set_option maxHeartbeats 4000000 in
theorem putX_any (A:Option Addr) (c:Nat) (l:List Int) (h x v:Int) (w:World) (hR:RdL w A l):
  Calls Try.prog 38 #[.slice A l.length c,.int .i64 h,.int .i64 x,.int .i64 v] w fun e W'=>MadeE2 w.heap.size e W' (PutQ l h x v)∧Below w.heap.size w W':=by
 go_enter Try.func38,Try.ntmps38
 go_wp2_with fail
 refine(opened_any A c l h w hR).mono ?_
 rintro e w1 ⟨(⟨hV,rfl⟩ |⟨hV,hh,rfl⟩ |⟨hV,hh,p,B,cap,rfl,hT⟩),hB1⟩
 ·go_wp2
  refine bodyPost_ret (v:=.tuple #[.slice none 0 0,.int .i64 600]) (by simp[results,Try.results38,go_sem]) rfl ?_
  exact⟨.inl ⟨600,by decide,rfl,.inl ⟨hV,rfl,rfl⟩⟩,hB1⟩
 ·have HH:=Lib.hid hh
  clear hh
  go_wp2
  refine bodyPost_ret (v:=.tuple #[.slice none 0 0,.int .i64 1]) (by simp[results,Try.results38,go_sem]) rfl ?_
  exact⟨.inl ⟨1,by decide,rfl,.inr (.inl ⟨hV,HH.out,rfl,rfl⟩)⟩,hB1⟩
 ·obtain⟨C,hH,g⟩:=validL_iff.1 hV
  generalize (ati l 0).toNat=n at hH g
  have hbld:∀(W:World) (x:Int),(Instr.build 43 #[(0,.int .i64 h),(1,.int .i64 x)]).run Try.prog W= .ok (.agg #[.int .i64 h,.int .i64 x]) W:=fun _ _=>by kernel_rfl
  have hfind:=fun(x:Int) (W:World) (hT:Tb w.heap.size W p B cap l)=>find_tab (x:=x) hH g hh.1 hh.2 W hT
  have hQ:∀l' c,((hasR l h x (C (bkt h.toNat (bkts n)))=false∧l'=[]∧c=5)∨
   (hasR l h x (C (bkt h.toNat (bkts n)))=true∧v≠x∧hasR l h v (C (bkt h.toNat (bkts n)))=true∧l'=[]∧c=6)∨
   ((v=x∨hasR l h v (C (bkt h.toNat (bkts n)))=false)∧c=0∧∃r,r∈C (bkt h.toNat (bkts n))∧hits l h x r∧l'=l.set (recAt r+1) v))→PutQ l h x v l' c:=fun l' c q=>.inr (.inr ⟨hV,hh,n,C,hH,g,q⟩)
  have HF:=Lib.hid hfind
  have HQ:=Lib.hid hQ
  have HT:=Lib.hid hT
  have hrl:∀r∈C (bkt h.toNat (bkts n)),r≤100000∧recAt r+2<l.length:=fun r hr=>by
   have hi:=bkt_lt h.toNat (b:=bkts n) (by have:=bkts_pos n;omega)
   have h1:=g.lt hi hr
   have:=g.n1
   exact⟨by omega,g.rl r h1⟩
  have HRL:=Lib.hid hrl
  have hVle:=hV.le
  clear hQ hV hh hH g hT hfind hrl
  by_cases hx:hasR l h x (C (bkt h.toNat (bkts n)))=true
  ·obtain⟨pre,r,post,hC,_,hhit,hfx⟩:=findC_wf_yes (f:=headAt (bkt h.toNat (bkts n))) hx
   have hrC:r∈C (bkt h.toNat (bkts n)):=by rw[hC];simp
   obtain⟨hr1,hr2⟩:=HRL.out r hrC
   have HX:=Lib.hid (And.intro hx (And.intro hrC hhit))
   clear hx hrC hhit hC
   have hf1:=HF.out x w1 HT.out
   rw[hfx]at hf1
   clear hfx
   have HF1:=Lib.hid hf1
   clear hf1
   go_wp2_with fail
   refine HF1.out.mono ?_
   rintro e w2 ⟨rfl,hB2⟩
   have HT2:=Lib.hid (HT.out.below hB2)
   have hs1:=hB1.size
   have HB2:=Lib.hid (hB1.trans (hB2.mono hs1))
   have hr0:¬((r:Int)<0):=by omega
   by_cases hv:hasR l h v (C (bkt h.toNat (bkts n)))=true
   ·obtain⟨pre2,r2,post2,hC2,_,hhit2,hfv⟩:=findC_wf_yes (f:=headAt (bkt h.toNat (bkts n))) hv
    have hf2:=HF.out v w2 HT2.out
    rw[hfv]at hf2
    clear hfv hC2
    have HF2:=Lib.hid hf2
    have HV2:=Lib.hid hv
    clear hf2 hv hhit2
    go_wp2_with fail
    refine HF2.out.mono ?_
    rintro e w3 ⟨rfl,hB3⟩
    have HT3:=Lib.hid (HT2.out.below hB3)
    have HB3:=Lib.hid (HB2.out.trans (hB3.mono HB2.out.size))
    by_cases hvx:v=x
    ·try subst hvx
     go_wp2_with fail
     have hT4:=HT3.out.drew
     have hp4:=hT4.head
     have hfz:=hT4.frz (recAt r+1)
     have hcw:=hT4.cell (recAt r+1) (by omega)
     have hi0:(0:Int)≤((recAt r:Nat):Int)+1:=by omega
     have hi1:((recAt r:Nat):Int)+1<(l.length:Int):=by omega
     have hi2:(((recAt r:Nat):Int)+1).toNat=recAt r+1:=by omega
     have hwr:IntKind.i64.wrap (((recAt r:Nat):Int)+1)=((recAt r:Nat):Int)+1:=IntWalk.i64_in _ (by omega)
     have HT4:=Lib.hid hT4
     clear hT4
     go_region_with (go_at_call 87;refine(recordAt_any _ _ (by omega) (by omega)).mono ?_;rintro e w5 ⟨rfl,rfl⟩;rw[Int.toNat_natCast])
     all_goals
      have hF5:Fr p B w3 ((w3.setCell ⟨B,recAt r+1,none⟩ (.int .i64 v)).drew):=((Fr.refl p B w3).setCell (.inr (.inl rfl)) _).drew
      have hT5:=(HT3.out.set (recAt r+1) v).drew
      have hp5:=hT5.head
      rw[List.length_set]at hp5
      have HT5:=Lib.hid hT5
      have HF5:=Lib.hid hF5
      clear hT5 hF5
      go_wp2
      refine bodyPost_ret (v:=.tuple #[.slice (some ⟨B,0,none⟩) l.length cap,.int .i64 0]) (by simp[results,Try.results38,go_sem]) rfl ?_
      exact⟨.inr ⟨B,cap,l.set (recAt r+1) v,by rw[List.length_set],HT5.out.rw_,HQ.out _ _ (.inr (.inr ⟨.inl (by first |exact rfl |trivial),rfl,r,HX.out.2.1,HX.out.2.2,rfl⟩))⟩,HB3.out.trans (Fr.below HF5.out HB3.out.size HT.out.pb HT.out.bb)⟩
    ·go_wp2
     refine bodyPost_ret (v:=.tuple #[.slice none 0 0,.int .i64 6]) (by simp[results,Try.results38,go_sem]) rfl ?_
     exact⟨.inl ⟨6,by decide,rfl,HQ.out _ _ (.inr (.inl ⟨HX.out.1,hvx,HV2.out,rfl,rfl⟩))⟩,HB3.out⟩
   ·have hv':hasR l h v (C (bkt h.toNat (bkts n)))=false:=by simpa using hv
    have hfv:=findC_wf_no (f:=headAt (bkt h.toNat (bkts n))) hv'
    have hf2:=HF.out v w2 HT2.out
    rw[hfv]at hf2
    clear hfv
    have HF2:=Lib.hid hf2
    have HV2:=Lib.hid hv'
    clear hf2 hv hv'
    go_wp2_with fail
    refine HF2.out.mono ?_
    rintro e w3 ⟨rfl,hB3⟩
    have HT3:=Lib.hid (HT2.out.below hB3)
    have HB3:=Lib.hid (HB2.out.trans (hB3.mono HB2.out.size))
    by_cases hvx:v=x
    ·try subst hvx
     go_wp2_with fail
     have hT4:=HT3.out.drew
     have hp4:=hT4.head
     have hfz:=hT4.frz (recAt r+1)
     have hcw:=hT4.cell (recAt r+1) (by omega)
     have hi0:(0:Int)≤((recAt r:Nat):Int)+1:=by omega
     have hi1:((recAt r:Nat):Int)+1<(l.length:Int):=by omega
     have hi2:(((recAt r:Nat):Int)+1).toNat=recAt r+1:=by omega
     have hwr:IntKind.i64.wrap (((recAt r:Nat):Int)+1)=((recAt r:Nat):Int)+1:=IntWalk.i64_in _ (by omega)
     have HT4:=Lib.hid hT4
     clear hT4
     go_region_with (go_at_call 87;refine(recordAt_any _ _ (by omega) (by omega)).mono ?_;rintro e w5 ⟨rfl,rfl⟩;rw[Int.toNat_natCast])
     all_goals
      have hF5:Fr p B w3 ((w3.setCell ⟨B,recAt r+1,none⟩ (.int .i64 v)).drew):=((Fr.refl p B w3).setCell (.inr (.inl rfl)) _).drew
      have hT5:=(HT3.out.set (recAt r+1) v).drew
      have hp5:=hT5.head
      rw[List.length_set]at hp5
      have HT5:=Lib.hid hT5
      have HF5:=Lib.hid hF5
      clear hT5 hF5
      go_wp2
      refine bodyPost_ret (v:=.tuple #[.slice (some ⟨B,0,none⟩) l.length cap,.int .i64 0]) (by simp[results,Try.results38,go_sem]) rfl ?_
      exact⟨.inr ⟨B,cap,l.set (recAt r+1) v,by rw[List.length_set],HT5.out.rw_,HQ.out _ _ (.inr (.inr ⟨.inl (by first |exact rfl |trivial),rfl,r,HX.out.2.1,HX.out.2.2,rfl⟩))⟩,HB3.out.trans (Fr.below HF5.out HB3.out.size HT.out.pb HT.out.bb)⟩
    ·try subst hvx
     go_wp2_with fail
     have hT4:=HT3.out.drew
     have hp4:=hT4.head
     have hfz:=hT4.frz (recAt r+1)
     have hcw:=hT4.cell (recAt r+1) (by omega)
     have hi0:(0:Int)≤((recAt r:Nat):Int)+1:=by omega
     have hi1:((recAt r:Nat):Int)+1<(l.length:Int):=by omega
     have hi2:(((recAt r:Nat):Int)+1).toNat=recAt r+1:=by omega
     have hwr:IntKind.i64.wrap (((recAt r:Nat):Int)+1)=((recAt r:Nat):Int)+1:=IntWalk.i64_in _ (by omega)
     have HT4:=Lib.hid hT4
     clear hT4
     go_region_with (go_at_call 87;refine(recordAt_any _ _ (by omega) (by omega)).mono ?_;rintro e w5 ⟨rfl,rfl⟩;rw[Int.toNat_natCast])
     all_goals
      have hF5:Fr p B w3 ((w3.setCell ⟨B,recAt r+1,none⟩ (.int .i64 v)).drew):=((Fr.refl p B w3).setCell (.inr (.inl rfl)) _).drew
      have hT5:=(HT3.out.set (recAt r+1) v).drew
      have hp5:=hT5.head
      rw[List.length_set]at hp5
      have HT5:=Lib.hid hT5
      have HF5:=Lib.hid hF5
      clear hT5 hF5
      go_wp2
      refine bodyPost_ret (v:=.tuple #[.slice (some ⟨B,0,none⟩) l.length cap,.int .i64 0]) (by simp[results,Try.results38,go_sem]) rfl ?_
      exact⟨.inr ⟨B,cap,l.set (recAt r+1) v,by rw[List.length_set],HT5.out.rw_,HQ.out _ _ (.inr (.inr ⟨.inr HV2.out,rfl,r,HX.out.2.1,HX.out.2.2,rfl⟩))⟩,HB3.out.trans (Fr.below HF5.out HB3.out.size HT.out.pb HT.out.bb)⟩
  ·have hx':hasR l h x (C (bkt h.toNat (bkts n)))=false:=by simpa using hx
   have hfx:=findC_wf_no (f:=headAt (bkt h.toNat (bkts n))) hx'
   have hf1:=HF.out x w1 HT.out
   rw[hfx]at hf1
   clear hfx
   have HF1:=Lib.hid hf1
   have HX:=Lib.hid hx'
   clear hf1 hx hx'
   go_wp2_with fail
   refine HF1.out.mono ?_
   rintro e w2 ⟨rfl,hB2⟩
   have hs1:=hB1.size
   go_wp2
   refine bodyPost_ret (v:=.tuple #[.slice none 0 0,.int .i64 5]) (by simp[results,Try.results38,go_sem]) rfl ?_
   exact⟨.inl ⟨5,by decide,rfl,HQ.out _ _ (.inl ⟨HX.out,rfl,rfl⟩)⟩,hB1.trans (hB2.mono hs1)⟩
end Go.Proofs.Ytdcomhdadnhpnaa
end
section
namespace Go.Proofs.Ytdcomhdadnhpnaa
variable {l l':List Int} {n b:Nat} {C C':Nat→List Nat}
theorem rec1_head {r i:Nat}:recAt r+1≠headAt i:=fun e=>head_rec e.symm (by omega)
theorem rec1_ne {r s a:Nat} (ha:a<3) (h:s≠r∨a≠1):recAt r+1≠recAt s+a:=fun e=>by
 have:=recAt_inj e (by omega) ha
 omega
theorem G.put (g:G l n b C) {r:Nat} (hr:r<n) {h x v:Int} (hh:hits l h x r) (hv:v=x∨∀s,s<n→¬hits l h v s):G (l.set (recAt r+1) v) n b C:=by
 have h1:∀q,q≠recAt r+1→ati (l.set (recAt r+1) v) q=ati l q:=fun q hq=>ati_set_ne (Ne.symm hq)
 have h0:∀s,ati (l.set (recAt r+1) v) (recAt s)=ati l (recAt s):=fun s=>h1 _ (fun e=>rec1_ne (s:=s) (a:=0) (by omega) (.inr (by omega)) e.symm)
 have hw:∀s,ati (l.set (recAt r+1) v) (recAt s+1)=if s=r then v else ati l (recAt s+1):=fun s=>by
  by_cases e:s=r
  ·subst e;rw[if_pos rfl,ati_set_eq (by have:=g.rl s hr;omega)]
  ·rw[if_neg e];exact h1 _ (fun e2=>rec1_ne (s:=s) (a:=1) (by omega) (.inl e) e2.symm)
 refine⟨g.n1,fun s hs=>by rw[List.length_set];exact g.rl s hs,g.b8,fun i hi=>by rw[List.length_set];exact g.hl i hi,fun s hs=>by rw[h0];exact g.hash s hs,fun i hi=>?_,g.nd,fun i hi s=>by rw[h0];exact g.mem i hi s,fun i hi=>by
  refine(g.srt i hi).imp (fun {a b} hab=>by rw[h0,h0];exact hab),fun s hs t ht e1 e2=>?_,fun i hi=>?_,fun s hs a ha=>?_⟩
 ·refine(g.chn i hi).frame (fun q hq=>⟨?_,?_⟩)
  ·rw[List.length_set]
   rcases hq with rfl |⟨s,hs,rfl⟩
   ·exact g.hl i hi
   ·exact g.rl s (g.lt hi hs)
  ·refine h1 _ ?_
   rcases hq with rfl |⟨s,hs,rfl⟩
   ·exact fun e=>rec1_head e.symm
   ·exact fun e=>rec1_ne (s:=s) (a:=2) (by omega) (.inr (by omega)) e.symm
 ·rw[h0,h0]at e1
  rw[hw,hw]at e2
  by_cases es:s=r
  ·by_cases et:t=r
   ·rw[es,et]
   ·exfalso
    rw[if_pos es,if_neg et]at e2
    rcases hv with rfl |hv
    ·exact et ((g.dif t ht r hr (by rw[←e1,es]) (by rw[←e2];exact hh.2.symm)))
    ·exact hv t ht ⟨by rw[←e1,es];exact hh.1,e2.symm⟩
  ·by_cases et:t=r
   ·exfalso
    rw[if_neg es,if_pos et]at e2
    rcases hv with rfl |hv
    ·exact es (g.dif s hs r hr (by rw[e1,et]) (by rw[e2];exact hh.2.symm))
    ·exact hv s hs ⟨by rw[e1,et];exact hh.1,e2⟩
   ·rw[if_neg es,if_neg et]at e2
    exact g.dif s hs t ht e1 e2
 ·rw[h1 _ (fun e=>rec1_head e.symm)];exact g.zh i hi
 ·rw[h1 _ (fun e=>rec1_ne (s:=s) (a:=a) ha (.inl (by omega)) e.symm)];exact g.zr s hs a ha
theorem HeadOk.put (hH:HeadOk l n) {r:Nat} (v:Int):HeadOk (l.set (recAt r+1) v) n:=by
 have h12:=recAt_ge r
 have h1:∀q,q<4→ati (l.set (recAt r+1) v) q=ati l q:=fun q hq=>ati_set_ne (by omega)
 exact⟨(h1 0 (by omega)).trans hH.n0,hH.n1,(List.length_set ..).trans hH.len,(h1 1 (by omega)).trans hH.b1,(h1 2 (by omega)).trans hH.b2,(h1 3 (by omega)).trans hH.b3⟩
theorem G.put_out (g:G l n b C) {r:Nat} (hr:r<n) {h x v:Int} (hh:hits l h x r) {h':Int}:∀ {rs:List Nat},(∀s∈rs,s<n)→outL (l.set (recAt r+1) v) h' rs=if h'=h then(outL l h rs).map (fun w=>if w=x then v else w)else outL l h' rs
 | [],_=>by simp[outL]
 |s::rs,hs=>by
  have hsn:=hs s (by simp)
  have ih:=G.put_out g hr hh (v:=v) (h':=h') (rs:=rs) (fun t ht=>hs t (by simp[ht]))
  have h0:ati (l.set (recAt r+1) v) (recAt s)=ati l (recAt s):=ati_set_ne (rec1_ne (s:=s) (a:=0) (by omega) (.inr (by omega)))
  rw[outL_cons,ih,h0]
  by_cases e:h'=h
  ·subst e
   rw[if_pos rfl,if_pos rfl,outL_cons,List.map_append]
   by_cases es:ati l (recAt s)=h'
   ·rw[if_pos es,if_pos es]
    by_cases er:s=r
    ·subst er
     rw[ati_set_eq (by have:=g.rl s hr;omega),hh.2];simp
    ·rw[ati_set_ne (rec1_ne (s:=s) (a:=1) (by omega) (.inl er))]
     have:ati l (recAt s+1)≠x:=fun e2=>er (g.dif s hsn r hr (es.trans hh.1.symm) (e2.trans hh.2.symm))
     simp[this]
   ·rw[if_neg es,if_neg es];rfl
  ·rw[if_neg e,if_neg e,outL_cons]
   by_cases es:ati l (recAt s)=h'
   ·have er:s≠r:=fun er=>e (by rw[←es,er];exact hh.1)
    rw[if_pos es,if_pos es,ati_set_ne (rec1_ne (s:=s) (a:=1) (by omega) (.inl er))]
   ·rw[if_neg es,if_neg es]
open Classical in
/-- what Put returns -/
noncomputable def putF (l:List Int) (h x v:Int):List Int×Int:=
 if q:∃r:List Int×Int,PutQ l h x v r.1 r.2 then q.choose else([],0)
theorem hasR_out {rs:List Nat} {h x:Int}:hasR l h x rs=false↔x∉outL l h rs:=by rw[←hasR_wds (l:=l),Bool.eq_false_iff]
theorem putQ_uni {h x v:Int} {l1 l2:List Int} {c c':Int} (q:PutQ l h x v l1 c) (q':PutQ l h x v l2 c'):l1=l2∧c=c':=by
 rcases q with⟨h1,rfl,rfl⟩ |⟨h1,h2,rfl,rfl⟩ |⟨h1,h2,n,C,hH,g,q⟩
 ·rcases q' with⟨_,rfl,rfl⟩ |⟨h3,_⟩ |⟨h3,_⟩
  ·exact⟨rfl,rfl⟩
  ·exact absurd h3 h1
  ·exact absurd h3 h1
 ·rcases q' with⟨h3,_⟩ |⟨_,_,rfl,rfl⟩ |⟨_,h3,_⟩
  ·exact absurd h1 h3
  ·exact⟨rfl,rfl⟩
  ·exact absurd h3 h2
 ·rcases q' with⟨h3,_⟩ |⟨_,h3,_⟩ |⟨_,_,n',C',hH',g',q'⟩
  ·exact absurd h1 h3
  ·exact absurd h2 h3
  ·obtain rfl:=hH.same hH'
   have hi:=bkt_lt h.toNat (b:=bkts n) (by have:=bkts8 n;omega)
   rw[←g.det g' hi]at q'
   rcases q with⟨a1,rfl,rfl⟩ |⟨a1,a2,a3,rfl,rfl⟩ |⟨a1,rfl,r,hr,hh,rfl⟩<;>rcases q' with⟨b1,rfl,rfl⟩ |⟨b1,b2,b3,rfl,rfl⟩ |⟨b1,rfl,r',hr',hh',rfl⟩
   ·exact⟨rfl,rfl⟩
   ·rw[a1]at b1;cases b1
   ·exact absurd (hasR_out.1 a1) (fun hn=>hn (outL_mem.2 ⟨r',hr',hh'⟩))
   ·rw[b1]at a1;cases a1
   ·exact⟨rfl,rfl⟩
   ·rcases b1 with b1 |b1
    ·exact absurd b1 a2
    ·rw[b1]at a3;cases a3
   ·exact absurd (hasR_out.1 b1) (fun hn=>hn (outL_mem.2 ⟨r,hr,hh⟩))
   ·rcases a1 with a1 |a1
    ·exact absurd a1 b2
    ·rw[a1]at b3;cases b3
   ·have e:r=r':=g.dif r (g.lt hi hr) r' (g.lt hi hr') (hh.1.trans hh'.1.symm) (hh.2.trans hh'.2.symm)
    rw[e];exact⟨rfl,rfl⟩
theorem putF_eq {h x v:Int} {c:Int} (q:PutQ l h x v l' c):putF l h x v=(l',c):=by
 have hex:∃r:List Int×Int,PutQ l h x v r.1 r.2:=⟨(l',c),q⟩
 unfold putF
 rw[dif_pos hex]
 have:=putQ_uni hex.choose_spec q
 exact Prod.ext this.1 this.2
theorem putF_bad (hV:ValidL l) {h x v:Int} (hh:¬okH h):putF l h x v=([],1):=putF_eq (.inr (.inl ⟨hV,hh,rfl,rfl⟩))
theorem putF_none (hV:ValidL l) {h x v:Int} (hh:okH h) (hx:x∉wds l h):putF l h x v=([],5):=
 putF_eq (.inr (.inr ⟨hV,hh,tabN l,tabC l,tab_h hV,tab_g hV,.inl ⟨hasR_out.2 hx,rfl,rfl⟩⟩))
theorem putF_twice (hV:ValidL l) {h x v:Int} (hh:okH h) (hx:x∈wds l h) (hne:v≠x) (hv:v∈wds l h):putF l h x v=([],6):=
 putF_eq (.inr (.inr ⟨hV,hh,tabN l,tabC l,tab_h hV,tab_g hV,.inr (.inl ⟨hasR_wds.2 hx,hne,hasR_wds.2 hv,rfl,rfl⟩)⟩))
theorem putF_ok (hV:ValidL l) {h x v:Int} (hh:okH h) (hx:x∈wds l h) (hv:v=x∨v∉wds l h):
  (putF l h x v).2=0∧ValidL (putF l h x v).1∧tabN (putF l h x v).1=tabN l∧∀h',wds (putF l h x v).1 h'=if h'=h then(wds l h).map (fun w=>if w=x then v else w)else wds l h':=by
 have g:=tab_g hV
 have hH:=tab_h hV
 have hi:=bkt_lt h.toNat (b:=bkts (tabN l)) (by have:=bkts8 (tabN l);omega)
 obtain⟨r,hr,hh1,hh2⟩:=outL_mem.1 hx
 have hrn:=g.lt hi hr
 have e:putF l h x v=(l.set (recAt r+1) v,0):=putF_eq (.inr (.inr ⟨hV,hh,tabN l,tabC l,hH,g,.inr (.inr ⟨hv.imp id (fun h1=>hasR_out.2 h1),rfl,r,hr,⟨hh1,hh2⟩,rfl⟩)⟩))
 rw[e]
 have g2:=g.put hrn ⟨hh1,hh2⟩ (v:=v) (hv.imp id (fun h1 s hs hs2=>h1 (outL_mem.2 ⟨s,(g.mem _ hi s).2 ⟨hs,by rw[hs2.1]⟩,hs2⟩)))
 have hH2:=hH.put (r:=r) v
 refine⟨rfl,g_validL hH2 g2,tab_n hH2,fun h'=>?_⟩
 have hi':=bkt_lt h'.toNat (b:=bkts (tabN l)) (by have:=bkts8 (tabN l);omega)
 rw[wds_g hH2 g2,g.put_out hrn ⟨hh1,hh2⟩ (fun s hs=>g.lt hi' hs)]
 by_cases eh:h'=h
 ·subst eh;rfl
 ·rw[if_neg eh,if_neg eh];rfl
end Go.Proofs.Ytdcomhdadnhpnaa
end
