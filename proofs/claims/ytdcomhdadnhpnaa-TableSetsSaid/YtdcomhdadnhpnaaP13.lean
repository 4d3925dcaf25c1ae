/- Plain: the words of each hash, and what Add and Drop make of them. No program here. -/
import Derived.Test.YtdcomhdadnhpnaaM6
set_option linter.unusedSimpArgs false
set_option linter.unusedVariables false
namespace Go.Proofs.Ytdcomhdadnhpnaa
variable {l l' : List Int} {n b : Nat} {C C' : Nat → List Nat}

theorem outL_nil (l : List Int) (h : Int) : outL l h [] = [] := rfl
theorem outL_append (l : List Int) (h : Int) (a b : List Nat) : outL l h (a ++ b) = outL l h a ++ outL l h b := by simp [outL]
theorem outL_cons (l : List Int) (h : Int) (r : Nat) (b : List Nat) : outL l h (r :: b) = (if ati l (recAt r) = h then [ati l (recAt r + 1)] else []) ++ outL l h b := by
  unfold outL
  rw [List.filter_cons]
  by_cases e : ati l (recAt r) = h
  · rw [if_pos (by simpa using e), if_pos e]; rfl
  · rw [if_neg (by simpa using e), if_neg e]; rfl
theorem outL_congr {h : Int} : ∀ {rs : List Nat}, (∀ r ∈ rs, ati l' (recAt r) = ati l (recAt r) ∧ ati l' (recAt r + 1) = ati l (recAt r + 1)) → outL l' h rs = outL l h rs
  | [], _ => rfl
  | r :: rs, hE => by
    rw [outL_cons, outL_cons, (hE r (by simp)).1, (hE r (by simp)).2, outL_congr (rs := rs) (fun s hs => hE s (by simp [hs]))]
theorem outL_none {h : Int} {rs : List Nat} (h0 : ∀ r ∈ rs, ati l (recAt r) ≠ h) : outL l h rs = [] := by
  unfold outL
  rw [List.filter_eq_nil_iff.2 (fun r hr => by simpa using h0 r hr)]; rfl
theorem outL_filter {h : Int} {p : Nat → Bool} : ∀ {rs : List Nat}, (∀ r ∈ rs, ati l (recAt r) = h → p r = true) → outL l h (rs.filter p) = outL l h rs
  | [], _ => rfl
  | r :: rs, hp => by
    have ih := outL_filter (h := h) (p := p) (rs := rs) (fun s hs => hp s (by simp [hs]))
    rw [List.filter_cons]
    by_cases e : ati l (recAt r) = h
    · rw [if_pos (hp r (by simp) e), outL_cons, outL_cons, ih]
    · rw [outL_cons, if_neg e, List.nil_append, ← ih]
      split
      · rw [outL_cons, if_neg e, List.nil_append]
      · rfl
theorem outL_mem {h w : Int} {rs : List Nat} : w ∈ outL l h rs ↔ ∃ r ∈ rs, ati l (recAt r) = h ∧ ati l (recAt r + 1) = w := by
  unfold outL
  simp only [List.mem_map, List.mem_filter, decide_eq_true_eq]
  constructor
  · rintro ⟨r, ⟨h1, h2⟩, h3⟩; exact ⟨r, h1, h2, h3⟩
  · rintro ⟨r, h1, h2, h3⟩; exact ⟨r, ⟨h1, h2⟩, h3⟩
theorem preR_drop {h : Int} : ∀ {rs : List Nat}, rs.Pairwise (fun r s => ati l (recAt r) ≤ ati l (recAt s)) → ∀ r ∈ rs.drop (preR l h rs).length, h < ati l (recAt r)
  | [], _, r, hr => by simp at hr
  | a :: rs, hs, r, hr => by
    have h2 := List.pairwise_cons.1 hs
    unfold preR at hr
    rw [List.takeWhile_cons] at hr
    by_cases e : ati l (recAt a) ≤ h
    · rw [if_pos (by simpa using e)] at hr
      exact preR_drop h2.2 r (by simpa [preR] using hr)
    · rw [if_neg (by simpa using e)] at hr
      simp only [List.length_nil, List.drop_zero] at hr
      rcases List.mem_cons.1 hr with rfl | hr
      · omega
      · have := h2.1 r hr; omega
theorem preR_sub (l : List Int) (h : Int) (rs : List Nat) : ∀ r ∈ preR l h rs, r ∈ rs := fun r hr => (List.takeWhile_sublist _).subset hr

/-- the words with a hash behind Add -/
theorem G.add_out (g : G l n (bkts n) C) (hH : HeadOk l n) {h x : Int} (h0 : (addR l n C h x).2.1 = 0) {h' : Int} :
    outL (addR l n C h x).2.2 h' (addCC l n C h (addL l n (endp (headAt (bkt h.toNat (bkts n))) (preR l h (C (bkt h.toNat (bkts n))))) h x) (bkt h'.toNat (bkts (n + 1)))) =
      outL l h' (C (bkt h'.toNat (bkts n))) ++ (if h' = h then [x] else []) := by
  obtain ⟨hh, hhas, hnl, hH', g', hel⟩ := g.add hH h0
  have h8 := bkts8 n
  have hi := bkt_lt h.toNat (b := bkts n) (by omega)
  have hi' := bkt_lt h'.toNat (b := bkts n) (by omega)
  have hpw := pow2_pos (bkts n)
  -- the chain with the new record
  have key : outL (addR l n C h x).2.2 h' (addC l n C h (bkt h'.toNat (bkts n))) = outL l h' (C (bkt h'.toNat (bkts n))) ++ (if h' = h then [x] else []) := by
    have hcg : ∀ {rs : List Nat}, (∀ r ∈ rs, r < n) → outL (addR l n C h x).2.2 h' rs = outL l h' rs := fun {rs} hr => outL_congr (fun r hm => by
      have hrn := hr r hm
      have e0 := hel r (by omega) 0 (by omega)
      have e1 := hel r (by omega) 1 (by omega)
      rw [if_neg (by omega)] at e0 e1
      exact ⟨e0, e1⟩)
    have hC : ∀ {i}, i < bkts n → ∀ r ∈ C i, r < n := fun hi r hr => g.lt hi hr
    unfold addC
    by_cases e : bkt h'.toNat (bkts n) = bkt h.toNat (bkts n)
    · rw [if_pos e, e]
      have hn0 := hel n (by omega) 0 (by omega)
      have hn1 := hel n (by omega) 1 (by omega)
      rw [if_pos rfl, if_pos rfl] at hn0
      rw [if_pos rfl, if_neg (by omega)] at hn1
      have hpost := preR_drop (l := l) (h := h) (g.srt _ hi)
      have hd : ∀ r ∈ (C (bkt h.toNat (bkts n))).drop (preR l h (C (bkt h.toNat (bkts n)))).length, r < n := fun r hr => hC hi r (List.mem_of_mem_drop hr)
      rw [outL_append, outL_cons, hcg (fun r hr => hC hi r (preR_sub _ _ _ r hr)), hcg hd, hn1]
      rw [show ati (addR l n C h x).2.2 (recAt n) = h from hn0]
      conv => rhs; rw [preR_split l h (C (bkt h.toNat (bkts n)))]
      rw [outL_append]
      by_cases eh : h' = h
      · subst eh
        have e0 : outL l h' ((C (bkt h'.toNat (bkts n))).drop (preR l h' (C (bkt h'.toNat (bkts n)))).length) = [] := outL_none (fun r hr => by have := hpost r hr; omega)
        rw [if_pos rfl, e0]
        simp
      · rw [if_neg (Ne.symm eh), if_neg eh]
        simp
    · rw [if_neg e, if_neg (fun eh => e (by rw [eh])), List.append_nil]
      exact hcg (hC hi')
  unfold addCC
  generalize hl1 : addL l n (endp (headAt (bkt h.toNat (bkts n))) (preR l h (C (bkt h.toNat (bkts n))))) h x = l1
  have hCn : ∀ k, k < bkts n → ∀ r ∈ addC l n C h k, r < n + 1 := fun k hk r hr => by
    unfold addC at hr
    split at hr
    · rcases List.mem_append.1 hr with hr | hr
      · have := g.lt hk (preR_sub _ _ _ r hr); omega
      · rcases List.mem_cons.1 hr with rfl | hr
        · omega
        · have := g.lt hk (List.mem_of_mem_drop hr); omega
    · have := g.lt hk hr; omega
  by_cases hb : bkts n < bkts (n + 1)
  · rw [if_pos hb]
    have hbn := bkts_nx hb
    rw [hbn]
    have hR : (addR l n C h x).2.2 = divL l1 (bkts n) (addC l n C h (bkts n - pow2 (bkts n))) := by
      unfold addR; rw [if_neg (by simpa using hh), if_neg (by rw [hhas]; simp), if_neg (by omega), if_pos hb, hl1]
    have hD : ∀ r, ati (addR l n C h x).2.2 (recAt r) = ati l1 (recAt r) := fun r => by
      rw [hR]
      exact divL_ati _ _ _ _ (fun e => head_rec (a := 0) e.symm (by omega)) (fun e => head_rec (a := 0) e.symm (by omega)) (fun s _ e => by have := (recAt_inj (a := 0) e (by omega) (by omega)).2; omega)
    have hlt2 : bkts n - pow2 (bkts n) < bkts n := by omega
    by_cases e : bkt h'.toNat (bkts n + 1) = bkts n
    · have eo := bkt_new (by omega) e
      rw [e]
      try dsimp only
      rw [if_neg (by omega), if_pos rfl, ← key, eo]
      unfold goneS
      refine outL_filter (fun r hr e2 => ?_)
      unfold isNew
      rw [← hD, e2]
      simpa using e
    · have eo := bkt_old (by omega) e
      have hne : bkt h'.toNat (bkts n) ≠ bkts n := by omega
      rw [eo]
      try dsimp only
      rw [if_neg hne, ← key]
      split
      · rename_i e3
        rw [e3]
        unfold stayS
        refine outL_filter (fun r hr e2 => ?_)
        unfold isNew
        rw [← hD, e2]
        simpa using e
      · rfl
  · rw [if_neg hb]
    have hbe : bkts (n + 1) = bkts n := by have := bkts_mono (show n ≤ n + 1 by omega); omega
    rw [hbe]
    exact key

theorem outL_merged {h : Int} : ∀ (k : Nat) (xs ys : List Nat), xs.length + ys.length ≤ k → (outL l h xs = [] ∨ outL l h ys = []) → outL l h (mergedL l xs ys) = outL l h xs ++ outL l h ys
  | _, [], ys, _, _ => by rw [mergedL_nil (.inl rfl)]; rfl
  | _, x :: xs, [], _, _ => by rw [mergedL_nil (.inr rfl), outL_append]
  | 0, x :: xs, y :: ys, h, _ => absurd h (by simp)
  | k + 1, x :: xs, y :: ys, hk, h0 => by
    simp only [List.length_cons] at hk
    by_cases e : ati l (recAt y) < ati l (recAt x)
    · rw [mergedL_lt e, outL_cons]
      have h0' : outL l h (x :: xs) = [] ∨ outL l h ys = [] := h0.imp id (fun h1 => by rw [outL_cons] at h1; exact (List.append_eq_nil_iff.1 h1).2)
      rw [outL_merged k _ _ (by simp only [List.length_cons]; omega) h0', outL_cons (b := ys)]
      rcases h0 with h1 | h1
      · rw [h1]; rfl
      · rw [outL_cons] at h1
        have := List.append_eq_nil_iff.1 h1
        rw [this.1, this.2]; simp
    · rw [mergedL_ge e, outL_cons]
      have h0' : outL l h xs = [] ∨ outL l h (y :: ys) = [] := h0.imp (fun h1 => by rw [outL_cons] at h1; exact (List.append_eq_nil_iff.1 h1).2) id
      rw [outL_merged k _ _ (by simp only [List.length_cons]; omega) h0', outL_cons (b := xs), List.append_assoc]
/-- the words with a hash behind Drop -/
theorem G.drop_out (g : G l n (bkts n) C) (hH : HeadOk l n) {h x : Int} {k : Nat} (hD : DropS l n C h x k l' C') {h' : Int} :
    outL l' h' (C' (bkt h'.toNat (bkts (n - 1)))) = if h' = h then (outL l h (C (bkt h.toNat (bkts n)))).erase x else outL l h' (C (bkt h'.toNat (bkts n))) := by
  have hG := g.drop hH hD
  obtain ⟨pre, r, post, k1, l1, C1, k2, l2, hC, hh, hp, hM, hJ, rfl, rfl⟩ := hD
  have h8 := bkts8 n
  have hi : bkt h.toNat (bkts n) < bkts n := bkt_lt _ (by omega)
  have hi' : bkt h'.toNat (bkts n) < bkts n := bkt_lt _ (by omega)
  have hrn : r < n := g.lt hi (by rw [hC]; simp)
  have g1 := g.gs.rem hi hC
  obtain ⟨g2, hl2, _⟩ := g1.move hrn hM
  have hla : ∀ s a, a < 2 → ati (remL l (endp (headAt (bkt h.toNat (bkts n))) pre) r) (recAt s + a) = ati l (recAt s + a) := fun s a ha => ati_set_ne (endp_no01 _ pre s a ha)
  have s1 : outL (remL l (endp (headAt (bkt h.toNat (bkts n))) pre) r) h' ((fun i => if i = bkt h.toNat (bkts n) then pre ++ post else C i) (bkt h'.toNat (bkts n))) = if h' = h then (outL l h (C (bkt h.toNat (bkts n)))).erase x else outL l h' (C (bkt h'.toNat (bkts n))) := by
    rw [outL_congr (fun s _ => ⟨hla s 0 (by omega), hla s 1 (by omega)⟩)]
    dsimp only
    by_cases e : bkt h'.toNat (bkts n) = bkt h.toNat (bkts n)
    · rw [if_pos e, e, hC, outL_append, outL_append, outL_append, outL_cons, outL_cons, hh.1, hh.2]
      by_cases eh : h' = h
      · subst eh
        rw [if_pos rfl, if_pos rfl]
        have hnx : x ∉ outL l h' pre := fun hm => by
          obtain ⟨s, hs, e1, e2⟩ := outL_mem.1 hm
          exact hp s hs ⟨e1, e2⟩
        rw [List.erase_append_right _ hnx]
        simp
      · rw [if_neg eh, if_neg (Ne.symm eh)]
        simp
    · rw [if_neg e, if_neg (fun eh => e (by rw [eh]))]
  have s2 : ∀ k, k < bkts n → outL l1 h' (C1 k) = outL (remL l (endp (headAt (bkt h.toNat (bkts n))) pre) r) h' ((fun i => if i = bkt h.toNat (bkts n) then pre ++ post else C i) k) := by
    intro k hk
    rcases hM with ⟨_, _, rfl, rfl⟩ | ⟨hne, pre2, post2, hC2, rfl, rfl, rfl⟩
    · rfl
    · generalize hj : bkt (ati (remL l (endp (headAt (bkt h.toNat (bkts n))) pre) r) (recAt (n - 1))).toNat (bkts n) = j at *
      have hjb : j < bkts n := by rw [← hj]; exact bkt_lt _ (by omega)
      generalize remL l (endp (headAt (bkt h.toNat (bkts n))) pre) r = la at *
      generalize hCa : (fun i => if i = bkt h.toNat (bkts n) then pre ++ post else C i) = Ca at *
      have hout : ∀ i, i < bkts n → r ∉ Ca i := fun i hi hm => ((g1.mem i hi r).1 hm).1.2 rfl
      have hlead : endp (headAt j) pre2 ≠ recAt r + 2 := fun e => by
        rcases endp_cases (headAt j) pre2 with ⟨_, e2⟩ | ⟨t, ht, e2⟩
        · exact head_rec (a := 2) (e2.symm.trans e) (by omega)
        · have := (recAt_inj (e2.symm.trans e) (by omega) (by omega)).1
          exact hout j hjb (by rw [hC2, ← this]; simp [ht])
      have hll : endp (headAt j) pre2 < la.length := by have := g1.chn j hjb; rw [hC2] at this; exact this.split.endlt
      have hA := ati_movL (l := la) (m := n - 1) (g1.rl r hrn) hll (endp_no01 j pre2 r 0 (by omega)) (endp_no01 j pre2 r 1 (by omega)) hlead
      have hm : ∀ s a, a < 2 → ati (movL la r (n - 1) (endp (headAt j) pre2)) (recAt s + a) = if s = r then ati la (recAt (n - 1) + a) else ati la (recAt s + a) := fun s a ha => by
        rw [hA, if_neg (fun e => endp_no01 j pre2 s a ha e.symm), if_neg (fun e => by have := (recAt_inj e (by omega) (by omega)).2; omega)]
        by_cases e : s = r
        · subst e
          rw [if_pos rfl]
          rcases (by omega : a = 0 ∨ a = 1) with rfl | rfl
          · rw [if_neg (by omega), if_pos (Nat.add_zero _)]; rfl
          · rw [if_pos rfl]
        · rw [if_neg e, if_neg (fun e2 => e (recAt_inj e2 (by omega) (by omega)).1), if_neg (fun e2 => e (recAt_inj (b := 0) (e2.trans (Nat.add_zero _).symm) (by omega) (by omega)).1)]
      have hcg : ∀ {rs : List Nat}, r ∉ rs → outL (movL la r (n - 1) (endp (headAt j) pre2)) h' rs = outL la h' rs := fun {rs} hr => outL_congr (fun s hs => by
        have e0 := hm s 0 (by omega)
        have e1 := hm s 1 (by omega)
        rw [if_neg (by rintro rfl; exact hr hs)] at e0 e1
        exact ⟨e0, e1⟩)
      dsimp only
      by_cases e : k = j
      · subst e
        have hno := hout k hk
        rw [hC2] at hno
        rw [if_pos rfl, hC2, outL_append, outL_append, outL_cons, outL_cons, hcg (fun hx => hno (by simp [hx])), hcg (fun hx => hno (by simp [hx]))]
        have e0 := hm r 0 (by omega)
        have e1 := hm r 1 (by omega)
        rw [if_pos rfl] at e0 e1
        rw [e1, show ati (movL la r (n - 1) (endp (headAt k) pre2)) (recAt r) = ati la (recAt (n - 1)) from e0]
      · rw [if_neg e]
        exact hcg (hout k hk)
  have hz : ∀ s a, s ≠ n - 1 → a < 2 → ati (zerL l1 (n - 1)) (recAt s + a) = ati l1 (recAt s + a) := fun s a hs ha => by
    have h3 : ∀ c, c < 3 → recAt s + a ≠ recAt (n - 1) + c := fun c hc e => hs (recAt_inj e (by omega) hc).1
    rw [ati_zerL (g2.rl (n - 1) (by omega)), if_neg (by rintro (e | e | e); exact h3 0 (by omega) e; exact h3 1 (by omega) e; exact h3 2 (by omega) e)]
  have hlt1 : ∀ k, k < bkts n → ∀ s ∈ C1 k, s < n - 1 := fun k hk s hs => ((g2.mem k hk s).1 hs).1
  have s3 : ∀ k, k < bkts n → outL (zerL l1 (n - 1)) h' (C1 k) = outL l1 h' (C1 k) := fun k hk => outL_congr (fun s hs => by
    have := hlt1 k hk s hs
    exact ⟨hz s 0 (by omega) (by omega), hz s 1 (by omega) (by omega)⟩)
  obtain ⟨hn0, hG1, hG2⟩ := hG
  have hsz : ∀ s a, s < n - 1 → a < 2 → ati (sizedL l2 (n - 1)) (recAt s + a) = ati l2 (recAt s + a) := fun s a hs ha => by
    have h12 := recAt_ge s
    have h1 := hG1.rl s hs
    rw [sizedL_len] at h1
    rw [ati_sizedL, if_neg (by omega), if_neg (by omega), if_neg (by omega), if_pos (by omega)]
  have s5 : ∀ {rs : List Nat}, (∀ s ∈ rs, s < n - 1) → outL (sizedL l2 (n - 1)) h' rs = outL l2 h' rs := fun {rs} hr => outL_congr (fun s hs => ⟨hsz s 0 (hr s hs) (by omega), hsz s 1 (hr s hs) (by omega)⟩)
  have hi2 : bkt h'.toNat (bkts (n - 1)) < bkts (n - 1) := bkt_lt _ (by have := bkts8 (n - 1); omega)
  rw [s5 (fun s hs => hG1.lt hi2 hs), ← s1]
  rcases hJ with ⟨hb, rfl, rfl, rfl⟩ | ⟨hb, rfl, rfl, rfl⟩
  · have e : bkts (n - 1) = bkts n := by rcases bkts_down (n := n) (by omega) with h | h <;> omega
    rw [e, s3 _ hi', s2 _ hi']
  · have hp2 := pow2_pos (bkts n - 1)
    have h81 := bkts8 (n - 1)
    have hbn : bkts n - 1 + 1 = bkts n := by omega
    have hj : ∀ s a, a < 2 → ati (joiL (zerL l1 (n - 1)) (bkts n - 1) (C1 (bkts n - 1 - pow2 (bkts n - 1))) (C1 (bkts n - 1))) (recAt s + a) = ati (zerL l1 (n - 1)) (recAt s + a) := fun s a ha =>
      joiL_ati _ _ _ _ _ (fun e => head_rec e.symm (by omega)) (fun e => head_rec e.symm (by omega)) (fun t _ e => by have := (recAt_inj e (by omega) (by omega)).2; omega)
    rw [outL_congr (fun s _ => ⟨hj s 0 (by omega), hj s 1 (by omega)⟩), hb]
    dsimp only
    have hh0 : ∀ k, k < bkts n → bkt h'.toNat (bkts n) ≠ k → outL (zerL l1 (n - 1)) h' (C1 k) = [] := fun k hk hne => by
      rw [s3 k hk]
      exact outL_none (fun s hs e => hne (by rw [← e]; exact ((g2.mem k hk s).1 hs).2))
    by_cases e : bkt h'.toNat (bkts n) = bkts n - 1
    · have eo := bkt_new (h := h'.toNat) (b := bkts n - 1) (by omega) (by rw [hbn]; exact e)
      rw [if_pos eo, outL_merged _ _ _ (Nat.le_refl _) (.inl (hh0 _ (by omega) (by omega))), hh0 _ (by omega) (by omega), List.nil_append, ← e, s3 _ hi', s2 _ hi']
    · have eo := bkt_old (h := h'.toNat) (b := bkts n - 1) (by omega) (by rw [hbn]; exact e)
      rw [hbn] at eo
      rw [← eo]
      split
      · rename_i e3
        rw [outL_merged _ _ _ (Nat.le_refl _) (.inr (hh0 _ (by omega) (by omega))), hh0 (bkts n - 1) (by omega) (by omega), List.append_nil, ← e3, s3 _ hi', s2 _ hi']
      · rw [s3 _ hi', s2 _ hi']
end Go.Proofs.Ytdcomhdadnhpnaa
