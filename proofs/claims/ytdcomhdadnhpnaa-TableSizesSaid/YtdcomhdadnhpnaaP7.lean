/- Plain: the last bucket goes back into the one that it came from. No program here. -/
import Derived.Test.YtdcomhdadnhpnaaP6
set_option linter.unusedSimpArgs false
set_option linter.unusedVariables false
namespace Go.Proofs.Ytdcomhdadnhpnaa
variable {l : List Int} {n b : Nat} {C : Nat → List Nat}

theorem mergedL_perm (l : List Int) : ∀ (k : Nat) (xs ys : List Nat), xs.length + ys.length ≤ k → (mergedL l xs ys).Perm (xs ++ ys)
  | _, [], ys, _ => by rw [mergedL_nil (.inl rfl)]
  | _, x :: xs, [], _ => by rw [mergedL_nil (.inr rfl)]
  | 0, x :: xs, y :: ys, h => absurd h (by simp)
  | k + 1, x :: xs, y :: ys, h => by
    simp only [List.length_cons] at h
    by_cases e : ati l (recAt y) < ati l (recAt x)
    · rw [mergedL_lt e]
      exact ((mergedL_perm l k (x :: xs) ys (by simp only [List.length_cons]; omega)).cons y).trans List.perm_middle.symm
    · rw [mergedL_ge e]
      exact (mergedL_perm l k xs (y :: ys) (by simp only [List.length_cons]; omega)).cons x
theorem mergedL_mem {l : List Int} {xs ys : List Nat} {r : Nat} : r ∈ mergedL l xs ys ↔ r ∈ xs ∨ r ∈ ys := by
  rw [(mergedL_perm l _ xs ys (Nat.le_refl _)).mem_iff, List.mem_append]
theorem mergedL_srt (l : List Int) : ∀ (k : Nat) (xs ys : List Nat), xs.length + ys.length ≤ k → xs.Pairwise (fun r s => ati l (recAt r) ≤ ati l (recAt s)) → ys.Pairwise (fun r s => ati l (recAt r) ≤ ati l (recAt s)) →
    (mergedL l xs ys).Pairwise (fun r s => ati l (recAt r) ≤ ati l (recAt s))
  | _, [], ys, _, _, h2 => by rw [mergedL_nil (.inl rfl)]; exact h2
  | _, x :: xs, [], _, h1, _ => by rw [mergedL_nil (.inr rfl), List.append_nil]; exact h1
  | 0, x :: xs, y :: ys, h, _, _ => absurd h (by simp)
  | k + 1, x :: xs, y :: ys, h, h1, h2 => by
    simp only [List.length_cons] at h
    have p1 := List.pairwise_cons.1 h1
    have p2 := List.pairwise_cons.1 h2
    by_cases e : ati l (recAt y) < ati l (recAt x)
    · rw [mergedL_lt e]
      refine List.pairwise_cons.2 ⟨fun s hs => ?_, mergedL_srt l k (x :: xs) ys (by simp only [List.length_cons]; omega) h1 p2.2⟩
      rcases mergedL_mem.1 hs with hs | hs
      · rcases List.mem_cons.1 hs with rfl | hs
        · omega
        · have := p1.1 s hs; omega
      · exact p2.1 s hs
    · rw [mergedL_ge e]
      refine List.pairwise_cons.2 ⟨fun s hs => ?_, mergedL_srt l k xs (y :: ys) (by simp only [List.length_cons]; omega) p1.2 h2⟩
      rcases mergedL_mem.1 hs with hs | hs
      · exact p1.1 s hs
      · rcases List.mem_cons.1 hs with rfl | hs
        · omega
        · have := p2.1 s hs; omega
theorem mergedL_congr {l l' : List Int} (h : ∀ r, ati l' (recAt r) = ati l (recAt r)) : ∀ (k : Nat) (xs ys : List Nat), xs.length + ys.length ≤ k → mergedL l' xs ys = mergedL l xs ys
  | _, [], ys, _ => by rw [mergedL_nil (.inl rfl), mergedL_nil (.inl rfl)]
  | _, x :: xs, [], _ => by rw [mergedL_nil (.inr rfl), mergedL_nil (.inr rfl)]
  | 0, x :: xs, y :: ys, h => absurd h (by simp)
  | k + 1, x :: xs, y :: ys, hk => by
    simp only [List.length_cons] at hk
    by_cases e : ati l (recAt y) < ati l (recAt x)
    · rw [mergedL_lt e, mergedL_lt (by rw [h, h]; exact e), mergedL_congr h k _ _ (by simp only [List.length_cons]; omega)]
    · rw [mergedL_ge e, mergedL_ge (by rw [h, h]; exact e), mergedL_congr h k _ _ (by simp only [List.length_cons]; omega)]

/-- the words behind the join of bucket b with its other half -/
def joiL (l : List Int) (b : Nat) (xs ys : List Nat) : List Int := linkL (linkL l (headAt b) []) (headAt (b - pow2 b)) (mergedL l xs ys)
theorem joiL_len (l : List Int) (b : Nat) (xs ys : List Nat) : (joiL l b xs ys).length = l.length := by simp [joiL, linkL_len]
theorem joiL_ati (l : List Int) (b : Nat) (xs ys : List Nat) (q : Nat) (h1 : q ≠ headAt (b - pow2 b)) (h2 : q ≠ headAt b) (h3 : ∀ r, r ∈ xs ∨ r ∈ ys → q ≠ recAt r + 2) : ati (joiL l b xs ys) q = ati l q := by
  unfold joiL
  rw [linkL_ati _ _ _ _ h1 (fun r hr => h3 r (mergedL_mem.1 hr)), linkL_ati _ _ _ _ h2 (by simp)]

theorem G_join (g : G l n (b + 1) C) (hb : 8 ≤ b) :
    G (joiL l b (C (b - pow2 b)) (C b)) n b (fun k => if k = b - pow2 b then mergedL l (C (b - pow2 b)) (C b) else C k) := by
  have hp := pow2_pos b
  have hpl := pow2_le (b := b) (by omega)
  have hi : b - pow2 b < b := by omega
  have hbn : ∀ h, bkt h (b + 1) = b → bkt h b = b - pow2 b := fun h e => bkt_new (by omega) e
  have hat := joiL_ati l b (C (b - pow2 b)) (C b)
  have hlen := joiL_len l b (C (b - pow2 b)) (C b)
  have hnd0 := g.nd (b - pow2 b) (by omega)
  have hndb := g.nd b (by omega)
  have hM : (mergedL l (C (b - pow2 b)) (C b)).Nodup := by
    refine (mergedL_perm l _ _ _ (Nat.le_refl _)).nodup_iff.2 (List.nodup_append.2 ⟨hnd0, hndb, fun r h1 s h2 e => ?_⟩)
    subst e
    have := g.only (by omega) (by omega) h1 h2
    omega
  have hMn : ∀ r ∈ mergedL l (C (b - pow2 b)) (C b), r < n := fun r hr => by
    rcases mergedL_mem.1 hr with h | h
    · exact g.lt (by omega) h
    · exact g.lt (by omega) h
  have hMs := mergedL_srt l _ _ _ (Nat.le_refl _) (g.srt (b - pow2 b) (by omega)) (g.srt b (by omega))
  have hMm : ∀ r, r ∈ mergedL l (C (b - pow2 b)) (C b) ↔ r ∈ C (b - pow2 b) ∨ r ∈ C b := fun r => mergedL_mem
  have hCL : CL (joiL l b (C (b - pow2 b)) (C b)) (headAt (b - pow2 b)) (mergedL l (C (b - pow2 b)) (C b)) :=
    linkL_cl _ _ _ (by rw [linkL_len]; exact g.hl _ (by omega)) (fun r hr => by rw [linkL_len]; exact ⟨g.rl r (hMn r hr), by have := hMn r hr; have := g.n1; omega⟩) (fun r _ e => head_rec e (by omega)) hM
  have hbz : ati (joiL l b (C (b - pow2 b)) (C b)) (headAt b) = 0 := by
    unfold joiL
    rw [linkL_ati _ _ _ _ (fun e => by have := headAt_inj e; omega) (fun r _ e => head_rec e (by omega))]
    show ati (l.set (headAt b) 0) (headAt b) = 0
    exact ati_set_eq (g.hl b (by omega))
  generalize b - pow2 b = i at *
  generalize joiL l b (C i) (C b) = l' at *
  generalize mergedL l (C i) (C b) = M at *
  have hrec : ∀ r a, a < 2 → ati l' (recAt r + a) = ati l (recAt r + a) := fun r a ha =>
    hat _ (fun e => head_rec e.symm (by omega)) (fun e => head_rec e.symm (by omega)) (fun s _ e => by have := (recAt_inj e (by omega) (by omega)).2; omega)
  have hr0 : ∀ r, ati l' (recAt r) = ati l (recAt r) := fun r => hrec r 0 (by omega)
  refine ⟨g.n1, fun r hr => by rw [hlen]; exact g.rl r hr, hb, fun k hk => by rw [hlen]; exact g.hl k (by omega), fun r hr => by rw [hr0]; exact g.hash r hr, fun k hk => ?_, fun k hk => ?_, fun k hk r => ?_, fun k hk => ?_, fun r hr s hs e1 e2 => ?_, fun k hk => ?_, fun r hr a ha => ?_⟩
  · by_cases e : k = i
    · subst e; rw [if_pos rfl]; exact hCL
    · rw [if_neg e]
      refine (g.chn k (by omega)).frame (fun q hq => ?_)
      rw [hlen]
      rcases hq with rfl | ⟨s, hs, rfl⟩
      · exact ⟨g.hl k (by omega), hat _ (fun e2 => e (headAt_inj e2)) (fun e2 => by have := headAt_inj e2; omega) (fun r _ e2 => head_rec e2 (by omega))⟩
      · refine ⟨g.rl s (g.lt (by omega) hs), hat _ (fun e2 => head_rec e2.symm (by omega)) (fun e2 => head_rec e2.symm (by omega)) (fun r hr e2 => ?_)⟩
        have := (recAt_inj e2 (by omega) (by omega)).1
        subst this
        rcases hr with hr | hr
        · exact e (g.only (by omega) (by omega) hs hr)
        · have := g.only (by omega) (by omega) hs hr; omega
  · by_cases e : k = i
    · rw [if_pos e]; exact hM
    · rw [if_neg e]; exact g.nd k (by omega)
  · rw [hr0]
    by_cases e : k = i
    · subst e
      rw [if_pos rfl, hMm, g.mem k (by omega), g.mem b (by omega)]
      constructor
      · rintro (⟨h1, h2⟩ | ⟨h1, h2⟩)
        · exact ⟨h1, by rw [← bkt_old (by omega) (by omega)]; exact h2⟩
        · exact ⟨h1, hbn _ h2⟩
      · rintro ⟨h1, h2⟩
        by_cases e : bkt (ati l (recAt r)).toNat (b + 1) = b
        · exact .inr ⟨h1, e⟩
        · exact .inl ⟨h1, by rw [bkt_old (by omega) e]; exact h2⟩
    · rw [if_neg e, g.mem k (by omega)]
      constructor
      · rintro ⟨h1, h2⟩; exact ⟨h1, by rw [← bkt_old (by omega) (by omega)]; exact h2⟩
      · rintro ⟨h1, h2⟩
        refine ⟨h1, ?_⟩
        by_cases e2 : bkt (ati l (recAt r)).toNat (b + 1) = b
        · exact absurd (h2.symm.trans (hbn _ e2)) e
        · rw [bkt_old (by omega) e2]; exact h2
  · simp only [hr0]
    by_cases e : k = i
    · rw [if_pos e]; exact hMs
    · rw [if_neg e]; exact g.srt k (by omega)
  · rw [hr0, hr0] at e1
    rw [hrec r 1 (by omega), hrec s 1 (by omega)] at e2
    exact g.dif r hr s hs e1 e2
  · by_cases e : k = b
    · rw [e]; exact hbz
    · rw [hat _ (fun e2 => by have := headAt_inj e2; omega) (fun e2 => e (headAt_inj e2)) (fun r _ e2 => head_rec e2 (by omega))]
      exact g.zh k (by omega)
  · rw [hat _ (fun e => head_rec e.symm ha) (fun e => head_rec e.symm ha) (fun s hs e => ?_)]
    · exact g.zr r hr a ha
    · have := (recAt_inj e ha (by omega)).1
      subst this
      have : r < n := by
        rcases hs with hs | hs
        · exact g.lt (by omega) hs
        · exact g.lt (by omega) hs
      omega

/-- sized changes the first three words only, where the rest is 0 -/
theorem G_sized (g : G l n b C) (hb : b = bkts n) (hl : wlen n ≤ l.length) : G (sizedL l n) n b C ∧ (ati l 3 = 0 → HeadOk (sizedL l n) n) := by
  have h60 := wlen_ge n
  have hA : ∀ q, 3 ≤ q → q < wlen n → ati (sizedL l n) q = ati l q := fun q h1 h2 => by
    rw [ati_sizedL, if_neg (by omega), if_neg (by omega), if_neg (by omega), if_pos h2]
  have hz : ∀ q, 3 ≤ q → ati l q = 0 → ati (sizedL l n) q = 0 := fun q h1 h2 => by
    rw [ati_sizedL, if_neg (by omega), if_neg (by omega), if_neg (by omega)]
    split <;> first | exact h2 | rfl
  have hr : ∀ r, r < n → ∀ a, a < 3 → ati (sizedL l n) (recAt r + a) = ati l (recAt r + a) := fun r hr a ha => hA _ (by have := recAt_ge r; omega) (by have := recAt_wlen hr; omega)
  have hr0 : ∀ r, r < n → ati (sizedL l n) (recAt r) = ati l (recAt r) := fun r h => hr r h 0 (by omega)
  subst hb
  refine ⟨⟨g.n1, fun r hr => by rw [sizedL_len]; exact recAt_wlen hr, g.b8, fun i hi => by rw [sizedL_len]; exact headAt_wlen hi, fun r h => by rw [hr0 r h]; exact g.hash r h, fun i hi => ?_, g.nd, fun i hi r => ?_, fun i hi => ?_, fun r h s hs e1 e2 => ?_, fun i hi => hz _ (by have := headAt_ge i; omega) (g.zh i hi), fun r h a ha => hz _ (by have := recAt_ge r; omega) (g.zr r h a ha)⟩, fun h3 => ?_⟩
  · refine (g.chn i hi).frame (fun q hq => ?_)
    rcases hq with rfl | ⟨s, hs, rfl⟩
    · exact ⟨by rw [sizedL_len]; exact headAt_wlen hi, hA _ (by have := headAt_ge i; omega) (headAt_wlen hi)⟩
    · exact ⟨by rw [sizedL_len]; exact recAt_wlen (g.lt hi hs), hr s (g.lt hi hs) 2 (by omega)⟩
  · rw [g.mem i hi r]
    constructor
    · rintro ⟨h1, h2⟩; exact ⟨h1, by rw [hr0 r h1]; exact h2⟩
    · rintro ⟨h1, h2⟩; rw [hr0 r h1] at h2; exact ⟨h1, h2⟩
  · refine (g.srt i hi).imp_of_mem (fun {x y} hx hy hxy => ?_)
    rw [hr0 x (g.lt hi hx), hr0 y (g.lt hi hy)]; exact hxy
  · rw [hr0 r h, hr0 s hs] at e1
    rw [hr r h 1 (by omega), hr s hs 1 (by omega)] at e2
    exact g.dif r h s hs e1 e2
  · refine ⟨by rw [ati_sizedL, if_pos rfl], g.n1, sizedL_len _ _, by rw [ati_sizedL, if_neg (by omega), if_pos rfl], by rw [ati_sizedL, if_neg (by omega), if_neg (by omega), if_pos rfl], hz 3 (by omega) h3⟩
end Go.Proofs.Ytdcomhdadnhpnaa
