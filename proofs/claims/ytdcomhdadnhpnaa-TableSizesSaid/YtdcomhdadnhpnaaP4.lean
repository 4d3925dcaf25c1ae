/- Plain: what the check of the chains accepts. No program here. -/
import Derived.Test.YtdcomhdadnhpnaaP1
set_option linter.unusedSimpArgs false
set_option linter.unusedVariables false
namespace Go.Proofs.Ytdcomhdadnhpnaa

/-- the element of a record -/
def elm (l : List Int) (r : Nat) : Int × Int := (ati l (recAt r), ati l (recAt r + 1))
/-- records that have been seen -/
def seeL (s : List Bool) (rs : List Nat) : List Bool := rs.foldl (fun s r => s.set r true) s
theorem seeL_len (s : List Bool) (rs : List Nat) : (seeL s rs).length = s.length := by
  induction rs generalizing s with
  | nil => rfl
  | cons a rs ih => exact (ih (s.set a true)).trans (by simp)
theorem seeL_get {s : List Bool} {rs : List Nat} {r : Nat} : (seeL s rs)[r]? = some false ↔ s[r]? = some false ∧ r ∉ rs := by
  induction rs generalizing s with
  | nil => simp [seeL]
  | cons a rs ih =>
    show (seeL (s.set a true) rs)[r]? = some false ↔ _
    rw [ih, List.getElem?_set]
    by_cases e : a = r
    · subst e; by_cases h : a < s.length <;> simp [h]
    · simp [e, Ne.symm e]

/-- a chain's records are right -/
def ChOk (l : List Int) (bk i : Nat) : List Bool → List (Int × Int) → Int → List Nat → Prop
  | _, _, _, [] => True
  | s, had, last, r :: rs => s[r]? = some false ∧ last ≤ ati l (recAt r) ∧ bkt (ati l (recAt r)).toNat bk = i ∧ elm l r ∉ had ∧ ChOk l bk i (s.set r true) (had ++ [elm l r]) (ati l (recAt r)) rs

theorem chOk_iff {l : List Int} {bk i : Nat} : ∀ {rs : List Nat} {s : List Bool} {had : List (Int × Int)} {last : Int},
    ChOk l bk i s had last rs ↔ rs.Nodup ∧ (∀ r ∈ rs, s[r]? = some false ∧ last ≤ ati l (recAt r) ∧ bkt (ati l (recAt r)).toNat bk = i ∧ elm l r ∉ had) ∧
      rs.Pairwise (fun r s => ati l (recAt r) ≤ ati l (recAt s)) ∧ rs.Pairwise (fun r s => elm l r ≠ elm l s)
  | [], s, had, last => by simp [ChOk]
  | r :: rs, s, had, last => by
    rw [ChOk, chOk_iff (rs := rs), List.nodup_cons, List.pairwise_cons, List.pairwise_cons]
    constructor
    · rintro ⟨h1, h2, h3, h4, h5, h6, h7, h8⟩
      refine ⟨⟨fun hm => ?_, h5⟩, fun q hq => ?_, ⟨fun q hq => (h6 q hq).2.1, h7⟩, fun q hq e => (h6 q hq).2.2.2 (by rw [e]; simp), h8⟩
      · have := (h6 r hm).1
        have hl := (List.getElem?_eq_some_iff.1 h1).1
        rw [List.getElem?_set] at this; simp [hl] at this
      · rcases List.mem_cons.1 hq with rfl | hq
        · exact ⟨h1, h2, h3, h4⟩
        · have k := h6 q hq
          refine ⟨?_, Int.le_trans h2 k.2.1, k.2.2.1, fun e => k.2.2.2 (by simp [e])⟩
          have := k.1
          rw [List.getElem?_set] at this
          by_cases e : r = q
          · subst e; have hl := (List.getElem?_eq_some_iff.1 h1).1; simp [hl] at this
          · simpa [e] using this
    · rintro ⟨⟨h1, h2⟩, h3, ⟨h4, h5⟩, h6, h7⟩
      have k := h3 r (by simp)
      refine ⟨k.1, k.2.1, k.2.2.1, k.2.2.2, h2, fun q hq => ?_, h5, h7⟩
      have kq := h3 q (by simp [hq])
      have hne : r ≠ q := fun e => h1 (e ▸ hq)
      refine ⟨by rw [List.getElem?_set]; simpa [hne] using kq.1, h4 q hq, kq.2.2.1, fun e => ?_⟩
      rcases List.mem_append.1 e with e | e
      · exact kq.2.2.2 e
      · exact h6 q hq (List.mem_singleton.1 e).symm

theorem ckC_iff {l : List Int} {bk i N : Nat} (hr : ∀ r, r < N → recAt r + 2 < l.length) (hN : N ≤ 100000) : ∀ (q : Nat) (s : List Bool) (had : List (Int × Int)) (last : Int) (s' : List Bool),
    s.length = N → q < l.length → (ckC l bk i q s had last = some s' ↔ ∃ rs, CL l q rs ∧ ChOk l bk i s had last rs ∧ s' = seeL s rs) := by
  intro q s had last
  fun_induction ckC l bk i q s had last with
  | case1 q s had last h0 =>
    intro s' hs hq
    constructor
    · intro e; exact ⟨[], ⟨hq, h0⟩, trivial, (Option.some.inj e).symm⟩
    · rintro ⟨rs, h1, h2, h3⟩
      cases rs with
      | nil => rw [h3]; rfl
      | cons r rs => exact absurd (h1.2.1.symm.trans h0) (by omega)
  | case2 q s had last h0 h1 h2 ih =>
    intro s' hs hq
    have hrr : ∃ r : Nat, ati l q = (r : Int) + 1 ∧ (ati l q).toNat - 1 = r := ⟨(ati l q).toNat - 1, by omega, rfl⟩
    obtain ⟨r, hr1, hr2⟩ := hrr
    rw [hr2] at ih h1 h2
    rw [hr2]
    have hrN : r < N := by omega
    rw [ih s' (by rw [List.length_set]; exact hs) (hr r hrN)]
    constructor
    · rintro ⟨rs, k1, k2, k3⟩
      exact ⟨r :: rs, ⟨hq, hr1, by omega, k1⟩, ⟨h1.2.2, h2.1, h2.2.1, h2.2.2, k2⟩, k3⟩
    · rintro ⟨rs, k1, k2, k3⟩
      cases rs with
      | nil => exact absurd k1.2 h0
      | cons r' rs =>
        obtain rfl : r = r' := by have := k1.2.1; omega
        exact ⟨rs, k1.2.2.2, k2.2.2.2.2, k3⟩
  | case3 q s had last h0 h1 h2 =>
    intro s' hs hq
    constructor
    · intro e; cases e
    · rintro ⟨rs, k1, k2, k3⟩
      cases rs with
      | nil => exact absurd k1.2 h0
      | cons r rs =>
        have : (ati l q).toNat - 1 = r := by have := k1.2.1; omega
        rw [this] at h2
        exact absurd ⟨k2.2.1, k2.2.2.1, k2.2.2.2.1⟩ h2
  | case4 q s had last h0 h1 =>
    intro s' hs hq
    constructor
    · intro e; cases e
    · rintro ⟨rs, k1, k2, k3⟩
      cases rs with
      | nil => exact absurd k1.2 h0
      | cons r rs =>
        have e := k1.2.1
        have : (ati l q).toNat - 1 = r := by omega
        rw [this] at h1
        have hl := (List.getElem?_eq_some_iff.1 k2.1).1
        exact absurd ⟨by omega, by omega, k2.1⟩ h1

/-- what has been seen behind the first k chains -/
def seeA (n : Nat) (C : Nat → List Nat) : Nat → List Bool
  | 0 => List.replicate n false
  | k + 1 => seeL (seeA n C k) (C k)
theorem seeA_len (n : Nat) (C : Nat → List Nat) : ∀ k, (seeA n C k).length = n
  | 0 => by simp [seeA]
  | k + 1 => (seeL_len _ _).trans (seeA_len n C k)
theorem seeA_congr {n : Nat} {C D : Nat → List Nat} : ∀ {k : Nat}, (∀ i, i < k → C i = D i) → seeA n C k = seeA n D k
  | 0, _ => rfl
  | k + 1, h => by rw [seeA, seeA, seeA_congr (k := k) (fun i hi => h i (by omega)), h k (by omega)]
theorem seeA_get {n : Nat} {C : Nat → List Nat} {r : Nat} : ∀ {k : Nat}, (seeA n C k)[r]? = some false ↔ r < n ∧ ∀ i, i < k → r ∉ C i
  | 0 => by simp [seeA, List.getElem?_replicate]
  | k + 1 => by
    rw [seeA, seeL_get, seeA_get (k := k)]
    constructor
    · rintro ⟨⟨h1, h2⟩, h3⟩
      refine ⟨h1, fun i hi => ?_⟩
      by_cases e : i = k
      · rw [e]; exact h3
      · exact h2 i (by omega)
    · rintro ⟨h1, h2⟩
      exact ⟨⟨h1, fun i hi => h2 i (by omega)⟩, h2 k (by omega)⟩
theorem ckAll_iff {l : List Int} {bk N : Nat} (hr : ∀ r, r < N → recAt r + 2 < l.length) (hN : N ≤ 100000) : ∀ (k : Nat) (s : List Bool), (∀ i, i < k → headAt i < l.length) →
    (ckAll l N bk k = some s ↔ ∃ C, (∀ i, i < k → CL l (headAt i) (C i) ∧ ChOk l bk i (seeA N C i) [] 0 (C i)) ∧ s = seeA N C k)
  | 0, s, _ => by
    constructor
    · intro e; exact ⟨fun _ => [], fun i hi => absurd hi (by omega), (Option.some.inj e).symm⟩
    · rintro ⟨C, _, e⟩; rw [e]; rfl
  | k + 1, s, hh => by
    have ih := ckAll_iff (bk := bk) hr hN k
    rw [ckAll]
    constructor
    · intro e
      cases hk : ckAll l N bk k with
      | none => rw [hk] at e; cases e
      | some u =>
        rw [hk] at e
        obtain ⟨C, hC, rfl⟩ := (ih u (fun i hi => hh i (by omega))).1 hk
        obtain ⟨rs, h1, h2, h3⟩ := (ckC_iff hr hN (headAt k) _ [] 0 s (seeA_len _ _ _) (hh k (by omega))).1 e
        have hcg : ∀ i, i ≤ k → seeA N (fun j => if j = k then rs else C j) i = seeA N C i := fun i hi => seeA_congr (fun j hj => if_neg (by omega))
        refine ⟨fun j => if j = k then rs else C j, fun i hi => ?_, ?_⟩
        · rw [hcg i (by omega)]
          by_cases e : i = k
          · subst e; simpa using ⟨h1, h2⟩
          · simpa [e] using hC i (by omega)
        · rw [h3, seeA, hcg k (by omega)]; simp
    · rintro ⟨C, hC, e⟩
      have h1 := (ih (seeA N C k) (fun i hi => hh i (by omega))).2 ⟨C, fun i hi => hC i (by omega), rfl⟩
      rw [h1]
      exact (ckC_iff hr hN (headAt k) _ [] 0 s (seeA_len _ _ _) (hh k (by omega))).2 ⟨C k, (hC k (by omega)).1, (hC k (by omega)).2, e⟩
end Go.Proofs.Ytdcomhdadnhpnaa
