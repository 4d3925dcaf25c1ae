/- Plain: what dropping an element makes of a table. No program here. -/
import Derived.Test.YtdcomhdadnhpnaaP7
set_option linter.unusedSimpArgs false
set_option linter.unusedVariables false
namespace Go.Proofs.Ytdcomhdadnhpnaa
variable {l : List Int} {n b : Nat} {C : Nat → List Nat}

/-- the record m = n - 1 takes the place r, if it is not there -/
def MoveS (l : List Int) (n b : Nat) (C : Nat → List Nat) (r : Nat) (k : Nat) (l' : List Int) (C' : Nat → List Nat) : Prop :=
  (r = n - 1 ∧ k = 0 ∧ l' = l ∧ C' = C) ∨
  (r ≠ n - 1 ∧ ∃ pre post, C (bkt (ati l (recAt (n - 1))).toNat b) = pre ++ (n - 1) :: post ∧ k = pre.length + 1 ∧
    l' = movL l r (n - 1) (endp (headAt (bkt (ati l (recAt (n - 1))).toNat b)) pre) ∧ C' = fun i => if i = bkt (ati l (recAt (n - 1))).toNat b then pre ++ r :: post else C i)
/-- the last bucket is joined with another one, if it is not needed for n elements -/
def JoinS (l : List Int) (n b : Nat) (C : Nat → List Nat) (k : Nat) (l' : List Int) (C' : Nat → List Nat) : Prop :=
  (bkts n ≠ b - 1 ∧ k = 0 ∧ l' = l ∧ C' = C) ∨
  (bkts n = b - 1 ∧ k = (C (b - 1 - pow2 (b - 1))).length + (C (b - 1)).length ∧ l' = joiL l (b - 1) (C (b - 1 - pow2 (b - 1))) (C (b - 1)) ∧
    C' = fun i => if i = b - 1 - pow2 (b - 1) then mergedL l (C (b - 1 - pow2 (b - 1))) (C (b - 1)) else C i)
/-- what Drop makes of a table with an element, and how many records it looks at -/
def DropS (l : List Int) (n : Nat) (C : Nat → List Nat) (h x : Int) (k : Nat) (l' : List Int) (C' : Nat → List Nat) : Prop :=
  ∃ pre r post k1 l1 C1 k2 l2, C (bkt h.toNat (bkts n)) = pre ++ r :: post ∧ hits l h x r ∧ (∀ s ∈ pre, ¬ hits l h x s) ∧
    MoveS (remL l (endp (headAt (bkt h.toNat (bkts n))) pre) r) n (bkts n) (fun i => if i = bkt h.toNat (bkts n) then pre ++ post else C i) r k1 l1 C1 ∧
    JoinS (zerL l1 (n - 1)) (n - 1) (bkts n) C1 k2 l2 C' ∧ k = pre.length + 1 + k1 + k2 ∧ l' = sizedL l2 (n - 1)

theorem bkts_mono {n m : Nat} (h : n ≤ m) : bkts n ≤ bkts m := by
  unfold bkts
  split <;> split <;> omega
theorem bkts_nx {n : Nat} (h : bkts n < bkts (n + 1)) : bkts (n + 1) = bkts n + 1 := by
  unfold bkts at *
  by_cases h1 : n ≤ 16
  · by_cases h2 : n + 1 ≤ 16
    · rw [if_pos h1, if_pos h2] at h; omega
    · rw [if_pos h1, if_neg h2] at h ⊢; omega
  · rw [if_neg h1, if_neg (by omega)] at h ⊢; omega
theorem bkts_down {n : Nat} (hn : 0 < n) : bkts (n - 1) = bkts n ∨ (bkts (n - 1) + 1 = bkts n ∧ 8 < bkts n) := by
  have := bkts_mono (show n - 1 ≤ n by omega)
  have h8 := bkts8 (n - 1)
  rcases Nat.lt_or_ge (bkts (n - 1)) (bkts n) with h | h
  · have e : n - 1 + 1 = n := by omega
    have := bkts_nx (n := n - 1) (by rw [e]; exact h)
    rw [e] at this
    exact .inr ⟨this.symm, by omega⟩
  · exact .inl (by omega)

theorem GS.move {r : Nat} (g : GS l n (fun s => s < n ∧ s ≠ r) b C) (hr : r < n) {k : Nat} {l' : List Int} {C' : Nat → List Nat} (h : MoveS l n b C r k l' C') :
    GS l' n (fun s => s < n - 1) b C' ∧ l'.length = l.length ∧ ati l' 3 = ati l 3 := by
  rcases h with ⟨rfl, rfl, rfl, rfl⟩ | ⟨hne, pre, post, hC, rfl, rfl, rfl⟩
  · exact ⟨g.congr (fun s => by omega), rfl, rfl⟩
  · have hj : bkt (ati l (recAt (n - 1))).toNat b < b := bkt_lt _ g.bpos
    have g2 := g.mov hj hC hr (fun h => h.2 rfl)
    refine ⟨g2.congr (fun s => by omega), movL_len, ?_⟩
    have hle : endp (headAt (bkt (ati l (recAt (n - 1))).toNat b)) pre < l.length := by
      have := g.chn _ hj; rw [hC] at this; exact this.split.endlt
    have h4 : 4 ≤ endp (headAt (bkt (ati l (recAt (n - 1))).toNat b)) pre := by
      rcases endp_cases (headAt (bkt (ati l (recAt (n - 1))).toNat b)) pre with ⟨_, e⟩ | ⟨t, _, e⟩
      · rw [e]; exact headAt_ge _
      · rw [e]; have := recAt_ge t; omega
    have := recAt_ge r
    unfold movL
    rw [ati_set_ne (by omega), ati_set_ne (by omega), ati_set_ne (by omega), ati_set_ne (by omega)]

theorem G.drop (g : G l n (bkts n) C) (hH : HeadOk l n) {h x : Int} {k : Nat} {l' : List Int} {C' : Nat → List Nat} (hD : DropS l n C h x k l' C') :
    0 < n ∧ G l' (n - 1) (bkts (n - 1)) C' ∧ HeadOk l' (n - 1) := by
  obtain ⟨pre, r, post, k1, l1, C1, k2, l2, hC, hh, _, hM, hJ, rfl, rfl⟩ := hD
  have hi : bkt h.toNat (bkts n) < bkts n := bkt_lt _ (by have := g.b8; omega)
  have hrn : r < n := g.lt hi (by rw [hC]; simp)
  refine ⟨by omega, ?_⟩
  have g1 := g.gs.rem hi hC
  have hf4 : 4 ≤ endp (headAt (bkt h.toNat (bkts n))) pre := by
    rcases endp_cases (headAt (bkt h.toNat (bkts n))) pre with ⟨_, e⟩ | ⟨t, _, e⟩
    · rw [e]; exact headAt_ge _
    · rw [e]; have := recAt_ge t; omega
  have l13 : ati (remL l (endp (headAt (bkt h.toNat (bkts n))) pre) r) 3 = 0 := (ati_set_ne (by omega)).trans hH.b3
  obtain ⟨g2, hl2, h23⟩ := g1.move hrn hM
  have hl2' : l1.length = wlen n := by rw [hl2, show (remL l (endp (headAt (bkt h.toNat (bkts n))) pre) r).length = l.length from by simp [remL], hH.len]
  obtain ⟨g3, hz⟩ := g2.zer (m := n - 1) (by omega) (by omega)
  have g4 := g3.g hz
  have l43 : ati (zerL l1 (n - 1)) 3 = 0 := by
    have := recAt_ge (n - 1)
    unfold zerL
    rw [ati_set_ne (by omega), ati_set_ne (by omega), ati_set_ne (by omega), h23, l13]
  have hw := wlen_mono (show n - 1 ≤ n by omega)
  rcases hJ with ⟨hb, rfl, rfl, rfl⟩ | ⟨hb, rfl, rfl, rfl⟩
  · have e : bkts (n - 1) = bkts n := by rcases bkts_down (n := n) (by omega) with h | h <;> omega
    rw [← e] at g4
    have := G_sized g4 rfl (by rw [zerL_len, hl2']; exact hw)
    exact ⟨this.1, this.2 l43⟩
  · have e : bkts n = (bkts n - 1) + 1 := by have := g.b8; omega
    rw [e] at g4
    have h8 := bkts8 (n - 1)
    have g5 := G_join g4 (by omega)
    have := G_sized (n := n - 1) (b := bkts n - 1) g5 hb.symm (by rw [joiL_len, zerL_len, hl2']; exact hw)
    rw [hb]
    refine ⟨this.1, this.2 ?_⟩
    rw [joiL_ati _ _ _ _ _ (by have := headAt_ge (bkts n - 1 - pow2 (bkts n - 1)); omega) (by have := headAt_ge (bkts n - 1); omega) (fun s _ => by have := recAt_ge s; omega)]
    exact l43
end Go.Proofs.Ytdcomhdadnhpnaa
