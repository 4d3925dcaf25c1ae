import Derived.Test.YtdcomhdadnhpnaaXB3
set_option linter.all false
namespace Go.Proofs.Ytdcomhdadnhpnaa
open Go Go.Am Go.RowKit
attribute [local irreducible] wA opsQ opsLQ thenA blockA EndA
theorem arg2 {ρ : Inj} {O : Nat → Prop} {w : World} {a b : AV} {vs : List Value} (h : Reps ρ O w [a, b] vs) : ∃ x y, vs = [x, y] ∧ Rep ρ O w a x ∧ Rep ρ O w b y := by
  obtain ⟨x, t, rfl, h1, h2⟩ := Reps.uncons h
  obtain ⟨y, u, rfl, h3, h4⟩ := Reps.uncons h2
  have : u = [] := by simpa using h4.len
  exact ⟨x, y, by rw [this], h1, h3⟩
theorem Pub.agg2 {H : AHp} {K : Nat → Prop} {N : Nat → Option (Nat × Nat)} {a a' b b' : AV} (h : Pub H K N a a') (k : Pub H K N b b') : Pub H K N (.agg [a, b]) (.agg [a', b']) := by
  refine .agg rfl (fun i x y hx hy => ?_)
  match i with
  | 0 => simp at hx hy; subst hx; subst hy; exact h
  | 1 => simp at hx hy; subst hx; subst hy; exact k
  | i + 2 => simp at hx
end Go.Proofs.Ytdcomhdadnhpnaa