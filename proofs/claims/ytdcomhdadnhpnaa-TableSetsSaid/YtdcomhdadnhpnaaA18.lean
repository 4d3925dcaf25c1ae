/- The abstract machine: calls that hand out rows of their own; comparisons as named laws. -/
import Derived.Test.YtdcomhdadnhpnaaA17
set_option linter.unusedSimpArgs false
set_option linter.unusedVariables false
namespace Go.Am
open Go
theorem AP.run_fin {α : Type} (m : AP α) : ∀ {H : AHp} {s : Nat} {a : α} {H' : AHp} {s' : Nat}, m.run H s = some (a, H', s') → (∃ M, ∀ n, M ≤ n → H n = none) → ∃ M, ∀ n, M ≤ n → H' n = none := by
  induction m with
  | ret a => intro H s a' H' s' h hf; simp only [AP.run, Option.some.injEq, Prod.mk.injEq] at h; obtain ⟨_, rfl, _⟩ := h; exact hf
  | get n k ih =>
    intro H s a' H' s' h hf
    simp only [AP.run] at h
    split at h
    · rename_i o ho; exact ih o h hf
    · cases h
  | set n o k ih =>
    intro H s a' H' s' h hf
    simp only [AP.run] at h
    obtain ⟨M, hM⟩ := hf
    exact ih h ⟨max M (n + 1), fun q hq => by rw [upd_ne _ _ (by omega)]; exact hM q (by omega)⟩
  | new o k ih =>
    intro H s a' H' s' h hf
    simp only [AP.run] at h
    split at h
    · obtain ⟨M, hM⟩ := hf
      exact ih s h ⟨max M (s + 1), fun q hq => by rw [upd_ne _ _ (by omega)]; exact hM q (by omega)⟩
    · cases h
  | fail => intro H s a' H' s' h; simp [AP.run] at h
section
variable {P : Program} {ct : CT}
/-- a call whose contract is any program -/
theorem acall_gen {f : FuncId} {fn : Func} {c : Code} {args : List AV} {m : AP AV} (hf : P.funcs[f]? = some fn) (hb : fn.body = some c)
    (h : ∀ (E : Ent) (s0 s : Nat) (r : AV) (H' : AHp) (s' : Nat), m.run E.H s0 = some (r, H', s') → (∀ n, s ≤ n → E.H n = none ∧ H' n = none) →
      AWp P E c (begA fn args) E.H s (EndA P fn fun r1 H1 => ∃ (r2 : AV) (N : Nat → Option (Nat × Nat)), Go.Proofs.Ytdcomhdadnhpnaa.Wk r2 r ∧ Fin E.H H1 N H' ∧ Pub H1 (fun n => H' n ≠ none ∧ N n = none) N r1 r2)) : ACall P f args m := by
  intro ρ H w vs hrel hr s0 r H' s' hmm
  obtain ⟨M, hM⟩ := hrel.fin
  obtain ⟨M', hM'⟩ := AP.run_fin m hmm ⟨M, hM⟩
  refine (calls_of_awp (E := ⟨ρ, H, w⟩) hf hb hrel hr (h ⟨ρ, H, w⟩ s0 (max M M') r H' s' hmm (fun n hn => ⟨hM n (by omega), hM' n (by omega)⟩))).mono ?_
  rintro e w' ⟨v, r1, H1, ρ1, rfl, ⟨r2, N, hw, hF, hp⟩, hs, hrep⟩
  obtain ⟨ρ', h1, h2⟩ := exit_gen hrel hs N H' hF
  exact ⟨v, ρ', rfl, h1, hw _ _ _ _ (h2 _ _ _ hp hrep)⟩
/-- a call that hands out one row of exact cells -/
theorem acall_row {f : FuncId} {fn : Func} {c : Code} {args : List AV} {esz len : Nat} {cs : List AV} (hx : ∀ a ∈ cs, ∃ v, a = .sc v) (hm : P.follows .mixedOrders = true) (hct : CTok P ct) (hf : P.funcs[f]? = some fn) (hb : fn.body = some c) (hst : statC c = true)
    (h : ∀ (E : Ent) (s : Nat), (∀ n, s ≤ n → E.H n = none) → wA P E ct c (begA fn args) E.H s (EndA P fn fun r1 H1 => (∀ n, E.H n ≠ none → H1 n = E.H n) ∧ ∃ nm ver, r1 = .sl nm ver 0 len ∧ H1 nm = some (.row ver esz cs) ∧ s ≤ nm)) :
    ACall P f args (.new (.row 0 esz cs) fun n => .ret (.sl n 0 0 len)) := by
  refine acall_gen hf hb (fun E s0 s r H' s' hr hs => ?_)
  simp only [AP.run] at hr
  split at hr
  · rename_i h0
    simp only [Option.some.injEq, Prod.mk.injEq] at hr
    obtain ⟨rfl, rfl, rfl⟩ := hr
    refine (wA_ok hm hct c hst (h E s (fun n hn => (hs n hn).1))).mono (fun e Γ H1 s1 he => ?_)
    have key : ∀ r1, ((∀ n, E.H n ≠ none → H1 n = E.H n) ∧ ∃ nm ver, r1 = .sl nm ver 0 len ∧ H1 nm = some (.row ver esz cs) ∧ s ≤ nm) → ∃ (r2 : AV) (N : Nat → Option (Nat × Nat)), Go.Proofs.Ytdcomhdadnhpnaa.Wk r2 (.sl s0 0 0 len) ∧ Fin E.H H1 N (upd E.H s0 (.row 0 esz cs)) ∧ Pub H1 (fun n => upd E.H s0 (.row 0 esz cs) n ≠ none ∧ N n = none) N r1 r2 := by
      rintro r1 ⟨k1, nm, ver, rfl, k2, k3⟩
      have hs0 : s0 < s := Nat.lt_of_not_le fun hle => by have := (hs s0 hle).2; rw [upd_same] at this; cases this
      have hH : ∀ n, s ≤ n → upd E.H s0 (.row 0 esz cs) n = none := fun n hn => (hs n hn).2
      refine ⟨_, fun q => if q = s0 then some (nm, 0) else none, Go.Proofs.Ytdcomhdadnhpnaa.Wk.rfl', ⟨fun n hn => ?_, fun n o' hn => ?_, ?_, ?_, ⟨s, hH⟩⟩, ?_⟩
      · have hne : n ≠ s0 := by rintro rfl; exact hn h0
        exact ⟨by rw [upd_ne _ _ hne]; exact hn, by rw [if_neg hne]⟩
      · by_cases e : n = s0
        · subst e
          rw [upd_same] at hn; cases hn
          refine .inr ⟨nm, 0, ver, esz, cs, cs, by rw [if_pos rfl], k2, hH nm k3, Nat.zero_le _, rfl, by simp, fun i a b ha hb => ?_⟩
          rw [List.drop_zero] at ha
          rw [ha] at hb; cases hb
          obtain ⟨v, rfl⟩ := hx a (List.mem_of_getElem? ha)
          exact Pub.sc v
        · rw [upd_ne _ _ e] at hn
          exact .inl ⟨by rw [if_neg e], .inl ⟨hn, by rw [k1 n (by rw [hn]; simp)]; exact hn⟩⟩
      · intro a b n o o' ha hb
        split at ha
        · split at hb
          · rename_i e1 e2; rw [e1, e2]
          · cases hb
        · cases ha
      · intro q n o hq
        split at hq
        · rename_i e; rw [e, upd_same]; simp
        · cases hq
      · refine Pub.ren k2 (by rw [if_pos rfl]) ?_
        rintro ⟨h1, _⟩
        exact h1 (hH nm k3)
    cases e with
    | normal => exact he.imp (fun l hl => ⟨hl.1, key _ hl.2⟩)
    | ret => exact he.imp (fun l hl => ⟨hl.1, key _ hl.2⟩)
    | _ => exact he.elim
  · cases hr
end
end Go.Am
namespace Go.Proofs.Ytdcomhdadnhpnaa
open Go Go.Am
section
variable {xo yo : Operand} {k : IntKind} {x y : Int}
theorem eqlT3 : aBin Try.prog .eql 3 xo yo (.sc (.int k x)) (.sc (.int k y)) = .ret (.sc (.bool (decide (x = y)))) := bin_eql Try.underlying3
theorem neqT3 : aBin Try.prog .neq 3 xo yo (.sc (.int k x)) (.sc (.int k y)) = .ret (.sc (.bool (!(decide (x = y))))) := bin_neq Try.underlying3
theorem eqlT23 : aBin Try.prog .eql 23 xo yo (.sc (.int k x)) (.sc (.int k y)) = .ret (.sc (.bool (decide (x = y)))) := bin_eql Try.underlying23
theorem neqT23 : aBin Try.prog .neq 23 xo yo (.sc (.int k x)) (.sc (.int k y)) = .ret (.sc (.bool (!(decide (x = y))))) := bin_neq Try.underlying23
end
theorem bs31 (x : Int) : aBuildSlice Try.prog 31 1 [(0, .sc (.int .i64 x))] = .new (.row 0 1 [.sc (.int .i64 x)]) fun n => .ret (.sl n 0 0 1) := by
  have hz : aZeros (.int .i64 0) 1 = [.sc (.int .i64 0)] := rfl
  simp [aBuildSlice, Try.underlying31, sz3, ze3, hz, aFill, aCells, AV.one, Value.oneCell', putCells]
theorem bs41 (x y : Int) : aBuildSlice Try.prog 41 1 [(0, .agg [.sc (.int .i64 x), .sc (.int .i64 y)])] = .new (.row 0 2 [.sc (.int .i64 x), .sc (.int .i64 y)]) fun n => .ret (.sl n 0 0 1) := by
  have hz : aZeros (.agg #[.int .i64 0, .int .i64 0]) 2 = [.sc (.int .i64 0), .sc (.int .i64 0)] := by
    simp [aZeros, Value.cells, List.range_succ]
  simp [aBuildSlice, Try.underlying41, sz43, ze43, hz, aFill, aCells, AV.one, Value.oneCell', putCells]
theorem bs40 (x y : Int) : aBuildSlice Try.prog 40 1 [(0, .agg [.sc (.int .i64 x), .sc (.int .i64 y)])] = .new (.row 0 2 [.sc (.int .i64 x), .sc (.int .i64 y)]) fun n => .ret (.sl n 0 0 1) := by
  have hz : aZeros (.agg #[.int .i64 0, .int .i64 0]) 2 = [.sc (.int .i64 0), .sc (.int .i64 0)] := by
    simp [aZeros, Value.cells, List.range_succ]
  simp [aBuildSlice, Try.underlying40, sz43, ze43, hz, aFill, aCells, AV.one, Value.oneCell', putCells]
theorem put1 (cs : List AV) (off : Nat) (y : AV) : putCells cs off [y] = cs.set off y := rfl
theorem put2 (a b c d : AV) : putCells [a, b] 0 [c, d] = [c, d] := rfl
theorem bin_remT {P : Program} {t : TypeId} {xo yo : Operand} {x y : Int} (h : y ≠ 0) : aBin P .rem t xo yo (.sc (.int .i64 x)) (.sc (.int .i64 y)) = .ret (.sc (.int .i64 (x.tmod y))) := by
  simp [aBin, isEqOp, aG2, AV.val?, eqGuard, binOp, Op.intDiv, h, AP.ofOption, pureRun_pure]
end Go.Proofs.Ytdcomhdadnhpnaa
