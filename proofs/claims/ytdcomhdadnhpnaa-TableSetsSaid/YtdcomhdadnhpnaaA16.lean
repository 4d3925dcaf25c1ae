/- The abstract machine: small steps through regions whose order is drawn. -/
import Derived.Test.YtdcomhdadnhpnaaM8
set_option linter.unusedSimpArgs false
set_option linter.unusedVariables false
namespace Go.Am
open Go
theorem runLQ_of {α : Type} (m : AP α) : ∀ {H : AHp} {s : Nat} {rd wr : List Nat} {K : α → AHp → Nat → List Nat → List Nat → Prop} {a : α} {H' : AHp} {s' : Nat} {rd' wr' : List Nat},
    m.runL H s = some (a, H', s', rd', wr') → K a H' s' (rd ++ rd') (wr ++ wr') → runLQ m H s rd wr K := by
  induction m with
  | ret a =>
    intro H s rd wr K a' H' s' rd' wr' h hk
    simp only [AP.runL, Option.some.injEq, Prod.mk.injEq] at h
    obtain ⟨rfl, rfl, rfl, rfl, rfl⟩ := h
    simpa [runLQ] using hk
  | get n k ih =>
    intro H s rd wr K a' H' s' rd' wr' h hk
    simp only [AP.runL] at h
    simp only [runLQ]
    cases ho : H n with
    | none => rw [ho] at h; cases h
    | some o =>
      rw [ho] at h
      simp only at h ⊢
      cases hr : (k o).runL H s with
      | none => rw [hr] at h; cases h
      | some z =>
        obtain ⟨b, H1, s1, rd1, wr1⟩ := z
        rw [hr] at h
        simp only [Option.some.injEq, Prod.mk.injEq] at h
        obtain ⟨rfl, rfl, rfl, rfl, rfl⟩ := h
        exact ih o hr (by simpa using hk)
  | set n o k ih =>
    intro H s rd wr K a' H' s' rd' wr' h hk
    simp only [AP.runL] at h
    simp only [runLQ]
    cases hr : k.runL (upd H n o) s with
    | none => rw [hr] at h; cases h
    | some z =>
      obtain ⟨b, H1, s1, rd1, wr1⟩ := z
      rw [hr] at h
      simp only [Option.some.injEq, Prod.mk.injEq] at h
      obtain ⟨rfl, rfl, rfl, rfl, rfl⟩ := h
      exact ih hr (by simpa using hk)
  | new o k ih =>
    intro H s rd wr K a' H' s' rd' wr' h hk
    simp only [AP.runL] at h
    simp only [runLQ]
    cases ho : H s with
    | some o => rw [ho] at h; cases h
    | none =>
      rw [ho] at h
      simp only at h ⊢
      cases hr : (k s).runL (upd H s o) (s + 1) with
      | none => rw [hr] at h; cases h
      | some z =>
        obtain ⟨b, H1, s1, rd1, wr1⟩ := z
        rw [hr] at h
        simp only [Option.some.injEq, Prod.mk.injEq] at h
        obtain ⟨rfl, rfl, rfl, rfl, rfl⟩ := h
        exact ih s hr (by simpa using hk)
  | fail => intro H s rd wr K a' H' s' rd' wr' h; simp [AP.runL] at h
section
variable {P : Program} {E : Ent} {ct : CT} {Γ Γ' : List AV} {H H' : AHp} {s s' : Nat} {Q : APost}
theorem l_cons {ops : Array Oper} {i : Nat} {o : Oper} {rest : List Oper} {T T' : List Tr} {rd wr : List Nat} {K : List AV → AHp → Nat → List Tr → Prop} {v : AV} (hw : o.guard = none) (e : (aOp P ct Γ o).runL H s = some (v, H', s', rd, wr))
    (e2 : putA Γ o.dst v = Γ') (e3 : logT T ⟨i, s, rd, wr⟩ = T') (h : opsLQ P ct ops (i + 1) rest Γ' H' s' T' K) : opsLQ P ct ops i (o :: rest) Γ H s T K := by
  subst e2; subst e3
  have h1 : aWanted ops Γ o = some true := by unfold aWanted; rw [hw]
  rw [opsLQ, h1]
  exact runLQ_of _ e h
theorem l_consT {ops : Array Oper} {i : Nat} {o : Oper} {rest : List Oper} {T T' : List Tr} {rd wr : List Nat} {K : List AV → AHp → Nat → List Tr → Prop} {v : AV} (hw : aWanted ops Γ o = some true) (e : (aOp P ct Γ o).runL H s = some (v, H', s', rd, wr))
    (e2 : putA Γ o.dst v = Γ') (e3 : logT T ⟨i, s, rd, wr⟩ = T') (h : opsLQ P ct ops (i + 1) rest Γ' H' s' T' K) : opsLQ P ct ops i (o :: rest) Γ H s T K := by
  subst e2; subst e3
  rw [opsLQ, hw]
  exact runLQ_of _ e h
theorem l_consF {ops : Array Oper} {i : Nat} {o : Oper} {rest : List Oper} {T : List Tr} {K : List AV → AHp → Nat → List Tr → Prop} (hw : aWanted ops Γ o = some false) (e2 : putA Γ o.dst (.sc undef) = Γ')
    (h : opsLQ P ct ops (i + 1) rest Γ' H s T K) : opsLQ P ct ops i (o :: rest) Γ H s T K := by
  subst e2
  rw [opsLQ, hw]
  exact h
theorem l_nil {ops : Array Oper} {i : Nat} {T : List Tr} (hd : DynOK ops T) (h : Q .normal Γ H s) : opsLQ P ct ops i [] Γ H s T (fun Γ H s T => DynOK ops T ∧ Q .normal Γ H s) := ⟨hd, h⟩
end
end Go.Am
