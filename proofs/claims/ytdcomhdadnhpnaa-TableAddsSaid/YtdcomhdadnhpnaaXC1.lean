import Derived.Test.YtdcomhdadnhpnaaXMB
import Derived.Test.YtdcomhdadnhpnaaXB3
import Derived.Deep.SlicePairs
set_option linter.all false
namespace Go.Proofs.Ytdcomhdadnhpnaa
open Go Go.Am Go.RowKit Go.ChangeShapes Go.WideShapes Go.ChangeAt
def intV (v : Value) : Int := match v with | .int _ z => z | _ => 0
section
variable {H : Type} {enc : TypeId × Value → H} {W : World} {d : DataW H} {p : List MemPlace}
theorem elsA_get : ∀ {L : List (Int × Int)} {i : Nat} {x : AV}, (elsA L)[i]? = some x → ∃ j, ∃ h : j < L.length, (i = j * 2 ∧ x = .sc (.int .i64 L[j].1)) ∨ (i = j * 2 + 1 ∧ x = .sc (.int .i64 L[j].2))
  | [], i, x, h => by simp [elsA] at h
  | e :: L, i, x, h => by
    rw [elsA_cons] at h
    match i with
    | 0 => simp at h; exact ⟨0, by simp, .inl ⟨rfl, h.symm⟩⟩
    | 1 => simp at h; exact ⟨0, by simp, .inr ⟨rfl, h.symm⟩⟩
    | i + 2 =>
      obtain ⟨j, hj, h1⟩ := elsA_get (L := L) (i := i) (x := x) (by simpa using h)
      refine ⟨j + 1, by simpa using hj, ?_⟩
      rcases h1 with ⟨rfl, rfl⟩ | ⟨rfl, rfl⟩
      · exact .inl ⟨by omega, rfl⟩
      · exact .inr ⟨by omega, rfl⟩
theorem rep_els {a : Option Addr} {len cap : Nat} (h : DataW.Trod enc Try.prog W 0 (fun _ => true) true 40 (.slice a len cap) d p) :
    ∃ L : List (Int × Int), Rep ρ0 (own ρ0 H0) W (.dsl L.length (elsA L)) (.slice a len cap) ∧ L.length ≤ 9223372036854775807 := by
  obtain ⟨fuel, hf⟩ := h
  rcases Go.Deep.open_slice_pairs (e := 43) Try.underlying40 Try.underlying43 (by kernel_rfl) rfl rfl (by kernel_rfl) (by kernel_rfl) hf with ⟨hcs, _⟩ | ⟨a', len', cap', m, n, V0, V1, D0, D1, P0, P1, hcs, _, hl, hm, hmm, _, hx⟩
  · simp [Value.cells] at hcs
    obtain ⟨rfl, rfl, rfl⟩ := hcs
    exact ⟨[], .dnil (Nat.le_refl _), by simp⟩
  · simp [Value.cells] at hcs
    obtain ⟨rfl, rfl, rfl⟩ := hcs
    simp only [if_true] at hmm
    subst hmm
    have hm' : m ≤ 9223372036854775807 := hm
    refine ⟨(List.range len).map fun i => (intV (V0 i), intV (V1 i)), ?_, by simp; omega⟩
    rw [List.length_map, List.length_range]
    by_cases h0 : len = 0
    · subst h0
      exact .dnil (Nat.zero_le _)
    · obtain ⟨b, off, spot⟩ := a'
      have hspot : spot = none := by simpa [Addr.add] using World.cell?_spot (hx 0 (by omega)).1
      subst hspot
      have hv : ∀ i, i < len → W.cell? ⟨b, off + i * 2, none⟩ = some (.int .i64 (intV (V0 i))) ∧ W.cell? ⟨b, off + (i * 2 + 1), none⟩ = some (.int .i64 (intV (V1 i))) := fun i hi => by
        obtain ⟨h1, h2, h3, h4⟩ := hx i (by omega)
        obtain ⟨z0, e0, _⟩ := DataW.trod_int Try.underlying3 h3
        obtain ⟨z1, e1, _⟩ := DataW.trod_int Try.underlying3 h4
        have e0' : V0 i = .int .i64 z0 := by simpa using e0
        have e1' : V1 i = .int .i64 z1 := by simpa using e1
        rw [e0'] at h1 ⊢
        rw [e1'] at h2 ⊢
        rw [add_plain] at h1 h2
        exact ⟨h1, h2⟩
      have hb : b < W.heap.size := by
        have := (hv 0 (by omega)).1
        refine Nat.lt_of_not_le fun hb => ?_
        simp [World.cell?, hb] at this
      refine .dsl (vs := (elsA ((List.range len).map fun i => (intV (V0 i), intV (V1 i)))).map fun x => match x with | .sc v => v | _ => undef) hl (own0 b) hb (by simp) ?_ ?_
      · intro i x hxx
        rw [List.getElem?_map] at hxx
        obtain ⟨y, h1, rfl⟩ := Option.map_eq_some_iff.1 hxx
        obtain ⟨j, hj, h2⟩ := elsA_get h1
        have hjl : j < len := by simpa using hj
        rcases h2 with ⟨rfl, rfl⟩ | ⟨rfl, rfl⟩
        · simpa using (hv j hjl).1
        · simpa using (hv j hjl).2
      · intro i y x h1 h2
        rw [List.getElem?_map, h1] at h2
        obtain ⟨j, hj, h3⟩ := elsA_get h1
        rcases h3 with ⟨rfl, rfl⟩ | ⟨rfl, rfl⟩ <;> (simp at h2; subst h2; simp only [List.getElem_map, List.getElem_range]; exact .sc _)
end
end Go.Proofs.Ytdcomhdadnhpnaa