/- slices.Contains(seen, false); a list of words is checked. -/
import Derived.Test.YtdcomhdadnhpnaaT13
namespace Go.Proofs.Ytdcomhdadnhpnaa
open Go.RowKit

theorem index_any (Bs : Nat) (s : List Bool) (w : World) (hS : SeenR w Bs s) (hn : s.length ≤ 1000000) :
    Calls Try.prog 114 #[.slice (some ⟨Bs, 0, none⟩) s.length s.length, .bool false] w fun e w' => (∃ i : Int, e = .returned (.int .i64 i) ∧ ((0 ≤ i) ↔ false ∈ s)) ∧ w' = w := by
  go_enter Try.func114, Try.ntmps114
  go_wp2
  go_loop [5, 8] (fun _ i => ∃ k : Nat, i = .int .i64 (k : Nat) ∧ k ≤ s.length ∧ Hid (∀ j, j < k → s.getD j false = true)) (fun _ i => s.length - (intOf i).toNat)
  case atStart => exact ⟨0, rfl, Nat.zero_le _, fun j h => by omega⟩
  case round =>
    obtain ⟨k, rfl, hk, hx⟩ := hrel
    by_cases hlt : k < s.length
    · have hlt' : (k : Int) < (s.length : Int) := by omega
      have hc := hS.cell k hlt
      have hd : s.getD k false = true ∨ s.getD k false = false := by cases s.getD k false <;> simp
      rcases hd with hd | hd
      · rw [hd] at hc
        have HD := Lib.hid hd
        clear hd
        go_wp2
        go_round
        case rel =>
          refine ⟨k + 1, by go_num, by omega, fun j hj => ?_⟩
          by_cases e : j = k
          · subst e; exact HD.out
          · exact hx.out j (by omega)
        case measure => simp [intOf]; omega
      · rw [hd] at hc
        have HD := Lib.hid hd
        clear hd
        go_wp2
        go_ret
        refine ⟨⟨_, rfl, ⟨fun _ => ?_, fun _ => by omega⟩⟩, rfl⟩
        have := HD.out
        rw [List.getD_eq_getElem?_getD, List.getElem?_eq_getElem hlt] at this
        rw [← show s[k] = false from this]
        exact List.getElem_mem _
    · go_wp2
      go_ret
      refine ⟨⟨_, rfl, ⟨fun h => by omega, fun h => ?_⟩⟩, rfl⟩
      obtain ⟨j, hj, he⟩ := List.getElem_of_mem h
      have := hx.out j (by omega)
      rw [List.getD_eq_getElem?_getD, List.getElem?_eq_getElem hj] at this
      simp [he] at this

theorem contains_any (Bs : Nat) (s : List Bool) (w : World) (hS : SeenR w Bs s) (hn : s.length ≤ 1000000) :
    Calls Try.prog 111 #[.slice (some ⟨Bs, 0, none⟩) s.length s.length, .bool false] w fun e w' => e = .returned (.bool (decide (false ∈ s))) ∧ w' = w := by
  go_enter Try.func111, Try.ntmps111
  go_wp2_with (go_at_call 114; refine (index_any Bs s w hS hn).mono ?_; rintro e w1 ⟨⟨i, rfl, hi⟩, rfl⟩)
  go_ret
  exact ⟨rfl, rfl⟩
end Go.Proofs.Ytdcomhdadnhpnaa
