/- (t) valid: the first words are wrong -/
import Derived.Test.YtdcomhdadnhpnaaT15
import Derived.Defers
namespace Go.Proofs.Ytdcomhdadnhpnaa
open Go.RowKit
attribute [local irreducible] wpStill

set_option maxRecDepth 100000 in
set_option maxHeartbeats 8000000 in
theorem valid_head_no (A : Option Addr) (c : Nat) (l : List Int) (w : World) (hR : RdL w A l) (hH : ¬ HeadOk l (ati l 0).toNat) :
    Calls Try.prog 97 #[.slice A l.length c] w fun e W' => (∃ b : Bool, e = .returned (.bool b) ∧ (b = true ↔ ValidL l)) ∧ Below w.heap.size w W' := by
  have hmf : ∀ (fn : Fn) (first cap : Array Value) (w : World), (Instr.makeFunc fn first cap).run Try.prog w = .ok (.func fn first cap) w := fun _ _ _ _ => rfl
  by_cases h4 : 4 ≤ l.length
  · obtain ⟨b, off, rfl, hbw, hcs⟩ := hR.at_ (by omega)
    have hb1 : Below w.heap.size w (w.alloc (.cells #[.bool false] 4)) := (Below.refl _ _).alloc (Nat.le_refl _) _
    have hbx : Boxed (w.alloc (.cells #[.bool false] 4)) w.heap.size 4 (.bool false) := Boxed.new _ _ _
    have hcs1 : ∀ i, i < l.length → (w.alloc (.cells #[.bool false] 4)).cell? ⟨b, off + i, none⟩ = some (.int .i64 (ati l i)) := fun i hi => (hb1.cell (p := ⟨b, off + i, none⟩) hbw).trans (hcs i hi)
    have hs1 : (w.alloc (.cells #[.bool false] 4)).heap.size = w.heap.size + 1 := World.size_alloc _ _
    have h4' : (4 : Int) ≤ (l.length : Int) := by omega
    have hfin : ∀ W : World, Below w.heap.size w W → Below w.heap.size w ((W.alloc (.cells #[] 131)).setCell ⟨w.heap.size, 0, none⟩ (.bool false)) := fun W h => (h.alloc h.size _).setCell (Nat.le_refl _) _
    go_enter_defers Try.func97, Try.ntmps97
    go_wp2_with fail
    generalize w.alloc (.cells #[.bool false] 4) = w1 at hb1 hbx hcs1 hs1 ⊢
    generalize hp0 : w.heap.size = p0 at hb1 hbx hs1 hfin ⊢
    have c0 := hcs1 0 (by omega)
    have c1 := hcs1 1 (by omega)
    have c2 := hcs1 2 (by omega)
    have c3 := hcs1 3 (by omega)
    rw [Nat.add_zero] at c0
    clear hcs hR
    have hno : ¬ ValidL l → ∀ W : World, Boxed W p0 4 (.bool false) → Below p0 w W → ∀ (tmps : Array Value), tmps.getD 2 undef = .pointer (some ⟨p0, 0, none⟩) →
        bodyPostD Try.prog Try.f97 (fun e W' => (∃ b : Bool, e = .returned (.bool b) ∧ (b = true ↔ ValidL l)) ∧ Below w.heap.size w W') (Exit.panic [{ v := .iface 131 (.agg #[]), recovered := false }]) { tmps := tmps, defers := [{ target := .fn (.func 108) #[.pointer (some ⟨p0, 0, none⟩)], args := #[] }] } W :=
      fun hV W hbW hbe tmps ht => valid_fail ht hbW ⟨⟨false, rfl, by simp [hV]⟩, by rw [hp0]; exact hfin W hbe⟩
    refine (need_yes (by simp <;> omega) _).mono ?_
    rintro e w8 ⟨rfl, rfl⟩
    by_cases hn0 : 0 ≤ ati l 0
    · by_cases hn1 : ati l 0 ≤ 100000
      · obtain ⟨n, hn⟩ : ∃ n : Nat, ati l 0 = (n : Int) := ⟨(ati l 0).toNat, by omega⟩
        have hnt : (ati l 0).toNat = n := by omega
        have hnn : n ≤ 100000 := by omega
        rw [hn] at c0
        clear hn0 hn1
        by_cases hlen : l.length = wlen n
        · have hlen' : (l.length : Int) = ((wlen n : Nat) : Int) := by rw [hlen]
          have hbe : ((l.length : Int) == ((wlen n : Nat) : Int)) = true := by rw [hlen']; exact beq_self_eq_true _
          have HLEN := Lib.hid hlen
          clear hlen hlen'
          go_wp2_with (first | (go_at_call 64; refine (length_any _ _ (by omega) (by omega)).mono ?_; rintro e w8 ⟨rfl, rfl⟩; rw [Int.toNat_natCast]) | (go_at_call 63; refine (buckets_any _ _ (by omega) (by omega)).mono ?_; rintro e w8 ⟨rfl, rfl⟩; rw [Int.toNat_natCast]) | (go_at_call 109; refine (need_yes (by simp <;> omega) _).mono ?_; rintro e w8 ⟨rfl, rfl⟩))
          clear hbe
          have i1 : (1 : Int) < (l.length : Int) := by omega
          have i2 : (2 : Int) < (l.length : Int) := by omega
          have i3 : (3 : Int) < (l.length : Int) := by omega
          have hb0 := bkts_pos n
          have hb1' := bkts_le n (by omega)
          by_cases e1 : ati l 1 = bkts n
          · by_cases e2 : ati l 2 = (pow2 (bkts n) : Nat)
            · by_cases e3 : ati l 3 = 0
              · exact absurd ⟨by rw [hnt]; exact hn, by rw [hnt]; exact hnn, by rw [hnt]; exact HLEN.out, by rw [hnt]; exact e1, by rw [hnt]; exact e2, e3⟩ hH
              · rw [e1] at c1
                rw [e2] at c2
                have hV : ¬ ValidL l := fun h => e3 h.b3
                have hb3 : (ati l 3 == (0 : Int)) = false := by rw [beq_eq_false_iff_ne]; exact e3
                refine region_still_tail 19 (by kernel_rfl) (by kernel_rfl) (fun w7 hw7 => ?_)
                have c1' : w7.cell? ⟨b, off + 1, none⟩ = some (.int .i64 (bkts n)) := by rw [hw7]; exact c1
                have c2' : w7.cell? ⟨b, off + 2, none⟩ = some (.int .i64 (pow2 (bkts n) : Nat)) := by rw [hw7]; exact c2
                have c3' : w7.cell? ⟨b, off + 3, none⟩ = some (.int .i64 (ati l 3)) := by rw [hw7]; exact c3
                have hbx7 : Boxed w7 p0 4 (.bool false) := by rw [hw7]; exact hbx
                have hb17 : Below p0 w w7 := by rw [hw7]; exact hb1.drew
                clear hw7 c0 c1 c2 c3 hcs1 hs1
                simp only [List.take_succ_cons, List.take_zero, List.drop_succ_cons, List.drop_zero]
                repeat still_step
                still_call (by simpa using power_any (bkts n : Int) w7 (by omega) (by omega))
                repeat still_step
                refine wpStill_nil ?_
                go_wp2_with (go_at_call 109; refine (need_no (by simp <;> omega) _).mono ?_; rintro e w8 ⟨rfl, rfl⟩)
                refine hno hV _ hbx7 hb17 _ ?_
                rfl
            · rw [e1] at c1
              have hV : ¬ ValidL l := fun h => e2 (by have := h.b2; rw [hnt] at this; exact this)
              have hb3 : (ati l 2 == ((pow2 (bkts n) : Nat) : Int)) = false := by rw [beq_eq_false_iff_ne]; exact e2
              refine region_still_tail 19 (by kernel_rfl) (by kernel_rfl) (fun w7 hw7 => ?_)
              have c1' : w7.cell? ⟨b, off + 1, none⟩ = some (.int .i64 (bkts n)) := by rw [hw7]; exact c1
              have c2' : w7.cell? ⟨b, off + 2, none⟩ = some (.int .i64 (ati l 2)) := by rw [hw7]; exact c2
              have hbx7 : Boxed w7 p0 4 (.bool false) := by rw [hw7]; exact hbx
              have hb17 : Below p0 w w7 := by rw [hw7]; exact hb1.drew
              clear hw7 c0 c1 c2 c3 hcs1 hs1
              simp only [List.take_succ_cons, List.take_zero, List.drop_succ_cons, List.drop_zero]
              iterate 10 still_step
              still_call (by simpa using power_any (bkts n : Int) w7 (by omega) (by omega))
              iterate 3 still_step
              iterate 4
                refine wpStill_off rfl ?_
                simp only [Act.put, List.setIfInBounds_toArray, List.set_cons_succ, List.set_cons_zero]
              still_step
              refine wpStill_nil ?_
              go_wp2_with (go_at_call 109; refine (need_no (by simp <;> omega) _).mono ?_; rintro e w8 ⟨rfl, rfl⟩)
              refine hno hV _ hbx7 hb17 _ ?_
              rfl
          · have hV : ¬ ValidL l := fun h => e1 (by have := h.b1; rw [hnt] at this; exact this)
            have hb3 : (ati l 1 == (bkts n : Int)) = false := by rw [beq_eq_false_iff_ne]; exact e1
            refine region_still_tail 19 (by kernel_rfl) (by kernel_rfl) (fun w7 hw7 => ?_)
            have c1' : w7.cell? ⟨b, off + 1, none⟩ = some (.int .i64 (ati l 1)) := by rw [hw7]; exact c1
            have hbx7 : Boxed w7 p0 4 (.bool false) := by rw [hw7]; exact hbx
            have hb17 : Below p0 w w7 := by rw [hw7]; exact hb1.drew
            clear hw7 c0 c1 c2 c3 hcs1 hs1
            simp only [List.take_succ_cons, List.take_zero, List.drop_succ_cons, List.drop_zero]
            iterate 6 still_step
            iterate 6
              refine wpStill_off rfl ?_
              simp only [Act.put, List.setIfInBounds_toArray, List.set_cons_succ, List.set_cons_zero]
            iterate 2 still_step
            iterate 4
              refine wpStill_off rfl ?_
              simp only [Act.put, List.setIfInBounds_toArray, List.set_cons_succ, List.set_cons_zero]
            still_step
            refine wpStill_nil ?_
            go_wp2_with (go_at_call 109; refine (need_no (by simp <;> omega) _).mono ?_; rintro e w8 ⟨rfl, rfl⟩)
            refine hno hV _ hbx7 hb17 _ ?_
            rfl
        · have hlen' : (l.length : Int) ≠ ((wlen n : Nat) : Int) := by omega
          have hbe : ((l.length : Int) == ((wlen n : Nat) : Int)) = false := by rw [beq_eq_false_iff_ne]; exact hlen'
          have hV : ¬ ValidL l := fun h => hlen (by rw [← hnt]; exact h.len)
          clear hlen
          go_wp2_with (first | (go_at_call 64; refine (length_any _ _ (by omega) (by omega)).mono ?_; rintro e w8 ⟨rfl, rfl⟩; rw [Int.toNat_natCast]) | (go_at_call 109; refine (need_no (by simp <;> omega) _).mono ?_; rintro e w8 ⟨rfl, rfl⟩))
          refine hno hV _ hbx hb1 _ ?_; rfl
      · have hV : ¬ ValidL l := fun h => hn1 h.n1
        go_wp2_with (go_at_call 109; refine (need_no (by simp <;> omega) _).mono ?_; rintro e w8 ⟨rfl, rfl⟩)
        refine hno hV _ hbx hb1 _ ?_; rfl
    · have hV : ¬ ValidL l := fun h => hn0 h.n0
      go_wp2_with (go_at_call 109; refine (need_no (by simp <;> omega) _).mono ?_; rintro e w8 ⟨rfl, rfl⟩)
      refine hno hV _ hbx hb1 _ ?_; rfl
  · go_enter_defers Try.func97, Try.ntmps97
    have h4' : (l.length : Int) < 4 := by omega
    have hV : ¬ ValidL l := fun h => h4 h.l4
    clear h4
    go_wp2_with (go_at_call 109; refine (need_no (by simp <;> omega) _).mono ?_; rintro e w8 ⟨rfl, rfl⟩)
    exact valid_fail rfl (Boxed.new _ _ _) ⟨⟨false, rfl, by simp [hV]⟩, ((((Below.refl _ _).alloc (Nat.le_refl _) _).alloc (by simp) _).setCell (by simp) _)⟩
end Go.Proofs.Ytdcomhdadnhpnaa
