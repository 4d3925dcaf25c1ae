/- TableSizes. -/
import Derived.Test.YtdcomhdadnhpnaaT26
set_option linter.unusedSimpArgs false
set_option linter.unusedVariables false
namespace Go.Proofs.Ytdcomhdadnhpnaa
open Go.RowKit

set_option maxRecDepth 100000 in
set_option maxHeartbeats 4000000 in
theorem tableSizes_any (n h b : Int) (w : World) :
    Calls Try.prog 3 #[.int .i64 n, .int .i64 h, .int .i64 b] w fun e W' => e = .returned (.bool true) ∧ Below w.heap.size w W' := by
  have b5 : bkts (100000 : Int).toNat = 50000 := by decide
  have h20 : ∀ W : World, Calls Try.prog 20 #[.int .i64 h, .int .i64 b] W fun e w' => e = .returned (if (0 ≤ h ∧ h ≤ 2147483647) ∧ 8 ≤ b ∧ b ≤ 50000 then .tuple #[.int .i64 (bkt h.toNat b.toNat : Nat), .int .i64 0] else .tuple #[.int .i64 0, .int .i64 1]) ∧ w' = W := fun W => bucketX_any h b W
  have h21 : ∀ W : World, Calls Try.prog 21 #[.int .i64 h] W fun e w' => e = .returned (.bool (decide (0 ≤ h ∧ h ≤ 2147483647))) ∧ w' = W := fun W => rIsHash_any h W
  have h18 : ∀ W : World, Calls Try.prog 18 #[.int .i64 100000] W fun e w' => e = .returned (.int .i64 50000) ∧ w' = W := fun W => by
    have h := rBuckets_any 100000 W (by omega) (by omega)
    rw [b5] at h
    exact h
  clear b5
  have hN : n < 0 ∨ (¬ n < 0 ∧ 100000 < n) ∨ (¬ n < 0 ∧ ¬ 100000 < n) := by omega
  have hH : h < 0 ∨ (0 ≤ h ∧ 2147483647 < h) ∨ (0 ≤ h ∧ ¬ 2147483647 < h ∧ b < 8) ∨ (0 ≤ h ∧ ¬ 2147483647 < h ∧ ¬ b < 8 ∧ 50000 < b) ∨ (0 ≤ h ∧ ¬ 2147483647 < h ∧ ¬ b < 8 ∧ ¬ 50000 < b) := by omega
  rcases hN with hn | ⟨hn, hn2⟩ | ⟨hn, hn2⟩
  · have q1 : (if n < 0 ∨ n > 100000 then Value.tuple #[.int .i64 0, .int .i64 1] else .tuple #[.int .i64 (bkts n.toNat : Nat), .int .i64 0]) = .tuple #[.int .i64 0, .int .i64 1] := if_pos (by omega)
    have q2 : (if n < 0 ∨ n > 100000 then Value.tuple #[.int .i64 0, .int .i64 1] else .tuple #[.int .i64 (wlen n.toNat : Nat), .int .i64 0]) = .tuple #[.int .i64 0, .int .i64 1] := if_pos (by omega)
    rcases hH with hx | ⟨hx, hx2⟩ | ⟨hx, hx2, hx3⟩ | ⟨hx, hx2, hx3, hx4⟩ | ⟨hx, hx2, hx3, hx4⟩
    · have q3 : (if (0 ≤ h ∧ h ≤ 2147483647) ∧ 8 ≤ b ∧ b ≤ 50000 then Value.tuple #[.int .i64 (bkt h.toNat b.toNat : Nat), .int .i64 0] else .tuple #[.int .i64 0, .int .i64 1]) = .tuple #[.int .i64 0, .int .i64 1] := if_neg (by omega)
      have q4 : decide (0 ≤ h ∧ h ≤ 2147483647) = false := decide_eq_false (by omega)
      have Q1 := Lib.hid q1
      have Q2 := Lib.hid q2
      have Q3 := Lib.hid q3
      have Q4 := Lib.hid q4
      clear q1 q2 q3 q4
      go_enter Try.func3, Try.ntmps3
      go_wp2_with fail
      refine (awake_any w).mono ?_
      rintro e w1 ⟨rfl, hb1⟩
      go_wp2_with (first
        | (go_at_call 16; refine (bucketsX_any n _).mono ?_; rintro e wz ⟨rfl, hwz⟩; rw [Q1.out, hwz]; clear hwz wz)
        | (go_at_call 17; refine (lengthX_any n _).mono ?_; rintro e wz ⟨rfl, hwz⟩; rw [Q2.out, hwz]; clear hwz wz)
        | (go_at_call 20; refine (h20 _).mono ?_; rintro e wz ⟨rfl, hwz⟩; rw [Q3.out, hwz]; clear hwz wz)
        | (go_at_call 21; refine (h21 _).mono ?_; rintro e wz ⟨rfl, hwz⟩; rw [Q4.out, hwz]; clear hwz wz)
        | (go_at_call 18; refine (h18 _).mono ?_; rintro e wz ⟨rfl, hwz⟩; rw [hwz]; clear hwz wz))
      go_ret
      exact ⟨rfl, hb1⟩
    · have q3 : (if (0 ≤ h ∧ h ≤ 2147483647) ∧ 8 ≤ b ∧ b ≤ 50000 then Value.tuple #[.int .i64 (bkt h.toNat b.toNat : Nat), .int .i64 0] else .tuple #[.int .i64 0, .int .i64 1]) = .tuple #[.int .i64 0, .int .i64 1] := if_neg (by omega)
      have q4 : decide (0 ≤ h ∧ h ≤ 2147483647) = false := decide_eq_false (by omega)
      have Q1 := Lib.hid q1
      have Q2 := Lib.hid q2
      have Q3 := Lib.hid q3
      have Q4 := Lib.hid q4
      clear q1 q2 q3 q4
      go_enter Try.func3, Try.ntmps3
      go_wp2_with fail
      refine (awake_any w).mono ?_
      rintro e w1 ⟨rfl, hb1⟩
      go_wp2_with (first
        | (go_at_call 16; refine (bucketsX_any n _).mono ?_; rintro e wz ⟨rfl, hwz⟩; rw [Q1.out, hwz]; clear hwz wz)
        | (go_at_call 17; refine (lengthX_any n _).mono ?_; rintro e wz ⟨rfl, hwz⟩; rw [Q2.out, hwz]; clear hwz wz)
        | (go_at_call 20; refine (h20 _).mono ?_; rintro e wz ⟨rfl, hwz⟩; rw [Q3.out, hwz]; clear hwz wz)
        | (go_at_call 21; refine (h21 _).mono ?_; rintro e wz ⟨rfl, hwz⟩; rw [Q4.out, hwz]; clear hwz wz)
        | (go_at_call 18; refine (h18 _).mono ?_; rintro e wz ⟨rfl, hwz⟩; rw [hwz]; clear hwz wz))
      go_ret
      exact ⟨rfl, hb1⟩
    · have q3 : (if (0 ≤ h ∧ h ≤ 2147483647) ∧ 8 ≤ b ∧ b ≤ 50000 then Value.tuple #[.int .i64 (bkt h.toNat b.toNat : Nat), .int .i64 0] else .tuple #[.int .i64 0, .int .i64 1]) = .tuple #[.int .i64 0, .int .i64 1] := if_neg (by omega)
      have q4 : decide (0 ≤ h ∧ h ≤ 2147483647) = true := decide_eq_true (by omega)
      have Q1 := Lib.hid q1
      have Q2 := Lib.hid q2
      have Q3 := Lib.hid q3
      have Q4 := Lib.hid q4
      clear q1 q2 q3 q4
      go_enter Try.func3, Try.ntmps3
      go_wp2_with fail
      refine (awake_any w).mono ?_
      rintro e w1 ⟨rfl, hb1⟩
      go_wp2_with (first
        | (go_at_call 16; refine (bucketsX_any n _).mono ?_; rintro e wz ⟨rfl, hwz⟩; rw [Q1.out, hwz]; clear hwz wz)
        | (go_at_call 17; refine (lengthX_any n _).mono ?_; rintro e wz ⟨rfl, hwz⟩; rw [Q2.out, hwz]; clear hwz wz)
        | (go_at_call 20; refine (h20 _).mono ?_; rintro e wz ⟨rfl, hwz⟩; rw [Q3.out, hwz]; clear hwz wz)
        | (go_at_call 21; refine (h21 _).mono ?_; rintro e wz ⟨rfl, hwz⟩; rw [Q4.out, hwz]; clear hwz wz)
        | (go_at_call 18; refine (h18 _).mono ?_; rintro e wz ⟨rfl, hwz⟩; rw [hwz]; clear hwz wz))
      go_ret
      exact ⟨rfl, hb1⟩
    · have q3 : (if (0 ≤ h ∧ h ≤ 2147483647) ∧ 8 ≤ b ∧ b ≤ 50000 then Value.tuple #[.int .i64 (bkt h.toNat b.toNat : Nat), .int .i64 0] else .tuple #[.int .i64 0, .int .i64 1]) = .tuple #[.int .i64 0, .int .i64 1] := if_neg (by omega)
      have q4 : decide (0 ≤ h ∧ h ≤ 2147483647) = true := decide_eq_true (by omega)
      have Q1 := Lib.hid q1
      have Q2 := Lib.hid q2
      have Q3 := Lib.hid q3
      have Q4 := Lib.hid q4
      clear q1 q2 q3 q4
      go_enter Try.func3, Try.ntmps3
      go_wp2_with fail
      refine (awake_any w).mono ?_
      rintro e w1 ⟨rfl, hb1⟩
      go_wp2_with (first
        | (go_at_call 16; refine (bucketsX_any n _).mono ?_; rintro e wz ⟨rfl, hwz⟩; rw [Q1.out, hwz]; clear hwz wz)
        | (go_at_call 17; refine (lengthX_any n _).mono ?_; rintro e wz ⟨rfl, hwz⟩; rw [Q2.out, hwz]; clear hwz wz)
        | (go_at_call 20; refine (h20 _).mono ?_; rintro e wz ⟨rfl, hwz⟩; rw [Q3.out, hwz]; clear hwz wz)
        | (go_at_call 21; refine (h21 _).mono ?_; rintro e wz ⟨rfl, hwz⟩; rw [Q4.out, hwz]; clear hwz wz)
        | (go_at_call 18; refine (h18 _).mono ?_; rintro e wz ⟨rfl, hwz⟩; rw [hwz]; clear hwz wz))
      go_ret
      exact ⟨rfl, hb1⟩
    · have q3 : (if (0 ≤ h ∧ h ≤ 2147483647) ∧ 8 ≤ b ∧ b ≤ 50000 then Value.tuple #[.int .i64 (bkt h.toNat b.toNat : Nat), .int .i64 0] else .tuple #[.int .i64 0, .int .i64 1]) = .tuple #[.int .i64 (bkt h.toNat b.toNat : Nat), .int .i64 0] := if_pos (by omega)
      have q4 : decide (0 ≤ h ∧ h ≤ 2147483647) = true := decide_eq_true (by omega)
      have Q1 := Lib.hid q1
      have Q2 := Lib.hid q2
      have Q3 := Lib.hid q3
      have Q4 := Lib.hid q4
      clear q1 q2 q3 q4
      go_enter Try.func3, Try.ntmps3
      go_wp2_with fail
      refine (awake_any w).mono ?_
      rintro e w1 ⟨rfl, hb1⟩
      go_wp2_with (first
        | (go_at_call 16; refine (bucketsX_any n _).mono ?_; rintro e wz ⟨rfl, hwz⟩; rw [Q1.out, hwz]; clear hwz wz)
        | (go_at_call 17; refine (lengthX_any n _).mono ?_; rintro e wz ⟨rfl, hwz⟩; rw [Q2.out, hwz]; clear hwz wz)
        | (go_at_call 20; refine (h20 _).mono ?_; rintro e wz ⟨rfl, hwz⟩; rw [Q3.out, hwz]; clear hwz wz)
        | (go_at_call 21; refine (h21 _).mono ?_; rintro e wz ⟨rfl, hwz⟩; rw [Q4.out, hwz]; clear hwz wz)
        | (go_at_call 22; refine (rBucket_any h b _ (by omega) (by omega) (by omega) (by omega)).mono ?_; rintro e wz ⟨rfl, hwz⟩; rw [hwz]; clear hwz wz)
        | (go_at_call 18; refine (h18 _).mono ?_; rintro e wz ⟨rfl, hwz⟩; rw [hwz]; clear hwz wz))
      go_ret
      exact ⟨rfl, hb1⟩
  · have q1 : (if n < 0 ∨ n > 100000 then Value.tuple #[.int .i64 0, .int .i64 1] else .tuple #[.int .i64 (bkts n.toNat : Nat), .int .i64 0]) = .tuple #[.int .i64 0, .int .i64 1] := if_pos (by omega)
    have q2 : (if n < 0 ∨ n > 100000 then Value.tuple #[.int .i64 0, .int .i64 1] else .tuple #[.int .i64 (wlen n.toNat : Nat), .int .i64 0]) = .tuple #[.int .i64 0, .int .i64 1] := if_pos (by omega)
    rcases hH with hx | ⟨hx, hx2⟩ | ⟨hx, hx2, hx3⟩ | ⟨hx, hx2, hx3, hx4⟩ | ⟨hx, hx2, hx3, hx4⟩
    · have q3 : (if (0 ≤ h ∧ h ≤ 2147483647) ∧ 8 ≤ b ∧ b ≤ 50000 then Value.tuple #[.int .i64 (bkt h.toNat b.toNat : Nat), .int .i64 0] else .tuple #[.int .i64 0, .int .i64 1]) = .tuple #[.int .i64 0, .int .i64 1] := if_neg (by omega)
      have q4 : decide (0 ≤ h ∧ h ≤ 2147483647) = false := decide_eq_false (by omega)
      have Q1 := Lib.hid q1
      have Q2 := Lib.hid q2
      have Q3 := Lib.hid q3
      have Q4 := Lib.hid q4
      clear q1 q2 q3 q4
      go_enter Try.func3, Try.ntmps3
      go_wp2_with fail
      refine (awake_any w).mono ?_
      rintro e w1 ⟨rfl, hb1⟩
      go_wp2_with (first
        | (go_at_call 16; refine (bucketsX_any n _).mono ?_; rintro e wz ⟨rfl, hwz⟩; rw [Q1.out, hwz]; clear hwz wz)
        | (go_at_call 17; refine (lengthX_any n _).mono ?_; rintro e wz ⟨rfl, hwz⟩; rw [Q2.out, hwz]; clear hwz wz)
        | (go_at_call 20; refine (h20 _).mono ?_; rintro e wz ⟨rfl, hwz⟩; rw [Q3.out, hwz]; clear hwz wz)
        | (go_at_call 21; refine (h21 _).mono ?_; rintro e wz ⟨rfl, hwz⟩; rw [Q4.out, hwz]; clear hwz wz)
        | (go_at_call 18; refine (h18 _).mono ?_; rintro e wz ⟨rfl, hwz⟩; rw [hwz]; clear hwz wz))
      go_ret
      exact ⟨rfl, hb1⟩
    · have q3 : (if (0 ≤ h ∧ h ≤ 2147483647) ∧ 8 ≤ b ∧ b ≤ 50000 then Value.tuple #[.int .i64 (bkt h.toNat b.toNat : Nat), .int .i64 0] else .tuple #[.int .i64 0, .int .i64 1]) = .tuple #[.int .i64 0, .int .i64 1] := if_neg (by omega)
      have q4 : decide (0 ≤ h ∧ h ≤ 2147483647) = false := decide_eq_false (by omega)
      have Q1 := Lib.hid q1
      have Q2 := Lib.hid q2
      have Q3 := Lib.hid q3
      have Q4 := Lib.hid q4
      clear q1 q2 q3 q4
      go_enter Try.func3, Try.ntmps3
      go_wp2_with fail
      refine (awake_any w).mono ?_
      rintro e w1 ⟨rfl, hb1⟩
      go_wp2_with (first
        | (go_at_call 16; refine (bucketsX_any n _).mono ?_; rintro e wz ⟨rfl, hwz⟩; rw [Q1.out, hwz]; clear hwz wz)
        | (go_at_call 17; refine (lengthX_any n _).mono ?_; rintro e wz ⟨rfl, hwz⟩; rw [Q2.out, hwz]; clear hwz wz)
        | (go_at_call 20; refine (h20 _).mono ?_; rintro e wz ⟨rfl, hwz⟩; rw [Q3.out, hwz]; clear hwz wz)
        | (go_at_call 21; refine (h21 _).mono ?_; rintro e wz ⟨rfl, hwz⟩; rw [Q4.out, hwz]; clear hwz wz)
        | (go_at_call 18; refine (h18 _).mono ?_; rintro e wz ⟨rfl, hwz⟩; rw [hwz]; clear hwz wz))
      go_ret
      exact ⟨rfl, hb1⟩
    · have q3 : (if (0 ≤ h ∧ h ≤ 2147483647) ∧ 8 ≤ b ∧ b ≤ 50000 then Value.tuple #[.int .i64 (bkt h.toNat b.toNat : Nat), .int .i64 0] else .tuple #[.int .i64 0, .int .i64 1]) = .tuple #[.int .i64 0, .int .i64 1] := if_neg (by omega)
      have q4 : decide (0 ≤ h ∧ h ≤ 2147483647) = true := decide_eq_true (by omega)
      have Q1 := Lib.hid q1
      have Q2 := Lib.hid q2
      have Q3 := Lib.hid q3
      have Q4 := Lib.hid q4
      clear q1 q2 q3 q4
      go_enter Try.func3, Try.ntmps3
      go_wp2_with fail
      refine (awake_any w).mono ?_
      rintro e w1 ⟨rfl, hb1⟩
      go_wp2_with (first
        | (go_at_call 16; refine (bucketsX_any n _).mono ?_; rintro e wz ⟨rfl, hwz⟩; rw [Q1.out, hwz]; clear hwz wz)
        | (go_at_call 17; refine (lengthX_any n _).mono ?_; rintro e wz ⟨rfl, hwz⟩; rw [Q2.out, hwz]; clear hwz wz)
        | (go_at_call 20; refine (h20 _).mono ?_; rintro e wz ⟨rfl, hwz⟩; rw [Q3.out, hwz]; clear hwz wz)
        | (go_at_call 21; refine (h21 _).mono ?_; rintro e wz ⟨rfl, hwz⟩; rw [Q4.out, hwz]; clear hwz wz)
        | (go_at_call 18; refine (h18 _).mono ?_; rintro e wz ⟨rfl, hwz⟩; rw [hwz]; clear hwz wz))
      go_ret
      exact ⟨rfl, hb1⟩
    · have q3 : (if (0 ≤ h ∧ h ≤ 2147483647) ∧ 8 ≤ b ∧ b ≤ 50000 then Value.tuple #[.int .i64 (bkt h.toNat b.toNat : Nat), .int .i64 0] else .tuple #[.int .i64 0, .int .i64 1]) = .tuple #[.int .i64 0, .int .i64 1] := if_neg (by omega)
      have q4 : decide (0 ≤ h ∧ h ≤ 2147483647) = true := decide_eq_true (by omega)
      have Q1 := Lib.hid q1
      have Q2 := Lib.hid q2
      have Q3 := Lib.hid q3
      have Q4 := Lib.hid q4
      clear q1 q2 q3 q4
      go_enter Try.func3, Try.ntmps3
      go_wp2_with fail
      refine (awake_any w).mono ?_
      rintro e w1 ⟨rfl, hb1⟩
      go_wp2_with (first
        | (go_at_call 16; refine (bucketsX_any n _).mono ?_; rintro e wz ⟨rfl, hwz⟩; rw [Q1.out, hwz]; clear hwz wz)
        | (go_at_call 17; refine (lengthX_any n _).mono ?_; rintro e wz ⟨rfl, hwz⟩; rw [Q2.out, hwz]; clear hwz wz)
        | (go_at_call 20; refine (h20 _).mono ?_; rintro e wz ⟨rfl, hwz⟩; rw [Q3.out, hwz]; clear hwz wz)
        | (go_at_call 21; refine (h21 _).mono ?_; rintro e wz ⟨rfl, hwz⟩; rw [Q4.out, hwz]; clear hwz wz)
        | (go_at_call 18; refine (h18 _).mono ?_; rintro e wz ⟨rfl, hwz⟩; rw [hwz]; clear hwz wz))
      go_ret
      exact ⟨rfl, hb1⟩
    · have q3 : (if (0 ≤ h ∧ h ≤ 2147483647) ∧ 8 ≤ b ∧ b ≤ 50000 then Value.tuple #[.int .i64 (bkt h.toNat b.toNat : Nat), .int .i64 0] else .tuple #[.int .i64 0, .int .i64 1]) = .tuple #[.int .i64 (bkt h.toNat b.toNat : Nat), .int .i64 0] := if_pos (by omega)
      have q4 : decide (0 ≤ h ∧ h ≤ 2147483647) = true := decide_eq_true (by omega)
      have Q1 := Lib.hid q1
      have Q2 := Lib.hid q2
      have Q3 := Lib.hid q3
      have Q4 := Lib.hid q4
      clear q1 q2 q3 q4
      go_enter Try.func3, Try.ntmps3
      go_wp2_with fail
      refine (awake_any w).mono ?_
      rintro e w1 ⟨rfl, hb1⟩
      go_wp2_with (first
        | (go_at_call 16; refine (bucketsX_any n _).mono ?_; rintro e wz ⟨rfl, hwz⟩; rw [Q1.out, hwz]; clear hwz wz)
        | (go_at_call 17; refine (lengthX_any n _).mono ?_; rintro e wz ⟨rfl, hwz⟩; rw [Q2.out, hwz]; clear hwz wz)
        | (go_at_call 20; refine (h20 _).mono ?_; rintro e wz ⟨rfl, hwz⟩; rw [Q3.out, hwz]; clear hwz wz)
        | (go_at_call 21; refine (h21 _).mono ?_; rintro e wz ⟨rfl, hwz⟩; rw [Q4.out, hwz]; clear hwz wz)
        | (go_at_call 22; refine (rBucket_any h b _ (by omega) (by omega) (by omega) (by omega)).mono ?_; rintro e wz ⟨rfl, hwz⟩; rw [hwz]; clear hwz wz)
        | (go_at_call 18; refine (h18 _).mono ?_; rintro e wz ⟨rfl, hwz⟩; rw [hwz]; clear hwz wz))
      go_ret
      exact ⟨rfl, hb1⟩
  · have q1 : (if n < 0 ∨ n > 100000 then Value.tuple #[.int .i64 0, .int .i64 1] else .tuple #[.int .i64 (bkts n.toNat : Nat), .int .i64 0]) = .tuple #[.int .i64 (bkts n.toNat : Nat), .int .i64 0] := if_neg (by omega)
    have q2 : (if n < 0 ∨ n > 100000 then Value.tuple #[.int .i64 0, .int .i64 1] else .tuple #[.int .i64 (wlen n.toNat : Nat), .int .i64 0]) = .tuple #[.int .i64 (wlen n.toNat : Nat), .int .i64 0] := if_neg (by omega)
    have hbn := bkts_le n.toNat (by omega)
    have hwn := wlen_le n.toNat (by omega)
    rcases hH with hx | ⟨hx, hx2⟩ | ⟨hx, hx2, hx3⟩ | ⟨hx, hx2, hx3, hx4⟩ | ⟨hx, hx2, hx3, hx4⟩
    · have q3 : (if (0 ≤ h ∧ h ≤ 2147483647) ∧ 8 ≤ b ∧ b ≤ 50000 then Value.tuple #[.int .i64 (bkt h.toNat b.toNat : Nat), .int .i64 0] else .tuple #[.int .i64 0, .int .i64 1]) = .tuple #[.int .i64 0, .int .i64 1] := if_neg (by omega)
      have q4 : decide (0 ≤ h ∧ h ≤ 2147483647) = false := decide_eq_false (by omega)
      have Q1 := Lib.hid q1
      have Q2 := Lib.hid q2
      have Q3 := Lib.hid q3
      have Q4 := Lib.hid q4
      clear q1 q2 q3 q4
      go_enter Try.func3, Try.ntmps3
      go_wp2_with fail
      refine (awake_any w).mono ?_
      rintro e w1 ⟨rfl, hb1⟩
      go_wp2_with (first
        | (go_at_call 16; refine (bucketsX_any n _).mono ?_; rintro e wz ⟨rfl, hwz⟩; rw [Q1.out, hwz]; clear hwz wz)
        | (go_at_call 17; refine (lengthX_any n _).mono ?_; rintro e wz ⟨rfl, hwz⟩; rw [Q2.out, hwz]; clear hwz wz)
        | (go_at_call 20; refine (h20 _).mono ?_; rintro e wz ⟨rfl, hwz⟩; rw [Q3.out, hwz]; clear hwz wz)
        | (go_at_call 21; refine (h21 _).mono ?_; rintro e wz ⟨rfl, hwz⟩; rw [Q4.out, hwz]; clear hwz wz)
        | (go_at_call 18; refine (rBuckets_any n _ (by omega) (by omega)).mono ?_; rintro e wz ⟨rfl, hwz⟩; rw [hwz]; clear hwz wz)
        | (go_at_call 19; refine (rLength_any n _ (by omega) (by omega)).mono ?_; rintro e wz ⟨rfl, hwz⟩; rw [hwz]; clear hwz wz)
        | (go_at_call 18; refine (h18 _).mono ?_; rintro e wz ⟨rfl, hwz⟩; rw [hwz]; clear hwz wz))
      go_ret
      exact ⟨rfl, hb1⟩
    · have q3 : (if (0 ≤ h ∧ h ≤ 2147483647) ∧ 8 ≤ b ∧ b ≤ 50000 then Value.tuple #[.int .i64 (bkt h.toNat b.toNat : Nat), .int .i64 0] else .tuple #[.int .i64 0, .int .i64 1]) = .tuple #[.int .i64 0, .int .i64 1] := if_neg (by omega)
      have q4 : decide (0 ≤ h ∧ h ≤ 2147483647) = false := decide_eq_false (by omega)
      have Q1 := Lib.hid q1
      have Q2 := Lib.hid q2
      have Q3 := Lib.hid q3
      have Q4 := Lib.hid q4
      clear q1 q2 q3 q4
      go_enter Try.func3, Try.ntmps3
      go_wp2_with fail
      refine (awake_any w).mono ?_
      rintro e w1 ⟨rfl, hb1⟩
      go_wp2_with (first
        | (go_at_call 16; refine (bucketsX_any n _).mono ?_; rintro e wz ⟨rfl, hwz⟩; rw [Q1.out, hwz]; clear hwz wz)
        | (go_at_call 17; refine (lengthX_any n _).mono ?_; rintro e wz ⟨rfl, hwz⟩; rw [Q2.out, hwz]; clear hwz wz)
        | (go_at_call 20; refine (h20 _).mono ?_; rintro e wz ⟨rfl, hwz⟩; rw [Q3.out, hwz]; clear hwz wz)
        | (go_at_call 21; refine (h21 _).mono ?_; rintro e wz ⟨rfl, hwz⟩; rw [Q4.out, hwz]; clear hwz wz)
        | (go_at_call 18; refine (rBuckets_any n _ (by omega) (by omega)).mono ?_; rintro e wz ⟨rfl, hwz⟩; rw [hwz]; clear hwz wz)
        | (go_at_call 19; refine (rLength_any n _ (by omega) (by omega)).mono ?_; rintro e wz ⟨rfl, hwz⟩; rw [hwz]; clear hwz wz)
        | (go_at_call 18; refine (h18 _).mono ?_; rintro e wz ⟨rfl, hwz⟩; rw [hwz]; clear hwz wz))
      go_ret
      exact ⟨rfl, hb1⟩
    · have q3 : (if (0 ≤ h ∧ h ≤ 2147483647) ∧ 8 ≤ b ∧ b ≤ 50000 then Value.tuple #[.int .i64 (bkt h.toNat b.toNat : Nat), .int .i64 0] else .tuple #[.int .i64 0, .int .i64 1]) = .tuple #[.int .i64 0, .int .i64 1] := if_neg (by omega)
      have q4 : decide (0 ≤ h ∧ h ≤ 2147483647) = true := decide_eq_true (by omega)
      have Q1 := Lib.hid q1
      have Q2 := Lib.hid q2
      have Q3 := Lib.hid q3
      have Q4 := Lib.hid q4
      clear q1 q2 q3 q4
      go_enter Try.func3, Try.ntmps3
      go_wp2_with fail
      refine (awake_any w).mono ?_
      rintro e w1 ⟨rfl, hb1⟩
      go_wp2_with (first
        | (go_at_call 16; refine (bucketsX_any n _).mono ?_; rintro e wz ⟨rfl, hwz⟩; rw [Q1.out, hwz]; clear hwz wz)
        | (go_at_call 17; refine (lengthX_any n _).mono ?_; rintro e wz ⟨rfl, hwz⟩; rw [Q2.out, hwz]; clear hwz wz)
        | (go_at_call 20; refine (h20 _).mono ?_; rintro e wz ⟨rfl, hwz⟩; rw [Q3.out, hwz]; clear hwz wz)
        | (go_at_call 21; refine (h21 _).mono ?_; rintro e wz ⟨rfl, hwz⟩; rw [Q4.out, hwz]; clear hwz wz)
        | (go_at_call 18; refine (rBuckets_any n _ (by omega) (by omega)).mono ?_; rintro e wz ⟨rfl, hwz⟩; rw [hwz]; clear hwz wz)
        | (go_at_call 19; refine (rLength_any n _ (by omega) (by omega)).mono ?_; rintro e wz ⟨rfl, hwz⟩; rw [hwz]; clear hwz wz)
        | (go_at_call 18; refine (h18 _).mono ?_; rintro e wz ⟨rfl, hwz⟩; rw [hwz]; clear hwz wz))
      go_ret
      exact ⟨rfl, hb1⟩
    · have q3 : (if (0 ≤ h ∧ h ≤ 2147483647) ∧ 8 ≤ b ∧ b ≤ 50000 then Value.tuple #[.int .i64 (bkt h.toNat b.toNat : Nat), .int .i64 0] else .tuple #[.int .i64 0, .int .i64 1]) = .tuple #[.int .i64 0, .int .i64 1] := if_neg (by omega)
      have q4 : decide (0 ≤ h ∧ h ≤ 2147483647) = true := decide_eq_true (by omega)
      have Q1 := Lib.hid q1
      have Q2 := Lib.hid q2
      have Q3 := Lib.hid q3
      have Q4 := Lib.hid q4
      clear q1 q2 q3 q4
      go_enter Try.func3, Try.ntmps3
      go_wp2_with fail
      refine (awake_any w).mono ?_
      rintro e w1 ⟨rfl, hb1⟩
      go_wp2_with (first
        | (go_at_call 16; refine (bucketsX_any n _).mono ?_; rintro e wz ⟨rfl, hwz⟩; rw [Q1.out, hwz]; clear hwz wz)
        | (go_at_call 17; refine (lengthX_any n _).mono ?_; rintro e wz ⟨rfl, hwz⟩; rw [Q2.out, hwz]; clear hwz wz)
        | (go_at_call 20; refine (h20 _).mono ?_; rintro e wz ⟨rfl, hwz⟩; rw [Q3.out, hwz]; clear hwz wz)
        | (go_at_call 21; refine (h21 _).mono ?_; rintro e wz ⟨rfl, hwz⟩; rw [Q4.out, hwz]; clear hwz wz)
        | (go_at_call 18; refine (rBuckets_any n _ (by omega) (by omega)).mono ?_; rintro e wz ⟨rfl, hwz⟩; rw [hwz]; clear hwz wz)
        | (go_at_call 19; refine (rLength_any n _ (by omega) (by omega)).mono ?_; rintro e wz ⟨rfl, hwz⟩; rw [hwz]; clear hwz wz)
        | (go_at_call 18; refine (h18 _).mono ?_; rintro e wz ⟨rfl, hwz⟩; rw [hwz]; clear hwz wz))
      go_ret
      exact ⟨rfl, hb1⟩
    · have q3 : (if (0 ≤ h ∧ h ≤ 2147483647) ∧ 8 ≤ b ∧ b ≤ 50000 then Value.tuple #[.int .i64 (bkt h.toNat b.toNat : Nat), .int .i64 0] else .tuple #[.int .i64 0, .int .i64 1]) = .tuple #[.int .i64 (bkt h.toNat b.toNat : Nat), .int .i64 0] := if_pos (by omega)
      have q4 : decide (0 ≤ h ∧ h ≤ 2147483647) = true := decide_eq_true (by omega)
      have Q1 := Lib.hid q1
      have Q2 := Lib.hid q2
      have Q3 := Lib.hid q3
      have Q4 := Lib.hid q4
      clear q1 q2 q3 q4
      go_enter Try.func3, Try.ntmps3
      go_wp2_with fail
      refine (awake_any w).mono ?_
      rintro e w1 ⟨rfl, hb1⟩
      go_wp2_with (first
        | (go_at_call 16; refine (bucketsX_any n _).mono ?_; rintro e wz ⟨rfl, hwz⟩; rw [Q1.out, hwz]; clear hwz wz)
        | (go_at_call 17; refine (lengthX_any n _).mono ?_; rintro e wz ⟨rfl, hwz⟩; rw [Q2.out, hwz]; clear hwz wz)
        | (go_at_call 20; refine (h20 _).mono ?_; rintro e wz ⟨rfl, hwz⟩; rw [Q3.out, hwz]; clear hwz wz)
        | (go_at_call 21; refine (h21 _).mono ?_; rintro e wz ⟨rfl, hwz⟩; rw [Q4.out, hwz]; clear hwz wz)
        | (go_at_call 18; refine (rBuckets_any n _ (by omega) (by omega)).mono ?_; rintro e wz ⟨rfl, hwz⟩; rw [hwz]; clear hwz wz)
        | (go_at_call 19; refine (rLength_any n _ (by omega) (by omega)).mono ?_; rintro e wz ⟨rfl, hwz⟩; rw [hwz]; clear hwz wz)
        | (go_at_call 22; refine (rBucket_any h b _ (by omega) (by omega) (by omega) (by omega)).mono ?_; rintro e wz ⟨rfl, hwz⟩; rw [hwz]; clear hwz wz)
        | (go_at_call 18; refine (h18 _).mono ?_; rintro e wz ⟨rfl, hwz⟩; rw [hwz]; clear hwz wz))
      go_ret
      exact ⟨rfl, hb1⟩
end Go.Proofs.Ytdcomhdadnhpnaa
