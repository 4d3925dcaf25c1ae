/- (t) awake: the package answers some questions of one table. -/
import Derived.Test.YtdcomhdadnhpnaaP10
set_option linter.unusedSimpArgs false
set_option linter.unusedVariables false
namespace Go.Proofs.Ytdcomhdadnhpnaa
open Go.RowKit Go.Shelf

theorem new_c (w : World) : Calls Try.prog 23 #[] w fun e W' => ∃ B cap, e = .returned (.slice (some ⟨B, 0, none⟩) freshL.length cap) ∧ RdL W' (some ⟨B, 0, none⟩) freshL ∧ Below w.heap.size w W' :=
  (new_any w).mono fun _ _ ⟨⟨B, cap, e, h⟩, hb⟩ => ⟨B, cap, e, h.rd, hb⟩
theorem add_c (w : World) (B cap : Nat) (h : RdL w (some ⟨B, 0, none⟩) freshL) : Calls Try.prog 24 #[.slice (some ⟨B, 0, none⟩) freshL.length cap, .int .i64 5, .int .i64 70] w fun e W' =>
    ∃ B' cap', e = .returned (.tuple #[.slice (some ⟨B', 0, none⟩) oneL.length cap', .int .i64 0, .int .i64 0]) ∧ RdL W' (some ⟨B', 0, none⟩) oneL ∧ Below w.heap.size w W' := by
  refine (addX_any _ cap freshL 5 70 w h).mono ?_
  rintro e W' ⟨(⟨c, hc, rfl, hQ⟩ | ⟨B', cap', k, l', rfl, hr, hQ⟩), hb⟩
  · exact absurd (add_one hQ).2.2 hc
  · obtain ⟨rfl, rfl, _⟩ := add_one hQ
    exact ⟨B', cap', rfl, hr.rd, hb⟩
theorem find_c (w : World) (B cap : Nat) (h : RdL w (some ⟨B, 0, none⟩) oneL) : Calls Try.prog 26 #[.slice (some ⟨B, 0, none⟩) oneL.length cap, .int .i64 5] w fun e W' =>
    ∃ A c, e = .returned (.tuple #[.slice A [(70 : Int)].length c, .int .i64 1, .int .i64 0]) ∧ RdL W' A [70] ∧ Below w.heap.size w W' := by
  refine (findX_any _ cap oneL 5 w h).mono ?_
  rintro e W' ⟨hF, hb⟩
  obtain ⟨v, rfl, hv⟩ := find_one hF
  obtain ⟨A, c, rfl, hr⟩ := rdL_own hv
  exact ⟨A, c, rfl, hr, hb⟩
theorem drop_c (w : World) (B cap : Nat) (h : RdL w (some ⟨B, 0, none⟩) oneL) : Calls Try.prog 27 #[.slice (some ⟨B, 0, none⟩) oneL.length cap, .int .i64 5, .int .i64 70] w fun e W' =>
    ∃ B' cap', e = .returned (.tuple #[.slice (some ⟨B', 0, none⟩) freshL.length cap', .int .i64 1, .int .i64 0]) ∧ RdL W' (some ⟨B', 0, none⟩) freshL ∧ Below w.heap.size w W' := by
  refine (dropX_any _ cap oneL 5 70 w h).mono ?_
  rintro e W' ⟨(⟨c, hc, rfl, hQ⟩ | ⟨B', cap', k, l', rfl, hr, hQ⟩), hb⟩
  · exact absurd (drop_one hQ).2.2 hc
  · obtain ⟨rfl, rfl, _⟩ := drop_one hQ
    exact ⟨B', cap', rfl, hr.rd, hb⟩
theorem check_c (w : World) (B cap : Nat) (h : RdL w (some ⟨B, 0, none⟩) oneL) : Calls Try.prog 62 #[.slice (some ⟨B, 0, none⟩) oneL.length cap] w fun e W' => e = .returned (.int .i64 0) ∧ Below w.heap.size w W' := by
  refine (check_any _ cap oneL w h).mono ?_
  rintro e W' ⟨(⟨_, h1⟩ | ⟨h1, _⟩), hb⟩
  · exact ⟨h1, hb⟩
  · exact absurd one_v h1
theorem check_n (w : World) (B cap : Nat) (h : RdL w (some ⟨B, 0, none⟩) [1]) : Calls Try.prog 62 #[.slice (some ⟨B, 0, none⟩) [(1 : Int)].length cap] w fun e W' => e = .returned (.int .i64 600) ∧ Below w.heap.size w W' := by
  refine (check_any _ cap [1] w h).mono ?_
  rintro e W' ⟨(⟨h1, _⟩ | ⟨_, h1⟩), hb⟩
  · exact absurd h1 not_valid1
  · exact ⟨h1, hb⟩

theorem rdl_lit (w : World) (x : Int) : RdL (w.alloc (.cells #[.int .i64 x] 3)) (some ⟨w.heap.size, 0, none⟩) [x] :=
  ⟨fun _ => ⟨_, _, rfl, by simp, fun i hi => by
    obtain rfl : i = 0 := by simpa using hi
    exact (Boxed.new w 3 (.int .i64 x)).cell⟩⟩

set_option maxRecDepth 100000 in
set_option maxHeartbeats 8000000 in
theorem awake_any (w : World) : Calls Try.prog 15 #[] w fun e W' => e = .returned (.bool true) ∧ Below w.heap.size w W' := by
  have q1 : (if (17 : Int) < 0 ∨ (17 : Int) > 100000 then Value.tuple #[.int .i64 0, .int .i64 1] else .tuple #[.int .i64 (bkts (17 : Int).toNat : Nat), .int .i64 0]) = .tuple #[.int .i64 9, .int .i64 0] := by rfl
  have q2 : (if (17 : Int) < 0 ∨ (17 : Int) > 100000 then Value.tuple #[.int .i64 0, .int .i64 1] else .tuple #[.int .i64 (wlen (17 : Int).toNat : Nat), .int .i64 0]) = .tuple #[.int .i64 116, .int .i64 0] := by rfl
  have q3 : (if ((0 : Int) ≤ 17 ∧ (17 : Int) ≤ 2147483647) ∧ (8 : Int) ≤ 9 ∧ (9 : Int) ≤ 50000 then Value.tuple #[.int .i64 (bkt (17 : Int).toNat (9 : Int).toNat : Nat), .int .i64 0] else .tuple #[.int .i64 0, .int .i64 1]) = .tuple #[.int .i64 1, .int .i64 0] := by rfl
  have o60 : (oneL.length : Int) = 60 := by rw [oneL_len]; rfl
  have n60 : ((oneL.length : Int) != 60) = false := by rw [o60]; rfl
  have j0 : (0 : Int) < (oneL.length : Int) := by omega
  have j9 : (9 : Int) < (oneL.length : Int) := by omega
  have j12 : (12 : Int) < (oneL.length : Int) := by omega
  have j13 : (13 : Int) < (oneL.length : Int) := by omega
  have j14 : (14 : Int) < (oneL.length : Int) := by omega
  have H60 := Lib.hid o60
  clear o60
  go_enter Try.func15, Try.ntmps15
  go_wp2_with (first
    | (go_at_call 16; refine (bucketsX_any 17 _).mono ?_; rintro e wz ⟨rfl, hwz⟩; rw [q1, hwz]; clear hwz wz)
    | (go_at_call 17; refine (lengthX_any 17 _).mono ?_; rintro e wz ⟨rfl, hwz⟩; rw [q2, hwz]; clear hwz wz)
    | (go_at_call 20; refine (bucketX_any 17 9 _).mono ?_; rintro e wz ⟨rfl, hwz⟩; rw [q3, hwz]; clear hwz wz))
  refine (new_c w).mono ?_
  rintro e w1 ⟨B0, cap0, rfl, hr0, hb1⟩
  go_wp2_with fail
  refine (add_c w1 B0 cap0 hr0).mono ?_
  rintro e w2 ⟨B1, cap1, rfl, hr1, hb2⟩
  have c0 : w2.cell? ⟨B1, 0, none⟩ = some (.int .i64 1) := by have h := hr1.cell rfl (i := 0) (by have := H60.out; omega); rw [oneL_0] at h; simpa using h
  have c9 : w2.cell? ⟨B1, 9, none⟩ = some (.int .i64 1) := by have h := hr1.cell rfl (i := 9) (by have := H60.out; omega); rw [oneL_9] at h; simpa using h
  have c12 : w2.cell? ⟨B1, 12, none⟩ = some (.int .i64 5) := by have h := hr1.cell rfl (i := 12) (by have := H60.out; omega); rw [oneL_12] at h; simpa using h
  have c13 : w2.cell? ⟨B1, 13, none⟩ = some (.int .i64 70) := by have h := hr1.cell rfl (i := 13) (by have := H60.out; omega); rw [oneL_13] at h; simpa using h
  have c14 : w2.cell? ⟨B1, 14, none⟩ = some (.int .i64 0) := by have h := hr1.cell rfl (i := 14) (by have := H60.out; omega); rw [oneL_14] at h; simpa using h
  have hB2 : Below w.heap.size w w2 := hb1.trans (hb2.mono hb1.size)
  clear hr0 hb1 hb2
  go_wp2_with fail
  refine (find_c w2 B1 cap1 hr1).mono ?_
  rintro e w3 ⟨A, c, rfl, hr2, hb3⟩
  clear c0 c9 c12 c13 c14 j0 j9 j12 j13 j14
  have hr3 := hr1.below hb3
  have hB3 := hB2.trans (hb3.mono hB2.size)
  clear hr1 hb3 hB2
  go_wp2_with fail
  have hb4 : Below w3.heap.size w3 (w3.alloc (.cells #[.int .i64 70] 3)) := (Below.refl _ _).alloc (Nat.le_refl _) _
  refine (same_any A (some ⟨w3.heap.size, 0, none⟩) c 1 [70] [70] _ (hr2.below hb4) (rdl_lit w3 70) (by simp) (by simp)).mono ?_
  rintro e w4 ⟨rfl, hb5⟩
  rw [show decide (([70] : List Int) = [70]) = true by simp]
  have hr4 := (hr3.below hb4).below hb5
  have hB4 := (hB3.trans (hb4.mono hB3.size)).trans (hb5.mono (Nat.le_trans hB3.size hb4.size))
  clear hr2 hr3 hb4 hb5 hB3
  go_wp2_with fail
  refine (check_c w4 B1 cap1 hr4).mono ?_
  rintro e w5 ⟨rfl, hb5⟩
  have hr5 := hr4.below hb5
  have hB5 := hB4.trans (hb5.mono hB4.size)
  clear hr4 hb5 hB4
  go_wp2_with fail
  refine (drop_c w5 B1 cap1 hr5).mono ?_
  rintro e w6 ⟨B2, cap2, rfl, hr6, hb6⟩
  have hB6 := hB5.trans (hb6.mono hB5.size)
  clear hr5 hb6 hB5
  go_wp2_with fail
  refine (new_c w6).mono ?_
  rintro e w7 ⟨B3, cap3, rfl, hr7, hb7⟩
  have hr6' := hr6.below hb7
  have hB7 := hB6.trans (hb7.mono hB6.size)
  clear hr6 hb7 hB6
  go_wp2_with fail
  refine (same_any (some ⟨B2, 0, none⟩) (some ⟨B3, 0, none⟩) cap2 cap3 freshL freshL w7 hr6' hr7 (by rw [freshL_len]; omega) (by rw [freshL_len]; omega)).mono ?_
  rintro e w8 ⟨rfl, hb8⟩
  rw [show decide (freshL = freshL) = true by simp]
  have hB8 := hB7.trans (hb8.mono hB7.size)
  clear hr6' hr7 hb8 hB7
  go_wp2_with fail
  have hb9 : Below w8.heap.size w8 (w8.alloc (.cells #[.int .i64 1] 3)) := (Below.refl _ _).alloc (Nat.le_refl _) _
  refine (check_n _ w8.heap.size 1 (rdl_lit w8 1)).mono ?_
  rintro e w9 ⟨rfl, hb10⟩
  have hB9 := (hB8.trans (hb9.mono hB8.size)).trans (hb10.mono (Nat.le_trans hB8.size hb9.size))
  clear hb9 hb10 hB8
  go_wp2
  go_ret
  exact ⟨rfl, hB9⟩
end Go.Proofs.Ytdcomhdadnhpnaa
