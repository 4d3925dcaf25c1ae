/- (r) Buckets, Length, IsHash, Power, Bucket of the reference. -/
import Derived.Test.YtdcomhdadnhpnaaT25
set_option linter.unusedSimpArgs false
set_option linter.unusedVariables false
namespace Go.Proofs.Ytdcomhdadnhpnaa
open Go.RowKit

theorem rBuckets_any (n : Int) (w : World) (h0 : 0 ≤ n) (h1 : n ≤ 1000000) :
    Calls Try.prog 18 #[.int .i64 n] w fun e w' => e = .returned (.int .i64 (bkts n.toNat : Nat)) ∧ w' = w := by
  by_cases h : n ≤ 16
  · go_enter Try.func18, Try.ntmps18
    go_wp2
    go_ret
    exact ⟨ret_int (by unfold bkts; rw [if_pos (by omega)]; rfl), rfl⟩
  · go_enter Try.func18, Try.ntmps18
    go_wp2
    go_ret
    exact ⟨ret_int (by unfold bkts; rw [if_neg (by omega)]; omega), rfl⟩

theorem rLength_any (n : Int) (w : World) (h0 : 0 ≤ n) (h1 : n ≤ 1000000) :
    Calls Try.prog 19 #[.int .i64 n] w fun e w' => e = .returned (.int .i64 (wlen n.toNat : Nat)) ∧ w' = w := by
  by_cases h : n = 0
  · subst h
    go_enter Try.func19, Try.ntmps19
    go_wp2
    go_ret
    exact ⟨ret_int (by decide), rfl⟩
  · have hb : (n == 0) = false := by simpa using h
    have HE := Lib.hid h
    clear h
    go_enter Try.func19, Try.ntmps19
    go_wp2
    go_ret
    exact ⟨ret_int (by have := HE.out; unfold wlen; omega), rfl⟩
theorem rIsHash_yes (h : Int) (w : World) (h0 : 0 ≤ h) (h1 : h ≤ 2147483647) :
    Calls Try.prog 21 #[.int .i64 h] w fun e w' => e = .returned (.bool true) ∧ w' = w := by
  go_enter Try.func21, Try.ntmps21
  go_wp2
  go_ret
  exact ⟨rfl, rfl⟩
theorem rIsHash_no (h : Int) (w : World) (h0 : ¬ (0 ≤ h ∧ h ≤ 2147483647)) :
    Calls Try.prog 21 #[.int .i64 h] w fun e w' => e = .returned (.bool false) ∧ w' = w := by
  by_cases h1 : 0 ≤ h
  · have h2 : 2147483647 < h := by omega
    clear h0
    go_enter Try.func21, Try.ntmps21
    go_wp2
    go_ret
    exact ⟨by simp; omega, rfl⟩
  · have h2 : h < 0 := by omega
    clear h0
    go_enter Try.func21, Try.ntmps21
    go_wp2
    go_ret
    exact ⟨rfl, rfl⟩
theorem rIsHash_any (h : Int) (w : World) :
    Calls Try.prog 21 #[.int .i64 h] w fun e w' => e = .returned (.bool (decide (0 ≤ h ∧ h ≤ 2147483647))) ∧ w' = w := by
  by_cases h0 : 0 ≤ h ∧ h ≤ 2147483647
  · rw [decide_eq_true h0]; exact rIsHash_yes h w h0.1 h0.2
  · rw [decide_eq_false h0]; exact rIsHash_no h w h0

theorem rPower_any (b : Int) (w : World) (h0 : 1 ≤ b) (h1 : b ≤ 1000000) :
    Calls Try.prog 67 #[.int .i64 b] w fun e w' => e = .returned (.int .i64 (pow2 b.toNat : Nat)) ∧ w' = w := by
  go_enter Try.func67, Try.ntmps67
  go_wp2
  go_loop [3] (fun p => ∃ k : Nat, p = .int .i64 ((2 ^ k : Nat) : Int) ∧ Hid (k ≤ Nat.log2 b.toNat)) (fun p => (b - intOf p).toNat)
  case atStart => exact ⟨0, rfl, Nat.zero_le _⟩
  case round =>
    obtain ⟨k, rfl, hk⟩ := hrel
    have hb : b.toNat ≠ 0 := by omega
    have h2 : 2 ^ k ≤ b.toNat := (log2_le_iff _ _ hb).2 hk
    have h3 : 0 < 2 ^ k := Nat.two_pow_pos k
    have HS : Hid (2 ^ (k + 1) = 2 * 2 ^ k) := by show 2 ^ (k + 1) = 2 * 2 ^ k; rw [Nat.pow_succ]; omega
    have HK : Hid (2 ^ (k + 1) ≤ b.toNat ↔ k + 1 ≤ Nat.log2 b.toNat) := log2_le_iff _ _ hb
    clear hb
    generalize hp : 2 ^ k = p at *
    have HP : Hid (2 ^ k = p) := hp
    clear hp
    have h4 : (p : Int) ≤ 1000000 := by omega
    by_cases hc : 2 * (p : Int) ≤ b
    · go_wp2
      go_round
      case rel => exact ⟨k + 1, by rw [HS.out]; simp, HK.out.1 (by rw [HS.out]; omega)⟩
      case measure => simp [intOf]; omega
    · go_wp2
      go_ret
      refine ⟨ret_int ?_, rfl⟩
      unfold pow2
      have : Nat.log2 b.toNat = k := by
        have a := hk.out
        by_cases e : k + 1 ≤ Nat.log2 b.toNat
        · have := HK.out.2 e; rw [HS.out] at this; omega
        · omega
      rw [this, HP.out]

theorem rBucket_any (h b : Int) (w : World) (h0 : 0 ≤ h) (h1 : h ≤ 4294967296) (b0 : 1 ≤ b) (b1 : b ≤ 1000000) :
    Calls Try.prog 22 #[.int .i64 h, .int .i64 b] w fun e w' => e = .returned (.int .i64 (bkt h.toNat b.toNat : Nat)) ∧ w' = w := by
  have p0 := pow2_pos b.toNat
  have p1 : pow2 b.toNat ≤ b.toNat := pow2_le (by omega)
  by_cases hc : h.toNat % (2 * pow2 b.toNat) < b.toNat
  · have HB : Hid (bkt h.toNat b.toNat = h.toNat % (2 * pow2 b.toNat)) := by show _ = _; unfold bkt; rw [if_pos hc]
    have hh := Nat.mod_lt h.toNat (show 0 < 2 * pow2 b.toNat by omega)
    generalize hp : pow2 b.toNat = p at *
    have HP : Hid (pow2 b.toNat = p) := hp
    clear hp
    have hc' : h % (2 * (p : Int)) < b := by
      have e : ((h.toNat % (2 * p) : Nat) : Int) = h % (2 * (p : Int)) := by rw [Int.natCast_emod]; congr 1; omega
      omega
    clear hc hh
    go_enter Try.func22, Try.ntmps22
    go_wp2_with (go_at_call 67; refine (rPower_any b w b0 b1).mono ?_; rintro e w1 ⟨rfl, rfl⟩; rw [HP.out])
    go_ret
    exact ⟨ret_int (by rw [HB.out]; rw [Int.natCast_emod]; congr 1; omega), rfl⟩
  · have HB : Hid (bkt h.toNat b.toNat = h.toNat % pow2 b.toNat) := by show _ = _; unfold bkt; rw [if_neg hc]
    generalize hp : pow2 b.toNat = p at *
    have HP : Hid (pow2 b.toNat = p) := hp
    clear hp
    have hc' : b ≤ h % (2 * (p : Int)) := by
      have e : ((h.toNat % (2 * p) : Nat) : Int) = h % (2 * (p : Int)) := by rw [Int.natCast_emod]; congr 1; omega
      omega
    clear hc
    go_enter Try.func22, Try.ntmps22
    go_wp2_with (go_at_call 67; refine (rPower_any b w b0 b1).mono ?_; rintro e w1 ⟨rfl, rfl⟩; rw [HP.out])
    go_ret
    exact ⟨ret_int (by rw [HB.out]; rw [Int.natCast_emod]; congr 1; omega), rfl⟩

end Go.Proofs.Ytdcomhdadnhpnaa
