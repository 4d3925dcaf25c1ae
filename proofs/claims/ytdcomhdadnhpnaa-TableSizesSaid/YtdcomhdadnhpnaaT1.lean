/- The small functions of package table compute what they name; a record's hash, word and element. -/
import Derived.Test.YtdcomhdadnhpnaaT0
import Derived.Outline
namespace Go.Proofs.Ytdcomhdadnhpnaa
open Go.RowKit

theorem buckets_any (n : Int) (w : World) (h0 : 0 ≤ n) (h1 : n ≤ 1000000) :
    Calls Try.prog 63 #[.int .i64 n] w fun e w' => e = .returned (.int .i64 (bkts n.toNat : Nat)) ∧ w' = w := by
  by_cases h : n ≤ 16
  · go_enter Try.func63, Try.ntmps63
    go_wp2
    go_ret
    exact ⟨ret_int (by unfold bkts; rw [if_pos (by omega)]; rfl), rfl⟩
  · go_enter Try.func63, Try.ntmps63
    go_wp2
    go_ret
    exact ⟨ret_int (by unfold bkts; rw [if_neg (by omega)]; omega), rfl⟩

theorem length_any (n : Int) (w : World) (h0 : 0 ≤ n) (h1 : n ≤ 1000000) :
    Calls Try.prog 64 #[.int .i64 n] w fun e w' => e = .returned (.int .i64 (wlen n.toNat : Nat)) ∧ w' = w := by
  go_enter Try.func64, Try.ntmps64
  go_wp2
  all_goals (go_ret; exact ⟨ret_int (by unfold wlen; omega), rfl⟩)

theorem right_yes (h : Int) (w : World) (h0 : 0 ≤ h) (h1 : h ≤ 2147483647) :
    Calls Try.prog 65 #[.int .i64 h] w fun e w' => e = .returned (.bool true) ∧ w' = w := by
  go_enter Try.func65, Try.ntmps65
  go_wp2
  go_ret
  exact ⟨rfl, rfl⟩
theorem right_no (h : Int) (w : World) (h0 : ¬ (0 ≤ h ∧ h ≤ 2147483647)) :
    Calls Try.prog 65 #[.int .i64 h] w fun e w' => e = .returned (.bool false) ∧ w' = w := by
  by_cases h1 : 0 ≤ h
  · have h2 : 2147483647 < h := by omega
    clear h0
    go_enter Try.func65, Try.ntmps65
    go_wp2
    go_ret
    exact ⟨by simp; omega, rfl⟩
  · have h2 : h < 0 := by omega
    clear h0
    go_enter Try.func65, Try.ntmps65
    go_wp2
    go_ret
    exact ⟨rfl, rfl⟩
theorem right_any (h : Int) (w : World) :
    Calls Try.prog 65 #[.int .i64 h] w fun e w' => e = .returned (.bool (decide (0 ≤ h ∧ h ≤ 2147483647))) ∧ w' = w := by
  by_cases h0 : 0 ≤ h ∧ h ≤ 2147483647
  · rw [decide_eq_true h0]; exact right_yes h w h0.1 h0.2
  · rw [decide_eq_false h0]; exact right_no h w h0

theorem recordAt_any (r : Int) (w : World) (h0 : 0 ≤ r) (h1 : r ≤ 1000000) :
    Calls Try.prog 87 #[.int .i64 r] w fun e w' => e = .returned (.int .i64 (recAt r.toNat : Nat)) ∧ w' = w := by
  go_enter Try.func87, Try.ntmps87
  go_wp2
  go_ret
  exact ⟨ret_int (by unfold recAt; omega), rfl⟩

theorem headAt_any (r : Int) (w : World) (h0 : 0 ≤ r) (h1 : r ≤ 1000000) :
    Calls Try.prog 89 #[.int .i64 r] w fun e w' => e = .returned (.int .i64 (headAt r.toNat : Nat)) ∧ w' = w := by
  go_enter Try.func89, Try.ntmps89
  go_wp2
  go_ret
  exact ⟨ret_int (by unfold headAt; omega), rfl⟩

theorem log2_le_of {b k : Nat} (h : 2 ^ k ≤ b) (h0 : b ≠ 0) : k ≤ Nat.log2 b := (Nat.le_log2 h0).2 h
theorem log2_le_iff (b k : Nat) (h0 : b ≠ 0) : 2 ^ k ≤ b ↔ k ≤ Nat.log2 b := (Nat.le_log2 h0).symm

/-- power: while 2p is at most b, p is doubled. -/
theorem power_any (b : Int) (w : World) (h0 : 1 ≤ b) (h1 : b ≤ 1000000) :
    Calls Try.prog 98 #[.int .i64 b] w fun e w' => e = .returned (.int .i64 (pow2 b.toNat : Nat)) ∧ w' = w := by
  go_enter Try.func98, Try.ntmps98
  go_wp2
  go_loop [3] (fun p => ∃ k : Nat, p = .int .i64 ((2 ^ k : Nat) : Int) ∧ Hid (k ≤ Nat.log2 b.toNat)) (fun p => (b - intOf p).toNat)
  case atStart => exact ⟨0, rfl, Nat.zero_le _⟩
  case round =>
    obtain ⟨k, rfl, hk⟩ := hrel
    have hb : b.toNat ≠ 0 := by omega
    have h2 : 2 ^ k ≤ b.toNat := (log2_le_iff _ _ hb).2 hk
    have h3 : 0 < 2 ^ k := Nat.two_pow_pos k
    have HS : Hid (2 ^ (k + 1) = 2 * 2 ^ k) := by show 2 ^ (k + 1) = 2 * 2 ^ k; rw [Nat.pow_succ]; omega
    have HK : Hid (2 ^ (k + 1) ≤ b.toNat ↔ k + 1 ≤ Nat.log2 b.toNat) := log2_le_iff _ _ hb
    clear hb
    generalize hp : 2 ^ k = p at *
    have HP : Hid (2 ^ k = p) := hp
    clear hp
    have h4 : (p : Int) ≤ 1000000 := by omega
    by_cases hc : 2 * (p : Int) ≤ b
    · go_wp2
      go_round
      case rel => exact ⟨k + 1, by rw [HS.out]; simp, HK.out.1 (by rw [HS.out]; omega)⟩
      case measure => simp [intOf]; omega
    · go_wp2
      go_ret
      refine ⟨ret_int ?_, rfl⟩
      unfold pow2
      have : Nat.log2 b.toNat = k := by
        have a := hk.out
        by_cases e : k + 1 ≤ Nat.log2 b.toNat
        · have := HK.out.2 e; rw [HS.out] at this; omega
        · omega
      rw [this, HP.out]

theorem pow2_pos (b : Nat) : 0 < pow2 b := Nat.two_pow_pos _
theorem pow2_le {b : Nat} (h : b ≠ 0) : pow2 b ≤ b := Nat.log2_self_le h
theorem lt_2pow2 (b : Nat) : b < 2 * pow2 b := by unfold pow2; have := @Nat.lt_log2_self b; rw [Nat.pow_succ] at this; omega

theorem bucket_any (h b : Int) (w : World) (h0 : 0 ≤ h) (h1 : h ≤ 4294967296) (b0 : 1 ≤ b) (b1 : b ≤ 1000000) :
    Calls Try.prog 66 #[.int .i64 h, .int .i64 b] w fun e w' => e = .returned (.int .i64 (bkt h.toNat b.toNat : Nat)) ∧ w' = w := by
  have p0 := pow2_pos b.toNat
  have p1 : pow2 b.toNat ≤ b.toNat := pow2_le (by omega)
  by_cases hc : h.toNat % (2 * pow2 b.toNat) < b.toNat
  · have HB : Hid (bkt h.toNat b.toNat = h.toNat % (2 * pow2 b.toNat)) := by show _ = _; unfold bkt; rw [if_pos hc]
    have hh := Nat.mod_lt h.toNat (show 0 < 2 * pow2 b.toNat by omega)
    generalize hp : pow2 b.toNat = p at *
    have HP : Hid (pow2 b.toNat = p) := hp
    clear hp
    have hc' : h % (2 * (p : Int)) < b := by
      have e : ((h.toNat % (2 * p) : Nat) : Int) = h % (2 * (p : Int)) := by rw [Int.natCast_emod]; congr 1; omega
      omega
    clear hc hh
    go_enter Try.func66, Try.ntmps66
    go_wp2_with (go_at_call 98; refine (power_any b w b0 b1).mono ?_; rintro e w1 ⟨rfl, rfl⟩; rw [HP.out])
    go_ret
    exact ⟨ret_int (by rw [HB.out]; rw [Int.natCast_emod]; congr 1; omega), rfl⟩
  · have HB : Hid (bkt h.toNat b.toNat = h.toNat % pow2 b.toNat) := by show _ = _; unfold bkt; rw [if_neg hc]
    generalize hp : pow2 b.toNat = p at *
    have HP : Hid (pow2 b.toNat = p) := hp
    clear hp
    have hc' : b ≤ h % (2 * (p : Int)) := by
      have e : ((h.toNat % (2 * p) : Nat) : Int) = h % (2 * (p : Int)) := by rw [Int.natCast_emod]; congr 1; omega
      omega
    clear hc
    go_enter Try.func66, Try.ntmps66
    go_wp2_with (go_at_call 98; refine (power_any b w b0 b1).mono ?_; rintro e w1 ⟨rfl, rfl⟩; rw [HP.out])
    go_ret
    exact ⟨ret_int (by rw [HB.out]; rw [Int.natCast_emod]; congr 1; omega), rfl⟩

set_option maxHeartbeats 400000 in
theorem hash_any (w : World) (p b off cap : Nat) (l : List Int) (hT : TblR w p b off cap l) (r : Int) (h0 : 0 ≤ r) (h1 : r < l.length) :
    Calls Try.prog 74 #[.agg #[.pointer (some ⟨p, 0, none⟩), .int .i64 r]] w fun e w' => e = .returned (.int .i64 (ati l r.toNat)) ∧ Below w.heap.size w w' := by
  have hp := hT.head
  have hc := hT.cells r.toNat (by omega)
  have bp := lt_cell hp
  have bb := hT.lt
  go_enter Try.func74, Try.ntmps74
  go_wp2
  go_quiet (fail)
  go_wp2
  go_ret
  exact ⟨rfl, below_drewN ((Below.refl _ _).alloc (Nat.le_refl _) _)⟩
set_option maxHeartbeats 400000 in
theorem word_any (w : World) (p b off cap : Nat) (l : List Int) (hT : TblR w p b off cap l) (r : Int) (h0 : 0 ≤ r) (h1 : r + 1 < l.length) (h2 : r < 100000000) :
    Calls Try.prog 75 #[.agg #[.pointer (some ⟨p, 0, none⟩), .int .i64 r]] w fun e w' => e = .returned (.int .i64 (ati l (r.toNat + 1))) ∧ Below w.heap.size w w' := by
  have hp := hT.head
  have hc := hT.cells (r.toNat + 1) (by omega)
  rw [show off + (r.toNat + 1) = off + (r + 1).toNat by omega] at hc
  have bp := lt_cell hp
  have bb := hT.lt
  have h3 : 0 ≤ r + 1 := by omega
  have hs : IntKind.i64.wrap (r + 1) = r + 1 := IntWalk.i64_in _ (by omega)
  go_enter Try.func75, Try.ntmps75
  go_wp2
  go_quiet (fail)
  clear hs
  go_wp2
  go_ret
  exact ⟨rfl, below_drewN ((Below.refl _ _).alloc (Nat.le_refl _) _)⟩
set_option maxHeartbeats 800000 in
theorem elem_any (w : World) (p b off cap : Nat) (l : List Int) (hT : TblR w p b off cap l) (r : Int) (h0 : 0 ≤ r) (h1 : r + 1 < l.length) (h2 : r < 100000000) :
    Calls Try.prog 77 #[.agg #[.pointer (some ⟨p, 0, none⟩), .int .i64 r]] w fun e w' => e = .returned (.agg #[.int .i64 (ati l r.toNat), .int .i64 (ati l (r.toNat + 1))]) ∧ Below w.heap.size w w' := by
  go_enter Try.func77, Try.ntmps77
  go_wp2
  have hT2 := (hT.alloc (Obj.cells #[Value.pointer (some { block := p, off := 0 }), Value.int IntKind.i64 r] 102)).alloc (Obj.cells #[Value.int IntKind.i64 0, Value.int IntKind.i64 0] 43) |>.drew
  go_region_with (first | (go_at_call 74; refine (hash_any _ p b off cap l hT2 r h0 (by omega)).mono ?_; rintro e w1 ⟨rfl, hb1⟩; have hT3 := hT2.below hb1; obtain ⟨hc1, hf1⟩ := bcell hb1; have hz1 : w.heap.size + 1 < w1.heap.size := by { have := hb1.size; simp at this; omega }; have hz1' : w.heap.size < w1.heap.size := by omega) | (go_at_call 75; refine (word_any _ p b off cap l hT3 r h0 (by omega) h2).mono ?_; rintro e w2 ⟨rfl, hb2⟩; obtain ⟨hc2, hf2⟩ := bcell hb2; have hz2 : w.heap.size + 1 < w2.heap.size := by { have := hb2.size; omega }))
  all_goals
    go_wp2
    refine bodyPost_ret (v := .agg #[.int .i64 (ati l r.toNat), .int .i64 (ati l (r.toNat + 1))]) (by have e1 : w2.cell? ⟨w.heap.size + 1, 0, none⟩ = some (.int .i64 0) := by { rw [hc2 _ _ hz1, hc1 _ _ (by simp)]; simp }; have e2 : w2.cell? ⟨w.heap.size + 1, 1, none⟩ = some (.int .i64 0) := by { rw [hc2 _ _ hz1, hc1 _ _ (by simp)]; simp }; simp [results, Try.results77, go_sem, e1, e2]) rfl ⟨rfl, ?_⟩
    exact ((Below.trans (((Below.refl _ _).alloc (Nat.le_refl _) _).alloc (by simp) _).drew ((hb1.mono (by simp; omega)).trans (hb2.mono (by omega)))).setCell (by simp) _).setCell (by simp) _

set_option maxHeartbeats 400000 in
theorem record_any (p : Nat) (r : Int) (w : World) (h0 : 0 ≤ r) (h1 : r ≤ 1000000) :
    Calls Try.prog 73 #[.pointer (some ⟨p, 0, none⟩), .int .i64 r] w fun e w' => e = .returned (.agg #[.pointer (some ⟨p, 0, none⟩), .int .i64 (recAt r.toNat : Nat)]) ∧ Below w.heap.size w w' := by
  go_enter Try.func73, Try.ntmps73
  go_wp2_with (go_at_call 87; refine (recordAt_any r _ h0 h1).mono ?_; rintro e w1 ⟨rfl, rfl⟩)
  refine bodyPost_ret (v := .agg #[.pointer (some ⟨p, 0, none⟩), .int .i64 (recAt r.toNat : Nat)]) (by simp [results, Try.results73, go_sem]) rfl ⟨rfl, ?_⟩
  go_grown

theorem count_any (w : World) (p b off cap : Nat) (l : List Int) (hT : TblR w p b off cap l) (h1 : 0 < l.length) :
    Calls Try.prog 88 #[.pointer (some ⟨p, 0, none⟩)] w fun e w' => e = .returned (.int .i64 (ati l 0)) ∧ w' = w := by
  have hp := hT.head
  have hc := hT.cells 0 h1
  rw [Nat.add_zero] at hc
  go_enter Try.func88, Try.ntmps88
  go_wp2
  go_ret
  exact ⟨rfl, rfl⟩
end Go.Proofs.Ytdcomhdadnhpnaa
