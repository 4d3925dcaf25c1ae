/- (t) valid, opened, fresh, and what needs no table. -/
import Derived.Test.YtdcomhdadnhpnaaT16
import Derived.Test.YtdcomhdadnhpnaaT17
import Derived.Test.YtdcomhdadnhpnaaT18
namespace Go.Proofs.Ytdcomhdadnhpnaa
open Go.RowKit Go.Shelf

theorem valid_any (A : Option Addr) (c : Nat) (l : List Int) (w : World) (hR : RdL w A l) :
    Calls Try.prog 97 #[.slice A l.length c] w fun e W' => (∃ b : Bool, e = .returned (.bool b) ∧ (b = true ↔ ValidL l)) ∧ Below w.heap.size w W' := by
  by_cases hH : HeadOk l (ati l 0).toNat
  · exact valid_head_yes A c l w hR _ hH
  · exact valid_head_no A c l w hR hH

/-- what opened returns -/
def OpenE (base : Nat) (l : List Int) (h : Int) (e : Ending) (W' : World) : Prop :=
  (¬ ValidL l ∧ e = .returned (.tuple #[.pointer none, .int .i64 600])) ∨
  (ValidL l ∧ ¬ (0 ≤ h ∧ h ≤ 2147483647) ∧ e = .returned (.tuple #[.pointer none, .int .i64 1])) ∨
  (ValidL l ∧ (0 ≤ h ∧ h ≤ 2147483647) ∧ ∃ p B cap, e = .returned (.tuple #[.pointer (some ⟨p, 0, none⟩), .int .i64 0]) ∧ Tb base W' p B cap l)

theorem ValidL.len60 {l : List Int} (h : ValidL l) : 60 ≤ l.length := by rw [h.len]; exact wlen_ge _
theorem ValidL.le {l : List Int} (h : ValidL l) : l.length ≤ 3000000 := by rw [h.len]; have := h.n1; have := h.n0; unfold wlen; omega

set_option maxRecDepth 100000 in
set_option maxHeartbeats 1000000 in
theorem opened_any (A : Option Addr) (c : Nat) (l : List Int) (h : Int) (w : World) (hR : RdL w A l) :
    Calls Try.prog 69 #[.slice A l.length c, .int .i64 h] w fun e W' => OpenE w.heap.size l h e W' ∧ Below w.heap.size w W' := by
  go_enter Try.func69, Try.ntmps69
  go_wp2_with fail
  refine (valid_any A c l w hR).mono ?_
  rintro e w1 ⟨⟨b, rfl, hb⟩, hB1⟩
  cases b with
  | false =>
    go_wp2
    refine bodyPost_ret (v := .tuple #[.pointer none, .int .i64 600]) (by simp [results, Try.results69, go_sem]) rfl ?_
    exact ⟨.inl ⟨by simpa using hb, rfl⟩, hB1⟩
  | true =>
    have hV : ValidL l := hb.1 rfl
    go_wp2_with fail
    refine (right_any h w1).mono ?_
    rintro e w2 ⟨rfl, rfl⟩
    by_cases hh : 0 ≤ h ∧ h ≤ 2147483647
    · have hd : decide (0 ≤ h ∧ h ≤ 2147483647) = true := decide_eq_true hh
      rw [hd]
      go_wp2_with fail
      refine (clone_any A c l w2 (hR.below hB1) (by have := hV.len60; omega) (by have := hV.le; omega)).mono ?_
      rintro e w3 ⟨⟨B, cap, rfl, hrw⟩, hB3⟩
      have hbld : ∀ W : World, (Instr.build 91 #[(0, .slice (some ⟨B, 0, none⟩) l.length cap)]).run Try.prog W = .ok (.agg #[.slice (some ⟨B, 0, none⟩) l.length cap]) W := fun _ => by kernel_rfl
      have HH := Lib.hid hh
      have HV := Lib.hid hV
      have HR := Lib.hid hrw
      clear hh hd hb hV hrw
      go_wp2
      refine bodyPost_ret (v := .tuple #[.pointer (some ⟨w3.heap.size, 0, none⟩), .int .i64 0]) (by simp [results, Try.results69, go_sem]) rfl ?_
      have hs := hB1.size
      have hs3 := hB3.size
      have hrw := HR.out
      refine ⟨.inr (.inr ⟨HV.out, HH.out, w3.heap.size, B, cap, rfl, ?_⟩), (hB1.trans (hB3.mono hs)).alloc (by omega) _⟩
      obtain ⟨cur, hh, r⟩ := hrw.row
      exact ⟨by omega, Nat.le_trans hs hrw.bb, by have := lt_heap hh; omega, World.alloc_heap_new _ _, ⟨cur, (Below.heap_alloc _ _ _ (lt_heap hh)).trans hh, r⟩, hrw.le, hrw.capm⟩
    · have hd : decide (0 ≤ h ∧ h ≤ 2147483647) = false := decide_eq_false hh
      rw [hd]
      go_wp2
      refine bodyPost_ret (v := .tuple #[.pointer none, .int .i64 1]) (by simp [results, Try.results69, go_sem]) rfl ?_
      exact ⟨.inr (.inl ⟨hV, hh, rfl⟩), hB1⟩

theorem bucketsX_any (n : Int) (w : World) :
    Calls Try.prog 16 #[.int .i64 n] w fun e w' => e = .returned (if n < 0 ∨ n > 100000 then .tuple #[.int .i64 0, .int .i64 1] else .tuple #[.int .i64 (bkts n.toNat : Nat), .int .i64 0]) ∧ w' = w := by
  by_cases h0 : n < 0
  · go_enter Try.func16, Try.ntmps16
    go_wp2
    refine bodyPost_ret (v := .tuple #[.int .i64 0, .int .i64 1]) (by simp [results, Try.results16, go_sem]) rfl ?_
    exact ⟨by first | rfl | rw [if_pos (.inl h0)], rfl⟩
  · by_cases h1 : n > 100000
    · have h0' : 0 ≤ n := by omega
      have h1' : 100000 < n := by omega
      go_enter Try.func16, Try.ntmps16
      go_wp2
      refine bodyPost_ret (v := .tuple #[.int .i64 0, .int .i64 1]) (by simp [results, Try.results16, go_sem]) rfl ?_
      exact ⟨by first | rfl | rw [if_pos (.inr h1)], rfl⟩
    · have h0' : 0 ≤ n := by omega
      have h1' : n ≤ 100000 := by omega
      have hh : ¬ (n < 0 ∨ n > 100000) := by omega
      go_enter Try.func16, Try.ntmps16
      go_wp2_with (go_at_call 63; refine (buckets_any _ _ (by omega) (by omega)).mono ?_; rintro e w8 ⟨rfl, rfl⟩)
      refine bodyPost_ret (v := .tuple #[.int .i64 (bkts n.toNat : Nat), .int .i64 0]) (by simp [results, Try.results16, go_sem]) rfl ?_
      exact ⟨by first | rfl | rw [if_neg hh], rfl⟩

theorem lengthX_any (n : Int) (w : World) :
    Calls Try.prog 17 #[.int .i64 n] w fun e w' => e = .returned (if n < 0 ∨ n > 100000 then .tuple #[.int .i64 0, .int .i64 1] else .tuple #[.int .i64 (wlen n.toNat : Nat), .int .i64 0]) ∧ w' = w := by
  by_cases h0 : n < 0
  · go_enter Try.func17, Try.ntmps17
    go_wp2
    refine bodyPost_ret (v := .tuple #[.int .i64 0, .int .i64 1]) (by simp [results, Try.results17, go_sem]) rfl ?_
    exact ⟨by first | rfl | rw [if_pos (.inl h0)], rfl⟩
  · by_cases h1 : n > 100000
    · have h0' : 0 ≤ n := by omega
      have h1' : 100000 < n := by omega
      go_enter Try.func17, Try.ntmps17
      go_wp2
      refine bodyPost_ret (v := .tuple #[.int .i64 0, .int .i64 1]) (by simp [results, Try.results17, go_sem]) rfl ?_
      exact ⟨by first | rfl | rw [if_pos (.inr h1)], rfl⟩
    · have h0' : 0 ≤ n := by omega
      have h1' : n ≤ 100000 := by omega
      have hh : ¬ (n < 0 ∨ n > 100000) := by omega
      go_enter Try.func17, Try.ntmps17
      go_wp2_with (go_at_call 64; refine (length_any _ _ (by omega) (by omega)).mono ?_; rintro e w8 ⟨rfl, rfl⟩)
      refine bodyPost_ret (v := .tuple #[.int .i64 (wlen n.toNat : Nat), .int .i64 0]) (by simp [results, Try.results17, go_sem]) rfl ?_
      exact ⟨by first | rfl | rw [if_neg hh], rfl⟩


set_option maxRecDepth 100000 in
theorem bucketX_any (hx b : Int) (w : World) :
    Calls Try.prog 20 #[.int .i64 hx, .int .i64 b] w fun e w' => e = .returned (if (0 ≤ hx ∧ hx ≤ 2147483647) ∧ 8 ≤ b ∧ b ≤ 50000 then .tuple #[.int .i64 (bkt hx.toNat b.toNat : Nat), .int .i64 0] else .tuple #[.int .i64 0, .int .i64 1]) ∧ w' = w := by
  by_cases hh : 0 ≤ hx ∧ hx ≤ 2147483647
  · have hd : decide (0 ≤ hx ∧ hx ≤ 2147483647) = true := decide_eq_true hh
    by_cases h0 : b < 8
    · go_enter Try.func20, Try.ntmps20
      go_wp2_with (go_at_call 65; refine (right_any _ _).mono ?_; rintro e w8 ⟨rfl, rfl⟩; rw [hd])
      refine bodyPost_ret (v := .tuple #[.int .i64 0, .int .i64 1]) (by simp [results, Try.results20, go_sem]) rfl ?_
      exact ⟨by first | rfl | rw [if_neg (by omega)], rfl⟩
    · have h0' : 8 ≤ b := by omega
      have e5 : ((bkts (100000 : Int).toNat : Nat) : Int) = 50000 := by decide
      by_cases h1 : b ≤ 50000
      · go_enter Try.func20, Try.ntmps20
        go_wp2_with (first
          | (go_at_call 65; refine (right_any _ _).mono ?_; rintro e w8 ⟨rfl, rfl⟩; rw [hd])
          | (go_at_call 63; refine (buckets_any _ _ (by omega) (by omega)).mono ?_; rintro e w8 ⟨rfl, rfl⟩; rw [e5])
          | (go_at_call 66; refine (bucket_any _ _ _ (by omega) (by omega) (by omega) (by omega)).mono ?_; rintro e w8 ⟨rfl, rfl⟩))
        refine bodyPost_ret (v := .tuple #[.int .i64 (bkt hx.toNat b.toNat : Nat), .int .i64 0]) (by simp [results, Try.results20, go_sem]) rfl ?_
        exact ⟨by first | rfl | rw [if_pos ⟨hh, h0', h1⟩], rfl⟩
      · have h1' : 50000 < b := by omega
        go_enter Try.func20, Try.ntmps20
        go_wp2_with (first
          | (go_at_call 65; refine (right_any _ _).mono ?_; rintro e w8 ⟨rfl, rfl⟩; rw [hd])
          | (go_at_call 63; refine (buckets_any _ _ (by omega) (by omega)).mono ?_; rintro e w8 ⟨rfl, rfl⟩; rw [e5]))
        refine bodyPost_ret (v := .tuple #[.int .i64 0, .int .i64 1]) (by simp [results, Try.results20, go_sem]) rfl ?_
        exact ⟨by first | rfl | rw [if_neg (by omega)], rfl⟩
  · have hd : decide (0 ≤ hx ∧ hx ≤ 2147483647) = false := decide_eq_false hh
    go_enter Try.func20, Try.ntmps20
    go_wp2_with (go_at_call 65; refine (right_any _ _).mono ?_; rintro e w8 ⟨rfl, rfl⟩; rw [hd])
    refine bodyPost_ret (v := .tuple #[.int .i64 0, .int .i64 1]) (by simp [results, Try.results20, go_sem]) rfl ?_
    exact ⟨by first | rfl | rw [if_neg (fun h => hh h.1)], rfl⟩

theorem check_any (A : Option Addr) (c : Nat) (l : List Int) (w : World) (hR : RdL w A l) :
    Calls Try.prog 62 #[.slice A l.length c] w fun e W' => ((ValidL l ∧ e = .returned (.int .i64 0)) ∨ (¬ ValidL l ∧ e = .returned (.int .i64 600))) ∧ Below w.heap.size w W' := by
  go_enter Try.func62, Try.ntmps62
  go_wp2_with fail
  refine (valid_any A c l w hR).mono ?_
  rintro e w1 ⟨⟨b, rfl, hb⟩, hB1⟩
  cases b with
  | false =>
    go_wp2
    go_ret
    exact ⟨.inr ⟨by simpa using hb, rfl⟩, hB1⟩
  | true =>
    go_wp2
    go_ret
    exact ⟨.inl ⟨hb.1 (by trivial), rfl⟩, hB1⟩

def freshL : List Int := sizedL (List.replicate 60 0) 0
set_option maxRecDepth 100000 in
set_option maxHeartbeats 1000000 in
theorem fresh_any (w : World) :
    Calls Try.prog 68 #[] w fun e W' => (∃ p B cap, e = .returned (.pointer (some ⟨p, 0, none⟩)) ∧ Tb w.heap.size W' p B cap freshL) ∧ Below w.heap.size w W' := by
  have hmk : ∀ W : World, (Instr.makeSlice 31 (.int .i64 60) (.int .i64 60)).run Try.prog W = .ok (.slice (some ⟨W.heap.size, 0, none⟩) 60 60) (W.alloc (.cells (List.replicate 60 (Value.int .i64 0)).toArray 3)) := fun _ => by kernel_rfl
  have e60 : ((wlen (0 : Int).toNat : Nat) : Int) = 60 := by decide
  go_enter Try.func68, Try.ntmps68
  go_wp2_with (go_at_call 64; refine (length_any _ _ (by omega) (by omega)).mono ?_; rintro e w8 ⟨rfl, rfl⟩; rw [e60])
  have hT : ∀ W : World, Tb w.heap.size ((w.alloc (.cells #[.slice (some ⟨w.heap.size + 1, 0, none⟩) 60 60] 91)).alloc (.cells (List.replicate 60 (Value.int .i64 0)).toArray 3)) w.heap.size (w.heap.size + 1) 60 (List.replicate 60 0) := fun W =>
    ⟨Nat.le_refl _, by omega, by omega, by rw [Below.heap_alloc _ _ _ (by simp), World.alloc_heap_new]; rfl,
      ⟨(List.replicate 60 (Value.int .i64 0)).toArray, by have h := World.alloc_heap_new (w.alloc (.cells #[.slice (some ⟨w.heap.size + 1, 0, none⟩) 60 60] 91)) (.cells (List.replicate 60 (Value.int .i64 0)).toArray 3); rw [World.size_alloc] at h; exact h, by simp, by simp⟩, by simp, by unfold maxLen; omega⟩
  refine (sized_any w.heap.size _ w.heap.size (w.heap.size + 1) 60 (List.replicate 60 0) 0 (by omega) (hT w) (by simp) (by simp) (by simp; omega)).mono ?_
  rintro e w2 ⟨rfl, B', cap', hT2, hF2, hB2⟩
  go_wp2
  go_ret
  refine ⟨⟨_, B', cap', rfl, hT2⟩, Below.trans (((Below.refl _ _).alloc (Nat.le_refl _) _).alloc (by simp) _) (hF2.below (by simp; omega) (Nat.le_refl _) (by omega))⟩

theorem new_any (w : World) :
    Calls Try.prog 23 #[] w fun e W' => (∃ B cap, e = .returned (.slice (some ⟨B, 0, none⟩) freshL.length cap) ∧ Rw w.heap.size W' B cap freshL) ∧ Below w.heap.size w W' := by
  go_enter Try.func23, Try.ntmps23
  go_wp2_with fail
  refine (fresh_any w).mono ?_
  rintro e w1 ⟨⟨p, B, cap, rfl, hT⟩, hB⟩
  have hp := hT.head
  have HT := Lib.hid hT
  clear hT
  go_wp2
  go_ret
  exact ⟨⟨B, cap, rfl, HT.out.rw_⟩, hB⟩
end Go.Proofs.Ytdcomhdadnhpnaa
