/- The two closures of (t) divide and (t) drop. -/
import Derived.Test.YtdcomhdadnhpnaaT6
namespace Go.Proofs.Ytdcomhdadnhpnaa
open Go.RowKit Go.Shelf

set_option maxRecDepth 100000 in
set_option maxHeartbeats 2000000 in
theorem isNew_any (w : World) (p b off cap bt bb : Nat) (l : List Int) (hT : TblR w p b off cap l) (r n : Nat) (h0 : Int) (hr : r ≤ 100000) (hrl : recAt r < l.length)
    (hh : ati l (recAt r) = h0) (hh0 : 0 ≤ h0) (hh1 : h0 ≤ 4294967296) (hn : n ≤ 500000)
    (ct : w.cell? ⟨bt, 0, none⟩ = some (.pointer (some ⟨p, 0, none⟩))) (cb : w.cell? ⟨bb, 0, none⟩ = some (.int .i64 (n : Nat))) :
    Calls Try.prog 113 #[.int .i64 r, .pointer (some ⟨bt, 0, none⟩), .pointer (some ⟨bb, 0, none⟩)] w fun e w' => e = .returned (.bool (decide (bkt h0.toNat (n + 1) = n))) ∧ Below w.heap.size w w' := by
  have hs : IntKind.i64.wrap ((n : Int) + 1) = (n : Int) + 1 := IntWalk.i64_in _ (by omega)
  subst hh
  go_enter Try.func113, Try.ntmps113
  go_wp2
  go_region_held3 (fun w' => w'.cell? ⟨bt, 0, none⟩ = some (.pointer (some ⟨p, 0, none⟩)) ∧ w'.cell? ⟨bb, 0, none⟩ = some (.int .i64 (n : Nat)) ∧ TblR w' p b off cap l ∧ Below w.heap.size w w')
    (first | exact ⟨ct, cb, hT.drew, (Below.refl _ _).drew⟩ | exact ⟨cell_below hb1 k0, cell_below hb1 k1, k2.below hb1, k3.trans (hb1.mono k3.size)⟩ | assumption)
    (first
      | (go_at_call 73; obtain ⟨k0, k1, k2, k3⟩ := ‹_ ∧ _ ∧ _ ∧ _›; refine (record_any p (r : Nat) _ (by omega) (by omega)).mono ?_; rintro e w1 ⟨rfl, hb1⟩; rw [Int.toNat_natCast])
      | (go_at_call 74; obtain ⟨k0, k1, k2, k3⟩ := ‹_ ∧ _ ∧ _ ∧ _›; refine (hash_any _ p b off cap l k2 (recAt r : Nat) (by omega) (by omega)).mono ?_; rintro e w1 ⟨rfl, hb1⟩; rw [Int.toNat_natCast])
      | (go_at_call 66; obtain ⟨k0, k1, k2, k3⟩ := ‹_ ∧ _ ∧ _ ∧ _›; refine (bucket_any (ati l (recAt r)) ((n : Int) + 1) _ hh0 hh1 (by omega) (by omega)).mono ?_; rintro e w1 ⟨rfl, rfl⟩))
  have k3 := (‹_ ∧ _ ∧ _ ∧ _› : _ ∧ _ ∧ _ ∧ Below w.heap.size w _).2.2.2
  clear hs
  go_wp2
  go_ret
  exact ⟨congrArg (fun x => Ending.returned (Value.bool x)) (by rw [Bool.eq_iff_iff]; simp; constructor <;> intro h <;> omega), k3⟩

set_option maxRecDepth 100000 in
set_option maxHeartbeats 2000000 in
theorem less_any (w : World) (p b off cap bt : Nat) (l : List Int) (hT : TblR w p b off cap l) (r q : Nat) (hr : r ≤ 100000) (hrl : recAt r < l.length) (hq : q ≤ 100000) (hql : recAt q < l.length)
    (ct : w.cell? ⟨bt, 0, none⟩ = some (.pointer (some ⟨p, 0, none⟩))) :
    Calls Try.prog 105 #[.int .i64 r, .int .i64 q, .pointer (some ⟨bt, 0, none⟩)] w fun e w' => e = .returned (.bool (decide (ati l (recAt r) < ati l (recAt q)))) ∧ Below w.heap.size w w' := by
  go_enter Try.func105, Try.ntmps105
  go_wp2
  go_region_held3 (fun w' => w'.cell? ⟨bt, 0, none⟩ = some (.pointer (some ⟨p, 0, none⟩)) ∧ TblR w' p b off cap l ∧ Below w.heap.size w w')
    (first | exact ⟨ct, hT.drew, (Below.refl _ _).drew⟩ | exact ⟨cell_below hb1 k0, k2.below hb1, k3.trans (hb1.mono k3.size)⟩ | assumption)
    (first
      | (go_at_call_of 73 (Value.int IntKind.i64 (r : Nat)); obtain ⟨k0, k2, k3⟩ := ‹_ ∧ _ ∧ _›; refine (record_any p (r : Nat) _ (by omega) (by omega)).mono ?_; rintro e w1 ⟨rfl, hb1⟩; rw [Int.toNat_natCast])
      | (go_at_call_of 73 (Value.int IntKind.i64 (q : Nat)); obtain ⟨k0, k2, k3⟩ := ‹_ ∧ _ ∧ _›; refine (record_any p (q : Nat) _ (by omega) (by omega)).mono ?_; rintro e w1 ⟨rfl, hb1⟩; rw [Int.toNat_natCast])
      | (go_at_call_of 74 (Value.agg #[Value.pointer (some ⟨p, 0, none⟩), Value.int IntKind.i64 (recAt r : Nat)]); obtain ⟨k0, k2, k3⟩ := ‹_ ∧ _ ∧ _›; refine (hash_any _ p b off cap l k2 (recAt r : Nat) (by omega) (by omega)).mono ?_; rintro e w1 ⟨rfl, hb1⟩; rw [Int.toNat_natCast])
      | (go_at_call_of 74 (Value.agg #[Value.pointer (some ⟨p, 0, none⟩), Value.int IntKind.i64 (recAt q : Nat)]); obtain ⟨k0, k2, k3⟩ := ‹_ ∧ _ ∧ _›; refine (hash_any _ p b off cap l k2 (recAt q : Nat) (by omega) (by omega)).mono ?_; rintro e w1 ⟨rfl, hb1⟩; rw [Int.toNat_natCast]))
  have k3 := (‹_ ∧ _ ∧ _› : _ ∧ _ ∧ Below w.heap.size w _).2.2
  go_wp2
  go_ret
  exact ⟨by first | rfl | simp, k3⟩
end Go.Proofs.Ytdcomhdadnhpnaa
