/- (t) link: a list of records becomes the chain of a bucket. -/
import Derived.Test.YtdcomhdadnhpnaaT4
namespace Go.Proofs.Ytdcomhdadnhpnaa
open Go.RowKit Go.Shelf

def lk (s : List Int × Nat) (r : Nat) : List Int × Nat := (s.1.set s.2 ((r : Int) + 1), recAt r + 2)
def linkL (l : List Int) (f : Nat) (rs : List Nat) : List Int := (rs.foldl lk (l, f)).1.set (rs.foldl lk (l, f)).2 0
theorem lk_len (rs : List Nat) (s : List Int × Nat) : (rs.foldl lk s).1.length = s.1.length := by
  induction rs generalizing s with
  | nil => rfl
  | cons r rs ih => rw [List.foldl_cons, ih]; simp [lk]
theorem lk_at {n : Nat} (rs : List Nat) (s : List Int × Nat) (hs : s.2 < n) (h : ∀ r ∈ rs, recAt r + 2 < n) : (rs.foldl lk s).2 < n := by
  induction rs generalizing s with
  | nil => exact hs
  | cons r rs ih => rw [List.foldl_cons]; exact ih _ (h r (by simp)) (fun q hq => h q (by simp [hq]))
theorem linkL_len (l : List Int) (f : Nat) (rs : List Nat) : (linkL l f rs).length = l.length := by simp [linkL, lk_len]
theorem take_foldl (rs : List Nat) (s : List Int × Nat) (k : Nat) (hk : k < rs.length) : (rs.take (k + 1)).foldl lk s = lk ((rs.take k).foldl lk s) (rs.getD k 0) := by
  have e : rs.getD k 0 = rs[k] := by simp [hk]
  rw [List.take_succ_eq_append_getElem hk, List.foldl_append, e]; rfl

def encN (r : Nat) : Value := .int .i64 (r : Nat)
def natAt (rs : List Nat) (k : Nat) : Nat := rs.getD k 0

set_option maxRecDepth 100000 in
set_option maxHeartbeats 1000000 in
theorem link_some (base : Nat) (w : World) (p B cap : Nat) (l : List Int) (i : Nat) (hi : i ≤ 1000000) (rs : List Nat) (g c : Nat) (hT : Tb base w p B cap l) (hl : l.length ≤ 100000000)
    (hf : headAt i < l.length) (hrs : ∀ r ∈ rs, recAt r + 2 < l.length ∧ r ≤ 1000000) (hlen : rs.length ≤ 1000000) (hg1 : g ≠ p) (hg2 : g ≠ B) (hgw : g < w.heap.size) (hc : ∀ k, k < rs.length → w.cell? ⟨g, k, none⟩ = some (.int .i64 (natAt rs k : Nat))) :
    Calls Try.prog 103 #[.pointer (some ⟨p, 0, none⟩), .int .i64 i, .slice (some ⟨g, 0, none⟩) rs.length c] w fun e W' => e = .returned (.tuple #[]) ∧ Tb base W' p B cap (linkL l (headAt i) rs) ∧ Fr p B w W' := by
  go_enter Try.func103, Try.ntmps103
  go_wp2_with (go_at_call 89; refine (headAt_any i w (by omega) (by omega)).mono ?_; rintro e w1 ⟨rfl, rfl⟩; rw [Int.toNat_natCast])
  go_loopw [6, 13] (fun f k wr => ∃ (kk ff : Nat) (ll : List Int), kk ≤ rs.length ∧ k = .int .i64 (kk : Nat) ∧ f = .int .i64 (ff : Nat) ∧ Hid ((rs.take kk).foldl lk (l, headAt i) = (ll, ff)) ∧ Tb base wr p B cap ll ∧ Fr p B w1 wr)
    (fun _ k _ => rs.length - (intOf k).toNat)
  case atStart => exact ⟨0, headAt i, l, Nat.zero_le _, rfl, rfl, rfl, hT, Fr.refl _ _ _⟩
  case round =>
    obtain ⟨kk, ff, ll, hk, rfl, rfl, HL, hTr, hFr⟩ := hrel
    have hll : ll.length = l.length := by have := lk_len (rs.take kk) (l, headAt i); rw [HL.out] at this; exact this
    have hff : ff < ll.length := by
      rw [hll]
      have := lk_at (n := l.length) (rs.take kk) (l, headAt i) hf (fun r hr => (hrs r (List.mem_of_mem_take hr)).1)
      rw [HL.out] at this; exact this
    have hlb : ll.length ≤ 100000000 := by omega
    have HLL := Lib.hid hll
    clear hll
    have hp := hTr.head
    have hcf := hTr.cell ff hff
    have hfz := hTr.frz ff
    by_cases hlt : kk < rs.length
    · have hck := (World.cell?_of_block (a := ⟨g, kk, none⟩) (hFr.block g hgw hg1 hg2)).trans (hc kk hlt)
      have hr := hrs (natAt rs kk) (by have e : natAt rs kk = rs[kk] := by { simp [natAt, hlt] }; rw [e]; exact List.getElem_mem _)
      have hst := take_foldl rs (l, headAt i) kk hlt
      rw [HL.out] at hst
      have HST := Lib.hid hst
      clear hst hc hrs hf
      have hra := hr.1
      have hrb := hr.2
      have hrr : recAt (natAt rs kk) ≤ 100000000 := by omega
      go_wp2_with (go_at_call 87; refine (recordAt_any (natAt rs kk : Nat) _ (by omega) (by omega)).mono ?_; rintro e w2 ⟨rfl, rfl⟩; rw [Int.toNat_natCast])
      go_roundw
      case rel => exact ⟨kk + 1, recAt (natAt rs kk) + 2, ll.set ff ((natAt rs kk : Int) + 1), by omega, by go_num, by go_num, HST.out, hTr.set _ _, hFr.setCell (.inr (.inl rfl)) _⟩
      case measure => simp [intOf]; omega
    · have hkk : kk = rs.length := by omega
      have HK := Lib.hid hkk
      clear hkk hc
      go_wp2
      go_end0
      refine ⟨rfl, ?_, hFr.setCell (.inr (.inl rfl)) _⟩
      have h1 := HL.out
      rw [HK.out, List.take_length] at h1
      unfold linkL
      rw [h1]
      exact hTr.set _ _

set_option maxHeartbeats 1000000 in
theorem link_none (base : Nat) (w : World) (p B cap : Nat) (l : List Int) (i : Nat) (hi : i ≤ 1000000) (hT : Tb base w p B cap l) (hf : headAt i < l.length) :
    Calls Try.prog 103 #[.pointer (some ⟨p, 0, none⟩), .int .i64 i, .slice none 0 0] w fun e W' => e = .returned (.tuple #[]) ∧ Tb base W' p B cap (linkL l (headAt i) []) ∧ Fr p B w W' := by
  go_enter Try.func103, Try.ntmps103
  go_wp2_with (go_at_call 89; refine (headAt_any i w (by omega) (by omega)).mono ?_; rintro e w1 ⟨rfl, rfl⟩; rw [Int.toNat_natCast])
  have hp := hT.head
  have hcf := hT.cell (headAt i) hf
  have hfz := hT.frz (headAt i)
  refine wp_loop_rounds 1 ?_
  rw [rounds_succ]
  go_wp2
  go_end0
  exact ⟨rfl, hT.set _ _, (Fr.refl p B w1).setCell (.inr (.inl rfl)) _⟩

/-- link, of a slice that is nil or another's row -/
theorem link_any (base : Nat) (w : World) (p B cap : Nat) (l : List Int) (i : Nat) (hi : i ≤ 1000000) (rs : List Nat) (b2 : Nat) (v : Value) (hT : Tb base w p B cap l) (hl : l.length ≤ 100000000)
    (hf : headAt i < l.length) (hrs : ∀ r ∈ rs, recAt r + 2 < l.length ∧ r ≤ 1000000) (hlen : rs.length ≤ 1000000) (hv : w.ownsRow b2 3 1 v rs.length (rs.map encN)) (h1 : some p ≠ v.ownBlock) (h2 : some B ≠ v.ownBlock) :
    Calls Try.prog 103 #[.pointer (some ⟨p, 0, none⟩), .int .i64 i, v] w fun e W' => e = .returned (.tuple #[]) ∧ Tb base W' p B cap (linkL l (headAt i) rs) ∧ Fr p B w W' := by
  have hcs := fun g hg => hv.cells (g := g) hg
  rcases hv.2 with ⟨rfl, h0⟩ | ⟨g, c, cur, rfl, hb, hg, hnc, hcm, hcs', htk⟩
  · obtain rfl : rs = [] := List.length_eq_zero_iff.1 h0
    exact link_none base w p B cap l i hi hT hf
  · refine link_some base w p B cap l i hi rs g c hT hl hf hrs hlen (fun e => h1 (by rw [e]; rfl)) (fun e => h2 (by rw [e]; rfl)) (lt_heap hg) (fun k hk => ?_)
    have := hcs g rfl k (encN (natAt rs k)) (by rw [List.getElem?_map]; simp [natAt, hk])
    have e : (⟨g, 0, none⟩ : Addr).add k = ⟨g, k, none⟩ := by unfold Addr.add; split <;> simp_all
    rwa [e] at this
end Go.Proofs.Ytdcomhdadnhpnaa
