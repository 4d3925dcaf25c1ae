/- (t) checkRest: what is not used is 0. -/
import Derived.Test.YtdcomhdadnhpnaaT10
namespace Go.Proofs.Ytdcomhdadnhpnaa
open Go.RowKit

/-- a check's end -/
def Chk (P : Prop) (e : Ending) : Prop := (P ∧ e = .returned (.tuple #[])) ∨ (¬ P ∧ e = wrongEnd)

def RestH (l : List Int) (b S : Nat) : Prop := ∀ i, b ≤ i → i < S * 8 → ati l (headAt i) = 0
def restR (l : List Int) (r : Nat) : Prop := ati l (recAt r) = 0 ∧ ati l (recAt r + 1) = 0 ∧ ati l (recAt r + 2) = 0
def RestR (l : List Int) (n S : Nat) : Prop := ∀ r, n ≤ r → r < S * 16 → restR l r

theorem headAt_lt {i S : Nat} (h : i < S * 8) : headAt i < 4 + 56 * S := by unfold headAt; omega
theorem recAt_lt {r S : Nat} (h : r < S * 16) : recAt r + 2 < 4 + 56 * S := by unfold recAt; omega

set_option maxRecDepth 100000 in
set_option maxHeartbeats 2000000 in
theorem checkRest_any (p b off cap : Nat) (l : List Int) (n bk S : Nat) (w : World) (hT : TblR w p b off cap l) (hl : l.length = 4 + 56 * S) (hS : S ≤ 50000) (hn : n ≤ 1000000) (hbk : bk ≤ 1000000) :
    Calls Try.prog 112 #[.pointer (some ⟨p, 0, none⟩), .int .i64 n, .int .i64 bk] w fun e W' => Chk (RestH l bk S ∧ RestR l n S) e ∧ Below w.heap.size w W' := by
  have hp := hT.head
  have hdiv : ((l.length : Int) - 4) / 56 = (S : Int) := by omega
  have hl2 : l.length ≤ 3000000 := by omega
  have hl3 : 60 ≤ l.length ∨ S = 0 := by omega
  have HL := Lib.hid hl
  clear hl
  go_enter Try.func112, Try.ntmps112
  go_wp2
  rw [hdiv]
  clear hdiv hp
  go_loopw [7] (fun i wr => ∃ k : Nat, bk ≤ k ∧ k ≤ 1000000 ∧ i = .int .i64 (k : Nat) ∧ Hid (∀ j, bk ≤ j → j < k → ati l (headAt j) = 0) ∧ Below w.heap.size w wr) (fun i _ => S * 8 - (intOf i).toNat)
  case atStart => exact ⟨bk, Nat.le_refl _, hbk, rfl, fun j h1 h2 => by omega, Below.refl _ _⟩
  case round =>
    obtain ⟨k, hk0, hk1, rfl, hx, hb⟩ := hrel
    have hTr := hT.below hb
    by_cases hlt : k < S * 8
    · have hlt' : (k : Int) < (S : Int) * 8 := by omega
      have hhd : headAt k < l.length := by have := HL.out; have := headAt_lt hlt; omega
      have hpr := hTr.head
      have hc := hTr.cells (headAt k) (by omega)
      have bp := lt_cell hpr
      have bb := hTr.lt
      have i1 : ((headAt k : Nat) : Int) < (l.length : Int) := by omega
      go_wp2
      refine region_still_tail 9 (by kernel_rfl) (by kernel_rfl) (fun w7 hw7 => ?_)
      have hT7 : TblR w7 p b off cap l := by rw [hw7]; exact hTr.drew
      have hb7 : Below w.heap.size w w7 := by rw [hw7]; exact hb.drew
      have hp7 := hT7.head
      have hc7 := hT7.cells (headAt k) (by omega)
      clear hw7 hpr hc
      simp only [List.take_succ_cons, List.take_zero, List.drop_succ_cons, List.drop_zero]
      repeat still_step
      still_call (by simpa using headAt_any (k : Int) w7 (by omega) (by omega))
      repeat still_step
      refine wpStill_nil ?_
      by_cases hz : ati l (headAt k) = 0
      · go_wp2_with (go_at_call 109; refine (need_yes (by simp) _).mono ?_; rintro e w8 ⟨rfl, rfl⟩)
        go_roundw
        case rel =>
          refine ⟨k + 1, by omega, by omega, by go_num, ?_, hb7⟩
          intro j h1 h2
          by_cases hj : j = k
          · subst hj; exact hz
          · exact hx.out j h1 (by omega)
        case measure => simp [intOf]; omega
      · go_wp2_with (go_at_call 109; refine (need_no (by simpa using hz) _).mono ?_; rintro e w8 ⟨rfl, rfl⟩)
        refine ⟨rfl, ?_⟩
        exact ⟨.inr ⟨fun h => hz (h.1 k hk0 hlt), rfl⟩, hb7⟩
    · have HH := Lib.hid (show RestH l bk S from fun j h1 h2 => hx.out j h1 (by omega))
      clear hx
      go_wp2
      go_loopw [8, 9] (fun i _ wr => ∃ k : Nat, n ≤ k ∧ k ≤ 1000000 ∧ i = .int .i64 (k : Nat) ∧ Hid (∀ j, n ≤ j → j < k → restR l j) ∧ Below w.heap.size w wr) (fun i _ _ => S * 16 - (intOf i).toNat)
      case atStart => exact ⟨n, Nat.le_refl _, hn, rfl, fun j h1 h2 => by omega, hb⟩
      case round =>
        clear hb hTr hlt hk0 hk1
        obtain ⟨k, hk0, hk1, rfl, hx, hb⟩ := hrel
        have hTr := hT.below hb
        by_cases hlt : k < S * 16
        · have hlt' : (k : Int) < (S : Int) * 16 := by omega
          have hhd : recAt k + 2 < l.length := by have := HL.out; have := recAt_lt hlt; omega
          have hpr := hTr.head
          have hc0 := hTr.cells (recAt k) (by omega)
          have hc1 := hTr.cells (recAt k + 1) (by omega)
          have hc2 := hTr.cells (recAt k + 2) (by omega)
          have bp := lt_cell hpr
          have bb := hTr.lt
          have hrle : recAt k ≤ 100000000 := by omega
          have i0 : ((recAt k : Nat) : Int) < (l.length : Int) := by omega
          have i1 : ((recAt k : Nat) : Int) + 1 < (l.length : Int) := by omega
          have i2 : ((recAt k : Nat) : Int) + 2 < (l.length : Int) := by omega
          by_cases hz0 : ati l (recAt k) = 0
          · by_cases hz1 : ati l (recAt k + 1) = 0
            · by_cases hz2 : ati l (recAt k + 2) = 0
              · go_wp2_with (first | (go_at_call 87; refine (recordAt_any _ _ (by omega) (by omega)).mono ?_; rintro e w8 ⟨rfl, rfl⟩; rw [Int.toNat_natCast]) | (go_at_call 109; refine (need_yes (by simp) _).mono ?_; rintro e w8 ⟨rfl, rfl⟩))
                go_roundw
                case rel =>
                  refine ⟨k + 1, by omega, by omega, by go_num, ?_, hb⟩
                  intro j h1 h2
                  by_cases hj : j = k
                  · subst hj; exact ⟨hz0, hz1, hz2⟩
                  · exact hx.out j h1 (by omega)
                case measure => simp [intOf]; omega
              · go_wp2_with (first | (go_at_call 87; refine (recordAt_any _ _ (by omega) (by omega)).mono ?_; rintro e w8 ⟨rfl, rfl⟩; rw [Int.toNat_natCast]) | (go_at_call 109; refine (need_no (by simpa using hz2) _).mono ?_; rintro e w8 ⟨rfl, rfl⟩))
                refine ⟨rfl, ?_⟩
                exact ⟨.inr ⟨fun h => hz2 (h.2 k hk0 hlt).2.2, rfl⟩, hb⟩
            · go_wp2_with (first | (go_at_call 87; refine (recordAt_any _ _ (by omega) (by omega)).mono ?_; rintro e w8 ⟨rfl, rfl⟩; rw [Int.toNat_natCast]) | (go_at_call 109; refine (need_no (by simp) _).mono ?_; rintro e w8 ⟨rfl, rfl⟩))
              refine ⟨rfl, ?_⟩
              exact ⟨.inr ⟨fun h => hz1 (h.2 k hk0 hlt).2.1, rfl⟩, hb⟩
          · go_wp2_with (first | (go_at_call 87; refine (recordAt_any _ _ (by omega) (by omega)).mono ?_; rintro e w8 ⟨rfl, rfl⟩; rw [Int.toNat_natCast]) | (go_at_call 109; refine (need_no (by simp) _).mono ?_; rintro e w8 ⟨rfl, rfl⟩))
            refine ⟨rfl, ?_⟩
            exact ⟨.inr ⟨fun h => hz0 (h.2 k hk0 hlt).1, rfl⟩, hb⟩
        · go_wp2
          go_end0
          exact ⟨.inl ⟨⟨HH.out, fun j h1 h2 => hx.out j h1 (by omega)⟩, rfl⟩, hb⟩
end Go.Proofs.Ytdcomhdadnhpnaa
