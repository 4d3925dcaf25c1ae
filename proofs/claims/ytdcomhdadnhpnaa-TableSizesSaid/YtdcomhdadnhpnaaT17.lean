/- (t) valid: the first words are right -/
import Derived.Test.YtdcomhdadnhpnaaT15
import Derived.Defers
namespace Go.Proofs.Ytdcomhdadnhpnaa
open Go.RowKit

set_option maxRecDepth 100000 in
set_option maxHeartbeats 8000000 in
theorem valid_head_yes (A : Option Addr) (c : Nat) (l : List Int) (w : World) (hR : RdL w A l) (n : Nat) (hH : HeadOk l n) :
    Calls Try.prog 97 #[.slice A l.length c] w fun e W' => (∃ b : Bool, e = .returned (.bool b) ∧ (b = true ↔ ValidL l)) ∧ Below w.heap.size w W' := by
  have hmf : ∀ (fn : Fn) (first cap : Array Value) (w : World), (Instr.makeFunc fn first cap).run Try.prog w = .ok (.func fn first cap) w := fun _ _ _ _ => rfl
  obtain ⟨hn, hnn, hlen, e1, e2, e3⟩ := hH
  have hl60 := wlen_ge n
  obtain ⟨b, off, rfl, hbw, hcs⟩ := hR.at_ (by omega)
  have hb1 : Below w.heap.size w (w.alloc (.cells #[.bool false] 4)) := (Below.refl _ _).alloc (Nat.le_refl _) _
  have hbx : Boxed (w.alloc (.cells #[.bool false] 4)) w.heap.size 4 (.bool false) := Boxed.new _ _ _
  have hcs1 : ∀ i, i < l.length → (w.alloc (.cells #[.bool false] 4)).cell? ⟨b, off + i, none⟩ = some (.int .i64 (ati l i)) := fun i hi => (hb1.cell (p := ⟨b, off + i, none⟩) hbw).trans (hcs i hi)
  have hs1 : (w.alloc (.cells #[.bool false] 4)).heap.size = w.heap.size + 1 := World.size_alloc _ _
  have h4' : (4 : Int) ≤ (l.length : Int) := by omega
  have hfin : ∀ W : World, Below w.heap.size w W → Below w.heap.size w ((W.alloc (.cells #[] 131)).setCell ⟨w.heap.size, 0, none⟩ (.bool false)) := fun W h => (h.alloc h.size _).setCell (Nat.le_refl _) _
  have hbe : ((l.length : Int) == ((wlen n : Nat) : Int)) = true := by rw [hlen]; exact beq_self_eq_true _
  have HLEN := Lib.hid hlen
  have hnt : (ati l 0).toNat = n := by omega
  have hll : l.length ≤ 3000000 := by rw [hlen]; unfold wlen; omega
  have i1 : (1 : Int) < (l.length : Int) := by omega
  have i2 : (2 : Int) < (l.length : Int) := by omega
  have i3 : (3 : Int) < (l.length : Int) := by omega
  have hb0 := bkts_pos n
  have hb1' := bkts_le n (by omega)
  clear hlen
  go_enter_defers Try.func97, Try.ntmps97
  go_wp2_with fail
  generalize w.alloc (.cells #[.bool false] 4) = w1 at hb1 hbx hcs1 hs1 ⊢
  generalize hp0 : w.heap.size = p0 at hb1 hbx hs1 hfin ⊢
  have c0 := hcs1 0 (by omega)
  have c1 := hcs1 1 (by omega)
  have c2 := hcs1 2 (by omega)
  have c3 := hcs1 3 (by omega)
  rw [Nat.add_zero] at c0
  rw [hn] at c0
  rw [e1] at c1
  rw [e2] at c2
  rw [e3] at c3
  clear hcs hR
  have hno : ¬ ValidL l → ∀ W : World, Boxed W p0 4 (.bool false) → Below p0 w W → ∀ (tmps : Array Value), tmps.getD 2 undef = .pointer (some ⟨p0, 0, none⟩) →
      bodyPostD Try.prog Try.f97 (fun e W' => (∃ b : Bool, e = .returned (.bool b) ∧ (b = true ↔ ValidL l)) ∧ Below w.heap.size w W') (Exit.panic [{ v := .iface 131 (.agg #[]), recovered := false }]) { tmps := tmps, defers := [{ target := .fn (.func 108) #[.pointer (some ⟨p0, 0, none⟩)], args := #[] }] } W :=
    fun hV W hbW hbe tmps ht => valid_fail ht hbW ⟨⟨false, rfl, by simp [hV]⟩, by rw [hp0]; exact hfin W hbe⟩
  refine (need_yes (by simp <;> omega) _).mono ?_
  rintro e w8 ⟨rfl, rfl⟩
  go_wp2_with (first | (go_at_call 64; refine (length_any _ _ (by omega) (by omega)).mono ?_; rintro e w8 ⟨rfl, rfl⟩; rw [Int.toNat_natCast]) | (go_at_call 63; refine (buckets_any _ _ (by omega) (by omega)).mono ?_; rintro e w8 ⟨rfl, rfl⟩; rw [Int.toNat_natCast]) | (go_at_call 109; refine (need_yes (by simp <;> omega) _).mono ?_; rintro e w8 ⟨rfl, rfl⟩))
  clear hbe
  refine region_still_tail 19 (by kernel_rfl) (by kernel_rfl) (fun w7 hw7 => ?_)
  have c1' : w7.cell? { block := b, off := off + 1 } = some (Value.int IntKind.i64 (bkts n)) := by rw [hw7]; exact c1
  have c2' : w7.cell? { block := b, off := off + 2 } = some (Value.int IntKind.i64 (pow2 (bkts n) : Nat)) := by rw [hw7]; exact c2
  have c3' : w7.cell? { block := b, off := off + 3 } = some (Value.int IntKind.i64 0) := by rw [hw7]; exact c3
  have hbx7 : Boxed w7 p0 4 (.bool false) := by rw [hw7]; exact hbx
  have hb17 : Below p0 w w7 := by rw [hw7]; exact hb1.drew
  have hcs7 : ∀ i, i < l.length → w7.cell? ⟨b, off + i, none⟩ = some (.int .i64 (ati l i)) := by rw [hw7]; exact hcs1
  have hs7 : w7.heap.size = p0 + 1 := by rw [hw7]; exact hs1
  clear hw7 c0 c1 c2 c3 hcs1 hs1 hbx hb1
  simp only [List.take_succ_cons, List.take_zero, List.drop_succ_cons, List.drop_zero]
  repeat still_step
  still_call (by simpa using power_any (bkts n : Int) w7 (by omega) (by omega))
  repeat still_step
  refine wpStill_nil ?_
  go_wp2_with (go_at_call 109; refine (need_yes (by simp) _).mono ?_; rintro e w8 ⟨rfl, rfl⟩)
  clear c1' c2' c3'
  have hT9 : TblR (w8.alloc (.cells #[.slice (some ⟨b, off, none⟩) l.length c] 91)) (p0 + 1) b off c l := by
    have hB : Boxed (w8.alloc (.cells #[.slice (some ⟨b, off, none⟩) l.length c] 91)) w8.heap.size 91 (.slice (some ⟨b, off, none⟩) l.length c) := Boxed.new _ _ _
    rw [hs7] at hB
    have hlt : b < w8.heap.size := by rw [hs7]; omega
    exact ⟨hB.cell, fun i hi => (((Below.refl _ w8).alloc (Nat.le_refl _) _).cell (p := ⟨b, off + i, none⟩) hlt).trans (hcs7 i hi), by rw [World.size_alloc]; omega⟩
  have hbx9 : Boxed (w8.alloc (.cells #[.slice (some ⟨b, off, none⟩) l.length c] 91)) p0 4 (.bool false) := hbx7.alloc _
  have hb9 : Below p0 w (w8.alloc (.cells #[.slice (some ⟨b, off, none⟩) l.length c] 91)) := hb17.alloc (by rw [hs7]; omega) _
  have hs9 : (w8.alloc (.cells #[.slice (some ⟨b, off, none⟩) l.length c] 91)).heap.size = p0 + 2 := by rw [World.size_alloc, hs7]
  generalize w8.alloc (.cells #[.slice (some ⟨b, off, none⟩) l.length c] 91) = w9 at hT9 hbx9 hb9 hs9 ⊢
  clear hbx7 hb17 hcs7 hs7
  go_loopw [6, 57] (fun _ kk wr => ∃ k : Nat, k ≤ n ∧ kk = .int .i64 (k : Nat) ∧ Hid (∀ r, r < k → 0 ≤ ati l (recAt r) ∧ ati l (recAt r) ≤ 2147483647) ∧ Below w9.heap.size w9 wr) (fun _ kk _ => n - (intOf kk).toNat)
  case atStart => exact ⟨0, Nat.zero_le _, rfl, fun r h => by omega, Below.refl _ _⟩
  case round =>
    obtain ⟨k, hk, rfl, hx, hbr⟩ := hrel
    have hTr := hT9.below hbr
    have hbxr := boxed_below hbx9 hbr
    have hbr9 : Below p0 w wr := hb9.trans (hbr.mono (by omega))
    have hsr : p0 + 2 ≤ wr.heap.size := by have := hbr.size; omega
    by_cases hlt : k < n
    · have hlt' : (k : Int) < (n : Int) := by omega
      have hrk : recAt k + 2 < l.length := by have := HLEN.out; have := recAt_wlen hlt; omega
      by_cases hr : 0 ≤ ati l (recAt k) ∧ ati l (recAt k) ≤ 2147483647
      · have hd : decide (0 ≤ ati l (recAt k) ∧ ati l (recAt k) ≤ 2147483647) = true := decide_eq_true hr
        have HR := Lib.hid hr
        clear hr
        go_wp2_with (first
          | (go_at_call 73; refine (record_any (p0 + 1) (k : Nat) _ (by omega) (by omega)).mono ?_; rintro e wa ⟨rfl, hba⟩; rw [Int.toNat_natCast]; have hTr := hTr.below hba)
          | (go_at_call 74; refine (hash_any _ (p0 + 1) b off c l hTr (recAt k : Nat) (by omega) (by omega)).mono ?_; rintro e wb ⟨rfl, hbb⟩; rw [Int.toNat_natCast])
          | (go_at_call 65; refine (right_any _ _).mono ?_; rintro e w8 ⟨rfl, rfl⟩; rw [hd])
          | (go_at_call 109; refine (need_yes (by simp) _).mono ?_; rintro e w8 ⟨rfl, rfl⟩))
        go_roundw
        case rel =>
          refine ⟨k + 1, by omega, by go_num, ?_, (hbr.trans (hba.mono hbr.size)).trans (hbb.mono (Nat.le_trans hbr.size hba.size))⟩
          intro r h
          by_cases e : r = k
          · subst e; exact HR.out
          · exact hx.out r (by omega)
        case measure => simp [intOf]; omega
      · have hV : ¬ ValidL l := fun h => hr (by have := h.hash k (by rw [hnt]; exact hlt); exact this)
        have hd : decide (0 ≤ ati l (recAt k) ∧ ati l (recAt k) ≤ 2147483647) = false := decide_eq_false hr
        clear hr
        go_wp2_with (first
          | (go_at_call 73; refine (record_any (p0 + 1) (k : Nat) _ (by omega) (by omega)).mono ?_; rintro e wa ⟨rfl, hba⟩; rw [Int.toNat_natCast]; have hTr := hTr.below hba)
          | (go_at_call 74; refine (hash_any _ (p0 + 1) b off c l hTr (recAt k : Nat) (by omega) (by omega)).mono ?_; rintro e wb ⟨rfl, hbb⟩; rw [Int.toNat_natCast])
          | (go_at_call 65; refine (right_any _ _).mono ?_; rintro e w8 ⟨rfl, rfl⟩; rw [hd])
          | (go_at_call 109; refine (need_no (by simp) _).mono ?_; rintro e w8 ⟨rfl, rfl⟩))
        have hba2 := boxed_below hbxr hba
        refine hno hV _ (boxed_below hba2 hbb) ((hbr9.trans (hba.mono (by omega))).trans (hbb.mono (by have := hba.size; omega))) _ ?_
        rfl
    · have hkk : k = n := by omega
      subst hkk
      have hmk := make_bools k (by omega)
      have HX := hx
      clear hx
      go_wp2
      have hSR : SeenR (wr.alloc (.cells (Array.replicate k (Value.bool false)) 4)) wr.heap.size (List.replicate k false) := by
        have h := World.alloc_heap_new wr (.cells (Array.replicate k (Value.bool false)) 4)
        unfold SeenR
        rw [h]
        congr 2
        apply Array.ext' 
        simp
      have hTs : TblR (wr.alloc (.cells (Array.replicate k (Value.bool false)) 4)) (p0 + 1) b off c l := hTr.alloc _
      have hbxs : Boxed (wr.alloc (.cells (Array.replicate k (Value.bool false)) 4)) p0 4 (.bool false) := hbxr.alloc _
      have hbs : Below p0 w (wr.alloc (.cells (Array.replicate k (Value.bool false)) 4)) := hbr9.alloc (by omega) _
      generalize wr.alloc (.cells (Array.replicate k (Value.bool false)) 4) = ws at hSR hTs hbxs hbs ⊢
      generalize wr.heap.size = Bs at hsr hSR ⊢
      clear hTr hbxr hbr9 hbr hT9 hbx9 hb9 hs9 hmk hlt hk
      have hck0 : ∀ m, m ≤ bkts k → ckAll l k (bkts k) m = none → ¬ ValidL l := fun m hm hc hV => by
        obtain ⟨s, h1, _⟩ := hV.chains
        rw [hnt] at h1
        rw [ckAll_none hc _ hm] at h1
        cases h1
      go_loopw [8, 70] (fun _ kk wr => ∃ (m : Nat) (s : List Bool), m ≤ bkts k ∧ kk = .int .i64 (m : Nat) ∧ Hid (ckAll l k (bkts k) m = some s) ∧ SeenR wr Bs s ∧ Below Bs ws wr) (fun _ kk _ => bkts k - (intOf kk).toNat)
      case atStart => exact ⟨0, _, Nat.zero_le _, rfl, rfl, hSR, Below.refl _ _⟩
      case round =>
        clear hSR
        obtain ⟨m, s, hm, rfl, hck, hSm, hbm⟩ := hrel
        have hTm := hTs.belowN hbm (by omega) (by omega)
        have hbxm : Boxed wr p0 4 (.bool false) := (hbm.block p0 (by omega)).trans hbxs
        have hbwm : Below p0 w wr := hbs.trans (hbm.mono (by omega))
        have hsl := ckAll_len hck.out
        by_cases hlt : m < bkts k
        · have hlt' : (m : Int) < ((bkts k : Nat) : Int) := by omega
          go_wp2_with fail
          have hcall := checkChain_any (p0 + 1) b off c l m (bkts k) Bs s wr hTm (by omega) (by omega) hSm hll (by omega) (by have := HLEN.out; have := headAt_wlen hlt; omega) (by omega) (by omega) (by omega)
            (fun r hr => ⟨by have := HLEN.out; have := recAt_wlen (n := k) (r := r) (by omega); omega, HX.out r (by omega)⟩)
          rw [hsl] at hcall
          refine hcall.mono ?_
          rintro e w10 ⟨⟨s', hc', rfl, hS'⟩ | ⟨hc', rfl⟩, hb10⟩
          · go_wp2_with fail
            go_roundw
            case rel => exact ⟨m + 1, s', by omega, by go_num, by show _ = _; rw [ckAll, hck.out]; exact hc', hS', hbm.trans hb10⟩
            case measure => simp [intOf]; omega
          · dsimp only [wrongEnd]
            have hV := hck0 (m + 1) (by omega) (by rw [ckAll, hck.out]; exact hc')
            refine hno hV _ ((hb10.block p0 (by omega)).trans hbxm) (hbwm.trans (hb10.mono (by omega))) _ ?_
            rfl
        · obtain rfl : m = bkts k := by omega
          go_wp2_with (go_at_call 111; rw [← hsl]; refine (contains_any Bs s _ hSm (by omega)).mono ?_; rintro e w8 ⟨rfl, rfl⟩)
          by_cases hf : false ∈ s
          · refine (need_no (by simp [hf]) _).mono ?_
            rintro e w10 ⟨rfl, rfl⟩
            refine hno (fun hV => ?_) _ hbxm hbwm _ ?_
            · obtain ⟨s', h1, h2⟩ := hV.chains
              rw [hnt, hck.out] at h1
              cases h1
              exact h2 hf
            · rfl
          · refine (need_yes (by simp [hf]) _).mono ?_
            rintro e w10 ⟨rfl, rfl⟩
            go_wp2_with fail
            refine (checkRest_any (p0 + 1) b off c l k (bkts k) ((l.length - 4) / 56) _ hTm (by have := HLEN.out; unfold wlen at this; omega) (by have := HLEN.out; unfold wlen at this; omega) (by omega) (by omega)).mono ?_
            rintro e w11 ⟨⟨⟨hP1, hP2⟩, rfl⟩ | ⟨hP, rfl⟩, hb11⟩
            · have hbx11 := boxed_below hbxm hb11
              have hb11' : Below p0 w w11 := hbwm.trans (hb11.mono (by have := hbm.size; have := lt_heap hSm; omega))
              have cx := hbx11.cell
              have fx := hbx11.frozen
              have hV : ValidL l := ⟨by omega, by omega, by omega, by rw [hnt]; exact HLEN.out, by rw [hnt]; exact e1, by rw [hnt]; exact e2, e3, by rw [hnt]; exact HX.out, by rw [hnt]; exact ⟨s, hck.out, hf⟩, by rw [hnt]; exact hP1, by rw [hnt]; exact hP2⟩
              go_wp2_with fail
              have cz := (hbx11.set (.bool true)).cell
              refine leaves_cons (f := 108) (args := #[.pointer (some ⟨p0, 0, none⟩)]) (by simp) (by simp [go_sem]) ?_
              refine (catch_idle ⟨p0, 0, none⟩ _).mono ?_
              rintro e u' w'' ⟨rfl, rfl, rfl⟩
              simp [Leaves, settle, results, Try.results97, go_sem, cz]
              exact ⟨hV, by rw [hp0]; exact hb11'.setCell (Nat.le_refl _) _⟩
            · dsimp only [wrongEnd]
              refine hno (fun hV => hP ?_) _ (boxed_below hbxm hb11) (hbwm.trans (hb11.mono (by have := lt_heap hSm; omega))) _ ?_
              · have h1 := hV.resth
                have h2 := hV.restr
                rw [hnt] at h1 h2
                exact ⟨h1, h2⟩
              · rfl
end Go.Proofs.Ytdcomhdadnhpnaa
