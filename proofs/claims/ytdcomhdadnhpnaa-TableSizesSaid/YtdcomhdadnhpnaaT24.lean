/- (t) same, of two lists of numbers. -/
import Derived.Test.YtdcomhdadnhpnaaT23
import Derived.Test.YtdcomhdadnhpnaaP9
set_option linter.unusedSimpArgs false
set_option linter.unusedVariables false
namespace Go.Proofs.Ytdcomhdadnhpnaa
open Go.RowKit Go.Shelf
open Go.Proofs.YtdcomhdadnhpnaaW.PrintWords (own_reads_of ReadsOf encs)
attribute [local irreducible] wpStill

theorem RdL.cell {w : World} {A : Option Addr} {l : List Int} (h : RdL w A l) {b off : Nat} (hA : A = some ⟨b, off, none⟩) {i : Nat} (hi : i < l.length) : w.cell? ⟨b, off + i, none⟩ = some (.int .i64 (ati l i)) := by
  obtain ⟨b', off', e, _, hc⟩ := h.at_ (by omega)
  rw [hA] at e
  injection e with e; injection e with e1 e2
  subst e1; subst e2
  exact hc i hi
theorem RdL.drew {w : World} {A : Option Addr} {l : List Int} (h : RdL w A l) : RdL w.drew A l := ⟨h.at_⟩
theorem rdL_own {w : World} {base : Nat} {v : Value} {l : List Int} (h : w.ownsRow base 3 1 v l.length (l.map (Value.int .i64))) : ∃ A c, v = .slice A l.length c ∧ RdL w A l := by
  have hcs := fun g hg => h.cells (g := g) hg
  rcases h.2 with ⟨rfl, h0⟩ | ⟨g, c, cur, rfl, hb, hg, r⟩
  · exact ⟨none, 0, by rw [h0], ⟨fun h1 => absurd h1 (by omega)⟩⟩
  · refine ⟨_, c, rfl, ⟨fun _ => ⟨g, 0, rfl, lt_heap hg, fun i hi => ?_⟩⟩⟩
    have := hcs g rfl i (.int .i64 (ati l i)) (by rw [List.getElem?_map]; unfold ati; simp [hi])
    rw [addr_add] at this
    exact this
theorem Rw.rd {base : Nat} {w : World} {B cap : Nat} {l : List Int} (h : Rw base w B cap l) : RdL w (some ⟨B, 0, none⟩) l := by
  obtain ⟨A, c, e, hr⟩ := rdL_own h.own
  injection e with e1 e2 e3
  rw [e1]; exact hr

set_option maxRecDepth 100000 in
set_option maxHeartbeats 2000000 in
theorem same_any (A B : Option Addr) (c d : Nat) (l m : List Int) (w : World) (hA : RdL w A l) (hBm : RdL w B m) (hl : l.length ≤ 1000000000) (hm : m.length ≤ 1000000000) :
    Calls Try.prog 36 #[.slice A l.length c, .slice B m.length d] w fun e W' => e = .returned (.bool (decide (l = m))) ∧ Below w.heap.size w W' := by
  by_cases hlen : l.length = m.length
  · have hne : ((l.length : Int) != (m.length : Int)) = false := by rw [hlen]; simp
    have HLEN := Lib.hid hlen
    clear hlen
    go_enter Try.func36, Try.ntmps36
    go_wp2
    go_loopw [5] (fun k wr => ∃ kk : Nat, k = .int .i64 (kk : Nat) ∧ kk ≤ l.length ∧ Hid (∀ i, i < kk → ati l i = ati m i) ∧ Below w.heap.size w wr) (fun k _ => l.length - (intOf k).toNat)
    case atStart => exact ⟨0, rfl, Nat.zero_le _, fun i hi => absurd hi (by omega), Below.refl _ _⟩
    case round =>
      obtain ⟨k, rfl, hk, HE, hB⟩ := hrel
      by_cases hlt : k < l.length
      · have i1 : (k : Int) < (l.length : Int) := by omega
        have i2 : (k : Int) < (m.length : Int) := by have := HLEN.out; omega
        obtain ⟨b, off, rfl, _, hc⟩ := hA.at_ (by omega)
        obtain ⟨b', off', rfl, _, hc'⟩ := hBm.at_ (by have := HLEN.out; omega)
        have c1 := cell_below hB (hc k hlt)
        have c2 := cell_below hB (hc' k (by have := HLEN.out; omega))
        clear hc hc'
        by_cases he : ati l k = ati m k
        · have he' : (ati l k != ati m k) = false := by rw [he]; simp
          have HEQ := Lib.hid he
          clear he
          go_wp2
          refine region_still (by kernel_rfl) (by kernel_rfl) (fun w7 hw7 => ?_)
          have d1 := (show wr.drew.cell? ⟨b, off + k, none⟩ = _ from c1)
          have d2 := (show wr.drew.cell? ⟨b', off' + k, none⟩ = _ from c2)
          have hB7 := hB.drew
          rw [← hw7] at d1 d2 hB7
          clear hw7 c1 c2 hB
          repeat still_step
          refine wpStill_nil ?_
          have e1 : IntKind.i64.wrap ((k : Int) + 1) = (k : Int) + 1 := IntWalk.i64_in _ (by omega)
          go_wp2
          go_roundw
          case rel =>
            refine ⟨k + 1, by go_num, by omega, fun i hi => ?_, hB7⟩
            by_cases e : i = k
            · rw [e]; exact HEQ.out
            · exact HE.out i (by omega)
          case measure => simp [intOf]; omega
        · have he' : (ati l k != ati m k) = true := by simpa using he
          have HEQ := Lib.hid he
          clear he
          go_wp2
          refine region_still (by kernel_rfl) (by kernel_rfl) (fun w7 hw7 => ?_)
          have d1 := (show wr.drew.cell? ⟨b, off + k, none⟩ = _ from c1)
          have d2 := (show wr.drew.cell? ⟨b', off' + k, none⟩ = _ from c2)
          have hB7 := hB.drew
          rw [← hw7] at d1 d2 hB7
          clear hw7 c1 c2 hB
          repeat still_step
          refine wpStill_nil ?_
          go_wp2
          go_ret
          exact ⟨by rw [decide_eq_false (fun e => HEQ.out (by rw [e]))]; rfl, hB7⟩
      · have hk' : k = l.length := by omega
        subst hk'
        go_wp2
        go_ret
        exact ⟨by rw [decide_eq_true (ext_ati HLEN.out (fun q hq => HE.out q hq))]; rfl, hB⟩
  · have hne : ((l.length : Int) != (m.length : Int)) = true := by simpa using (show ¬ (l.length : Int) = m.length by omega)
    have hlm : decide (l = m) = false := decide_eq_false (fun e => hlen (by rw [e]))
    have HLEN := Lib.hid hlen
    clear hlen
    go_enter Try.func36, Try.ntmps36
    go_wp2
    go_ret
    exact ⟨by rw [hlm]; rfl, Below.refl _ _⟩
end Go.Proofs.Ytdcomhdadnhpnaa
