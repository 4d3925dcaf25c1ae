/- (t) slices.Clone, opened, fresh. -/
import Derived.Test.YtdcomhdadnhpnaaT15
namespace Go.Proofs.Ytdcomhdadnhpnaa
open Go.RowKit Go.Shelf
open Go.Proofs.YtdcomhdadnhpnaaW.PrintWords (ReadsOf encs print_append_row_of own_reads_of Kd)

def encI (x : Int) : Value := .int .i64 x
theorem RdL.reads {w : World} {A : Option Addr} {l : List Int} (h : RdL w A l) (hl : l.length ≤ 100000000) : ReadsOf encI 0 w A l.length l :=
  ⟨rfl, by omega, fun h0 => by
    obtain ⟨b, off, rfl, _, hc⟩ := h.at_ h0
    exact ⟨_, rfl, fun j hj => by
      have : (⟨b, off, none⟩ : Addr).add j = ⟨b, off + j, none⟩ := by unfold Addr.add; split <;> simp_all
      rw [this]; exact hc j hj⟩⟩
set_option maxRecDepth 100000 in
theorem clone_any (A : Option Addr) (c : Nat) (l : List Int) (w : World) (hR : RdL w A l) (h0 : 0 < l.length) (hl : l.length ≤ 100000000) :
    Calls Try.prog 100 #[.slice A l.length c] w fun e W' => (∃ B cap, e = .returned (.slice (some ⟨B, 0, none⟩) l.length cap) ∧ Rw w.heap.size W' B cap l) ∧ Below w.heap.size w W' := by
  obtain ⟨b, off, rfl, hb, hc⟩ := hR.at_ h0
  have hnil : ∀ w : World, (binOp .eql 31 (.slice (some ⟨b, off, none⟩) l.length c) (.slice none 0 0)).run Try.prog w = .ok (.bool false) w := fun _ => by kernel_rfl
  have hbs : ∀ w : World, (Instr.buildSlice 31 0 #[]).run Try.prog w = .ok (.slice (some ⟨w.heap.size, 0, none⟩) 0 0) (w.alloc (.cells #[] 3)) := fun _ => by kernel_rfl
  have hO : (w.alloc (.cells #[] 3)).ownsRow w.heap.size 3 1 (.slice (some ⟨w.heap.size, 0, none⟩) 0 0) ([] : List Int).length (encs encI []) :=
    ⟨by simp [encs], .inr ⟨w.heap.size, 0, #[], rfl, Nat.le_refl _, World.alloc_heap_new _ _, Nat.le_refl _, by unfold maxLen; omega, by simp, by simp [encs]⟩⟩
  have hB0 : Below w.heap.size w (w.alloc (.cells #[] 3)) := (Below.refl _ _).alloc (Nat.le_refl _) _
  have hRe := (hR.below hB0).reads hl
  go_enter Try.func100, Try.ntmps100
  go_wp2_with (at_builtin; refine print_append_row_of (w0 := w.alloc (.cells #[] 3)) encI 0 w.heap.size rfl _ _ 31 3 (.int .i64 0) 8 rfl Try.underlying31 info3 rfl (by decide) (fun _ => rfl) _ [] l (some ⟨b, off, none⟩) _ c rfl rfl hO hRe (Below.refl _ _) (by simp) (by simp; omega) ?_; intro v1 w1 ho1 hb1 hg1 hat1)
  rw [List.nil_append] at ho1
  obtain ⟨B, cap, rfl, hrw⟩ := rw_of_own (l := l) ho1 (by intro e; rw [e] at h0; cases h0)
  go_ret
  exact ⟨⟨B, cap, rfl, hrw⟩, hB0.trans hb1⟩
end Go.Proofs.Ytdcomhdadnhpnaa
