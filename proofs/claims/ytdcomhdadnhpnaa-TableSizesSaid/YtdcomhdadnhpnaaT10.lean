/- need, and what a check's end is: the deferred closure of valid. -/
import Derived.Test.YtdcomhdadnhpnaaT4
import Derived.WalkLawsBesides
namespace Go.Proofs.Ytdcomhdadnhpnaa
open Go.RowKit

/-- what ends a check -/
def wrongEnd : Ending := .panicked [{ v := .iface 131 (.agg #[]), recovered := false }]
def needEnd (b : Bool) : Ending := if b then .returned (.tuple #[]) else wrongEnd

theorem need_any (b : Bool) (w : World) :
    Calls Try.prog 109 #[.bool b] w fun e w' => e = needEnd b ∧ w' = w := by
  cases b
  · go_enter Try.func109, Try.ntmps109
    go_wp2
    refine ⟨rfl, ?_⟩
    exact ⟨rfl, rfl⟩
  · go_enter Try.func109, Try.ntmps109
    go_wp2
    go_end0
    exact ⟨rfl, rfl⟩

theorem hta_wrong (w : World) : (Instr.typeAssert (.iface 131 (.agg #[])) 20 131 true).run Try.prog w = .ok (.tuple #[.agg #[], .bool true]) w := by kernel_rfl
theorem need_yes {b : Bool} (h : b = true) (w : World) :
    Calls Try.prog 109 #[.bool b] w fun e w' => e = .returned (.tuple #[]) ∧ w' = w := by subst h; exact need_any true w
theorem need_no {b : Bool} (h : b = false) (w : World) :
    Calls Try.prog 109 #[.bool b] w fun e w' => e = .panicked [{ v := .iface 131 (.agg #[]), recovered := false }] ∧ w' = w := by subst h; exact need_any false w
theorem catch_idle (p : Addr) (w : World) :
    CallsD Try.prog 108 #[.pointer (some p)] .returning w fun e u' w' => e = .returned (.tuple #[]) ∧ u' = .returning ∧ w' = w := by
  refine callsD_of_wpS Try.func108 rfl fun c₀ cs hu => ?_
  apply wpS_seq
  apply wpS_region
  simp [wpOpsS, go_sem, recoverD, hu, Try.ntmps108, Exit.thenS]
  refine wpS_of_wp ?_
  simp only [Array.replicate_succ, Array.replicate_zero, List.push_toArray, List.nil_append, List.cons_append]
  go_wp2
  cases c₀
  simp_all [bodyPostS, results, Try.results108]
set_option maxRecDepth 100000 in
theorem catch_panicking (p : Nat) (b : Bool) (older : List PanicEntry) (w : World) (hb : Boxed w p 4 (.bool b)) :
    CallsD Try.prog 108 #[.pointer (some ⟨p, 0, none⟩)] (.panicking ({ v := .iface 131 (.agg #[]), recovered := false } :: older)) w fun e u' w' =>
      e = .returned (.tuple #[]) ∧ u' = .panicking ({ v := .iface 131 (.agg #[]), recovered := true } :: older) ∧ w' = (w.alloc (.cells #[] 131)).setCell ⟨p, 0, none⟩ (.bool false) := by
  have hta := hta_wrong
  have hc := (hb.alloc (.cells #[] 131)).cell
  have hz := (hb.alloc (.cells #[] 131)).frozen
  refine callsD_of_wpS Try.func108 rfl fun c₀ cs hu => ?_
  apply wpS_seq
  apply wpS_region
  simp [wpOpsS, go_sem, recoverD, hu, Try.ntmps108, Exit.thenS]
  refine wpS_of_wp ?_
  simp only [Array.replicate_succ, Array.replicate_zero, List.push_toArray, List.nil_append, List.cons_append]
  go_wp2
  simp [bodyPostS, results, Try.results108]
end Go.Proofs.Ytdcomhdadnhpnaa
