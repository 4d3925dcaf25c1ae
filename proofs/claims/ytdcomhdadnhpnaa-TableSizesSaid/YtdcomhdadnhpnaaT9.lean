/- merged: two ordered lists of records as one. -/
import Derived.Test.YtdcomhdadnhpnaaT8
import Derived.Deep.AppendLies
import Derived.Deep.RegionLaw
namespace Go.Proofs.Ytdcomhdadnhpnaa
open Go.RowKit Go.Shelf
open Go.Proofs.YtdcomhdadnhpnaaW.PrintWords (ReadsOf encs print_append_row_of own_reads_of print_cut_of step_append_cells)

def mergedL (l : List Int) : List Nat → List Nat → List Nat
  | [], ys => ys
  | x :: xs, [] => x :: xs
  | x :: xs, y :: ys => if ati l (recAt y) < ati l (recAt x) then y :: mergedL l (x :: xs) ys else x :: mergedL l xs (y :: ys)
termination_by xs ys => xs.length + ys.length

def sliceLen : Value → Nat | .slice _ n _ => n | _ => 0

theorem step_app_one {ops : Array Oper} {o : Oper} {a : Act} {Q : Exit → Act → World → Prop} {Kc : Act → World → Prop} {W : World} (base : Nat) (hw : Region.wanted o (yielded ops a.tmps) = true) (s x : Operand)
    (ho : o.op = .call { callee := .builtin .append, args := #[s, x], argTypes := #[31, 31] }) (v : Value) (xs : List Nat) (r : Nat) (hs : a.eval s = v) (hx : a.eval x = .slice (some ⟨W.heap.size, 0, none⟩) 1 1)
    (HO : W.ownsRow base 3 1 v xs.length (xs.map encN)) (hb : base ≤ W.heap.size) (hl : xs.length ≤ 1000000000)
    (h : ∀ v1 w1, w1.ownsRow base 3 1 v1 (xs ++ [r]).length ((xs ++ [r]).map encN) → W.grownBy w1 v.ownBlock → (v1.ownBlock = v.ownBlock ∨ ∃ b, v1.ownBlock = some b ∧ W.heap.size ≤ b) → Kc (a.put o.dst v1) w1) :
    if Region.wanted o (yielded ops a.tmps) = true then Oper.wp Try.prog o a (W.alloc (.cells #[.int .i64 r] 3)) Kc Q else Kc (a.put o.dst undef) (W.alloc (.cells #[.int .i64 r] 3)) := by
  refine step_append_cells (w0 := W) (ys := [.int .i64 r]) base hw s x 31 3 (.int .i64 0) 1 8 ho Try.underlying31 info3 rfl (by decide) (by decide) v xs.length (xs.map encN) hs hx rfl (by simp [Value.oneCell']) HO (Below.refl _ _) hb (by omega) ?_
  intro v1 w1 h1 _ hg hat
  exact h v1 w1 (by simpa [encN] using h1) hg hat

theorem mergedL_nil_r (l : List Int) (xs : List Nat) : mergedL l xs [] = xs := by cases xs <;> simp [mergedL]
theorem mergedL_nil {l : List Int} {X Y : List Nat} (h : X = [] ∨ Y = []) : mergedL l X Y = X ++ Y := by
  rcases h with rfl | rfl
  · simp [mergedL]
  · simp [mergedL_nil_r]
theorem mergedL_lt {l : List Int} {x y : Nat} {xs ys : List Nat} (h : ati l (recAt y) < ati l (recAt x)) : mergedL l (x :: xs) (y :: ys) = y :: mergedL l (x :: xs) ys := by rw [mergedL, if_pos h]
theorem mergedL_ge {l : List Int} {x y : Nat} {xs ys : List Nat} (h : ¬ ati l (recAt y) < ati l (recAt x)) : mergedL l (x :: xs) (y :: ys) = x :: mergedL l xs (y :: ys) := by rw [mergedL, if_neg h]

set_option maxRecDepth 100000 in
set_option maxHeartbeats 4000000 in
theorem merged_any (w : World) (p b off cap bt : Nat) (l : List Int) (hT : TblR w p b off cap l) (xs ys : List Nat) (A0 A1 : Option Addr) (c0 c1 : Nat)
    (hx : ReadsOf encN 0 w A0 xs.length xs) (hcx : xs.length ≤ c0) (hy : ReadsOf encN 0 w A1 ys.length ys) (hcy : ys.length ≤ c1) (hlx : xs.length ≤ 1000000) (hly : ys.length ≤ 1000000)
    (hrx : ∀ r ∈ xs, recAt r < l.length ∧ r ≤ 100000) (hry : ∀ r ∈ ys, recAt r < l.length ∧ r ≤ 100000) (ct : w.cell? ⟨bt, 0, none⟩ = some (.pointer (some ⟨p, 0, none⟩))) :
    Calls Try.prog 104 #[.slice A0 xs.length c0, .slice A1 ys.length c1, .func (.func 105) #[] #[.pointer (some ⟨bt, 0, none⟩)]] w fun e W' => ∃ v, e = .returned v ∧ W'.ownsRow w.heap.size 3 1 v (mergedL l xs ys).length ((mergedL l xs ys).map encN) ∧ Below w.heap.size w W' := by
  go_enter Try.func104, Try.ntmps104
  go_wp2
  obtain ⟨nb, hnb⟩ : ∃ nb, nb = w.heap.size := ⟨_, rfl⟩
  go_loopw [0, 1, 7] (fun v0 v1 vo wr => ∃ (X Y O : List Nat) (A B : Option Addr) (c d : Nat), v0 = .slice A X.length c ∧ v1 = .slice B Y.length d ∧ ReadsOf encN 0 w A X.length X ∧ X.length ≤ c ∧ ReadsOf encN 0 w B Y.length Y ∧ Y.length ≤ d ∧
      (∀ r ∈ X, recAt r < l.length ∧ r ≤ 100000) ∧ (∀ r ∈ Y, recAt r < l.length ∧ r ≤ 100000) ∧ X.length ≤ 1000000 ∧ Y.length ≤ 1000000 ∧ O.length + X.length + Y.length ≤ 2000000 ∧
      wr.ownsRow nb 3 1 vo O.length (O.map encN) ∧ Hid (mergedL l xs ys = O ++ mergedL l X Y) ∧ Below nb w wr ∧ nb ≤ wr.heap.size)
    (fun v0 v1 _ _ => sliceLen v0 + sliceLen v1)
  case atStart => exact ⟨xs, ys, [], A0, A1, c0, c1, rfl, rfl, hx, hcx, hy, hcy, hrx, hry, hlx, hly, by simp; omega, World.ownsRow_nil _ _ _ _, rfl, Below.refl _ _, by omega⟩
  case round =>
    obtain ⟨X, Y, O, A, B, c, d, rfl, rfl, hX, hcX, hY, hdY, hrX, hrY, hlX, hlY, hsum, hO, HM, hBr, hzr⟩ := hrel
    have hBr' : Below w.heap.size w wr := by rw [← hnb]; exact hBr
    have hTr := hT.below hBr'
    have ctr := cell_below hBr' ct
    have HNB := Lib.hid hnb
    clear hnb hx hcx hy hcy hrx hry
    have hXr := hX.below hBr'
    have hYr := hY.below hBr'
    by_cases hXY : X = [] ∨ Y = []
    · have hdX : decide (0 < X.length) = false ∨ decide (0 < Y.length) = false := by
        rcases hXY with rfl | rfl
        · left; rfl
        · right; rfl
      by_cases hX0 : 0 < X.length
      · have hY0 : Y.length ≤ 0 := by rcases hXY with rfl | rfl <;> simp at *
        have hXY' := Lib.hid hXY
        clear hdX hXY
        go_wp2_with (first
          | (at_builtin; refine app_row nb rfl _ _ rfl _ O X A c rfl rfl hO hXr hzr (by omega) ?_; intro v1 w6 ho6 hg6 hat6; have hB6 : Below w.heap.size w w6 := hBr'.grown hg6 (by have := hBr'.size; omega) (fun k e => by have := (hO.lt k e).1; have := HNB.out; omega); have hY6 := hY.below hB6; have hz6 := hg6.size)
          | (at_builtin; refine app_row nb rfl _ _ rfl _ (O ++ X) Y B d rfl rfl ho6 hY6 (by omega) (by rw [List.length_append]; omega) ?_; intro v2 w7 ho7 hg7 hat7))
        go_ret
        refine ⟨v2, rfl, ?_, ?_⟩
        · rw [HM.out, mergedL_nil hXY'.out, ← List.append_assoc, ← HNB.out]; exact ho7
        · exact hB6.grown hg7 (by have := hB6.size; omega) (fun k e => by have := (ho6.lt k e).1; have := HNB.out; omega)
      · have hX0' : X.length ≤ 0 := by omega
        have hXY' := Lib.hid hXY
        clear hdX hXY hX0
        go_wp2_with (first
          | (at_builtin; refine app_row nb rfl _ _ rfl _ O X A c rfl rfl hO hXr hzr (by omega) ?_; intro v1 w6 ho6 hg6 hat6; have hB6 : Below w.heap.size w w6 := hBr'.grown hg6 (by have := hBr'.size; omega) (fun k e => by have := (hO.lt k e).1; have := HNB.out; omega); have hY6 := hY.below hB6; have hz6 := hg6.size)
          | (at_builtin; refine app_row nb rfl _ _ rfl _ (O ++ X) Y B d rfl rfl ho6 hY6 (by omega) (by rw [List.length_append]; omega) ?_; intro v2 w7 ho7 hg7 hat7))
        go_ret
        refine ⟨v2, rfl, ?_, ?_⟩
        · rw [HM.out, mergedL_nil hXY'.out, ← List.append_assoc, ← HNB.out]; exact ho7
        · exact hB6.grown hg7 (by have := hB6.size; omega) (fun k e => by have := (ho6.lt k e).1; have := HNB.out; omega)
    · cases X with
      | nil => exact absurd (.inl rfl) hXY
      | cons x X =>
      cases Y with
      | nil => exact absurd (.inr rfl) hXY
      | cons y Y => 
      obtain ⟨ad, rfl, hcA⟩ := hXr.2.2 (by simp)
      obtain ⟨ae, rfl, hcB⟩ := hYr.2.2 (by simp)
      have hx0 : wr.cell? ad = some (.int .i64 (x : Nat)) := hcA 0 (by simp)
      have hy0 : wr.cell? ae = some (.int .i64 (y : Nat)) := hcB 0 (by simp)
      have hrx := hrX x (by simp)
      have hry := hrY y (by simp)
      obtain ⟨i0, hinf, hz0, hz1, hz2⟩ := info_parts info3
      obtain ⟨A', hcutA, hdropA⟩ := print_cut_of (P := Try.prog) encN 0 31 3 .i64 Try.underlying31 hinf hz1 (some ad) (x :: X).length c 1 (by simp)
      obtain ⟨B', hcutB, hdropB⟩ := print_cut_of (P := Try.prog) encN 0 31 3 .i64 Try.underlying31 hinf hz1 (some ae) (y :: Y).length d 1 (by simp)
      have hXd := hdropA w (x :: X) hcX hX
      have hYd := hdropB w (y :: Y) hdY hY
      simp only [List.length_cons, Nat.add_sub_cancel, List.drop_succ_cons, List.drop_zero] at hXd hYd hcutA hcutB
      have hcutA' : ∀ W : World, (Instr.slice 31 (.slice (some ad) (X.length + 1) c) (some (.int .i64 1)) none none).run Try.prog W = .ok (.slice A' X.length (c - 1)) W := hcutA
      have hcutB' : ∀ W : World, (Instr.slice 31 (.slice (some ae) (Y.length + 1) d) (some (.int .i64 1)) none none).run Try.prog W = .ok (.slice B' Y.length (d - 1)) W := hcutB
      clear hcutA hcutB hdropA hdropB hcA hcB hz0 hz1 hz2
      have hlX' : X.length + 1 ≤ 1000000 := hlX
      have hlY' : Y.length + 1 ≤ 1000000 := hlY
      have hcX' : X.length + 1 ≤ c := hcX
      have hdY' : Y.length + 1 ≤ d := hdY
      have hsum' : O.length + (X.length + 1) + (Y.length + 1) ≤ 2000000 := hsum
      clear hlX hlY hcX hdY hsum hXr hYr
      by_cases hlt : ati l (recAt y) < ati l (recAt x)
      · have hdec : decide (ati l (recAt y) < ati l (recAt x)) = true := decide_eq_true hlt
        have HE := Lib.hid (mergedL_lt (xs := X) (ys := Y) hlt)
        clear hlt
        go_wp2
        refine region_still_tail 7 (by kernel_rfl) (by kernel_rfl) (fun w5 hw5 => ?_)
        have hx5 : w5.cell? ad = some (.int .i64 (x : Nat)) := by rw [hw5]; exact hx0
        have hy5 : w5.cell? ae = some (.int .i64 (y : Nat)) := by rw [hw5]; exact hy0
        have hO5 : w5.ownsRow nb 3 1 u7 O.length (O.map encN) := by rw [hw5]; exact hO.drew
        have hT5 : TblR w5 p b off cap l := by rw [hw5]; exact hTr.drew
        have ct5 : w5.cell? ⟨bt, 0, none⟩ = some (.pointer (some ⟨p, 0, none⟩)) := by rw [hw5]; exact ctr
        have hB5 : Below w.heap.size w w5 := by rw [hw5]; exact hBr'.drew
        have hz5 : nb ≤ w5.heap.size := by rw [hw5]; exact hzr
        clear hw5 hx0 hy0 hO hTr ctr hBr hBr' hzr
        simp only [List.take_succ_cons, List.take_zero, List.drop_succ_cons, List.drop_zero]
        repeat still_step
        refine wpStill_nil ?_
        go_wp2_with (go_at_call 105; refine (less_any _ p b off cap bt l hT5 y x hry.2 hry.1 hrx.2 hrx.1 ct5).mono ?_; rintro e w6 ⟨rfl, hb6⟩; rw [hdec])
        have hO6 : w6.ownsRow nb 3 1 u7 O.length (O.map encN) := hO5.kept (row := none) ⟨hb6.os, hb6.tape, hb6.output, hb6.size, fun k hk _ => hb6.block k hk⟩ (by cases u7.ownBlock <;> simp)
        have hO6d : w6.drew.ownsRow nb 3 1 u7 O.length (O.map encN) := hO6.drew
        have hy6 : w6.cell? ae = some (.int .i64 (y : Nat)) := (hb6.cell (World.block_lt_of_cell? _ _ hy5)).trans hy5
        have hz6 : nb ≤ w6.drew.heap.size := by have := hb6.size; show nb ≤ w6.heap.size; omega
        have hlO : O.length ≤ 1000000000 := by omega
        have hB6 : Below w.heap.size w w6 := hB5.trans (hb6.mono hB5.size)
        have hK6 := Lib.hid hz6
        clear hx5 hy5 hO5 hT5 ct5 hb6 hz5
        go_region_law (refine step_app_one nb rfl _ _ rfl u7 O y (by simp [Act.eval]) (by simp [Act.eval]) hO6d hK6.out hlO ?_; intro v1 w7 ho7 hg7 hat7)
        simp only [Act.put, List.getElem_toArray, List.getElem_cons_succ, List.getElem_cons_zero, List.setIfInBounds_toArray, List.set_cons_succ, List.set_cons_zero]
        go_wp2
        go_roundw
        case rel =>
          have hz7 := hg7.size
          refine ⟨x :: X, Y, O ++ [y], some ad, B', c, d - 1, rfl, rfl, hX, by simpa using hcX', hYd, by omega, hrX, fun r hr => hrY r (by simp [hr]), by simpa using hlX', by omega, by (simp; omega), ho7, ?_, ?_, Nat.le_trans hK6.out hz7⟩
          · show _ = _
            rw [HM.out, HE.out]; simp
          · rw [HNB.out]
            exact (hB6.drew).grown hg7 (by have := hB6.size; show w.heap.size ≤ w6.heap.size; omega) (fun k e => by have := (hO6d.lt k e).1; have := HNB.out; omega)
        case measure => simp [sliceLen]
      · have hdec : decide (ati l (recAt y) < ati l (recAt x)) = false := decide_eq_false hlt
        have HE := Lib.hid (mergedL_ge (xs := X) (ys := Y) hlt)
        clear hlt
        go_wp2
        refine region_still_tail 7 (by kernel_rfl) (by kernel_rfl) (fun w5 hw5 => ?_)
        have hx5 : w5.cell? ad = some (.int .i64 (x : Nat)) := by rw [hw5]; exact hx0
        have hy5 : w5.cell? ae = some (.int .i64 (y : Nat)) := by rw [hw5]; exact hy0
        have hO5 : w5.ownsRow nb 3 1 u7 O.length (O.map encN) := by rw [hw5]; exact hO.drew
        have hT5 : TblR w5 p b off cap l := by rw [hw5]; exact hTr.drew
        have ct5 : w5.cell? ⟨bt, 0, none⟩ = some (.pointer (some ⟨p, 0, none⟩)) := by rw [hw5]; exact ctr
        have hB5 : Below w.heap.size w w5 := by rw [hw5]; exact hBr'.drew
        have hz5 : nb ≤ w5.heap.size := by rw [hw5]; exact hzr
        clear hw5 hx0 hy0 hO hTr ctr hBr hBr' hzr
        simp only [List.take_succ_cons, List.take_zero, List.drop_succ_cons, List.drop_zero]
        repeat still_step
        refine wpStill_nil ?_
        go_wp2_with (go_at_call 105; refine (less_any _ p b off cap bt l hT5 y x hry.2 hry.1 hrx.2 hrx.1 ct5).mono ?_; rintro e w6 ⟨rfl, hb6⟩; rw [hdec])
        have hO6 : w6.ownsRow nb 3 1 u7 O.length (O.map encN) := hO5.kept (row := none) ⟨hb6.os, hb6.tape, hb6.output, hb6.size, fun k hk _ => hb6.block k hk⟩ (by cases u7.ownBlock <;> simp)
        have hO6d : w6.drew.ownsRow nb 3 1 u7 O.length (O.map encN) := hO6.drew
        have hx6 : w6.cell? ad = some (.int .i64 (x : Nat)) := (hb6.cell (World.block_lt_of_cell? _ _ hx5)).trans hx5
        have hz6 : nb ≤ w6.drew.heap.size := by have := hb6.size; show nb ≤ w6.heap.size; omega
        have hlO : O.length ≤ 1000000000 := by omega
        have hB6 : Below w.heap.size w w6 := hB5.trans (hb6.mono hB5.size)
        have hK6 := Lib.hid hz6
        clear hx5 hy5 hO5 hT5 ct5 hb6 hz5
        go_region_law (refine step_app_one nb rfl _ _ rfl u7 O x (by simp [Act.eval]) (by simp [Act.eval]) hO6d hK6.out hlO ?_; intro v1 w7 ho7 hg7 hat7)
        simp only [Act.put, List.getElem_toArray, List.getElem_cons_succ, List.getElem_cons_zero, List.setIfInBounds_toArray, List.set_cons_succ, List.set_cons_zero]
        go_wp2
        go_roundw
        case rel =>
          have hz7 := hg7.size
          refine ⟨X, y :: Y, O ++ [x], A', some ae, c - 1, d, rfl, rfl, hXd, by omega, hY, by simpa using hdY', fun r hr => hrX r (by simp [hr]), hrY, by omega, by simpa using hlY', by (simp; omega), ho7, ?_, ?_, Nat.le_trans hK6.out hz7⟩
          · show _ = _
            rw [HM.out, HE.out]; simp
          · rw [HNB.out]
            exact (hB6.drew).grown hg7 (by have := hB6.size; show w.heap.size ≤ w6.heap.size; omega) (fun k e => by have := (hO6d.lt k e).1; have := HNB.out; omega)
        case measure => simp [sliceLen]
end Go.Proofs.Ytdcomhdadnhpnaa
