/- (t) sized: the words of a table of n elements; what is new is 0. -/
import Derived.Test.YtdcomhdadnhpnaaT5
import Derived.Test.YtdcomhdadnhpnaaWMore
import Derived.Test.YtdcomhdadnhpnaaWZeros
namespace Go.Proofs.Ytdcomhdadnhpnaa
open Go.RowKit Go.Shelf
open Go.Proofs.YtdcomhdadnhpnaaW.PrintWords (Kd)

/-- The row of a table's words. -/
structure Rw (base : Nat) (w : World) (B cap : Nat) (l : List Int) : Prop where
  bb : base ≤ B
  row : ∃ cur, w.heap[B]? = some (.cells cur 3 (0, 0)) ∧ cur.size = cap ∧ cur.toList.take l.length = l.map (Value.int .i64)
  le : l.length ≤ cap
  capm : cap ≤ maxLen
theorem Tb.rw_ {base : Nat} {w : World} {p B cap : Nat} {l : List Int} (h : Tb base w p B cap l) : Rw base w B cap l := ⟨h.bb, h.row, h.le, h.capm⟩
theorem Rw.own {base : Nat} {w : World} {B cap : Nat} {l : List Int} (h : Rw base w B cap l) : w.ownsRow base 3 1 (.slice (some ⟨B, 0, none⟩) l.length cap) l.length (l.map (Value.int .i64)) := by
  obtain ⟨cur, h1, h2, h3⟩ := h.row
  exact ⟨by simp, .inr ⟨B, cap, cur, rfl, h.bb, h1, h.le, h.capm, by omega, by rw [Nat.mul_one]; exact h3⟩⟩
theorem Rw.kd {base : Nat} {w : World} {B cap : Nat} {l : List Int} (h : Rw base w B cap l) (ok : Nat → Prop) (hok : ok B) : (Kd.int .i64).R 3 w base ok (.slice (some ⟨B, 0, none⟩) l.length cap) l :=
  Kd.R_of_own h.own (fun k hk => by cases hk; exact hok)
theorem rw_of_own {base : Nat} {w : World} {v : Value} {l : List Int} (h : w.ownsRow base 3 1 v l.length (l.map (Value.int .i64))) (hl : l ≠ []) : ∃ B cap, v = .slice (some ⟨B, 0, none⟩) l.length cap ∧ Rw base w B cap l := by
  rcases h.2 with ⟨_, h0⟩ | ⟨g, cap, cur, hv, hb, h1, h2, h3, h4, h5⟩
  · exact absurd (List.length_eq_zero_iff.1 h0) hl
  · exact ⟨g, cap, hv, hb, ⟨cur, h1, by omega, by rw [Nat.mul_one] at h5; exact h5⟩, h2, h3⟩
theorem rw_of_kd {base : Nat} {w : World} {ok : Nat → Prop} {v : Value} {l : List Int} (h : (Kd.int .i64).R 3 w base ok v l) (hl : l ≠ []) : ∃ B cap, v = .slice (some ⟨B, 0, none⟩) l.length cap ∧ Rw base w B cap l ∧ ok B := by
  obtain ⟨B, cap, rfl, hr⟩ := rw_of_own (Kd.own_of_R h) hl
  exact ⟨B, cap, rfl, hr, h.1 B rfl⟩
theorem Rw.take {base : Nat} {w : World} {B cap : Nat} {l : List Int} (h : Rw base w B cap l) (m : Nat) : Rw base w B cap (l.take m) := by
  obtain ⟨cur, h1, h2, h3⟩ := h.row
  refine ⟨h.bb, ⟨cur, h1, h2, ?_⟩, Nat.le_trans (List.length_take_le' ..) h.le, h.capm⟩
  rw [List.length_take, List.map_take, ← h3, List.take_take]

theorem Rw.other {base : Nat} {w : World} {B cap : Nat} {l : List Int} (h : Rw base w B cap l) {c : Addr} (u : Value) (h1 : B ≠ c.block) : Rw base (w.setCell c u) B cap l := by
  obtain ⟨cur, hh, r⟩ := h.row
  exact ⟨h.bb, ⟨cur, (Below.heap_setCell _ _ _ _ h1).trans hh, r⟩, h.le, h.capm⟩
theorem Rw.head {base : Nat} {w : World} {p B cap : Nat} {l : List Int} {v : Value} (h : Rw base w B cap l) (hp : w.heap[p]? = some (.cells #[v] 91 (0, 0))) (hb : base ≤ p) (hne : p ≠ B) :
    Tb base (w.setCell ⟨p, 0, none⟩ (.slice (some ⟨B, 0, none⟩) l.length cap)) p B cap l := by
  have hr := h.other (c := ⟨p, 0, none⟩) (.slice (some ⟨B, 0, none⟩) l.length cap) (fun e => hne e.symm)
  exact ⟨hb, h.bb, hne, Boxed.set (t := 91) _ hp, hr.row, h.le, h.capm⟩
theorem Fr.of_grown {p B : Nat} {w w' : World} (h : w.grownBy w' (some B)) : Fr p B w w' := ⟨h.os, h.tape, h.output, h.size, fun k hk _ h2 => h.block k hk (by intro e; exact h2 (by injection e))⟩
theorem app_zeros {ops : Array Oper} {rest : List Oper} {o : Oper} {a : Act} {Q : Exit → Act → World → Prop} {W : World} (base : Nat) (hgd : o.guard = none) (s x : Operand)
    (ho : o.op = .call { callee := .builtin .append, args := #[s, x], argTypes := #[31, 3] }) (B cap : Nat) (l : List Int) (m : Nat) (hs : a.eval s = .slice (some ⟨B, 0, none⟩) l.length cap) (hx : a.eval x = .int .i64 (m : Nat))
    (HO : Rw base W B cap l) (hb : base ≤ W.heap.size) (hl : l.length + m ≤ 1000000000) (hm : 0 < l.length + m)
    (h : ∀ B' cap' w1, Rw base w1 B' cap' (l ++ List.replicate m 0) → W.grownBy w1 (some B) → (B' = B ∨ W.heap.size ≤ B') → wpList Try.prog ops Q rest (a.put o.dst (.slice (some ⟨B', 0, none⟩) (l.length + m) cap')) w1) :
    wpList Try.prog ops Q (o :: rest) a W := by
  refine Go.Proofs.YtdcomhdadnhpnaaW.PrintWords.Kd.R_append_zeros (Kd.int .i64) (w0 := W) base hgd s x 31 3 3 (.int .i64 0) 8 ho Try.underlying31 (k := .i64) Try.underlying3 info3 rfl (by decide) (by decide) _ l 0 m (fun _ => True) hs hx rfl (fun _ _ => trivial) (HO.kd _ trivial) (by omega) (Below.refl _ _) hb (by omega) ?_
  intro v1 w1 H1 _ hg hb1
  rw [Int.toNat_natCast] at H1
  obtain ⟨B', cap', rfl, hr, _⟩ := rw_of_kd H1 (by intro e; have h2 := congrArg List.length e; rw [List.length_append, List.length_replicate, List.length_nil] at h2; omega)
  have hlen : (l ++ List.replicate m (0 : Int)).length = l.length + m := by simp
  rw [hlen]
  refine h B' cap' w1 hr hg ?_
  rcases hb1 with e | ⟨b, e, hb⟩
  · left; simpa [Value.ownBlock] using e
  · right; have : B' = b := by simpa [Value.ownBlock] using e
    omega
/-- The words of a table that gets the size for n elements. -/
def sizedL (l : List Int) (n : Nat) : List Int := (((((l ++ List.replicate (wlen n - l.length) 0).take (wlen n)).set 0 n).set 1 (bkts n)).set 2 (pow2 (bkts n) : Nat))

/-- the last part: the first three words -/
theorem bkts_pos (n : Nat) : 1 ≤ bkts n := by unfold bkts; split <;> omega
theorem bkts_le (n : Nat) (h : n ≤ 1000000) : bkts n ≤ 1000000 := by unfold bkts; split <;> omega
theorem wlen_ge (n : Nat) : 60 ≤ wlen n := by unfold wlen; omega
theorem wlen_le (n : Nat) (h : n ≤ 1000000) : wlen n ≤ 100000000 := by unfold wlen; omega

set_option maxRecDepth 100000 in
set_option maxHeartbeats 2000000 in
theorem sized_any (base : Nat) (w : World) (p B cap : Nat) (l : List Int) (n : Nat) (hn : n ≤ 1000000) (hT : Tb base w p B cap l) (hl : l.length ≤ 100000000) (h60 : 60 ≤ l.length) (hbase : base ≤ w.heap.size) :
    Calls Try.prog 99 #[.pointer (some ⟨p, 0, none⟩), .int .i64 n] w fun e W' => e = .returned (.tuple #[]) ∧ ∃ B' cap', Tb base W' p B' cap' (sizedL l n) ∧ Fr p B w W' ∧ (B' = B ∨ w.heap.size ≤ B') := by
  have hp := hT.head
  have hwl := wlen_le n hn
  by_cases hm : l.length < wlen n
  · go_enter Try.func99, Try.ntmps99
    go_wp2
    refine region_still (by kernel_rfl) (by kernel_rfl) (fun w7 hw7 => ?_)
    have hT7 : Tb base w7 p B cap l := by rw [hw7]; exact hT.drew
    have hp7 := hT7.head
    have hF7 : Fr p B w w7 := by rw [hw7]; exact (Fr.refl p B w).drew
    clear hw7 hp
    repeat still_step
    still_call (by simpa using length_any (n : Int) w7 (by omega) (by omega))
    repeat still_step
    refine wpStill_nil ?_
    have hsub : IntKind.i64.wrap ((wlen n : Int) - (l.length : Int)) = ((wlen n - l.length : Nat) : Int) := by rw [IntWalk.i64_in _ (by omega)]; omega
    rw [hsub]
    generalize hm' : wlen n - l.length = m at *
    have HM := Lib.hid hm'
    have hm0 : 0 < m := by omega
    have hm1 : m ≤ 100000000 := by omega
    clear hsub hm'
    have hb7 : base ≤ w7.heap.size := Nat.le_trans hbase hF7.size
    go_wp2_with (at_builtin; refine app_zeros base rfl _ _ rfl B cap l m rfl rfl hT7.rw_ hb7 (by omega) (by omega) ?_; intro B8 cap8 w8 hR8 hg8 hb8; have hp8 : w8.heap[p]? = _ := (hg8.block p hT7.ltp (by intro e; exact hT7.ne (by injection e))).trans hT7.hp; have hp8c := (cell_of_heap hp8 (i := 0)).trans rfl; have hp8f := frozen_of_heap (i := 0) hp8)
    have hlen8 : (l ++ List.replicate m (0 : Int)).length = l.length + m := by simp
    have hT9 : Tb base (w8.setCell ⟨p, 0, none⟩ (.slice (some ⟨B8, 0, none⟩) (l.length + m) cap8)) p B8 cap8 (l ++ List.replicate m 0) := by
      rw [← hlen8]
      exact hR8.head hp8 hT.pb (by rcases hb8 with rfl | hb8; exact hT.ne; have := hT7.ltp; omega)
    have hF9 : Fr p B w (w8.setCell ⟨p, 0, none⟩ (.slice (some ⟨B8, 0, none⟩) (l.length + m) cap8)) := (hF7.trans (Fr.of_grown hg8)).setCell (.inl rfl) _
    have hBx : B8 = B ∨ w.heap.size ≤ B8 := hb8.imp id (fun h => Nat.le_trans hF7.size h)
    have hlx : wlen n ≤ (l ++ List.replicate m (0 : Int)).length := by rw [hlen8]; have := HM.out; omega
    have hfin : sizedL l n = (((((l ++ List.replicate m (0 : Int)).take (wlen n)).set 0 n).set 1 (bkts n)).set 2 (pow2 (bkts n) : Nat)) := by unfold sizedL; rw [HM.out]
    generalize w8.setCell ⟨p, 0, none⟩ (.slice (some ⟨B8, 0, none⟩) (l.length + m) cap8) = w9 at hT9 hF9 ⊢
    have HF := Lib.hid hfin
    clear hfin hlen8 hR8 hp8 hp8c hp8f hT7 hF7 hp7
    generalize l ++ List.replicate m (0 : Int) = lx at hT9 hlx HF ⊢
    generalize B8 = Bx at *
    generalize cap8 = capx at *
    refine region_still_tail 10 (by kernel_rfl) (by kernel_rfl) (fun wa hwa => ?_)
    have hTa : Tb base wa p Bx capx lx := by rw [hwa]; exact hT9.drew
    have hFa : Fr p B w wa := by rw [hwa]; exact hF9.drew
    have hpa := hTa.head
    have hpf := hTa.frzp
    have hcx := hTa.le
    have i1 : (wlen n : Int) ≤ (capx : Int) := by omega
    have i2 : wlen n ≤ capx := by omega
    clear hwa hT9 hF9
    simp only [List.take_succ_cons, List.take_zero, List.drop_succ_cons, List.drop_zero]
    repeat still_step
    still_call (by simpa using length_any (n : Int) wa (by omega) (by omega))
    repeat still_step
    refine wpStill_nil ?_
    go_wp2
    have hlt : (lx.take (wlen n)).length = wlen n := by rw [List.length_take]; omega
    have hTb : Tb base (wa.setCell ⟨p, 0, none⟩ (.slice (some ⟨Bx, 0, none⟩) (wlen n) capx)) p Bx capx (lx.take (wlen n)) := by
      have h := (hTa.rw_.take (wlen n)).head hTa.hp hTa.pb hTa.ne
      rwa [hlt] at h
    have hFb : Fr p B w (wa.setCell ⟨p, 0, none⟩ (.slice (some ⟨Bx, 0, none⟩) (wlen n) capx)) := hFa.setCell (.inl rfl) _
    generalize wa.setCell ⟨p, 0, none⟩ (.slice (some ⟨Bx, 0, none⟩) (wlen n) capx) = wb at hTb hFb ⊢
    refine region_still_tail 18 (by kernel_rfl) (by kernel_rfl) (fun wc hwc => ?_)
    have hTc : Tb base wc p Bx capx (lx.take (wlen n)) := by rw [hwc]; exact hTb.drew
    have hFc : Fr p B w wc := by rw [hwc]; exact hFb.drew
    have hpc := hTc.head
    rw [hlt] at hpc
    have h60' := wlen_ge n
    have c0 := hTc.cell 0 (by omega)
    have c1 := hTc.cell 1 (by omega)
    have c2 := hTc.cell 2 (by omega)
    have f0 := hTc.frz 0
    have f1 := hTc.frz 1
    have f2 := hTc.frz 2
    have i3 : (2 : Int) < (wlen n : Int) := by omega
    have i4 : (1 : Int) < (wlen n : Int) := by omega
    have i5 : (0 : Int) < (wlen n : Int) := by omega
    have hb0 := bkts_pos n
    have hb1 := bkts_le n hn
    clear hpa hpf i1 i2 hTa hFa hTb hFb hwc
    simp only [List.take_succ_cons, List.take_zero, List.drop_succ_cons, List.drop_zero]
    repeat still_step
    still_call (by simpa using buckets_any (n : Int) wc (by omega) (by omega))
    repeat still_step
    still_call (by simpa using buckets_any (n : Int) wc (by omega) (by omega))
    repeat still_step
    still_call (by simpa using power_any (bkts n : Int) wc (by omega) (by omega))
    refine wpStill_nil ?_
    go_wp2
    go_end0
    refine ⟨rfl, Bx, capx, ?_, ?_, hBx⟩
    · rw [HF.out]
      exact ((hTc.set 0 _).set 1 _).set 2 _
    · exact (((hFc.trans' (B' := Bx) ((Fr.refl p Bx wc).setCell (.inr (.inl rfl)) _) hBx).trans' (B' := Bx) ((Fr.refl p Bx _).setCell (.inr (.inl rfl)) _) hBx).trans' (B' := Bx) ((Fr.refl p Bx _).setCell (.inr (.inl rfl)) _) hBx)
  · go_enter Try.func99, Try.ntmps99
    go_wp2
    refine region_still (by kernel_rfl) (by kernel_rfl) (fun w7 hw7 => ?_)
    have hT7 : Tb base w7 p B cap l := by rw [hw7]; exact hT.drew
    have hp7 := hT7.head
    have hF7 : Fr p B w w7 := by rw [hw7]; exact (Fr.refl p B w).drew
    clear hw7 hp
    repeat still_step
    still_call (by simpa using length_any (n : Int) w7 (by omega) (by omega))
    repeat still_step
    refine wpStill_nil ?_
    have hsub : IntKind.i64.wrap ((wlen n : Int) - (l.length : Int)) = (wlen n : Int) - (l.length : Int) := by rw [IntWalk.i64_in _ (by omega)]
    rw [hsub]
    generalize hm' : (wlen n : Int) - (l.length : Int) = m at *
    have HM := Lib.hid hm'
    have hm0 : m ≤ 0 := by omega
    clear hsub hm'
    go_wp2
    have HF : Hid (sizedL l n = (((((l).take (wlen n)).set 0 n).set 1 (bkts n)).set 2 (pow2 (bkts n) : Nat))) := by
      show _ = _
      unfold sizedL
      rw [show wlen n - l.length = 0 by omega, List.replicate_zero, List.append_nil]
    have hlx : wlen n ≤ l.length := by omega
    have hT9 := hT7
    have hF9 := hF7
    clear hp7 hT7 hF7
    refine region_still_tail 10 (by kernel_rfl) (by kernel_rfl) (fun wa hwa => ?_)
    have hTa : Tb base wa p B cap l := by rw [hwa]; exact hT9.drew
    have hFa : Fr p B w wa := by rw [hwa]; exact hF9.drew
    have hpa := hTa.head
    have hpf := hTa.frzp
    have hcx := hTa.le
    have i1 : (wlen n : Int) ≤ (cap : Int) := by omega
    have i2 : wlen n ≤ cap := by omega
    clear hwa hT9 hF9
    simp only [List.take_succ_cons, List.take_zero, List.drop_succ_cons, List.drop_zero]
    repeat still_step
    still_call (by simpa using length_any (n : Int) wa (by omega) (by omega))
    repeat still_step
    refine wpStill_nil ?_
    go_wp2
    have hlt : (l.take (wlen n)).length = wlen n := by rw [List.length_take]; omega
    have hTb : Tb base (wa.setCell ⟨p, 0, none⟩ (.slice (some ⟨B, 0, none⟩) (wlen n) cap)) p B cap (l.take (wlen n)) := by
      have h := (hTa.rw_.take (wlen n)).head hTa.hp hTa.pb hTa.ne
      rwa [hlt] at h
    have hFb : Fr p B w (wa.setCell ⟨p, 0, none⟩ (.slice (some ⟨B, 0, none⟩) (wlen n) cap)) := hFa.setCell (.inl rfl) _
    generalize wa.setCell ⟨p, 0, none⟩ (.slice (some ⟨B, 0, none⟩) (wlen n) cap) = wb at hTb hFb ⊢
    refine region_still_tail 18 (by kernel_rfl) (by kernel_rfl) (fun wc hwc => ?_)
    have hTc : Tb base wc p B cap (l.take (wlen n)) := by rw [hwc]; exact hTb.drew
    have hFc : Fr p B w wc := by rw [hwc]; exact hFb.drew
    have hpc := hTc.head
    rw [hlt] at hpc
    have h60' := wlen_ge n
    have c0 := hTc.cell 0 (by omega)
    have c1 := hTc.cell 1 (by omega)
    have c2 := hTc.cell 2 (by omega)
    have f0 := hTc.frz 0
    have f1 := hTc.frz 1
    have f2 := hTc.frz 2
    have i3 : (2 : Int) < (wlen n : Int) := by omega
    have i4 : (1 : Int) < (wlen n : Int) := by omega
    have i5 : (0 : Int) < (wlen n : Int) := by omega
    have hb0 := bkts_pos n
    have hb1 := bkts_le n hn
    clear hpa hpf i1 i2 hTa hFa hTb hFb hwc
    simp only [List.take_succ_cons, List.take_zero, List.drop_succ_cons, List.drop_zero]
    repeat still_step
    still_call (by simpa using buckets_any (n : Int) wc (by omega) (by omega))
    repeat still_step
    still_call (by simpa using buckets_any (n : Int) wc (by omega) (by omega))
    repeat still_step
    still_call (by simpa using power_any (bkts n : Int) wc (by omega) (by omega))
    refine wpStill_nil ?_
    go_wp2
    go_end0
    refine ⟨rfl, B, cap, ?_, ?_, (.inl rfl)⟩
    · rw [HF.out]
      exact ((hTc.set 0 _).set 1 _).set 2 _
    · exact (((hFc.trans' (B' := B) ((Fr.refl p B wc).setCell (.inr (.inl rfl)) _) (.inl rfl)).trans' (B' := B) ((Fr.refl p B _).setCell (.inr (.inl rfl)) _) (.inl rfl)).trans' (B' := B) ((Fr.refl p B _).setCell (.inr (.inl rfl)) _) (.inl rfl))
end Go.Proofs.Ytdcomhdadnhpnaa
