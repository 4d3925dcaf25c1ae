/- (t) drop: the element's record is taken out, the last record takes its place; a bucket that is not needed is joined with another. -/
import Derived.Test.YtdcomhdadnhpnaaT20
import Derived.Test.YtdcomhdadnhpnaaP8
import Derived.Deep.Cut
set_option linter.unusedSimpArgs false
set_option linter.unusedVariables false
namespace Go.Proofs.Ytdcomhdadnhpnaa
open Go.RowKit Go.Shelf
open Go.Proofs.YtdcomhdadnhpnaaW.PrintWords (ReadsOf encs own_reads_of own_reads_of' own_reads_of_le own_move)
attribute [local irreducible] wpStill

/-- where the way of a record's taking out ends -/
def DropE (base : Nat) (w : World) (p B cap : Nat) (l : List Int) (n : Nat) (C : Nat → List Nat) (h x : Int) (e : Ending) (W' : World) : Prop :=
  (hasR l h x (C (bkt h.toNat (bkts n))) = false ∧ e = .returned (.tuple #[.int .i64 0, .int .i64 5]) ∧ Tb base W' p B cap l ∧ Fr p B w W') ∨
  (∃ k l' C', DropS l n C h x k l' C' ∧ e = .returned (.tuple #[.int .i64 (k : Nat), .int .i64 0]) ∧ ∃ B' cap', Tb base W' p B' cap' l' ∧ Fr p B w W' ∧ (B' = B ∨ w.heap.size ≤ B'))

theorem addr_add (b o j : Nat) : (⟨b, o, none⟩ : Addr).add j = ⟨b, o + j, none⟩ := by unfold Addr.add; split <;> simp_all
theorem own_mono {w : World} {base base' size n : Nat} {e : TypeId} {v : Value} {xs : List Value} (h : w.ownsRow base e size v n xs) (hb : base' ≤ base) : w.ownsRow base' e size v n xs :=
  ⟨h.1, h.2.imp id (fun ⟨g, c, cur, e1, e2, r⟩ => ⟨g, c, cur, e1, Nat.le_trans hb e2, r⟩)⟩
theorem info3s : (Try.prog.info? 3).map (·.size) = some 1 := by kernel_rfl
/-- find, for the element of the last record, in words with one record taken out -/
theorem find_last {l0 : List Int} {n b : Nat} {S : Nat → Prop} {C0 : Nat → List Nat} (g0 : GS l0 n S b C0) (hS : S (n - 1)) (h1 : ati l0 1 = (b : Int)) (hb : b ≤ 1000000) (hlen : l0.length ≤ 100000000) (h4 : 4 ≤ l0.length) :
    ∃ pre post, C0 (bkt (ati l0 (recAt (n - 1))).toNat b) = pre ++ (n - 1) :: post ∧ pre.length ≤ 100000 ∧ endp (headAt (bkt (ati l0 (recAt (n - 1))).toNat b)) pre < l0.length ∧ 4 ≤ endp (headAt (bkt (ati l0 (recAt (n - 1))).toNat b)) pre ∧
      ∀ (p B cap : Nat) (W : World), TblR W p B 0 cap l0 →
      Calls Try.prog 86 #[.pointer (some ⟨p, 0, none⟩), .agg #[.int .i64 (ati l0 (recAt (n - 1))), .int .i64 (ati l0 (recAt (n - 1) + 1))]] W fun e W' =>
        e = .returned (.tuple #[.int .i64 ((n - 1 : Nat) : Int), .int .i64 (endp (headAt (bkt (ati l0 (recAt (n - 1))).toNat b)) pre : Nat), .int .i64 ((pre.length : Nat) + 1)]) ∧ Below W.heap.size W W' := by
  have hj := bkt_lt (ati l0 (recAt (n - 1))).toNat g0.bpos
  have hm := (g0.mem _ hj (n - 1)).2 ⟨hS, rfl⟩
  have hh := g0.hash _ hS
  have hnd := g0.nd _ hj
  have hcl := g0.chn _ hj
  have hcmem : ∀ r, r ∈ C0 (bkt (ati l0 (recAt (n - 1))).toNat b) → S r := fun r hr => ((g0.mem _ hj r).1 hr).1
  generalize hjj : bkt (ati l0 (recAt (n - 1))).toNat b = j at *
  have hn := g0.n1
  have hclen := nodup_len n _ hnd (fun r hr => g0.sn r (hcmem r hr))
  have hhas : hasR l0 (ati l0 (recAt (n - 1))) (ati l0 (recAt (n - 1) + 1)) (C0 j) = true := by
    unfold hasR
    rw [List.any_eq_true]
    exact ⟨n - 1, hm, by simp⟩
  obtain ⟨pre, r, post, hC, _, hhit, hf⟩ := findC_wf_yes (f := headAt j) hhas
  obtain rfl : r = n - 1 := g0.dif _ (hcmem r (by rw [hC]; simp)) _ hS hhit.1 hhit.2
  have hend := hcl
  rw [hC] at hend
  refine ⟨pre, post, hC, ?_, hend.split.endlt, ?_, fun p B cap W hT => ?_⟩
  · rw [hC] at hclen
    simp only [List.length_append, List.length_cons] at hclen
    omega
  · rcases endp_cases (headAt j) pre with ⟨_, e⟩ | ⟨t, _, e⟩
    · rw [e]; exact headAt_ge _
    · rw [e]; have := recAt_ge t; omega
  · have := find_any p B 0 cap (ati l0 (recAt (n - 1))) (ati l0 (recAt (n - 1) + 1)) l0 (wf (headAt j) (C0 j)) hlen h4 W hh.1 (by omega) hT (by have := g0.b8; omega) (by omega)
      (by rw [h1, Int.toNat_natCast, hjj]; exact hcl.chn)
      (fun q hq => by
        have hm : q.1 ∈ C0 j := by rw [← wf_map (headAt j) (C0 j)]; exact List.mem_map_of_mem hq
        have := g0.sn _ (hcmem _ hm)
        exact ⟨g0.rl _ this, by omega⟩)
      (by rw [wf_len]; omega)
    rw [hf] at this
    exact this

set_option maxRecDepth 100000 in
set_option maxHeartbeats 8000000 in
theorem drop_any (base : Nat) (w : World) (p B cap : Nat) (l : List Int) (n : Nat) (C : Nat → List Nat) (h x : Int) (hT : Tb base w p B cap l) (hH : HeadOk l n) (g : G l n (bkts n) C) (hbase : base ≤ w.heap.size) (hh0 : 0 ≤ h) (hh1 : h ≤ 2147483647) :
    Calls Try.prog 76 #[.pointer (some ⟨p, 0, none⟩), .agg #[.int .i64 h, .int .i64 x]] w (DropE base w p B cap l n C h x) := by
  have hb0 := bkts_pos n
  have hnn := g.n1
  have hb1 := bkts_le n (by omega)
  have hlen := hH.len
  have hl60 := wlen_ge n
  have hll := wlen_le n (by omega)
  have hi := bkt_lt h.toNat (b := bkts n) (by omega)
  have ha1 := hH.b1
  have hfind : ∀ W : World, TblR W p B 0 cap l → Calls Try.prog 86 #[.pointer (some ⟨p, 0, none⟩), .agg #[.int .i64 h, .int .i64 x]] W fun e W' =>
      e = .returned (.tuple #[.int .i64 (findC l h x (wf (headAt (bkt h.toNat (bkts n))) (C (bkt h.toNat (bkts n)))) 0).1, .int .i64 (findC l h x (wf (headAt (bkt h.toNat (bkts n))) (C (bkt h.toNat (bkts n)))) 0).2.1, .int .i64 (findC l h x (wf (headAt (bkt h.toNat (bkts n))) (C (bkt h.toNat (bkts n)))) 0).2.2]) ∧ Below W.heap.size W W' := fun W hTW =>
    find_any p B 0 cap h x l _ (by omega) (by omega) W hh0 (by omega) hTW (by omega) (by omega) (by rw [hH.b1']; exact (g.chn _ hi).chn)
      (fun q hq => by
        have hm : q.1 ∈ C (bkt h.toNat (bkts n)) := by rw [← wf_map (headAt (bkt h.toNat (bkts n))) (C (bkt h.toNat (bkts n)))]; exact List.mem_map_of_mem hq
        have := g.lt hi hm
        exact ⟨g.rl _ this, by omega⟩)
      (by rw [wf_len]; have := g.clen hi; omega)
  have hT2 := (hT.alloc (Obj.cells #[Value.pointer (some { block := p, off := 0 })] 92)).alloc (Obj.cells #[Value.int IntKind.i64 h, Value.int IntKind.i64 x] 43)
  have hF2 : Fr p B w ((w.alloc (.cells #[.pointer (some ⟨p, 0, none⟩)] 92)).alloc (Obj.cells #[Value.int IntKind.i64 h, Value.int IntKind.i64 x] 43)) := ((Fr.refl _ _ _).alloc _).alloc _
  by_cases hhas : hasR l h x (C (bkt h.toNat (bkts n))) = false
  · have hf := findC_wf_no (f := headAt (bkt h.toNat (bkts n))) hhas
    rw [hf] at hfind
    have HF := Lib.hid hfind
    have HAS := Lib.hid hhas
    clear hf hfind g hH hhas
    go_enter Try.func76, Try.ntmps76
    go_wp2_with (go_at_call 86; refine (HF.out _ hT2.r).mono ?_; rintro e w8 ⟨rfl, hb8⟩)
    refine bodyPost_ret (v := .tuple #[.int .i64 0, .int .i64 5]) (by simp [results, Try.results76, go_sem]) rfl ?_
    exact .inl ⟨HAS.out, rfl, hT2.below hb8, hF2.trans (Fr.of_below hb8)⟩
  · have hhas : hasR l h x (C (bkt h.toNat (bkts n))) = true := by simpa using hhas
    obtain ⟨pre, r, post, hC, hpre, hhit, hf⟩ := findC_wf_yes (f := headAt (bkt h.toNat (bkts n))) hhas
    rw [hf] at hfind
    have hrn : r < n := g.lt hi (by rw [hC]; simp)
    have hc0 : ati l 0 = (n : Int) := hH.n0
    have hbt := (Boxed.new w 92 (.pointer (some ⟨p, 0, none⟩))).alloc (Obj.cells #[Value.int IntKind.i64 h, Value.int IntKind.i64 x] 43)
    have hs0 : ((w.alloc (.cells #[.pointer (some ⟨p, 0, none⟩)] 92)).alloc (Obj.cells #[Value.int IntKind.i64 h, Value.int IntKind.i64 x] 43)).heap.size = w.heap.size + 2 := by simp
    have hfr4 : 4 ≤ endp (headAt (bkt h.toNat (bkts n))) pre ∧ endp (headAt (bkt h.toNat (bkts n))) pre < l.length := by
      have hcl := g.chn _ hi
      rw [hC] at hcl
      refine ⟨?_, hcl.split.endlt⟩
      rcases endp_cases (headAt (bkt h.toNat (bkts n))) pre with ⟨_, e⟩ | ⟨t, _, e⟩
      · rw [e]; exact headAt_ge _
      · rw [e]; have := recAt_ge t; omega
    have hpl : pre.length ≤ 100000 := by
      have h1 := g.clen hi
      rw [hC] at h1
      simp only [List.length_append, List.length_cons] at h1
      omega
    have hrl := g.rl r hrn
    have HF := Lib.hid hfind
    have HG := Lib.hid g
    have HH := Lib.hid hH
    have HC := Lib.hid hC
    have HI := Lib.hid hhit
    have HP := Lib.hid hpre
    clear hf hfind g hH hhas hC hhit hpre
    generalize hfre : endp (headAt (bkt h.toNat (bkts n))) pre = fr at *
    have HFR := Lib.hid hfre
    clear hfre
    have hneg : decide (((r : Nat) : Int) < 0) = false := decide_eq_false (by omega)
    go_enter Try.func76, Try.ntmps76
    go_wp2_with (go_at_call 86; refine (HF.out _ hT2.r).mono ?_; rintro e w8 ⟨rfl, hb8⟩; have hT3 := hT2.below hb8)
    refine region_still (by kernel_rfl) (by kernel_rfl) (fun w7 hw7 => ?_)
    have hb7 := hb8.drew
    rw [← hw7] at hb7
    have hT7 := hT2.below hb7
    have bt := boxed_below hbt hb7
    have hF7 := hF2.trans (Fr.of_below hb7)
    have hs7 := hb7.size
    rw [hs0] at hs7
    clear hw7 hT3 hbt hT2 hb7 hb8 hs0 hF2
    have ct := bt.cell
    have hp7 := hT7.head
    have hc1 := hT7.cell 1 (by omega)
    have i1 : (1 : Int) < (l.length : Int) := by omega
    have hz : 0 < l.length := by omega
    have HL := Lib.hid hlen
    clear hlen
    repeat still_step
    still_call (count_any w7 p B 0 cap l hT7.r hz)
    repeat still_step
    refine wpStill_nil ?_
    clear i1 hp7 hc1
    go_wp2
    have hT7' := hT7
    refine region_still_tail 14 (by kernel_rfl) (by kernel_rfl) (fun wa hwa => ?_)
    have hTa : Tb base wa p B cap l := by rw [hwa]; exact hT7.drew
    have hFa : Fr p B w wa := by rw [hwa]; exact hF7.drew
    have ba : Boxed wa w.heap.size 92 (.pointer (some ⟨p, 0, none⟩)) := by rw [hwa]; exact bt
    have hsa : w.heap.size + 2 ≤ wa.heap.size := by rw [hwa]; exact hs7
    clear hwa hT7 hT7' hF7 bt hs7 ct
    have ct := ba.cell
    have hpa := hTa.head
    obtain ⟨q2, hq2⟩ : ∃ q, q = recAt r + 2 := ⟨_, rfl⟩
    have c2 := hTa.cell q2 (by omega)
    have cf := hTa.cell fr (by omega)
    have ff := hTa.frz fr
    have hlb := HL.out
    have i2 : (q2 : Int) < (l.length : Int) := by omega
    have i3 : (fr : Int) < (l.length : Int) := by omega
    have e2 : IntKind.i64.wrap (((recAt r : Nat) : Int) + 2) = (q2 : Int) := by rw [IntWalk.i64_in _ (by omega)]; omega
    have HQ2 := Lib.hid hq2
    clear hq2 hrl hlb
    simp only [List.take_succ_cons, List.take_zero, List.drop_succ_cons, List.drop_zero]
    repeat still_step
    still_call (by simpa using recordAt_any (r : Int) _ (by omega) (by omega))
    repeat still_step
    refine wpStill_nil ?_
    have e1 : IntKind.i64.wrap ((n : Int) - 1) = ((n - 1 : Nat) : Int) := by rw [IntWalk.i64_in _ (by omega)]; omega
    go_upto_if 57 with (go_at_call 87; refine (recordAt_any _ _ (by omega) (by omega)).mono ?_; rintro e wb ⟨rfl, rfl⟩)
    have hTc0 : Tb base (wa.setCell ⟨B, fr, none⟩ (.int .i64 (ati l q2))) p B cap (remL l fr r) := by unfold remL; rw [← HQ2.out]; exact hTa.set fr _
    have hFc0 : Fr p B w (wa.setCell ⟨B, fr, none⟩ (.int .i64 (ati l q2))) := hFa.setCell (.inr (.inl rfl)) _
    have hpn := hT.ltp
    have hBn := hT.ltB
    have bc0 : Boxed (wa.setCell ⟨B, fr, none⟩ (.int .i64 (ati l q2))) w.heap.size 92 (.pointer (some ⟨p, 0, none⟩)) := (Below.heap_setCell _ _ _ _ (by simp; omega)).trans ba
    have hsc0 : w.heap.size + 2 ≤ (wa.setCell ⟨B, fr, none⟩ (.int .i64 (ati l q2))).heap.size := by simpa [World.setCell] using hsa
    have g0 := HG.out.gs.rem hi HC.out
    rw [HFR.out] at g0
    have hl0 : (remL l fr r).length = wlen n := by rw [show (remL l fr r).length = l.length by simp [remL], HL.out]
    have ha0 : ati (remL l fr r) 1 = (bkts n : Int) := (ati_set_ne (by omega)).trans ha1
    clear c2 cf ff hTa hFa hpa i2 i3 e2 ct ba hsa hz
    generalize wa.setCell ⟨B, fr, none⟩ (.int .i64 (ati l q2)) = wd at *
    generalize hrml : remL l fr r = l0 at *
    have HRL := Lib.hid hrml
    clear hrml
    generalize hC0 : (fun k => if k = bkt h.toNat (bkts n) then pre ++ post else C k) = C0 at *
    have HCC := Lib.hid hC0
    have HG0 := Lib.hid g0
    have HL0 := Lib.hid hl0
    clear g0 hl0
    go_cut [8] from 19 (fun v8 W => ∃ k1 l1 C1, v8 = .int .i64 ((pre.length + 1 + k1 : Nat) : Int) ∧ Hid (MoveS l0 n (bkts n) C0 r k1 l1 C1) ∧ k1 ≤ 200000 ∧ Tb base W p B cap l1 ∧ Fr p B w W ∧ Boxed W w.heap.size 92 (.pointer (some ⟨p, 0, none⟩)) ∧ w.heap.size + 2 ≤ W.heap.size)
    case first =>
      by_cases hr : r = n - 1
      · have hr' : (((r : Nat) : Int) != ((n - 1 : Nat) : Int)) = false := by rw [hr]; simp
        go_wp2
        go_meet
        case rel => exact ⟨0, l0, C0, by go_num, .inl ⟨hr, rfl, rfl, rfl⟩, by omega, hTc0, hFc0, bc0, hsc0⟩
      · have hr' : (((r : Nat) : Int) != ((n - 1 : Nat) : Int)) = true := by simpa using (show ¬ ((r : Nat) : Int) = ((n - 1 : Nat) : Int) by omega)
        obtain ⟨pre', post', hC', hpl', hlt', h4', hfl⟩ := find_last HG0.out (show n - 1 < n ∧ n - 1 ≠ r by omega) ha0 hb1 (by have := HL0.out; omega) (by have := HL0.out; omega)
        generalize hjj : bkt (ati l0 (recAt (n - 1))).toNat (bkts n) = j at *
        generalize hlead : endp (headAt j) pre' = lead at *
        have HFL := Lib.hid hfl
        have HC' := Lib.hid hC'
        have HR := Lib.hid hr
        have HLE := Lib.hid hlead
        have HJJ := Lib.hid hjj
        clear hfl hC' hr hlead hjj hC0
        have ct := bc0.cell
        have hrb : recAt (n - 1) + 2 < l0.length := HG0.out.rl (n - 1) (by omega)
        have hrb2 : recAt (n - 1) < 100000000 := by have := HL0.out; omega
        go_wp2
        go_cut [13, 14] from 19 (fun v13 v14 V => v13 = .int .i64 (lead : Nat) ∧ v14 = .int .i64 ((pre'.length : Nat) + 1) ∧ Below wd.heap.size wd V)
        case first =>
          rename_i J K' hJ hK'
          go_region_held3 (fun w' => w'.cell? ⟨w.heap.size, 0, none⟩ = some (.pointer (some ⟨p, 0, none⟩))) (first | assumption | simp [*]) (first
            | (go_at_call 73; refine (record_any p ((n - 1 : Nat) : Int) _ (by omega) (by omega)).mono ?_; rintro e V1 ⟨rfl, hb1⟩; have hT1 := hTc0.drew.below hb1; have ct1 := (boxed_below (show Boxed wd.drew w.heap.size 92 _ from bc0) hb1).cell; rw [Int.toNat_natCast])
            | (go_at_call 77; refine (elem_any _ p B 0 cap l0 hT1.r ((recAt (n - 1) : Nat) : Int) (by omega) (by omega) (by omega)).mono ?_; rintro e V2 ⟨rfl, hb2⟩; have hT2 := hT1.below hb2; have ct2 := cell_below hb2 ct1; rw [Int.toNat_natCast])
            | (go_at_call 86; refine (HFL.out p B cap _ hT2.r).mono ?_; rintro e V3 ⟨rfl, hb3⟩; have ct3 := cell_below hb3 ct2))
          all_goals
            refine hK' _ _ (Met.intro (hJ _ _ ?_))
            (repeat apply Exists.intro)
            refine ⟨?rel, rfl⟩
            case rel => exact ⟨rfl, rfl, ((Below.refl _ _).drew.trans hb1).trans ((hb2.mono hb1.size).trans (hb3.mono (Nat.le_trans hb1.size hb2.size)))⟩
        case rest =>
        obtain ⟨rfl, rfl, hb8⟩ := hcut
        have hTe := hTc0.below hb8
        have hFe := hFc0.trans (Fr.of_below hb8)
        have be := boxed_below bc0 hb8
        have hse := Nat.le_trans hsc0 hb8.size
        clear hb8 ct bc0 hTc0 hFc0 hsc0
        have e9 : IntKind.i64.wrap (((pre.length : Nat) : Int) + 1 + (((pre'.length : Nat) : Int) + 1)) = ((pre.length + 1 + (pre'.length + 1) : Nat) : Int) := by rw [IntWalk.i64_in _ (by omega)]; omega
        go_wp2
        refine region_still_tail 18 (by kernel_rfl) (by kernel_rfl) (fun wg hwg => ?_)
        have hTg : Tb base wg p B cap l0 := by rw [hwg]; exact hTe.drew
        have hFg : Fr p B w wg := by rw [hwg]; exact hFe.drew
        have bg : Boxed wg w.heap.size 92 (.pointer (some ⟨p, 0, none⟩)) := by rw [hwg]; exact be
        have hsg : w.heap.size + 2 ≤ wg.heap.size := by rw [hwg]; exact hse
        clear hwg hTe hFe be hse
        have ct := bg.cell
        have hpg := hTg.head
        have hrl0 := HG0.out.rl r hrn
        have hcap := hTg.le
        have hl0' := HL0.out
        obtain ⟨u3, hu3⟩ : ∃ q, q = recAt r + 3 := ⟨_, rfl⟩
        obtain ⟨m3, hm3⟩ : ∃ q, q = recAt (n - 1) + 3 := ⟨_, rfl⟩
        have s1 : IntKind.i64.wrap (((recAt r : Nat) : Int) + 3) = ((u3 : Nat) : Int) := by rw [IntWalk.i64_in _ (by omega)]; omega
        have s2 : IntKind.i64.wrap (((recAt (n - 1) : Nat) : Int) + 3) = ((m3 : Nat) : Int) := by rw [IntWalk.i64_in _ (by omega)]; omega
        have s3 : ((u3 : Nat) : Int) ≤ (cap : Int) := by omega
        have s3' : u3 ≤ cap := by omega
        have s4 : ((m3 : Nat) : Int) ≤ (cap : Int) := by omega
        have s4' : m3 ≤ cap := by omega
        have s5 : ((recAt r : Nat) : Int) ≤ ((u3 : Nat) : Int) := by omega
        have s5' : recAt r ≤ u3 := by omega
        have s6 : ((recAt (n - 1) : Nat) : Int) ≤ ((m3 : Nat) : Int) := by omega
        have s6' : recAt (n - 1) ≤ m3 := by omega
        have s7 : u3 - recAt r = 3 := by omega
        have s8 : m3 - recAt (n - 1) = 3 := by omega
        have HU := Lib.hid hu3
        have HM3 := Lib.hid hm3
        have s9 : ¬ cap = recAt r := by omega
        have s10 : ¬ cap = recAt (n - 1) := by omega
        clear hu3 hm3
        have hcopy : (Builtin.copy_ #[31, 31] 3 #[.slice (some ⟨B, recAt r, none⟩) 3 (cap - recAt r), .slice (some ⟨B, recAt (n - 1), none⟩) 3 (cap - recAt (n - 1))]).run Try.prog wg =
            .ok (goInt 3) (wg.setCells B (recAt r) [.int .i64 (ati l0 (recAt (n - 1))), .int .i64 (ati l0 (recAt (n - 1) + 1)), .int .i64 (ati l0 (recAt (n - 1) + 2))]) := by
          refine run_copy_cells (P := Try.prog) wg 31 31 3 3 B (recAt r) 3 (cap - recAt r) ⟨B, recAt (n - 1), none⟩ 3 (cap - recAt (n - 1)) [.int .i64 (ati l0 (recAt (n - 1))), .int .i64 (ati l0 (recAt (n - 1) + 1)), .int .i64 (ati l0 (recAt (n - 1) + 2))] Try.underlying31 info3s rfl
            (fun j v hv => ?_) (fun j hj => ?_) (fun j hj => hTg.frz _) (fun v hv => ?_)
          · have ha : (⟨B, recAt (n - 1), none⟩ : Addr).add j = ⟨B, recAt (n - 1) + j, none⟩ := addr_add _ _ _
            have hj : j < 3 := by have := (List.getElem?_eq_some_iff.1 hv).1; simpa using this
            rw [ha, hTg.cell _ (by omega)]
            rcases (by omega : j = 0 ∨ j = 1 ∨ j = 2) with rfl | rfl | rfl
            · simpa using hv
            · simpa using hv
            · simpa using hv
          · simp only [List.length_cons, List.length_nil] at hj
            rw [hTg.cell _ (by omega)]; rfl
          · simp only [List.mem_cons, List.not_mem_nil, or_false] at hv
            rcases hv with rfl | rfl | rfl <;> rfl
        have hTh : Tb base (wg.setCells B (recAt r) [.int .i64 (ati l0 (recAt (n - 1))), .int .i64 (ati l0 (recAt (n - 1) + 1)), .int .i64 (ati l0 (recAt (n - 1) + 2))]) p B cap
            (((l0.set (recAt r) (ati l0 (recAt (n - 1)))).set (recAt r + 1) (ati l0 (recAt (n - 1) + 1))).set (recAt r + 2) (ati l0 (recAt (n - 1) + 2))) := ((hTg.set _ _).set _ _).set _ _
        have hFh : Fr p B w (wg.setCells B (recAt r) [.int .i64 (ati l0 (recAt (n - 1))), .int .i64 (ati l0 (recAt (n - 1) + 1)), .int .i64 (ati l0 (recAt (n - 1) + 2))]) := ((hFg.setCell (.inr (.inl rfl)) _).setCell (.inr (.inl rfl)) _).setCell (.inr (.inl rfl)) _
        have bh : Boxed (wg.setCells B (recAt r) [.int .i64 (ati l0 (recAt (n - 1))), .int .i64 (ati l0 (recAt (n - 1) + 1)), .int .i64 (ati l0 (recAt (n - 1) + 2))]) w.heap.size 92 (.pointer (some ⟨p, 0, none⟩)) :=
          (Below.heap_setCell _ _ _ _ (by simp; omega)).trans ((Below.heap_setCell _ _ _ _ (by simp; omega)).trans ((Below.heap_setCell _ _ _ _ (by simp; omega)).trans bg))
        have hsh : w.heap.size + 2 ≤ (wg.setCells B (recAt r) [.int .i64 (ati l0 (recAt (n - 1))), .int .i64 (ati l0 (recAt (n - 1) + 1)), .int .i64 (ati l0 (recAt (n - 1) + 2))]).heap.size := by simpa [World.setCells, World.setCell] using hsg
        have HT3 := Lib.hid hTh
        have HB3 := Lib.hid bh
        have HF3 := Lib.hid hFh
        have HS3 := Lib.hid hsh
        have HCP := Lib.hid hcopy
        clear hTh bh hFh hsh hcopy
        clear hl0'
        simp only [List.take_succ_cons, List.take_zero, List.drop_succ_cons, List.drop_zero]
        repeat still_step
        still_call (by simpa using recordAt_any (r : Int) _ (by omega) (by omega))
        repeat still_step
        still_call (by simpa using recordAt_any (r : Int) _ (by omega) (by omega))
        repeat still_step
        refine wpStill_nil ?_
        go_wp2
        rw [HCP.out]
        have hTh := HT3.out
        have bh := HB3.out
        have hFh := HF3.out
        have hsh := HS3.out
        have hll3 : (((l0.set (recAt r) (ati l0 (recAt (n - 1)))).set (recAt r + 1) (ati l0 (recAt (n - 1) + 1))).set (recAt r + 2) (ati l0 (recAt (n - 1) + 2))).length = l0.length := by simp
        clear HT3 HB3 HF3 HS3 HCP ct hpg bg hTg hFg hsg
        have HMV : Hid (movL l0 r (n - 1) lead = (((l0.set (recAt r) (ati l0 (recAt (n - 1)))).set (recAt r + 1) (ati l0 (recAt (n - 1) + 1))).set (recAt r + 2) (ati l0 (recAt (n - 1) + 2))).set lead ((r : Int) + 1)) := rfl
        generalize ((l0.set (recAt r) (ati l0 (recAt (n - 1)))).set (recAt r + 1) (ati l0 (recAt (n - 1) + 1))).set (recAt r + 2) (ati l0 (recAt (n - 1) + 2)) = l3 at *
        generalize wg.setCells B (recAt r) [.int .i64 (ati l0 (recAt (n - 1))), .int .i64 (ati l0 (recAt (n - 1) + 1)), .int .i64 (ati l0 (recAt (n - 1) + 2))] = wh at *
        have ct := bh.cell
        have hph := hTh.head
        have cl := hTh.cell lead (by omega)
        have fl := hTh.frz lead
        have i4 : ((lead : Nat) : Int) < (l3.length : Int) := by omega
        have e3 : IntKind.i64.wrap (((r : Nat) : Int) + 1) = ((r : Nat) : Int) + 1 := IntWalk.i64_in _ (by omega)
        have HLL3 := Lib.hid hll3
        clear hll3
        go_wp2
        go_meet
        case rel => exact ⟨_, _, _, by go_num, .inr ⟨HR.out, pre', post', by rw [HJJ.out]; exact HC'.out, rfl, rfl, rfl⟩, by omega, by rw [HJJ.out, HLE.out, HMV.out]; exact hTh.set lead _, hFh.setCell (.inr (.inl rfl)) _, (Below.heap_setCell _ _ _ _ (by simp; omega)).trans bh, by simpa [World.setCell] using hsh⟩
    case rest =>
      obtain ⟨k1, l1, C1, rfl, HM, hk1, hTj, hFj, bj, hsj⟩ := hcut
      obtain ⟨g1, hl1, h13⟩ := HG0.out.move hrn HM.out
      have hl1n : l1.length = wlen n := hl1.trans HL0.out
      have hmb : recAt (n - 1) + 2 < l1.length := g1.rl (n - 1) (by omega)
      have HG1 := Lib.hid g1
      have HL1 := Lib.hid hl1n
      have HA0 := Lib.hid ha0
      have H13 := Lib.hid h13
      clear g1 hl1 hl1n hC0 ha0 h13
      have ct := bj.cell
      have hpj := hTj.head
      obtain ⟨q0, hq0⟩ : ∃ q, q = recAt (n - 1) := ⟨_, rfl⟩
      obtain ⟨q1, hq1⟩ : ∃ q, q = recAt (n - 1) + 1 := ⟨_, rfl⟩
      obtain ⟨q2, hq2⟩ : ∃ q, q = recAt (n - 1) + 2 := ⟨_, rfl⟩
      have c0 := hTj.cell q0 (by omega)
      have c1 := hTj.cell q1 (by omega)
      have c2 := hTj.cell q2 (by omega)
      have f0 := hTj.frz q0
      have f1 := hTj.frz q1
      have f2 := hTj.frz q2
      have i0 : (q0 : Int) < (l1.length : Int) := by omega
      have i1 : (q1 : Int) < (l1.length : Int) := by omega
      have i2 : (q2 : Int) < (l1.length : Int) := by omega
      have hq2b : q2 < 100000010 := by have := HL1.out; omega
      have e1 : IntKind.i64.wrap ((q0 : Int) + 1) = (q1 : Int) := by rw [IntWalk.i64_in _ (by omega)]; omega
      have e2 : IntKind.i64.wrap ((q0 : Int) + 2) = (q2 : Int) := by rw [IntWalk.i64_in _ (by omega)]; omega
      have b1 : ¬ B = w.heap.size := by omega
      have b2 : ¬ B = p := fun e => hT.ne e.symm
      have r3 : ¬ q0 = q1 := by omega
      have r4 : ¬ q0 = q2 := by omega
      have r5 : ¬ q1 = q2 := by omega
      have r3' : ¬ q1 = q0 := by omega
      have r4' : ¬ q2 = q0 := by omega
      have r5' : ¬ q2 = q1 := by omega
      have HZ : Hid (zerL l1 (n - 1) = ((l1.set q0 0).set q1 0).set q2 0) := by show _ = _; rw [hq0, hq1, hq2]; rfl
      rw [← hq0]
      have HQ0 := Lib.hid hq0
      clear hq0 hq1 hq2 hmb
      go_wp2
      go_region_held3 (fun w' => w'.cell? ⟨w.heap.size, 0, none⟩ = some (.pointer (some ⟨p, 0, none⟩)) ∧ w'.cell? ⟨p, 0, none⟩ = some (.slice (some ⟨B, 0, none⟩) l1.length cap)) (simp [*, World.cell?_alloc_some, World.cell?_setCell_far, cell_set_off]) (fail)
      have hTz : Tb base (((wc.setCell ⟨B, q0, none⟩ (.int .i64 0)).setCell ⟨B, q1, none⟩ (.int .i64 0)).setCell ⟨B, q2, none⟩ (.int .i64 0)).drew p B cap (zerL l1 (n - 1)) := by rw [HZ.out]; exact (((hTj.set q0 0).set q1 0).set q2 0).drew
      have hFz : Fr p B w (((wc.setCell ⟨B, q0, none⟩ (.int .i64 0)).setCell ⟨B, q1, none⟩ (.int .i64 0)).setCell ⟨B, q2, none⟩ (.int .i64 0)).drew := (((hFj.setCell (.inr (.inl rfl)) _).setCell (.inr (.inl rfl)) _).setCell (.inr (.inl rfl)) _).drew
      have bz : Boxed (((wc.setCell ⟨B, q0, none⟩ (.int .i64 0)).setCell ⟨B, q1, none⟩ (.int .i64 0)).setCell ⟨B, q2, none⟩ (.int .i64 0)).drew w.heap.size 92 (.pointer (some ⟨p, 0, none⟩)) :=
        (Below.heap_setCell _ _ _ _ (by simp; omega)).trans ((Below.heap_setCell _ _ _ _ (by simp; omega)).trans ((Below.heap_setCell _ _ _ _ (by simp; omega)).trans bj))
      have hsz : w.heap.size + 2 ≤ (((wc.setCell ⟨B, q0, none⟩ (.int .i64 0)).setCell ⟨B, q1, none⟩ (.int .i64 0)).setCell ⟨B, q2, none⟩ (.int .i64 0)).drew.heap.size := by simpa [World.setCell] using hsj
      generalize (((wc.setCell ⟨B, q0, none⟩ (.int .i64 0)).setCell ⟨B, q1, none⟩ (.int .i64 0)).setCell ⟨B, q2, none⟩ (.int .i64 0)).drew = wz at *
      have hgz := HG1.out.zer (m := n - 1) (by omega) (by omega)
      have g3 := hgz.1.g hgz.2
      have hlz : (zerL l1 (n - 1)).length = wlen n := zerL_len.trans HL1.out
      have hb8 := HG1.out.b8
      rw [HQ0.out]
      clear hgz HZ c0 c1 c2 f0 f1 f2 i0 i1 i2 hq2b e1 e2 b1 b2 r3 r4 r5 r3' r4' r5' hTj hFj bj hsj ct hpj
      generalize hzz : zerL l1 (n - 1) = lz at *
      have HZZ := Lib.hid hzz
      clear hzz
      have HG3 := Lib.hid g3
      have HLZ := Lib.hid hlz
      clear g3 hlz
      have e10 : IntKind.i64.wrap (((bkts n : Nat) : Int) - 1) = ((bkts n - 1 : Nat) : Int) := by rw [IntWalk.i64_in _ (by omega)]; omega
      go_upto_if 125 with (go_at_call 63; refine (buckets_any ((n - 1 : Nat) : Int) _ (by omega) (by omega)).mono ?_; rintro e wb ⟨rfl, hwb⟩; rw [Int.toNat_natCast, hwb]; clear hwb wb)
      go_cut [8, 15] from 19 (fun v8 _ W => ∃ k2 l2 C2, v8 = .int .i64 ((pre.length + 1 + k1 + k2 : Nat) : Int) ∧ Hid (JoinS lz (n - 1) (bkts n) C1 k2 l2 C2) ∧ l2.length = wlen n ∧ k2 ≤ 200000 ∧ Tb base W p B cap l2 ∧ Fr p B w W ∧ Boxed W w.heap.size 92 (.pointer (some ⟨p, 0, none⟩)) ∧ w.heap.size + 2 ≤ W.heap.size)
      case first =>
        by_cases hb : bkts (n - 1) = bkts n - 1
        · have hb' : (((bkts (n - 1) : Nat) : Int) == ((bkts n - 1 : Nat) : Int)) = true := by rw [hb]; simp
          have HB := Lib.hid hb
          clear hb
          have ct := bz.cell
          have h81 := bkts8 (n - 1)
          have hp2 := pow2_pos (bkts n - 1)
          have hp3 := pow2_le (b := bkts n - 1) (by omega)
          have e11 : IntKind.i64.wrap (((bkts n - 1 : Nat) : Int) - ((pow2 (bkts n - 1) : Nat) : Int)) = ((bkts n - 1 - pow2 (bkts n - 1) : Nat) : Int) := by rw [IntWalk.i64_in _ (by omega)]; omega
          go_wp2_with (go_at_call 98; refine (power_any ((bkts n - 1 : Nat) : Int) _ (by omega) (by omega)).mono ?_; rintro e wb ⟨rfl, hwb⟩; rw [Int.toNat_natCast, hwb]; clear hwb wb)
          obtain ⟨j, hj⟩ : ∃ j, j = bkts n - 1 := ⟨_, rfl⟩
          obtain ⟨i, hi2⟩ : ∃ i, i = bkts n - 1 - pow2 (bkts n - 1) := ⟨_, rfl⟩
          have hjn : j < bkts n := by omega
          have hin : i < bkts n := by omega
          have hij : i < j := by omega
          rw [← hi2, ← hj]
          have HJ0 := Lib.hid hj
          have HI0 := Lib.hid hi2
          clear hj hi2 e10 e11 hb' hp2 hp3 h81
          have hlz1 : lz.length ≤ 100000000 := by have := HLZ.out; omega
          have hlz4 : 4 ≤ lz.length := by have := HLZ.out; omega
          have hall : ∀ k, k < bkts n → ∀ W : World, TblR W p B 0 cap lz → Calls Try.prog 71 #[.pointer (some ⟨p, 0, none⟩), .int .i64 (k : Nat)] W fun e W' =>
              ∃ v, e = .returned v ∧ W'.ownsRow W.heap.size 3 1 v (C1 k).length ((C1 k).map encN) ∧ Below W.heap.size W W' := fun k hk W hTW => by
            have h := all_any p B 0 cap k lz (wf (headAt k) (C1 k)) (by omega) hlz1 hlz4 W hTW (HG3.out.chn k hk).chn (by rw [wf_len]; have := HG3.out.clen hk; omega)
            have hm : (wf (headAt k) (C1 k)).map encR = (C1 k).map encN := by
              have : (wf (headAt k) (C1 k)).map encR = ((wf (headAt k) (C1 k)).map (·.1)).map encN := by rw [List.map_map]; rfl
              rw [this, wf_map]
            rw [wf_len, hm] at h
            exact h
          have hXi := hall i hin
          have hXj := hall j hjn
          have hci := HG3.out.clen hin
          have hcj := HG3.out.clen hjn
          clear hall
          go_cut [17, 18] from 19 (fun v17 v18 V => V.ownsRow wz.heap.size 3 1 v17 (C1 i).length ((C1 i).map encN) ∧ V.ownsRow wz.heap.size 3 1 v18 (C1 j).length ((C1 j).map encN) ∧ Below wz.heap.size wz V)
          case first =>
            rename_i J K' hJ hK'
            have HXI := Lib.hid hXi
            have HXJ := Lib.hid hXj
            clear hXi hXj
            go_region_held3 (fun w' => w'.cell? ⟨w.heap.size, 0, none⟩ = some (.pointer (some ⟨p, 0, none⟩))) (first | assumption | simp [*]) (first
              | (go_at_call 71; refine (HXJ.out _ hT1.r).mono ?_; rintro e V2 ⟨v2, rfl, hv2, hb2⟩; have ct2 := cell_below hb2 ct1; have HV2 := Lib.hid hv2; clear hv2)
              | (go_at_call 71; refine (HXI.out _ hTz.drew.r).mono ?_; rintro e V1 ⟨v1, rfl, hv1, hb1⟩; have hT1 := hTz.drew.below hb1; have ct1 := (boxed_below (show Boxed wz.drew w.heap.size 92 _ from bz) hb1).cell; have HV1 := Lib.hid hv1; clear hv1))
            all_goals
              refine hK' _ _ (Met.intro (hJ _ _ ?_))
              (repeat apply Exists.intro)
              refine ⟨?rel, rfl⟩
              case rel => exact ⟨own_move (w1 := V2) HV1.out (fun k hk => hb2.block k (HV1.out.lt k hk).2), own_mono HV2.out hb1.size, ((Below.refl _ _).drew.trans hb1).trans (hb2.mono hb1.size)⟩
          case rest =>
          obtain ⟨hv17, hv18, hbV⟩ := hcut
          obtain ⟨A, c, rfl, hcX, hRX⟩ := own_reads_of_le (enc := encN) (d := 0) (xs := C1 i) (by rw [encs_eq]; exact hv17)
          obtain ⟨A', c', rfl, hcY, hRY⟩ := own_reads_of_le (enc := encN) (d := 0) (xs := C1 j) (by rw [encs_eq]; exact hv18)
          have hTV := hTz.below hbV
          have hFV := hFz.trans (Fr.of_below hbV)
          have bV := boxed_below bz hbV
          have hsV := Nat.le_trans hsz hbV.size
          have hzV := hbV.size
          have hpz := hTz.ltp
          have hBz := hTz.ltB
          have hne : ∀ (V : World) (u : Value) (xs : List Value) (m k : Nat), V.ownsRow wz.heap.size 3 1 u m xs → k < wz.heap.size → some k ≠ u.ownBlock := fun V u xs m k h hk e => by have := (h.lt k e.symm).1; omega
          have hX1 := hne _ _ _ _ p hv17 hpz
          have hX2 := hne _ _ _ _ B hv17 hBz
          have hY1 := hne _ _ _ _ p hv18 hpz
          have hY2 := hne _ _ _ _ B hv18 hBz
          have HRX := Lib.hid hRX
          have HRY := Lib.hid hRY
          have HVX := Lib.hid hv17
          have HVY := Lib.hid hv18
          have hmf : ∀ (fn : Fn) (first cap : Array Value) (w : World), (Instr.makeFunc fn first cap).run Try.prog w = .ok (.func fn first cap) w := fun _ _ _ _ => rfl
          have e13 : IntKind.i64.wrap (((C1 i).length : Int) + ((C1 j).length : Int)) = (((C1 i).length + (C1 j).length : Nat) : Int) := by rw [IntWalk.i64_in _ (by omega)]; omega
          have e14 : IntKind.i64.wrap (((pre.length : Nat) : Int) + 1 + (k1 : Int) + (((C1 i).length + (C1 j).length : Nat) : Int)) = ((pre.length + 1 + k1 + ((C1 i).length + (C1 j).length) : Nat) : Int) := by rw [IntWalk.i64_in _ (by omega)]; omega
          clear hne hRX hRY hv17 hv18 hXi hXj hTz hFz bz hsz hbV ct
          have ct := bV.cell
          go_wp2_with fail
          refine (link_none base wc p B cap lz j (by omega) hTV (HG3.out.hl j hjn)).mono ?_
          rintro e V4 ⟨rfl, hT4, hF4⟩
          have b4 := hF4.boxed bV (by omega) (by omega)
          have hFw4 := hFV.trans hF4
          have hs4 := Nat.le_trans hsV hF4.size
          have HX4 := Lib.hid (own_move (w1 := V4) HVX.out (fun k hk => hF4.block k (HVX.out.lt k hk).2 (fun e => hX1 (by rw [hk, e])) (fun e => hX2 (by rw [hk, e]))))
          have HY4 := Lib.hid (own_move (w1 := V4) HVY.out (fun k hk => hF4.block k (HVY.out.lt k hk).2 (fun e => hY1 (by rw [hk, e])) (fun e => hY2 (by rw [hk, e]))))
          have hl4 : (linkL lz (headAt j) []).length = lz.length := linkL_len _ _ _
          have hmc : mergedL (linkL lz (headAt j) []) (C1 i) (C1 j) = mergedL lz (C1 i) (C1 j) := mergedL_congr (fun r => linkL_ati _ _ _ _ (fun e => head_rec (a := 0) e.symm (by omega)) (by simp)) _ _ _ (Nat.le_refl _)
          have hJL : joiL lz j (C1 i) (C1 j) = linkL (linkL lz (headAt j) []) (headAt i) (mergedL lz (C1 i) (C1 j)) := by unfold joiL; rw [HI0.out, ← HJ0.out]
          have hMb : ∀ r ∈ mergedL lz (C1 i) (C1 j), recAt r + 2 < lz.length ∧ r ≤ 1000000 := fun r hr => by
            have hrn : r < n - 1 := by
              rcases mergedL_mem.1 hr with h | h
              · exact HG3.out.lt hin h
              · exact HG3.out.lt hjn h
            exact ⟨HG3.out.rl r hrn, by omega⟩
          have hML : (mergedL lz (C1 i) (C1 j)).length ≤ 1000000 := by
            have := (mergedL_perm lz _ (C1 i) (C1 j) (Nat.le_refl _)).length_eq
            rw [this, List.length_append]; omega
          have hXb : ∀ k, k < bkts n → ∀ r ∈ C1 k, recAt r < (linkL lz (headAt j) []).length ∧ r ≤ 100000 := fun k hk r hr => by
            have h1 := HG3.out.lt hk hr
            have h2 := HG3.out.rl r h1
            rw [hl4]; exact ⟨by omega, by omega⟩
          have hhi : headAt i < (linkL lz (headAt j) []).length := by rw [hl4]; exact HG3.out.hl i hin
          have hmg : ∀ W : World, TblR W p B 0 cap (linkL lz (headAt j) []) → ReadsOf encN 0 W A (C1 i).length (C1 i) → ReadsOf encN 0 W A' (C1 j).length (C1 j) → W.cell? ⟨w.heap.size, 0, none⟩ = some (.pointer (some ⟨p, 0, none⟩)) →
              Calls Try.prog 104 #[.slice A (C1 i).length c, .slice A' (C1 j).length c', .func (.func 105) #[] #[.pointer (some ⟨w.heap.size, 0, none⟩)]] W fun e W' =>
                ∃ v, e = .returned v ∧ W'.ownsRow W.heap.size 3 1 v (mergedL lz (C1 i) (C1 j)).length ((mergedL lz (C1 i) (C1 j)).map encN) ∧ Below W.heap.size W W' := fun W h1 h2 h3 h4 => by
            have h := merged_any W p B 0 cap w.heap.size _ h1 (C1 i) (C1 j) A A' c c' h2 hcX h3 hcY (by omega) (by omega) (hXb i hin) (hXb j hjn) h4
            rw [hmc] at h
            exact h
          have hlk : ∀ (W : World) (b2 : Nat) (v : Value), Tb base W p B cap (linkL lz (headAt j) []) → W.ownsRow b2 3 1 v (mergedL lz (C1 i) (C1 j)).length ((mergedL lz (C1 i) (C1 j)).map encN) → some p ≠ v.ownBlock → some B ≠ v.ownBlock →
              Calls Try.prog 103 #[.pointer (some ⟨p, 0, none⟩), .int .i64 (i : Nat), v] W fun e W' => e = .returned (.tuple #[]) ∧ Tb base W' p B cap (joiL lz j (C1 i) (C1 j)) ∧ Fr p B W W' := fun W b2 v h1 h2 h3 h4 => by
            have h := link_any base W p B cap _ i (by omega) (mergedL lz (C1 i) (C1 j)) b2 v h1 (by omega) hhi (by rw [hl4]; exact hMb) hML h2 h3 h4
            rw [← hJL] at h
            exact h
          have HMG := Lib.hid hmg
          have HLK := Lib.hid hlk
          have hpV4 := hT4.ltp
          have hBV4 := hT4.ltB
          have HT4 := Lib.hid hT4
          have ct4 := b4.cell
          clear hmg hlk hJL hmc hMb hML hXb hhi hl4 hT4 hTV hFV bV hsV ct hF4 HRX HRY HVX HVY hX1 hX2 hY1 hY2
          go_wp2
          go_region_held3 (fun w' => w'.cell? ⟨w.heap.size, 0, none⟩ = some (.pointer (some ⟨p, 0, none⟩))) (first | assumption | simp [*]) (first
            | (go_at_call 103; refine (HLK.out _ _ _ HT5.out HV5.out (fun e => by have := (HV5.out.lt p e.symm).1; have h8 : V4.drew.heap.size = V4.heap.size := rfl; omega) (fun e => by have := (HV5.out.lt B e.symm).1; have h8 : V4.drew.heap.size = V4.heap.size := rfl; omega)).mono ?_; rintro e V6 ⟨rfl, hT6, hF6⟩; have b6 := hF6.boxed b5 (by omega) (by omega); have ct6 := b6.cell; have HT6 := Lib.hid hT6; clear hT6)
            | (go_at_call 104; refine (HMG.out _ HT4.out.drew.r (own_reads_of' (enc := encN) HX4.out) (own_reads_of' (enc := encN) HY4.out) ct4).mono ?_; rintro e V5 ⟨v5, rfl, hv5, hb5⟩; have HT5 := Lib.hid (HT4.out.drew.below hb5); have b5 := boxed_below (show Boxed V4.drew w.heap.size 92 _ from b4) hb5; have ct5 := b5.cell; have HV5 := Lib.hid hv5; clear hv5))
          all_goals
            go_wp2
            go_meet
            case rel =>
              refine ⟨(C1 i).length + (C1 j).length, joiL lz j (C1 i) (C1 j), fun k => if k = i then mergedL lz (C1 i) (C1 j) else C1 k, by go_num, ?_, ?_, by omega, HT6.out, (hFw4.drew.trans (Fr.of_below hb5)).trans hF6, b6, ?_⟩
              · refine .inr ?_
                rw [← HI0.out, ← HJ0.out]
                exact ⟨HB.out.trans HJ0.out.symm, rfl, rfl, rfl⟩
              · exact (joiL_len _ _ _ _).trans HLZ.out
              · exact Nat.le_trans hs4 (Nat.le_trans hb5.size hF6.size)
        · have hb' : (((bkts (n - 1) : Nat) : Int) == ((bkts n - 1 : Nat) : Int)) = false := by simpa using (show ¬ ((bkts (n - 1) : Nat) : Int) = ((bkts n - 1 : Nat) : Int) by omega)
          have HB := Lib.hid hb
          clear hb
          go_wp2
          go_meet
          case rel => exact ⟨0, lz, C1, by go_num, .inl ⟨HB.out, rfl, rfl, rfl⟩, HLZ.out, by omega, hTz, hFz, bz, hsz⟩
      case rest =>
        obtain ⟨k2, l2, C2, rfl, HJ, hl2, hk2, hTk, hFk, bk, hsk⟩ := hcut
        have ct := bk.cell
        have hl6 : l2.length ≤ 100000000 := by omega
        have hl7 : 60 ≤ l2.length := by omega
        have hsz2 := sized_any base wc p B cap l2 (n - 1) (by omega) hTk hl6 hl7 (by omega)
        have hFB := hFk.size
        have HTK := Lib.hid hTk
        clear hTk hl2 hl6 hl7
        go_wp2_with fail
        refine hsz2.mono ?_
        rintro e wl ⟨rfl, B', cap', hTl, hFl, hBl⟩
        have HTL := Lib.hid hTl
        clear hTl hsz2
        go_wp2
        refine bodyPost_ret (v := .tuple #[.int .i64 ((pre.length + 1 + k1 + k2 : Nat) : Int), .int .i64 0]) (by simp [results, Try.results76, go_sem]) rfl ?_
        exact .inr ⟨pre.length + 1 + k1 + k2, sizedL l2 (n - 1), C2, ⟨pre, r, post, k1, l1, C1, k2, l2, HC.out, HI.out, HP.out, by rw [HFR.out, HRL.out, HCC.out]; exact HM.out, by rw [HZZ.out]; exact HJ.out, rfl, rfl⟩, rfl, B', cap', HTL.out, hFk.trans hFl, hBl.imp id (fun e => Nat.le_trans hFB e)⟩
end Go.Proofs.Ytdcomhdadnhpnaa
