/- (t) Count and Put, as the package gives them. -/
import Derived.Test.YtdcomhdadnhpnaaM6
set_option linter.unusedSimpArgs false
set_option linter.unusedVariables false
namespace Go.Proofs.Ytdcomhdadnhpnaa
open Go.RowKit

def CountE (l : List Int) (e : Ending) : Prop :=
  (¬ ValidL l ∧ e = .returned (.tuple #[.int .i64 0, .int .i64 600])) ∨ (ValidL l ∧ e = .returned (.tuple #[.int .i64 (ati l 0), .int .i64 0]))
set_option maxRecDepth 100000 in
set_option maxHeartbeats 1000000 in
theorem countX_any (A : Option Addr) (c : Nat) (l : List Int) (w : World) (hR : RdL w A l) :
    Calls Try.prog 45 #[.slice A l.length c] w fun e W' => CountE l e ∧ Below w.heap.size w W' := by
  go_enter Try.func45, Try.ntmps45
  go_wp2_with fail
  refine (opened_any A c l 0 w hR).mono ?_
  rintro e w1 ⟨(⟨hV, rfl⟩ | ⟨hV, hh, rfl⟩ | ⟨hV, hh, p, B, cap, rfl, hT⟩), hB1⟩
  · go_wp2
    refine bodyPost_ret (v := .tuple #[.int .i64 0, .int .i64 600]) (by simp [results, Try.results45, go_sem]) rfl ?_
    exact ⟨.inl ⟨hV, rfl⟩, hB1⟩
  · exact absurd (by decide) hh
  · have h60 := hV.len60
    have HV := Lib.hid hV
    have HT := Lib.hid hT
    clear hV hT hh
    go_wp2_with fail
    refine (count_any _ p B 0 cap l HT.out.r (by omega)).mono ?_
    rintro e w2 ⟨rfl, rfl⟩
    go_wp2
    refine bodyPost_ret (v := .tuple #[.int .i64 (ati l 0), .int .i64 0]) (by simp [results, Try.results45, go_sem]) rfl ?_
    exact ⟨.inr ⟨HV.out, rfl⟩, hB1⟩

/-- find, on a table of the call's own -/
theorem find_tab {base p B cap : Nat} {l : List Int} {n : Nat} {C : Nat → List Nat} {h x : Int} (hH : HeadOk l n) (g : G l n (bkts n) C) (hh0 : 0 ≤ h) (hh1 : h ≤ 2147483647) (W : World) (hT : Tb base W p B cap l) :
    Calls Try.prog 86 #[.pointer (some ⟨p, 0, none⟩), .agg #[.int .i64 h, .int .i64 x]] W fun e W' =>
      e = .returned (.tuple #[.int .i64 (findC l h x (wf (headAt (bkt h.toNat (bkts n))) (C (bkt h.toNat (bkts n)))) 0).1, .int .i64 (findC l h x (wf (headAt (bkt h.toNat (bkts n))) (C (bkt h.toNat (bkts n)))) 0).2.1, .int .i64 (findC l h x (wf (headAt (bkt h.toNat (bkts n))) (C (bkt h.toNat (bkts n)))) 0).2.2]) ∧ Below W.heap.size W W' := by
  have hb0 := bkts_pos n
  have hnn := g.n1
  have hb1 := bkts_le n (by omega)
  have hlen := hH.len
  have hl60 := wlen_ge n
  have hll := wlen_le n (by omega)
  have hi := bkt_lt h.toNat (b := bkts n) (by omega)
  have ha1 := hH.b1
  exact find_any p B 0 cap h x l _ (by omega) (by omega) W hh0 (by omega) hT.r (by omega) (by omega) (by rw [hH.b1']; exact (g.chn _ hi).chn)
    (fun q hq => by
      have hm : q.1 ∈ C (bkt h.toNat (bkts n)) := by rw [← wf_map (headAt (bkt h.toNat (bkts n))) (C (bkt h.toNat (bkts n)))]; exact List.mem_map_of_mem hq
      have := g.lt hi hm
      exact ⟨g.rl _ this, by omega⟩)
    (by rw [wf_len]; have := g.clen hi; omega)

/-- what Put returns -/
def PutQ (l : List Int) (h x v : Int) (l' : List Int) (c : Int) : Prop :=
  (¬ ValidL l ∧ l' = [] ∧ c = 600) ∨
  (ValidL l ∧ ¬ (0 ≤ h ∧ h ≤ 2147483647) ∧ l' = [] ∧ c = 1) ∨
  (ValidL l ∧ (0 ≤ h ∧ h ≤ 2147483647) ∧ ∃ n C, HeadOk l n ∧ G l n (bkts n) C ∧
    ((hasR l h x (C (bkt h.toNat (bkts n))) = false ∧ l' = [] ∧ c = 5) ∨
     (hasR l h x (C (bkt h.toNat (bkts n))) = true ∧ v ≠ x ∧ hasR l h v (C (bkt h.toNat (bkts n))) = true ∧ l' = [] ∧ c = 6) ∨
     ((v = x ∨ hasR l h v (C (bkt h.toNat (bkts n))) = false) ∧ c = 0 ∧ ∃ r, r ∈ C (bkt h.toNat (bkts n)) ∧ hits l h x r ∧ l' = l.set (recAt r + 1) v)))
def MadeE2 (base : Nat) (e : Ending) (W' : World) (R : List Int → Int → Prop) : Prop :=
  (∃ c, c ≠ 0 ∧ e = .returned (.tuple #[.slice none 0 0, .int .i64 c]) ∧ R [] c) ∨
  (∃ B cap l', e = .returned (.tuple #[.slice (some ⟨B, 0, none⟩) l'.length cap, .int .i64 0]) ∧ Rw base W' B cap l' ∧ R l' 0)
set_option maxRecDepth 100000 in
set_option maxHeartbeats 4000000 in
theorem putX_any (A : Option Addr) (c : Nat) (l : List Int) (h x v : Int) (w : World) (hR : RdL w A l) :
    Calls Try.prog 38 #[.slice A l.length c, .int .i64 h, .int .i64 x, .int .i64 v] w fun e W' => MadeE2 w.heap.size e W' (PutQ l h x v) ∧ Below w.heap.size w W' := by
  go_enter Try.func38, Try.ntmps38
  go_wp2_with fail
  refine (opened_any A c l h w hR).mono ?_
  rintro e w1 ⟨(⟨hV, rfl⟩ | ⟨hV, hh, rfl⟩ | ⟨hV, hh, p, B, cap, rfl, hT⟩), hB1⟩
  · go_wp2
    refine bodyPost_ret (v := .tuple #[.slice none 0 0, .int .i64 600]) (by simp [results, Try.results38, go_sem]) rfl ?_
    exact ⟨.inl ⟨600, by decide, rfl, .inl ⟨hV, rfl, rfl⟩⟩, hB1⟩
  · have HH := Lib.hid hh
    clear hh
    go_wp2
    refine bodyPost_ret (v := .tuple #[.slice none 0 0, .int .i64 1]) (by simp [results, Try.results38, go_sem]) rfl ?_
    exact ⟨.inl ⟨1, by decide, rfl, .inr (.inl ⟨hV, HH.out, rfl, rfl⟩)⟩, hB1⟩
  · obtain ⟨C, hH, g⟩ := validL_iff.1 hV
    generalize (ati l 0).toNat = n at hH g
    have hbld : ∀ (W : World) (x : Int), (Instr.build 43 #[(0, .int .i64 h), (1, .int .i64 x)]).run Try.prog W = .ok (.agg #[.int .i64 h, .int .i64 x]) W := fun _ _ => by kernel_rfl
    have hfind := fun (x : Int) (W : World) (hT : Tb w.heap.size W p B cap l) => find_tab (x := x) hH g hh.1 hh.2 W hT
    have hQ : ∀ l' c, ((hasR l h x (C (bkt h.toNat (bkts n))) = false ∧ l' = [] ∧ c = 5) ∨
     (hasR l h x (C (bkt h.toNat (bkts n))) = true ∧ v ≠ x ∧ hasR l h v (C (bkt h.toNat (bkts n))) = true ∧ l' = [] ∧ c = 6) ∨
     ((v = x ∨ hasR l h v (C (bkt h.toNat (bkts n))) = false) ∧ c = 0 ∧ ∃ r, r ∈ C (bkt h.toNat (bkts n)) ∧ hits l h x r ∧ l' = l.set (recAt r + 1) v)) → PutQ l h x v l' c := fun l' c q => .inr (.inr ⟨hV, hh, n, C, hH, g, q⟩)
    have HF := Lib.hid hfind
    have HQ := Lib.hid hQ
    have HT := Lib.hid hT
    have hrl : ∀ r ∈ C (bkt h.toNat (bkts n)), r ≤ 100000 ∧ recAt r + 2 < l.length := fun r hr => by
      have hi := bkt_lt h.toNat (b := bkts n) (by have := bkts_pos n; omega)
      have h1 := g.lt hi hr
      have := g.n1
      exact ⟨by omega, g.rl r h1⟩
    have HRL := Lib.hid hrl
    have hVle := hV.le
    clear hQ hV hh hH g hT hfind hrl
    by_cases hx : hasR l h x (C (bkt h.toNat (bkts n))) = true
    · obtain ⟨pre, r, post, hC, _, hhit, hfx⟩ := findC_wf_yes (f := headAt (bkt h.toNat (bkts n))) hx
      have hrC : r ∈ C (bkt h.toNat (bkts n)) := by rw [hC]; simp
      obtain ⟨hr1, hr2⟩ := HRL.out r hrC
      have HX := Lib.hid (And.intro hx (And.intro hrC hhit))
      clear hx hrC hhit hC
      have hf1 := HF.out x w1 HT.out
      rw [hfx] at hf1
      clear hfx
      have HF1 := Lib.hid hf1
      clear hf1
      go_wp2_with fail
      refine HF1.out.mono ?_
      rintro e w2 ⟨rfl, hB2⟩
      have HT2 := Lib.hid (HT.out.below hB2)
      have hs1 := hB1.size
      have HB2 := Lib.hid (hB1.trans (hB2.mono hs1))
      have hr0 : ¬ ((r : Int) < 0) := by omega
      by_cases hv : hasR l h v (C (bkt h.toNat (bkts n))) = true
      · obtain ⟨pre2, r2, post2, hC2, _, hhit2, hfv⟩ := findC_wf_yes (f := headAt (bkt h.toNat (bkts n))) hv
        have hf2 := HF.out v w2 HT2.out
        rw [hfv] at hf2
        clear hfv hC2
        have HF2 := Lib.hid hf2
        have HV2 := Lib.hid hv
        clear hf2 hv hhit2
        go_wp2_with fail
        refine HF2.out.mono ?_
        rintro e w3 ⟨rfl, hB3⟩
        have HT3 := Lib.hid (HT2.out.below hB3)
        have HB3 := Lib.hid (HB2.out.trans (hB3.mono HB2.out.size))
        by_cases hvx : v = x
        · try subst hvx
          go_wp2_with fail
          have hT4 := HT3.out.drew
          have hp4 := hT4.head
          have hfz := hT4.frz (recAt r + 1)
          have hcw := hT4.cell (recAt r + 1) (by omega)
          have hi0 : (0 : Int) ≤ ((recAt r : Nat) : Int) + 1 := by omega
          have hi1 : ((recAt r : Nat) : Int) + 1 < (l.length : Int) := by omega
          have hi2 : (((recAt r : Nat) : Int) + 1).toNat = recAt r + 1 := by omega
          have hwr : IntKind.i64.wrap (((recAt r : Nat) : Int) + 1) = ((recAt r : Nat) : Int) + 1 := IntWalk.i64_in _ (by omega)
          have HT4 := Lib.hid hT4
          clear hT4
          go_region_with (go_at_call 87; refine (recordAt_any _ _ (by omega) (by omega)).mono ?_; rintro e w5 ⟨rfl, rfl⟩; rw [Int.toNat_natCast])
          all_goals
            have hF5 : Fr p B w3 ((w3.setCell ⟨B, recAt r + 1, none⟩ (.int .i64 v)).drew) := ((Fr.refl p B w3).setCell (.inr (.inl rfl)) _).drew
            have hT5 := (HT3.out.set (recAt r + 1) v).drew
            have hp5 := hT5.head
            rw [List.length_set] at hp5
            have HT5 := Lib.hid hT5
            have HF5 := Lib.hid hF5
            clear hT5 hF5
            go_wp2
            refine bodyPost_ret (v := .tuple #[.slice (some ⟨B, 0, none⟩) l.length cap, .int .i64 0]) (by simp [results, Try.results38, go_sem]) rfl ?_
            exact ⟨.inr ⟨B, cap, l.set (recAt r + 1) v, by rw [List.length_set], HT5.out.rw_, HQ.out _ _ (.inr (.inr ⟨.inl (by first | exact rfl | trivial), rfl, r, HX.out.2.1, HX.out.2.2, rfl⟩))⟩, HB3.out.trans (Fr.below HF5.out HB3.out.size HT.out.pb HT.out.bb)⟩
        · go_wp2
          refine bodyPost_ret (v := .tuple #[.slice none 0 0, .int .i64 6]) (by simp [results, Try.results38, go_sem]) rfl ?_
          exact ⟨.inl ⟨6, by decide, rfl, HQ.out _ _ (.inr (.inl ⟨HX.out.1, hvx, HV2.out, rfl, rfl⟩))⟩, HB3.out⟩
      · have hv' : hasR l h v (C (bkt h.toNat (bkts n))) = false := by simpa using hv
        have hfv := findC_wf_no (f := headAt (bkt h.toNat (bkts n))) hv'
        have hf2 := HF.out v w2 HT2.out
        rw [hfv] at hf2
        clear hfv
        have HF2 := Lib.hid hf2
        have HV2 := Lib.hid hv'
        clear hf2 hv hv'
        go_wp2_with fail
        refine HF2.out.mono ?_
        rintro e w3 ⟨rfl, hB3⟩
        have HT3 := Lib.hid (HT2.out.below hB3)
        have HB3 := Lib.hid (HB2.out.trans (hB3.mono HB2.out.size))
        by_cases hvx : v = x
        · try subst hvx
          go_wp2_with fail
          have hT4 := HT3.out.drew
          have hp4 := hT4.head
          have hfz := hT4.frz (recAt r + 1)
          have hcw := hT4.cell (recAt r + 1) (by omega)
          have hi0 : (0 : Int) ≤ ((recAt r : Nat) : Int) + 1 := by omega
          have hi1 : ((recAt r : Nat) : Int) + 1 < (l.length : Int) := by omega
          have hi2 : (((recAt r : Nat) : Int) + 1).toNat = recAt r + 1 := by omega
          have hwr : IntKind.i64.wrap (((recAt r : Nat) : Int) + 1) = ((recAt r : Nat) : Int) + 1 := IntWalk.i64_in _ (by omega)
          have HT4 := Lib.hid hT4
          clear hT4
          go_region_with (go_at_call 87; refine (recordAt_any _ _ (by omega) (by omega)).mono ?_; rintro e w5 ⟨rfl, rfl⟩; rw [Int.toNat_natCast])
          all_goals
            have hF5 : Fr p B w3 ((w3.setCell ⟨B, recAt r + 1, none⟩ (.int .i64 v)).drew) := ((Fr.refl p B w3).setCell (.inr (.inl rfl)) _).drew
            have hT5 := (HT3.out.set (recAt r + 1) v).drew
            have hp5 := hT5.head
            rw [List.length_set] at hp5
            have HT5 := Lib.hid hT5
            have HF5 := Lib.hid hF5
            clear hT5 hF5
            go_wp2
            refine bodyPost_ret (v := .tuple #[.slice (some ⟨B, 0, none⟩) l.length cap, .int .i64 0]) (by simp [results, Try.results38, go_sem]) rfl ?_
            exact ⟨.inr ⟨B, cap, l.set (recAt r + 1) v, by rw [List.length_set], HT5.out.rw_, HQ.out _ _ (.inr (.inr ⟨.inl (by first | exact rfl | trivial), rfl, r, HX.out.2.1, HX.out.2.2, rfl⟩))⟩, HB3.out.trans (Fr.below HF5.out HB3.out.size HT.out.pb HT.out.bb)⟩
        · try subst hvx
          go_wp2_with fail
          have hT4 := HT3.out.drew
          have hp4 := hT4.head
          have hfz := hT4.frz (recAt r + 1)
          have hcw := hT4.cell (recAt r + 1) (by omega)
          have hi0 : (0 : Int) ≤ ((recAt r : Nat) : Int) + 1 := by omega
          have hi1 : ((recAt r : Nat) : Int) + 1 < (l.length : Int) := by omega
          have hi2 : (((recAt r : Nat) : Int) + 1).toNat = recAt r + 1 := by omega
          have hwr : IntKind.i64.wrap (((recAt r : Nat) : Int) + 1) = ((recAt r : Nat) : Int) + 1 := IntWalk.i64_in _ (by omega)
          have HT4 := Lib.hid hT4
          clear hT4
          go_region_with (go_at_call 87; refine (recordAt_any _ _ (by omega) (by omega)).mono ?_; rintro e w5 ⟨rfl, rfl⟩; rw [Int.toNat_natCast])
          all_goals
            have hF5 : Fr p B w3 ((w3.setCell ⟨B, recAt r + 1, none⟩ (.int .i64 v)).drew) := ((Fr.refl p B w3).setCell (.inr (.inl rfl)) _).drew
            have hT5 := (HT3.out.set (recAt r + 1) v).drew
            have hp5 := hT5.head
            rw [List.length_set] at hp5
            have HT5 := Lib.hid hT5
            have HF5 := Lib.hid hF5
            clear hT5 hF5
            go_wp2
            refine bodyPost_ret (v := .tuple #[.slice (some ⟨B, 0, none⟩) l.length cap, .int .i64 0]) (by simp [results, Try.results38, go_sem]) rfl ?_
            exact ⟨.inr ⟨B, cap, l.set (recAt r + 1) v, by rw [List.length_set], HT5.out.rw_, HQ.out _ _ (.inr (.inr ⟨.inr HV2.out, rfl, r, HX.out.2.1, HX.out.2.2, rfl⟩))⟩, HB3.out.trans (Fr.below HF5.out HB3.out.size HT.out.pb HT.out.bb)⟩
    · have hx' : hasR l h x (C (bkt h.toNat (bkts n))) = false := by simpa using hx
      have hfx := findC_wf_no (f := headAt (bkt h.toNat (bkts n))) hx'
      have hf1 := HF.out x w1 HT.out
      rw [hfx] at hf1
      clear hfx
      have HF1 := Lib.hid hf1
      have HX := Lib.hid hx'
      clear hf1 hx hx'
      go_wp2_with fail
      refine HF1.out.mono ?_
      rintro e w2 ⟨rfl, hB2⟩
      have hs1 := hB1.size
      go_wp2
      refine bodyPost_ret (v := .tuple #[.slice none 0 0, .int .i64 5]) (by simp [results, Try.results38, go_sem]) rfl ?_
      exact ⟨.inl ⟨5, by decide, rfl, HQ.out _ _ (.inl ⟨HX.out, rfl, rfl⟩)⟩, hB1.trans (hB2.mono hs1)⟩
end Go.Proofs.Ytdcomhdadnhpnaa
