import Derived.Test.YtdcomhdadnhpnaaXM6
import Derived.Maps.AppendAt
import Derived.Test.YtdcomhdadnhpnaaXMB
set_option linter.all false
section
namespace Go.Proofs.Ytdcomhdadnhpnaa
variable {l l' : List Int} {n b : Nat} {C C' : Nat → List Nat}
theorem outL_mem {h w : Int} {rs : List Nat} : w ∈ outL l h rs ↔ ∃ r ∈ rs, ati l (recAt r) = h ∧ ati l (recAt r + 1) = w := by
  unfold outL
  simp only [List.mem_map, List.mem_filter, decide_eq_true_eq]
  constructor
  · rintro ⟨r, ⟨h1, h2⟩, h3⟩; exact ⟨r, h1, h2, h3⟩
  · rintro ⟨r, h1, h2, h3⟩; exact ⟨r, ⟨h1, h2⟩, h3⟩
end Go.Proofs.Ytdcomhdadnhpnaa
end
section
namespace Go.Proofs.Ytdcomhdadnhpnaa
open Go.RowKit Go.Shelf
open Go.Proofs.YtdcomhdadnhpnaaW.PrintWords (own_move)
attribute [local irreducible] wpStill
attribute [local go_sem] Oper.semAt_some
def recsL (C : Nat → List Nat) : Nat → List Nat
  | 0 => []
  | k + 1 => recsL C k ++ C k
theorem _root_.Go.Proofs.Ytdcomhdadnhpnaa.G.recs {l : List Int} {n b : Nat} {C : Nat → List Nat} (g : G l n b C) : ∀ k, k ≤ b → (recsL C k).Nodup ∧ ∀ r ∈ recsL C k, r < n ∧ ∃ i, i < k ∧ r ∈ C i
  | 0, _ => ⟨List.nodup_nil, by simp [recsL]⟩
  | k + 1, hk => by
    obtain ⟨h1, h2⟩ := g.recs k (by omega)
    refine ⟨List.nodup_append.2 ⟨h1, g.nd k (by omega), fun a ha b hb e => ?_⟩, fun r hr => ?_⟩
    · subst e
      obtain ⟨_, i, hi, hm⟩ := h2 a ha
      have := g.only (by omega) (by omega) hm hb
      omega
    · rcases List.mem_append.1 hr with hr | hr
      · obtain ⟨h3, i, hi, hm⟩ := h2 r hr
        exact ⟨h3, i, by omega, hm⟩
      · exact ⟨g.lt (by omega) hr, k, by omega, hr⟩
theorem _root_.Go.Proofs.Ytdcomhdadnhpnaa.G.recs_le {l : List Int} {n b : Nat} {C : Nat → List Nat} (g : G l n b C) (k : Nat) (hk : k ≤ b) : (recsL C k).length ≤ n :=
  nodup_len n _ (g.recs k hk).1 (fun r hr => ((g.recs k hk).2 r hr).1)
attribute [local go_sem ↓ high] append_fold
end Go.Proofs.Ytdcomhdadnhpnaa
end
section
namespace Go.Proofs.Ytdcomhdadnhpnaa
variable {l l' : List Int} {n b : Nat} {C C' : Nat → List Nat}
abbrev okH (h : Int) : Prop := 0 ≤ h ∧ h ≤ 2147483647
noncomputable def wds (l : List Int) (h : Int) : List Int := outL l h (tabC l (bkt h.toNat (bkts (tabN l))))
theorem hasR_wds {rs : List Nat} {h x : Int} : hasR l h x rs = true ↔ x ∈ outL l h rs := by
  rw [outL_mem]
  unfold hasR
  simp only [List.any_eq_true, decide_eq_true_eq]
theorem addF_bad (hV : ValidL l) {h x : Int} (hh : ¬ okH h) : addF l h x = (0, [], 1) := by
  unfold addF; rw [if_neg (by simpa using hV), if_pos hh]
noncomputable def ordF (l : List Int) : List (Int × Int) := (recsL (tabC l) (bkts (tabN l))).map (elm l)
theorem recsL_mem {C : Nat → List Nat} {r : Nat} : ∀ {k : Nat}, r ∈ recsL C k ↔ ∃ i, i < k ∧ r ∈ C i
  | 0 => by simp [recsL]
  | k + 1 => by
    rw [recsL, List.mem_append, recsL_mem (k := k)]
    constructor
    · rintro (⟨i, h1, h2⟩ | h)
      · exact ⟨i, by omega, h2⟩
      · exact ⟨k, by omega, h⟩
    · rintro ⟨i, h1, h2⟩
      by_cases e : i = k
      · exact .inr (e ▸ h2)
      · exact .inl ⟨i, by omega, h2⟩
theorem nodup_len_ge : ∀ (n : Nat) (m : List Nat), (∀ r, r < n → r ∈ m) → n ≤ m.length
  | 0, _, _ => Nat.zero_le _
  | n + 1, m, h => by
    have h1 := h n (by omega)
    have := nodup_len_ge n (m.erase n) (fun r hr => (List.mem_erase_of_ne (by omega)).2 (h r (by omega)))
    rw [List.length_erase_of_mem h1] at this
    have := List.length_pos_of_mem h1
    omega
theorem ordF_len (hV : ValidL l) : (ordF l).length = tabN l := by
  have g := tab_g hV
  have h8 := bkts8 (tabN l)
  unfold ordF
  rw [List.length_map]
  have h1 := g.recs_le _ (Nat.le_refl _)
  have h2 := nodup_len_ge (tabN l) (recsL (tabC l) (bkts (tabN l))) (fun r hr => recsL_mem.2 ⟨bkt (ati l (recAt r)).toNat (bkts (tabN l)), bkt_lt _ (by omega), (g.mem _ (bkt_lt _ (by omega)) r).2 ⟨hr, rfl⟩⟩)
  omega
end Go.Proofs.Ytdcomhdadnhpnaa
end
section
namespace Go.Proofs.Ytdcomhdadnhpnaa
open Go.RowKit
def CountE (l : List Int) (e : Ending) : Prop :=
  (¬ ValidL l ∧ e = .returned (.tuple #[.int .i64 0, .int .i64 600])) ∨ (ValidL l ∧ e = .returned (.tuple #[.int .i64 (ati l 0), .int .i64 0]))
set_option maxRecDepth 100000 in
set_option maxHeartbeats 1000000 in
theorem countX_any (A : Option Addr) (c : Nat) (l : List Int) (w : World) (hR : RdL w A l) :
    Calls Try.prog 45 #[.slice A l.length c] w fun e W' => CountE l e ∧ Below w.heap.size w W' := by
  go_enter Try.func45, Try.ntmps45
  go_wp2_with fail
  refine (opened_any A c l 0 w hR).mono ?_
  rintro e w1 ⟨(⟨hV, rfl⟩ | ⟨hV, hh, rfl⟩ | ⟨hV, hh, p, B, cap, rfl, hT⟩), hB1⟩
  · go_wp2
    refine bodyPost_ret (v := .tuple #[.int .i64 0, .int .i64 600]) (by simp [results, Try.results45, go_sem]) rfl ?_
    exact ⟨.inl ⟨hV, rfl⟩, hB1⟩
  · exact absurd (by decide) hh
  · have h60 := hV.len60
    have HV := Lib.hid hV
    have HT := Lib.hid hT
    clear hV hT hh
    go_wp2_with fail
    refine (count_any _ p B 0 cap l HT.out.r (by omega)).mono ?_
    rintro e w2 ⟨rfl, rfl⟩
    go_wp2
    refine bodyPost_ret (v := .tuple #[.int .i64 (ati l 0), .int .i64 0]) (by simp [results, Try.results45, go_sem]) rfl ?_
    exact ⟨.inr ⟨HV.out, rfl⟩, hB1⟩
theorem find_tab {base p B cap : Nat} {l : List Int} {n : Nat} {C : Nat → List Nat} {h x : Int} (hH : HeadOk l n) (g : G l n (bkts n) C) (hh0 : 0 ≤ h) (hh1 : h ≤ 2147483647) (W : World) (hT : Tb base W p B cap l) :
    Calls Try.prog 86 #[.pointer (some ⟨p, 0, none⟩), .agg #[.int .i64 h, .int .i64 x]] W fun e W' =>
      e = .returned (.tuple #[.int .i64 (findC l h x (wf (headAt (bkt h.toNat (bkts n))) (C (bkt h.toNat (bkts n)))) 0).1, .int .i64 (findC l h x (wf (headAt (bkt h.toNat (bkts n))) (C (bkt h.toNat (bkts n)))) 0).2.1, .int .i64 (findC l h x (wf (headAt (bkt h.toNat (bkts n))) (C (bkt h.toNat (bkts n)))) 0).2.2]) ∧ Below W.heap.size W W' := by
  have hb0 := bkts_pos n
  have hnn := g.n1
  have hb1 := bkts_le n (by omega)
  have hlen := hH.len
  have hl60 := wlen_ge n
  have hll := wlen_le n (by omega)
  have hi := bkt_lt h.toNat (b := bkts n) (by omega)
  have ha1 := hH.b1
  exact find_any p B 0 cap h x l _ (by omega) (by omega) W hh0 (by omega) hT.r (by omega) (by omega) (by rw [hH.b1']; exact (g.chn _ hi).chn)
    (fun q hq => by
      have hm : q.1 ∈ C (bkt h.toNat (bkts n)) := by rw [← wf_map (headAt (bkt h.toNat (bkts n))) (C (bkt h.toNat (bkts n)))]; exact List.mem_map_of_mem hq
      have := g.lt hi hm
      exact ⟨g.rl _ this, by omega⟩)
    (by rw [wf_len]; have := g.clen hi; omega)
def PutQ (l : List Int) (h x v : Int) (l' : List Int) (c : Int) : Prop :=
  (¬ ValidL l ∧ l' = [] ∧ c = 600) ∨
  (ValidL l ∧ ¬ (0 ≤ h ∧ h ≤ 2147483647) ∧ l' = [] ∧ c = 1) ∨
  (ValidL l ∧ (0 ≤ h ∧ h ≤ 2147483647) ∧ ∃ n C, HeadOk l n ∧ G l n (bkts n) C ∧
    ((hasR l h x (C (bkt h.toNat (bkts n))) = false ∧ l' = [] ∧ c = 5) ∨
     (hasR l h x (C (bkt h.toNat (bkts n))) = true ∧ v ≠ x ∧ hasR l h v (C (bkt h.toNat (bkts n))) = true ∧ l' = [] ∧ c = 6) ∨
     ((v = x ∨ hasR l h v (C (bkt h.toNat (bkts n))) = false) ∧ c = 0 ∧ ∃ r, r ∈ C (bkt h.toNat (bkts n)) ∧ hits l h x r ∧ l' = l.set (recAt r + 1) v)))
def MadeE2 (base : Nat) (e : Ending) (W' : World) (R : List Int → Int → Prop) : Prop :=
  (∃ c, c ≠ 0 ∧ e = .returned (.tuple #[.slice none 0 0, .int .i64 c]) ∧ R [] c) ∨
  (∃ B cap l', e = .returned (.tuple #[.slice (some ⟨B, 0, none⟩) l'.length cap, .int .i64 0]) ∧ Rw base W' B cap l' ∧ R l' 0)
set_option maxRecDepth 100000 in
set_option maxHeartbeats 4000000 in
theorem putX_any (A : Option Addr) (c : Nat) (l : List Int) (h x v : Int) (w : World) (hR : RdL w A l) :
    Calls Try.prog 38 #[.slice A l.length c, .int .i64 h, .int .i64 x, .int .i64 v] w fun e W' => MadeE2 w.heap.size e W' (PutQ l h x v) ∧ Below w.heap.size w W' := by
  go_enter Try.func38, Try.ntmps38
  go_wp2_with fail
  refine (opened_any A c l h w hR).mono ?_
  rintro e w1 ⟨(⟨hV, rfl⟩ | ⟨hV, hh, rfl⟩ | ⟨hV, hh, p, B, cap, rfl, hT⟩), hB1⟩
  · go_wp2
    refine bodyPost_ret (v := .tuple #[.slice none 0 0, .int .i64 600]) (by simp [results, Try.results38, go_sem]) rfl ?_
    exact ⟨.inl ⟨600, by decide, rfl, .inl ⟨hV, rfl, rfl⟩⟩, hB1⟩
  · have HH := Lib.hid hh
    clear hh
    go_wp2
    refine bodyPost_ret (v := .tuple #[.slice none 0 0, .int .i64 1]) (by simp [results, Try.results38, go_sem]) rfl ?_
    exact ⟨.inl ⟨1, by decide, rfl, .inr (.inl ⟨hV, HH.out, rfl, rfl⟩)⟩, hB1⟩
  · obtain ⟨C, hH, g⟩ := validL_iff.1 hV
    generalize (ati l 0).toNat = n at hH g
    have hbld : ∀ (W : World) (x : Int), (Instr.build 43 #[(0, .int .i64 h), (1, .int .i64 x)]).run Try.prog W = .ok (.agg #[.int .i64 h, .int .i64 x]) W := fun _ _ => by kernel_rfl
    have hfind := fun (x : Int) (W : World) (hT : Tb w.heap.size W p B cap l) => find_tab (x := x) hH g hh.1 hh.2 W hT
    have hQ : ∀ l' c, ((hasR l h x (C (bkt h.toNat (bkts n))) = false ∧ l' = [] ∧ c = 5) ∨
     (hasR l h x (C (bkt h.toNat (bkts n))) = true ∧ v ≠ x ∧ hasR l h v (C (bkt h.toNat (bkts n))) = true ∧ l' = [] ∧ c = 6) ∨
     ((v = x ∨ hasR l h v (C (bkt h.toNat (bkts n))) = false) ∧ c = 0 ∧ ∃ r, r ∈ C (bkt h.toNat (bkts n)) ∧ hits l h x r ∧ l' = l.set (recAt r + 1) v)) → PutQ l h x v l' c := fun l' c q => .inr (.inr ⟨hV, hh, n, C, hH, g, q⟩)
    have HF := Lib.hid hfind
    have HQ := Lib.hid hQ
    have HT := Lib.hid hT
    have hrl : ∀ r ∈ C (bkt h.toNat (bkts n)), r ≤ 100000 ∧ recAt r + 2 < l.length := fun r hr => by
      have hi := bkt_lt h.toNat (b := bkts n) (by have := bkts_pos n; omega)
      have h1 := g.lt hi hr
      have := g.n1
      exact ⟨by omega, g.rl r h1⟩
    have HRL := Lib.hid hrl
    have hVle := hV.le
    clear hQ hV hh hH g hT hfind hrl
    by_cases hx : hasR l h x (C (bkt h.toNat (bkts n))) = true
    · obtain ⟨pre, r, post, hC, _, hhit, hfx⟩ := findC_wf_yes (f := headAt (bkt h.toNat (bkts n))) hx
      have hrC : r ∈ C (bkt h.toNat (bkts n)) := by rw [hC]; simp
      obtain ⟨hr1, hr2⟩ := HRL.out r hrC
      have HX := Lib.hid (And.intro hx (And.intro hrC hhit))
      clear hx hrC hhit hC
      have hf1 := HF.out x w1 HT.out
      rw [hfx] at hf1
      clear hfx
      have HF1 := Lib.hid hf1
      clear hf1
      go_wp2_with fail
      refine HF1.out.mono ?_
      rintro e w2 ⟨rfl, hB2⟩
      have HT2 := Lib.hid (HT.out.below hB2)
      have hs1 := hB1.size
      have HB2 := Lib.hid (hB1.trans (hB2.mono hs1))
      have hr0 : ¬ ((r : Int) < 0) := by omega
      by_cases hv : hasR l h v (C (bkt h.toNat (bkts n))) = true
      · obtain ⟨pre2, r2, post2, hC2, _, hhit2, hfv⟩ := findC_wf_yes (f := headAt (bkt h.toNat (bkts n))) hv
        have hf2 := HF.out v w2 HT2.out
        rw [hfv] at hf2
        clear hfv hC2
        have HF2 := Lib.hid hf2
        have HV2 := Lib.hid hv
        clear hf2 hv hhit2
        go_wp2_with fail
        refine HF2.out.mono ?_
        rintro e w3 ⟨rfl, hB3⟩
        have HT3 := Lib.hid (HT2.out.below hB3)
        have HB3 := Lib.hid (HB2.out.trans (hB3.mono HB2.out.size))
        by_cases hvx : v = x
        · try subst hvx
          go_wp2_with fail
          have hT4 := HT3.out.drew
          have hp4 := hT4.head
          have hfz := hT4.frz (recAt r + 1)
          have hcw := hT4.cell (recAt r + 1) (by omega)
          have hi0 : (0 : Int) ≤ ((recAt r : Nat) : Int) + 1 := by omega
          have hi1 : ((recAt r : Nat) : Int) + 1 < (l.length : Int) := by omega
          have hi2 : (((recAt r : Nat) : Int) + 1).toNat = recAt r + 1 := by omega
          have hwr : IntKind.i64.wrap (((recAt r : Nat) : Int) + 1) = ((recAt r : Nat) : Int) + 1 := IntWalk.i64_in _ (by omega)
          have HT4 := Lib.hid hT4
          clear hT4
          go_region_with (go_at_call 87; refine (recordAt_any _ _ (by omega) (by omega)).mono ?_; rintro e w5 ⟨rfl, rfl⟩; rw [Int.toNat_natCast])
          all_goals
            have hF5 : Fr p B w3 ((w3.setCell ⟨B, recAt r + 1, none⟩ (.int .i64 v)).drew) := ((Fr.refl p B w3).setCell (.inr (.inl rfl)) _).drew
            have hT5 := (HT3.out.set (recAt r + 1) v).drew
            have hp5 := hT5.head
            rw [List.length_set] at hp5
            have HT5 := Lib.hid hT5
            have HF5 := Lib.hid hF5
            clear hT5 hF5
            go_wp2
            refine bodyPost_ret (v := .tuple #[.slice (some ⟨B, 0, none⟩) l.length cap, .int .i64 0]) (by simp [results, Try.results38, go_sem]) rfl ?_
            exact ⟨.inr ⟨B, cap, l.set (recAt r + 1) v, by rw [List.length_set], HT5.out.rw_, HQ.out _ _ (.inr (.inr ⟨.inl (by first | exact rfl | trivial), rfl, r, HX.out.2.1, HX.out.2.2, rfl⟩))⟩, HB3.out.trans (Fr.below HF5.out HB3.out.size HT.out.pb HT.out.bb)⟩
        · go_wp2
          refine bodyPost_ret (v := .tuple #[.slice none 0 0, .int .i64 6]) (by simp [results, Try.results38, go_sem]) rfl ?_
          exact ⟨.inl ⟨6, by decide, rfl, HQ.out _ _ (.inr (.inl ⟨HX.out.1, hvx, HV2.out, rfl, rfl⟩))⟩, HB3.out⟩
      · have hv' : hasR l h v (C (bkt h.toNat (bkts n))) = false := by simpa using hv
        have hfv := findC_wf_no (f := headAt (bkt h.toNat (bkts n))) hv'
        have hf2 := HF.out v w2 HT2.out
        rw [hfv] at hf2
        clear hfv
        have HF2 := Lib.hid hf2
        have HV2 := Lib.hid hv'
        clear hf2 hv hv'
        go_wp2_with fail
        refine HF2.out.mono ?_
        rintro e w3 ⟨rfl, hB3⟩
        have HT3 := Lib.hid (HT2.out.below hB3)
        have HB3 := Lib.hid (HB2.out.trans (hB3.mono HB2.out.size))
        by_cases hvx : v = x
        · try subst hvx
          go_wp2_with fail
          have hT4 := HT3.out.drew
          have hp4 := hT4.head
          have hfz := hT4.frz (recAt r + 1)
          have hcw := hT4.cell (recAt r + 1) (by omega)
          have hi0 : (0 : Int) ≤ ((recAt r : Nat) : Int) + 1 := by omega
          have hi1 : ((recAt r : Nat) : Int) + 1 < (l.length : Int) := by omega
          have hi2 : (((recAt r : Nat) : Int) + 1).toNat = recAt r + 1 := by omega
          have hwr : IntKind.i64.wrap (((recAt r : Nat) : Int) + 1) = ((recAt r : Nat) : Int) + 1 := IntWalk.i64_in _ (by omega)
          have HT4 := Lib.hid hT4
          clear hT4
          go_region_with (go_at_call 87; refine (recordAt_any _ _ (by omega) (by omega)).mono ?_; rintro e w5 ⟨rfl, rfl⟩; rw [Int.toNat_natCast])
          all_goals
            have hF5 : Fr p B w3 ((w3.setCell ⟨B, recAt r + 1, none⟩ (.int .i64 v)).drew) := ((Fr.refl p B w3).setCell (.inr (.inl rfl)) _).drew
            have hT5 := (HT3.out.set (recAt r + 1) v).drew
            have hp5 := hT5.head
            rw [List.length_set] at hp5
            have HT5 := Lib.hid hT5
            have HF5 := Lib.hid hF5
            clear hT5 hF5
            go_wp2
            refine bodyPost_ret (v := .tuple #[.slice (some ⟨B, 0, none⟩) l.length cap, .int .i64 0]) (by simp [results, Try.results38, go_sem]) rfl ?_
            exact ⟨.inr ⟨B, cap, l.set (recAt r + 1) v, by rw [List.length_set], HT5.out.rw_, HQ.out _ _ (.inr (.inr ⟨.inl (by first | exact rfl | trivial), rfl, r, HX.out.2.1, HX.out.2.2, rfl⟩))⟩, HB3.out.trans (Fr.below HF5.out HB3.out.size HT.out.pb HT.out.bb)⟩
        · try subst hvx
          go_wp2_with fail
          have hT4 := HT3.out.drew
          have hp4 := hT4.head
          have hfz := hT4.frz (recAt r + 1)
          have hcw := hT4.cell (recAt r + 1) (by omega)
          have hi0 : (0 : Int) ≤ ((recAt r : Nat) : Int) + 1 := by omega
          have hi1 : ((recAt r : Nat) : Int) + 1 < (l.length : Int) := by omega
          have hi2 : (((recAt r : Nat) : Int) + 1).toNat = recAt r + 1 := by omega
          have hwr : IntKind.i64.wrap (((recAt r : Nat) : Int) + 1) = ((recAt r : Nat) : Int) + 1 := IntWalk.i64_in _ (by omega)
          have HT4 := Lib.hid hT4
          clear hT4
          go_region_with (go_at_call 87; refine (recordAt_any _ _ (by omega) (by omega)).mono ?_; rintro e w5 ⟨rfl, rfl⟩; rw [Int.toNat_natCast])
          all_goals
            have hF5 : Fr p B w3 ((w3.setCell ⟨B, recAt r + 1, none⟩ (.int .i64 v)).drew) := ((Fr.refl p B w3).setCell (.inr (.inl rfl)) _).drew
            have hT5 := (HT3.out.set (recAt r + 1) v).drew
            have hp5 := hT5.head
            rw [List.length_set] at hp5
            have HT5 := Lib.hid hT5
            have HF5 := Lib.hid hF5
            clear hT5 hF5
            go_wp2
            refine bodyPost_ret (v := .tuple #[.slice (some ⟨B, 0, none⟩) l.length cap, .int .i64 0]) (by simp [results, Try.results38, go_sem]) rfl ?_
            exact ⟨.inr ⟨B, cap, l.set (recAt r + 1) v, by rw [List.length_set], HT5.out.rw_, HQ.out _ _ (.inr (.inr ⟨.inr HV2.out, rfl, r, HX.out.2.1, HX.out.2.2, rfl⟩))⟩, HB3.out.trans (Fr.below HF5.out HB3.out.size HT.out.pb HT.out.bb)⟩
    · have hx' : hasR l h x (C (bkt h.toNat (bkts n))) = false := by simpa using hx
      have hfx := findC_wf_no (f := headAt (bkt h.toNat (bkts n))) hx'
      have hf1 := HF.out x w1 HT.out
      rw [hfx] at hf1
      clear hfx
      have HF1 := Lib.hid hf1
      have HX := Lib.hid hx'
      clear hf1 hx hx'
      go_wp2_with fail
      refine HF1.out.mono ?_
      rintro e w2 ⟨rfl, hB2⟩
      have hs1 := hB1.size
      go_wp2
      refine bodyPost_ret (v := .tuple #[.slice none 0 0, .int .i64 5]) (by simp [results, Try.results38, go_sem]) rfl ?_
      exact ⟨.inl ⟨5, by decide, rfl, HQ.out _ _ (.inl ⟨HX.out, rfl, rfl⟩)⟩, hB1.trans (hB2.mono hs1)⟩
end Go.Proofs.Ytdcomhdadnhpnaa
end
section
namespace Go.Proofs.Ytdcomhdadnhpnaa
variable {l l' : List Int} {n b : Nat} {C C' : Nat → List Nat}
theorem rec1_head {r i : Nat} : recAt r + 1 ≠ headAt i := fun e => head_rec e.symm (by omega)
theorem rec1_ne {r s a : Nat} (ha : a < 3) (h : s ≠ r ∨ a ≠ 1) : recAt r + 1 ≠ recAt s + a := fun e => by
  have := recAt_inj e (by omega) ha
  omega
theorem G.put (g : G l n b C) {r : Nat} (hr : r < n) {h x v : Int} (hh : hits l h x r) (hv : v = x ∨ ∀ s, s < n → ¬ hits l h v s) : G (l.set (recAt r + 1) v) n b C := by
  have h1 : ∀ q, q ≠ recAt r + 1 → ati (l.set (recAt r + 1) v) q = ati l q := fun q hq => ati_set_ne (Ne.symm hq)
  have h0 : ∀ s, ati (l.set (recAt r + 1) v) (recAt s) = ati l (recAt s) := fun s => h1 _ (fun e => rec1_ne (s := s) (a := 0) (by omega) (.inr (by omega)) e.symm)
  have hw : ∀ s, ati (l.set (recAt r + 1) v) (recAt s + 1) = if s = r then v else ati l (recAt s + 1) := fun s => by
    by_cases e : s = r
    · subst e; rw [if_pos rfl, ati_set_eq (by have := g.rl s hr; omega)]
    · rw [if_neg e]; exact h1 _ (fun e2 => rec1_ne (s := s) (a := 1) (by omega) (.inl e) e2.symm)
  refine ⟨g.n1, fun s hs => by rw [List.length_set]; exact g.rl s hs, g.b8, fun i hi => by rw [List.length_set]; exact g.hl i hi, fun s hs => by rw [h0]; exact g.hash s hs, fun i hi => ?_, g.nd, fun i hi s => by rw [h0]; exact g.mem i hi s, fun i hi => by
    refine (g.srt i hi).imp (fun {a b} hab => by rw [h0, h0]; exact hab), fun s hs t ht e1 e2 => ?_, fun i hi => ?_, fun s hs a ha => ?_⟩
  · refine (g.chn i hi).frame (fun q hq => ⟨?_, ?_⟩)
    · rw [List.length_set]
      rcases hq with rfl | ⟨s, hs, rfl⟩
      · exact g.hl i hi
      · exact g.rl s (g.lt hi hs)
    · refine h1 _ ?_
      rcases hq with rfl | ⟨s, hs, rfl⟩
      · exact fun e => rec1_head e.symm
      · exact fun e => rec1_ne (s := s) (a := 2) (by omega) (.inr (by omega)) e.symm
  · rw [h0, h0] at e1
    rw [hw, hw] at e2
    by_cases es : s = r
    · by_cases et : t = r
      · rw [es, et]
      · exfalso
        rw [if_pos es, if_neg et] at e2
        rcases hv with rfl | hv
        · exact et ((g.dif t ht r hr (by rw [← e1, es]) (by rw [← e2]; exact hh.2.symm)))
        · exact hv t ht ⟨by rw [← e1, es]; exact hh.1, e2.symm⟩
    · by_cases et : t = r
      · exfalso
        rw [if_neg es, if_pos et] at e2
        rcases hv with rfl | hv
        · exact es (g.dif s hs r hr (by rw [e1, et]) (by rw [e2]; exact hh.2.symm))
        · exact hv s hs ⟨by rw [e1, et]; exact hh.1, e2⟩
      · rw [if_neg es, if_neg et] at e2
        exact g.dif s hs t ht e1 e2
  · rw [h1 _ (fun e => rec1_head e.symm)]; exact g.zh i hi
  · rw [h1 _ (fun e => rec1_ne (s := s) (a := a) ha (.inl (by omega)) e.symm)]; exact g.zr s hs a ha
theorem HeadOk.put (hH : HeadOk l n) {r : Nat} (v : Int) : HeadOk (l.set (recAt r + 1) v) n := by
  have h12 := recAt_ge r
  have h1 : ∀ q, q < 4 → ati (l.set (recAt r + 1) v) q = ati l q := fun q hq => ati_set_ne (by omega)
  exact ⟨(h1 0 (by omega)).trans hH.n0, hH.n1, (List.length_set ..).trans hH.len, (h1 1 (by omega)).trans hH.b1, (h1 2 (by omega)).trans hH.b2, (h1 3 (by omega)).trans hH.b3⟩
open Classical in
/-- what Put returns -/
noncomputable def putF (l : List Int) (h x v : Int) : List Int × Int :=
  if q : ∃ r : List Int × Int, PutQ l h x v r.1 r.2 then q.choose else ([], 0)
theorem hasR_out {rs : List Nat} {h x : Int} : hasR l h x rs = false ↔ x ∉ outL l h rs := by rw [← hasR_wds (l := l), Bool.eq_false_iff]
theorem putQ_uni {h x v : Int} {l1 l2 : List Int} {c c' : Int} (q : PutQ l h x v l1 c) (q' : PutQ l h x v l2 c') : l1 = l2 ∧ c = c' := by
  rcases q with ⟨h1, rfl, rfl⟩ | ⟨h1, h2, rfl, rfl⟩ | ⟨h1, h2, n, C, hH, g, q⟩
  · rcases q' with ⟨_, rfl, rfl⟩ | ⟨h3, _⟩ | ⟨h3, _⟩
    · exact ⟨rfl, rfl⟩
    · exact absurd h3 h1
    · exact absurd h3 h1
  · rcases q' with ⟨h3, _⟩ | ⟨_, _, rfl, rfl⟩ | ⟨_, h3, _⟩
    · exact absurd h1 h3
    · exact ⟨rfl, rfl⟩
    · exact absurd h3 h2
  · rcases q' with ⟨h3, _⟩ | ⟨_, h3, _⟩ | ⟨_, _, n', C', hH', g', q'⟩
    · exact absurd h1 h3
    · exact absurd h2 h3
    · obtain rfl := hH.same hH'
      have hi := bkt_lt h.toNat (b := bkts n) (by have := bkts8 n; omega)
      rw [← g.det g' hi] at q'
      rcases q with ⟨a1, rfl, rfl⟩ | ⟨a1, a2, a3, rfl, rfl⟩ | ⟨a1, rfl, r, hr, hh, rfl⟩ <;> rcases q' with ⟨b1, rfl, rfl⟩ | ⟨b1, b2, b3, rfl, rfl⟩ | ⟨b1, rfl, r', hr', hh', rfl⟩
      · exact ⟨rfl, rfl⟩
      · rw [a1] at b1; cases b1
      · exact absurd (hasR_out.1 a1) (fun hn => hn (outL_mem.2 ⟨r', hr', hh'⟩))
      · rw [b1] at a1; cases a1
      · exact ⟨rfl, rfl⟩
      · rcases b1 with b1 | b1
        · exact absurd b1 a2
        · rw [b1] at a3; cases a3
      · exact absurd (hasR_out.1 b1) (fun hn => hn (outL_mem.2 ⟨r, hr, hh⟩))
      · rcases a1 with a1 | a1
        · exact absurd a1 b2
        · rw [a1] at b3; cases b3
      · have e : r = r' := g.dif r (g.lt hi hr) r' (g.lt hi hr') (hh.1.trans hh'.1.symm) (hh.2.trans hh'.2.symm)
        rw [e]; exact ⟨rfl, rfl⟩
theorem putF_eq {h x v : Int} {c : Int} (q : PutQ l h x v l' c) : putF l h x v = (l', c) := by
  have hex : ∃ r : List Int × Int, PutQ l h x v r.1 r.2 := ⟨(l', c), q⟩
  unfold putF
  rw [dif_pos hex]
  have := putQ_uni hex.choose_spec q
  exact Prod.ext this.1 this.2
theorem putF_bad (hV : ValidL l) {h x v : Int} (hh : ¬ okH h) : putF l h x v = ([], 1) := putF_eq (.inr (.inl ⟨hV, hh, rfl, rfl⟩))
theorem putF_none (hV : ValidL l) {h x v : Int} (hh : okH h) (hx : x ∉ wds l h) : putF l h x v = ([], 5) :=
  putF_eq (.inr (.inr ⟨hV, hh, tabN l, tabC l, tab_h hV, tab_g hV, .inl ⟨hasR_out.2 hx, rfl, rfl⟩⟩))
theorem putF_twice (hV : ValidL l) {h x v : Int} (hh : okH h) (hx : x ∈ wds l h) (hne : v ≠ x) (hv : v ∈ wds l h) : putF l h x v = ([], 6) :=
  putF_eq (.inr (.inr ⟨hV, hh, tabN l, tabC l, tab_h hV, tab_g hV, .inr (.inl ⟨hasR_wds.2 hx, hne, hasR_wds.2 hv, rfl, rfl⟩)⟩))
end Go.Proofs.Ytdcomhdadnhpnaa
end