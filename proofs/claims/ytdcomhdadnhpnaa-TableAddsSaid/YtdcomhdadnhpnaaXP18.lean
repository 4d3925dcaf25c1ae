import Derived.Test.YtdcomhdadnhpnaaXT1
import Derived.Test.YtdcomhdadnhpnaaXB13
set_option linter.all false
namespace Go.Proofs.Ytdcomhdadnhpnaa
variable {l : List Int} {n b : Nat} {C : Nat → List Nat}
theorem ati_headL (n q : Nat) : ati (headL n) q = if q = 0 then (n : Int) else if q = 1 then (bkts n : Int) else if q = 2 then (pow2 (bkts n) : Nat) else 0 := by
  have h60 := wlen_ge n
  have hz : ∀ q, ati (List.replicate (wlen n) (0 : Int)) q = 0 := fun q => by unfold ati; rw [List.getD_eq_getElem?_getD, List.getElem?_replicate]; split <;> rfl
  unfold headL
  rw [ati_set, ati_set, ati_set, hz]
  simp only [List.length_set, List.length_replicate]
  by_cases e2 : q = 2
  · subst e2; simp; omega
  · by_cases e1 : q = 1
    · subst e1; simp; omega
    · by_cases e0 : q = 0
      · subst e0; simp; omega
      · simp [e0, e1, e2, Ne.symm e0, Ne.symm e1, Ne.symm e2]
theorem ati_wR_ne {recs : List (Int × Int)} {q : Nat} : ∀ {k : Nat} {l : List Int}, (∀ r, r < k → q ≠ recAt r ∧ q ≠ recAt r + 1) → ati (wR recs k l) q = ati l q
  | 0, l, _ => rfl
  | k + 1, l, h => by
    rw [wR, ati_set_ne (Ne.symm (h k (by omega)).2), ati_set_ne (Ne.symm (h k (by omega)).1)]
    exact ati_wR_ne (fun r hr => h r (by omega))
theorem ati_wR {recs : List (Int × Int)} : ∀ {k : Nat} {l : List Int}, (∀ r, r < k → recAt r + 1 < l.length) → ∀ r, r < k → ati (wR recs k l) (recAt r) = (recs.getD r (0, 0)).1 ∧ ati (wR recs k l) (recAt r + 1) = (recs.getD r (0, 0)).2
  | 0, l, _, r, hr => absurd hr (by omega)
  | k + 1, l, h, r, hr => by
    have hk := h k (by omega)
    by_cases e : r = k
    · subst e
      rw [wR]
      refine ⟨?_, ?_⟩
      · rw [ati_set_ne (by omega), ati_set_eq (by rw [wR_len]; omega)]
      · rw [ati_set_eq (by rw [List.length_set, wR_len]; omega)]
    · have ih := ati_wR (recs := recs) (k := k) (l := l) (fun r hr => h r (by omega)) r (by omega)
      have hne : ∀ a c, a < 3 → c < 3 → recAt k + c ≠ recAt r + a := fun a c ha hc e2 => e (recAt_inj e2 hc ha).1.symm
      rw [wR]
      refine ⟨?_, ?_⟩
      · have h1 : recAt k + 1 ≠ recAt r := hne 0 1 (by omega) (by omega)
        have h2 : recAt k ≠ recAt r := hne 0 0 (by omega) (by omega)
        rw [ati_set_ne h1, ati_set_ne h2]; exact ih.1
      · have h1 : recAt k + 1 ≠ recAt r + 1 := hne 1 1 (by omega) (by omega)
        have h2 : recAt k ≠ recAt r + 1 := hne 1 0 (by omega) (by omega)
        rw [ati_set_ne h1, ati_set_ne h2]; exact ih.2
theorem lnk_ati : ∀ {c : List Nat} {f : Nat} {l : List Int} {q : Nat}, q ≠ f → (∀ r ∈ c, q ≠ recAt r + 2) → ati (lnk f c l) q = ati l q
  | [], f, l, q, _, _ => rfl
  | r :: rs, f, l, q, h, hq => by
    rw [lnk, lnk_ati (hq r (by simp)) (fun s hs => hq s (by simp [hs])), ati_set_ne (Ne.symm h)]
theorem lnk_cl : ∀ {c : List Nat} {f : Nat} {l : List Int}, f < l.length → ati l f = 0 → (∀ r ∈ c, recAt r + 2 < l.length ∧ r ≤ 100000 ∧ ati l (recAt r + 2) = 0 ∧ f ≠ recAt r + 2) → c.Nodup → CL (lnk f c l) f c
  | [], f, l, hf, h0, _, _ => ⟨hf, h0⟩
  | r :: rs, f, l, hf, h0, hr, hn => by
    have hn2 := List.nodup_cons.1 hn
    obtain ⟨h1, h2, h3, h4⟩ := hr r (by simp)
    have hne : ∀ s ∈ rs, recAt r + 2 ≠ recAt s + 2 := fun s hs e => hn2.1 (by rw [(recAt_inj e (by omega) (by omega)).1]; exact hs)
    have ih := lnk_cl (c := rs) (f := recAt r + 2) (l := l.set f ((r : Int) + 1)) (by rw [List.length_set]; exact h1) (by rw [ati_set_ne h4]; exact h3)
      (fun s hs => by
        obtain ⟨g1, g2, g3, g4⟩ := hr s (by simp [hs])
        exact ⟨by rw [List.length_set]; exact g1, g2, by rw [ati_set_ne g4]; exact g3, hne s hs⟩) hn2.2
    refine ⟨by rw [lnk, lnk_len, List.length_set]; exact hf, ?_, h2, ih⟩
    rw [lnk, lnk_ati h4 (fun s hs => (hr s (by simp [hs])).2.2.2), ati_set_eq hf]
theorem wC_ati {chs : List (List Nat)} {q : Nat} : ∀ {k : Nat} {l : List Int}, (∀ j, j < k → q ≠ headAt j ∧ ∀ r ∈ chs.getD j [], q ≠ recAt r + 2) → ati (wC chs k l) q = ati l q
  | 0, _, _ => rfl
  | k + 1, l, h => by
    rw [wC, lnk_ati (h k (by omega)).1 (h k (by omega)).2]
    exact wC_ati (fun j hj => h j (by omega))
theorem wC_cl {chs : List (List Nat)} {l : List Int} {b : Nat} (hl : ∀ i, i < b → headAt i < l.length ∧ ati l (headAt i) = 0) (hr : ∀ i, i < b → ∀ r ∈ chs.getD i [], recAt r + 2 < l.length ∧ r ≤ 100000 ∧ ati l (recAt r + 2) = 0)
    (hn : ∀ i, i < b → (chs.getD i []).Nodup) (hd : ∀ i, i < b → ∀ j, j < b → i ≠ j → ∀ r ∈ chs.getD i [], r ∉ chs.getD j []) : ∀ {k : Nat}, k ≤ b → ∀ i, i < k → CL (wC chs k l) (headAt i) (chs.getD i [])
  | 0, _, i, hi => absurd hi (by omega)
  | k + 1, hk, i, hi => by
    by_cases e : i = k
    · subst e
      rw [wC]
      have hz : ∀ q, (∀ j, j < i → q ≠ headAt j ∧ ∀ r ∈ chs.getD j [], q ≠ recAt r + 2) → ati (wC chs i l) q = ati l q := fun q h => wC_ati h
      refine lnk_cl (by rw [wC_len]; exact (hl i (by omega)).1) ?_ (fun r hrm => ?_) (hn i (by omega))
      · rw [hz _ (fun j hj => ⟨fun e => by have := headAt_inj e; omega, fun r _ e => head_rec e (by omega)⟩)]
        exact (hl i (by omega)).2
      · obtain ⟨h1, h2, h3⟩ := hr i (by omega) r hrm
        refine ⟨by rw [wC_len]; exact h1, h2, ?_, fun e => head_rec e (by omega)⟩
        rw [hz _ (fun j hj => ⟨fun e => head_rec e.symm (by omega), fun s hs e => ?_⟩)]
        · exact h3
        · have := (recAt_inj e (by omega) (by omega)).1
          subst this
          exact hd i (by omega) j (by omega) (by omega) r hrm hs
    · have ih := wC_cl hl hr hn hd (k := k) (by omega) i (by omega)
      rw [wC]
      refine ih.frame (fun q hq => ⟨?_, ?_⟩)
      · rw [lnk_len, wC_len]
        rcases hq with rfl | ⟨r, hr', rfl⟩
        · exact (hl i (by omega)).1
        · exact (hr i (by omega) r hr').1
      · refine lnk_ati ?_ (fun s hs => ?_)
        · rcases hq with rfl | ⟨r, hr', rfl⟩
          · exact fun e => by have := headAt_inj e; omega
          · exact fun e => head_rec e.symm (by omega)
        · rcases hq with rfl | ⟨r, hr', rfl⟩
          · exact fun e => head_rec e (by omega)
          · intro e2
            have := (recAt_inj e2 (by omega) (by omega)).1
            subst this
            exact hd i (by omega) k (by omega) (by omega) r hr' hs
theorem wordsF_eq (hH : HeadOk l n) (g : G l n (bkts n) C) {recs : List (Int × Int)} (hrl : recs.length = n) (hrec : ∀ r, r < n → recs.getD r (0, 0) = elm l r) : wordsF recs ((List.range (bkts n)).map C) = l := by
  have h60 := wlen_ge n
  have hcl : ((List.range (bkts n)).map C).length = bkts n := by simp
  have hcg : ∀ i, i < bkts n → ((List.range (bkts n)).map C).getD i [] = C i := fun i hi => by simp [hi]
  have hb0 : (headL n).length = wlen n := headL_len n
  have hrn : ∀ r, r < n → recAt r + 2 < wlen n := fun r hr => recAt_wlen hr
  have hbase : ∀ q, 4 ≤ q → (∀ r, r < n → q ≠ recAt r ∧ q ≠ recAt r + 1) → ati (wR recs n (headL n)) q = 0 := fun q hq h => by
    rw [ati_wR_ne h, ati_headL, if_neg (by omega), if_neg (by omega), if_neg (by omega)]
  have hhead : ∀ i, ati (wR recs n (headL n)) (headAt i) = 0 := fun i => hbase _ (headAt_ge i) (fun r _ => ⟨fun e => head_rec (a := 0) e (by omega), fun e => head_rec e (by omega)⟩)
  have hlink : ∀ r, ati (wR recs n (headL n)) (recAt r + 2) = 0 := fun r => hbase _ (by have := recAt_ge r; omega) (fun s _ => ⟨fun e => by have := (recAt_inj (b := 0) e (by omega) (by omega)).2; omega, fun e => by have := (recAt_inj e (by omega) (by omega)).2; omega⟩)
  have hcls := wC_cl (chs := (List.range (bkts n)).map C) (l := wR recs n (headL n)) (b := bkts n) (fun i hi => ⟨by rw [wR_len, hb0]; exact headAt_wlen hi, hhead i⟩)
    (fun i hi r hr => by rw [hcg i hi] at hr; have := g.lt hi hr; exact ⟨by rw [wR_len, hb0]; exact hrn r this, by have := g.n1; omega, hlink r⟩)
    (fun i hi => by rw [hcg i hi]; exact g.nd i hi)
    (fun i hi j hj hne r hr hs => by rw [hcg i hi] at hr; rw [hcg j hj] at hs; exact hne (g.only hi hj hr hs)) (k := bkts n) (Nat.le_refl _)
  have hWlen : (wordsF recs ((List.range (bkts n)).map C)).length = wlen n := by unfold wordsF; rw [wC_len, wR_len, headL_len, hrl]
  have hW : wordsF recs ((List.range (bkts n)).map C) = wC ((List.range (bkts n)).map C) (bkts n) (wR recs n (headL n)) := by unfold wordsF; rw [hcl, hrl]
  refine ext_ati (hWlen.trans hH.len.symm) (fun q _ => ?_)
  rw [hW]
  by_cases h4 : q < 4
  · rw [wC_ati (fun j _ => ⟨by have := headAt_ge j; omega, fun r _ => by have := recAt_ge r; omega⟩), ati_wR_ne (fun r _ => by have := recAt_ge r; omega), ati_headL]
    rcases (by omega : q = 0 ∨ q = 1 ∨ q = 2 ∨ q = 3) with rfl | rfl | rfl | rfl
    · rw [if_pos rfl, hH.n0]
    · rw [if_neg (by omega), if_pos rfl, hH.b1]
    · rw [if_neg (by omega), if_neg (by omega), if_pos rfl, hH.b2]
    · rw [if_neg (by omega), if_neg (by omega), if_neg (by omega), hH.b3]
  · rcases pos_cases (q := q) (by omega) with ⟨i, rfl⟩ | ⟨r, a, ha, rfl⟩
    · by_cases hi : i < bkts n
      · have h1 := hcls i hi
        rw [hcg i hi] at h1
        exact (h1.same (g.chn i hi)).1
      · rw [wC_ati (fun j hj => ⟨fun e => by have := headAt_inj e; omega, fun r _ e => head_rec e (by omega)⟩), hhead, g.zh i (by omega)]
    · by_cases hr : r < n
      · by_cases ha2 : a = 2
        · subst ha2
          have hi := bkt_lt (ati l (recAt r)).toNat (b := bkts n) (by have := bkts8 n; omega)
          have h1 := hcls _ hi
          rw [hcg _ hi] at h1
          exact (h1.same (g.chn _ hi)).2 r ((g.mem _ hi r).2 ⟨hr, rfl⟩)
        · rw [wC_ati (fun j hj => ⟨fun e => head_rec e.symm (by omega), fun s _ e => by have := (recAt_inj e (by omega) (by omega)).2; omega⟩)]
          have h2 := ati_wR (recs := recs) (k := n) (l := headL n) (fun r hr => by rw [hb0]; have := hrn r hr; omega) r hr
          rw [hrec r hr] at h2
          rcases (by omega : a = 0 ∨ a = 1) with rfl | rfl
          · exact h2.1
          · exact h2.2
      · rw [g.zr r (by omega) a ha]
        rw [wC_ati (fun j hj => ⟨fun e => head_rec e.symm (by omega), fun s hs e => ?_⟩)]
        · refine hbase _ (by have := recAt_ge r; omega) (fun s hs => ⟨fun e => ?_, fun e => ?_⟩)
          · have := (recAt_inj (b := 0) e ha (by omega)).1; omega
          · have := (recAt_inj e ha (by omega)).1; omega
        · have := (recAt_inj e ha (by omega)).1
          subst this
          rw [hcg j hj] at hs
          exact hr (g.lt hj hs)
end Go.Proofs.Ytdcomhdadnhpnaa