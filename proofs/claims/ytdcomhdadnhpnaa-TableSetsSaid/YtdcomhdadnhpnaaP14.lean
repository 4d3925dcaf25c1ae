/- Plain: tables told by their words with each hash; Add, Drop, Find and Elems in these words. No program here. -/
import Derived.Test.YtdcomhdadnhpnaaP13
import Derived.Test.YtdcomhdadnhpnaaMB
import Derived.Test.YtdcomhdadnhpnaaT30
set_option linter.unusedSimpArgs false
set_option linter.unusedVariables false
namespace Go.Proofs.Ytdcomhdadnhpnaa
variable {l l' : List Int} {n b : Nat} {C C' : Nat → List Nat}

abbrev okH (h : Int) : Prop := 0 ≤ h ∧ h ≤ 2147483647
/-- the words with a hash, in order -/
noncomputable def wds (l : List Int) (h : Int) : List Int := outL l h (tabC l (bkt h.toNat (bkts (tabN l))))
theorem wds_g (hH : HeadOk l n) (g : G l n (bkts n) C) (h : Int) : wds l h = outL l h (C (bkt h.toNat (bkts n))) := by
  unfold wds
  rw [tab_n hH, tab_c hH g (bkt_lt _ (by have := bkts8 n; omega))]
theorem hasR_wds {rs : List Nat} {h x : Int} : hasR l h x rs = true ↔ x ∈ outL l h rs := by
  rw [outL_mem]
  unfold hasR
  simp only [List.any_eq_true, decide_eq_true_eq]
theorem addF_has (hV : ValidL l) {h x : Int} (hh : okH h) (hx : x ∈ wds l h) : addF l h x = (0, [], 6) := by
  have h1 : hasR l h x (tabC l (bkt h.toNat (bkts (tabN l)))) = true := hasR_wds.2 hx
  rw [addF_ok hV hh]
  unfold addR
  rw [if_neg (by simpa using hh), if_pos h1]
  simp
theorem addF_new (hV : ValidL l) {h x : Int} (hh : okH h) (hx : x ∉ wds l h) (hn : tabN l < 100000) :
    (addF l h x).2.2 = 0 ∧ ValidL (addF l h x).2.1 ∧ tabN (addF l h x).2.1 = tabN l + 1 ∧ ∀ h', wds (addF l h x).2.1 h' = wds l h' ++ (if h' = h then [x] else []) := by
  have h1 : hasR l h x (tabC l (bkt h.toNat (bkts (tabN l)))) = false := by
    rw [Bool.eq_false_iff]; exact fun e => hx (hasR_wds.1 e)
  have g := tab_g hV
  have hH := tab_h hV
  have h0 : (addR l (tabN l) (tabC l) h x).2.1 = 0 := by
    unfold addR
    rw [if_neg (by simpa using hh), if_neg (by rw [h1]; simp), if_neg (by omega)]
    split <;> rfl
  rw [addF_ok hV hh, if_pos h0]
  have ha := g.add hH h0
  refine ⟨h0, g_validL ha.2.2.2.1 ha.2.2.2.2.1, tab_n ha.2.2.2.1, fun h' => ?_⟩
  rw [wds_g ha.2.2.2.1 ha.2.2.2.2.1]
  exact g.add_out hH h0
theorem addF_bad (hV : ValidL l) {h x : Int} (hh : ¬ okH h) : addF l h x = (0, [], 1) := by
  unfold addF; rw [if_neg (by simpa using hV), if_pos hh]
theorem dropF_has (hV : ValidL l) {h x : Int} (hh : okH h) (hx : x ∈ wds l h) :
    (dropF l h x).2.2 = 0 ∧ ValidL (dropF l h x).2.1 ∧ tabN (dropF l h x).2.1 + 1 = tabN l ∧ ∀ h', wds (dropF l h x).2.1 h' = if h' = h then (wds l h).erase x else wds l h' := by
  obtain ⟨k, l', C', hD, e⟩ := dropF_ok (x := x) hV hh (hasR_wds.2 hx)
  have g := tab_g hV
  have hH := tab_h hV
  obtain ⟨h0, hg, hH'⟩ := g.drop hH hD
  rw [e]
  refine ⟨rfl, g_validL hH' hg, by rw [tab_n hH']; omega, fun h' => ?_⟩
  rw [wds_g hH' hg]
  exact g.drop_out hH hD
theorem findF_wds (hV : ValidL l) {h : Int} (hh : okH h) : (findF l h).1 = wds l h ∧ (findF l h).2.2 = 0 := by
  unfold findF
  rw [if_neg (by simpa using hV), if_neg (by simpa using hh)]
  exact ⟨rfl, rfl⟩
theorem wds_nodup (hV : ValidL l) (h : Int) : (wds l h).Nodup := by
  have g := tab_g hV
  have hi := bkt_lt h.toNat (b := bkts (tabN l)) (by have := bkts8 (tabN l); omega)
  unfold wds outL
  refine List.pairwise_map.2 ((List.Pairwise.filter _ (g.nd _ hi)).imp_of_mem ?_)
  intro r s hr hs hne e
  simp only [List.mem_filter, decide_eq_true_eq] at hr hs
  exact hne (g.dif r (g.lt hi hr.1) s (g.lt hi hs.1) (hr.2.trans hs.2.symm) e)
theorem wds_ok (hV : ValidL l) {h x : Int} (hx : x ∈ wds l h) : okH h := by
  have g := tab_g hV
  have hi := bkt_lt h.toNat (b := bkts (tabN l)) (by have := bkts8 (tabN l); omega)
  obtain ⟨r, hr, e1, e2⟩ := outL_mem.1 hx
  have := g.hash r (g.lt hi hr)
  unfold okH
  omega

/-- the elements in order -/
noncomputable def ordF (l : List Int) : List (Int × Int) := (recsL (tabC l) (bkts (tabN l))).map (elm l)
theorem recsL_mem {C : Nat → List Nat} {r : Nat} : ∀ {k : Nat}, r ∈ recsL C k ↔ ∃ i, i < k ∧ r ∈ C i
  | 0 => by simp [recsL]
  | k + 1 => by
    rw [recsL, List.mem_append, recsL_mem (k := k)]
    constructor
    · rintro (⟨i, h1, h2⟩ | h)
      · exact ⟨i, by omega, h2⟩
      · exact ⟨k, by omega, h⟩
    · rintro ⟨i, h1, h2⟩
      by_cases e : i = k
      · exact .inr (e ▸ h2)
      · exact .inl ⟨i, by omega, h2⟩
theorem ordF_mem (hV : ValidL l) {h x : Int} : (h, x) ∈ ordF l ↔ x ∈ wds l h := by
  have g := tab_g hV
  have h8 := bkts8 (tabN l)
  unfold ordF wds
  rw [outL_mem]
  simp only [List.mem_map, recsL_mem, elm, Prod.mk.injEq]
  constructor
  · rintro ⟨r, ⟨i, hi, hr⟩, e1, e2⟩
    have := ((g.mem i hi r).1 hr).2
    rw [e1] at this
    exact ⟨r, by rw [this]; exact hr, e1, e2⟩
  · rintro ⟨r, hr, e1, e2⟩
    exact ⟨r, ⟨_, bkt_lt _ (by omega), hr⟩, e1, e2⟩
theorem ordF_nodup (hV : ValidL l) : (ordF l).Nodup := by
  have g := tab_g hV
  unfold ordF
  refine List.pairwise_map.2 ((g.recs _ (Nat.le_refl _)).1.imp_of_mem ?_)
  intro r s hr hs hne e
  simp only [elm, Prod.mk.injEq] at e
  exact hne (g.dif r ((g.recs _ (Nat.le_refl _)).2 r hr).1 s ((g.recs _ (Nat.le_refl _)).2 s hs).1 e.1 e.2)
theorem nodup_len_ge : ∀ (n : Nat) (m : List Nat), (∀ r, r < n → r ∈ m) → n ≤ m.length
  | 0, _, _ => Nat.zero_le _
  | n + 1, m, h => by
    have h1 := h n (by omega)
    have := nodup_len_ge n (m.erase n) (fun r hr => (List.mem_erase_of_ne (by omega)).2 (h r (by omega)))
    rw [List.length_erase_of_mem h1] at this
    have := List.length_pos_of_mem h1
    omega
theorem ordF_len (hV : ValidL l) : (ordF l).length = tabN l := by
  have g := tab_g hV
  have h8 := bkts8 (tabN l)
  unfold ordF
  rw [List.length_map]
  have h1 := g.recs_le _ (Nat.le_refl _)
  have h2 := nodup_len_ge (tabN l) (recsL (tabC l) (bkts (tabN l))) (fun r hr => recsL_mem.2 ⟨bkt (ati l (recAt r)).toNat (bkts (tabN l)), bkt_lt _ (by omega), (g.mem _ (bkt_lt _ (by omega)) r).2 ⟨hr, rfl⟩⟩)
  omega

/-- two lists in order of their first parts are the same, if the parts with each first part are -/
theorem srt_ext : ∀ {A B : List (Int × Int)}, A.Pairwise (fun x y => x.1 ≤ y.1) → B.Pairwise (fun x y => x.1 ≤ y.1) → (∀ h, A.filter (fun e => decide (e.1 = h)) = B.filter (fun e => decide (e.1 = h))) → A = B
  | [], [], _, _, _ => rfl
  | [], y :: B, _, _, h => by have := h y.1; simp at this
  | x :: A, [], _, _, h => by have := h x.1; simp at this
  | x :: A, y :: B, hA, hB, h => by
    have pA := List.pairwise_cons.1 hA
    have pB := List.pairwise_cons.1 hB
    have hle : ∀ {x y : Int × Int} {A B : List (Int × Int)}, (∀ z ∈ B, y.1 ≤ z.1) → (∀ h, (x :: A).filter (fun e => decide (e.1 = h)) = (y :: B).filter (fun e => decide (e.1 = h))) → y.1 ≤ x.1 := by
      intro x y A B hB h
      have h1 : x ∈ (y :: B).filter (fun e => decide (e.1 = x.1)) := by rw [← h x.1]; simp
      rcases List.mem_cons.1 (List.mem_filter.1 h1).1 with rfl | h2
      · exact Int.le_refl _
      · exact hB x h2
    have h1 := hle pB.1 h
    have h2 := hle pA.1 (fun k => (h k).symm)
    have e : x.1 = y.1 := by omega
    have hx := h x.1
    rw [List.filter_cons, List.filter_cons, if_pos (by simp), if_pos (by simp [e])] at hx
    have exy : x = y := (List.cons.inj hx).1
    subst exy
    rw [srt_ext pA.2 pB.2 (fun k => ?_)]
    have hk := h k
    rw [List.filter_cons, List.filter_cons] at hk
    split at hk
    · exact (List.cons.inj hk).2
    · exact hk
theorem outL_pairs (h : Int) (rs : List Nat) : (rs.map (elm l)).filter (fun e => decide (e.1 = h)) = (outL l h rs).map fun w => (h, w) := by
  unfold outL
  induction rs with
  | nil => rfl
  | cons r rs ih =>
    rw [List.map_cons, List.filter_cons, List.filter_cons]
    by_cases e : ati l (recAt r) = h
    · rw [if_pos (show decide ((elm l r).1 = h) = true from decide_eq_true e), if_pos (show decide (ati l (recAt r) = h) = true from decide_eq_true e), List.map_cons, List.map_cons, ih]
      simp [elm, e]
    · rw [if_neg (show ¬ decide ((elm l r).1 = h) = true from fun h1 => e (of_decide_eq_true h1)), if_neg (show ¬ decide (ati l (recAt r) = h) = true from fun h1 => e (of_decide_eq_true h1)), ih]
/-- the elements in order are told by the words with each hash -/
theorem ord_det (hV : ValidL l) (hV' : ValidL l') (hn : tabN l = tabN l') (hw : ∀ h, wds l h = wds l' h) : ordF l = ordF l' := by
  have g := tab_g hV
  have g' := tab_g hV'
  have h8 := bkts8 (tabN l)
  unfold ordF
  rw [← hn] at g' ⊢
  have key : ∀ i, i < bkts (tabN l) → (tabC l i).map (elm l) = (tabC l' i).map (elm l') := fun i hi => by
    refine srt_ext (List.pairwise_map.2 (g.srt i hi)) (List.pairwise_map.2 (g'.srt i hi)) (fun h => ?_)
    rw [outL_pairs, outL_pairs]
    by_cases e : bkt h.toNat (bkts (tabN l)) = i
    · have := hw h
      unfold wds at this
      rw [← hn, e] at this
      rw [this]
    · rw [outL_none (fun r hr e2 => e (by rw [← e2]; exact ((g.mem i hi r).1 hr).2)), outL_none (fun r hr e2 => e (by rw [← e2]; exact ((g'.mem i hi r).1 hr).2))]
  have : ∀ k, k ≤ bkts (tabN l) → (recsL (tabC l) k).map (elm l) = (recsL (tabC l') k).map (elm l') := fun k => by
    induction k with
    | zero => intro _; rfl
    | succ k ih =>
      intro hk
      rw [recsL, recsL, List.map_append, List.map_append, ih (by omega), key k (by omega)]
  exact this _ (Nat.le_refl _)
theorem fresh_v : ValidL freshL := g_validL freshL_head freshL_g
theorem fresh_n : tabN freshL = 0 := tab_n freshL_head
theorem fresh_w (h : Int) : wds freshL h = [] := by rw [wds_g freshL_head freshL_g]; rfl
end Go.Proofs.Ytdcomhdadnhpnaa
