/- Plain: TableOrder's loops. No program here. -/
import Derived.Test.YtdcomhdadnhpnaaP14
import Derived.Test.YtdcomhdadnhpnaaB3
set_option linter.unusedSimpArgs false
set_option linter.unusedVariables false
namespace Go.Proofs.Ytdcomhdadnhpnaa

theorem sub_len {α : Type} [BEq α] [LawfulBEq α] : ∀ {A B : List α}, A.Nodup → (∀ a ∈ A, a ∈ B) → A.length ≤ B.length
  | [], _, _, _ => Nat.zero_le _
  | a :: A, B, hA, h => by
    have h2 := List.nodup_cons.1 hA
    have hb := h a (by simp)
    have := sub_len (B := B.erase a) h2.2 (fun x hx => (List.mem_erase_of_ne (fun e => h2.1 (by rw [← e]; exact hx))).2 (h x (by simp [hx])))
    rw [List.length_erase_of_mem hb] at this
    have := List.length_pos_of_mem hb
    simp only [List.length_cons]
    omega
theorem few_eq {α : Type} {A B : List α} (hA : A.Nodup) (hB : B.length ≤ 1) (h : ∀ w, w ∈ A ↔ w ∈ B) : A = B := by
  match B, hB with
  | [], _ =>
    cases A with
    | nil => rfl
    | cons a A => exact absurd ((h a).1 (by simp)) (by simp)
  | [b], _ =>
    have hb : ∀ a ∈ A, a = b := fun a ha => by simpa using (h a).1 ha
    match A, hA with
    | [], _ => exact absurd ((h b).2 (by simp)) (by simp)
    | [a], _ => rw [hb a (by simp)]
    | a :: c :: A, hA =>
      have h1 := hb a (by simp)
      have h2 := hb c (by simp)
      subst h1; subst h2
      simp at hA
theorem addF_zero {l : List Int} (hV : ValidL l) {h x : Int} (hn : tabN l < 100000) (h0 : (addF l h x).2.2 = 0) : okH h ∧ x ∉ wds l h := by
  by_cases hh : okH h
  · refine ⟨hh, fun hx => ?_⟩
    rw [addF_has hV hh hx] at h0
    exact absurd h0 (by decide)
  · rw [addF_bad hV hh] at h0
    exact absurd h0 (by decide)

/-- the first loop: a table of elements with different hashes -/
structure LA (t : List Int) (own : List (Int × Int)) : Prop where
  v : ValidL t
  n : tabN t = own.length
  w : ∀ h, wds t h = (own.filter (fun e => decide (e.1 = h))).map (·.2)
  ok : ∀ e ∈ own, okH e.1
  nd : (own.map (·.1)).Nodup
theorem la_start : LA freshL [] := ⟨fresh_v, fresh_n, fun h => by rw [fresh_w]; rfl, by simp, by simp⟩
theorem LA.add {t : List Int} {own : List (Int × Int)} (H : LA t own) (hl : own.length < 100000) {h x : Int} (hh : okH h) (h0 : (findF t h).1.length = 0) :
    (addF t h x).2.2 = 0 ∧ LA (addF t h x).2.1 (own ++ [(h, x)]) := by
  rw [(findF_wds H.v hh).1] at h0
  have h0' := List.length_eq_zero_iff.1 h0
  obtain ⟨a1, a2, a3, a4⟩ := addF_new (x := x) H.v hh (by rw [h0']; simp) (by rw [H.n]; exact hl)
  refine ⟨a1, a2, by rw [a3, H.n]; simp, fun h' => ?_, fun e he => ?_, ?_⟩
  · rw [a4, H.w, List.filter_append, List.map_append, List.filter_cons]
    by_cases e : h' = h
    · subst e; rw [if_pos rfl, if_pos (by simp)]; rfl
    · rw [if_neg e, if_neg (by simpa using Ne.symm e)]; rfl
  · rcases List.mem_append.1 he with he | he
    · exact H.ok e he
    · simp at he; subst he; exact hh
  · rw [List.map_append]
    refine List.nodup_append.2 ⟨H.nd, by simp, fun a ha b hb e => ?_⟩
    simp at hb
    subst hb; subst e
    obtain ⟨e, he, e2⟩ := List.mem_map.1 ha
    have := H.w a
    rw [h0'] at this
    have h3 : e ∈ own.filter (fun e => decide (e.1 = a)) := List.mem_filter.2 ⟨he, by simpa using e2⟩
    rw [List.map_eq_nil_iff.1 this.symm] at h3
    simp at h3
theorem LA.ownnd {t : List Int} {own : List (Int × Int)} (H : LA t own) : own.Nodup := (List.pairwise_map.1 H.nd).imp (fun h e => h (by rw [e]))

/-- the second loop: any table -/
structure LB (u : List Int) (N : Nat) : Prop where
  v : ValidL u
  n : tabN u ≤ N
theorem LB.add {u : List Int} {N : Nat} (H : LB u N) (hN : N < 100000) {h x : Int} (h0 : (addF u h x).2.2 = 0) : LB (addF u h x).2.1 (N + 1) := by
  have hn := H.n
  obtain ⟨k1, k2⟩ := addF_zero H.v (by omega) h0
  obtain ⟨_, a2, a3, _⟩ := addF_new H.v k1 k2 (by omega)
  exact ⟨a2, by omega⟩

/-- the third loop -/
structure LC (u : List Int) (own ow : List (Int × Int)) (i : Nat) (gone : List (Int × Int)) : Prop where
  v : ValidL u
  n : tabN u ≤ 200 + i
  pm : ow.Perm own
  mem : ∀ h w, w ∈ wds u h ↔ (h, w) ∈ gone ∨ (h, w) ∈ ow.take i
  nd : gone.Nodup
  dj : ∀ e ∈ gone, e ∉ ow.take i
  gl : gone.length ≤ 200
theorem lc_start {t u : List Int} {own : List (Int × Int)} (H : LB u 200) : LC u own own 0 (ordF u) :=
  ⟨H.v, H.n, .refl _, fun h w => by rw [ordF_mem H.v]; simp, ordF_nodup H.v, by simp, by rw [ordF_len H.v]; exact H.n⟩
theorem swap_take {α : Type} {l : List α} {i k : Nat} (hi : i ≤ k) (hk : k < l.length) : ((l.set k (l[i]'(by omega))).set i l[k]).take (i + 1) = l.take i ++ [l[k]] := by
  apply List.ext_getElem?
  intro j
  rw [List.getElem?_take, List.getElem?_set, List.getElem?_set, List.length_set]
  by_cases h1 : j < i
  · rw [if_pos (by omega), if_neg (by omega), if_neg (by omega), List.getElem?_append_left (by rw [List.length_take]; omega), List.getElem?_take, if_pos h1]
  · by_cases h2 : j = i
    · subst h2
      rw [if_pos (by omega), if_pos rfl, if_pos (by omega), List.getElem?_append_right (by rw [List.length_take]; omega)]
      have : j - (l.take j).length = 0 := by rw [List.length_take]; omega
      rw [this]; simp
    · rw [if_neg (by omega), List.getElem?_eq_none (by rw [List.length_append, List.length_take]; simp only [List.length_cons, List.length_nil]; omega)]
theorem nodup_not_take {α : Type} {l : List α} (h : l.Nodup) {i k : Nat} (hi : i ≤ k) (hk : k < l.length) : l[k] ∉ l.take i := by
  intro hm
  obtain ⟨j, hj, e⟩ := List.mem_iff_getElem.1 hm
  rw [List.length_take] at hj
  rw [List.getElem_take] at e
  have := (List.getElem_inj h).1 e
  omega
theorem LC.step {t u : List Int} {own ow gone : List (Int × Int)} {i k : Nat} (HA : LA t own) (H : LC u own ow i gone) (hi : i ≤ k) (hk : k < ow.length) (hl : ow.length ≤ 200) :
    ((addF u ow[k].1 ow[k].2).2.2 = 6 ∧ LC u own ((ow.set k (ow[i]'(by omega))).set i ow[k]) (i + 1) (woL gone (idxF gone ow[k]))) ∨
    ((addF u ow[k].1 ow[k].2).2.2 = 0 ∧ LC (addF u ow[k].1 ow[k].2).2.1 own ((ow.set k (ow[i]'(by omega))).set i ow[k]) (i + 1) gone) := by
  have hnd : ow.Nodup := H.pm.nodup_iff.2 HA.ownnd
  have hx := nodup_not_take hnd hi hk
  have hok : okH ow[k].1 := HA.ok _ (H.pm.mem_iff.1 (List.getElem_mem _))
  have hp : ((ow.set k (ow[i]'(by omega))).set i ow[k]).Perm own := (List.set_set_perm hk (show i < ow.length by omega)).trans H.pm
  have ht := swap_take hi hk
  have hmk := H.mem ow[k].1 ow[k].2
  have hn := H.n
  by_cases hg : ow[k] ∈ gone
  · left
    have hm : ow[k].2 ∈ wds u ow[k].1 := hmk.2 (.inl hg)
    rw [addF_has H.v hok hm]
    have hwo : woL gone (idxF gone ow[k]) = gone.erase ow[k] := by
      have hidx : gone.idxOf ow[k] < gone.length := List.idxOf_lt_length_iff.2 hg
      have key : ∀ j, j ≤ gone.length → woF gone (idxF gone ow[k]) j = (gone.take j).eraseIdx (gone.idxOf ow[k]) := by
        intro j
        have hidx' : idxF gone ow[k] = ((gone.idxOf ow[k] : Nat) : Int) := by unfold idxF; rw [if_pos hg]
        rw [hidx']
        induction j with
        | zero => intro _; rfl
        | succ j ih =>
          intro hj
          by_cases e : j = gone.idxOf ow[k]
          · rw [woF_at _ (by rw [e]), ih (by omega), List.eraseIdx_of_length_le (by rw [List.length_take]; omega), List.take_succ_eq_append_getElem (by omega), ← e]
            rw [List.eraseIdx_append_of_length_le (by rw [List.length_take]; omega)]
            have : j - (gone.take j).length = 0 := by rw [List.length_take]; omega
            rw [this]; simp
          · rw [woF_ne _ (by omega) (by omega), ih (by omega), List.take_succ_eq_append_getElem (by omega)]
            by_cases e2 : gone.idxOf ow[k] < j
            · rw [List.eraseIdx_append_of_lt_length (by rw [List.length_take]; omega)]
            · rw [List.eraseIdx_of_length_le (l := gone.take j) (by rw [List.length_take]; omega), List.eraseIdx_of_length_le (by rw [List.length_append, List.length_take]; simp only [List.length_cons, List.length_nil]; omega)]
      unfold woL
      rw [key _ (Nat.le_refl _), List.take_length, List.erase_eq_eraseIdx_of_idxOf rfl]
    rw [hwo]
    refine ⟨rfl, H.v, by omega, hp, fun h w => ?_, H.nd.erase _, fun e he => ?_, ?_⟩
    · rw [H.mem, ht, List.mem_append, H.nd.mem_erase_iff]
      by_cases e : (h, w) = ow[k]
      · rw [e]; simp [hg]
      · simp [e]
    · rw [ht, List.mem_append]
      have he2 := (H.nd.mem_erase_iff).1 he
      rintro (h | h)
      · exact H.dj e he2.2 h
      · simp at h; exact he2.1 h
    · have h1 := List.length_erase_le (a := ow[k]) (l := gone); have := H.gl; omega
  · right
    have hm : ow[k].2 ∉ wds u ow[k].1 := fun h => by
      rcases hmk.1 h with h | h
      · exact hg h
      · exact hx h
    obtain ⟨a1, a2, a3, a4⟩ := addF_new H.v hok hm (by omega)
    refine ⟨a1, a2, by omega, hp, fun h w => ?_, H.nd, fun e he => ?_, H.gl⟩
    · rw [a4, ht, List.mem_append, List.mem_append, H.mem]
      by_cases e : h = ow[k].1
      · subst e
        rw [if_pos rfl]
        simp only [List.mem_singleton]
        constructor
        · rintro ((h | h) | h)
          · exact .inl h
          · exact .inr (.inl h)
          · exact .inr (.inr (Prod.ext rfl h))
        · rintro (h | h | h)
          · exact .inl (.inl h)
          · exact .inl (.inr h)
          · exact .inr (congrArg (·.2) h)
      · rw [if_neg e]
        simp only [List.not_mem_nil, or_false, List.mem_singleton]
        constructor
        · rintro (h | h)
          · exact .inl h
          · exact .inr (.inl h)
        · rintro (h | h | h)
          · exact .inl h
          · exact .inr h
          · exact absurd (congrArg (·.1) h) e
    · rw [ht, List.mem_append]
      rintro (h | h)
      · exact H.dj e he h
      · simp at h; subst h; exact hg he

/-- the fourth loop -/
structure LD (u : List Int) (own gone : List (Int × Int)) (j : Nat) : Prop where
  v : ValidL u
  mem : ∀ h w, w ∈ wds u h ↔ (h, w) ∈ gone.drop j ∨ (h, w) ∈ own
  nd : gone.Nodup
  dj : ∀ e ∈ gone, e ∉ own
theorem LC.done {u : List Int} {own ow gone : List (Int × Int)} (H : LC u own ow ow.length gone) : LD u own gone 0 :=
  ⟨H.v, fun h w => by rw [H.mem, List.take_length, H.pm.mem_iff]; simp, H.nd, fun e he h => H.dj e he (by rw [List.take_length]; exact H.pm.mem_iff.2 h)⟩
theorem LD.step {u : List Int} {own gone : List (Int × Int)} {j : Nat} (H : LD u own gone j) (hj : j < gone.length) : (dropF u gone[j].1 gone[j].2).2.2 = 0 ∧ LD (dropF u gone[j].1 gone[j].2).2.1 own gone (j + 1) := by
  have hm : gone[j].2 ∈ wds u gone[j].1 := (H.mem _ _).2 (.inl (by rw [List.drop_eq_getElem_cons hj]; exact List.mem_cons_self))
  obtain ⟨a1, a2, a3, a4⟩ := dropF_has H.v (wds_ok H.v hm) hm
  have hno := H.dj gone[j] (List.getElem_mem _)
  have hnd := H.nd
  have hnd2 : (gone.drop j).Nodup := hnd.sublist (List.drop_sublist _ _)
  rw [List.drop_eq_getElem_cons hj] at hnd2
  have hn3 := (List.nodup_cons.1 hnd2).1
  refine ⟨a1, a2, fun h w => ?_, H.nd, H.dj⟩
  have hmm := H.mem h w
  rw [List.drop_eq_getElem_cons hj, List.mem_cons] at hmm
  rw [a4]
  by_cases e : h = gone[j].1
  · subst e
    rw [if_pos rfl, (wds_nodup H.v _).mem_erase_iff, hmm]
    constructor
    · rintro ⟨h1, (h2 | h2) | h2⟩
      · exact absurd (congrArg (·.2) h2) h1
      · exact .inl h2
      · exact .inr h2
    · rintro (h2 | h2)
      · exact ⟨fun e => hn3 (by rw [show gone[j] = (gone[j].1, w) from by rw [e]]; exact h2), .inl (.inr h2)⟩
      · exact ⟨fun e => hno (by rw [show gone[j] = (gone[j].1, w) from by rw [e]]; exact h2), .inr h2⟩
  · rw [if_neg e, hmm]
    constructor
    · rintro ((h2 | h2) | h2)
      · exact absurd (congrArg (·.1) h2) e
      · exact .inl h2
      · exact .inr h2
    · rintro (h2 | h2)
      · exact .inl (.inr h2)
      · exact .inr h2
theorem LD.done {t u : List Int} {own gone : List (Int × Int)} (HA : LA t own) (H : LD u own gone gone.length) : ordF t = ordF u := by
  have hm : ∀ h w, w ∈ wds u h ↔ (h, w) ∈ own := fun h w => by rw [H.mem]; simp
  have hm2 : ∀ h w, w ∈ wds t h ↔ (h, w) ∈ own := fun h w => by
    rw [HA.w, List.mem_map]
    constructor
    · rintro ⟨e, he, rfl⟩
      have := List.mem_filter.1 he
      rw [show (h, e.2) = e from Prod.ext (of_decide_eq_true this.2).symm rfl]
      exact this.1
    · intro h2; exact ⟨_, List.mem_filter.2 ⟨h2, by simp⟩, rfl⟩
  have hw : ∀ h, wds t h = wds u h := fun h => by
    refine (few_eq (wds_nodup H.v h) ?_ (fun w => (hm h w).trans (hm2 h w).symm)).symm
    rw [HA.w, List.length_map]
    have hnd := HA.nd
    have : ∀ (own : List (Int × Int)), (own.map (·.1)).Nodup → (own.filter (fun e => decide (e.1 = h))).length ≤ 1 := by
      intro own
      induction own with
      | nil => intro _; simp
      | cons a own ih =>
        intro hnd
        rw [List.map_cons] at hnd
        have h2 := List.nodup_cons.1 hnd
        rw [List.filter_cons]
        split
        · rename_i e
          have e' : a.1 = h := by simpa using e
          have : own.filter (fun e => decide (e.1 = h)) = [] := List.filter_eq_nil_iff.2 (fun b hb e2 => h2.1 (by rw [e', ← (by simpa using e2 : b.1 = h)]; exact List.mem_map.2 ⟨b, hb, rfl⟩))
          rw [this]; simp
        · exact ih h2.2
    exact this own hnd
  refine ord_det HA.v H.v ?_ hw
  have e : ∀ x, x ∈ ordF t ↔ x ∈ ordF u := fun x => by
    obtain ⟨h, w⟩ := x
    rw [ordF_mem HA.v, ordF_mem H.v, hw]
  have h1 := sub_len (ordF_nodup HA.v) (fun x hx => (e x).1 hx)
  have h2 := sub_len (ordF_nodup H.v) (fun x hx => (e x).2 hx)
  rw [ordF_len HA.v, ordF_len H.v] at h1 h2
  omega
end Go.Proofs.Ytdcomhdadnhpnaa
