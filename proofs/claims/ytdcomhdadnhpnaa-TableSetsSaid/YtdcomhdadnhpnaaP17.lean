/- Plain: a table and a list of elements in step. No program here. -/
import Derived.Test.YtdcomhdadnhpnaaP16
import Derived.Test.YtdcomhdadnhpnaaB6
set_option linter.unusedSimpArgs false
set_option linter.unusedVariables false
namespace Go.Proofs.Ytdcomhdadnhpnaa

/-- the words with a hash of a list -/
def wof (L : List (Int × Int)) (h : Int) : List Int := (L.filter (fun e => decide (e.1 = h))).map (·.2)
theorem wof_nil (h : Int) : wof [] h = [] := rfl
theorem wof_cons (a : Int × Int) (L : List (Int × Int)) (h : Int) : wof (a :: L) h = (if a.1 = h then [a.2] else []) ++ wof L h := by
  unfold wof
  rw [List.filter_cons]
  by_cases e : a.1 = h
  · rw [if_pos (by simpa using e), if_pos e]; rfl
  · rw [if_neg (by simpa using e), if_neg e]; rfl
theorem wof_append (L M : List (Int × Int)) (h : Int) : wof (L ++ M) h = wof L h ++ wof M h := by simp [wof]
theorem wof_mem {L : List (Int × Int)} {h w : Int} : w ∈ wof L h ↔ (h, w) ∈ L := by
  unfold wof
  rw [List.mem_map]
  constructor
  · rintro ⟨e, he, rfl⟩
    have := List.mem_filter.1 he
    rw [show (h, e.2) = e from Prod.ext (of_decide_eq_true this.2).symm rfl]
    exact this.1
  · intro h2; exact ⟨_, List.mem_filter.2 ⟨h2, by simp⟩, rfl⟩
theorem wof_erase (e : Int × Int) (h : Int) : ∀ (L : List (Int × Int)), wof (L.erase e) h = if h = e.1 then (wof L h).erase e.2 else wof L h
  | [] => by simp [wof]
  | a :: L => by
    have ih := wof_erase e h L
    by_cases ae : a = e
    · subst ae
      rw [List.erase_cons_head, wof_cons]
      by_cases hh : h = a.1
      · rw [if_pos hh, if_pos hh.symm]; simp
      · rw [if_neg hh, if_neg (Ne.symm hh)]; rfl
    · rw [List.erase_cons_tail (by simpa using ae), wof_cons, wof_cons, ih]
      by_cases hh : h = e.1
      · rw [if_pos hh, if_pos hh]
        by_cases ha : a.1 = h
        · have : a.2 ≠ e.2 := fun e2 => ae (Prod.ext (ha.trans hh) e2)
          rw [if_pos ha]
          simp only [List.cons_append, List.nil_append]
          rw [List.erase_cons_tail (by simpa using this)]
        · rw [if_neg ha]; rfl
      · rw [if_neg hh, if_neg hh]
theorem wof_set {e : Int × Int} {V h : Int} : ∀ {L : List (Int × Int)}, L.Nodup → e ∈ L → wof (L.set (L.idxOf e) (e.1, V)) h = if h = e.1 then (wof L h).map (fun w => if w = e.2 then V else w) else wof L h
  | [], _, he => by simp at he
  | a :: L, hn, he => by
    have hn2 := List.nodup_cons.1 hn
    by_cases ae : a = e
    · subst ae
      rw [List.idxOf_cons_self, List.set_cons_zero, wof_cons, wof_cons]
      by_cases hh : h = a.1
      · rw [if_pos hh, if_pos hh.symm, if_pos hh.symm, List.map_append]
        have : (wof L h).map (fun w => if w = a.2 then V else w) = wof L h := by
          conv => rhs; rw [← List.map_id (wof L h)]
          refine List.map_congr_left (fun w hw => ?_)
          rw [if_neg]
          · rfl
          · intro e2
            have := wof_mem.1 hw
            rw [e2, hh] at this
            exact hn2.1 this
        rw [this]; simp
      · rw [if_neg hh, if_neg (Ne.symm hh), if_neg (Ne.symm hh)]
    · have he2 : e ∈ L := by
        rcases List.mem_cons.1 he with rfl | h2
        · exact absurd rfl ae
        · exact h2
      have ih := wof_set (V := V) (h := h) hn2.2 he2
      rw [List.idxOf_cons, show (a == e) = false from by simpa using ae, cond_false, List.set_cons_succ, wof_cons, wof_cons, ih]
      by_cases hh : h = e.1
      · rw [if_pos hh, if_pos hh, List.map_append]
        by_cases ha : a.1 = h
        · have : a.2 ≠ e.2 := fun e2 => ae (Prod.ext (ha.trans hh) e2)
          rw [if_pos ha]; simp [this]
        · rw [if_neg ha]; rfl
      · rw [if_neg hh, if_neg hh]
theorem nd_wof : ∀ {L : List (Int × Int)}, (∀ h, (wof L h).Nodup) → L.Nodup
  | [], _ => List.nodup_nil
  | a :: L, hw => by
    refine List.nodup_cons.2 ⟨fun hm => ?_, nd_wof (fun h => ?_)⟩
    · have := hw a.1
      rw [wof_cons, if_pos rfl] at this
      exact (List.nodup_cons.1 this).1 (wof_mem.2 hm)
    · have := hw h
      rw [wof_cons] at this
      exact (List.nodup_append.1 this).2.1
/-- a table and the list of its elements -/
structure SI (t : List Int) (L : List (Int × Int)) : Prop where
  v : ValidL t
  n : tabN t = L.length
  w : ∀ h, wds t h = wof L h
theorem SI.nd {t : List Int} {L : List (Int × Int)} (H : SI t L) : L.Nodup := nd_wof (fun h => by rw [← H.w]; exact wds_nodup H.v h)
theorem SI.mem {t : List Int} {L : List (Int × Int)} (H : SI t L) {h w : Int} : w ∈ wds t h ↔ (h, w) ∈ L := by rw [H.w]; exact wof_mem
theorem si_start : SI freshL [] := ⟨fresh_v, fresh_n, fun h => fresh_w h⟩
/-- the table behind an operation on an element, and its error -/
noncomputable def doesF (K V : Int) (e : Int × Int) (t : List Int) : List Int × Int :=
  if K = 0 then ((addF t e.1 e.2).2.1, (addF t e.1 e.2).2.2) else if K = 1 then ((dropF t e.1 e.2).2.1, (dropF t e.1 e.2).2.2) else putF t e.1 e.2 V
theorem dropF_bad {l : List Int} (hV : ValidL l) {h x : Int} (hh : ¬ okH h) : dropF l h x = (0, [], 1) := dropF_eq (.inr (.inl ⟨hV, hh, rfl, rfl, rfl⟩))
theorem dropF_none {l : List Int} (hV : ValidL l) {h x : Int} (hh : okH h) (hx : x ∉ wds l h) : dropF l h x = (0, [], 5) :=
  dropF_eq (.inr (.inr ⟨hV, hh, tabN l, tabC l, tab_h hV, tab_g hV, .inl ⟨hasR_out.2 hx, rfl, rfl, rfl⟩⟩))
theorem SI.step {t : List Int} {L : List (Int × Int)} (H : SI t L) (hl : L.length < 100000) (K V : Int) (e : Int × Int) :
    (doesF K V e t).2 = (wantF K V e L).2 ∧ ((doesF K V e t).2 ≠ 0 → (doesF K V e t).1.length = 0) ∧ SI (if (doesF K V e t).2 = 0 then (doesF K V e t).1 else t) (wantF K V e L).1 := by
  have hv := H.v
  have hm : ∀ x, x ∈ wds t e.1 ↔ (e.1, x) ∈ L := fun x => H.mem
  have hme : e.2 ∈ wds t e.1 ↔ e ∈ L := hm e.2
  unfold wantF doesF
  by_cases h0 : okH e.1
  · have hg : ¬ ¬ (0 ≤ e.1 ∧ e.1 ≤ 2147483647) := fun h => h h0
    rw [if_neg hg]
    by_cases hK : K = 0
    · rw [if_pos hK, if_pos hK]
      by_cases he : e ∈ L
      · rw [if_pos he, addF_has hv h0 (hme.2 he)]
        exact ⟨rfl, fun _ => rfl, H⟩
      · rw [if_neg he]
        obtain ⟨a1, a2, a3, a4⟩ := addF_new hv h0 (fun h => he (hme.1 h)) (by rw [H.n]; exact hl)
        refine ⟨a1, fun h => absurd a1 h, ?_⟩
        rw [if_pos a1]
        refine ⟨a2, by rw [a3, H.n]; simp, fun h => ?_⟩
        rw [a4, H.w, wof_append, wof_cons, wof_nil, List.append_nil]
        by_cases eh : h = e.1
        · rw [if_pos eh, if_pos eh.symm]
        · rw [if_neg eh, if_neg (Ne.symm eh)]
    · rw [if_neg hK, if_neg hK]
      by_cases he : e ∈ L
      · have hmE : ¬ e ∉ L := fun h => h he
        rw [if_neg hmE]
        by_cases hK1 : K = 1
        · rw [if_pos hK1, if_pos hK1]
          obtain ⟨a1, a2, a3, a4⟩ := dropF_has hv h0 (hme.2 he)
          refine ⟨a1, fun h => absurd a1 h, ?_⟩
          rw [if_pos a1]
          have hlen := List.length_eraseIdx_of_lt (List.idxOf_lt_length_iff.2 he)
          have hpos := List.length_pos_of_mem he
          have hn := H.n
          refine ⟨a2, by show tabN (dropF t e.1 e.2).2.1 = (L.eraseIdx (L.idxOf e)).length; omega, fun h => ?_⟩
          show _ = wof (L.eraseIdx (L.idxOf e)) h
          rw [← List.erase_eq_eraseIdx_of_idxOf rfl]
          rw [a4, wof_erase, H.w, H.w]
          by_cases eh : h = e.1
          · rw [if_pos eh, if_pos eh, eh]
          · rw [if_neg eh, if_neg eh]
        · rw [if_neg hK1, if_neg hK1]
          by_cases hV : V ≠ e.2 ∧ (e.1, V) ∈ L
          · rw [if_pos hV, putF_twice hv h0 (hme.2 he) hV.1 ((hm V).2 hV.2)]
            exact ⟨rfl, fun _ => rfl, H⟩
          · rw [if_neg hV]
            have hV' : V = e.2 ∨ V ∉ wds t e.1 := by
              by_cases h1 : V = e.2
              · exact .inl h1
              · exact .inr (fun h2 => hV ⟨h1, (hm V).1 h2⟩)
            obtain ⟨a1, a2, a3, a4⟩ := putF_ok hv h0 (hme.2 he) hV'
            refine ⟨a1, fun h => absurd a1 h, ?_⟩
            rw [if_pos a1]
            refine ⟨a2, by rw [a3, H.n, List.length_set], fun h => ?_⟩
            rw [a4, wof_set H.nd he, H.w, H.w]
            by_cases eh : h = e.1
            · rw [if_pos eh, if_pos eh, eh]
            · rw [if_neg eh, if_neg eh]
      · rw [if_pos he]
        have hne : e.2 ∉ wds t e.1 := fun h => he (hme.1 h)
        by_cases hK1 : K = 1
        · rw [if_pos hK1, dropF_none hv h0 hne]
          exact ⟨rfl, fun _ => rfl, H⟩
        · rw [if_neg hK1, putF_none hv h0 hne]
          exact ⟨rfl, fun _ => rfl, H⟩
  · rw [if_pos h0]
    by_cases hK : K = 0
    · rw [if_pos hK, addF_bad hv h0]
      exact ⟨rfl, fun _ => rfl, H⟩
    · rw [if_neg hK]
      by_cases hK1 : K = 1
      · rw [if_pos hK1, dropF_bad hv h0]
        exact ⟨rfl, fun _ => rfl, H⟩
      · rw [if_neg hK1, putF_bad hv h0]
        exact ⟨rfl, fun _ => rfl, H⟩
theorem wantF_len (K V : Int) (e : Int × Int) (L : List (Int × Int)) : (wantF K V e L).1.length ≤ L.length + 1 := by
  unfold wantF
  split
  · simp
  · split
    · split <;> simp
    · split
      · simp
      · split
        · exact Nat.le_succ_of_le (List.length_eraseIdx_le L (L.idxOf e))
        · split <;> simp
end Go.Proofs.Ytdcomhdadnhpnaa
