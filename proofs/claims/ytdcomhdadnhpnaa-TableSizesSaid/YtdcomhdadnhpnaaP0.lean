/- Plain: chains in a list of words; what becomes of them when words are set. No program here. -/
import Derived.Test.YtdcomhdadnhpnaaT15
import Derived.Test.YtdcomhdadnhpnaaT9
import Derived.Test.YtdcomhdadnhpnaaT4
set_option linter.unusedSimpArgs false
set_option linter.unusedVariables false
namespace Go.Proofs.Ytdcomhdadnhpnaa

theorem ati_set (l : List Int) (i : Nat) (v : Int) (j : Nat) : ati (l.set i v) j = if i = j ∧ i < l.length then v else ati l j := by
  unfold ati
  by_cases h : i < l.length
  · by_cases e : i = j
    · subst e; simp [h]
    · simp [e, h, List.getElem?_set]
  · rw [List.set_eq_of_length_le (by omega)]; simp [h]
theorem ati_set_ne {l : List Int} {i : Nat} {v : Int} {j : Nat} (h : i ≠ j) : ati (l.set i v) j = ati l j := by rw [ati_set, if_neg (fun e => h e.1)]
theorem ati_set_eq {l : List Int} {i : Nat} {v : Int} (h : i < l.length) : ati (l.set i v) i = v := by rw [ati_set, if_pos ⟨rfl, h⟩]
theorem ati_big {l : List Int} {i : Nat} (h : l.length ≤ i) : ati l i = 0 := by unfold ati; simp [h]
theorem ati_append_zeros (l : List Int) (m q : Nat) : ati (l ++ List.replicate m 0) q = ati l q := by
  unfold ati
  by_cases h : q < l.length
  · simp [List.getElem?_append_left h]
  · simp [List.getElem?_append_right (show l.length ≤ q by omega), List.getElem?_replicate]
    split <;> simp [show l.length ≤ q by omega]
theorem ati_take (l : List Int) (m q : Nat) : ati (l.take m) q = if q < m then ati l q else 0 := by
  unfold ati
  by_cases h : q < m
  · simp [h]
  · rw [if_neg h, List.getD_eq_getElem?_getD, List.getElem?_eq_none (by rw [List.length_take]; omega)]; rfl
theorem ext_ati {l l' : List Int} (hl : l.length = l'.length) (h : ∀ q, q < l.length → ati l q = ati l' q) : l = l' := by
  apply List.ext_getElem hl
  intro i h1 h2
  have := h i h1
  unfold ati at this
  simpa [h1, h2] using this

theorem sizedL_len (l : List Int) (n : Nat) : (sizedL l n).length = wlen n := by
  unfold sizedL; simp; omega
theorem ati_sizedL (l : List Int) (n q : Nat) : ati (sizedL l n) q = if q = 0 then (n : Int) else if q = 1 then (bkts n : Int) else if q = 2 then (pow2 (bkts n) : Nat) else if q < wlen n then ati l q else 0 := by
  have h60 := wlen_ge n
  have hl : ((l ++ List.replicate (wlen n - l.length) 0).take (wlen n)).length = wlen n := by simp; omega
  unfold sizedL
  rw [ati_set, ati_set, ati_set, List.length_set, List.length_set, hl, ati_take, ati_append_zeros]
  by_cases e0 : q = 0
  · subst e0; simp; omega
  · by_cases e1 : q = 1
    · subst e1; simp; omega
    · by_cases e2 : q = 2
      · subst e2; simp; omega
      · simp [e0, e1, e2, Ne.symm e0, Ne.symm e1, Ne.symm e2]

theorem headAt_inj {i j : Nat} (h : headAt i = headAt j) : i = j := by unfold headAt at h; omega
theorem recAt_inj {r s a b : Nat} (h : recAt r + a = recAt s + b) (ha : a < 3) (hb : b < 3) : r = s ∧ a = b := by
  unfold recAt at h
  have hr := Nat.mod_add_div r 16
  have hs := Nat.mod_add_div s 16
  have h1 := Nat.mod_lt r (show 0 < 16 by omega)
  have h2 := Nat.mod_lt s (show 0 < 16 by omega)
  generalize r % 16 = x at *
  generalize s % 16 = y at *
  generalize r / 16 = A at *
  generalize s / 16 = B at *
  have : A = B := by omega
  omega
theorem head_rec {i r a : Nat} (h : headAt i = recAt r + a) (ha : a < 3) : False := by
  unfold headAt recAt at h
  have h1 := Nat.mod_lt r (show 0 < 16 by omega)
  have h2 := Nat.mod_lt i (show 0 < 8 by omega)
  generalize r % 16 = x at *
  generalize i % 8 = y at *
  generalize r / 16 = A at *
  generalize i / 8 = B at *
  rcases Nat.lt_trichotomy A B with h | h | h <;> omega
theorem headAt_ge (i : Nat) : 4 ≤ headAt i := by unfold headAt; omega
theorem recAt_ge (i : Nat) : 12 ≤ recAt i := by unfold recAt; omega

/-- The chain from a word on has these records. -/
def CL (l : List Int) : Nat → List Nat → Prop
  | f, [] => f < l.length ∧ ati l f = 0
  | f, r :: rs => f < l.length ∧ ati l f = (r : Int) + 1 ∧ r ≤ 100000 ∧ CL l (recAt r + 2) rs
/-- the records with the index of the word that leads to each -/
def wf : Nat → List Nat → List (Nat × Nat)
  | _, [] => []
  | f, r :: rs => (r, f) :: wf (recAt r + 2) rs
/-- the word at which a list of records ends -/
def endp : Nat → List Nat → Nat
  | f, [] => f
  | _, r :: rs => endp (recAt r + 2) rs
theorem wf_map : ∀ (f : Nat) (rs : List Nat), (wf f rs).map (·.1) = rs
  | _, [] => rfl
  | f, r :: rs => by simp [wf, wf_map]
theorem wf_len (f : Nat) (rs : List Nat) : (wf f rs).length = rs.length := by rw [← List.length_map (·.1), wf_map]
theorem wf_append : ∀ (f : Nat) (a b : List Nat), wf f (a ++ b) = wf f a ++ wf (endp f a) b
  | _, [], _ => rfl
  | f, r :: a, b => by simp [wf, endp, wf_append]
theorem endp_append : ∀ (f : Nat) (a b : List Nat), endp f (a ++ b) = endp (endp f a) b
  | _, [], _ => rfl
  | f, r :: a, b => by simp [endp, endp_append]
theorem endp_cases : ∀ (f : Nat) (rs : List Nat), (rs = [] ∧ endp f rs = f) ∨ ∃ r ∈ rs, endp f rs = recAt r + 2
  | f, [] => .inl ⟨rfl, rfl⟩
  | f, r :: rs => by
    rcases endp_cases (recAt r + 2) rs with ⟨rfl, h⟩ | ⟨s, hs, h⟩
    · exact .inr ⟨r, by simp, h⟩
    · exact .inr ⟨s, by simp [hs], h⟩
theorem CL.chn {l : List Int} : ∀ {f : Nat} {rs : List Nat}, CL l f rs → Chn l f (wf f rs)
  | f, [], h => Chn.nil f h.1 h.2
  | f, r :: rs, h => Chn.cons f r _ h.1 h.2.1 h.2.2.1 h.2.2.2.chn
theorem CL.frame {l l' : List Int} : ∀ {f : Nat} {rs : List Nat}, CL l f rs → (∀ q, (q = f ∨ ∃ r ∈ rs, q = recAt r + 2) → q < l'.length ∧ ati l' q = ati l q) → CL l' f rs
  | f, [], h, k => ⟨(k f (.inl rfl)).1, (k f (.inl rfl)).2.trans h.2⟩
  | f, r :: rs, h, k => ⟨(k f (.inl rfl)).1, (k f (.inl rfl)).2.trans h.2.1, h.2.2.1, h.2.2.2.frame (fun q hq => k q (.inr (by
      rcases hq with rfl | ⟨s, hs, rfl⟩
      · exact ⟨r, by simp, rfl⟩
      · exact ⟨s, by simp [hs], rfl⟩)))⟩
theorem CL.le {l : List Int} : ∀ {f : Nat} {rs : List Nat}, CL l f rs → ∀ r ∈ rs, r ≤ 100000 ∧ recAt r + 2 < l.length
  | f, r :: rs, h, s, hs => by
    rcases List.mem_cons.1 hs with rfl | hs
    · refine ⟨h.2.2.1, ?_⟩
      cases rs with
      | nil => exact h.2.2.2.1
      | cons _ _ => exact h.2.2.2.1
    · exact h.2.2.2.le s hs
theorem CL.split {l : List Int} : ∀ {f : Nat} {a b : List Nat}, CL l f (a ++ b) → CL l (endp f a) b
  | _, [], _, h => h
  | _, _ :: _, _, h => h.2.2.2.split
theorem CL.endlt {l : List Int} : ∀ {f : Nat} {rs : List Nat}, CL l f rs → f < l.length
  | _, [], h => h.1
  | _, _ :: _, h => h.1
/-- a list's head part keeps its words, its tail is another one -/
theorem CL.graft {l l' : List Int} {b' : List Nat} : ∀ {f : Nat} {a b : List Nat}, CL l f (a ++ b) → (∀ q, (q = f ∨ ∃ r ∈ a, q = recAt r + 2) → q ≠ endp f a → q < l'.length ∧ ati l' q = ati l q) →
    (∀ r ∈ a, f ≠ recAt r + 2) → a.Nodup → CL l' (endp f a) b' → CL l' f (a ++ b')
  | _, [], _, _, _, _, _, h => h
  | f, r :: a, b, h, k, hf, hn, hb => by
    have hn2 := List.nodup_cons.1 hn
    have hfe : f ≠ endp (recAt r + 2) a := by
      rcases endp_cases (recAt r + 2) a with ⟨_, e⟩ | ⟨s, hs, e⟩
      · rw [e]; exact hf r (by simp)
      · rw [e]; exact hf s (by simp [hs])
    have hk := k f (.inl rfl) hfe
    refine ⟨hk.1, hk.2.trans h.2.1, h.2.2.1, ?_⟩
    refine h.2.2.2.graft (fun q hq hne => k q (.inr ?_) hne) (fun s hs e => ?_) hn2.2 hb
    · rcases hq with rfl | ⟨s, hs, rfl⟩
      · exact ⟨r, by simp, rfl⟩
      · exact ⟨s, by simp [hs], rfl⟩
    · have := (recAt_inj e (by omega) (by omega)).1
      subst this
      exact hn2.1 hs
/-- what link lays -/
theorem linkL_ati (l : List Int) (f : Nat) (rs : List Nat) (q : Nat) (h : q ≠ f) (hq : ∀ r ∈ rs, q ≠ recAt r + 2) : ati (linkL l f rs) q = ati l q := by
  induction rs generalizing l f with
  | nil => show ati (l.set f 0) q = _; exact ati_set_ne (Ne.symm h)
  | cons r rs ih =>
    show ati (linkL (l.set f ((r : Int) + 1)) (recAt r + 2) rs) q = _
    rw [ih _ _ (hq r (by simp)) (fun s hs => hq s (by simp [hs])), ati_set_ne (Ne.symm h)]
theorem linkL_cl (l : List Int) (f : Nat) (rs : List Nat) (hf : f < l.length) (hr : ∀ r ∈ rs, recAt r + 2 < l.length ∧ r ≤ 100000) (hd : ∀ r ∈ rs, f ≠ recAt r + 2) (hn : rs.Nodup) : CL (linkL l f rs) f rs := by
  induction rs generalizing l f with
  | nil => exact ⟨by rw [linkL_len]; exact hf, by show ati (l.set f 0) f = 0; exact ati_set_eq hf⟩
  | cons r rs ih =>
    have hn2 := List.nodup_cons.1 hn
    have e : linkL l f (r :: rs) = linkL (l.set f ((r : Int) + 1)) (recAt r + 2) rs := rfl
    rw [e]
    refine ⟨by rw [linkL_len, List.length_set]; exact hf, ?_, (hr r (by simp)).2, ih _ _ (by rw [List.length_set]; exact (hr r (by simp)).1) (fun s hs => by rw [List.length_set]; exact hr s (by simp [hs])) (fun s hs e => ?_) hn2.2⟩
    · rw [linkL_ati _ _ _ _ (hd r (by simp)) (fun s hs => hd s (by simp [hs])), ati_set_eq hf]
    · have := (recAt_inj e (by omega) (by omega)).1
      subst this
      exact hn2.1 hs
end Go.Proofs.Ytdcomhdadnhpnaa
