import Derived.Test.YtdcomhdadnhpnaaXA1
import Derived.Test.YtdcomhdadnhpnaaXB16
set_option linter.all false
namespace Go.Proofs.Ytdcomhdadnhpnaa
open Go Go.Am Go.RowKit
theorem RowE.told {s s' : Nat} {v : AV} {H1 : AHp} {c : List Nat} (h : RowE s 1 v H1 s' (natsA c) c.length) :
    ∃ v', Wk v v' ∧ ∀ (H2 : AHp) (K : Nat → Prop), (∀ q, s ≤ q → H2 q = H1 q ∧ ¬ K q) → Pub H2 K (fun _ => none) v' (.dsl c.length (natsA c)) := by
  rcases h with ⟨h0, _, rfl⟩ | ⟨nm, ver, h0, rfl, hH, h1, h2⟩
  · obtain rfl := List.length_eq_zero_iff.1 h0
    exact ⟨_, Wk.nil, fun H2 K _ => .same (row_inS (chs := [[]]) (by simp [rowsN]))⟩
  · refine ⟨_, Wk.rfl', fun H2 K hk => Pub.sl (by rw [(hk nm h2).1]; exact hH) (hk nm h2).2 (by simp) (by simp) (fun i a b ha hb => ?_)⟩
    rw [List.drop_zero] at ha
    rw [ha] at hb; cases hb
    have : ∃ x, a = .sc x := by
      obtain ⟨x, _, rfl⟩ := List.mem_map.1 (List.mem_of_getElem? ha)
      exact ⟨_, rfl⟩
    obtain ⟨x, rfl⟩ := this
    exact Pub.sc _
theorem rowsN_set (chs : List (List Nat)) (i : Nat) (c : List Nat) : rowsN (chs.set i c) = (rowsN chs).set i (.dsl c.length (natsA c)) := by simp [rowsN, List.map_set]
theorem rowsN_app (a b : List (List Nat)) : rowsN (a ++ b) = rowsN a ++ rowsN b := by simp [rowsN]
theorem div_end {H0 H1 H' : AHp} {s s' s2 p nm V i : Nat} {P : List AV} {chs : List (List Nat)} {vS vM : AV} {cS cM : List Nat} {x : Value} (hi : i < chs.length)
    (hs : ∀ n, s ≤ n → H0 n = none ∧ H' n = none) (hE : ∀ q, q < s → q ≠ p → q ≠ nm → H1 q = H0 q)
    (hp1 : H1 p = some (.row 0 1 P)) (hn1 : H1 nm = some (.row V 1 ((rowsN chs).set i vS ++ [vM]))) (hpn : p ≠ nm) (hp0 : H0 p ≠ none) (hn0 : H0 nm ≠ none)
    (hP : ∀ a ∈ P, ∀ K : Nat → Prop, (∀ q, H0 q ≠ none → K q) → a.inS K) (hS : RowE s 1 vS H1 s' (natsA cS) cS.length) (hM : RowE s 1 vM H1 s2 (natsA cM) cM.length)
    (hH : H' = upd (upd H0 nm (.row V 1 (rowsN (chs.set i cS ++ [cM])))) p (.row 0 1 P)) :
    ∃ (H2 : AHp) (r2 : AV) (N : Nat → Option (Nat × Nat)), WkH H1 H2 ∧ Wk r2 (.sc x) ∧ Fin H0 H2 N H' ∧ Pub H2 (fun n => H' n ≠ none ∧ N n = none) N (.sc x) r2 := by
  obtain ⟨vS', wS, pS⟩ := hS.told
  obtain ⟨vM', wM, pM⟩ := hM.told
  have hlt : ∀ q, H0 q ≠ none → q < s := fun q h => Nat.lt_of_not_le fun k => h (hs q k).1
  have hps := hlt p hp0
  have hns := hlt nm hn0
  have hrl : (rowsN chs).length = chs.length := rowsN_len _
  let H2 : AHp := upd H1 nm (.row V 1 ((rowsN chs).set i vS' ++ [vM']))
  have e2 : ∀ q, s ≤ q → H2 q = H1 q := fun q hq => upd_ne _ _ (by omega)
  have hK : ∀ q, H0 q ≠ none → H' q ≠ none := fun q hq => by
    rw [hH]
    by_cases e : q = p
    · subst e; rw [upd_same]; simp
    · rw [upd_ne _ _ e]
      by_cases e' : q = nm
      · subst e'; rw [upd_same]; simp
      · rw [upd_ne _ _ e']; exact hq
  refine ⟨H2, _, fun _ => none, fun q => ?_, Wk.rfl', ⟨fun n hn => ⟨hK n hn, rfl⟩, fun n o' hn => .inl ⟨rfl, ?_⟩, fun a b n o o' h => by simp at h, fun q n o h => by simp at h, ⟨s, fun n hn => (hs n hn).2⟩⟩, Pub.sc _⟩
  · by_cases e : q = nm
    · subst e
      refine .inr ⟨_, _, hn1, upd_same _ _ _, .inr ⟨V, 1, _, _, rfl, rfl, by simp, fun j a b ha hb => ?_⟩⟩
      by_cases hj : j < chs.length
      · rw [List.getElem?_append_left (by simp; omega)] at ha hb
        by_cases e : i = j
        · subst e
          rw [List.getElem?_set_self (by omega)] at ha hb
          cases ha; cases hb; exact wS
        · rw [List.getElem?_set_ne e] at ha hb
          rw [ha] at hb; cases hb; exact Wk.rfl'
      · rw [List.getElem?_append_right (by simp; omega)] at ha hb
        have : j - ((rowsN chs).set i vS).length = 0 := by
          have := (List.getElem?_eq_some_iff.1 ha).1
          simp at this ⊢; omega
        rw [this] at ha
        have : j - ((rowsN chs).set i vS').length = 0 := by
          have := (List.getElem?_eq_some_iff.1 hb).1
          simp at this ⊢; omega
        rw [this] at hb
        simp at ha hb
        subst ha; subst hb; exact wM
    · have e3 : H2 q = H1 q := upd_ne _ _ e
      cases h : H1 q with
      | none => exact .inl ⟨rfl, by rw [e3]; exact h⟩
      | some o => exact .inr ⟨o, o, rfl, by rw [e3]; exact h, .inl rfl⟩
  · rw [hH] at hn
    by_cases e : n = p
    · subst e
      rw [upd_same] at hn; cases hn
      refine .inr ⟨_, (upd_ne _ _ hpn).trans hp1, .row rfl (fun j a b ha hb => ?_)⟩
      rw [ha] at hb; cases hb
      exact .same (hP a (List.mem_of_getElem? ha) _ (fun q hq => ⟨hK q hq, rfl⟩))
    · rw [upd_ne _ _ e] at hn
      by_cases e' : n = nm
      · subst e'
        rw [upd_same] at hn; cases hn
        have hh : ∀ q, s ≤ q → H2 q = H1 q ∧ ¬ (H' q ≠ none ∧ (none : Option (Nat × Nat)) = none) := fun q hq => ⟨e2 q hq, fun k => k.1 (hs q hq).2⟩
        refine .inr ⟨_, upd_same _ _ _, .row (by simp [rowsN]) (fun j a b ha hb => ?_)⟩
        rw [rowsN_app, rowsN_set] at hb
        by_cases hj : j < chs.length
        · rw [List.getElem?_append_left (by simp; omega)] at ha hb
          by_cases e : i = j
          · subst e
            rw [List.getElem?_set_self (by omega)] at ha hb
            cases ha; cases hb; exact pS _ _ hh
          · rw [List.getElem?_set_ne e] at ha hb
            rw [ha] at hb; cases hb; exact .same (row_inS (List.mem_of_getElem? ha))
        · rw [List.getElem?_append_right (by simp; omega)] at ha hb
          have h1 : j - ((rowsN chs).set i vS').length = 0 := by
            have := (List.getElem?_eq_some_iff.1 ha).1
            simp at this ⊢; omega
          rw [h1] at ha
          have h2 : j - ((rowsN chs).set i (.dsl cS.length (natsA cS))).length = 0 := by
            have := (List.getElem?_eq_some_iff.1 hb).1
            simp [rowsN] at this ⊢; omega
          rw [h2] at hb
          change some (AV.dsl cM.length (natsA cM)) = some b at hb
          change some vM' = some a at ha
          cases ha; cases hb; exact pM _ _ hh
      · rw [upd_ne _ _ e'] at hn
        have hns := hlt n (by rw [hn]; simp)
        refine .inl ⟨hn, ?_⟩
        show upd H1 nm _ n = _
        rw [upd_ne _ _ e', hE n hns e e']
        exact hn
end Go.Proofs.Ytdcomhdadnhpnaa
