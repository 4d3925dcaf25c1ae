import Derived.Test.YtdcomhdadnhpnaaXB14
set_option linter.all false
namespace Go.Proofs.Ytdcomhdadnhpnaa
open Go Go.Am Go.RowKit
attribute [local irreducible] wA opsQ opsLQ thenA blockA EndA
def ofF (recs : List (Int × Int)) (chs : List (List Nat)) (e : Int × Int) : Int :=
  match (chs.getD (bkt e.1.toNat chs.length) []).find? (fun r => decide (recs.getD r (0, 0) = e)) with
  | some r => (r : Nat)
  | none => -1
theorem find_none {α : Type} {p : α → Bool} {c : List α} (h : ∀ a ∈ c, p a = false) : c.find? p = none := List.find?_eq_none.2 (fun a ha => by rw [h a ha]; simp)
theorem find_at {α : Type} {p : α → Bool} {c : List α} {k : Nat} (hk : k < c.length) (h : ∀ j (hj : j < k), p (c[j]'(by omega)) = false) (hp : p c[k] = true) : c.find? p = some c[k] := by
  induction c generalizing k with
  | nil => simp at hk
  | cons a c ih =>
    cases k with
    | zero => simp at hp; simp [List.find?_cons, hp]
    | succ k =>
      have h0 := h 0 (by omega)
      simp at h0
      rw [List.find?_cons]
      simp only [h0]
      have := ih (k := k) (by simpa using hk) (fun j hj => by have := h (j + 1) (by omega); simpa using this) (by simpa using hp)
      simpa using this
set_option maxRecDepth 100000 in
set_option maxHeartbeats 2000000 in
theorem of_call (recs : List (Int × Int)) (chs : List (List Nat)) (e : Int × Int) (hw : WOK recs chs) (he : 0 ≤ e.1 ∧ e.1 ≤ 4294967296) :
    RC Try.prog 79 [tabG recs chs, elG e] (.sc (.int .i64 (ofF recs chs e))) := by
  have hb8 := bkts8 recs.length
  have hbl := bkts_le recs.length (by have := hw.n; omega)
  have hcb := hw.b
  have hi := bkt_lt e.1.toNat (b := chs.length) (by omega)
  generalize hix : bkt e.1.toNat chs.length = ix at *
  have hri : ∀ r ∈ chs[ix], r < recs.length := hw.r _ (List.getElem_mem hi)
  have hcl := hw.l _ (List.getElem_mem hi)
  have hOf : ofF recs chs e = match chs[ix].find? (fun r => decide (recs.getD r (0, 0) = e)) with
      | some r => ((r : Nat) : Int)
      | none => -1 := by
    unfold ofF
    rw [hix, show chs.getD ix [] = chs[ix] by simp [hi]]
  refine rc_of hmix ctQ_ok Try.func79 rfl (by kernel_rfl) (fun E s hs => ?_)
  simp (maxSteps := 300000) only [begA, Try.ntmps79, List.replicate_succ, List.replicate_zero, List.length_cons, List.length_nil, List.cons_append, List.nil_append]
  repeat (first | (with_reducible first | apply Q0 | apply Q1 | apply QG | apply Q2 | apply Q3 | apply Q4 | apply Q5 | apply Q6 | apply Q7 | apply Q8 | apply Q9 | apply QA | apply QB | apply QC | apply QD | apply QE | apply QF) | ((with_reducible apply QK rfl); simp (disch := omega) only [go_sem, hs, upd_ne, rowsN, cal22, ctQ_22, c22r, hix]; exact rfl; simp only [sB, sA, putA]; exact rfl) | ((first | (with_reducible apply QL rfl) | (apply QM; simp only [go_sem] <;> exact rfl)); simp (disch := omega) only [go_sem, hs, upd_ne, rowsN, cal22, ctQ_22, c22r, hix]; exact rfl; simp only [sB, sA, putA]; exact rfl; simp only [logT_none, logT_rd, logT_wr, List.cons_append, List.nil_append]; exact rfl) | ((first | apply QI | apply QN); simp only [go_sem] <;> exact rfl; simp only [sB, sA, putA]; exact rfl) | (refine QO ?_ ?_; first | focus (simp only [dyn_nil, dyn_cons, allY_nil, allY_cons, dj_rr, true_or, true_and]; done) | focus (simp only [dyn_nil, dyn_cons, allY_nil, allY_cons, Dj, List.mem_cons, List.not_mem_nil, or_false, forall_eq, forall_eq_or_imp, and_true, true_and, false_imp_iff, implies_true]; omega) | focus (simp only [dyn_nil, dyn_cons, allY_nil, allY_cons, and_true, true_and]; (repeat' refine And.intro ?_ ?_); all_goals first | (left; simp only [Dj, List.mem_cons, List.not_mem_nil, or_false, forall_eq, forall_eq_or_imp, and_true, true_and, false_imp_iff, implies_true]; first | done | omega) | (right; kernel_rfl))) | (apply QQ; simp only [evA, gB, gA]; exact rfl) | ((first | apply QX | apply QY); (first | rfl | decide | assumption)))
  refine AWp.loop [2, 3, 5, 6] (fun Γ H s' m => ∃ k : Nat, k ≤ chs[ix].length ∧ m = chs[ix].length - k ∧ Γ = (List.replicate 2 .junk) ++ [.ptr s 0 0, .ptr (s + 1) 0 0] ++ (List.replicate 1 .junk) ++ [.dsl chs[ix].length (natsA chs[ix]), .sc (.int .i64 (k : Nat))] ++ (List.replicate 30 .junk) ∧
    H s = some (.row 0 1 [.dsl recs.length (elsA recs), .dsl chs.length (rowsN chs)]) ∧ H (s + 1) = some (.row 0 1 (elA e)) ∧ ∀ j (hj : j < k) (hj2 : j < chs[ix].length), recs.getD chs[ix][j] (0, 0) ≠ e) chs[ix].length ?_ ?_
  · exact ⟨0, Nat.zero_le _, rfl, rfl, by (simp (disch := omega) only [upd_ne, upd_same]; rfl), by simp (disch := omega) only [upd_ne, upd_same], fun j hj => absurd hj (by omega)⟩
  rintro Γ H s1 m ⟨k, hk, rfl, rfl, hH0, hH1, hI⟩
  refine wA_ok hmix ctQ_ok _ (by kernel_rfl) ?_
  simp (maxSteps := 1000000) only [List.replicate_succ, List.replicate_zero, List.cons_append, List.nil_append, List.append_nil]
  by_cases hlt : k < chs[ix].length
  · have hrk := hri _ (List.getElem_mem hlt)
    have hg : recs.getD chs[ix][k] (0, 0) = recs[chs[ix][k]] := by simp [hrk]
    by_cases hee : recs[chs[ix][k]] = e
    · have he1 : recs[chs[ix][k]].1 = e.1 ∧ recs[chs[ix][k]].2 = e.2 := by rw [hee]; exact ⟨rfl, rfl⟩
      repeat (first | (with_reducible first | apply Q0 | apply Q1 | apply QG | apply Q2 | apply Q3 | apply Q4 | apply Q5 | apply Q6 | apply Q7 | apply Q8 | apply Q9 | apply QA | apply QB | apply QC | apply QD | apply QE | apply QF) | ((with_reducible apply QK rfl); simp (disch := omega) only [go_sem, hH0, hH1, rowsN, elsA_len, elsA_drop, bin_eql43, he1.1, he1.2]; exact rfl; simp only [sB, sA, putA]; exact rfl) | ((first | (with_reducible apply QL rfl) | (apply QM; simp only [go_sem] <;> exact rfl)); simp (disch := omega) only [go_sem, hH0, hH1, rowsN, elsA_len, elsA_drop, bin_eql43, he1.1, he1.2]; exact rfl; simp only [sB, sA, putA]; exact rfl; simp only [logT_none, logT_rd, logT_wr, List.cons_append, List.nil_append]; exact rfl) | ((first | apply QI | apply QN); simp only [go_sem] <;> exact rfl; simp only [sB, sA, putA]; exact rfl) | (refine QO ?_ ?_; first | focus (simp only [dyn_nil, dyn_cons, allY_nil, allY_cons, dj_rr, true_or, true_and]; done) | focus (simp only [dyn_nil, dyn_cons, allY_nil, allY_cons, Dj, List.mem_cons, List.not_mem_nil, or_false, forall_eq, forall_eq_or_imp, and_true, true_and, false_imp_iff, implies_true]; omega) | focus (simp only [dyn_nil, dyn_cons, allY_nil, allY_cons, and_true, true_and]; (repeat' refine And.intro ?_ ?_); all_goals first | (left; simp only [Dj, List.mem_cons, List.not_mem_nil, or_false, forall_eq, forall_eq_or_imp, and_true, true_and, false_imp_iff, implies_true]; first | done | omega) | (right; kernel_rfl))) | (apply QQ; simp only [evA, gB, gA]; exact rfl) | ((first | apply QX | apply QY); (first | rfl | decide | assumption)))
      (apply QZ; simp only [aRes, Try.results79, List.toList_toArray, List.getD_cons_succ, List.getD_cons_zero]; exact rfl; simp only [packA]; exact rfl)
      have : ofF recs chs e = ((chs[ix][k] : Nat) : Int) := by
        rw [hOf, find_at hlt (fun j hj => decide_eq_false (hI j hj (by omega))) (decide_eq_true (hg.trans hee))]
      rw [this]
      exact .sc _
    · have he1 : ¬ (recs[chs[ix][k]].1 = e.1 ∧ recs[chs[ix][k]].2 = e.2) := fun h => hee (Prod.ext h.1 h.2)
      repeat (first | (with_reducible first | apply Q0 | apply Q1 | apply QG | apply Q2 | apply Q3 | apply Q4 | apply Q5 | apply Q6 | apply Q7 | apply Q8 | apply Q9 | apply QA | apply QB | apply QC | apply QD | apply QE | apply QF) | ((with_reducible apply QK rfl); simp (disch := omega) only [go_sem, hH0, hH1, rowsN, elsA_len, elsA_drop, bin_eql43, he1]; exact rfl; simp only [sB, sA, putA]; exact rfl) | ((first | (with_reducible apply QL rfl) | (apply QM; simp only [go_sem] <;> exact rfl)); simp (disch := omega) only [go_sem, hH0, hH1, rowsN, elsA_len, elsA_drop, bin_eql43, he1]; exact rfl; simp only [sB, sA, putA]; exact rfl; simp only [logT_none, logT_rd, logT_wr, List.cons_append, List.nil_append]; exact rfl) | ((first | apply QI | apply QN); simp only [go_sem] <;> exact rfl; simp only [sB, sA, putA]; exact rfl) | (refine QO ?_ ?_; first | focus (simp only [dyn_nil, dyn_cons, allY_nil, allY_cons, dj_rr, true_or, true_and]; done) | focus (simp only [dyn_nil, dyn_cons, allY_nil, allY_cons, Dj, List.mem_cons, List.not_mem_nil, or_false, forall_eq, forall_eq_or_imp, and_true, true_and, false_imp_iff, implies_true]; omega) | focus (simp only [dyn_nil, dyn_cons, allY_nil, allY_cons, and_true, true_and]; (repeat' refine And.intro ?_ ?_); all_goals first | (left; simp only [Dj, List.mem_cons, List.not_mem_nil, or_false, forall_eq, forall_eq_or_imp, and_true, true_and, false_imp_iff, implies_true]; first | done | omega) | (right; kernel_rfl))) | (apply QQ; simp only [evA, gB, gA]; exact rfl) | ((first | apply QX | apply QY); (first | rfl | decide | assumption)))
      refine ⟨chs[ix].length - (k + 1), by omega, k + 1, by omega, rfl, rfl, hH0, hH1, fun j hj hj2 => ?_⟩
      by_cases ej : j = k
      · subst ej; rw [hg]; exact hee
      · exact hI j (by omega) hj2
  · repeat (first | (with_reducible first | apply Q0 | apply Q1 | apply Q2 | apply Q3 | apply Q4 | apply Q5 | apply Q6 | apply Q7 | apply Q8 | apply Q9 | apply QA | apply QB | apply QC | apply QD | apply QE | apply QF) | ((with_reducible apply QK rfl); simp (disch := omega) only [go_sem]; exact rfl; simp only [sB, sA, putA]; exact rfl) | (apply QQ; simp only [evA, gB, gA]; exact rfl) | ((first | apply QX | apply QY); (first | rfl | decide | assumption)))
    (apply QZ; simp only [aRes, Try.results79, List.toList_toArray, List.getD_cons_succ, List.getD_cons_zero]; exact rfl; simp only [packA]; exact rfl)
    have : ofF recs chs e = -1 := by
      rw [hOf, find_none (fun r hr => ?_)]
      obtain ⟨j, hj, rfl⟩ := List.mem_iff_getElem.1 hr
      exact decide_eq_false (hI j (by omega) hj)
    rw [this]
    exact .sc _
def ahF (recs : List (Int × Int)) (c : List Nat) (h : Int) : Nat := (c.takeWhile (fun r => decide ((recs.getD r (0, 0)).1 ≤ h))).length
theorem takeWhile_at {α : Type} {p : α → Bool} {c : List α} {k : Nat} (hk : k ≤ c.length) (h : ∀ j (hj : j < k), p (c[j]'(by omega)) = true) (hp : ∀ h : k < c.length, p c[k] = false) : (c.takeWhile p).length = k := by
  induction c generalizing k with
  | nil => simp at hk; subst hk; rfl
  | cons a c ih =>
    cases k with
    | zero => have := hp (by simp); simp at this; simp [List.takeWhile_cons, this]
    | succ k =>
      have h0 := h 0 (by omega)
      simp at h0
      rw [List.takeWhile_cons, if_pos h0]
      have := ih (k := k) (by simpa using hk) (fun j hj => by have := h (j + 1) (by omega); simpa using this) (fun hh => by have := hp (by simpa using hh); simpa using this)
      simp [this]
set_option maxRecDepth 100000 in
set_option maxHeartbeats 2000000 in
theorem ahead_call (recs : List (Int × Int)) (chs : List (List Nat)) (c : List Nat) (h : Int) (hn : recs.length ≤ 100000) (hr : ∀ r ∈ c, r < recs.length) (hc : c.length ≤ 100000) :
    RC Try.prog 80 [tabG recs chs, .dsl c.length (natsA c), .sc (.int .i64 h)] (.sc (.int .i64 (ahF recs c h : Nat))) := by
  refine rc_of hmix ctQ_ok Try.func80 rfl (by kernel_rfl) (fun E s hs => ?_)
  simp (maxSteps := 300000) only [begA, Try.ntmps80, List.replicate_succ, List.replicate_zero, List.length_cons, List.length_nil, List.cons_append, List.nil_append]
  repeat (first | (with_reducible first | apply Q0 | apply Q1 | apply QG | apply Q2 | apply Q3 | apply Q4 | apply Q5 | apply Q6 | apply Q7 | apply Q8 | apply Q9 | apply QA | apply QB | apply QC | apply QD | apply QE | apply QF) | ((with_reducible apply QK rfl); simp (disch := omega) only [go_sem, hs, upd_ne]; exact rfl; simp only [sB, sA, putA]; exact rfl) | ((first | (with_reducible apply QL rfl) | (apply QM; simp only [go_sem] <;> exact rfl)); simp (disch := omega) only [go_sem, hs, upd_ne]; exact rfl; simp only [sB, sA, putA]; exact rfl; simp only [logT_none, logT_rd, logT_wr, List.cons_append, List.nil_append]; exact rfl) | ((first | apply QI | apply QN); simp only [go_sem] <;> exact rfl; simp only [sB, sA, putA]; exact rfl) | (refine QO ?_ ?_; first | focus (simp only [dyn_nil, dyn_cons, allY_nil, allY_cons, dj_rr, true_or, true_and]; done) | focus (simp only [dyn_nil, dyn_cons, allY_nil, allY_cons, Dj, List.mem_cons, List.not_mem_nil, or_false, forall_eq, forall_eq_or_imp, and_true, true_and, false_imp_iff, implies_true]; omega) | focus (simp only [dyn_nil, dyn_cons, allY_nil, allY_cons, and_true, true_and]; (repeat' refine And.intro ?_ ?_); all_goals first | (left; simp only [Dj, List.mem_cons, List.not_mem_nil, or_false, forall_eq, forall_eq_or_imp, and_true, true_and, false_imp_iff, implies_true]; first | done | omega) | (right; kernel_rfl))) | (apply QQ; simp only [evA, gB, gA]; exact rfl) | ((first | apply QX | apply QY); (first | rfl | decide | assumption)))
  refine AWp.loop [1, 2, 3, 7] (fun Γ H s' m => ∃ k : Nat, k ≤ c.length ∧ m = c.length - k ∧ Γ = (List.replicate 1 .junk) ++ [.dsl c.length (natsA c), .sc (.int .i64 h), .ptr s 0 0] ++ (List.replicate 3 .junk) ++ [.sc (.int .i64 (k : Nat))] ++ (List.replicate 20 .junk) ∧
    H s = some (.row 0 1 [.dsl recs.length (elsA recs), .dsl chs.length (rowsN chs)]) ∧ ∀ j (hj : j < k) (hj2 : j < c.length), (recs.getD c[j] (0, 0)).1 ≤ h) c.length ?_ ?_
  · exact ⟨0, Nat.zero_le _, rfl, rfl, by simp (disch := omega) only [upd_ne, upd_same], fun j hj => absurd hj (by omega)⟩
  rintro Γ H s1 m ⟨k, hk, rfl, rfl, hH0, hI⟩
  refine wA_ok hmix ctQ_ok _ (by kernel_rfl) ?_
  simp (maxSteps := 1000000) only [List.replicate_succ, List.replicate_zero, List.cons_append, List.nil_append, List.append_nil]
  have fin : (∀ hh : k < c.length, ¬ (recs.getD c[k] (0, 0)).1 ≤ h) → ahF recs c h = k := fun hh => takeWhile_at hk (fun j hj => decide_eq_true (hI j hj (by omega))) (fun h1 => decide_eq_false (hh h1))
  by_cases hlt : k < c.length
  · have hrk := hr _ (List.getElem_mem hlt)
    have hg : recs.getD c[k] (0, 0) = recs[c[k]] := by simp [hrk]
    by_cases hee : recs[c[k]].1 ≤ h
    · repeat (first | (with_reducible first | apply Q0 | apply Q1 | apply QG | apply Q2 | apply Q3 | apply Q4 | apply Q5 | apply Q6 | apply Q7 | apply Q8 | apply Q9 | apply QA | apply QB | apply QC | apply QD | apply QE | apply QF) | ((first | (with_reducible apply QK rfl) | (apply QT; simp only [go_sem] <;> exact rfl)); simp (disch := omega) only [go_sem, hH0, elsA_len, elsA_drop]; exact rfl; simp only [sB, sA, putA]; exact rfl) | ((first | (with_reducible apply QL rfl) | (apply QM; simp only [go_sem] <;> exact rfl)); simp (disch := omega) only [go_sem, hH0, elsA_len, elsA_drop]; exact rfl; simp only [sB, sA, putA]; exact rfl; simp only [logT_none, logT_rd, logT_wr, List.cons_append, List.nil_append]; exact rfl) | ((first | apply QI | apply QN); simp only [go_sem] <;> exact rfl; simp only [sB, sA, putA]; exact rfl) | (refine QO ?_ ?_; first | focus (simp only [dyn_nil, dyn_cons, allY_nil, allY_cons, dj_rr, true_or, true_and]; done) | focus (simp only [dyn_nil, dyn_cons, allY_nil, allY_cons, Dj, List.mem_cons, List.not_mem_nil, or_false, forall_eq, forall_eq_or_imp, and_true, true_and, false_imp_iff, implies_true]; omega) | focus (simp only [dyn_nil, dyn_cons, allY_nil, allY_cons, and_true, true_and]; (repeat' refine And.intro ?_ ?_); all_goals first | (left; simp only [Dj, List.mem_cons, List.not_mem_nil, or_false, forall_eq, forall_eq_or_imp, and_true, true_and, false_imp_iff, implies_true]; first | done | omega) | (right; kernel_rfl))) | (apply QQ; simp only [evA, gB, gA]; exact rfl) | ((first | apply QX | apply QY); (first | rfl | decide | assumption)))
      refine ⟨c.length - (k + 1), by omega, k + 1, by omega, rfl, rfl, hH0, fun j hj hj2 => ?_⟩
      by_cases ej : j = k
      · subst ej; rw [hg]; exact hee
      · exact hI j (by omega) hj2
    · repeat (first | (with_reducible first | apply Q0 | apply Q1 | apply QG | apply Q2 | apply Q3 | apply Q4 | apply Q5 | apply Q6 | apply Q7 | apply Q8 | apply Q9 | apply QA | apply QB | apply QC | apply QD | apply QE | apply QF) | ((first | (with_reducible apply QK rfl) | (apply QT; simp only [go_sem] <;> exact rfl)); simp (disch := omega) only [go_sem, hH0, elsA_len, elsA_drop]; exact rfl; simp only [sB, sA, putA]; exact rfl) | ((first | (with_reducible apply QL rfl) | (apply QM; simp only [go_sem] <;> exact rfl)); simp (disch := omega) only [go_sem, hH0, elsA_len, elsA_drop]; exact rfl; simp only [sB, sA, putA]; exact rfl; simp only [logT_none, logT_rd, logT_wr, List.cons_append, List.nil_append]; exact rfl) | ((first | apply QI | apply QN); simp only [go_sem] <;> exact rfl; simp only [sB, sA, putA]; exact rfl) | (refine QO ?_ ?_; first | focus (simp only [dyn_nil, dyn_cons, allY_nil, allY_cons, dj_rr, true_or, true_and]; done) | focus (simp only [dyn_nil, dyn_cons, allY_nil, allY_cons, Dj, List.mem_cons, List.not_mem_nil, or_false, forall_eq, forall_eq_or_imp, and_true, true_and, false_imp_iff, implies_true]; omega) | focus (simp only [dyn_nil, dyn_cons, allY_nil, allY_cons, and_true, true_and]; (repeat' refine And.intro ?_ ?_); all_goals first | (left; simp only [Dj, List.mem_cons, List.not_mem_nil, or_false, forall_eq, forall_eq_or_imp, and_true, true_and, false_imp_iff, implies_true]; first | done | omega) | (right; kernel_rfl))) | (apply QQ; simp only [evA, gB, gA]; exact rfl) | ((first | apply QX | apply QY); (first | rfl | decide | assumption)))
      (apply QZ; simp only [aRes, Try.results80, List.toList_toArray, List.getD_cons_succ, List.getD_cons_zero]; exact rfl; simp only [packA]; exact rfl)
      rw [fin (fun _ => by rw [hg]; exact hee)]
      exact .sc _
  · repeat (first | (with_reducible first | apply Q0 | apply Q1 | apply QG | apply Q2 | apply Q3 | apply Q4 | apply Q5 | apply Q6 | apply Q7 | apply Q8 | apply Q9 | apply QA | apply QB | apply QC | apply QD | apply QE | apply QF) | ((first | (with_reducible apply QK rfl) | (apply QT; simp only [go_sem] <;> exact rfl)); simp (disch := omega) only [go_sem]; exact rfl; simp only [sB, sA, putA]; exact rfl) | ((first | (with_reducible apply QL rfl) | (apply QM; simp only [go_sem] <;> exact rfl)); simp (disch := omega) only [go_sem]; exact rfl; simp only [sB, sA, putA]; exact rfl; simp only [logT_none, logT_rd, logT_wr, List.cons_append, List.nil_append]; exact rfl) | ((first | apply QI | apply QN); simp only [go_sem] <;> exact rfl; simp only [sB, sA, putA]; exact rfl) | (refine QO ?_ ?_; first | focus (simp only [dyn_nil, dyn_cons, allY_nil, allY_cons, dj_rr, true_or, true_and]; done) | focus (simp only [dyn_nil, dyn_cons, allY_nil, allY_cons, Dj, List.mem_cons, List.not_mem_nil, or_false, forall_eq, forall_eq_or_imp, and_true, true_and, false_imp_iff, implies_true]; omega) | focus (simp only [dyn_nil, dyn_cons, allY_nil, allY_cons, and_true, true_and]; (repeat' refine And.intro ?_ ?_); all_goals first | (left; simp only [Dj, List.mem_cons, List.not_mem_nil, or_false, forall_eq, forall_eq_or_imp, and_true, true_and, false_imp_iff, implies_true]; first | done | omega) | (right; kernel_rfl))) | (apply QQ; simp only [evA, gB, gA]; exact rfl) | ((first | apply QX | apply QY); (first | rfl | decide | assumption)))
    (apply QZ; simp only [aRes, Try.results80, List.toList_toArray, List.getD_cons_succ, List.getD_cons_zero]; exact rfl; simp only [packA]; exact rfl)
    rw [fin (fun h => absurd h hlt)]
    exact .sc _
end Go.Proofs.Ytdcomhdadnhpnaa
