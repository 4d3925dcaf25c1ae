import Derived.Test.YtdcomhdadnhpnaaXB11
import Derived.Test.YtdcomhdadnhpnaaXA2
set_option linter.all false
namespace Go.Proofs.Ytdcomhdadnhpnaa
open Go Go.Am Go.RowKit
attribute [local irreducible] wA opsQ opsLQ thenA blockA EndA
set_option maxRecDepth 100000 in
set_option maxHeartbeats 1000000 in
theorem equal_call (l m : List Int) (hl : l.length ≤ 1000000000) (hm : m.length ≤ 1000000000) : RC Try.prog 107 [.dsl l.length (ints l), .dsl m.length (ints m)] (.sc (.bool (decide (l = m)))) := by
  refine rc_of hmix (ct := noCT) noCT_ok Try.func107 rfl (by kernel_rfl) (fun E s hs => ?_)
  simp (maxSteps := 300000) only [begA, Try.ntmps107, List.replicate_succ, List.replicate_zero, List.length_cons, List.length_nil, List.cons_append, List.nil_append]
  by_cases hne : l.length = m.length
  · repeat (first | (with_reducible first | apply Q0 | apply Q1 | apply Q2 | apply Q3 | apply Q4 | apply Q5 | apply Q6 | apply Q7 | apply Q8 | apply Q9 | apply QA | apply QB | apply QC | apply QD | apply QE | apply QF) | (with_reducible apply QK rfl; simp (disch := omega) only [go_sem]; exact rfl; simp only [sB, sA, putA]; exact rfl) | (with_reducible apply QQ; simp only [evA, gB, gA]; exact rfl) | ((first | with_reducible apply QX | with_reducible apply QY); (first | rfl | decide | assumption)))
    refine AWp.loop [0, 1, 5] (fun Γ H s' mm => ∃ j : Nat, j ≤ l.length ∧ mm = l.length - j ∧ Γ = [.dsl l.length (ints l), .dsl m.length (ints m)] ++ (List.replicate 3 .junk) ++ [.sc (.int .i64 (j : Nat))] ++ (List.replicate 20 .junk) ∧ ∀ i (h1 : i < j) (h2 : i < l.length) (h3 : i < m.length), l[i] = m[i]) l.length ?_ ?_
    · exact ⟨0, Nat.zero_le _, rfl, rfl, fun i h => absurd h (by omega)⟩
    rintro Γ H s1 mm ⟨j, hj, rfl, rfl, hI⟩
    refine wA_ok hmix noCT_ok _ (by kernel_rfl) ?_
    simp (maxSteps := 1000000) only [List.replicate_succ, List.replicate_zero, List.cons_append, List.nil_append, List.append_nil]
    by_cases hlt : j < l.length
    · have hlt2 : j < m.length := by omega
      by_cases he : l[j] = m[j]
      · repeat (first | (with_reducible first | apply Q0 | apply Q1 | apply QG | apply Q2 | apply Q3 | apply Q4 | apply Q5 | apply Q6 | apply Q7 | apply Q8 | apply Q9 | apply QA | apply QB | apply QC | apply QD | apply QE | apply QF) | (with_reducible apply QK rfl; simp (disch := omega) only [go_sem, ints_len, he]; exact rfl; simp only [sB, sA, putA]; exact rfl) | ((first | with_reducible apply QL rfl | (with_reducible apply QM; simp only [go_sem]; exact rfl)); simp (disch := omega) only [go_sem, ints_len, he]; exact rfl; simp only [sB, sA, putA]; exact rfl; simp only [logT_none, logT_rd, logT_wr, List.cons_append, List.nil_append]; exact rfl) | ((first | with_reducible apply QI | with_reducible apply QN); simp only [go_sem]; exact rfl; simp only [sB, sA, putA]; exact rfl) | (with_reducible refine QO ?_ ?_; first | focus (simp only [dyn_nil, dyn_cons, allY_nil, allY_cons, dj_rr, true_or, true_and]; done) | focus (simp only [dyn_nil, dyn_cons, allY_nil, allY_cons, Dj, List.mem_cons, List.not_mem_nil, or_false, forall_eq, forall_eq_or_imp, and_true, true_and, false_imp_iff, implies_true]; omega) | focus (simp only [dyn_nil, dyn_cons, allY_nil, allY_cons, and_true, true_and]; (repeat' refine And.intro ?_ ?_); all_goals first | (left; simp only [Dj, List.mem_cons, List.not_mem_nil, or_false, forall_eq, forall_eq_or_imp, and_true, true_and, false_imp_iff, implies_true]; first | done | omega) | (right; kernel_rfl))) | (with_reducible apply QQ; simp only [evA, gB, gA]; exact rfl) | ((first | with_reducible apply QX | with_reducible apply QY); (first | rfl | decide | assumption)))
        refine ⟨l.length - (j + 1), by omega, j + 1, by omega, rfl, rfl, fun i h1 h2 h3 => ?_⟩
        by_cases e : i = j
        · subst e; exact he
        · exact hI i (by omega) h2 h3
      · repeat (first | (with_reducible first | apply Q0 | apply Q1 | apply QG | apply Q2 | apply Q3 | apply Q4 | apply Q5 | apply Q6 | apply Q7 | apply Q8 | apply Q9 | apply QA | apply QB | apply QC | apply QD | apply QE | apply QF) | (with_reducible apply QK rfl; simp (disch := omega) only [go_sem, ints_len, he]; exact rfl; simp only [sB, sA, putA]; exact rfl) | ((first | with_reducible apply QL rfl | (with_reducible apply QM; simp only [go_sem]; exact rfl)); simp (disch := omega) only [go_sem, ints_len, he]; exact rfl; simp only [sB, sA, putA]; exact rfl; simp only [logT_none, logT_rd, logT_wr, List.cons_append, List.nil_append]; exact rfl) | ((first | with_reducible apply QI | with_reducible apply QN); simp only [go_sem]; exact rfl; simp only [sB, sA, putA]; exact rfl) | (with_reducible refine QO ?_ ?_; first | focus (simp only [dyn_nil, dyn_cons, allY_nil, allY_cons, dj_rr, true_or, true_and]; done) | focus (simp only [dyn_nil, dyn_cons, allY_nil, allY_cons, Dj, List.mem_cons, List.not_mem_nil, or_false, forall_eq, forall_eq_or_imp, and_true, true_and, false_imp_iff, implies_true]; omega) | focus (simp only [dyn_nil, dyn_cons, allY_nil, allY_cons, and_true, true_and]; (repeat' refine And.intro ?_ ?_); all_goals first | (left; simp only [Dj, List.mem_cons, List.not_mem_nil, or_false, forall_eq, forall_eq_or_imp, and_true, true_and, false_imp_iff, implies_true]; first | done | omega) | (right; kernel_rfl))) | (with_reducible apply QQ; simp only [evA, gB, gA]; exact rfl) | ((first | with_reducible apply QX | with_reducible apply QY); (first | rfl | decide | assumption)))
        (apply QZ; simp only [aRes, Try.results107, List.toList_toArray, List.getD_cons_succ, List.getD_cons_zero]; exact rfl; simp only [packA]; exact rfl)
        have : decide (l = m) = false := decide_eq_false fun e => he (by subst e; rfl)
        rw [this]
        exact .sc _
    · repeat (first | (with_reducible first | apply Q0 | apply Q1 | apply Q2 | apply Q3 | apply Q4 | apply Q5 | apply Q6 | apply Q7 | apply Q8 | apply Q9 | apply QA | apply QB | apply QC | apply QD | apply QE | apply QF) | (with_reducible apply QK rfl; simp (disch := omega) only [go_sem]; exact rfl; simp only [sB, sA, putA]; exact rfl) | (with_reducible apply QQ; simp only [evA, gB, gA]; exact rfl) | ((first | with_reducible apply QX | with_reducible apply QY); (first | rfl | decide | assumption)))
      (apply QZ; simp only [aRes, Try.results107, List.toList_toArray, List.getD_cons_succ, List.getD_cons_zero]; exact rfl; simp only [packA]; exact rfl)
      have : decide (l = m) = true := decide_eq_true (List.ext_getElem hne (fun i h1 h2 => hI i (by omega) h1 h2))
      rw [this]
      exact .sc _
  · repeat (first | (with_reducible first | apply Q0 | apply Q1 | apply Q2 | apply Q3 | apply Q4 | apply Q5 | apply Q6 | apply Q7 | apply Q8 | apply Q9 | apply QA | apply QB | apply QC | apply QD | apply QE | apply QF) | (with_reducible apply QK rfl; simp (disch := omega) only [go_sem]; exact rfl; simp only [sB, sA, putA]; exact rfl) | (with_reducible apply QQ; simp only [evA, gB, gA]; exact rfl) | ((first | with_reducible apply QX | with_reducible apply QY); (first | rfl | decide | assumption)))
    (apply QZ; simp only [aRes, Try.results107, List.toList_toArray, List.getD_cons_succ, List.getD_cons_zero]; exact rfl; simp only [packA]; exact rfl)
    have : decide (l = m) = false := decide_eq_false (fun e => hne (by rw [e]))
    rw [this]
    exact .sc _
structure WOK (recs : List (Int × Int)) (chs : List (List Nat)) : Prop where
  n : recs.length ≤ 100000
  b : chs.length = bkts recs.length
  r : ∀ c ∈ chs, ∀ r ∈ c, r < recs.length
  l : ∀ c ∈ chs, c.length ≤ 100000
open Classical in
noncomputable def c51 : List AV → AP AV
  | [x] => rdT x fun recs chs => if WOK recs chs then .ret (.dsl (wordsF recs chs).length (ints (wordsF recs chs))) else .fail
  | _ => .fail
open Classical in
noncomputable def c96 : List AV → AP AV
  | [x, .sc (.int .i64 i)] => rdT x fun recs chs => if WOK recs chs ∧ 0 ≤ i ∧ i.toNat < chs.length then .ret (.sc (.bool (srtF i.toNat chs.length none [] (elsOfC recs (chs.getD i.toNat []))))) else .fail
  | _ => .fail
def c106 : List AV → AP AV
  | [t, .sc (.int .i64 n), .sc (.int .i64 i)] => rdK t fun l => if 0 ≤ n ∧ n ≤ 100000 ∧ l.length = wlen n.toNat ∧ 0 ≤ i ∧ i < (bkts n.toNat : Nat) then .ret (chG (chF l n.toNat n.toNat (headAt i.toNat))) else .fail
  | _ => .fail
def c107 : List AV → AP AV
  | [a, b] => rdK a fun l => rdK b fun m => if l.length ≤ 1000000000 ∧ m.length ≤ 1000000000 then .ret (.sc (.bool (decide (l = m)))) else .fail
  | _ => .fail
theorem a51 (args : List AV) : ACall Try.prog 51 args (c51 args) := by
  intro ρ H w vs hR hA s r H' s' hm
  unfold c51 at hm
  split at hm
  · obtain ⟨v0, rfl, hv0⟩ := reps1 hA
    obtain ⟨recs, chs, hr, hm⟩ := rdT_data hR hv0 hm
    split at hm
    · rename_i hw
      simp only [AP.run, Option.some.injEq, Prod.mk.injEq] at hm
      obtain ⟨rfl, rfl, rfl⟩ := hm
      exact (words_call recs chs hw.n hw.b hw.r hw.l).acall hR (.cons hr .nil)
    · simp [AP.run] at hm
  · simp [AP.run] at hm
theorem a96 (args : List AV) : ACall Try.prog 96 args (c96 args) := by
  intro ρ H w vs hR hA s r H' s' hm
  unfold c96 at hm
  split at hm
  · rename_i x i
    obtain ⟨v0, v1, rfl, hv0, hv1⟩ := reps2 hA
    obtain ⟨recs, chs, hr, hm⟩ := rdT_data hR hv0 hm
    split at hm
    · rename_i hw
      obtain ⟨hw, h0, h1⟩ := hw
      simp only [AP.run, Option.some.injEq, Prod.mk.injEq] at hm
      obtain ⟨rfl, rfl, rfl⟩ := hm
      obtain rfl := Rep.sc_iff.1 hv1
      have e : chs.getD i.toNat [] = chs[i.toNat] := by simp [h1]
      rw [e]
      have := sorted_call recs chs i.toNat h1 hw.n (by rw [hw.b]; have := hw.n; exact bkts_le _ (by omega)) (hw.r _ (List.getElem_mem h1)) (hw.l _ (List.getElem_mem h1))
      rw [show ((i.toNat : Nat) : Int) = i by omega] at this
      exact this.acall hR (.cons hr (.cons (.sc _) .nil))
    · simp [AP.run] at hm
  · simp [AP.run] at hm
theorem a106 (args : List AV) : ACall Try.prog 106 args (c106 args) := by
  intro ρ H w vs hR hA s r H' s' hm
  unfold c106 at hm
  split at hm
  · rename_i t n i
    obtain ⟨v0, v1, v2, rfl, hv0, hv1, hv2⟩ : ∃ x y z, vs = [x, y, z] ∧ Rep ρ (own ρ H) w _ x ∧ Rep ρ (own ρ H) w _ y ∧ Rep ρ (own ρ H) w _ z := by
      obtain ⟨x, t, rfl, h1, h2⟩ := Reps.uncons hA
      obtain ⟨y, z, rfl, h3, h4⟩ := reps2 h2
      exact ⟨x, y, z, rfl, h1, h3, h4⟩
    obtain ⟨l, hr, hm⟩ := rdK_data hR hv0 hm
    split at hm
    · rename_i hw
      obtain ⟨h1, h2, h3, h4, h5⟩ := hw
      simp only [AP.run, Option.some.injEq, Prod.mk.injEq] at hm
      obtain ⟨rfl, rfl, rfl⟩ := hm
      obtain rfl := Rep.sc_iff.1 hv1
      obtain rfl := Rep.sc_iff.1 hv2
      have := chain_call l n.toNat i.toNat (by omega) h3 (by omega)
      rw [show ((i.toNat : Nat) : Int) = i by omega, show ((n.toNat : Nat) : Int) = n by omega] at this
      exact this.acall hR (.cons hr (.cons (.sc _) (.cons (.sc _) .nil)))
    · simp [AP.run] at hm
  · simp [AP.run] at hm
theorem a107 (args : List AV) : ACall Try.prog 107 args (c107 args) := by
  intro ρ H w vs hR hA s r H' s' hm
  unfold c107 at hm
  split at hm
  · obtain ⟨v0, v1, rfl, hv0, hv1⟩ := reps2 hA
    obtain ⟨l, hr, hm⟩ := rdK_data hR hv0 hm
    obtain ⟨m, hr2, hm⟩ := rdK_data hR hv1 hm
    split at hm
    · rename_i hw
      simp only [AP.run, Option.some.injEq, Prod.mk.injEq] at hm
      obtain ⟨rfl, rfl, rfl⟩ := hm
      exact (equal_call l m hw.1 hw.2).acall hR (.cons hr (.cons hr2 .nil))
    · simp [AP.run] at hm
  · simp [AP.run] at hm
noncomputable def ctQ : CT := fun f args => if f = 51 then c51 args else if f = 96 then c96 args else if f = 106 then c106 args else if f = 107 then c107 args else ctN f args
theorem ctQ_ok : CTok Try.prog ctQ := fun f args => by
  unfold ctQ
  split
  · rename_i e; subst e; exact a51 args
  split
  · rename_i e; subst e; exact a96 args
  split
  · rename_i e; subst e; exact a106 args
  split
  · rename_i e; subst e; exact a107 args
  · exact ctN_ok f args
theorem ctQ_18 (a : List AV) : ctQ 18 a = c18r a := rfl
theorem ctQ_22 (a : List AV) : ctQ 22 a = c22r a := rfl
theorem ctQ_19 (a : List AV) : ctQ 19 a = c19r a := rfl
theorem ctQ_91 (a : List AV) : ctQ 91 a = c91r a := rfl
theorem ctQ_51 (a : List AV) : ctQ 51 a = c51 a := rfl
theorem ctQ_96 (a : List AV) : ctQ 96 a = c96 a := rfl
theorem ctQ_106 (a : List AV) : ctQ 106 a = c106 a := rfl
theorem ctQ_107 (a : List AV) : ctQ 107 a = c107 a := rfl
theorem cal51 : callable Try.prog 51 = true := by kernel_rfl
theorem cal96 : callable Try.prog 96 = true := by kernel_rfl
theorem cal106 : callable Try.prog 106 = true := by kernel_rfl
theorem cal107 : callable Try.prog 107 = true := by kernel_rfl
end Go.Proofs.Ytdcomhdadnhpnaa