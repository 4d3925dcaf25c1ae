import Derived.Test.YtdcomhdadnhpnaaXB30
set_option linter.all false
namespace Go.Proofs.Ytdcomhdadnhpnaa
open Go Go.Am Go.RowKit
attribute [local irreducible] wA opsQ opsLQ thenA blockA EndA
open Classical in
/-- the elements that Read finds -/
noncomputable def recsX (l : List Int) : List (Int × Int) := if ValidL l then recsT l else (badR l).1
theorem recsX_len (l : List Int) : (recsX l).length ≤ 100000 := by
  unfold recsX
  split
  · rename_i hV; exact (wok_valid hV).n
  · unfold badR readX
    split
    · split
      · simp
      · split
        · rename_i h _ _ _ _
          simp only [Option.getD_some, recsF_len]
          omega
        · simp
    · simp
noncomputable def chosenF (l : List Int) (n : Int) : Int × Int := (recsX l).getD ((n.tmod (recsX l).length + (recsX l).length).tmod (recsX l).length).toNat (0, 0)
noncomputable def ctE : CT := fun f args => if f = 78 then c78 args else ctQ f args
theorem ctE_ok : CTok Try.prog ctE := fun f args => by
  unfold ctE
  split
  · rename_i e; subst e; exact a78 args
  · exact ctQ_ok f args
theorem ctE_78 (a : List AV) : ctE 78 a = c78 a := rfl
set_option maxRecDepth 100000 in
set_option maxHeartbeats 4000000 in
theorem chosen_rc (l : List Int) (n : Int) (hl : l.length ≤ 1000000000) :
    RC Try.prog 34 [.dsl l.length (ints l), .sc (.int .i64 n)] (.agg [.sc (.int .i64 (chosenF l n).1), .sc (.int .i64 (chosenF l n).2)]) := by
  refine rc_of hmix ctE_ok Try.func34 rfl (by kernel_rfl) (fun E s hs => ?_)
  simp (maxSteps := 300000) only [begA, Try.ntmps34, List.replicate_succ, List.replicate_zero, List.length_cons, List.length_nil, List.cons_append, List.nil_append]
  have hlen := recsX_len l
  obtain ⟨chs, b, hc⟩ : ∃ chs b, c78 [.dsl l.length (ints l)] = .ret (.tup [tabG (recsX l) chs, .sc (.bool b)]) := by
    unfold c78
    simp only [rdD_dsl]
    rw [if_pos hl]
    unfold recsX
    by_cases hV : ValidL l
    · rw [if_pos hV, if_pos hV]; exact ⟨_, _, rfl⟩
    · rw [if_neg hV, if_neg hV]; exact ⟨_, _, rfl⟩
  unfold chosenF
  generalize recsX l = recs at *
  by_cases h0 : recs.length = 0
  · obtain rfl := List.length_eq_zero_iff.1 h0
    repeat (first | (with_reducible first | apply Q0 | apply Q1 | apply QG | apply Q2 | apply Q3 | apply Q4 | apply Q5 | apply Q6 | apply Q7 | apply Q8 | apply Q9 | apply QA | apply QB | apply QC | apply QD | apply QE | apply QF) | ((first | (with_reducible apply QK rfl) | (apply QT; simp only [go_sem] <;> exact rfl)); simp (disch := omega) only [go_sem, hs, upd_ne, cal78, ctE_78, hc]; exact rfl; simp only [sB, sA, putA]; exact rfl) | ((first | (with_reducible apply QL rfl) | (apply QM; simp only [go_sem] <;> exact rfl)); simp (disch := omega) only [go_sem, hs, upd_ne, cal78, ctE_78, hc]; exact rfl; simp only [sB, sA, putA]; exact rfl; simp only [logT_none, logT_rd, logT_wr, List.cons_append, List.nil_append]; exact rfl) | ((first | apply QI | apply QN); simp only [go_sem] <;> exact rfl; simp only [sB, sA, putA]; exact rfl) | (refine QO ?_ ?_; first | focus (simp only [dyn_nil, dyn_cons, allY_nil, allY_cons, dj_rr, true_or, true_and]; done) | focus (simp only [dyn_nil, dyn_cons, allY_nil, allY_cons, Dj, List.mem_cons, List.not_mem_nil, or_false, forall_eq, forall_eq_or_imp, and_true, true_and, false_imp_iff, implies_true]; omega) | focus (simp only [dyn_nil, dyn_cons, allY_nil, allY_cons, and_true, true_and]; (repeat' refine And.intro ?_ ?_); all_goals first | (left; simp only [Dj, List.mem_cons, List.not_mem_nil, or_false, forall_eq, forall_eq_or_imp, and_true, true_and, false_imp_iff, implies_true]; first | done | omega) | (right; kernel_rfl))) | (apply QQ; simp only [evA, gB, gA]; exact rfl) | ((first | apply QX | apply QY); (first | rfl | decide | assumption)))
    (apply QZ; simp (disch := omega) only [go_sem, Try.results34]; exact rfl; simp only [packA]; exact rfl)
    exact .agg rfl (fun i a b ha hb => by
      match i with
      | 0 => simp at ha hb; subst ha; subst hb; exact .sc _
      | 1 => simp at ha hb; subst ha; subst hb; exact .sc _
      | i + 2 => simp at ha)
  · have hL0 : (0 : Int) < (recs.length : Int) := by omega
    have hne : ((recs.length : Nat) : Int) ≠ 0 := by omega
    have hne2 : ¬ ((recs.length : Nat) : Int) = 0 := hne
    have h1 := Int.lt_tmod_of_pos n hL0
    have h1' := Int.tmod_lt_of_pos n hL0
    have h2 := Int.tmod_lt_of_pos (n.tmod recs.length + recs.length) hL0
    have h3 : 0 ≤ (n.tmod recs.length + recs.length).tmod recs.length := Int.tmod_nonneg _ (by omega)
    obtain ⟨kk, hkk⟩ : ∃ kk : Nat, (n.tmod recs.length + recs.length).tmod recs.length = (kk : Int) := ⟨((n.tmod recs.length + recs.length).tmod recs.length).toNat, by omega⟩
    have hk2 : kk < recs.length := by omega
    rw [hkk, Int.toNat_natCast, show recs.getD kk (0, 0) = recs[kk] by simp [hk2]]
    repeat (first | (with_reducible first | apply Q0 | apply Q1 | apply QG | apply Q2 | apply Q3 | apply Q4 | apply Q5 | apply Q6 | apply Q7 | apply Q8 | apply Q9 | apply QA | apply QB | apply QC | apply QD | apply QE | apply QF) | ((first | (with_reducible apply QK rfl) | (apply QT; simp only [go_sem] <;> exact rfl)); simp (disch := omega) only [go_sem, hs, upd_ne, cal78, ctE_78, hc, hne2, bin_remT hne, hkk, elsA_len, elsA_drop]; exact rfl; simp only [sB, sA, putA]; exact rfl) | ((first | (with_reducible apply QL rfl) | (apply QM; simp only [go_sem] <;> exact rfl)); simp (disch := omega) only [go_sem, hs, upd_ne, cal78, ctE_78, hc, hne2, bin_remT hne, hkk, elsA_len, elsA_drop]; exact rfl; simp only [sB, sA, putA]; exact rfl; simp only [logT_none, logT_rd, logT_wr, List.cons_append, List.nil_append]; exact rfl) | ((first | apply QI | apply QN); simp only [go_sem] <;> exact rfl; simp only [sB, sA, putA]; exact rfl) | (refine QO ?_ ?_; first | focus (simp only [dyn_nil, dyn_cons, allY_nil, allY_cons, dj_rr, true_or, true_and]; done) | focus (simp only [dyn_nil, dyn_cons, allY_nil, allY_cons, Dj, List.mem_cons, List.not_mem_nil, or_false, forall_eq, forall_eq_or_imp, and_true, true_and, false_imp_iff, implies_true]; omega) | focus (simp only [dyn_nil, dyn_cons, allY_nil, allY_cons, and_true, true_and]; (repeat' refine And.intro ?_ ?_); all_goals first | (left; simp only [Dj, List.mem_cons, List.not_mem_nil, or_false, forall_eq, forall_eq_or_imp, and_true, true_and, false_imp_iff, implies_true]; first | done | omega) | (right; kernel_rfl))) | (apply QQ; simp only [evA, gB, gA]; exact rfl) | ((first | apply QX | apply QY); (first | rfl | decide | assumption)))
    (apply QZ; simp (disch := omega) only [go_sem, Try.results34]; exact rfl; simp only [packA]; exact rfl)
    exact .agg rfl (fun i a b ha hb => by
      match i with
      | 0 => simp at ha hb; subst ha; subst hb; exact .sc _
      | 1 => simp at ha hb; subst ha; subst hb; exact .sc _
      | i + 2 => simp at ha)
noncomputable def c34 : List AV → AP AV
  | [t, .sc (.int .i64 n)] => rdK t fun l => if l.length ≤ 1000000000 then .ret (.agg [.sc (.int .i64 (chosenF l n).1), .sc (.int .i64 (chosenF l n).2)]) else .fail
  | _ => .fail
noncomputable def c35o : List AV → AP AV
  | [t, .sc (.int .i64 h), .sc (.int .i64 x)] => rdK t fun l => if l.length ≤ 1000000000 then outX (ansX (addF l h x).2.2 (addF l h x).2.1) [.int .i64 (addF l h x).1, .int .i64 (addF l h x).2.2] else .fail
  | _ => .fail
noncomputable def c37o : List AV → AP AV
  | [t, .sc (.int .i64 h), .sc (.int .i64 x)] => rdK t fun l => if l.length ≤ 1000000000 then outX (ansX (dropF l h x).2.2 (dropF l h x).2.1) [.int .i64 (dropF l h x).1, .int .i64 (dropF l h x).2.2] else .fail
  | _ => .fail
noncomputable def c39o : List AV → AP AV
  | [t, .sc (.int .i64 h), .sc (.int .i64 x), .sc (.int .i64 v)] => rdK t fun l => if l.length ≤ 1000000000 then outX (ansX (putF l h x v).2 (putF l h x v).1) [.int .i64 (putF l h x v).2] else .fail
  | _ => .fail
noncomputable def c57o : List AV → AP AV
  | [t, A] => rdK t fun l => rdE2 A fun mv => if l.length ≤ 1000000000 ∧ mv.length ≤ 1000000000 then outX (ansX (rmoveF l mv).2 (rmoveF l mv).1) [.int .i64 (rmoveF l mv).2] else .fail
  | _ => .fail
theorem arg3 {ρ : Inj} {O : Nat → Prop} {w : World} {a b c : AV} {vs : List Value} (h : Reps ρ O w [a, b, c] vs) : ∃ x y z, vs = [x, y, z] ∧ Rep ρ O w a x ∧ Rep ρ O w b y ∧ Rep ρ O w c z := by
  obtain ⟨x, t, rfl, h1, h2⟩ := Reps.uncons h
  obtain ⟨y, z, rfl, h3, h4⟩ := arg2 h2
  exact ⟨x, y, z, rfl, h1, h3, h4⟩
theorem arg4 {ρ : Inj} {O : Nat → Prop} {w : World} {a b c d : AV} {vs : List Value} (h : Reps ρ O w [a, b, c, d] vs) : ∃ x y z u, vs = [x, y, z, u] ∧ Rep ρ O w a x ∧ Rep ρ O w b y ∧ Rep ρ O w c z ∧ Rep ρ O w d u := by
  obtain ⟨x, t, rfl, h1, h2⟩ := Reps.uncons h
  obtain ⟨y, z, u, rfl, h3, h4, h5⟩ := arg3 h2
  exact ⟨x, y, z, u, rfl, h1, h3, h4, h5⟩
theorem a34 (args : List AV) : ACall Try.prog 34 args (c34 args) := by
  intro ρ H w vs hR hA s r H' s' hm
  unfold c34 at hm
  split at hm
  · obtain ⟨v0, v1, rfl, hv0, hv1⟩ := arg2 hA
    obtain ⟨l, hr, hm⟩ := rdK_data hR hv0 hm
    split at hm
    · rename_i hc
      obtain rfl := Rep.sc_iff.1 hv1
      simp only [AP.run, Option.some.injEq, Prod.mk.injEq] at hm
      obtain ⟨rfl, rfl, rfl⟩ := hm
      exact (chosen_rc l _ hc).acall hR (.cons hr (.cons (.sc _) .nil))
    · simp [AP.run] at hm
  · simp [AP.run] at hm
theorem a35o (args : List AV) : ACall Try.prog 35 args (c35o args) := by
  intro ρ H w vs hR hA s r H' s' hm
  unfold c35o at hm
  split at hm
  · obtain ⟨v0, v1, v2, rfl, hv0, hv1, hv2⟩ := arg3 hA
    obtain ⟨l, hr, hm⟩ := rdK_data hR hv0 hm
    split at hm
    · rename_i hc
      obtain rfl := Rep.sc_iff.1 hv1
      obtain rfl := Rep.sc_iff.1 hv2
      exact (radd_ro l _ _ hc).ownT hR (.cons hr (.cons (.sc _) (.cons (.sc _) .nil))) hm
    · simp [AP.run] at hm
  · simp [AP.run] at hm
theorem a37o (args : List AV) : ACall Try.prog 37 args (c37o args) := by
  intro ρ H w vs hR hA s r H' s' hm
  unfold c37o at hm
  split at hm
  · obtain ⟨v0, v1, v2, rfl, hv0, hv1, hv2⟩ := arg3 hA
    obtain ⟨l, hr, hm⟩ := rdK_data hR hv0 hm
    split at hm
    · rename_i hc
      obtain rfl := Rep.sc_iff.1 hv1
      obtain rfl := Rep.sc_iff.1 hv2
      exact (rdrop_ro l _ _ hc).ownT hR (.cons hr (.cons (.sc _) (.cons (.sc _) .nil))) hm
    · simp [AP.run] at hm
  · simp [AP.run] at hm
theorem a39o (args : List AV) : ACall Try.prog 39 args (c39o args) := by
  intro ρ H w vs hR hA s r H' s' hm
  unfold c39o at hm
  split at hm
  · obtain ⟨v0, v1, v2, v3, rfl, hv0, hv1, hv2, hv3⟩ := arg4 hA
    obtain ⟨l, hr, hm⟩ := rdK_data hR hv0 hm
    split at hm
    · rename_i hc
      obtain rfl := Rep.sc_iff.1 hv1
      obtain rfl := Rep.sc_iff.1 hv2
      obtain rfl := Rep.sc_iff.1 hv3
      exact (rput_ro l _ _ _ hc).ownT hR (.cons hr (.cons (.sc _) (.cons (.sc _) (.cons (.sc _) .nil)))) hm
    · simp [AP.run] at hm
  · simp [AP.run] at hm
theorem a57o (args : List AV) : ACall Try.prog 57 args (c57o args) := by
  intro ρ H w vs hR hA s r H' s' hm
  unfold c57o at hm
  split at hm
  · obtain ⟨v0, v1, rfl, hv0, hv1⟩ := arg2 hA
    obtain ⟨l, hr, hm⟩ := rdK_data hR hv0 hm
    obtain ⟨mv, hr1, hm⟩ := rdE2_data hR hv1 hm
    split at hm
    · rename_i hc
      exact (rmove_ro l mv hc.1 hc.2).ownT hR (.cons hr (.cons hr1 .nil)) hm
    · simp [AP.run] at hm
  · simp [AP.run] at hm
noncomputable def ctF : CT := fun f args => if f = 34 then c34 args else if f = 35 then c35o args else if f = 37 then c37o args else if f = 39 then c39o args else if f = 57 then c57o args else if f = 51 then c51o args else ctQ f args
theorem ctF_ok : CTok Try.prog ctF := fun f args => by
  unfold ctF
  split
  · rename_i e; subst e; exact a34 args
  split
  · rename_i e; subst e; exact a35o args
  split
  · rename_i e; subst e; exact a37o args
  split
  · rename_i e; subst e; exact a39o args
  split
  · rename_i e; subst e; exact a57o args
  split
  · rename_i e; subst e; exact a51o args
  · exact ctQ_ok f args
theorem ctF_34 (a : List AV) : ctF 34 a = c34 a := rfl
theorem ctF_35 (a : List AV) : ctF 35 a = c35o a := rfl
theorem ctF_37 (a : List AV) : ctF 37 a = c37o a := rfl
theorem ctF_39 (a : List AV) : ctF 39 a = c39o a := rfl
theorem ctF_57 (a : List AV) : ctF 57 a = c57o a := rfl
theorem cal34 : callable Try.prog 34 = true := by kernel_rfl
theorem cal35 : callable Try.prog 35 = true := by kernel_rfl
theorem cal37 : callable Try.prog 37 = true := by kernel_rfl
theorem cal39 : callable Try.prog 39 = true := by kernel_rfl
theorem cal57 : callable Try.prog 57 = true := by kernel_rfl
end Go.Proofs.Ytdcomhdadnhpnaa
