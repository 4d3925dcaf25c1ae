import Derived.Test.YtdcomhdadnhpnaaXB33
set_option linter.all false
namespace Go.Proofs.Ytdcomhdadnhpnaa
open Go Go.Am Go.RowKit
attribute [local irreducible] wA opsQ opsLQ thenA blockA EndA
attribute [local go_sem] put5
theorem foldl_le {β : Type} {f : List Int → β → List Int} (hf : ∀ t b, t.length ≤ 1000000000 → (f t b).length ≤ 1000000000) : ∀ (l : List β) (t : List Int), t.length ≤ 1000000000 → (l.foldl f t).length ≤ 1000000000
  | [], t, h => h
  | b :: l, t, h => foldl_le hf l (f t b) (hf t b h)
theorem madeF_le (L : List (Int × Int)) (ops : List OpT) : (madeF L ops).length ≤ 1000000000 :=
  foldl_le (fun t o h => stepF_le o h) ops _ (foldl_le (fun t e h => stepF_le _ h) L _ (by unfold emptyL; exact wordsF_le _ (by simp [emptyR])))
theorem RO.mono {P : Program} {f : FuncId} {args : List AV} {R R' : AV → AHp → Prop} (h : RO P f args R) (hr : ∀ a H, R a H → R' a H) : RO P f args R' := fun w vs ha =>
  (h w vs ha).mono fun e w' ⟨v, r1, H1, ρ1, a, b, c, d⟩ => ⟨v, r1, H1, ρ1, a, b, c, hr _ _ d⟩
theorem made_own (L : List (Int × Int)) (ops : List OpT) (b : Bool) (x y : Int) (hL : L.length ≤ 9223372036854775806) (ho : ops.length ≤ 9223372036854775806) : RO Try.prog 47 [playG L ops b x y] (OwnX (some (madeF L ops))) :=
  (made_ro L ops b x y hL ho).mono fun _ _ h => h.1
theorem play_data {ρ : Inj} {H : AHp} {w : World} {L : List (Int × Int)} {ops : List OpT} {b : Bool} {x y : Int} {v : Value} (h : Rep ρ (own ρ H) w (playG L ops b x y) v) : Rep ρ0 (own ρ0 H0) w (playG L ops b x y) v := by
  have key : ∀ {n : Nat} {cs : List AV} {u : Value}, (∀ a ∈ cs, ∃ z, a = .sc z) → Rep ρ (own ρ H) w (.dsl n cs) u → Rep ρ0 (own ρ0 H0) w (.dsl n cs) u := by
    intro n cs u hx hu
    cases hu with
    | dnil hl => exact .dnil hl
    | dsl h1 h2 h3 h4 h5 h6 =>
      refine .dsl h1 (own0 _) h3 h4 h5 (fun i a z ha hz => ?_)
      have h7 := h6 i a z ha hz
      obtain ⟨z', rfl⟩ := hx a (List.mem_of_getElem? ha)
      cases h7
      exact .sc _
  obtain ⟨us, rfl, hu⟩ := Rep.agg_iff.1 h
  obtain ⟨v0, t, e0, k0, hu⟩ := Reps.uncons hu
  obtain ⟨v1, t1, e1, k1, hu⟩ := Reps.uncons hu
  refine Rep.agg_iff.2 ⟨us, rfl, ?_⟩
  rw [e0, e1]
  refine .cons (key (fun a ha => elsA_sc ha) k0) (.cons (key (fun a ha => ?_) k1) (reps_sc (T := [.bool b, .int .i64 x, .int .i64 y]) hu))
  obtain ⟨o, _, ha⟩ := List.mem_flatMap.1 ha
  simp at ha
  rcases ha with rfl | rfl | rfl | rfl <;> exact ⟨_, rfl⟩
open Classical in
noncomputable def c47p (L : List (Int × Int)) (ops : List OpT) (b : Bool) (x y : Int) (args : List AV) : AP AV :=
  if args = [playG L ops b x y] ∧ L.length ≤ 9223372036854775806 ∧ ops.length ≤ 9223372036854775806 then .new (.row 0 1 (ints (madeF L ops))) fun n => .ret (.sl n 0 0 (madeF L ops).length) else .fail
theorem a47p (L : List (Int × Int)) (ops : List OpT) (b : Bool) (x y : Int) (args : List AV) : ACall Try.prog 47 args (c47p L ops b x y args) := by
  intro ρ H w vs hR hA s r H' s' hm
  unfold c47p at hm
  split at hm
  · rename_i h
    obtain ⟨rfl, hL, ho⟩ := h
    obtain ⟨v0, rfl, hv0⟩ := reps1 hA
    exact (made_own L ops b x y hL ho).own1 hR (.cons (play_data hv0) .nil) hm
  · simp [AP.run] at hm
noncomputable def ctH (L : List (Int × Int)) (ops : List OpT) (b : Bool) (x y : Int) : CT := fun f args => if f = 47 then c47p L ops b x y args else ctG f args
theorem ctH_ok (L : List (Int × Int)) (ops : List OpT) (b : Bool) (x y : Int) : CTok Try.prog (ctH L ops b x y) := fun f args => by
  unfold ctH
  split
  · rename_i e; subst e; exact a47p L ops b x y args
  · exact ctG_ok f args
theorem ctH_47 (L : List (Int × Int)) (ops : List OpT) (b : Bool) (x y : Int) (a : List AV) : ctH L ops b x y 47 a = c47p L ops b x y a := rfl
theorem cal47 : callable Try.prog 47 = true := by kernel_rfl
noncomputable def bentF (L : List (Int × Int)) (ops : List OpT) (b : Bool) (x y : Int) : List Int :=
  if b = true ∧ 0 ≤ x ∧ x < ((madeF L ops).length : Nat) then (madeF L ops).set x.toNat y else madeF L ops
theorem bentF_le (L : List (Int × Int)) (ops : List OpT) (b : Bool) (x y : Int) : (bentF L ops b x y).length ≤ 1000000000 := by
  unfold bentF
  split
  · rw [List.length_set]; exact madeF_le L ops
  · exact madeF_le L ops
set_option maxRecDepth 100000 in
set_option maxHeartbeats 4000000 in
theorem bent_rc (L : List (Int × Int)) (ops : List OpT) (b : Bool) (x y : Int) (hL : L.length ≤ 9223372036854775806) (ho : ops.length ≤ 9223372036854775806) :
    RC Try.prog 33 [playG L ops b x y] (.dsl (bentF L ops b x y).length (ints (bentF L ops b x y))) := by
  refine rc_of hmix (ctH_ok L ops b x y) Try.func33 rfl (by kernel_rfl) (fun E s hs => ?_)
  simp (maxSteps := 300000) only [begA, Try.ntmps33, List.replicate_succ, List.replicate_zero, List.length_cons, List.length_nil, List.cons_append, List.nil_append]
  have hm := madeF_le L ops
  have hc : c47p L ops b x y [playG L ops b x y] = .new (.row 0 1 (ints (madeF L ops))) fun n => .ret (.sl n 0 0 (madeF L ops).length) := if_pos ⟨rfl, hL, ho⟩
  unfold bentF
  generalize madeF L ops = t at *
  have hil := ints_len t
  cases b with
  | false =>
    rw [if_neg (by simp)]
    repeat (first | (with_reducible first | apply Q0 | apply Q1 | apply Q2 | apply Q3 | apply Q4 | apply Q5 | apply Q6 | apply Q7 | apply Q8 | apply Q9 | apply QA | apply QB | apply QC | apply QD | apply QE | apply QF) | ((first | (with_reducible apply QK rfl) | (apply QT; simp only [go_sem] <;> exact rfl)); simp (disch := omega) only [go_sem, hs, upd_ne, cal47, ctH_47, hc]; exact rfl; simp only [sB, sA, putA]; exact rfl) | (apply QI; simp only [go_sem] <;> exact rfl; simp only [sB, sA, putA]; exact rfl) | (apply QQ; simp only [evA, gB, gA]; exact rfl) | ((first | apply QX | apply QY); (first | rfl | decide | assumption)))
    (apply QZ; simp (disch := omega) only [go_sem, Try.results33]; exact rfl; simp only [packA]; exact rfl)
    exact Exp.ints (by simp (disch := omega) only [upd_same, upd_ne])
  | true =>
    by_cases h0 : 0 ≤ x
    · by_cases h1 : x < (t.length : Nat)
      · rw [if_pos ⟨rfl, h0, h1⟩]
        obtain ⟨i, hi⟩ : ∃ i : Nat, x = (i : Int) := ⟨x.toNat, by omega⟩
        subst hi
        have hit : i < t.length := by omega
        rw [Int.toNat_natCast, List.length_set]
        repeat (first | (with_reducible first | apply Q0 | apply Q1 | apply Q2 | apply Q3 | apply Q4 | apply Q5 | apply Q6 | apply Q7 | apply Q8 | apply Q9 | apply QA | apply QB | apply QC | apply QD | apply QE | apply QF) | ((first | (with_reducible apply QK rfl) | (apply QT; simp only [go_sem] <;> exact rfl)); simp (disch := omega) only [go_sem, hs, upd_ne, cal47, ctH_47, hc, hil, ints_set]; exact rfl; simp only [sB, sA, putA]; exact rfl) | (apply QI; simp only [go_sem] <;> exact rfl; simp only [sB, sA, putA]; exact rfl) | (apply QQ; simp only [evA, gB, gA]; exact rfl) | ((first | apply QX | apply QY); (first | rfl | decide | assumption)))
        (apply QZ; simp (disch := omega) only [go_sem, Try.results33]; exact rfl; simp only [packA]; exact rfl)
        exact Exp.ints (by simp (disch := omega) only [upd_same, upd_ne])
      · rw [if_neg (fun h => h1 h.2.2)]
        repeat (first | (with_reducible first | apply Q0 | apply Q1 | apply Q2 | apply Q3 | apply Q4 | apply Q5 | apply Q6 | apply Q7 | apply Q8 | apply Q9 | apply QA | apply QB | apply QC | apply QD | apply QE | apply QF) | ((first | (with_reducible apply QK rfl) | (apply QT; simp only [go_sem] <;> exact rfl)); simp (disch := omega) only [go_sem, hs, upd_ne, cal47, ctH_47, hc, h0, h1]; exact rfl; simp only [sB, sA, putA]; exact rfl) | (apply QI; simp only [go_sem] <;> exact rfl; simp only [sB, sA, putA]; exact rfl) | (apply QQ; simp only [evA, gB, gA]; exact rfl) | ((first | apply QX | apply QY); (first | rfl | decide | assumption)))
        (apply QZ; simp (disch := omega) only [go_sem, Try.results33]; exact rfl; simp only [packA]; exact rfl)
        exact Exp.ints (by simp (disch := omega) only [upd_same, upd_ne])
    · rw [if_neg (fun h => h0 h.2.1)]
      repeat (first | (with_reducible first | apply Q0 | apply Q1 | apply Q2 | apply Q3 | apply Q4 | apply Q5 | apply Q6 | apply Q7 | apply Q8 | apply Q9 | apply QA | apply QB | apply QC | apply QD | apply QE | apply QF) | ((first | (with_reducible apply QK rfl) | (apply QT; simp only [go_sem] <;> exact rfl)); simp (disch := omega) only [go_sem, hs, upd_ne, cal47, ctH_47, hc, h0]; exact rfl; simp only [sB, sA, putA]; exact rfl) | (apply QI; simp only [go_sem] <;> exact rfl; simp only [sB, sA, putA]; exact rfl) | (apply QQ; simp only [evA, gB, gA]; exact rfl) | ((first | apply QX | apply QY); (first | rfl | decide | assumption)))
      (apply QZ; simp (disch := omega) only [go_sem, Try.results33]; exact rfl; simp only [packA]; exact rfl)
      exact Exp.ints (by simp (disch := omega) only [upd_same, upd_ne])
set_option maxRecDepth 100000 in
set_option maxHeartbeats 4000000 in
theorem small_rc (L : List (Int × Int)) (ops : List OpT) (b : Bool) (x y : Int) :
    RC Try.prog 32 [playG L ops b x y] (.sc (.bool (decide (L.length ≤ 300 ∧ ops.length ≤ 300)))) := by
  refine rc_of hmix ctG_ok Try.func32 rfl (by kernel_rfl) (fun E s hs => ?_)
  simp (maxSteps := 300000) only [begA, Try.ntmps32, List.replicate_succ, List.replicate_zero, List.length_cons, List.length_nil, List.cons_append, List.nil_append]
  by_cases h1 : L.length ≤ 300
  · by_cases h2 : ops.length ≤ 300
    · rw [decide_eq_true (show L.length ≤ 300 ∧ ops.length ≤ 300 from ⟨h1, h2⟩)]
      repeat (first | (with_reducible first | apply Q0 | apply Q1 | apply Q2 | apply Q3 | apply Q4 | apply Q5 | apply Q6 | apply Q7 | apply Q8 | apply Q9 | apply QA | apply QB | apply QC | apply QD | apply QE | apply QF) | ((first | (with_reducible apply QK rfl) | (apply QT; simp only [go_sem] <;> exact rfl)); simp (disch := omega) only [go_sem, hs, upd_ne]; exact rfl; simp only [sB, sA, putA]; exact rfl) | (apply QI; simp only [go_sem] <;> exact rfl; simp only [sB, sA, putA]; exact rfl) | (apply QQ; simp only [evA, gB, gA]; exact rfl) | ((first | apply QX | apply QY); (first | rfl | decide | assumption)))
      (apply QZ; simp (disch := omega) only [go_sem, Try.results32]; exact rfl; simp only [packA]; exact rfl)
      exact .sc _
    · rw [decide_eq_false (fun h => h2 h.2)]
      repeat (first | (with_reducible first | apply Q0 | apply Q1 | apply Q2 | apply Q3 | apply Q4 | apply Q5 | apply Q6 | apply Q7 | apply Q8 | apply Q9 | apply QA | apply QB | apply QC | apply QD | apply QE | apply QF) | ((first | (with_reducible apply QK rfl) | (apply QT; simp only [go_sem] <;> exact rfl)); simp (disch := omega) only [go_sem, hs, upd_ne]; exact rfl; simp only [sB, sA, putA]; exact rfl) | (apply QI; simp only [go_sem] <;> exact rfl; simp only [sB, sA, putA]; exact rfl) | (apply QQ; simp only [evA, gB, gA]; exact rfl) | ((first | apply QX | apply QY); (first | rfl | decide | assumption)))
      (apply QZ; simp (disch := omega) only [go_sem, Try.results32]; exact rfl; simp only [packA]; exact rfl)
      exact .sc _
  · rw [decide_eq_false (fun h => h1 h.1)]
    repeat (first | (with_reducible first | apply Q0 | apply Q1 | apply Q2 | apply Q3 | apply Q4 | apply Q5 | apply Q6 | apply Q7 | apply Q8 | apply Q9 | apply QA | apply QB | apply QC | apply QD | apply QE | apply QF) | ((first | (with_reducible apply QK rfl) | (apply QT; simp only [go_sem] <;> exact rfl)); simp (disch := omega) only [go_sem, hs, upd_ne]; exact rfl; simp only [sB, sA, putA]; exact rfl) | (apply QI; simp only [go_sem] <;> exact rfl; simp only [sB, sA, putA]; exact rfl) | (apply QQ; simp only [evA, gB, gA]; exact rfl) | ((first | apply QX | apply QY); (first | rfl | decide | assumption)))
    (apply QZ; simp (disch := omega) only [go_sem, Try.results32]; exact rfl; simp only [packA]; exact rfl)
    exact .sc _
end Go.Proofs.Ytdcomhdadnhpnaa
