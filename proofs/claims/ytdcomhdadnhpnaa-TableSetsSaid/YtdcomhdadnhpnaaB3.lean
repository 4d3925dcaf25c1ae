/- The law's own helpers on lists of elements, run on the machine: without, index, elems. -/
import Derived.Test.YtdcomhdadnhpnaaA18
set_option linter.unusedSimpArgs false
set_option linter.unusedVariables false
namespace Go.Proofs.Ytdcomhdadnhpnaa
open Go Go.Am Go.RowKit
attribute [local irreducible] wA opsQ opsLQ thenA blockA EndA
attribute [local go_sem] true_or aOp aStep aWanted evA putA begA packA aRes aRead bin_add bin_sub bin_mul bin_lss bin_leq bin_gtr bin_geq bin_quo bin_rem un_not aBuiltin aLen aLoad aStore aBox aAlloc
attribute [local go_sem] aCells AV.one Value.oneCell' cellsOut aIndexAddr aFieldAddr aField AV.parts? aNilCheck aExtract aSlice bnd aAppend aSrc aFill aZeros aMakeSlice AP.ofOption Value.cells
attribute [local go_sem] List.cons_append List.nil_append List.append_nil List.length_cons List.length_nil List.length_map List.replicate_succ List.replicate_zero List.set_cons_succ List.set_cons_zero
attribute [local go_sem] List.getD_cons_succ List.getD_cons_zero List.toList_toArray List.map_cons List.map_nil List.drop_zero List.drop_succ_cons List.drop_nil List.take_succ_cons List.take_zero
attribute [local go_sem] List.take_nil List.head?_cons List.head?_drop List.getElem?_map List.getElem?_cons_zero List.getElem?_cons_succ List.getElem?_eq_getElem Option.map_some Option.map_none
attribute [local go_sem] Option.bind_some List.all_cons List.all_nil Bool.and_true Bool.true_and Bool.and_self upd_same decide_true decide_false decide_eq_true_eq if_true if_false Bool.false_eq_true
attribute [local go_sem] Bool.true_eq_false ite_true ite_false true_and and_true and_self eq_self reduceCtorEq Bool.not_eq_true Bool.not_true Bool.not_false Bool.not_eq_false not_true_eq_false
attribute [local go_sem] not_false_eq_true Int.toNat_natCast Nat.zero_add Nat.add_zero Nat.mul_one Nat.zero_mul Nat.mul_zero Nat.one_mul Nat.zero_le Int.toNat_zero BEq.rfl beq_self_eq_true if_pos
attribute [local go_sem] if_neg decide_eq_true decide_eq_false sz3 ze3 by3 ag3 Try.underlying3 eqlT3 neqT3 sz4 ze4 by4 ag4 Try.underlying4 sz23 ze23 by23 ag23 Try.underlying23 eqlT23 neqT23 sz31 ze31
attribute [local go_sem] by31 ag31 Try.underlying31 sz40 ze40 by40 ag40 Try.underlying40 sz41 ze41 by41 ag41 Try.underlying41 sz43 ze43 by43 ag43 fo43_0 fo43_1 bu43 Try.underlying43 AP.run
attribute [local go_sem] List.size_toArray List.length_set AP.runL bs31 bs40 bs41 put1 put2

abbrev elA (e : Int × Int) : List AV := [.sc (.int .i64 e.1), .sc (.int .i64 e.2)]
abbrev elG (e : Int × Int) : AV := .agg [.sc (.int .i64 e.1), .sc (.int .i64 e.2)]
def elsA (L : List (Int × Int)) : List AV := L.flatMap elA
theorem elsA_nil : elsA [] = [] := rfl
theorem elsA_cons (e : Int × Int) (L : List (Int × Int)) : elsA (e :: L) = .sc (.int .i64 e.1) :: .sc (.int .i64 e.2) :: elsA L := rfl
theorem elsA_append (L M : List (Int × Int)) : elsA (L ++ M) = elsA L ++ elsA M := by simp [elsA]
theorem elsA_len (L : List (Int × Int)) : (elsA L).length = L.length * 2 := by
  induction L with
  | nil => rfl
  | cons e L ih => rw [elsA_cons]; simp only [List.length_cons, ih]; omega
theorem elsA_drop : ∀ {L : List (Int × Int)} {k : Nat} (h : k < L.length), (elsA L).drop (k * 2) = .sc (.int .i64 L[k].1) :: .sc (.int .i64 L[k].2) :: elsA (L.drop (k + 1))
  | e :: L, 0, h => by simp [elsA_cons]
  | e :: L, k + 1, h => by
    have := elsA_drop (L := L) (k := k) (by simpa using h)
    rw [elsA_cons, show (k + 1) * 2 = k * 2 + 1 + 1 by omega, List.drop_succ_cons, List.drop_succ_cons, this]
    rfl
theorem elsA_take (L : List (Int × Int)) : (elsA L).take (L.length * 2) = elsA L := List.take_of_length_le (by rw [elsA_len]; omega)
theorem elsA_one (L : List (Int × Int)) : (elsA L).all AV.one = true := by
  induction L with
  | nil => rfl
  | cons e L ih => rw [elsA_cons]; simp only [List.all_cons, AV.one, Value.oneCell', Bool.true_and]; exact ih

/-- a list that the call has built -/
def OwnE (E : Ent) (s0 esz : Nat) (v : AV) (H : AHp) (s' : Nat) (cs : List AV) (len : Nat) : Prop :=
  s0 ≤ s' ∧ (∀ q, s' ≤ q → H q = none) ∧ (∀ q, q < s0 → H q = E.H q) ∧ ((len = 0 ∧ cs = [] ∧ v = .sc (.slice none 0 0)) ∨ ∃ nm ver, 0 < len ∧ v = .sl nm ver 0 len ∧ H nm = some (.row ver esz cs) ∧ nm < s' ∧ s0 ≤ nm)
theorem OwnE.start {E : Ent} {s esz : Nat} (hs : ∀ n, s ≤ n → E.H n = none) : OwnE E s esz (.sc (.slice none 0 0)) E.H s [] 0 := ⟨Nat.le_refl _, hs, fun _ _ => rfl, .inl ⟨rfl, rfl, rfl⟩⟩
theorem OwnE.keep {E : Ent} {s0 esz s' len : Nat} {v : AV} {H : AHp} {cs : List AV} (h : OwnE E s0 esz v H s' cs len) (hs : ∀ n, s0 ≤ n → E.H n = none) : ∀ n, E.H n ≠ none → H n = E.H n := fun n hn => h.2.2.1 n (Nat.lt_of_not_le fun e => hn (hs n e))
theorem OwnE.pub {E : Ent} {v : AV} {H : AHp} {s0 s' len : Nat} {L : List (Int × Int)} (h : OwnE E s0 2 v H s' (elsA L) len) (hs : ∀ n, s0 ≤ n → E.H n = none) (hL : L.length = len) (hn : len ≠ 0) : Pub H (fun n => E.H n ≠ none) (fun _ => none) v (.dsl len (elsA L)) := by
  obtain ⟨_, h1, h2, ⟨h3, _⟩ | ⟨nm, ver, h3, rfl, h4, h5, h6⟩⟩ := h
  · exact absurd h3 hn
  · refine Pub.sl h4 (by simpa using hs nm h6) (by simp) (by simp) (fun i a b ha hb => ?_)
    rw [List.drop_zero] at ha
    rw [ha] at hb
    cases hb
    have : ∀ {L : List (Int × Int)} {i : Nat} {a : AV}, (elsA L)[i]? = some a → ∃ x, a = .sc x := by
      intro L
      induction L with
      | nil => intro i a h; simp [elsA] at h
      | cons e L ih =>
        intro i a h
        rw [elsA_cons] at h
        match i with
        | 0 => simp at h; exact ⟨_, h.symm⟩
        | 1 => simp at h; exact ⟨_, h.symm⟩
        | i + 2 => exact ih (i := i) (by simpa using h)
    obtain ⟨x, rfl⟩ := this ha
    exact Pub.sc _

/-- a list without the element at an index -/
def woF (L : List (Int × Int)) (i : Int) : Nat → List (Int × Int)
  | 0 => []
  | j + 1 => if (j : Int) = i then woF L i j else woF L i j ++ (L.drop j).take 1
def woL (L : List (Int × Int)) (i : Int) : List (Int × Int) := woF L i L.length
theorem woF_len (L : List (Int × Int)) (i : Int) : ∀ j, (woF L i j).length ≤ j
  | 0 => Nat.le_refl _
  | j + 1 => by
    have := woF_len L i j
    unfold woF
    split
    · omega
    · simp only [List.length_append, List.length_take]; omega
/-- the index of an element, or -1 -/
def idxF (L : List (Int × Int)) (e : Int × Int) : Int := if e ∈ L then ((L.idxOf e : Nat) : Int) else -1

theorem cal29 : callable Try.prog 29 = true := by kernel_rfl
theorem cal30 : callable Try.prog 30 = true := by kernel_rfl
theorem cal31 : callable Try.prog 31 = true := by kernel_rfl

set_option maxRecDepth 100000 in
set_option maxHeartbeats 1000000 in
theorem elems_call (L M : List (Int × Int)) (hL : L.length ≤ 100000) (hM : M.length ≤ 100000) :
    ACall Try.prog 31 [.dsl L.length (elsA L), .dsl M.length (elsA M)] (.ret (.sc (.bool (decide (L = M))))) := by
  refine acall_pure' hmix (ct := noCT) noCT_ok Try.func31 rfl (by kernel_rfl) (fun E s hs => ?_)
  simp (maxSteps := 300000) only [begA, Try.ntmps31, List.replicate_succ, List.replicate_zero, List.length_cons, List.length_nil, List.cons_append, List.nil_append]
  by_cases hne : L.length = M.length
  · repeat (first
    | with_reducible refine q_seq ?_
    | with_reducible refine q_reg ?_
    | with_reducible refine q_nil ?_
    | with_reducible refine q_thenN ?_
    | ((with_reducible apply q_cons rfl); simp (disch := omega) only [go_sem]; exact rfl; simp only [List.set_cons_succ, List.set_cons_zero, putA]; exact rfl)
    | ((with_reducible apply q_consF); simp only [aWanted, List.getElem?_toArray, List.getElem?_cons_succ, List.getElem?_cons_zero, Option.bind_some, List.getD_cons_succ, List.getD_cons_zero]; exact rfl; simp only [List.set_cons_succ, List.set_cons_zero, putA]; exact rfl)
    | ((with_reducible apply q_consT); simp only [aWanted, List.getElem?_toArray, List.getElem?_cons_succ, List.getElem?_cons_zero, Option.bind_some, List.getD_cons_succ, List.getD_cons_zero]; exact rfl; simp (disch := omega) only [go_sem]; exact rfl; simp only [List.set_cons_succ, List.set_cons_zero, putA]; exact rfl)
    | with_reducible refine q_regD ?_
    | ((with_reducible apply l_cons rfl); simp (disch := omega) only [go_sem]; exact rfl; simp only [List.set_cons_succ, List.set_cons_zero, putA]; exact rfl; simp only [logT_none, logT_rd, logT_wr, List.cons_append, List.nil_append]; exact rfl)
    | ((with_reducible apply l_consF); simp only [aWanted, List.getElem?_toArray, List.getElem?_cons_succ, List.getElem?_cons_zero, Option.bind_some, List.getD_cons_succ, List.getD_cons_zero]; exact rfl; simp only [List.set_cons_succ, List.set_cons_zero, putA]; exact rfl)
    | ((with_reducible apply l_consT); simp only [aWanted, List.getElem?_toArray, List.getElem?_cons_succ, List.getElem?_cons_zero, Option.bind_some, List.getD_cons_succ, List.getD_cons_zero]; exact rfl; simp (disch := omega) only [go_sem]; exact rfl; simp only [List.set_cons_succ, List.set_cons_zero, putA]; exact rfl; simp only [logT_none, logT_rd, logT_wr, List.cons_append, List.nil_append]; exact rfl)
    | (with_reducible refine l_nil (by simp only [dyn_nil, dyn_cons, allY_nil, allY_cons, dj_rr, true_or, true_and]) ?_)
    | with_reducible refine q_block ?_
    | with_reducible refine q_skip ?_
    | with_reducible refine q_ret ?_
    | with_reducible refine q_exit ?_
    | with_reducible refine q_thenR ?_
    | with_reducible refine q_thenE ?_
    | with_reducible refine q_blkN ?_
    | with_reducible refine q_blkR ?_
    | with_reducible refine q_blkE ?_
    | ((with_reducible apply q_cond); simp only [evA, List.getD_cons_succ, List.getD_cons_zero]; exact rfl)
    | with_reducible refine q_bT ?_
    | with_reducible refine q_bF ?_
    | ((with_reducible apply q_bifF); (first | rfl | decide | assumption))
    | ((with_reducible apply q_bifT); (first | rfl | decide | assumption))
    | with_reducible refine q_loop ?_)
    refine AWp.loop [0, 1, 5] (fun Γ H s' m => ∃ j : Nat, j ≤ L.length ∧ m = L.length - j ∧ Γ = [.dsl L.length (elsA L), .dsl M.length (elsA M)] ++ (List.replicate 3 .junk) ++ [.sc (.int .i64 (j : Nat))] ++ (List.replicate 20 .junk) ∧ H = E.H ∧ ∀ i (h1 : i < j) (h2 : i < L.length) (h3 : i < M.length), L[i] = M[i]) L.length ?_ ?_
    · exact ⟨0, Nat.zero_le _, rfl, rfl, rfl, fun i h => absurd h (by omega)⟩
    rintro Γ H s1 m ⟨j, hj, rfl, rfl, rfl, hI⟩
    refine wA_ok hmix noCT_ok _ (by kernel_rfl) ?_
    simp (maxSteps := 1000000) only [List.replicate_succ, List.replicate_zero, List.cons_append, List.nil_append, List.append_nil]
    by_cases hlt : j < L.length
    · have hlt2 : j < M.length := by omega
      by_cases he : L[j] = M[j]
      · have he1 : L[j].1 = M[j].1 ∧ L[j].2 = M[j].2 := by rw [he]; exact ⟨rfl, rfl⟩
        repeat (first
    | with_reducible refine q_seq ?_
    | with_reducible refine q_reg ?_
    | with_reducible refine q_nil ?_
    | with_reducible refine q_thenN ?_
    | ((with_reducible apply q_cons rfl); simp (disch := omega) only [go_sem, elsA_len, elsA_drop, bin_neq43, he1.1, he1.2]; exact rfl; simp only [List.set_cons_succ, List.set_cons_zero, putA]; exact rfl)
    | ((with_reducible apply q_consF); simp only [aWanted, List.getElem?_toArray, List.getElem?_cons_succ, List.getElem?_cons_zero, Option.bind_some, List.getD_cons_succ, List.getD_cons_zero]; exact rfl; simp only [List.set_cons_succ, List.set_cons_zero, putA]; exact rfl)
    | ((with_reducible apply q_consT); simp only [aWanted, List.getElem?_toArray, List.getElem?_cons_succ, List.getElem?_cons_zero, Option.bind_some, List.getD_cons_succ, List.getD_cons_zero]; exact rfl; simp (disch := omega) only [go_sem, elsA_len, elsA_drop, bin_neq43, he1.1, he1.2]; exact rfl; simp only [List.set_cons_succ, List.set_cons_zero, putA]; exact rfl)
    | with_reducible refine q_regD ?_
    | ((with_reducible apply l_cons rfl); simp (disch := omega) only [go_sem, elsA_len, elsA_drop, bin_neq43, he1.1, he1.2]; exact rfl; simp only [List.set_cons_succ, List.set_cons_zero, putA]; exact rfl; simp only [logT_none, logT_rd, logT_wr, List.cons_append, List.nil_append]; exact rfl)
    | ((with_reducible apply l_consF); simp only [aWanted, List.getElem?_toArray, List.getElem?_cons_succ, List.getElem?_cons_zero, Option.bind_some, List.getD_cons_succ, List.getD_cons_zero]; exact rfl; simp only [List.set_cons_succ, List.set_cons_zero, putA]; exact rfl)
    | ((with_reducible apply l_consT); simp only [aWanted, List.getElem?_toArray, List.getElem?_cons_succ, List.getElem?_cons_zero, Option.bind_some, List.getD_cons_succ, List.getD_cons_zero]; exact rfl; simp (disch := omega) only [go_sem, elsA_len, elsA_drop, bin_neq43, he1.1, he1.2]; exact rfl; simp only [List.set_cons_succ, List.set_cons_zero, putA]; exact rfl; simp only [logT_none, logT_rd, logT_wr, List.cons_append, List.nil_append]; exact rfl)
    | (with_reducible refine l_nil (by simp only [dyn_nil, dyn_cons, allY_nil, allY_cons, dj_rr, true_or, true_and]) ?_)
    | with_reducible refine q_block ?_
    | with_reducible refine q_skip ?_
    | with_reducible refine q_ret ?_
    | with_reducible refine q_exit ?_
    | with_reducible refine q_thenR ?_
    | with_reducible refine q_thenE ?_
    | with_reducible refine q_blkN ?_
    | with_reducible refine q_blkR ?_
    | with_reducible refine q_blkE ?_
    | ((with_reducible apply q_cond); simp only [evA, List.getD_cons_succ, List.getD_cons_zero]; exact rfl)
    | with_reducible refine q_bT ?_
    | with_reducible refine q_bF ?_
    | ((with_reducible apply q_bifF); (first | rfl | decide | assumption))
    | ((with_reducible apply q_bifT); (first | rfl | decide | assumption))
    | with_reducible refine q_loop ?_)
        refine ⟨L.length - (j + 1), by omega, j + 1, by omega, rfl, rfl, rfl, fun i h1 h2 h3 => ?_⟩
        by_cases e : i = j
        · subst e; exact he
        · exact hI i (by omega) h2 h3
      · have he1 : ¬ (L[j].1 = M[j].1 ∧ L[j].2 = M[j].2) := fun h => he (Prod.ext h.1 h.2)
        repeat (first
    | with_reducible refine q_seq ?_
    | with_reducible refine q_reg ?_
    | with_reducible refine q_nil ?_
    | with_reducible refine q_thenN ?_
    | ((with_reducible apply q_cons rfl); simp (disch := omega) only [go_sem, elsA_len, elsA_drop, bin_neq43, he1]; exact rfl; simp only [List.set_cons_succ, List.set_cons_zero, putA]; exact rfl)
    | ((with_reducible apply q_consF); simp only [aWanted, List.getElem?_toArray, List.getElem?_cons_succ, List.getElem?_cons_zero, Option.bind_some, List.getD_cons_succ, List.getD_cons_zero]; exact rfl; simp only [List.set_cons_succ, List.set_cons_zero, putA]; exact rfl)
    | ((with_reducible apply q_consT); simp only [aWanted, List.getElem?_toArray, List.getElem?_cons_succ, List.getElem?_cons_zero, Option.bind_some, List.getD_cons_succ, List.getD_cons_zero]; exact rfl; simp (disch := omega) only [go_sem, elsA_len, elsA_drop, bin_neq43, he1]; exact rfl; simp only [List.set_cons_succ, List.set_cons_zero, putA]; exact rfl)
    | with_reducible refine q_regD ?_
    | ((with_reducible apply l_cons rfl); simp (disch := omega) only [go_sem, elsA_len, elsA_drop, bin_neq43, he1]; exact rfl; simp only [List.set_cons_succ, List.set_cons_zero, putA]; exact rfl; simp only [logT_none, logT_rd, logT_wr, List.cons_append, List.nil_append]; exact rfl)
    | ((with_reducible apply l_consF); simp only [aWanted, List.getElem?_toArray, List.getElem?_cons_succ, List.getElem?_cons_zero, Option.bind_some, List.getD_cons_succ, List.getD_cons_zero]; exact rfl; simp only [List.set_cons_succ, List.set_cons_zero, putA]; exact rfl)
    | ((with_reducible apply l_consT); simp only [aWanted, List.getElem?_toArray, List.getElem?_cons_succ, List.getElem?_cons_zero, Option.bind_some, List.getD_cons_succ, List.getD_cons_zero]; exact rfl; simp (disch := omega) only [go_sem, elsA_len, elsA_drop, bin_neq43, he1]; exact rfl; simp only [List.set_cons_succ, List.set_cons_zero, putA]; exact rfl; simp only [logT_none, logT_rd, logT_wr, List.cons_append, List.nil_append]; exact rfl)
    | (with_reducible refine l_nil (by simp only [dyn_nil, dyn_cons, allY_nil, allY_cons, dj_rr, true_or, true_and]) ?_)
    | with_reducible refine q_block ?_
    | with_reducible refine q_skip ?_
    | with_reducible refine q_ret ?_
    | with_reducible refine q_exit ?_
    | with_reducible refine q_thenR ?_
    | with_reducible refine q_thenE ?_
    | with_reducible refine q_blkN ?_
    | with_reducible refine q_blkR ?_
    | with_reducible refine q_blkE ?_
    | ((with_reducible apply q_cond); simp only [evA, List.getD_cons_succ, List.getD_cons_zero]; exact rfl)
    | with_reducible refine q_bT ?_
    | with_reducible refine q_bF ?_
    | ((with_reducible apply q_bifF); (first | rfl | decide | assumption))
    | ((with_reducible apply q_bifT); (first | rfl | decide | assumption))
    | with_reducible refine q_loop ?_)
        (apply q_end; simp only [aRes, Try.results31, List.toList_toArray, List.getD_cons_succ, List.getD_cons_zero]; exact rfl; simp only [packA]; exact rfl)
        have : decide (L = M) = false := by
          refine decide_eq_false fun e => he ?_
          subst e; rfl
        rw [this]
        exact ⟨fun _ _ => rfl, Pub.sc _⟩
    · repeat (first
    | with_reducible refine q_seq ?_
    | with_reducible refine q_reg ?_
    | with_reducible refine q_nil ?_
    | with_reducible refine q_thenN ?_
    | ((with_reducible apply q_cons rfl); simp (disch := omega) only [go_sem]; exact rfl; simp only [List.set_cons_succ, List.set_cons_zero, putA]; exact rfl)
    | ((with_reducible apply q_consF); simp only [aWanted, List.getElem?_toArray, List.getElem?_cons_succ, List.getElem?_cons_zero, Option.bind_some, List.getD_cons_succ, List.getD_cons_zero]; exact rfl; simp only [List.set_cons_succ, List.set_cons_zero, putA]; exact rfl)
    | ((with_reducible apply q_consT); simp only [aWanted, List.getElem?_toArray, List.getElem?_cons_succ, List.getElem?_cons_zero, Option.bind_some, List.getD_cons_succ, List.getD_cons_zero]; exact rfl; simp (disch := omega) only [go_sem]; exact rfl; simp only [List.set_cons_succ, List.set_cons_zero, putA]; exact rfl)
    | with_reducible refine q_regD ?_
    | ((with_reducible apply l_cons rfl); simp (disch := omega) only [go_sem]; exact rfl; simp only [List.set_cons_succ, List.set_cons_zero, putA]; exact rfl; simp only [logT_none, logT_rd, logT_wr, List.cons_append, List.nil_append]; exact rfl)
    | ((with_reducible apply l_consF); simp only [aWanted, List.getElem?_toArray, List.getElem?_cons_succ, List.getElem?_cons_zero, Option.bind_some, List.getD_cons_succ, List.getD_cons_zero]; exact rfl; simp only [List.set_cons_succ, List.set_cons_zero, putA]; exact rfl)
    | ((with_reducible apply l_consT); simp only [aWanted, List.getElem?_toArray, List.getElem?_cons_succ, List.getElem?_cons_zero, Option.bind_some, List.getD_cons_succ, List.getD_cons_zero]; exact rfl; simp (disch := omega) only [go_sem]; exact rfl; simp only [List.set_cons_succ, List.set_cons_zero, putA]; exact rfl; simp only [logT_none, logT_rd, logT_wr, List.cons_append, List.nil_append]; exact rfl)
    | (with_reducible refine l_nil (by simp only [dyn_nil, dyn_cons, allY_nil, allY_cons, dj_rr, true_or, true_and]) ?_)
    | with_reducible refine q_block ?_
    | with_reducible refine q_skip ?_
    | with_reducible refine q_ret ?_
    | with_reducible refine q_exit ?_
    | with_reducible refine q_thenR ?_
    | with_reducible refine q_thenE ?_
    | with_reducible refine q_blkN ?_
    | with_reducible refine q_blkR ?_
    | with_reducible refine q_blkE ?_
    | ((with_reducible apply q_cond); simp only [evA, List.getD_cons_succ, List.getD_cons_zero]; exact rfl)
    | with_reducible refine q_bT ?_
    | with_reducible refine q_bF ?_
    | ((with_reducible apply q_bifF); (first | rfl | decide | assumption))
    | ((with_reducible apply q_bifT); (first | rfl | decide | assumption))
    | with_reducible refine q_loop ?_)
      (apply q_end; simp only [aRes, Try.results31, List.toList_toArray, List.getD_cons_succ, List.getD_cons_zero]; exact rfl; simp only [packA]; exact rfl)
      have : decide (L = M) = true := decide_eq_true (List.ext_getElem hne (fun i h1 h2 => hI i (by omega) h1 h2))
      rw [this]
      exact ⟨fun _ _ => rfl, Pub.sc _⟩
  · repeat (first
    | with_reducible refine q_seq ?_
    | with_reducible refine q_reg ?_
    | with_reducible refine q_nil ?_
    | with_reducible refine q_thenN ?_
    | ((with_reducible apply q_cons rfl); simp (disch := omega) only [go_sem]; exact rfl; simp only [List.set_cons_succ, List.set_cons_zero, putA]; exact rfl)
    | ((with_reducible apply q_consF); simp only [aWanted, List.getElem?_toArray, List.getElem?_cons_succ, List.getElem?_cons_zero, Option.bind_some, List.getD_cons_succ, List.getD_cons_zero]; exact rfl; simp only [List.set_cons_succ, List.set_cons_zero, putA]; exact rfl)
    | ((with_reducible apply q_consT); simp only [aWanted, List.getElem?_toArray, List.getElem?_cons_succ, List.getElem?_cons_zero, Option.bind_some, List.getD_cons_succ, List.getD_cons_zero]; exact rfl; simp (disch := omega) only [go_sem]; exact rfl; simp only [List.set_cons_succ, List.set_cons_zero, putA]; exact rfl)
    | with_reducible refine q_regD ?_
    | ((with_reducible apply l_cons rfl); simp (disch := omega) only [go_sem]; exact rfl; simp only [List.set_cons_succ, List.set_cons_zero, putA]; exact rfl; simp only [logT_none, logT_rd, logT_wr, List.cons_append, List.nil_append]; exact rfl)
    | ((with_reducible apply l_consF); simp only [aWanted, List.getElem?_toArray, List.getElem?_cons_succ, List.getElem?_cons_zero, Option.bind_some, List.getD_cons_succ, List.getD_cons_zero]; exact rfl; simp only [List.set_cons_succ, List.set_cons_zero, putA]; exact rfl)
    | ((with_reducible apply l_consT); simp only [aWanted, List.getElem?_toArray, List.getElem?_cons_succ, List.getElem?_cons_zero, Option.bind_some, List.getD_cons_succ, List.getD_cons_zero]; exact rfl; simp (disch := omega) only [go_sem]; exact rfl; simp only [List.set_cons_succ, List.set_cons_zero, putA]; exact rfl; simp only [logT_none, logT_rd, logT_wr, List.cons_append, List.nil_append]; exact rfl)
    | (with_reducible refine l_nil (by simp only [dyn_nil, dyn_cons, allY_nil, allY_cons, dj_rr, true_or, true_and]) ?_)
    | with_reducible refine q_block ?_
    | with_reducible refine q_skip ?_
    | with_reducible refine q_ret ?_
    | with_reducible refine q_exit ?_
    | with_reducible refine q_thenR ?_
    | with_reducible refine q_thenE ?_
    | with_reducible refine q_blkN ?_
    | with_reducible refine q_blkR ?_
    | with_reducible refine q_blkE ?_
    | ((with_reducible apply q_cond); simp only [evA, List.getD_cons_succ, List.getD_cons_zero]; exact rfl)
    | with_reducible refine q_bT ?_
    | with_reducible refine q_bF ?_
    | ((with_reducible apply q_bifF); (first | rfl | decide | assumption))
    | ((with_reducible apply q_bifT); (first | rfl | decide | assumption))
    | with_reducible refine q_loop ?_)
    (apply q_end; simp only [aRes, Try.results31, List.toList_toArray, List.getD_cons_succ, List.getD_cons_zero]; exact rfl; simp only [packA]; exact rfl)
    have : decide (L = M) = false := decide_eq_false (fun e => hne (by rw [e]))
    rw [this]
    exact ⟨fun _ _ => rfl, Pub.sc _⟩

set_option maxRecDepth 100000 in
set_option maxHeartbeats 1000000 in
theorem index_call (L : List (Int × Int)) (e : Int × Int) (hL : L.length ≤ 100000) :
    ACall Try.prog 30 [.dsl L.length (elsA L), elG e] (.ret (.sc (.int .i64 (idxF L e)))) := by
  refine acall_pure' hmix (ct := noCT) noCT_ok Try.func30 rfl (by kernel_rfl) (fun E s hs => ?_)
  simp (maxSteps := 300000) only [begA, Try.ntmps30, List.replicate_succ, List.replicate_zero, List.length_cons, List.length_nil, List.cons_append, List.nil_append]
  repeat (first
    | with_reducible refine q_seq ?_
    | with_reducible refine q_reg ?_
    | with_reducible refine q_nil ?_
    | with_reducible refine q_thenN ?_
    | ((with_reducible apply q_cons rfl); simp (disch := omega) only [go_sem, hs]; exact rfl; simp only [List.set_cons_succ, List.set_cons_zero, putA]; exact rfl)
    | ((with_reducible apply q_consF); simp only [aWanted, List.getElem?_toArray, List.getElem?_cons_succ, List.getElem?_cons_zero, Option.bind_some, List.getD_cons_succ, List.getD_cons_zero]; exact rfl; simp only [List.set_cons_succ, List.set_cons_zero, putA]; exact rfl)
    | ((with_reducible apply q_consT); simp only [aWanted, List.getElem?_toArray, List.getElem?_cons_succ, List.getElem?_cons_zero, Option.bind_some, List.getD_cons_succ, List.getD_cons_zero]; exact rfl; simp (disch := omega) only [go_sem, hs]; exact rfl; simp only [List.set_cons_succ, List.set_cons_zero, putA]; exact rfl)
    | with_reducible refine q_regD ?_
    | ((with_reducible apply l_cons rfl); simp (disch := omega) only [go_sem, hs]; exact rfl; simp only [List.set_cons_succ, List.set_cons_zero, putA]; exact rfl; simp only [logT_none, logT_rd, logT_wr, List.cons_append, List.nil_append]; exact rfl)
    | ((with_reducible apply l_consF); simp only [aWanted, List.getElem?_toArray, List.getElem?_cons_succ, List.getElem?_cons_zero, Option.bind_some, List.getD_cons_succ, List.getD_cons_zero]; exact rfl; simp only [List.set_cons_succ, List.set_cons_zero, putA]; exact rfl)
    | ((with_reducible apply l_consT); simp only [aWanted, List.getElem?_toArray, List.getElem?_cons_succ, List.getElem?_cons_zero, Option.bind_some, List.getD_cons_succ, List.getD_cons_zero]; exact rfl; simp (disch := omega) only [go_sem, hs]; exact rfl; simp only [List.set_cons_succ, List.set_cons_zero, putA]; exact rfl; simp only [logT_none, logT_rd, logT_wr, List.cons_append, List.nil_append]; exact rfl)
    | (with_reducible refine l_nil (by simp only [dyn_nil, dyn_cons, allY_nil, allY_cons, dj_rr, true_or, true_and]) ?_)
    | with_reducible refine q_block ?_
    | with_reducible refine q_skip ?_
    | with_reducible refine q_ret ?_
    | with_reducible refine q_exit ?_
    | with_reducible refine q_thenR ?_
    | with_reducible refine q_thenE ?_
    | with_reducible refine q_blkN ?_
    | with_reducible refine q_blkR ?_
    | with_reducible refine q_blkE ?_
    | ((with_reducible apply q_cond); simp only [evA, List.getD_cons_succ, List.getD_cons_zero]; exact rfl)
    | with_reducible refine q_bT ?_
    | with_reducible refine q_bF ?_
    | ((with_reducible apply q_bifF); (first | rfl | decide | assumption))
    | ((with_reducible apply q_bifT); (first | rfl | decide | assumption))
    | with_reducible refine q_loop ?_)
  refine AWp.loop [0, 3, 5] (fun Γ H s' m => ∃ j : Nat, j ≤ L.length ∧ m = L.length - j ∧ Γ = [.dsl L.length (elsA L)] ++ (List.replicate 2 .junk) ++ [.ptr s 0 0, .junk, .sc (.int .i64 (j : Nat))] ++ (List.replicate 13 .junk) ∧ (H s = some (.row 0 1 (elA e)) ∧ ∀ q, E.H q ≠ none → H q = E.H q) ∧ e ∉ L.take j) L.length ?_ ?_
  · refine ⟨0, Nat.zero_le _, rfl, rfl, ⟨by rw [upd_same], fun q hq => ?_⟩, by simp⟩
    have : q < s := Nat.lt_of_not_le (fun h => hq (hs q h))
    exact upd_ne _ _ (by omega)
  rintro Γ H s1 m ⟨j, hj, rfl, rfl, ⟨hH, hE⟩, hI⟩
  refine wA_ok hmix noCT_ok _ (by kernel_rfl) ?_
  simp (maxSteps := 1000000) only [List.replicate_succ, List.replicate_zero, List.cons_append, List.nil_append, List.append_nil]
  by_cases hlt : j < L.length
  · by_cases he : L[j] = e
    · have he1 : L[j].1 = e.1 ∧ L[j].2 = e.2 := by rw [he]; exact ⟨rfl, rfl⟩
      repeat (first
    | with_reducible refine q_seq ?_
    | with_reducible refine q_reg ?_
    | with_reducible refine q_nil ?_
    | with_reducible refine q_thenN ?_
    | ((with_reducible apply q_cons rfl); simp (disch := omega) only [go_sem, elsA_len, elsA_drop, bin_eql43, hH, he1.1, he1.2]; exact rfl; simp only [List.set_cons_succ, List.set_cons_zero, putA]; exact rfl)
    | ((with_reducible apply q_consF); simp only [aWanted, List.getElem?_toArray, List.getElem?_cons_succ, List.getElem?_cons_zero, Option.bind_some, List.getD_cons_succ, List.getD_cons_zero]; exact rfl; simp only [List.set_cons_succ, List.set_cons_zero, putA]; exact rfl)
    | ((with_reducible apply q_consT); simp only [aWanted, List.getElem?_toArray, List.getElem?_cons_succ, List.getElem?_cons_zero, Option.bind_some, List.getD_cons_succ, List.getD_cons_zero]; exact rfl; simp (disch := omega) only [go_sem, elsA_len, elsA_drop, bin_eql43, hH, he1.1, he1.2]; exact rfl; simp only [List.set_cons_succ, List.set_cons_zero, putA]; exact rfl)
    | with_reducible refine q_regD ?_
    | ((with_reducible apply l_cons rfl); simp (disch := omega) only [go_sem, elsA_len, elsA_drop, bin_eql43, hH, he1.1, he1.2]; exact rfl; simp only [List.set_cons_succ, List.set_cons_zero, putA]; exact rfl; simp only [logT_none, logT_rd, logT_wr, List.cons_append, List.nil_append]; exact rfl)
    | ((with_reducible apply l_consF); simp only [aWanted, List.getElem?_toArray, List.getElem?_cons_succ, List.getElem?_cons_zero, Option.bind_some, List.getD_cons_succ, List.getD_cons_zero]; exact rfl; simp only [List.set_cons_succ, List.set_cons_zero, putA]; exact rfl)
    | ((with_reducible apply l_consT); simp only [aWanted, List.getElem?_toArray, List.getElem?_cons_succ, List.getElem?_cons_zero, Option.bind_some, List.getD_cons_succ, List.getD_cons_zero]; exact rfl; simp (disch := omega) only [go_sem, elsA_len, elsA_drop, bin_eql43, hH, he1.1, he1.2]; exact rfl; simp only [List.set_cons_succ, List.set_cons_zero, putA]; exact rfl; simp only [logT_none, logT_rd, logT_wr, List.cons_append, List.nil_append]; exact rfl)
    | (with_reducible refine l_nil (by simp only [dyn_nil, dyn_cons, allY_nil, allY_cons, dj_rr, true_or, true_and]) ?_)
    | with_reducible refine q_block ?_
    | with_reducible refine q_skip ?_
    | with_reducible refine q_ret ?_
    | with_reducible refine q_exit ?_
    | with_reducible refine q_thenR ?_
    | with_reducible refine q_thenE ?_
    | with_reducible refine q_blkN ?_
    | with_reducible refine q_blkR ?_
    | with_reducible refine q_blkE ?_
    | ((with_reducible apply q_cond); simp only [evA, List.getD_cons_succ, List.getD_cons_zero]; exact rfl)
    | with_reducible refine q_bT ?_
    | with_reducible refine q_bF ?_
    | ((with_reducible apply q_bifF); (first | rfl | decide | assumption))
    | ((with_reducible apply q_bifT); (first | rfl | decide | assumption))
    | with_reducible refine q_loop ?_)
      (apply q_end; simp only [aRes, Try.results30, List.toList_toArray, List.getD_cons_succ, List.getD_cons_zero]; exact rfl; simp only [packA]; exact rfl)
      have hmem : e ∈ L := by rw [← he]; exact List.getElem_mem _
      have : idxF L e = (j : Int) := by
        unfold idxF
        rw [if_pos hmem]
        have e1 : L.idxOf e = j := by
          conv => lhs; rw [← List.take_append_drop j L]
          rw [List.idxOf_append, if_neg hI, List.drop_eq_getElem_cons hlt, he]
          simp; omega
        rw [e1]
      rw [this]
      exact ⟨hE, Pub.sc _⟩
    · have he1 : ¬ (L[j].1 = e.1 ∧ L[j].2 = e.2) := fun h => he (Prod.ext h.1 h.2)
      repeat (first
    | with_reducible refine q_seq ?_
    | with_reducible refine q_reg ?_
    | with_reducible refine q_nil ?_
    | with_reducible refine q_thenN ?_
    | ((with_reducible apply q_cons rfl); simp (disch := omega) only [go_sem, elsA_len, elsA_drop, bin_eql43, hH, he1]; exact rfl; simp only [List.set_cons_succ, List.set_cons_zero, putA]; exact rfl)
    | ((with_reducible apply q_consF); simp only [aWanted, List.getElem?_toArray, List.getElem?_cons_succ, List.getElem?_cons_zero, Option.bind_some, List.getD_cons_succ, List.getD_cons_zero]; exact rfl; simp only [List.set_cons_succ, List.set_cons_zero, putA]; exact rfl)
    | ((with_reducible apply q_consT); simp only [aWanted, List.getElem?_toArray, List.getElem?_cons_succ, List.getElem?_cons_zero, Option.bind_some, List.getD_cons_succ, List.getD_cons_zero]; exact rfl; simp (disch := omega) only [go_sem, elsA_len, elsA_drop, bin_eql43, hH, he1]; exact rfl; simp only [List.set_cons_succ, List.set_cons_zero, putA]; exact rfl)
    | with_reducible refine q_regD ?_
    | ((with_reducible apply l_cons rfl); simp (disch := omega) only [go_sem, elsA_len, elsA_drop, bin_eql43, hH, he1]; exact rfl; simp only [List.set_cons_succ, List.set_cons_zero, putA]; exact rfl; simp only [logT_none, logT_rd, logT_wr, List.cons_append, List.nil_append]; exact rfl)
    | ((with_reducible apply l_consF); simp only [aWanted, List.getElem?_toArray, List.getElem?_cons_succ, List.getElem?_cons_zero, Option.bind_some, List.getD_cons_succ, List.getD_cons_zero]; exact rfl; simp only [List.set_cons_succ, List.set_cons_zero, putA]; exact rfl)
    | ((with_reducible apply l_consT); simp only [aWanted, List.getElem?_toArray, List.getElem?_cons_succ, List.getElem?_cons_zero, Option.bind_some, List.getD_cons_succ, List.getD_cons_zero]; exact rfl; simp (disch := omega) only [go_sem, elsA_len, elsA_drop, bin_eql43, hH, he1]; exact rfl; simp only [List.set_cons_succ, List.set_cons_zero, putA]; exact rfl; simp only [logT_none, logT_rd, logT_wr, List.cons_append, List.nil_append]; exact rfl)
    | (with_reducible refine l_nil (by simp only [dyn_nil, dyn_cons, allY_nil, allY_cons, dj_rr, true_or, true_and]) ?_)
    | with_reducible refine q_block ?_
    | with_reducible refine q_skip ?_
    | with_reducible refine q_ret ?_
    | with_reducible refine q_exit ?_
    | with_reducible refine q_thenR ?_
    | with_reducible refine q_thenE ?_
    | with_reducible refine q_blkN ?_
    | with_reducible refine q_blkR ?_
    | with_reducible refine q_blkE ?_
    | ((with_reducible apply q_cond); simp only [evA, List.getD_cons_succ, List.getD_cons_zero]; exact rfl)
    | with_reducible refine q_bT ?_
    | with_reducible refine q_bF ?_
    | ((with_reducible apply q_bifF); (first | rfl | decide | assumption))
    | ((with_reducible apply q_bifT); (first | rfl | decide | assumption))
    | with_reducible refine q_loop ?_)
      refine ⟨L.length - (j + 1), by omega, j + 1, by omega, rfl, rfl, ⟨hH, hE⟩, ?_⟩
      rw [List.take_succ_eq_append_getElem hlt, List.mem_append]
      rintro (h | h)
      · exact hI h
      · simp at h; exact he h.symm
  · repeat (first
    | with_reducible refine q_seq ?_
    | with_reducible refine q_reg ?_
    | with_reducible refine q_nil ?_
    | with_reducible refine q_thenN ?_
    | ((with_reducible apply q_cons rfl); simp (disch := omega) only [go_sem]; exact rfl; simp only [List.set_cons_succ, List.set_cons_zero, putA]; exact rfl)
    | ((with_reducible apply q_consF); simp only [aWanted, List.getElem?_toArray, List.getElem?_cons_succ, List.getElem?_cons_zero, Option.bind_some, List.getD_cons_succ, List.getD_cons_zero]; exact rfl; simp only [List.set_cons_succ, List.set_cons_zero, putA]; exact rfl)
    | ((with_reducible apply q_consT); simp only [aWanted, List.getElem?_toArray, List.getElem?_cons_succ, List.getElem?_cons_zero, Option.bind_some, List.getD_cons_succ, List.getD_cons_zero]; exact rfl; simp (disch := omega) only [go_sem]; exact rfl; simp only [List.set_cons_succ, List.set_cons_zero, putA]; exact rfl)
    | with_reducible refine q_regD ?_
    | ((with_reducible apply l_cons rfl); simp (disch := omega) only [go_sem]; exact rfl; simp only [List.set_cons_succ, List.set_cons_zero, putA]; exact rfl; simp only [logT_none, logT_rd, logT_wr, List.cons_append, List.nil_append]; exact rfl)
    | ((with_reducible apply l_consF); simp only [aWanted, List.getElem?_toArray, List.getElem?_cons_succ, List.getElem?_cons_zero, Option.bind_some, List.getD_cons_succ, List.getD_cons_zero]; exact rfl; simp only [List.set_cons_succ, List.set_cons_zero, putA]; exact rfl)
    | ((with_reducible apply l_consT); simp only [aWanted, List.getElem?_toArray, List.getElem?_cons_succ, List.getElem?_cons_zero, Option.bind_some, List.getD_cons_succ, List.getD_cons_zero]; exact rfl; simp (disch := omega) only [go_sem]; exact rfl; simp only [List.set_cons_succ, List.set_cons_zero, putA]; exact rfl; simp only [logT_none, logT_rd, logT_wr, List.cons_append, List.nil_append]; exact rfl)
    | (with_reducible refine l_nil (by simp only [dyn_nil, dyn_cons, allY_nil, allY_cons, dj_rr, true_or, true_and]) ?_)
    | with_reducible refine q_block ?_
    | with_reducible refine q_skip ?_
    | with_reducible refine q_ret ?_
    | with_reducible refine q_exit ?_
    | with_reducible refine q_thenR ?_
    | with_reducible refine q_thenE ?_
    | with_reducible refine q_blkN ?_
    | with_reducible refine q_blkR ?_
    | with_reducible refine q_blkE ?_
    | ((with_reducible apply q_cond); simp only [evA, List.getD_cons_succ, List.getD_cons_zero]; exact rfl)
    | with_reducible refine q_bT ?_
    | with_reducible refine q_bF ?_
    | ((with_reducible apply q_bifF); (first | rfl | decide | assumption))
    | ((with_reducible apply q_bifT); (first | rfl | decide | assumption))
    | with_reducible refine q_loop ?_)
    (apply q_end; simp only [aRes, Try.results30, List.toList_toArray, List.getD_cons_succ, List.getD_cons_zero]; exact rfl; simp only [packA]; exact rfl)
    have : idxF L e = -1 := by
      unfold idxF
      rw [List.take_of_length_le (by omega)] at hI
      rw [if_neg hI]
    rw [this]
    exact ⟨hE, Pub.sc _⟩

theorem woF_at (L : List (Int × Int)) {i : Int} {j : Nat} (h : (j : Int) = i) : woF L i (j + 1) = woF L i j := by
  show (if (j : Int) = i then woF L i j else _) = _
  rw [if_pos h]
theorem woF_ne (L : List (Int × Int)) {i : Int} {j : Nat} (h : ¬ (j : Int) = i) (hj : j < L.length) : woF L i (j + 1) = woF L i j ++ [L[j]] := by
  show (if (j : Int) = i then woF L i j else _) = _
  rw [if_neg h, List.drop_eq_getElem_cons hj]
  rfl
set_option maxRecDepth 100000 in
set_option maxHeartbeats 1000000 in
theorem without_walk (L : List (Int × Int)) (i : Int) (hL : L.length ≤ 100000) (E : Ent) (s : Nat) (hs : ∀ n, s ≤ n → E.H n = none) (R : AV → AHp → Prop)
    (hR : ∀ v H s', OwnE E s 2 v H s' (elsA (woL L i)) (woL L i).length → R v H) :
    wA Try.prog E noCT Try.f29.body.get! (begA Try.f29 [.dsl L.length (elsA L), .sc (.int .i64 i)]) E.H s (EndA Try.prog Try.f29 R) := by
  simp (maxSteps := 300000) only [begA, Try.ntmps29, List.replicate_succ, List.replicate_zero, List.length_cons, List.length_nil, List.cons_append, List.nil_append]
  simp only [Try.f29, Option.get!_some]
  repeat (first
    | with_reducible refine q_seq ?_
    | with_reducible refine q_reg ?_
    | with_reducible refine q_nil ?_
    | with_reducible refine q_thenN ?_
    | ((with_reducible apply q_cons rfl); simp (disch := omega) only [go_sem]; exact rfl; simp only [List.set_cons_succ, List.set_cons_zero, putA]; exact rfl)
    | ((with_reducible apply q_consF); simp only [aWanted, List.getElem?_toArray, List.getElem?_cons_succ, List.getElem?_cons_zero, Option.bind_some, List.getD_cons_succ, List.getD_cons_zero]; exact rfl; simp only [List.set_cons_succ, List.set_cons_zero, putA]; exact rfl)
    | ((with_reducible apply q_consT); simp only [aWanted, List.getElem?_toArray, List.getElem?_cons_succ, List.getElem?_cons_zero, Option.bind_some, List.getD_cons_succ, List.getD_cons_zero]; exact rfl; simp (disch := omega) only [go_sem]; exact rfl; simp only [List.set_cons_succ, List.set_cons_zero, putA]; exact rfl)
    | with_reducible refine q_regD ?_
    | ((with_reducible apply l_cons rfl); simp (disch := omega) only [go_sem]; exact rfl; simp only [List.set_cons_succ, List.set_cons_zero, putA]; exact rfl; simp only [logT_none, logT_rd, logT_wr, List.cons_append, List.nil_append]; exact rfl)
    | ((with_reducible apply l_consF); simp only [aWanted, List.getElem?_toArray, List.getElem?_cons_succ, List.getElem?_cons_zero, Option.bind_some, List.getD_cons_succ, List.getD_cons_zero]; exact rfl; simp only [List.set_cons_succ, List.set_cons_zero, putA]; exact rfl)
    | ((with_reducible apply l_consT); simp only [aWanted, List.getElem?_toArray, List.getElem?_cons_succ, List.getElem?_cons_zero, Option.bind_some, List.getD_cons_succ, List.getD_cons_zero]; exact rfl; simp (disch := omega) only [go_sem]; exact rfl; simp only [List.set_cons_succ, List.set_cons_zero, putA]; exact rfl; simp only [logT_none, logT_rd, logT_wr, List.cons_append, List.nil_append]; exact rfl)
    | (with_reducible refine l_nil (by simp only [dyn_nil, dyn_cons, allY_nil, allY_cons, dj_rr, true_or, true_and]) ?_)
    | with_reducible refine q_block ?_
    | with_reducible refine q_skip ?_
    | with_reducible refine q_ret ?_
    | with_reducible refine q_exit ?_
    | with_reducible refine q_thenR ?_
    | with_reducible refine q_thenE ?_
    | with_reducible refine q_blkN ?_
    | with_reducible refine q_blkR ?_
    | with_reducible refine q_blkE ?_
    | ((with_reducible apply q_cond); simp only [evA, List.getD_cons_succ, List.getD_cons_zero]; exact rfl)
    | with_reducible refine q_bT ?_
    | with_reducible refine q_bF ?_
    | ((with_reducible apply q_bifF); (first | rfl | decide | assumption))
    | ((with_reducible apply q_bifT); (first | rfl | decide | assumption))
    | with_reducible refine q_loop ?_)
  refine AWp.loop [0, 1, 5, 6] (fun Γ H s' m => ∃ (j : Nat) (v : AV), j ≤ L.length ∧ m = L.length - j ∧ Γ = [.dsl L.length (elsA L), .sc (.int .i64 i)] ++ (List.replicate 3 .junk) ++ [v, .sc (.int .i64 (j : Nat))] ++ (List.replicate 17 .junk) ∧ OwnE E s 2 v H s' (elsA (woF L i j)) (woF L i j).length) L.length ?_ ?_
  · exact ⟨0, _, Nat.zero_le _, rfl, rfl, OwnE.start hs⟩
  rintro Γ H s1 m ⟨j, v, hj, rfl, rfl, hO⟩
  refine wA_ok hmix noCT_ok _ (by kernel_rfl) ?_
  simp (maxSteps := 1000000) only [List.replicate_succ, List.replicate_zero, List.cons_append, List.nil_append, List.append_nil]
  by_cases hlt : j < L.length
  · by_cases hji : (j : Int) = i
    · repeat (first
    | with_reducible refine q_seq ?_
    | with_reducible refine q_reg ?_
    | with_reducible refine q_nil ?_
    | with_reducible refine q_thenN ?_
    | ((with_reducible apply q_cons rfl); simp (disch := omega) only [go_sem]; exact rfl; simp only [List.set_cons_succ, List.set_cons_zero, putA]; exact rfl)
    | ((with_reducible apply q_consF); simp only [aWanted, List.getElem?_toArray, List.getElem?_cons_succ, List.getElem?_cons_zero, Option.bind_some, List.getD_cons_succ, List.getD_cons_zero]; exact rfl; simp only [List.set_cons_succ, List.set_cons_zero, putA]; exact rfl)
    | ((with_reducible apply q_consT); simp only [aWanted, List.getElem?_toArray, List.getElem?_cons_succ, List.getElem?_cons_zero, Option.bind_some, List.getD_cons_succ, List.getD_cons_zero]; exact rfl; simp (disch := omega) only [go_sem]; exact rfl; simp only [List.set_cons_succ, List.set_cons_zero, putA]; exact rfl)
    | with_reducible refine q_regD ?_
    | ((with_reducible apply l_cons rfl); simp (disch := omega) only [go_sem]; exact rfl; simp only [List.set_cons_succ, List.set_cons_zero, putA]; exact rfl; simp only [logT_none, logT_rd, logT_wr, List.cons_append, List.nil_append]; exact rfl)
    | ((with_reducible apply l_consF); simp only [aWanted, List.getElem?_toArray, List.getElem?_cons_succ, List.getElem?_cons_zero, Option.bind_some, List.getD_cons_succ, List.getD_cons_zero]; exact rfl; simp only [List.set_cons_succ, List.set_cons_zero, putA]; exact rfl)
    | ((with_reducible apply l_consT); simp only [aWanted, List.getElem?_toArray, List.getElem?_cons_succ, List.getElem?_cons_zero, Option.bind_some, List.getD_cons_succ, List.getD_cons_zero]; exact rfl; simp (disch := omega) only [go_sem]; exact rfl; simp only [List.set_cons_succ, List.set_cons_zero, putA]; exact rfl; simp only [logT_none, logT_rd, logT_wr, List.cons_append, List.nil_append]; exact rfl)
    | (with_reducible refine l_nil (by simp only [dyn_nil, dyn_cons, allY_nil, allY_cons, dj_rr, true_or, true_and]) ?_)
    | with_reducible refine q_block ?_
    | with_reducible refine q_skip ?_
    | with_reducible refine q_ret ?_
    | with_reducible refine q_exit ?_
    | with_reducible refine q_thenR ?_
    | with_reducible refine q_thenE ?_
    | with_reducible refine q_blkN ?_
    | with_reducible refine q_blkR ?_
    | with_reducible refine q_blkE ?_
    | ((with_reducible apply q_cond); simp only [evA, List.getD_cons_succ, List.getD_cons_zero]; exact rfl)
    | with_reducible refine q_bT ?_
    | with_reducible refine q_bF ?_
    | ((with_reducible apply q_bifF); (first | rfl | decide | assumption))
    | ((with_reducible apply q_bifT); (first | rfl | decide | assumption))
    | with_reducible refine q_loop ?_)
      refine ⟨L.length - (j + 1), by omega, j + 1, _, by omega, rfl, rfl, ?_⟩
      rw [woF_at L hji]; exact hO
    · have hwl := woF_len L i j
      obtain ⟨hss, hf, hE, ⟨h0, hcs, rfl⟩ | ⟨nm, ver, h0, rfl, hH, hlt2, hEn⟩⟩ := hO
      · repeat (first
    | with_reducible refine q_seq ?_
    | with_reducible refine q_reg ?_
    | with_reducible refine q_nil ?_
    | with_reducible refine q_thenN ?_
    | ((with_reducible apply q_cons rfl); simp (disch := omega) only [go_sem, elsA_len, elsA_drop, hf, upd_ne]; exact rfl; simp only [List.set_cons_succ, List.set_cons_zero, putA]; exact rfl)
    | ((with_reducible apply q_consF); simp only [aWanted, List.getElem?_toArray, List.getElem?_cons_succ, List.getElem?_cons_zero, Option.bind_some, List.getD_cons_succ, List.getD_cons_zero]; exact rfl; simp only [List.set_cons_succ, List.set_cons_zero, putA]; exact rfl)
    | ((with_reducible apply q_consT); simp only [aWanted, List.getElem?_toArray, List.getElem?_cons_succ, List.getElem?_cons_zero, Option.bind_some, List.getD_cons_succ, List.getD_cons_zero]; exact rfl; simp (disch := omega) only [go_sem, elsA_len, elsA_drop, hf, upd_ne]; exact rfl; simp only [List.set_cons_succ, List.set_cons_zero, putA]; exact rfl)
    | with_reducible refine q_regD ?_
    | ((with_reducible apply l_cons rfl); simp (disch := omega) only [go_sem, elsA_len, elsA_drop, hf, upd_ne]; exact rfl; simp only [List.set_cons_succ, List.set_cons_zero, putA]; exact rfl; simp only [logT_none, logT_rd, logT_wr, List.cons_append, List.nil_append]; exact rfl)
    | ((with_reducible apply l_consF); simp only [aWanted, List.getElem?_toArray, List.getElem?_cons_succ, List.getElem?_cons_zero, Option.bind_some, List.getD_cons_succ, List.getD_cons_zero]; exact rfl; simp only [List.set_cons_succ, List.set_cons_zero, putA]; exact rfl)
    | ((with_reducible apply l_consT); simp only [aWanted, List.getElem?_toArray, List.getElem?_cons_succ, List.getElem?_cons_zero, Option.bind_some, List.getD_cons_succ, List.getD_cons_zero]; exact rfl; simp (disch := omega) only [go_sem, elsA_len, elsA_drop, hf, upd_ne]; exact rfl; simp only [List.set_cons_succ, List.set_cons_zero, putA]; exact rfl; simp only [logT_none, logT_rd, logT_wr, List.cons_append, List.nil_append]; exact rfl)
    | (with_reducible refine l_nil (by simp only [dyn_nil, dyn_cons, allY_nil, allY_cons, dj_rr, true_or, true_and]) ?_)
    | with_reducible refine q_block ?_
    | with_reducible refine q_skip ?_
    | with_reducible refine q_ret ?_
    | with_reducible refine q_exit ?_
    | with_reducible refine q_thenR ?_
    | with_reducible refine q_thenE ?_
    | with_reducible refine q_blkN ?_
    | with_reducible refine q_blkR ?_
    | with_reducible refine q_blkE ?_
    | ((with_reducible apply q_cond); simp only [evA, List.getD_cons_succ, List.getD_cons_zero]; exact rfl)
    | with_reducible refine q_bT ?_
    | with_reducible refine q_bF ?_
    | ((with_reducible apply q_bifF); (first | rfl | decide | assumption))
    | ((with_reducible apply q_bifT); (first | rfl | decide | assumption))
    | with_reducible refine q_loop ?_)
        refine ⟨L.length - (j + 1), by omega, j + 1, _, by omega, rfl, rfl, ?_⟩
        rw [woF_ne L hji hlt, List.length_eq_zero_iff.1 h0]
        refine ⟨by omega, fun q hq => ?_, fun q hq => ?_, .inr ⟨_, _, by simp, rfl, upd_same _ _ _, by omega, by omega⟩⟩
        · rw [upd_ne _ _ (by omega), upd_ne _ _ (by omega)]; exact hf q (by omega)
        · rw [upd_ne _ _ (by omega), upd_ne _ _ (by omega)]; exact hE q hq
      · have hap := elsA_append (woF L i j) [L[j]]
        repeat (first
    | with_reducible refine q_seq ?_
    | with_reducible refine q_reg ?_
    | with_reducible refine q_nil ?_
    | with_reducible refine q_thenN ?_
    | ((with_reducible apply q_cons rfl); simp (disch := omega) only [go_sem, elsA_len, elsA_drop, hf, hH, upd_ne, elsA_take]; exact rfl; simp only [List.set_cons_succ, List.set_cons_zero, putA]; exact rfl)
    | ((with_reducible apply q_consF); simp only [aWanted, List.getElem?_toArray, List.getElem?_cons_succ, List.getElem?_cons_zero, Option.bind_some, List.getD_cons_succ, List.getD_cons_zero]; exact rfl; simp only [List.set_cons_succ, List.set_cons_zero, putA]; exact rfl)
    | ((with_reducible apply q_consT); simp only [aWanted, List.getElem?_toArray, List.getElem?_cons_succ, List.getElem?_cons_zero, Option.bind_some, List.getD_cons_succ, List.getD_cons_zero]; exact rfl; simp (disch := omega) only [go_sem, elsA_len, elsA_drop, hf, hH, upd_ne, elsA_take]; exact rfl; simp only [List.set_cons_succ, List.set_cons_zero, putA]; exact rfl)
    | with_reducible refine q_regD ?_
    | ((with_reducible apply l_cons rfl); simp (disch := omega) only [go_sem, elsA_len, elsA_drop, hf, hH, upd_ne, elsA_take]; exact rfl; simp only [List.set_cons_succ, List.set_cons_zero, putA]; exact rfl; simp only [logT_none, logT_rd, logT_wr, List.cons_append, List.nil_append]; exact rfl)
    | ((with_reducible apply l_consF); simp only [aWanted, List.getElem?_toArray, List.getElem?_cons_succ, List.getElem?_cons_zero, Option.bind_some, List.getD_cons_succ, List.getD_cons_zero]; exact rfl; simp only [List.set_cons_succ, List.set_cons_zero, putA]; exact rfl)
    | ((with_reducible apply l_consT); simp only [aWanted, List.getElem?_toArray, List.getElem?_cons_succ, List.getElem?_cons_zero, Option.bind_some, List.getD_cons_succ, List.getD_cons_zero]; exact rfl; simp (disch := omega) only [go_sem, elsA_len, elsA_drop, hf, hH, upd_ne, elsA_take]; exact rfl; simp only [List.set_cons_succ, List.set_cons_zero, putA]; exact rfl; simp only [logT_none, logT_rd, logT_wr, List.cons_append, List.nil_append]; exact rfl)
    | (with_reducible refine l_nil (by simp only [dyn_nil, dyn_cons, allY_nil, allY_cons, dj_rr, true_or, true_and]) ?_)
    | with_reducible refine q_block ?_
    | with_reducible refine q_skip ?_
    | with_reducible refine q_ret ?_
    | with_reducible refine q_exit ?_
    | with_reducible refine q_thenR ?_
    | with_reducible refine q_thenE ?_
    | with_reducible refine q_blkN ?_
    | with_reducible refine q_blkR ?_
    | with_reducible refine q_blkE ?_
    | ((with_reducible apply q_cond); simp only [evA, List.getD_cons_succ, List.getD_cons_zero]; exact rfl)
    | with_reducible refine q_bT ?_
    | with_reducible refine q_bF ?_
    | ((with_reducible apply q_bifF); (first | rfl | decide | assumption))
    | ((with_reducible apply q_bifT); (first | rfl | decide | assumption))
    | with_reducible refine q_loop ?_)
        refine ⟨L.length - (j + 1), by omega, j + 1, _, by omega, rfl, rfl, ?_⟩
        rw [woF_ne L hji hlt]
        refine ⟨by omega, fun q hq => ?_, fun q hq => ?_, .inr ⟨nm, ver + 1, by simp, by rw [List.length_append]; rfl, by rw [upd_same, hap]; rfl, by omega, hEn⟩⟩
        · rw [upd_ne _ _ (by omega), upd_ne _ _ (by omega)]; exact hf q (by omega)
        · rw [upd_ne _ _ (by omega), upd_ne _ _ (by omega)]; exact hE q hq
  · obtain rfl : j = L.length := by omega
    repeat (first
    | with_reducible refine q_seq ?_
    | with_reducible refine q_reg ?_
    | with_reducible refine q_nil ?_
    | with_reducible refine q_thenN ?_
    | ((with_reducible apply q_cons rfl); simp (disch := omega) only [go_sem]; exact rfl; simp only [List.set_cons_succ, List.set_cons_zero, putA]; exact rfl)
    | ((with_reducible apply q_consF); simp only [aWanted, List.getElem?_toArray, List.getElem?_cons_succ, List.getElem?_cons_zero, Option.bind_some, List.getD_cons_succ, List.getD_cons_zero]; exact rfl; simp only [List.set_cons_succ, List.set_cons_zero, putA]; exact rfl)
    | ((with_reducible apply q_consT); simp only [aWanted, List.getElem?_toArray, List.getElem?_cons_succ, List.getElem?_cons_zero, Option.bind_some, List.getD_cons_succ, List.getD_cons_zero]; exact rfl; simp (disch := omega) only [go_sem]; exact rfl; simp only [List.set_cons_succ, List.set_cons_zero, putA]; exact rfl)
    | with_reducible refine q_regD ?_
    | ((with_reducible apply l_cons rfl); simp (disch := omega) only [go_sem]; exact rfl; simp only [List.set_cons_succ, List.set_cons_zero, putA]; exact rfl; simp only [logT_none, logT_rd, logT_wr, List.cons_append, List.nil_append]; exact rfl)
    | ((with_reducible apply l_consF); simp only [aWanted, List.getElem?_toArray, List.getElem?_cons_succ, List.getElem?_cons_zero, Option.bind_some, List.getD_cons_succ, List.getD_cons_zero]; exact rfl; simp only [List.set_cons_succ, List.set_cons_zero, putA]; exact rfl)
    | ((with_reducible apply l_consT); simp only [aWanted, List.getElem?_toArray, List.getElem?_cons_succ, List.getElem?_cons_zero, Option.bind_some, List.getD_cons_succ, List.getD_cons_zero]; exact rfl; simp (disch := omega) only [go_sem]; exact rfl; simp only [List.set_cons_succ, List.set_cons_zero, putA]; exact rfl; simp only [logT_none, logT_rd, logT_wr, List.cons_append, List.nil_append]; exact rfl)
    | (with_reducible refine l_nil (by simp only [dyn_nil, dyn_cons, allY_nil, allY_cons, dj_rr, true_or, true_and]) ?_)
    | with_reducible refine q_block ?_
    | with_reducible refine q_skip ?_
    | with_reducible refine q_ret ?_
    | with_reducible refine q_exit ?_
    | with_reducible refine q_thenR ?_
    | with_reducible refine q_thenE ?_
    | with_reducible refine q_blkN ?_
    | with_reducible refine q_blkR ?_
    | with_reducible refine q_blkE ?_
    | ((with_reducible apply q_cond); simp only [evA, List.getD_cons_succ, List.getD_cons_zero]; exact rfl)
    | with_reducible refine q_bT ?_
    | with_reducible refine q_bF ?_
    | ((with_reducible apply q_bifF); (first | rfl | decide | assumption))
    | ((with_reducible apply q_bifT); (first | rfl | decide | assumption))
    | with_reducible refine q_loop ?_)
    (apply q_end; simp only [aRes, Try.results29, List.toList_toArray, List.getD_cons_succ, List.getD_cons_zero]; exact rfl; simp only [packA]; exact rfl)
    exact hR _ _ _ hO
theorem without_call (L : List (Int × Int)) (i : Int) (hL : L.length ≤ 100000) : ACall Try.prog 29 [.dsl L.length (elsA L), .sc (.int .i64 i)] (.ret (.dsl (woL L i).length (elsA (woL L i)))) := by
  refine acall_pureW hmix (ct := noCT) noCT_ok Try.func29 rfl (by kernel_rfl) (fun E s hs => ?_)
  refine without_walk L i hL E s hs _ (fun v H s' hO => ?_)
  by_cases h0 : (woL L i).length = 0
  · have hk := hO.keep hs
    obtain ⟨_, _, hE, ⟨_, _, rfl⟩ | ⟨_, _, h3, _⟩⟩ := hO
    · rw [List.length_eq_zero_iff.1 h0]
      exact ⟨_, Wk.nil, hk, Pub.sc _⟩
    · omega
  · exact ⟨_, Wk.rfl', hO.keep hs, hO.pub hs rfl h0⟩

/-- without, as a row of the caller's own -/
theorem without_own (L : List (Int × Int)) (i : Int) (hL : L.length ≤ 100000) (h0 : (woL L i).length ≠ 0) : ACall Try.prog 29 [.dsl L.length (elsA L), .sc (.int .i64 i)] (.new (.row 0 2 (elsA (woL L i))) fun n => .ret (.sl n 0 0 (woL L i).length)) := by
  refine acall_row (fun a ha => ?_) hmix (ct := noCT) noCT_ok Try.func29 rfl (by kernel_rfl) (fun E s hs => without_walk L i hL E s hs _ (fun v H s' hO => ⟨hO.keep hs, ?_⟩))
  · obtain ⟨j, _, e⟩ := List.mem_iff_getElem.1 ha
    have : ∀ {L : List (Int × Int)} {a : AV}, a ∈ elsA L → ∃ v, a = .sc v := by
      intro L
      induction L with
      | nil => intro a h; simp [elsA] at h
      | cons e L ih =>
        intro a h
        rw [elsA_cons] at h
        rcases List.mem_cons.1 h with rfl | h
        · exact ⟨_, rfl⟩
        · rcases List.mem_cons.1 h with rfl | h
          · exact ⟨_, rfl⟩
          · exact ih h
    exact this ha
  · obtain ⟨_, _, _, ⟨h3, _⟩ | ⟨nm, ver, _, rfl, h4, h5, h6⟩⟩ := hO
    · exact absurd h3 h0
    · exact ⟨nm, ver, rfl, h4, h6⟩
theorem without_own0 (L : List (Int × Int)) (i : Int) (hL : L.length ≤ 100000) (h0 : (woL L i).length = 0) : ACall Try.prog 29 [.dsl L.length (elsA L), .sc (.int .i64 i)] (.ret (.sc (.slice none 0 0))) := by
  refine acall_pure' hmix (ct := noCT) noCT_ok Try.func29 rfl (by kernel_rfl) (fun E s hs => without_walk L i hL E s hs _ (fun v H s' hO => ⟨hO.keep hs, ?_⟩))
  obtain ⟨_, _, _, ⟨_, _, rfl⟩ | ⟨_, _, h3, _⟩⟩ := hO
  · exact Pub.sc _
  · omega
def elsOf : List AV → Option (List (Int × Int))
  | [] => some []
  | .sc (.int .i64 x) :: .sc (.int .i64 y) :: t => (elsOf t).map ((x, y) :: ·)
  | _ => none
theorem elsOf_elsA : ∀ (L : List (Int × Int)), elsOf (elsA L) = some L
  | [] => rfl
  | e :: L => by rw [elsA_cons, elsOf, elsOf_elsA L]; rfl
theorem elsOf_some : ∀ {cs : List AV} {L : List (Int × Int)}, elsOf cs = some L → cs = elsA L
  | [], L, h => by cases h; rfl
  | [a], L, h => by unfold elsOf at h; split at h <;> simp_all
  | a :: b :: t, L, h => by
    unfold elsOf at h
    split at h
    · rename_i e; cases e
    · rename_i x y t' e
      cases e
      cases hk : elsOf t with
      | none => rw [hk] at h; cases h
      | some m => rw [hk] at h; cases h; rw [elsOf_some hk]; rfl
    · cases h
/-- a list of elements that is read -/
def rdE (a : AV) (k : List (Int × Int) → AP AV) : AP AV := match a with
  | .dsl len cells => match elsOf cells with
    | some L => if L.length = len then k L else .fail
    | none => .fail
  | .sc (.slice none 0 0) => k []
  | _ => .fail
theorem rdE_dsl (L : List (Int × Int)) (k : List (Int × Int) → AP AV) : rdE (.dsl L.length (elsA L)) k = k L := by
  unfold rdE; simp only [elsOf_elsA, if_true]
theorem rdE_nil (k : List (Int × Int) → AP AV) : rdE (.sc (.slice none 0 0)) k = k [] := rfl
section
variable {ρ : Inj} {H H' : AHp} {w w' : World}
theorem rdE_ok {a r : AV} {v : Value} {k : List (Int × Int) → AP AV} {s s' : Nat} {O : Nat → Prop} (hr : Rep ρ O w a v) (hm : (rdE a k).run H s = some (r, H', s')) :
    ∃ L, Rep ρ O w (.dsl L.length (elsA L)) v ∧ (k L).run H s = some (r, H', s') := by
  unfold rdE at hm
  split at hm
  · rename_i len cells
    split at hm
    · rename_i L hL
      split at hm
      · rename_i e
        subst e
        rw [elsOf_some hL] at hr
        exact ⟨L, hr, hm⟩
      · simp [AP.run] at hm
    · simp [AP.run] at hm
  · exact ⟨[], Wk.nil _ _ _ _ hr, hm⟩
  · simp [AP.run] at hm
end
theorem elsA_sc : ∀ {L : List (Int × Int)} {a : AV}, a ∈ elsA L → ∃ v, a = .sc v
  | [], a, h => by simp [elsA] at h
  | e :: L, a, h => by
    rw [elsA_cons] at h
    rcases List.mem_cons.1 h with rfl | h
    · exact ⟨_, rfl⟩
    · rcases List.mem_cons.1 h with rfl | h
      · exact ⟨_, rfl⟩
      · exact elsA_sc h
theorem elsA_inS {K : Nat → Prop} (n : Nat) (L : List (Int × Int)) : (AV.dsl n (elsA L)).inS K := inSL_iff.2 fun a ha => by obtain ⟨v, rfl⟩ := elsA_sc ha; trivial
theorem elsA_put {L : List (Int × Int)} {k : Nat} (x y : Int) (h : k < L.length) : putCells (elsA L) (k * 2) [.sc (.int .i64 x), .sc (.int .i64 y)] = elsA (L.set k (x, y)) := by
  show (elsA L).take (k * 2) ++ [.sc (.int .i64 x), .sc (.int .i64 y)] ++ (elsA L).drop (k * 2 + 2) = _
  induction L generalizing k with
  | nil => simp at h
  | cons e L ih =>
    cases k with
    | zero => simp [elsA_cons]
    | succ k =>
      rw [List.set_cons_succ, elsA_cons, elsA_cons, ← ih (k := k) (by simpa using h), show (k + 1) * 2 = k * 2 + 1 + 1 by omega]
      simp
theorem elsA_set1 {L : List (Int × Int)} {k : Nat} (y : Int) (h : k < L.length) : (elsA L).set (k * 2 + 1) (.sc (.int .i64 y)) = elsA (L.set k (L[k].1, y)) := by
  induction L generalizing k with
  | nil => simp at h
  | cons e L ih =>
    cases k with
    | zero => simp [elsA_cons]
    | succ k =>
      rw [List.set_cons_succ, elsA_cons, elsA_cons, show (k + 1) * 2 + 1 = (k * 2 + 1) + 1 + 1 by omega, List.set_cons_succ, List.set_cons_succ, ih (k := k) (by simpa using h)]
      simp
theorem len_nil41 : aLen Try.prog 41 (.sc (.slice none 0 0)) = .ret (.sc (.int .i64 0)) := by
  simp [aLen, Try.underlying41, aG1, AV.val?, Builtin.len_, pureRun_bind, pureRun_underlying Try.underlying41, goInt, pureRun_pure, AP.ofOption]
theorem OwnE.lenv {E : Ent} {v : AV} {H : AHp} {s s' len : Nat} {cs : List AV} (h : OwnE E s 2 v H s' cs len) : aLen Try.prog 41 v = .ret (.sc (.int .i64 (len : Nat))) := by
  obtain ⟨_, _, _, ⟨rfl, _, rfl⟩ | ⟨nm, ver, _, rfl, _⟩⟩ := h
  · exact len_nil41
  · simp only [aLen, Try.underlying41]
theorem woF_neg (L : List (Int × Int)) : ∀ j, j ≤ L.length → woF L (-1) j = L.take j
  | 0, _ => rfl
  | j + 1, h => by rw [woF_ne L (by omega) (by omega), woF_neg L j (by omega), List.take_succ_eq_append_getElem (by omega)]
theorem woL_neg (L : List (Int × Int)) : woL L (-1) = L := by unfold woL; rw [woF_neg L _ (Nat.le_refl _), List.take_length]
theorem woL_idx (L : List (Int × Int)) {k : Nat} (hk : k < L.length) : woL L (k : Int) = L.eraseIdx k := by
  have key : ∀ j, j ≤ L.length → woF L (k : Int) j = (L.take j).eraseIdx k := by
    intro j
    induction j with
    | zero => intro _; rfl
    | succ j ih =>
      intro hj
      by_cases e : j = k
      · rw [woF_at _ (by rw [e]), ih (by omega), List.eraseIdx_of_length_le (by rw [List.length_take]; omega), List.take_succ_eq_append_getElem (by omega), ← e]
        rw [List.eraseIdx_append_of_length_le (by rw [List.length_take]; omega)]
        have : j - (L.take j).length = 0 := by rw [List.length_take]; omega
        rw [this]; simp
      · rw [woF_ne _ (by omega) (by omega), ih (by omega), List.take_succ_eq_append_getElem (by omega)]
        by_cases e2 : k < j
        · rw [List.eraseIdx_append_of_lt_length (by rw [List.length_take]; omega)]
        · rw [List.eraseIdx_of_length_le (l := L.take j) (by rw [List.length_take]; omega), List.eraseIdx_of_length_le (by rw [List.length_append, List.length_take]; simp only [List.length_cons, List.length_nil]; omega)]
  unfold woL
  rw [key _ (Nat.le_refl _), List.take_length]
end Go.Proofs.Ytdcomhdadnhpnaa
