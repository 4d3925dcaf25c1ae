/- The law's 'wants' on the machine: what an operation makes of a list of elements. -/
import Derived.Test.YtdcomhdadnhpnaaB3
set_option linter.unusedSimpArgs false
set_option linter.unusedVariables false
namespace Go.Proofs.Ytdcomhdadnhpnaa
open Go Go.Am Go.RowKit
attribute [local irreducible] wA opsQ opsLQ thenA blockA EndA
attribute [local go_sem] true_or aOp aStep aWanted evA putA begA packA aRes aRead bin_add bin_sub bin_mul bin_lss bin_leq bin_gtr bin_geq bin_quo bin_rem un_not aBuiltin aLen aLoad aStore aBox aAlloc
attribute [local go_sem] aCells AV.one Value.oneCell' cellsOut aIndexAddr aFieldAddr aField AV.parts? aNilCheck aExtract aSlice bnd aAppend aSrc aFill aZeros aMakeSlice AP.ofOption Value.cells
attribute [local go_sem] List.cons_append List.nil_append List.append_nil List.length_cons List.length_nil List.length_map List.replicate_succ List.replicate_zero List.set_cons_succ List.set_cons_zero
attribute [local go_sem] List.getD_cons_succ List.getD_cons_zero List.toList_toArray List.map_cons List.map_nil List.drop_zero List.drop_succ_cons List.drop_nil List.take_succ_cons List.take_zero
attribute [local go_sem] List.take_nil List.head?_cons List.head?_drop List.getElem?_map List.getElem?_cons_zero List.getElem?_cons_succ List.getElem?_eq_getElem Option.map_some Option.map_none
attribute [local go_sem] Option.bind_some List.all_cons List.all_nil Bool.and_true Bool.true_and Bool.and_self upd_same decide_true decide_false decide_eq_true_eq if_true if_false Bool.false_eq_true
attribute [local go_sem] Bool.true_eq_false ite_true ite_false true_and and_true and_self eq_self reduceCtorEq Bool.not_eq_true Bool.not_true Bool.not_false Bool.not_eq_false not_true_eq_false
attribute [local go_sem] not_false_eq_true Int.toNat_natCast Nat.zero_add Nat.add_zero Nat.mul_one Nat.zero_mul Nat.mul_zero Nat.one_mul Nat.zero_le Int.toNat_zero BEq.rfl beq_self_eq_true if_pos
attribute [local go_sem] if_neg decide_eq_true decide_eq_false sz3 ze3 by3 ag3 Try.underlying3 eqlT3 neqT3 sz4 ze4 by4 ag4 Try.underlying4 sz23 ze23 by23 ag23 Try.underlying23 eqlT23 neqT23 sz31 ze31
attribute [local go_sem] by31 ag31 Try.underlying31 sz40 ze40 by40 ag40 Try.underlying40 sz41 ze41 by41 ag41 Try.underlying41 sz43 ze43 by43 ag43 fo43_0 fo43_1 bu43 Try.underlying43 sz64 ze64 by64 ag64
attribute [local go_sem] fo64_0 fo64_1 fo64_2 fo64_3 bu64 Try.underlying64 sz66 ze66 by66 ag66 fo66_0 fo66_1 bu66 Try.underlying66 AP.run List.size_toArray List.length_set AP.runL bs31 bs40 bs41 put1
attribute [local go_sem] put2

def c29o : List AV → AP AV
  | [a, .sc (.int .i64 i)] => rdE a fun L => if L.length ≤ 100000 then (if (woL L i).length = 0 then .ret (.sc (.slice none 0 0)) else .new (.row 0 2 (elsA (woL L i))) fun n => .ret (.sl n 0 0 (woL L i).length)) else .fail
  | _ => .fail
def c30 : List AV → AP AV
  | [a, .agg [.sc (.int .i64 x), .sc (.int .i64 y)]] => rdE a fun L => if L.length ≤ 100000 then .ret (.sc (.int .i64 (idxF L (x, y)))) else .fail
  | _ => .fail
theorem arg2 {ρ : Inj} {O : Nat → Prop} {w : World} {a b : AV} {vs : List Value} (h : Reps ρ O w [a, b] vs) : ∃ x y, vs = [x, y] ∧ Rep ρ O w a x ∧ Rep ρ O w b y := by
  obtain ⟨x, t, rfl, h1, h2⟩ := Reps.uncons h
  obtain ⟨y, u, rfl, h3, h4⟩ := Reps.uncons h2
  have : u = [] := by simpa using h4.len
  exact ⟨x, y, by rw [this], h1, h3⟩
theorem a29o (args : List AV) : ACall Try.prog 29 args (c29o args) := by
  intro ρ H w vs hR hA s r H' s' hm
  unfold c29o at hm
  split at hm
  · obtain ⟨v0, v1, rfl, hv0, hv1⟩ := arg2 hA
    obtain ⟨L, hr, hm⟩ := rdE_ok hv0 hm
    split at hm
    · rename_i hle
      split at hm
      · rename_i h0
        exact without_own0 L _ hle h0 ρ H w _ hR (.cons hr (.cons hv1 .nil)) s r H' s' hm
      · rename_i h0
        exact without_own L _ hle h0 ρ H w _ hR (.cons hr (.cons hv1 .nil)) s r H' s' hm
    · simp [AP.run] at hm
  · simp [AP.run] at hm
theorem a30 (args : List AV) : ACall Try.prog 30 args (c30 args) := by
  intro ρ H w vs hR hA s r H' s' hm
  unfold c30 at hm
  split at hm
  · obtain ⟨v0, v1, rfl, hv0, hv1⟩ := arg2 hA
    obtain ⟨L, hr, hm⟩ := rdE_ok hv0 hm
    split at hm
    · rename_i hle
      exact index_call L _ hle ρ H w _ hR (.cons hr (.cons hv1 .nil)) s r H' s' hm
    · simp [AP.run] at hm
  · simp [AP.run] at hm
def ctW : CT := fun f args => if f = 29 then c29o args else if f = 30 then c30 args else .fail
theorem ctW_ok : CTok Try.prog ctW := fun f args => by
  unfold ctW
  split
  · rename_i e; subst e; exact a29o args
  split
  · rename_i e; subst e; exact a30 args
  · intro ρ H w vs hR hA s r H' s' hm; simp [AP.run] at hm
theorem ctW_29 (a : List AV) : ctW 29 a = c29o a := rfl
theorem ctW_30 (a : List AV) : ctW 30 a = c30 a := rfl

/-- what an operation makes of a list, and its error -/
def wantF (K V : Int) (e : Int × Int) (L : List (Int × Int)) : List (Int × Int) × Int :=
  if ¬ (0 ≤ e.1 ∧ e.1 ≤ 2147483647) then (L, 1)
  else if K = 0 then (if e ∈ L then (L, 6) else (L ++ [e], 0))
  else if e ∉ L then (L, 5)
  else if K = 1 then (L.eraseIdx (L.idxOf e), 0)
  else if V ≠ e.2 ∧ (e.1, V) ∈ L then (L, 6) else (L.set (L.idxOf e) (e.1, V), 0)
theorem Wk.agg2 {a a' b : AV} (h : Wk a a') : Wk (.agg [a, b]) (.agg [a', b]) := fun ρ O w v hv => by
  obtain ⟨vs, rfl, hr⟩ := Rep.agg_iff.1 hv
  obtain ⟨x, t, e1, h1, h2⟩ := Reps.uncons hr
  exact Rep.agg_iff.2 ⟨vs, rfl, by rw [e1]; exact .cons (h _ _ _ _ h1) h2⟩
theorem Pub.agg2 {H : AHp} {K : Nat → Prop} {N : Nat → Option (Nat × Nat)} {a a' b b' : AV} (h : Pub H K N a a') (k : Pub H K N b b') : Pub H K N (.agg [a, b]) (.agg [a', b']) := by
  refine .agg rfl (fun i x y hx hy => ?_)
  match i with
  | 0 => simp at hx hy; subst hx; subst hy; exact h
  | 1 => simp at hx hy; subst hx; subst hy; exact k
  | i + 2 => simp at hx
theorem idxF_mem {L : List (Int × Int)} {e : Int × Int} (h : e ∈ L) : idxF L e = ((L.idxOf e : Nat) : Int) ∧ L.idxOf e < L.length := by
  unfold idxF; rw [if_pos h]; exact ⟨rfl, List.idxOf_lt_length_iff.2 h⟩
theorem pair_eta (e : Int × Int) : (e.1, e.2) = e := rfl
theorem idxF_not {L : List (Int × Int)} {e : Int × Int} (h : e ∉ L) : idxF L e = -1 := by unfold idxF; rw [if_neg h]
theorem sl_pub {E : Ent} {H1 : AHp} {s nm ver n : Nat} {L : List (Int × Int)} (hs : ∀ n, s ≤ n → E.H n = none) (hn : s ≤ nm) (h : H1 nm = some (.row ver 2 (elsA L))) : Pub H1 (fun n => E.H n ≠ none) (fun _ => none) (.sl nm ver 0 n) (.dsl n (elsA L)) := by
  refine Pub.sl h (by simpa using hs nm hn) (by simp) (by simp) (fun i a b ha hb => ?_)
  rw [List.drop_zero] at ha
  rw [ha] at hb
  cases hb
  obtain ⟨v, rfl⟩ := elsA_sc (List.mem_of_getElem? ha)
  exact Pub.sc _

set_option maxRecDepth 100000 in
set_option maxHeartbeats 2000000 in
theorem wants_call (K h0 w0 V : Int) (e : Int × Int) (L : List (Int × Int)) (hL : L.length ≤ 90000) :
    ACall Try.prog 43 [.agg [.sc (.int .i64 K), .sc (.int .i64 h0), .sc (.int .i64 w0), .sc (.int .i64 V)], elG e, .dsl L.length (elsA L)] (.ret (.agg [.dsl (wantF K V e L).1.length (elsA (wantF K V e L).1), .sc (.int .i64 (wantF K V e L).2)])) := by
  refine acall_pureW hmix ctW_ok Try.func43 rfl (by kernel_rfl) (fun E s hs => ?_)
  simp (maxSteps := 300000) only [begA, Try.ntmps43, List.replicate_succ, List.replicate_zero, List.length_cons, List.length_nil, List.cons_append, List.nil_append]
  have keep : ∀ {H1 : AHp}, (∀ q, q < s → H1 q = E.H q) → ∀ q, E.H q ≠ none → H1 q = E.H q := fun h q hq => h q (Nat.lt_of_not_le fun hle => hq (hs q hle))
  have fin1 : ∀ {H1 : AHp} {L' : List (Int × Int)} {x : Int}, (∀ q, q < s → H1 q = E.H q) → PureEnd E (.agg [.dsl L'.length (elsA L'), .sc (.int .i64 x)]) (.agg [.dsl L'.length (elsA L'), .sc (.int .i64 x)]) H1 := fun h => ⟨keep h, Pub.agg2 (.same (elsA_inS _ _)) (Pub.sc _)⟩
  have h100 : L.length ≤ 100000 := by omega
  by_cases g0 : ¬ (0 ≤ e.1 ∧ e.1 ≤ 2147483647)
  · have hw : wantF K V e L = (L, 1) := by unfold wantF; rw [if_pos g0]
    rw [hw]
    by_cases g1 : e.1 < 0
    · repeat (first
    | with_reducible refine q_seq ?_
    | with_reducible refine q_reg ?_
    | with_reducible refine q_nil ?_
    | with_reducible refine q_thenN ?_
    | ((with_reducible apply q_cons rfl); simp (disch := omega) only [go_sem, hs, upd_ne]; exact rfl; simp only [List.set_cons_succ, List.set_cons_zero, putA]; exact rfl)
    | ((with_reducible apply q_consF); simp only [aWanted, List.getElem?_toArray, List.getElem?_cons_succ, List.getElem?_cons_zero, Option.bind_some, List.getD_cons_succ, List.getD_cons_zero]; exact rfl; simp only [List.set_cons_succ, List.set_cons_zero, putA]; exact rfl)
    | ((with_reducible apply q_consT); simp only [aWanted, List.getElem?_toArray, List.getElem?_cons_succ, List.getElem?_cons_zero, Option.bind_some, List.getD_cons_succ, List.getD_cons_zero]; exact rfl; simp (disch := omega) only [go_sem, hs, upd_ne]; exact rfl; simp only [List.set_cons_succ, List.set_cons_zero, putA]; exact rfl)
    | with_reducible refine q_block ?_
    | with_reducible refine q_skip ?_
    | with_reducible refine q_ret ?_
    | with_reducible refine q_exit ?_
    | with_reducible refine q_thenR ?_
    | with_reducible refine q_thenE ?_
    | with_reducible refine q_blkN ?_
    | with_reducible refine q_blkR ?_
    | with_reducible refine q_blkE ?_
    | ((with_reducible apply q_cond); simp only [evA, List.getD_cons_succ, List.getD_cons_zero]; exact rfl)
    | with_reducible refine q_bT ?_
    | with_reducible refine q_bF ?_
    | ((with_reducible apply q_bifF); (first | rfl | decide | assumption))
    | ((with_reducible apply q_bifT); (first | rfl | decide | assumption))
    | with_reducible refine q_loop ?_)
      (apply q_end; simp (disch := omega) only [go_sem, Try.results43]; exact rfl; simp only [packA]; exact rfl)
      exact ⟨_, Wk.rfl', fin1 (fun q hq => by simp (disch := omega) only [upd_ne])⟩
    · repeat (first
    | with_reducible refine q_seq ?_
    | with_reducible refine q_reg ?_
    | with_reducible refine q_nil ?_
    | with_reducible refine q_thenN ?_
    | ((with_reducible apply q_cons rfl); simp (disch := omega) only [go_sem, hs, upd_ne]; exact rfl; simp only [List.set_cons_succ, List.set_cons_zero, putA]; exact rfl)
    | ((with_reducible apply q_consF); simp only [aWanted, List.getElem?_toArray, List.getElem?_cons_succ, List.getElem?_cons_zero, Option.bind_some, List.getD_cons_succ, List.getD_cons_zero]; exact rfl; simp only [List.set_cons_succ, List.set_cons_zero, putA]; exact rfl)
    | ((with_reducible apply q_consT); simp only [aWanted, List.getElem?_toArray, List.getElem?_cons_succ, List.getElem?_cons_zero, Option.bind_some, List.getD_cons_succ, List.getD_cons_zero]; exact rfl; simp (disch := omega) only [go_sem, hs, upd_ne]; exact rfl; simp only [List.set_cons_succ, List.set_cons_zero, putA]; exact rfl)
    | with_reducible refine q_block ?_
    | with_reducible refine q_skip ?_
    | with_reducible refine q_ret ?_
    | with_reducible refine q_exit ?_
    | with_reducible refine q_thenR ?_
    | with_reducible refine q_thenE ?_
    | with_reducible refine q_blkN ?_
    | with_reducible refine q_blkR ?_
    | with_reducible refine q_blkE ?_
    | ((with_reducible apply q_cond); simp only [evA, List.getD_cons_succ, List.getD_cons_zero]; exact rfl)
    | with_reducible refine q_bT ?_
    | with_reducible refine q_bF ?_
    | ((with_reducible apply q_bifF); (first | rfl | decide | assumption))
    | ((with_reducible apply q_bifT); (first | rfl | decide | assumption))
    | with_reducible refine q_loop ?_)
      (apply q_end; simp (disch := omega) only [go_sem, Try.results43]; exact rfl; simp only [packA]; exact rfl)
      exact ⟨_, Wk.rfl', fin1 (fun q hq => by simp (disch := omega) only [upd_ne])⟩
  have g0' : 0 ≤ e.1 ∧ e.1 ≤ 2147483647 := by simpa using g0
  by_cases hK : K = 0
  · subst hK
    by_cases he : e ∈ L
    · have hw : wantF 0 V e L = (L, 6) := by unfold wantF; rw [if_neg g0, if_pos rfl, if_pos he]
      rw [hw]
      obtain ⟨hi1, hi2⟩ := idxF_mem he
      repeat (first
    | with_reducible refine q_seq ?_
    | with_reducible refine q_reg ?_
    | with_reducible refine q_nil ?_
    | with_reducible refine q_thenN ?_
    | ((with_reducible apply q_cons rfl); simp (disch := omega) only [go_sem, hs, upd_ne, cal29, cal30, ctW_29, ctW_30, c29o, c30, rdE_dsl, woL_neg, pair_eta, hi1]; exact rfl; simp only [List.set_cons_succ, List.set_cons_zero, putA]; exact rfl)
    | ((with_reducible apply q_consF); simp only [aWanted, List.getElem?_toArray, List.getElem?_cons_succ, List.getElem?_cons_zero, Option.bind_some, List.getD_cons_succ, List.getD_cons_zero]; exact rfl; simp only [List.set_cons_succ, List.set_cons_zero, putA]; exact rfl)
    | ((with_reducible apply q_consT); simp only [aWanted, List.getElem?_toArray, List.getElem?_cons_succ, List.getElem?_cons_zero, Option.bind_some, List.getD_cons_succ, List.getD_cons_zero]; exact rfl; simp (disch := omega) only [go_sem, hs, upd_ne, cal29, cal30, ctW_29, ctW_30, c29o, c30, rdE_dsl, woL_neg, pair_eta, hi1]; exact rfl; simp only [List.set_cons_succ, List.set_cons_zero, putA]; exact rfl)
    | with_reducible refine q_block ?_
    | with_reducible refine q_skip ?_
    | with_reducible refine q_ret ?_
    | with_reducible refine q_exit ?_
    | with_reducible refine q_thenR ?_
    | with_reducible refine q_thenE ?_
    | with_reducible refine q_blkN ?_
    | with_reducible refine q_blkR ?_
    | with_reducible refine q_blkE ?_
    | ((with_reducible apply q_cond); simp only [evA, List.getD_cons_succ, List.getD_cons_zero]; exact rfl)
    | with_reducible refine q_bT ?_
    | with_reducible refine q_bF ?_
    | ((with_reducible apply q_bifF); (first | rfl | decide | assumption))
    | ((with_reducible apply q_bifT); (first | rfl | decide | assumption))
    | with_reducible refine q_loop ?_)
      (apply q_end; simp (disch := omega) only [go_sem, Try.results43]; exact rfl; simp only [packA]; exact rfl)
      exact ⟨_, Wk.rfl', fin1 (fun q hq => by simp (disch := omega) only [upd_ne])⟩
    · have hw : wantF 0 V e L = (L ++ [e], 0) := by unfold wantF; rw [if_neg g0, if_pos rfl, if_neg he]
      rw [hw]
      have hi1 := idxF_not he
      by_cases h0 : L.length = 0
      · repeat (first
    | with_reducible refine q_seq ?_
    | with_reducible refine q_reg ?_
    | with_reducible refine q_nil ?_
    | with_reducible refine q_thenN ?_
    | ((with_reducible apply q_cons rfl); simp (disch := omega) only [go_sem, hs, upd_ne, cal29, cal30, ctW_29, ctW_30, c29o, c30, rdE_dsl, woL_neg, pair_eta, hi1]; exact rfl; simp only [List.set_cons_succ, List.set_cons_zero, putA]; exact rfl)
    | ((with_reducible apply q_consF); simp only [aWanted, List.getElem?_toArray, List.getElem?_cons_succ, List.getElem?_cons_zero, Option.bind_some, List.getD_cons_succ, List.getD_cons_zero]; exact rfl; simp only [List.set_cons_succ, List.set_cons_zero, putA]; exact rfl)
    | ((with_reducible apply q_consT); simp only [aWanted, List.getElem?_toArray, List.getElem?_cons_succ, List.getElem?_cons_zero, Option.bind_some, List.getD_cons_succ, List.getD_cons_zero]; exact rfl; simp (disch := omega) only [go_sem, hs, upd_ne, cal29, cal30, ctW_29, ctW_30, c29o, c30, rdE_dsl, woL_neg, pair_eta, hi1]; exact rfl; simp only [List.set_cons_succ, List.set_cons_zero, putA]; exact rfl)
    | with_reducible refine q_block ?_
    | with_reducible refine q_skip ?_
    | with_reducible refine q_ret ?_
    | with_reducible refine q_exit ?_
    | with_reducible refine q_thenR ?_
    | with_reducible refine q_thenE ?_
    | with_reducible refine q_blkN ?_
    | with_reducible refine q_blkR ?_
    | with_reducible refine q_blkE ?_
    | ((with_reducible apply q_cond); simp only [evA, List.getD_cons_succ, List.getD_cons_zero]; exact rfl)
    | with_reducible refine q_bT ?_
    | with_reducible refine q_bF ?_
    | ((with_reducible apply q_bifF); (first | rfl | decide | assumption))
    | ((with_reducible apply q_bifT); (first | rfl | decide | assumption))
    | with_reducible refine q_loop ?_)
        (apply q_end; simp (disch := omega) only [go_sem, Try.results43]; exact rfl; simp only [packA]; exact rfl)
        obtain rfl := List.length_eq_zero_iff.1 h0
        refine ⟨_, Wk.rfl', keep (fun q hq => by simp (disch := omega) only [upd_ne]), Pub.agg2 (sl_pub hs (L := [e]) ?_ ?_) (Pub.sc _)⟩
        · exact Nat.le_trans (Nat.le_add_right s 1) (by omega)
        · simp (disch := omega) only [upd_ne, upd_same]; rfl
      · have hap := elsA_append L [e]
        repeat (first
    | with_reducible refine q_seq ?_
    | with_reducible refine q_reg ?_
    | with_reducible refine q_nil ?_
    | with_reducible refine q_thenN ?_
    | ((with_reducible apply q_cons rfl); simp (disch := omega) only [go_sem, hs, upd_ne, cal29, cal30, ctW_29, ctW_30, c29o, c30, rdE_dsl, woL_neg, pair_eta, hi1, elsA_len, elsA_take, elsA_one]; exact rfl; simp only [List.set_cons_succ, List.set_cons_zero, putA]; exact rfl)
    | ((with_reducible apply q_consF); simp only [aWanted, List.getElem?_toArray, List.getElem?_cons_succ, List.getElem?_cons_zero, Option.bind_some, List.getD_cons_succ, List.getD_cons_zero]; exact rfl; simp only [List.set_cons_succ, List.set_cons_zero, putA]; exact rfl)
    | ((with_reducible apply q_consT); simp only [aWanted, List.getElem?_toArray, List.getElem?_cons_succ, List.getElem?_cons_zero, Option.bind_some, List.getD_cons_succ, List.getD_cons_zero]; exact rfl; simp (disch := omega) only [go_sem, hs, upd_ne, cal29, cal30, ctW_29, ctW_30, c29o, c30, rdE_dsl, woL_neg, pair_eta, hi1, elsA_len, elsA_take, elsA_one]; exact rfl; simp only [List.set_cons_succ, List.set_cons_zero, putA]; exact rfl)
    | with_reducible refine q_block ?_
    | with_reducible refine q_skip ?_
    | with_reducible refine q_ret ?_
    | with_reducible refine q_exit ?_
    | with_reducible refine q_thenR ?_
    | with_reducible refine q_thenE ?_
    | with_reducible refine q_blkN ?_
    | with_reducible refine q_blkR ?_
    | with_reducible refine q_blkE ?_
    | ((with_reducible apply q_cond); simp only [evA, List.getD_cons_succ, List.getD_cons_zero]; exact rfl)
    | with_reducible refine q_bT ?_
    | with_reducible refine q_bF ?_
    | ((with_reducible apply q_bifF); (first | rfl | decide | assumption))
    | ((with_reducible apply q_bifT); (first | rfl | decide | assumption))
    | with_reducible refine q_loop ?_)
        (apply q_end; simp (disch := omega) only [go_sem, Try.results43]; exact rfl; simp only [packA]; exact rfl)
        refine ⟨_, Wk.rfl', keep (fun q hq => by simp (disch := omega) only [upd_ne]), Pub.agg2 ?_ (Pub.sc _)⟩
        rw [List.length_append]
        refine sl_pub hs (L := L ++ [e]) ?_ ?_
        · exact Nat.le_trans (Nat.le_add_right s 1) (by omega)
        · simp (disch := omega) only [upd_ne, upd_same, hap]; rfl
  by_cases he : e ∈ L
  · obtain ⟨hi1, hi2⟩ := idxF_mem he
    have hLk : L[L.idxOf e] = e := List.getElem_idxOf hi2
    by_cases hK1 : K = 1
    · subst hK1
      have hw : wantF 1 V e L = (L.eraseIdx (L.idxOf e), 0) := by unfold wantF; rw [if_neg g0, if_neg (by decide), if_neg (by simpa using he), if_pos rfl]
      rw [hw]
      have hwl := woL_idx L hi2
      have hel := List.length_eraseIdx_of_lt hi2
      by_cases h1 : L.length = 1
      · repeat (first
    | with_reducible refine q_seq ?_
    | with_reducible refine q_reg ?_
    | with_reducible refine q_nil ?_
    | with_reducible refine q_thenN ?_
    | ((with_reducible apply q_cons rfl); simp (disch := omega) only [go_sem, hs, upd_ne, cal29, cal30, ctW_29, ctW_30, c29o, c30, rdE_dsl, woL_neg, pair_eta, hi1, hwl, hel]; exact rfl; simp only [List.set_cons_succ, List.set_cons_zero, putA]; exact rfl)
    | ((with_reducible apply q_consF); simp only [aWanted, List.getElem?_toArray, List.getElem?_cons_succ, List.getElem?_cons_zero, Option.bind_some, List.getD_cons_succ, List.getD_cons_zero]; exact rfl; simp only [List.set_cons_succ, List.set_cons_zero, putA]; exact rfl)
    | ((with_reducible apply q_consT); simp only [aWanted, List.getElem?_toArray, List.getElem?_cons_succ, List.getElem?_cons_zero, Option.bind_some, List.getD_cons_succ, List.getD_cons_zero]; exact rfl; simp (disch := omega) only [go_sem, hs, upd_ne, cal29, cal30, ctW_29, ctW_30, c29o, c30, rdE_dsl, woL_neg, pair_eta, hi1, hwl, hel]; exact rfl; simp only [List.set_cons_succ, List.set_cons_zero, putA]; exact rfl)
    | with_reducible refine q_block ?_
    | with_reducible refine q_skip ?_
    | with_reducible refine q_ret ?_
    | with_reducible refine q_exit ?_
    | with_reducible refine q_thenR ?_
    | with_reducible refine q_thenE ?_
    | with_reducible refine q_blkN ?_
    | with_reducible refine q_blkR ?_
    | with_reducible refine q_blkE ?_
    | ((with_reducible apply q_cond); simp only [evA, List.getD_cons_succ, List.getD_cons_zero]; exact rfl)
    | with_reducible refine q_bT ?_
    | with_reducible refine q_bF ?_
    | ((with_reducible apply q_bifF); (first | rfl | decide | assumption))
    | ((with_reducible apply q_bifT); (first | rfl | decide | assumption))
    | with_reducible refine q_loop ?_)
        (apply q_end; simp (disch := omega) only [go_sem, Try.results43]; exact rfl; simp only [packA]; exact rfl)
        have h2 : L.eraseIdx (L.idxOf e) = [] := List.length_eq_zero_iff.1 (by omega)
        rw [h2]
        exact ⟨_, Wk.agg2 Wk.nil, keep (fun q hq => by simp (disch := omega) only [upd_ne]), Pub.agg2 (Pub.sc _) (Pub.sc _)⟩
      · repeat (first
    | with_reducible refine q_seq ?_
    | with_reducible refine q_reg ?_
    | with_reducible refine q_nil ?_
    | with_reducible refine q_thenN ?_
    | ((with_reducible apply q_cons rfl); simp (disch := omega) only [go_sem, hs, upd_ne, cal29, cal30, ctW_29, ctW_30, c29o, c30, rdE_dsl, woL_neg, pair_eta, hi1, hwl, hel]; exact rfl; simp only [List.set_cons_succ, List.set_cons_zero, putA]; exact rfl)
    | ((with_reducible apply q_consF); simp only [aWanted, List.getElem?_toArray, List.getElem?_cons_succ, List.getElem?_cons_zero, Option.bind_some, List.getD_cons_succ, List.getD_cons_zero]; exact rfl; simp only [List.set_cons_succ, List.set_cons_zero, putA]; exact rfl)
    | ((with_reducible apply q_consT); simp only [aWanted, List.getElem?_toArray, List.getElem?_cons_succ, List.getElem?_cons_zero, Option.bind_some, List.getD_cons_succ, List.getD_cons_zero]; exact rfl; simp (disch := omega) only [go_sem, hs, upd_ne, cal29, cal30, ctW_29, ctW_30, c29o, c30, rdE_dsl, woL_neg, pair_eta, hi1, hwl, hel]; exact rfl; simp only [List.set_cons_succ, List.set_cons_zero, putA]; exact rfl)
    | with_reducible refine q_block ?_
    | with_reducible refine q_skip ?_
    | with_reducible refine q_ret ?_
    | with_reducible refine q_exit ?_
    | with_reducible refine q_thenR ?_
    | with_reducible refine q_thenE ?_
    | with_reducible refine q_blkN ?_
    | with_reducible refine q_blkR ?_
    | with_reducible refine q_blkE ?_
    | ((with_reducible apply q_cond); simp only [evA, List.getD_cons_succ, List.getD_cons_zero]; exact rfl)
    | with_reducible refine q_bT ?_
    | with_reducible refine q_bF ?_
    | ((with_reducible apply q_bifF); (first | rfl | decide | assumption))
    | ((with_reducible apply q_bifT); (first | rfl | decide | assumption))
    | with_reducible refine q_loop ?_)
        (apply q_end; simp (disch := omega) only [go_sem, Try.results43]; exact rfl; simp only [packA]; exact rfl)
        refine ⟨_, Wk.rfl', keep (fun q hq => by simp (disch := omega) only [upd_ne]), Pub.agg2 ?_ (Pub.sc _)⟩
        refine hel ▸ sl_pub hs (L := L.eraseIdx (L.idxOf e)) ?_ ?_
        · exact Nat.le_trans (Nat.le_add_right s 1) (by omega)
        · simp (disch := omega) only [upd_ne, upd_same]
    · by_cases hV : V ≠ e.2 ∧ (e.1, V) ∈ L
      · have hw : wantF K V e L = (L, 6) := by unfold wantF; rw [if_neg g0, if_neg hK, if_neg (by simpa using he), if_neg hK1, if_pos hV]
        rw [hw]
        obtain ⟨hj1, hj2⟩ := idxF_mem hV.2
        have hV1 := hV.1
        have hset : L.idxOf e < (L.set (L.idxOf e) (e.1, V)).length := by rw [List.length_set]; exact hi2
        repeat (first
    | with_reducible refine q_seq ?_
    | with_reducible refine q_reg ?_
    | with_reducible refine q_nil ?_
    | with_reducible refine q_thenN ?_
    | ((with_reducible apply q_cons rfl); simp (disch := omega) only [go_sem, hs, upd_ne, cal29, cal30, ctW_29, ctW_30, c29o, c30, rdE_dsl, woL_neg, pair_eta, hi1, elsA_len, elsA_drop, elsA_set1, List.getElem_set_self, hLk, hj1]; exact rfl; simp only [List.set_cons_succ, List.set_cons_zero, putA]; exact rfl)
    | ((with_reducible apply q_consF); simp only [aWanted, List.getElem?_toArray, List.getElem?_cons_succ, List.getElem?_cons_zero, Option.bind_some, List.getD_cons_succ, List.getD_cons_zero]; exact rfl; simp only [List.set_cons_succ, List.set_cons_zero, putA]; exact rfl)
    | ((with_reducible apply q_consT); simp only [aWanted, List.getElem?_toArray, List.getElem?_cons_succ, List.getElem?_cons_zero, Option.bind_some, List.getD_cons_succ, List.getD_cons_zero]; exact rfl; simp (disch := omega) only [go_sem, hs, upd_ne, cal29, cal30, ctW_29, ctW_30, c29o, c30, rdE_dsl, woL_neg, pair_eta, hi1, elsA_len, elsA_drop, elsA_set1, List.getElem_set_self, hLk, hj1]; exact rfl; simp only [List.set_cons_succ, List.set_cons_zero, putA]; exact rfl)
    | with_reducible refine q_block ?_
    | with_reducible refine q_skip ?_
    | with_reducible refine q_ret ?_
    | with_reducible refine q_exit ?_
    | with_reducible refine q_thenR ?_
    | with_reducible refine q_thenE ?_
    | with_reducible refine q_blkN ?_
    | with_reducible refine q_blkR ?_
    | with_reducible refine q_blkE ?_
    | ((with_reducible apply q_cond); simp only [evA, List.getD_cons_succ, List.getD_cons_zero]; exact rfl)
    | with_reducible refine q_bT ?_
    | with_reducible refine q_bF ?_
    | ((with_reducible apply q_bifF); (first | rfl | decide | assumption))
    | ((with_reducible apply q_bifT); (first | rfl | decide | assumption))
    | with_reducible refine q_loop ?_)
        (apply q_end; simp (disch := omega) only [go_sem, Try.results43]; exact rfl; simp only [packA]; exact rfl)
        exact ⟨_, Wk.rfl', fin1 (fun q hq => by simp (disch := omega) only [upd_ne])⟩
      · have hw : wantF K V e L = (L.set (L.idxOf e) (e.1, V), 0) := by unfold wantF; rw [if_neg g0, if_neg hK, if_neg (by simpa using he), if_neg hK1, if_neg hV]
        rw [hw]
        have h0 : L.length ≠ 0 := by omega
        have hset : L.idxOf e < (L.set (L.idxOf e) (e.1, V)).length := by rw [List.length_set]; exact hi2
        by_cases hV1 : V = e.2
        · repeat (first
    | with_reducible refine q_seq ?_
    | with_reducible refine q_reg ?_
    | with_reducible refine q_nil ?_
    | with_reducible refine q_thenN ?_
    | ((with_reducible apply q_cons rfl); simp (disch := omega) only [go_sem, hs, upd_ne, cal29, cal30, ctW_29, ctW_30, c29o, c30, rdE_dsl, woL_neg, pair_eta, hi1, elsA_len, elsA_drop, elsA_set1, List.getElem_set_self, hLk]; exact rfl; simp only [List.set_cons_succ, List.set_cons_zero, putA]; exact rfl)
    | ((with_reducible apply q_consF); simp only [aWanted, List.getElem?_toArray, List.getElem?_cons_succ, List.getElem?_cons_zero, Option.bind_some, List.getD_cons_succ, List.getD_cons_zero]; exact rfl; simp only [List.set_cons_succ, List.set_cons_zero, putA]; exact rfl)
    | ((with_reducible apply q_consT); simp only [aWanted, List.getElem?_toArray, List.getElem?_cons_succ, List.getElem?_cons_zero, Option.bind_some, List.getD_cons_succ, List.getD_cons_zero]; exact rfl; simp (disch := omega) only [go_sem, hs, upd_ne, cal29, cal30, ctW_29, ctW_30, c29o, c30, rdE_dsl, woL_neg, pair_eta, hi1, elsA_len, elsA_drop, elsA_set1, List.getElem_set_self, hLk]; exact rfl; simp only [List.set_cons_succ, List.set_cons_zero, putA]; exact rfl)
    | with_reducible refine q_block ?_
    | with_reducible refine q_skip ?_
    | with_reducible refine q_ret ?_
    | with_reducible refine q_exit ?_
    | with_reducible refine q_thenR ?_
    | with_reducible refine q_thenE ?_
    | with_reducible refine q_blkN ?_
    | with_reducible refine q_blkR ?_
    | with_reducible refine q_blkE ?_
    | ((with_reducible apply q_cond); simp only [evA, List.getD_cons_succ, List.getD_cons_zero]; exact rfl)
    | with_reducible refine q_bT ?_
    | with_reducible refine q_bF ?_
    | ((with_reducible apply q_bifF); (first | rfl | decide | assumption))
    | ((with_reducible apply q_bifT); (first | rfl | decide | assumption))
    | with_reducible refine q_loop ?_)
          (apply q_end; simp (disch := omega) only [go_sem, Try.results43]; exact rfl; simp only [packA]; exact rfl)
          refine ⟨_, Wk.rfl', keep (fun q hq => by simp (disch := omega) only [upd_ne]), Pub.agg2 ?_ (Pub.sc _)⟩
          rw [List.length_set]
          refine sl_pub hs (L := L.set (L.idxOf e) (e.1, V)) ?_ ?_
          · exact Nat.le_trans (Nat.le_add_right s 1) (by omega)
          · simp (disch := omega) only [upd_ne, upd_same]
        · have hj1 := idxF_not (fun h => hV ⟨hV1, h⟩)
          repeat (first
    | with_reducible refine q_seq ?_
    | with_reducible refine q_reg ?_
    | with_reducible refine q_nil ?_
    | with_reducible refine q_thenN ?_
    | ((with_reducible apply q_cons rfl); simp (disch := omega) only [go_sem, hs, upd_ne, cal29, cal30, ctW_29, ctW_30, c29o, c30, rdE_dsl, woL_neg, pair_eta, hi1, elsA_len, elsA_drop, elsA_set1, List.getElem_set_self, hLk, hj1]; exact rfl; simp only [List.set_cons_succ, List.set_cons_zero, putA]; exact rfl)
    | ((with_reducible apply q_consF); simp only [aWanted, List.getElem?_toArray, List.getElem?_cons_succ, List.getElem?_cons_zero, Option.bind_some, List.getD_cons_succ, List.getD_cons_zero]; exact rfl; simp only [List.set_cons_succ, List.set_cons_zero, putA]; exact rfl)
    | ((with_reducible apply q_consT); simp only [aWanted, List.getElem?_toArray, List.getElem?_cons_succ, List.getElem?_cons_zero, Option.bind_some, List.getD_cons_succ, List.getD_cons_zero]; exact rfl; simp (disch := omega) only [go_sem, hs, upd_ne, cal29, cal30, ctW_29, ctW_30, c29o, c30, rdE_dsl, woL_neg, pair_eta, hi1, elsA_len, elsA_drop, elsA_set1, List.getElem_set_self, hLk, hj1]; exact rfl; simp only [List.set_cons_succ, List.set_cons_zero, putA]; exact rfl)
    | with_reducible refine q_block ?_
    | with_reducible refine q_skip ?_
    | with_reducible refine q_ret ?_
    | with_reducible refine q_exit ?_
    | with_reducible refine q_thenR ?_
    | with_reducible refine q_thenE ?_
    | with_reducible refine q_blkN ?_
    | with_reducible refine q_blkR ?_
    | with_reducible refine q_blkE ?_
    | ((with_reducible apply q_cond); simp only [evA, List.getD_cons_succ, List.getD_cons_zero]; exact rfl)
    | with_reducible refine q_bT ?_
    | with_reducible refine q_bF ?_
    | ((with_reducible apply q_bifF); (first | rfl | decide | assumption))
    | ((with_reducible apply q_bifT); (first | rfl | decide | assumption))
    | with_reducible refine q_loop ?_)
          (apply q_end; simp (disch := omega) only [go_sem, Try.results43]; exact rfl; simp only [packA]; exact rfl)
          refine ⟨_, Wk.rfl', keep (fun q hq => by simp (disch := omega) only [upd_ne]), Pub.agg2 ?_ (Pub.sc _)⟩
          rw [List.length_set]
          refine sl_pub hs (L := L.set (L.idxOf e) (e.1, V)) ?_ ?_
          · exact Nat.le_trans (Nat.le_add_right s 1) (by omega)
          · simp (disch := omega) only [upd_ne, upd_same]
  · have hw : wantF K V e L = (L, 5) := by unfold wantF; rw [if_neg g0, if_neg hK, if_pos he]
    rw [hw]
    have hi1 := idxF_not he
    by_cases h0 : L.length = 0
    · repeat (first
    | with_reducible refine q_seq ?_
    | with_reducible refine q_reg ?_
    | with_reducible refine q_nil ?_
    | with_reducible refine q_thenN ?_
    | ((with_reducible apply q_cons rfl); simp (disch := omega) only [go_sem, hs, upd_ne, cal29, cal30, ctW_29, ctW_30, c29o, c30, rdE_dsl, woL_neg, pair_eta, hi1]; exact rfl; simp only [List.set_cons_succ, List.set_cons_zero, putA]; exact rfl)
    | ((with_reducible apply q_consF); simp only [aWanted, List.getElem?_toArray, List.getElem?_cons_succ, List.getElem?_cons_zero, Option.bind_some, List.getD_cons_succ, List.getD_cons_zero]; exact rfl; simp only [List.set_cons_succ, List.set_cons_zero, putA]; exact rfl)
    | ((with_reducible apply q_consT); simp only [aWanted, List.getElem?_toArray, List.getElem?_cons_succ, List.getElem?_cons_zero, Option.bind_some, List.getD_cons_succ, List.getD_cons_zero]; exact rfl; simp (disch := omega) only [go_sem, hs, upd_ne, cal29, cal30, ctW_29, ctW_30, c29o, c30, rdE_dsl, woL_neg, pair_eta, hi1]; exact rfl; simp only [List.set_cons_succ, List.set_cons_zero, putA]; exact rfl)
    | with_reducible refine q_block ?_
    | with_reducible refine q_skip ?_
    | with_reducible refine q_ret ?_
    | with_reducible refine q_exit ?_
    | with_reducible refine q_thenR ?_
    | with_reducible refine q_thenE ?_
    | with_reducible refine q_blkN ?_
    | with_reducible refine q_blkR ?_
    | with_reducible refine q_blkE ?_
    | ((with_reducible apply q_cond); simp only [evA, List.getD_cons_succ, List.getD_cons_zero]; exact rfl)
    | with_reducible refine q_bT ?_
    | with_reducible refine q_bF ?_
    | ((with_reducible apply q_bifF); (first | rfl | decide | assumption))
    | ((with_reducible apply q_bifT); (first | rfl | decide | assumption))
    | with_reducible refine q_loop ?_)
      (apply q_end; simp (disch := omega) only [go_sem, Try.results43]; exact rfl; simp only [packA]; exact rfl)
      exact ⟨_, Wk.rfl', fin1 (fun q hq => by simp (disch := omega) only [upd_ne])⟩
    · repeat (first
    | with_reducible refine q_seq ?_
    | with_reducible refine q_reg ?_
    | with_reducible refine q_nil ?_
    | with_reducible refine q_thenN ?_
    | ((with_reducible apply q_cons rfl); simp (disch := omega) only [go_sem, hs, upd_ne, cal29, cal30, ctW_29, ctW_30, c29o, c30, rdE_dsl, woL_neg, pair_eta, hi1]; exact rfl; simp only [List.set_cons_succ, List.set_cons_zero, putA]; exact rfl)
    | ((with_reducible apply q_consF); simp only [aWanted, List.getElem?_toArray, List.getElem?_cons_succ, List.getElem?_cons_zero, Option.bind_some, List.getD_cons_succ, List.getD_cons_zero]; exact rfl; simp only [List.set_cons_succ, List.set_cons_zero, putA]; exact rfl)
    | ((with_reducible apply q_consT); simp only [aWanted, List.getElem?_toArray, List.getElem?_cons_succ, List.getElem?_cons_zero, Option.bind_some, List.getD_cons_succ, List.getD_cons_zero]; exact rfl; simp (disch := omega) only [go_sem, hs, upd_ne, cal29, cal30, ctW_29, ctW_30, c29o, c30, rdE_dsl, woL_neg, pair_eta, hi1]; exact rfl; simp only [List.set_cons_succ, List.set_cons_zero, putA]; exact rfl)
    | with_reducible refine q_block ?_
    | with_reducible refine q_skip ?_
    | with_reducible refine q_ret ?_
    | with_reducible refine q_exit ?_
    | with_reducible refine q_thenR ?_
    | with_reducible refine q_thenE ?_
    | with_reducible refine q_blkN ?_
    | with_reducible refine q_blkR ?_
    | with_reducible refine q_blkE ?_
    | ((with_reducible apply q_cond); simp only [evA, List.getD_cons_succ, List.getD_cons_zero]; exact rfl)
    | with_reducible refine q_bT ?_
    | with_reducible refine q_bF ?_
    | ((with_reducible apply q_bifF); (first | rfl | decide | assumption))
    | ((with_reducible apply q_bifT); (first | rfl | decide | assumption))
    | with_reducible refine q_loop ?_)
      (apply q_end; simp (disch := omega) only [go_sem, Try.results43]; exact rfl; simp only [packA]; exact rfl)
      exact ⟨_, Wk.rfl', fin1 (fun q hq => by simp (disch := omega) only [upd_ne])⟩
end Go.Proofs.Ytdcomhdadnhpnaa
