/- TableSets on the machine: does, agrees, and the law. -/
import Derived.Test.YtdcomhdadnhpnaaP17
set_option linter.unusedSimpArgs false
set_option linter.unusedVariables false
namespace Go.Proofs.Ytdcomhdadnhpnaa
open Go Go.Am Go.RowKit
attribute [local irreducible] wA opsQ opsLQ thenA blockA EndA
attribute [local go_sem] true_or aOp aStep aWanted evA putA begA packA aRes aRead bin_add bin_sub bin_mul bin_lss bin_leq bin_gtr bin_geq bin_quo bin_rem un_not aBuiltin aLen aLoad aStore aBox aAlloc
attribute [local go_sem] aCells AV.one Value.oneCell' cellsOut aIndexAddr aFieldAddr aField AV.parts? aNilCheck aExtract aSlice bnd aAppend aSrc aFill aZeros aMakeSlice AP.ofOption Value.cells
attribute [local go_sem] List.cons_append List.nil_append List.append_nil List.length_cons List.length_nil List.length_map List.replicate_succ List.replicate_zero List.set_cons_succ List.set_cons_zero
attribute [local go_sem] List.getD_cons_succ List.getD_cons_zero List.toList_toArray List.map_cons List.map_nil List.drop_zero List.drop_succ_cons List.drop_nil List.take_succ_cons List.take_zero
attribute [local go_sem] List.take_nil List.head?_cons List.head?_drop List.getElem?_map List.getElem?_cons_zero List.getElem?_cons_succ List.getElem?_eq_getElem Option.map_some Option.map_none
attribute [local go_sem] Option.bind_some List.all_cons List.all_nil Bool.and_true Bool.true_and Bool.and_self upd_same decide_true decide_false decide_eq_true_eq if_true if_false Bool.false_eq_true
attribute [local go_sem] Bool.true_eq_false ite_true ite_false true_and and_true and_self eq_self reduceCtorEq Bool.not_eq_true Bool.not_true Bool.not_false Bool.not_eq_false not_true_eq_false
attribute [local go_sem] not_false_eq_true Int.toNat_natCast Nat.zero_add Nat.add_zero Nat.mul_one Nat.zero_mul Nat.mul_zero Nat.one_mul Nat.zero_le Int.toNat_zero BEq.rfl beq_self_eq_true if_pos
attribute [local go_sem] if_neg decide_eq_true decide_eq_false sz3 ze3 by3 ag3 Try.underlying3 eqlT3 neqT3 sz4 ze4 by4 ag4 Try.underlying4 sz23 ze23 by23 ag23 Try.underlying23 eqlT23 neqT23
attribute [local go_sem] Try.underlying24 sz31 ze31 by31 ag31 Try.underlying31 Try.underlying33 sz41 ze41 by41 ag41 Try.underlying41 sz43 ze43 by43 ag43 fo43_0 fo43_1 bu43 Try.underlying43 sz50 ze50
attribute [local go_sem] by50 ag50 Try.underlying50 Try.underlying57 sz64 ze64 by64 ag64 fo64_0 fo64_1 fo64_2 fo64_3 bu64 Try.underlying64 sz66 ze66 by66 ag66 fo66_0 fo66_1 bu66 Try.underlying66 AP.run
attribute [local go_sem] List.size_toArray List.length_set AP.runL bs31 bs40 bs41 put1 put2

open Classical in
noncomputable def c45 : List AV → AP AV
  | [t] => rdK t fun l => if ValidL l then .ret (.tup [.sc (.int .i64 (tabN l : Nat)), .sc (.int .i64 0)]) else .ret (.tup [.sc (.int .i64 0), .sc (.int .i64 600)])
  | _ => .fail
noncomputable def c38 : List AV → AP AV
  | [t, .sc (.int .i64 h), .sc (.int .i64 x), .sc (.int .i64 v)] => rdK t fun l => .ret (.tup [.dsl (putF l h x v).1.length (ints (putF l h x v).1), .sc (.int .i64 (putF l h x v).2)])
  | _ => .fail
theorem a45 (args : List AV) : ACall Try.prog 45 args (c45 args) := by
  intro ρ H w vs hR hA s r H' s' hm
  unfold c45 at hm
  split at hm
  · obtain ⟨v0, rfl, hv0⟩ := reps1 hA
    obtain ⟨l, A, c, rfl, hr, _, hm⟩ := rdK_ok hR hv0 hm
    refine (countX_any A c l w hr).mono ?_
    rintro e w' ⟨(⟨h1, rfl⟩ | ⟨h1, rfl⟩), hb⟩
    · rw [if_neg h1] at hm
      simp only [AP.run, Option.some.injEq, Prod.mk.injEq] at hm
      obtain ⟨rfl, rfl, rfl⟩ := hm
      exact ⟨_, ρ, rfl, step_of_below hR hb, Rep.tup_iff.2 ⟨_, rfl, .cons (.sc _) (.cons (.sc _) .nil)⟩⟩
    · rw [if_pos h1] at hm
      simp only [AP.run, Option.some.injEq, Prod.mk.injEq] at hm
      obtain ⟨rfl, rfl, rfl⟩ := hm
      have hn : ati l 0 = ((tabN l : Nat) : Int) := (tab_h h1).n0
      rw [hn]
      exact ⟨_, ρ, rfl, step_of_below hR hb, Rep.tup_iff.2 ⟨_, rfl, .cons (.sc _) (.cons (.sc _) .nil)⟩⟩
  · simp [AP.run] at hm
theorem a38 (args : List AV) : ACall Try.prog 38 args (c38 args) := by
  intro ρ H w vs hR hA s r H' s' hm
  unfold c38 at hm
  split at hm
  · rename_i t h x v
    obtain ⟨v0, tl, rfl, hv0, hA1⟩ := Reps.uncons hA
    obtain ⟨v1, tl1, rfl, hv1, hA2⟩ := Reps.uncons hA1
    obtain ⟨v2, tl2, rfl, hv2, hA3⟩ := Reps.uncons hA2
    obtain ⟨v3, tl3, rfl, hv3, hA4⟩ := Reps.uncons hA3
    obtain rfl := reps0 hA4
    obtain rfl := Rep.sc_iff.1 hv1
    obtain rfl := Rep.sc_iff.1 hv2
    obtain rfl := Rep.sc_iff.1 hv3
    obtain ⟨l, A, c, rfl, hr, _, hm⟩ := rdK_ok hR hv0 hm
    simp only [AP.run, Option.some.injEq, Prod.mk.injEq] at hm
    obtain ⟨rfl, rfl, rfl⟩ := hm
    refine (putX_any A c l h x v w hr).mono ?_
    rintro e w' ⟨(⟨c, hc, rfl, hq⟩ | ⟨B, cap, l', rfl, hw, hq⟩), hb⟩
    · rw [putF_eq hq]
      exact ⟨_, ρ, rfl, step_of_below hR hb, Rep.tup_iff.2 ⟨_, rfl, .cons (.dnil (Nat.le_refl _)) (.cons (.sc _) .nil)⟩⟩
    · rw [putF_eq hq]
      exact ⟨_, ρ, rfl, step_of_below hR hb, Rep.tup_iff.2 ⟨_, rfl, .cons (rep_rw hw (fun b hb => hR.own_lt hb)) (.cons (.sc _) .nil)⟩⟩
  · simp [AP.run] at hm
noncomputable def ctP : CT := fun f args => if f = 38 then c38 args else if f = 45 then c45 args else ctT f args
theorem ctP_ok : CTok Try.prog ctP := fun f args => by
  unfold ctP
  split
  · rename_i e; subst e; exact a38 args
  split
  · rename_i e; subst e; exact a45 args
  · exact ctT_ok f args
theorem ctP_24 (a : List AV) : ctP 24 a = c24 a := rfl
theorem ctP_26 (a : List AV) : ctP 26 a = c26 a := rfl
theorem ctP_27 (a : List AV) : ctP 27 a = c27 a := rfl
theorem ctP_36 (a : List AV) : ctP 36 a = c36 a := rfl
theorem ctP_38 (a : List AV) : ctP 38 a = c38 a := rfl
theorem ctP_45 (a : List AV) : ctP 45 a = c45 a := rfl
theorem cal24 : callable Try.prog 24 = true := by kernel_rfl
theorem cal26 : callable Try.prog 26 = true := by kernel_rfl
theorem cal27 : callable Try.prog 27 = true := by kernel_rfl
theorem cal36 : callable Try.prog 36 = true := by kernel_rfl
theorem cal38 : callable Try.prog 38 = true := by kernel_rfl

theorem ints_inS {K : Nat → Prop} (n : Nat) (l : List Int) : (AV.dsl n (ints l)).inS K := inSL_iff.2 fun a ha => by
  obtain ⟨x, _, rfl⟩ := List.mem_map.1 ha
  trivial
theorem Pub.tup2 {H : AHp} {K : Nat → Prop} {N : Nat → Option (Nat × Nat)} {a a' b b' : AV} (h : Pub H K N a a') (k : Pub H K N b b') : Pub H K N (.tup [a, b]) (.tup [a', b']) := by
  refine .tup rfl (fun i x y hx hy => ?_)
  match i with
  | 0 => simp at hx hy; subst hx; subst hy; exact h
  | 1 => simp at hx hy; subst hx; subst hy; exact k
  | i + 2 => simp at hx
set_option maxRecDepth 100000 in
set_option maxHeartbeats 1000000 in
theorem does_call (K h0 w0 V : Int) (e : Int × Int) (t : List Int) :
    ACall Try.prog 44 [.agg [.sc (.int .i64 K), .sc (.int .i64 h0), .sc (.int .i64 w0), .sc (.int .i64 V)], elG e, .dsl t.length (ints t)] (.ret (.tup [.dsl (doesF K V e t).1.length (ints (doesF K V e t).1), .sc (.int .i64 (doesF K V e t).2)])) := by
  refine acall_pure' hmix ctP_ok Try.func44 rfl (by kernel_rfl) (fun E s hs => ?_)
  simp (maxSteps := 300000) only [begA, Try.ntmps44, List.replicate_succ, List.replicate_zero, List.length_cons, List.length_nil, List.cons_append, List.nil_append]
  have fin1 : ∀ {H1 : AHp} {L' : List Int} {x : Int}, (∀ q, q < s → H1 q = E.H q) → PureEnd E (.tup [.dsl L'.length (ints L'), .sc (.int .i64 x)]) (.tup [.dsl L'.length (ints L'), .sc (.int .i64 x)]) H1 := fun h => ⟨fun q hq => h q (Nat.lt_of_not_le fun hle => hq (hs q hle)), Pub.tup2 (.same (ints_inS _ _)) (Pub.sc _)⟩
  unfold doesF
  by_cases hK : K = 0
  · rw [if_pos hK]
    repeat (first
    | with_reducible refine q_seq ?_
    | with_reducible refine q_reg ?_
    | with_reducible refine q_nil ?_
    | with_reducible refine q_thenN ?_
    | ((with_reducible apply q_cons rfl); simp (disch := omega) only [go_sem, hs, upd_ne, cal24, ctP_24, c24, rdK_dsl]; exact rfl; simp only [List.set_cons_succ, List.set_cons_zero, putA]; exact rfl)
    | with_reducible refine q_block ?_
    | with_reducible refine q_skip ?_
    | with_reducible refine q_ret ?_
    | with_reducible refine q_exit ?_
    | with_reducible refine q_thenR ?_
    | with_reducible refine q_thenE ?_
    | with_reducible refine q_blkN ?_
    | with_reducible refine q_blkR ?_
    | with_reducible refine q_blkE ?_
    | ((with_reducible apply q_cond); simp only [evA, List.getD_cons_succ, List.getD_cons_zero]; exact rfl)
    | with_reducible refine q_bT ?_
    | with_reducible refine q_bF ?_
    | ((with_reducible apply q_bifF); (first | rfl | decide | assumption))
    | ((with_reducible apply q_bifT); (first | rfl | decide | assumption))
    | with_reducible refine q_loop ?_)
    (apply q_end; simp only [aRes, Try.results44, List.toList_toArray, List.getD_cons_succ, List.getD_cons_zero]; exact rfl; simp only [packA]; exact rfl)
    exact fin1 (fun q hq => by simp (disch := omega) only [upd_ne])
  by_cases hK1 : K = 1
  · rw [if_neg hK, if_pos hK1]
    repeat (first
    | with_reducible refine q_seq ?_
    | with_reducible refine q_reg ?_
    | with_reducible refine q_nil ?_
    | with_reducible refine q_thenN ?_
    | ((with_reducible apply q_cons rfl); simp (disch := omega) only [go_sem, hs, upd_ne, cal27, ctP_27, c27, rdK_dsl]; exact rfl; simp only [List.set_cons_succ, List.set_cons_zero, putA]; exact rfl)
    | with_reducible refine q_block ?_
    | with_reducible refine q_skip ?_
    | with_reducible refine q_ret ?_
    | with_reducible refine q_exit ?_
    | with_reducible refine q_thenR ?_
    | with_reducible refine q_thenE ?_
    | with_reducible refine q_blkN ?_
    | with_reducible refine q_blkR ?_
    | with_reducible refine q_blkE ?_
    | ((with_reducible apply q_cond); simp only [evA, List.getD_cons_succ, List.getD_cons_zero]; exact rfl)
    | with_reducible refine q_bT ?_
    | with_reducible refine q_bF ?_
    | ((with_reducible apply q_bifF); (first | rfl | decide | assumption))
    | ((with_reducible apply q_bifT); (first | rfl | decide | assumption))
    | with_reducible refine q_loop ?_)
    (apply q_end; simp only [aRes, Try.results44, List.toList_toArray, List.getD_cons_succ, List.getD_cons_zero]; exact rfl; simp only [packA]; exact rfl)
    exact fin1 (fun q hq => by simp (disch := omega) only [upd_ne])
  · rw [if_neg hK, if_neg hK1]
    repeat (first
    | with_reducible refine q_seq ?_
    | with_reducible refine q_reg ?_
    | with_reducible refine q_nil ?_
    | with_reducible refine q_thenN ?_
    | ((with_reducible apply q_cons rfl); simp (disch := omega) only [go_sem, hs, upd_ne, cal38, ctP_38, c38, rdK_dsl]; exact rfl; simp only [List.set_cons_succ, List.set_cons_zero, putA]; exact rfl)
    | with_reducible refine q_block ?_
    | with_reducible refine q_skip ?_
    | with_reducible refine q_ret ?_
    | with_reducible refine q_exit ?_
    | with_reducible refine q_thenR ?_
    | with_reducible refine q_thenE ?_
    | with_reducible refine q_blkN ?_
    | with_reducible refine q_blkR ?_
    | with_reducible refine q_blkE ?_
    | ((with_reducible apply q_cond); simp only [evA, List.getD_cons_succ, List.getD_cons_zero]; exact rfl)
    | with_reducible refine q_bT ?_
    | with_reducible refine q_bF ?_
    | ((with_reducible apply q_bifF); (first | rfl | decide | assumption))
    | ((with_reducible apply q_bifT); (first | rfl | decide | assumption))
    | with_reducible refine q_loop ?_)
    (apply q_end; simp only [aRes, Try.results44, List.toList_toArray, List.getD_cons_succ, List.getD_cons_zero]; exact rfl; simp only [packA]; exact rfl)
    exact fin1 (fun q hq => by simp (disch := omega) only [upd_ne])

theorem ints_all (l : List Int) : (ints l).all AV.one = true := by
  induction l with
  | nil => rfl
  | cons x l ih => simp only [List.map_cons, List.all_cons, AV.one, Value.oneCell', Bool.true_and]; exact ih
theorem ints_take (l : List Int) : (ints l).take l.length = ints l := List.take_of_length_le (by simp)
theorem ints_len (l : List Int) : (ints l).length = l.length := by simp
theorem wof_take {L : List (Int × Int)} {h : Int} {j : Nat} (hj : j < L.length) : wof (L.take (j + 1)) h = wof (L.take j) h ++ (if L[j].1 = h then [L[j].2] else []) := by
  rw [List.take_succ_eq_append_getElem hj, wof_append, wof_cons, wof_nil, List.append_nil]
theorem wof_le (L : List (Int × Int)) (h : Int) : (wof L h).length ≤ L.length := by unfold wof; rw [List.length_map]; exact List.length_filter_le _ _
theorem rdK_sl {H : AHp} {s nm ver : Nat} {l : List Int} (h : H nm = some (.row ver 1 (ints l))) (k : List Int → AP AV) : (rdK (.sl nm ver 0 l.length) k).run H s = (k l).run H s := by
  simp only [rdK, AP.run, h, List.drop_zero, ints_take, intsOf_ints, true_and, and_self, if_true]
set_option maxRecDepth 100000 in
set_option maxHeartbeats 1000000 in
theorem agrees_call (t : List Int) (L : List (Int × Int)) (h : Int) (hV : ValidL t) (hW : wds t h = wof L h) (hL : L.length ≤ 100000) :
    ACall Try.prog 46 [.dsl t.length (ints t), .dsl L.length (elsA L), .sc (.int .i64 h)] (.ret (.sc (.bool true))) := by
  refine acall_pure' hmix ctP_ok Try.func46 rfl (by kernel_rfl) (fun E s hs => ?_)
  simp (maxSteps := 300000) only [begA, Try.ntmps46, List.replicate_succ, List.replicate_zero, List.length_cons, List.length_nil, List.cons_append, List.nil_append]
  repeat (first
    | with_reducible refine q_seq ?_
    | with_reducible refine q_reg ?_
    | with_reducible refine q_nil ?_
    | with_reducible refine q_thenN ?_
    | ((with_reducible apply q_cons rfl); simp (disch := omega) only [go_sem]; exact rfl; simp only [List.set_cons_succ, List.set_cons_zero, putA]; exact rfl)
    | with_reducible refine q_block ?_
    | with_reducible refine q_skip ?_
    | with_reducible refine q_ret ?_
    | with_reducible refine q_exit ?_
    | with_reducible refine q_thenR ?_
    | with_reducible refine q_thenE ?_
    | with_reducible refine q_blkN ?_
    | with_reducible refine q_blkR ?_
    | with_reducible refine q_blkE ?_
    | ((with_reducible apply q_cond); simp only [evA, List.getD_cons_succ, List.getD_cons_zero]; exact rfl)
    | with_reducible refine q_bT ?_
    | with_reducible refine q_bF ?_
    | ((with_reducible apply q_bifF); (first | rfl | decide | assumption))
    | ((with_reducible apply q_bifT); (first | rfl | decide | assumption))
    | with_reducible refine q_loop ?_)
  refine AWp.loop [0, 1, 2, 7, 8] (fun Γ H s' m => ∃ (j : Nat) (v : AV), j ≤ L.length ∧ m = L.length - j ∧ Γ = [.dsl t.length (ints t), .dsl L.length (elsA L), .sc (.int .i64 h)] ++ (List.replicate 4 .junk) ++ [v, .sc (.int .i64 (j : Nat))] ++ (List.replicate 51 .junk) ∧ OwnE E s 1 v H s' (ints (wof (L.take j) h)) (wof (L.take j) h).length) L.length ?_ ?_
  · exact ⟨0, _, Nat.zero_le _, rfl, rfl, OwnE.start hs⟩
  rintro Γ H s1 m ⟨j, v, hj, rfl, rfl, hO⟩
  refine wA_ok hmix ctP_ok _ (by kernel_rfl) ?_
  simp (maxSteps := 1000000) only [List.replicate_succ, List.replicate_zero, List.cons_append, List.nil_append, List.append_nil]
  by_cases hlt : j < L.length
  · have hwt := wof_take (h := h) hlt
    have hwl := wof_le (L.take j) h
    have htl : (L.take j).length ≤ j := by rw [List.length_take]; omega
    by_cases he : L[j].1 = h
    · rw [if_pos he] at hwt
      obtain ⟨hss, hf, hE, ⟨h0, hcs, rfl⟩ | ⟨nm, ver, h0, rfl, hH, hlt2, hEn⟩⟩ := hO
      · repeat (first
    | with_reducible refine q_seq ?_
    | with_reducible refine q_reg ?_
    | with_reducible refine q_nil ?_
    | with_reducible refine q_thenN ?_
    | ((with_reducible apply q_cons rfl); simp (disch := omega) only [go_sem, elsA_len, elsA_drop, hf, upd_ne, he]; exact rfl; simp only [List.set_cons_succ, List.set_cons_zero, putA]; exact rfl)
    | with_reducible refine q_block ?_
    | with_reducible refine q_skip ?_
    | with_reducible refine q_ret ?_
    | with_reducible refine q_exit ?_
    | with_reducible refine q_thenR ?_
    | with_reducible refine q_thenE ?_
    | with_reducible refine q_blkN ?_
    | with_reducible refine q_blkR ?_
    | with_reducible refine q_blkE ?_
    | ((with_reducible apply q_cond); simp only [evA, List.getD_cons_succ, List.getD_cons_zero]; exact rfl)
    | with_reducible refine q_bT ?_
    | with_reducible refine q_bF ?_
    | ((with_reducible apply q_bifF); (first | rfl | decide | assumption))
    | ((with_reducible apply q_bifT); (first | rfl | decide | assumption))
    | with_reducible refine q_loop ?_)
        refine ⟨L.length - (j + 1), by omega, j + 1, _, by omega, rfl, rfl, ?_⟩
        rw [hwt, List.length_eq_zero_iff.1 h0]
        refine ⟨by omega, fun q hq => ?_, fun q hq => ?_, .inr ⟨_, _, by simp, rfl, upd_same _ _ _, by omega, by omega⟩⟩
        · rw [upd_ne _ _ (by omega), upd_ne _ _ (by omega)]; exact hf q (by omega)
        · rw [upd_ne _ _ (by omega), upd_ne _ _ (by omega)]; exact hE q hq
      · repeat (first
    | with_reducible refine q_seq ?_
    | with_reducible refine q_reg ?_
    | with_reducible refine q_nil ?_
    | with_reducible refine q_thenN ?_
    | ((with_reducible apply q_cons rfl); simp (disch := omega) only [go_sem, elsA_len, elsA_drop, hf, hH, upd_ne, he, ints_take, ints_len, ints_all]; exact rfl; simp only [List.set_cons_succ, List.set_cons_zero, putA]; exact rfl)
    | with_reducible refine q_block ?_
    | with_reducible refine q_skip ?_
    | with_reducible refine q_ret ?_
    | with_reducible refine q_exit ?_
    | with_reducible refine q_thenR ?_
    | with_reducible refine q_thenE ?_
    | with_reducible refine q_blkN ?_
    | with_reducible refine q_blkR ?_
    | with_reducible refine q_blkE ?_
    | ((with_reducible apply q_cond); simp only [evA, List.getD_cons_succ, List.getD_cons_zero]; exact rfl)
    | with_reducible refine q_bT ?_
    | with_reducible refine q_bF ?_
    | ((with_reducible apply q_bifF); (first | rfl | decide | assumption))
    | ((with_reducible apply q_bifT); (first | rfl | decide | assumption))
    | with_reducible refine q_loop ?_)
        refine ⟨L.length - (j + 1), by omega, j + 1, _, by omega, rfl, rfl, ?_⟩
        rw [hwt]
        refine ⟨by omega, fun q hq => ?_, fun q hq => ?_, .inr ⟨nm, ver + 1, by simp, by rw [List.length_append]; rfl, by rw [upd_same]; simp [List.take_of_length_le], by omega, hEn⟩⟩
        · rw [upd_ne _ _ (by omega), upd_ne _ _ (by omega)]; exact hf q (by omega)
        · rw [upd_ne _ _ (by omega), upd_ne _ _ (by omega)]; exact hE q hq
    · rw [if_neg he, List.append_nil] at hwt
      repeat (first
    | with_reducible refine q_seq ?_
    | with_reducible refine q_reg ?_
    | with_reducible refine q_nil ?_
    | with_reducible refine q_thenN ?_
    | ((with_reducible apply q_cons rfl); simp (disch := omega) only [go_sem, elsA_len, elsA_drop, he]; exact rfl; simp only [List.set_cons_succ, List.set_cons_zero, putA]; exact rfl)
    | with_reducible refine q_block ?_
    | with_reducible refine q_skip ?_
    | with_reducible refine q_ret ?_
    | with_reducible refine q_exit ?_
    | with_reducible refine q_thenR ?_
    | with_reducible refine q_thenE ?_
    | with_reducible refine q_blkN ?_
    | with_reducible refine q_blkR ?_
    | with_reducible refine q_blkE ?_
    | ((with_reducible apply q_cond); simp only [evA, List.getD_cons_succ, List.getD_cons_zero]; exact rfl)
    | with_reducible refine q_bT ?_
    | with_reducible refine q_bF ?_
    | ((with_reducible apply q_bifF); (first | rfl | decide | assumption))
    | ((with_reducible apply q_bifT); (first | rfl | decide | assumption))
    | with_reducible refine q_loop ?_)
      exact ⟨L.length - (j + 1), by omega, j + 1, _, by omega, rfl, rfl, by rw [hwt]; exact hO⟩
  · obtain rfl : j = L.length := by omega
    rw [List.take_length] at hO
    have hk := hO.keep hs
    have hwl := wof_le L h
    by_cases hh : okH h
    · obtain ⟨hf1, hf2⟩ := findF_wds hV hh
      rw [hW] at hf1
      obtain ⟨hss, hf, hE, ⟨h0, hcs, rfl⟩ | ⟨nm, ver, h0, rfl, hH, hlt2, hEn⟩⟩ := hO
      · have hw0 : wof L h = [] := List.length_eq_zero_iff.1 h0
        repeat (first
    | with_reducible refine q_seq ?_
    | with_reducible refine q_reg ?_
    | with_reducible refine q_nil ?_
    | with_reducible refine q_thenN ?_
    | ((with_reducible apply q_cons rfl); simp (disch := omega) only [go_sem, cal26, cal36, ctP_26, ctP_36, c26, c36, rdK_dsl, rdK_nil, hf1, hf2, hw0, ↓rdK_nil]; exact rfl; simp only [List.set_cons_succ, List.set_cons_zero, putA]; exact rfl)
    | ((with_reducible apply q_consF); simp only [aWanted, List.getElem?_toArray, List.getElem?_cons_succ, List.getElem?_cons_zero, Option.bind_some, List.getD_cons_succ, List.getD_cons_zero]; exact rfl; simp only [List.set_cons_succ, List.set_cons_zero, putA]; exact rfl)
    | ((with_reducible apply q_consT); simp only [aWanted, List.getElem?_toArray, List.getElem?_cons_succ, List.getElem?_cons_zero, Option.bind_some, List.getD_cons_succ, List.getD_cons_zero]; exact rfl; simp (disch := omega) only [go_sem, cal26, cal36, ctP_26, ctP_36, c26, c36, rdK_dsl, rdK_nil, hf1, hf2, hw0, ↓rdK_nil]; exact rfl; simp only [List.set_cons_succ, List.set_cons_zero, putA]; exact rfl)
    | with_reducible refine q_block ?_
    | with_reducible refine q_skip ?_
    | with_reducible refine q_ret ?_
    | with_reducible refine q_exit ?_
    | with_reducible refine q_thenR ?_
    | with_reducible refine q_thenE ?_
    | with_reducible refine q_blkN ?_
    | with_reducible refine q_blkR ?_
    | with_reducible refine q_blkE ?_
    | ((with_reducible apply q_cond); simp only [evA, List.getD_cons_succ, List.getD_cons_zero]; exact rfl)
    | with_reducible refine q_bT ?_
    | with_reducible refine q_bF ?_
    | ((with_reducible apply q_bifF); (first | rfl | decide | assumption))
    | ((with_reducible apply q_bifT); (first | rfl | decide | assumption))
    | with_reducible refine q_loop ?_)
        (apply q_end; simp only [aRes, Try.results46, List.toList_toArray, List.getD_cons_succ, List.getD_cons_zero]; exact rfl; simp only [packA]; exact rfl)
        exact ⟨hk, Pub.sc _⟩
      · have hrd := fun k s => rdK_sl (s := s) hH k
        repeat (first
    | with_reducible refine q_seq ?_
    | with_reducible refine q_reg ?_
    | with_reducible refine q_nil ?_
    | with_reducible refine q_thenN ?_
    | ((with_reducible apply q_cons rfl); simp (disch := omega) only [go_sem, cal26, cal36, ctP_26, ctP_36, c26, c36, rdK_dsl, hrd, hf1, hf2]; exact rfl; simp only [List.set_cons_succ, List.set_cons_zero, putA]; exact rfl)
    | ((with_reducible apply q_consF); simp only [aWanted, List.getElem?_toArray, List.getElem?_cons_succ, List.getElem?_cons_zero, Option.bind_some, List.getD_cons_succ, List.getD_cons_zero]; exact rfl; simp only [List.set_cons_succ, List.set_cons_zero, putA]; exact rfl)
    | ((with_reducible apply q_consT); simp only [aWanted, List.getElem?_toArray, List.getElem?_cons_succ, List.getElem?_cons_zero, Option.bind_some, List.getD_cons_succ, List.getD_cons_zero]; exact rfl; simp (disch := omega) only [go_sem, cal26, cal36, ctP_26, ctP_36, c26, c36, rdK_dsl, hrd, hf1, hf2]; exact rfl; simp only [List.set_cons_succ, List.set_cons_zero, putA]; exact rfl)
    | with_reducible refine q_block ?_
    | with_reducible refine q_skip ?_
    | with_reducible refine q_ret ?_
    | with_reducible refine q_exit ?_
    | with_reducible refine q_thenR ?_
    | with_reducible refine q_thenE ?_
    | with_reducible refine q_blkN ?_
    | with_reducible refine q_blkR ?_
    | with_reducible refine q_blkE ?_
    | ((with_reducible apply q_cond); simp only [evA, List.getD_cons_succ, List.getD_cons_zero]; exact rfl)
    | with_reducible refine q_bT ?_
    | with_reducible refine q_bF ?_
    | ((with_reducible apply q_bifF); (first | rfl | decide | assumption))
    | ((with_reducible apply q_bifT); (first | rfl | decide | assumption))
    | with_reducible refine q_loop ?_)
        (apply q_end; simp only [aRes, Try.results46, List.toList_toArray, List.getD_cons_succ, List.getD_cons_zero]; exact rfl; simp only [packA]; exact rfl)
        exact ⟨hk, Pub.sc _⟩
    · have hfb : findF t h = ([], 0, 1) := by unfold findF; rw [if_neg (fun h => h hV), if_pos hh]
      by_cases h1 : h < 0
      · repeat (first
    | with_reducible refine q_seq ?_
    | with_reducible refine q_reg ?_
    | with_reducible refine q_nil ?_
    | with_reducible refine q_thenN ?_
    | ((with_reducible apply q_cons rfl); simp (disch := omega) only [go_sem, cal26, ctP_26, c26, rdK_dsl, hfb]; exact rfl; simp only [List.set_cons_succ, List.set_cons_zero, putA]; exact rfl)
    | ((with_reducible apply q_consF); simp only [aWanted, List.getElem?_toArray, List.getElem?_cons_succ, List.getElem?_cons_zero, Option.bind_some, List.getD_cons_succ, List.getD_cons_zero]; exact rfl; simp only [List.set_cons_succ, List.set_cons_zero, putA]; exact rfl)
    | ((with_reducible apply q_consT); simp only [aWanted, List.getElem?_toArray, List.getElem?_cons_succ, List.getElem?_cons_zero, Option.bind_some, List.getD_cons_succ, List.getD_cons_zero]; exact rfl; simp (disch := omega) only [go_sem, cal26, ctP_26, c26, rdK_dsl, hfb]; exact rfl; simp only [List.set_cons_succ, List.set_cons_zero, putA]; exact rfl)
    | with_reducible refine q_block ?_
    | with_reducible refine q_skip ?_
    | with_reducible refine q_ret ?_
    | with_reducible refine q_exit ?_
    | with_reducible refine q_thenR ?_
    | with_reducible refine q_thenE ?_
    | with_reducible refine q_blkN ?_
    | with_reducible refine q_blkR ?_
    | with_reducible refine q_blkE ?_
    | ((with_reducible apply q_cond); simp only [evA, List.getD_cons_succ, List.getD_cons_zero]; exact rfl)
    | with_reducible refine q_bT ?_
    | with_reducible refine q_bF ?_
    | ((with_reducible apply q_bifF); (first | rfl | decide | assumption))
    | ((with_reducible apply q_bifT); (first | rfl | decide | assumption))
    | with_reducible refine q_loop ?_)
        (apply q_end; simp only [aRes, Try.results46, List.toList_toArray, List.getD_cons_succ, List.getD_cons_zero]; exact rfl; simp only [packA]; exact rfl)
        exact ⟨hk, Pub.sc _⟩
      · repeat (first
    | with_reducible refine q_seq ?_
    | with_reducible refine q_reg ?_
    | with_reducible refine q_nil ?_
    | with_reducible refine q_thenN ?_
    | ((with_reducible apply q_cons rfl); simp (disch := omega) only [go_sem, cal26, ctP_26, c26, rdK_dsl, hfb]; exact rfl; simp only [List.set_cons_succ, List.set_cons_zero, putA]; exact rfl)
    | ((with_reducible apply q_consF); simp only [aWanted, List.getElem?_toArray, List.getElem?_cons_succ, List.getElem?_cons_zero, Option.bind_some, List.getD_cons_succ, List.getD_cons_zero]; exact rfl; simp only [List.set_cons_succ, List.set_cons_zero, putA]; exact rfl)
    | ((with_reducible apply q_consT); simp only [aWanted, List.getElem?_toArray, List.getElem?_cons_succ, List.getElem?_cons_zero, Option.bind_some, List.getD_cons_succ, List.getD_cons_zero]; exact rfl; simp (disch := omega) only [go_sem, cal26, ctP_26, c26, rdK_dsl, hfb]; exact rfl; simp only [List.set_cons_succ, List.set_cons_zero, putA]; exact rfl)
    | with_reducible refine q_block ?_
    | with_reducible refine q_skip ?_
    | with_reducible refine q_ret ?_
    | with_reducible refine q_exit ?_
    | with_reducible refine q_thenR ?_
    | with_reducible refine q_thenE ?_
    | with_reducible refine q_blkN ?_
    | with_reducible refine q_blkR ?_
    | with_reducible refine q_blkE ?_
    | ((with_reducible apply q_cond); simp only [evA, List.getD_cons_succ, List.getD_cons_zero]; exact rfl)
    | with_reducible refine q_bT ?_
    | with_reducible refine q_bF ?_
    | ((with_reducible apply q_bifF); (first | rfl | decide | assumption))
    | ((with_reducible apply q_bifT); (first | rfl | decide | assumption))
    | with_reducible refine q_loop ?_)
        (apply q_end; simp only [aRes, Try.results46, List.toList_toArray, List.getD_cons_succ, List.getD_cons_zero]; exact rfl; simp only [packA]; exact rfl)
        exact ⟨hk, Pub.sc _⟩
end Go.Proofs.Ytdcomhdadnhpnaa
