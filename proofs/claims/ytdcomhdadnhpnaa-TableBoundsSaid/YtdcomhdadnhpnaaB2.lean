/- TableBounds, run on the machine. -/
import Derived.Test.YtdcomhdadnhpnaaMB
import Derived.Test.YtdcomhdadnhpnaaM8
set_option linter.unusedSimpArgs false
set_option linter.unusedVariables false
namespace Go.Proofs.Ytdcomhdadnhpnaa
open Go Go.Am Go.RowKit
attribute [local irreducible] wA opsQ opsLQ thenA blockA EndA

theorem bin_remT {P : Program} {t : TypeId} {xo yo : Operand} {x y : Int} (h : y ≠ 0) : aBin P .rem t xo yo (.sc (.int .i64 x)) (.sc (.int .i64 y)) = .ret (.sc (.int .i64 (x.tmod y))) := by
  simp [aBin, isEqOp, aG2, AV.val?, eqGuard, binOp, Op.intDiv, h, AP.ofOption, pureRun_pure]

/-- k numbers from a on -/
def runF (a : Int) (k : Nat) : List Int := (List.range k).map fun i => a + (i : Nat)
theorem runF_len (a : Int) (k : Nat) : (runF a k).length = k := by simp [runF]
/-- a list of k numbers that the call has built, by single appends, from name s on -/
def HsI (E : Ent) (s k : Nat) (v : AV) (H : AHp) (s' : Nat) (L : List Int) : Prop :=
  (k = 0 ∧ v = .sc (.slice none 0 0) ∧ H = E.H ∧ s' = s ∧ ∀ n, s ≤ n → H n = none) ∨
  (∃ k0, k = k0 + 1 ∧ v = .sl (s + 1) k0 0 (k0 + 1) ∧ H (s + 1) = some (.row k0 1 (ints L)) ∧ (s + 1 < s' ∧ ∀ n, s' ≤ n → H n = none) ∧ ∀ n, E.H n ≠ none → H n = E.H n)
/-- what holds when i elements are in the table -/
structure TBI (first : Int) (N i : Nat) (hs lt : List Int) : Prop where
  len : hs.length = N
  nd : hs.Nodup
  rng : ∀ x ∈ hs, first ≤ x ∧ x < first + (N : Int)
  head : HeadOk lt i
  g : ∃ C, G lt i (bkts i) C
  el : ∀ r, r < i → ati lt (recAt r) = ati hs r ∧ ati lt (recAt r + 1) = (r : Int)
theorem tbi_start (first : Int) (N : Nat) : TBI first N 0 (runF first N) freshL := by
  refine ⟨runF_len _ _, ?_, fun x hx => ?_, freshL_head, ⟨_, freshL_g⟩, fun r hr => absurd hr (by omega)⟩
  · unfold runF
    exact List.pairwise_map.2 (List.nodup_range.imp (fun {a b} h e => h (by omega)))
  · unfold runF at hx
    obtain ⟨i, hi, rfl⟩ := List.mem_map.1 hx
    have := List.mem_range.1 hi
    omega
theorem TBI.llen {first : Int} {N i : Nat} {hs lt : List Int} (h : TBI first N i hs lt) : lt.length = wlen i := h.head.len
theorem ati_get {l : List Int} {i : Nat} (h : i < l.length) : ati l i = l[i] := by unfold ati; simp [h]
theorem tbi_step {first : Int} {N i kk : Nat} {hs lt : List Int} (hT : TBI first N i hs lt) (hi : i < N) (hk1 : i ≤ kk) (hk2 : kk < hs.length) (hN : N ≤ 300) (h0 : 0 ≤ first) (h1 : first + (N : Int) ≤ 2147483647) :
    (addF lt hs[kk] (i : Int)).2.2 = 0 ∧ TBI first N (i + 1) ((hs.set kk (hs[i]'(by have := hT.len; omega))).set i hs[kk]) (addF lt hs[kk] (i : Int)).2.1 := by
  have hlen := hT.len
  obtain ⟨C0, g0⟩ := hT.g
  have hV : ValidL lt := g_validL hT.head g0
  have g := tab_g hV
  have hH := tab_h hV
  have hn : tabN lt = i := tab_n hT.head
  rw [hn] at g hH
  have hx := hT.rng hs[kk] (List.getElem_mem _)
  have hh : 0 ≤ hs[kk] ∧ hs[kk] ≤ 2147483647 := by omega
  have hb := bkt_lt hs[kk].toNat (b := bkts i) (by have := bkts8 i; omega)
  have hinj : ∀ r, r < i → ati hs r ≠ hs[kk] := fun r hr e => by
    rw [ati_get (by omega)] at e
    have := (List.getElem_inj hT.nd).1 e
    omega
  have hno : hasR lt hs[kk] (i : Int) (tabC lt (bkt hs[kk].toNat (bkts i))) = false := by
    unfold hasR
    rw [List.any_eq_false]
    intro r hr e
    have e2 := of_decide_eq_true e
    exact hinj r (g.lt hb hr) ((hT.el r (g.lt hb hr)).1.symm.trans e2.1)
  have hz : (addR lt i (tabC lt) hs[kk] (i : Int)).2.1 = 0 := by
    unfold addR
    rw [if_neg (by simpa using hh), if_neg (by rw [hno]; simp), if_neg (by omega)]
    split <;> rfl
  have hA := addF_ok (x := (i : Int)) hV hh
  rw [hn, if_pos hz] at hA
  rw [hA]
  obtain ⟨_, _, _, k1, k2, k3⟩ := g.add hH hz
  have hp := List.set_set_perm hk2 (show i < hs.length by omega)
  refine ⟨hz, by simp [hlen], hp.nodup_iff.2 hT.nd, fun x hx => hT.rng x (hp.mem_iff.1 hx), k1, ⟨_, k2⟩, fun r hr => ⟨(k3 r hr 0 (by omega)).trans ?_, (k3 r hr 1 (by omega)).trans ?_⟩⟩
  · by_cases e : r = i
    · subst e
      rw [if_pos rfl, if_pos rfl, ati_set_eq (by rw [List.length_set]; omega)]
    · rw [if_neg e, ati_set_ne (by omega), ati_set_ne (by omega)]
      exact (hT.el r (by omega)).1
  · by_cases e : r = i
    · subst e
      rw [if_pos rfl, if_neg (by omega)]
    · rw [if_neg e]
      exact (hT.el r (by omega)).2
theorem TBI.cons {first : Int} {N i : Nat} {hs lt : List Int} (hT : TBI first N i hs lt) (hi : i ≤ N) (h0 : 0 ≤ first) : Cons lt i first.toNat N := by
  have hlen := hT.len
  refine ⟨fun r hr => ?_, fun r hr q hq e => ?_⟩
  · rw [(hT.el r hr).1, ati_get (by omega)]
    have := hT.rng hs[r] (List.getElem_mem _)
    omega
  · rw [(hT.el r hr).1, (hT.el q hq).1, ati_get (by omega), ati_get (by omega)] at e
    exact (List.getElem_inj hT.nd).1 e
theorem tb_end {first : Int} {N : Nat} {hs lt : List Int} (hT : TBI first N N hs lt) (hN : N ≤ 300) (h0 : 0 ≤ first) (h1 : first + (N : Int) ≤ 2147483647) :
    ValidL lt ∧ (∀ j, j < (chainsF lt).length → ∀ c ∈ (chainsF lt)[j]?, c.length ≤ 4) ∧ (∀ h : Int, 0 ≤ h ∧ h ≤ 2147483647 → (findF lt h).2.2 = 0 ∧ (findF lt h).2.1 ≤ 4) ∧
      ((addF lt (first + (N : Int)) 0).2.2 = 0 ∧ (addF lt (first + (N : Int)) 0).1 ≤ 8) ∧ ∀ r (hr : r < hs.length), (dropF lt hs[r] (r : Int)).2.2 = 0 ∧ (dropF lt hs[r] (r : Int)).1 ≤ 12 := by
  have hlen := hT.len
  obtain ⟨C0, g0⟩ := hT.g
  have hV : ValidL lt := g_validL hT.head g0
  have g := tab_g hV
  have hH := tab_h hV
  have hn : tabN lt = N := tab_n hT.head
  have hcN : Cons lt N first.toNat N := hT.cons (Nat.le_refl _) h0
  have hp := lt_2pow2 (bkts N)
  have ht := bkts_twice N
  rw [hn] at g hH
  have h4 : ∀ i, i < bkts N → (tabC lt i).length ≤ 4 := fun i hi => g.four hcN (by omega) hi
  refine ⟨hV, fun j hj c hc => ?_, fun h hh => ?_, ?_, fun r hr => ?_⟩
  · unfold chainsF at hj hc
    rw [hn, List.length_map, List.length_range] at hj
    rw [hn, List.getElem?_map, List.getElem?_range hj] at hc
    simp only [Option.map_some, Option.mem_def, Option.some.injEq] at hc
    rw [← hc, List.length_map]
    exact h4 j hj
  · have hb := bkt_lt h.toNat (b := bkts N) (by have := bkts8 N; omega)
    have := h4 _ hb
    unfold findF
    rw [if_neg (by simpa using hV), if_neg (by simpa using hh), hn]
    dsimp only
    exact ⟨rfl, by omega⟩
  · have hh : 0 ≤ first + (N : Int) ∧ first + (N : Int) ≤ 2147483647 := by omega
    have hb := bkt_lt (first + (N : Int)).toNat (b := bkts N) (by have := bkts8 N; omega)
    have hno : hasR lt (first + (N : Int)) 0 (tabC lt (bkt (first + (N : Int)).toNat (bkts N))) = false := by
      unfold hasR
      rw [List.any_eq_false]
      intro r hr e
      have e2 := (of_decide_eq_true e).1
      have := hcN.lo r (g.lt hb hr)
      omega
    have hz : (addR lt N (tabC lt) (first + (N : Int)) 0).2.1 = 0 := by
      unfold addR
      rw [if_neg (by simpa using hh), if_neg (by rw [hno]; simp), if_neg (by omega)]
      split <;> rfl
    have hA := addF_ok (x := 0) hV hh
    rw [hn] at hA
    rw [hA]
    exact ⟨hz, g.add8 hH hcN (by omega) hz⟩
  · have hr2 := hT.rng hs[r] (List.getElem_mem _)
    have hh : 0 ≤ hs[r] ∧ hs[r] ≤ 2147483647 := by omega
    have he := hT.el r (by omega)
    rw [ati_get hr] at he
    obtain ⟨k, l', C', hD, e⟩ := dropF_ok (x := (r : Int)) hV hh (by rw [hn]; exact hasR_of g (by omega) he.1 he.2)
    rw [e]
    rw [hn] at hD
    have := g.drop12 hH hcN hD
    exact ⟨rfl, by dsimp only; omega⟩
theorem cal15 : callable Try.prog 15 = true := by kernel_rfl
theorem cal16 : callable Try.prog 16 = true := by kernel_rfl
theorem cal17 : callable Try.prog 17 = true := by kernel_rfl
theorem cal21 : callable Try.prog 21 = true := by kernel_rfl
theorem cal23 : callable Try.prog 23 = true := by kernel_rfl
theorem cal24 : callable Try.prog 24 = true := by kernel_rfl
theorem cal25 : callable Try.prog 25 = true := by kernel_rfl
theorem cal26 : callable Try.prog 26 = true := by kernel_rfl
theorem cal27 : callable Try.prog 27 = true := by kernel_rfl
theorem cal36 : callable Try.prog 36 = true := by kernel_rfl
theorem cal62 : callable Try.prog 62 = true := by kernel_rfl

set_option maxRecDepth 100000 in
set_option maxHeartbeats 4000000 in
theorem tableBounds_call (first n h which : Int) (order : List Int) (ho : order.length ≤ 9223372036854775807) :
    ACall Try.prog 4 [.sc (.int .i64 first), .sc (.int .i64 n), .dsl order.length (ints order), .sc (.int .i64 h), .sc (.int .i64 which)] (.ret (.sc (.bool true))) := by
  refine acall_pure' hmix ctT_ok Try.func4 rfl (by kernel_rfl) (fun E s hs => ?_)
  have hsE := hs
  simp (maxSteps := 300000) only [begA, Try.ntmps4, List.replicate_succ, List.replicate_zero, List.length_cons, List.length_nil, List.cons_append, List.nil_append]
  by_cases g1 : first < 0
  · repeat (first
    | with_reducible refine q_seq ?_
    | with_reducible refine q_reg ?_
    | with_reducible refine q_nil ?_
    | with_reducible refine q_thenN ?_
    | ((with_reducible apply q_cons rfl); simp (disch := omega) only [true_or, aOp, aStep, aWanted, evA, putA, begA, packA, aRes, aRead, bin_add, bin_sub, bin_mul, bin_lss, bin_leq, bin_gtr, bin_geq, bin_quo, bin_rem, un_not, aBuiltin, aLen, aLoad, aStore, aBox, aAlloc, aCells, AV.one, Value.oneCell', putCells, cellsOut, aIndexAddr, aFieldAddr, aField, AV.parts?, aNilCheck, aExtract, aSlice, bnd, aAppend, aSrc, aBuildSlice, aFill, aZeros, aMakeSlice, aFieldAddr, AP.ofOption, Value.cells, List.cons_append, List.nil_append, List.append_nil, List.length_cons, List.length_nil, List.length_map, List.replicate_succ, List.replicate_zero, List.set_cons_succ, List.set_cons_zero, List.getD_cons_succ, List.getD_cons_zero, List.toList_toArray, List.map_cons, List.map_nil, List.drop_zero, List.drop_succ_cons, List.drop_nil, List.take_succ_cons, List.take_zero, List.take_nil, List.head?_cons, List.head?_drop, List.getElem?_map, List.getElem?_cons_zero, List.getElem?_cons_succ, List.getElem?_eq_getElem, Option.map_some, Option.map_none, Option.bind_some, List.all_cons, List.all_nil, Bool.and_true, Bool.true_and, Bool.and_self, upd_same, decide_true, decide_false, decide_eq_true_eq, if_true, if_false, Bool.false_eq_true, Bool.true_eq_false, ite_true, ite_false, true_and, and_true, and_self, eq_self, reduceCtorEq, Bool.not_eq_true, Bool.not_true, Bool.not_false, Bool.not_eq_false, not_true_eq_false, not_false_eq_true, Int.toNat_natCast, Nat.zero_add, Nat.add_zero, Nat.mul_one, Nat.zero_mul, Nat.mul_zero, Nat.one_mul, Nat.zero_le, Int.toNat_zero, BEq.rfl, beq_self_eq_true, if_pos, if_neg, decide_eq_true, decide_eq_false, sz3, ze3, by3, ag3, Try.underlying3, bin_eql Try.underlying3, bin_neq Try.underlying3, sz31, ze31, by31, ag31, Try.underlying31, sz35, ze35, by35, ag35, Try.underlying35, AP.run, List.size_toArray, List.length_set, cal15, ctT_15, c15]; exact rfl; simp only [List.set_cons_succ, List.set_cons_zero, putA]; exact rfl)
    | ((with_reducible apply q_consF); simp only [aWanted, List.getElem?_toArray, List.getElem?_cons_succ, List.getElem?_cons_zero, Option.bind_some, List.getD_cons_succ, List.getD_cons_zero]; exact rfl; simp only [List.set_cons_succ, List.set_cons_zero, putA]; exact rfl)
    | ((with_reducible apply q_consT); simp only [aWanted, List.getElem?_toArray, List.getElem?_cons_succ, List.getElem?_cons_zero, Option.bind_some, List.getD_cons_succ, List.getD_cons_zero]; exact rfl; simp (disch := omega) only [true_or, aOp, aStep, aWanted, evA, putA, begA, packA, aRes, aRead, bin_add, bin_sub, bin_mul, bin_lss, bin_leq, bin_gtr, bin_geq, bin_quo, bin_rem, un_not, aBuiltin, aLen, aLoad, aStore, aBox, aAlloc, aCells, AV.one, Value.oneCell', putCells, cellsOut, aIndexAddr, aFieldAddr, aField, AV.parts?, aNilCheck, aExtract, aSlice, bnd, aAppend, aSrc, aBuildSlice, aFill, aZeros, aMakeSlice, aFieldAddr, AP.ofOption, Value.cells, List.cons_append, List.nil_append, List.append_nil, List.length_cons, List.length_nil, List.length_map, List.replicate_succ, List.replicate_zero, List.set_cons_succ, List.set_cons_zero, List.getD_cons_succ, List.getD_cons_zero, List.toList_toArray, List.map_cons, List.map_nil, List.drop_zero, List.drop_succ_cons, List.drop_nil, List.take_succ_cons, List.take_zero, List.take_nil, List.head?_cons, List.head?_drop, List.getElem?_map, List.getElem?_cons_zero, List.getElem?_cons_succ, List.getElem?_eq_getElem, Option.map_some, Option.map_none, Option.bind_some, List.all_cons, List.all_nil, Bool.and_true, Bool.true_and, Bool.and_self, upd_same, decide_true, decide_false, decide_eq_true_eq, if_true, if_false, Bool.false_eq_true, Bool.true_eq_false, ite_true, ite_false, true_and, and_true, and_self, eq_self, reduceCtorEq, Bool.not_eq_true, Bool.not_true, Bool.not_false, Bool.not_eq_false, not_true_eq_false, not_false_eq_true, Int.toNat_natCast, Nat.zero_add, Nat.add_zero, Nat.mul_one, Nat.zero_mul, Nat.mul_zero, Nat.one_mul, Nat.zero_le, Int.toNat_zero, BEq.rfl, beq_self_eq_true, if_pos, if_neg, decide_eq_true, decide_eq_false, sz3, ze3, by3, ag3, Try.underlying3, bin_eql Try.underlying3, bin_neq Try.underlying3, sz31, ze31, by31, ag31, Try.underlying31, sz35, ze35, by35, ag35, Try.underlying35, AP.run, List.size_toArray, List.length_set, cal15, ctT_15, c15]; exact rfl; simp only [List.set_cons_succ, List.set_cons_zero, putA]; exact rfl)
    | with_reducible refine q_block ?_
    | with_reducible refine q_skip ?_
    | with_reducible refine q_ret ?_
    | with_reducible refine q_exit ?_
    | with_reducible refine q_thenR ?_
    | with_reducible refine q_thenE ?_
    | with_reducible refine q_blkN ?_
    | with_reducible refine q_blkR ?_
    | with_reducible refine q_blkE ?_
    | ((with_reducible apply q_cond); simp only [evA, List.getD_cons_succ, List.getD_cons_zero]; exact rfl)
    | with_reducible refine q_bT ?_
    | with_reducible refine q_bF ?_
    | ((with_reducible apply q_bifF); (first | rfl | decide | assumption))
    | ((with_reducible apply q_bifT); (first | rfl | decide | assumption))
    | with_reducible refine q_loop ?_)
    (apply q_end; simp only [aRes, Try.results4, List.toList_toArray, List.getD_cons_succ, List.getD_cons_zero]; exact rfl; simp only [packA]; exact rfl)
    exact ⟨fun _ _ => rfl, Pub.sc _⟩
  by_cases g2 : n < 0
  · repeat (first
    | with_reducible refine q_seq ?_
    | with_reducible refine q_reg ?_
    | with_reducible refine q_nil ?_
    | with_reducible refine q_thenN ?_
    | ((with_reducible apply q_cons rfl); simp (disch := omega) only [true_or, aOp, aStep, aWanted, evA, putA, begA, packA, aRes, aRead, bin_add, bin_sub, bin_mul, bin_lss, bin_leq, bin_gtr, bin_geq, bin_quo, bin_rem, un_not, aBuiltin, aLen, aLoad, aStore, aBox, aAlloc, aCells, AV.one, Value.oneCell', putCells, cellsOut, aIndexAddr, aFieldAddr, aField, AV.parts?, aNilCheck, aExtract, aSlice, bnd, aAppend, aSrc, aBuildSlice, aFill, aZeros, aMakeSlice, aFieldAddr, AP.ofOption, Value.cells, List.cons_append, List.nil_append, List.append_nil, List.length_cons, List.length_nil, List.length_map, List.replicate_succ, List.replicate_zero, List.set_cons_succ, List.set_cons_zero, List.getD_cons_succ, List.getD_cons_zero, List.toList_toArray, List.map_cons, List.map_nil, List.drop_zero, List.drop_succ_cons, List.drop_nil, List.take_succ_cons, List.take_zero, List.take_nil, List.head?_cons, List.head?_drop, List.getElem?_map, List.getElem?_cons_zero, List.getElem?_cons_succ, List.getElem?_eq_getElem, Option.map_some, Option.map_none, Option.bind_some, List.all_cons, List.all_nil, Bool.and_true, Bool.true_and, Bool.and_self, upd_same, decide_true, decide_false, decide_eq_true_eq, if_true, if_false, Bool.false_eq_true, Bool.true_eq_false, ite_true, ite_false, true_and, and_true, and_self, eq_self, reduceCtorEq, Bool.not_eq_true, Bool.not_true, Bool.not_false, Bool.not_eq_false, not_true_eq_false, not_false_eq_true, Int.toNat_natCast, Nat.zero_add, Nat.add_zero, Nat.mul_one, Nat.zero_mul, Nat.mul_zero, Nat.one_mul, Nat.zero_le, Int.toNat_zero, BEq.rfl, beq_self_eq_true, if_pos, if_neg, decide_eq_true, decide_eq_false, sz3, ze3, by3, ag3, Try.underlying3, bin_eql Try.underlying3, bin_neq Try.underlying3, sz31, ze31, by31, ag31, Try.underlying31, sz35, ze35, by35, ag35, Try.underlying35, AP.run, List.size_toArray, List.length_set, cal15, ctT_15, c15]; exact rfl; simp only [List.set_cons_succ, List.set_cons_zero, putA]; exact rfl)
    | ((with_reducible apply q_consF); simp only [aWanted, List.getElem?_toArray, List.getElem?_cons_succ, List.getElem?_cons_zero, Option.bind_some, List.getD_cons_succ, List.getD_cons_zero]; exact rfl; simp only [List.set_cons_succ, List.set_cons_zero, putA]; exact rfl)
    | ((with_reducible apply q_consT); simp only [aWanted, List.getElem?_toArray, List.getElem?_cons_succ, List.getElem?_cons_zero, Option.bind_some, List.getD_cons_succ, List.getD_cons_zero]; exact rfl; simp (disch := omega) only [true_or, aOp, aStep, aWanted, evA, putA, begA, packA, aRes, aRead, bin_add, bin_sub, bin_mul, bin_lss, bin_leq, bin_gtr, bin_geq, bin_quo, bin_rem, un_not, aBuiltin, aLen, aLoad, aStore, aBox, aAlloc, aCells, AV.one, Value.oneCell', putCells, cellsOut, aIndexAddr, aFieldAddr, aField, AV.parts?, aNilCheck, aExtract, aSlice, bnd, aAppend, aSrc, aBuildSlice, aFill, aZeros, aMakeSlice, aFieldAddr, AP.ofOption, Value.cells, List.cons_append, List.nil_append, List.append_nil, List.length_cons, List.length_nil, List.length_map, List.replicate_succ, List.replicate_zero, List.set_cons_succ, List.set_cons_zero, List.getD_cons_succ, List.getD_cons_zero, List.toList_toArray, List.map_cons, List.map_nil, List.drop_zero, List.drop_succ_cons, List.drop_nil, List.take_succ_cons, List.take_zero, List.take_nil, List.head?_cons, List.head?_drop, List.getElem?_map, List.getElem?_cons_zero, List.getElem?_cons_succ, List.getElem?_eq_getElem, Option.map_some, Option.map_none, Option.bind_some, List.all_cons, List.all_nil, Bool.and_true, Bool.true_and, Bool.and_self, upd_same, decide_true, decide_false, decide_eq_true_eq, if_true, if_false, Bool.false_eq_true, Bool.true_eq_false, ite_true, ite_false, true_and, and_true, and_self, eq_self, reduceCtorEq, Bool.not_eq_true, Bool.not_true, Bool.not_false, Bool.not_eq_false, not_true_eq_false, not_false_eq_true, Int.toNat_natCast, Nat.zero_add, Nat.add_zero, Nat.mul_one, Nat.zero_mul, Nat.mul_zero, Nat.one_mul, Nat.zero_le, Int.toNat_zero, BEq.rfl, beq_self_eq_true, if_pos, if_neg, decide_eq_true, decide_eq_false, sz3, ze3, by3, ag3, Try.underlying3, bin_eql Try.underlying3, bin_neq Try.underlying3, sz31, ze31, by31, ag31, Try.underlying31, sz35, ze35, by35, ag35, Try.underlying35, AP.run, List.size_toArray, List.length_set, cal15, ctT_15, c15]; exact rfl; simp only [List.set_cons_succ, List.set_cons_zero, putA]; exact rfl)
    | with_reducible refine q_block ?_
    | with_reducible refine q_skip ?_
    | with_reducible refine q_ret ?_
    | with_reducible refine q_exit ?_
    | with_reducible refine q_thenR ?_
    | with_reducible refine q_thenE ?_
    | with_reducible refine q_blkN ?_
    | with_reducible refine q_blkR ?_
    | with_reducible refine q_blkE ?_
    | ((with_reducible apply q_cond); simp only [evA, List.getD_cons_succ, List.getD_cons_zero]; exact rfl)
    | with_reducible refine q_bT ?_
    | with_reducible refine q_bF ?_
    | ((with_reducible apply q_bifF); (first | rfl | decide | assumption))
    | ((with_reducible apply q_bifT); (first | rfl | decide | assumption))
    | with_reducible refine q_loop ?_)
    (apply q_end; simp only [aRes, Try.results4, List.toList_toArray, List.getD_cons_succ, List.getD_cons_zero]; exact rfl; simp only [packA]; exact rfl)
    exact ⟨fun _ _ => rfl, Pub.sc _⟩
  by_cases g3 : 300 < n
  · repeat (first
    | with_reducible refine q_seq ?_
    | with_reducible refine q_reg ?_
    | with_reducible refine q_nil ?_
    | with_reducible refine q_thenN ?_
    | ((with_reducible apply q_cons rfl); simp (disch := omega) only [true_or, aOp, aStep, aWanted, evA, putA, begA, packA, aRes, aRead, bin_add, bin_sub, bin_mul, bin_lss, bin_leq, bin_gtr, bin_geq, bin_quo, bin_rem, un_not, aBuiltin, aLen, aLoad, aStore, aBox, aAlloc, aCells, AV.one, Value.oneCell', putCells, cellsOut, aIndexAddr, aFieldAddr, aField, AV.parts?, aNilCheck, aExtract, aSlice, bnd, aAppend, aSrc, aBuildSlice, aFill, aZeros, aMakeSlice, aFieldAddr, AP.ofOption, Value.cells, List.cons_append, List.nil_append, List.append_nil, List.length_cons, List.length_nil, List.length_map, List.replicate_succ, List.replicate_zero, List.set_cons_succ, List.set_cons_zero, List.getD_cons_succ, List.getD_cons_zero, List.toList_toArray, List.map_cons, List.map_nil, List.drop_zero, List.drop_succ_cons, List.drop_nil, List.take_succ_cons, List.take_zero, List.take_nil, List.head?_cons, List.head?_drop, List.getElem?_map, List.getElem?_cons_zero, List.getElem?_cons_succ, List.getElem?_eq_getElem, Option.map_some, Option.map_none, Option.bind_some, List.all_cons, List.all_nil, Bool.and_true, Bool.true_and, Bool.and_self, upd_same, decide_true, decide_false, decide_eq_true_eq, if_true, if_false, Bool.false_eq_true, Bool.true_eq_false, ite_true, ite_false, true_and, and_true, and_self, eq_self, reduceCtorEq, Bool.not_eq_true, Bool.not_true, Bool.not_false, Bool.not_eq_false, not_true_eq_false, not_false_eq_true, Int.toNat_natCast, Nat.zero_add, Nat.add_zero, Nat.mul_one, Nat.zero_mul, Nat.mul_zero, Nat.one_mul, Nat.zero_le, Int.toNat_zero, BEq.rfl, beq_self_eq_true, if_pos, if_neg, decide_eq_true, decide_eq_false, sz3, ze3, by3, ag3, Try.underlying3, bin_eql Try.underlying3, bin_neq Try.underlying3, sz31, ze31, by31, ag31, Try.underlying31, sz35, ze35, by35, ag35, Try.underlying35, AP.run, List.size_toArray, List.length_set, cal15, ctT_15, c15]; exact rfl; simp only [List.set_cons_succ, List.set_cons_zero, putA]; exact rfl)
    | ((with_reducible apply q_consF); simp only [aWanted, List.getElem?_toArray, List.getElem?_cons_succ, List.getElem?_cons_zero, Option.bind_some, List.getD_cons_succ, List.getD_cons_zero]; exact rfl; simp only [List.set_cons_succ, List.set_cons_zero, putA]; exact rfl)
    | ((with_reducible apply q_consT); simp only [aWanted, List.getElem?_toArray, List.getElem?_cons_succ, List.getElem?_cons_zero, Option.bind_some, List.getD_cons_succ, List.getD_cons_zero]; exact rfl; simp (disch := omega) only [true_or, aOp, aStep, aWanted, evA, putA, begA, packA, aRes, aRead, bin_add, bin_sub, bin_mul, bin_lss, bin_leq, bin_gtr, bin_geq, bin_quo, bin_rem, un_not, aBuiltin, aLen, aLoad, aStore, aBox, aAlloc, aCells, AV.one, Value.oneCell', putCells, cellsOut, aIndexAddr, aFieldAddr, aField, AV.parts?, aNilCheck, aExtract, aSlice, bnd, aAppend, aSrc, aBuildSlice, aFill, aZeros, aMakeSlice, aFieldAddr, AP.ofOption, Value.cells, List.cons_append, List.nil_append, List.append_nil, List.length_cons, List.length_nil, List.length_map, List.replicate_succ, List.replicate_zero, List.set_cons_succ, List.set_cons_zero, List.getD_cons_succ, List.getD_cons_zero, List.toList_toArray, List.map_cons, List.map_nil, List.drop_zero, List.drop_succ_cons, List.drop_nil, List.take_succ_cons, List.take_zero, List.take_nil, List.head?_cons, List.head?_drop, List.getElem?_map, List.getElem?_cons_zero, List.getElem?_cons_succ, List.getElem?_eq_getElem, Option.map_some, Option.map_none, Option.bind_some, List.all_cons, List.all_nil, Bool.and_true, Bool.true_and, Bool.and_self, upd_same, decide_true, decide_false, decide_eq_true_eq, if_true, if_false, Bool.false_eq_true, Bool.true_eq_false, ite_true, ite_false, true_and, and_true, and_self, eq_self, reduceCtorEq, Bool.not_eq_true, Bool.not_true, Bool.not_false, Bool.not_eq_false, not_true_eq_false, not_false_eq_true, Int.toNat_natCast, Nat.zero_add, Nat.add_zero, Nat.mul_one, Nat.zero_mul, Nat.mul_zero, Nat.one_mul, Nat.zero_le, Int.toNat_zero, BEq.rfl, beq_self_eq_true, if_pos, if_neg, decide_eq_true, decide_eq_false, sz3, ze3, by3, ag3, Try.underlying3, bin_eql Try.underlying3, bin_neq Try.underlying3, sz31, ze31, by31, ag31, Try.underlying31, sz35, ze35, by35, ag35, Try.underlying35, AP.run, List.size_toArray, List.length_set, cal15, ctT_15, c15]; exact rfl; simp only [List.set_cons_succ, List.set_cons_zero, putA]; exact rfl)
    | with_reducible refine q_block ?_
    | with_reducible refine q_skip ?_
    | with_reducible refine q_ret ?_
    | with_reducible refine q_exit ?_
    | with_reducible refine q_thenR ?_
    | with_reducible refine q_thenE ?_
    | with_reducible refine q_blkN ?_
    | with_reducible refine q_blkR ?_
    | with_reducible refine q_blkE ?_
    | ((with_reducible apply q_cond); simp only [evA, List.getD_cons_succ, List.getD_cons_zero]; exact rfl)
    | with_reducible refine q_bT ?_
    | with_reducible refine q_bF ?_
    | ((with_reducible apply q_bifF); (first | rfl | decide | assumption))
    | ((with_reducible apply q_bifT); (first | rfl | decide | assumption))
    | with_reducible refine q_loop ?_)
    (apply q_end; simp only [aRes, Try.results4, List.toList_toArray, List.getD_cons_succ, List.getD_cons_zero]; exact rfl; simp only [packA]; exact rfl)
    exact ⟨fun _ _ => rfl, Pub.sc _⟩
  by_cases g4 : 2147483647 - n < first
  · repeat (first
    | with_reducible refine q_seq ?_
    | with_reducible refine q_reg ?_
    | with_reducible refine q_nil ?_
    | with_reducible refine q_thenN ?_
    | ((with_reducible apply q_cons rfl); simp (disch := omega) only [true_or, aOp, aStep, aWanted, evA, putA, begA, packA, aRes, aRead, bin_add, bin_sub, bin_mul, bin_lss, bin_leq, bin_gtr, bin_geq, bin_quo, bin_rem, un_not, aBuiltin, aLen, aLoad, aStore, aBox, aAlloc, aCells, AV.one, Value.oneCell', putCells, cellsOut, aIndexAddr, aFieldAddr, aField, AV.parts?, aNilCheck, aExtract, aSlice, bnd, aAppend, aSrc, aBuildSlice, aFill, aZeros, aMakeSlice, aFieldAddr, AP.ofOption, Value.cells, List.cons_append, List.nil_append, List.append_nil, List.length_cons, List.length_nil, List.length_map, List.replicate_succ, List.replicate_zero, List.set_cons_succ, List.set_cons_zero, List.getD_cons_succ, List.getD_cons_zero, List.toList_toArray, List.map_cons, List.map_nil, List.drop_zero, List.drop_succ_cons, List.drop_nil, List.take_succ_cons, List.take_zero, List.take_nil, List.head?_cons, List.head?_drop, List.getElem?_map, List.getElem?_cons_zero, List.getElem?_cons_succ, List.getElem?_eq_getElem, Option.map_some, Option.map_none, Option.bind_some, List.all_cons, List.all_nil, Bool.and_true, Bool.true_and, Bool.and_self, upd_same, decide_true, decide_false, decide_eq_true_eq, if_true, if_false, Bool.false_eq_true, Bool.true_eq_false, ite_true, ite_false, true_and, and_true, and_self, eq_self, reduceCtorEq, Bool.not_eq_true, Bool.not_true, Bool.not_false, Bool.not_eq_false, not_true_eq_false, not_false_eq_true, Int.toNat_natCast, Nat.zero_add, Nat.add_zero, Nat.mul_one, Nat.zero_mul, Nat.mul_zero, Nat.one_mul, Nat.zero_le, Int.toNat_zero, BEq.rfl, beq_self_eq_true, if_pos, if_neg, decide_eq_true, decide_eq_false, sz3, ze3, by3, ag3, Try.underlying3, bin_eql Try.underlying3, bin_neq Try.underlying3, sz31, ze31, by31, ag31, Try.underlying31, sz35, ze35, by35, ag35, Try.underlying35, AP.run, List.size_toArray, List.length_set, cal15, ctT_15, c15]; exact rfl; simp only [List.set_cons_succ, List.set_cons_zero, putA]; exact rfl)
    | ((with_reducible apply q_consF); simp only [aWanted, List.getElem?_toArray, List.getElem?_cons_succ, List.getElem?_cons_zero, Option.bind_some, List.getD_cons_succ, List.getD_cons_zero]; exact rfl; simp only [List.set_cons_succ, List.set_cons_zero, putA]; exact rfl)
    | ((with_reducible apply q_consT); simp only [aWanted, List.getElem?_toArray, List.getElem?_cons_succ, List.getElem?_cons_zero, Option.bind_some, List.getD_cons_succ, List.getD_cons_zero]; exact rfl; simp (disch := omega) only [true_or, aOp, aStep, aWanted, evA, putA, begA, packA, aRes, aRead, bin_add, bin_sub, bin_mul, bin_lss, bin_leq, bin_gtr, bin_geq, bin_quo, bin_rem, un_not, aBuiltin, aLen, aLoad, aStore, aBox, aAlloc, aCells, AV.one, Value.oneCell', putCells, cellsOut, aIndexAddr, aFieldAddr, aField, AV.parts?, aNilCheck, aExtract, aSlice, bnd, aAppend, aSrc, aBuildSlice, aFill, aZeros, aMakeSlice, aFieldAddr, AP.ofOption, Value.cells, List.cons_append, List.nil_append, List.append_nil, List.length_cons, List.length_nil, List.length_map, List.replicate_succ, List.replicate_zero, List.set_cons_succ, List.set_cons_zero, List.getD_cons_succ, List.getD_cons_zero, List.toList_toArray, List.map_cons, List.map_nil, List.drop_zero, List.drop_succ_cons, List.drop_nil, List.take_succ_cons, List.take_zero, List.take_nil, List.head?_cons, List.head?_drop, List.getElem?_map, List.getElem?_cons_zero, List.getElem?_cons_succ, List.getElem?_eq_getElem, Option.map_some, Option.map_none, Option.bind_some, List.all_cons, List.all_nil, Bool.and_true, Bool.true_and, Bool.and_self, upd_same, decide_true, decide_false, decide_eq_true_eq, if_true, if_false, Bool.false_eq_true, Bool.true_eq_false, ite_true, ite_false, true_and, and_true, and_self, eq_self, reduceCtorEq, Bool.not_eq_true, Bool.not_true, Bool.not_false, Bool.not_eq_false, not_true_eq_false, not_false_eq_true, Int.toNat_natCast, Nat.zero_add, Nat.add_zero, Nat.mul_one, Nat.zero_mul, Nat.mul_zero, Nat.one_mul, Nat.zero_le, Int.toNat_zero, BEq.rfl, beq_self_eq_true, if_pos, if_neg, decide_eq_true, decide_eq_false, sz3, ze3, by3, ag3, Try.underlying3, bin_eql Try.underlying3, bin_neq Try.underlying3, sz31, ze31, by31, ag31, Try.underlying31, sz35, ze35, by35, ag35, Try.underlying35, AP.run, List.size_toArray, List.length_set, cal15, ctT_15, c15]; exact rfl; simp only [List.set_cons_succ, List.set_cons_zero, putA]; exact rfl)
    | with_reducible refine q_block ?_
    | with_reducible refine q_skip ?_
    | with_reducible refine q_ret ?_
    | with_reducible refine q_exit ?_
    | with_reducible refine q_thenR ?_
    | with_reducible refine q_thenE ?_
    | with_reducible refine q_blkN ?_
    | with_reducible refine q_blkR ?_
    | with_reducible refine q_blkE ?_
    | ((with_reducible apply q_cond); simp only [evA, List.getD_cons_succ, List.getD_cons_zero]; exact rfl)
    | with_reducible refine q_bT ?_
    | with_reducible refine q_bF ?_
    | ((with_reducible apply q_bifF); (first | rfl | decide | assumption))
    | ((with_reducible apply q_bifT); (first | rfl | decide | assumption))
    | with_reducible refine q_loop ?_)
    (apply q_end; simp only [aRes, Try.results4, List.toList_toArray, List.getD_cons_succ, List.getD_cons_zero]; exact rfl; simp only [packA]; exact rfl)
    exact ⟨fun _ _ => rfl, Pub.sc _⟩
  repeat (first
    | with_reducible refine q_seq ?_
    | with_reducible refine q_reg ?_
    | with_reducible refine q_nil ?_
    | with_reducible refine q_thenN ?_
    | ((with_reducible apply q_cons rfl); simp (disch := omega) only [true_or, aOp, aStep, aWanted, evA, putA, begA, packA, aRes, aRead, bin_add, bin_sub, bin_mul, bin_lss, bin_leq, bin_gtr, bin_geq, bin_quo, bin_rem, un_not, aBuiltin, aLen, aLoad, aStore, aBox, aAlloc, aCells, AV.one, Value.oneCell', putCells, cellsOut, aIndexAddr, aFieldAddr, aField, AV.parts?, aNilCheck, aExtract, aSlice, bnd, aAppend, aSrc, aBuildSlice, aFill, aZeros, aMakeSlice, aFieldAddr, AP.ofOption, Value.cells, List.cons_append, List.nil_append, List.append_nil, List.length_cons, List.length_nil, List.length_map, List.replicate_succ, List.replicate_zero, List.set_cons_succ, List.set_cons_zero, List.getD_cons_succ, List.getD_cons_zero, List.toList_toArray, List.map_cons, List.map_nil, List.drop_zero, List.drop_succ_cons, List.drop_nil, List.take_succ_cons, List.take_zero, List.take_nil, List.head?_cons, List.head?_drop, List.getElem?_map, List.getElem?_cons_zero, List.getElem?_cons_succ, List.getElem?_eq_getElem, Option.map_some, Option.map_none, Option.bind_some, List.all_cons, List.all_nil, Bool.and_true, Bool.true_and, Bool.and_self, upd_same, decide_true, decide_false, decide_eq_true_eq, if_true, if_false, Bool.false_eq_true, Bool.true_eq_false, ite_true, ite_false, true_and, and_true, and_self, eq_self, reduceCtorEq, Bool.not_eq_true, Bool.not_true, Bool.not_false, Bool.not_eq_false, not_true_eq_false, not_false_eq_true, Int.toNat_natCast, Nat.zero_add, Nat.add_zero, Nat.mul_one, Nat.zero_mul, Nat.mul_zero, Nat.one_mul, Nat.zero_le, Int.toNat_zero, BEq.rfl, beq_self_eq_true, if_pos, if_neg, decide_eq_true, decide_eq_false, sz3, ze3, by3, ag3, Try.underlying3, bin_eql Try.underlying3, bin_neq Try.underlying3, sz31, ze31, by31, ag31, Try.underlying31, sz35, ze35, by35, ag35, Try.underlying35, AP.run, List.size_toArray, List.length_set, cal15, ctT_15, c15]; exact rfl; simp only [List.set_cons_succ, List.set_cons_zero, putA]; exact rfl)
    | ((with_reducible apply q_consF); simp only [aWanted, List.getElem?_toArray, List.getElem?_cons_succ, List.getElem?_cons_zero, Option.bind_some, List.getD_cons_succ, List.getD_cons_zero]; exact rfl; simp only [List.set_cons_succ, List.set_cons_zero, putA]; exact rfl)
    | ((with_reducible apply q_consT); simp only [aWanted, List.getElem?_toArray, List.getElem?_cons_succ, List.getElem?_cons_zero, Option.bind_some, List.getD_cons_succ, List.getD_cons_zero]; exact rfl; simp (disch := omega) only [true_or, aOp, aStep, aWanted, evA, putA, begA, packA, aRes, aRead, bin_add, bin_sub, bin_mul, bin_lss, bin_leq, bin_gtr, bin_geq, bin_quo, bin_rem, un_not, aBuiltin, aLen, aLoad, aStore, aBox, aAlloc, aCells, AV.one, Value.oneCell', putCells, cellsOut, aIndexAddr, aFieldAddr, aField, AV.parts?, aNilCheck, aExtract, aSlice, bnd, aAppend, aSrc, aBuildSlice, aFill, aZeros, aMakeSlice, aFieldAddr, AP.ofOption, Value.cells, List.cons_append, List.nil_append, List.append_nil, List.length_cons, List.length_nil, List.length_map, List.replicate_succ, List.replicate_zero, List.set_cons_succ, List.set_cons_zero, List.getD_cons_succ, List.getD_cons_zero, List.toList_toArray, List.map_cons, List.map_nil, List.drop_zero, List.drop_succ_cons, List.drop_nil, List.take_succ_cons, List.take_zero, List.take_nil, List.head?_cons, List.head?_drop, List.getElem?_map, List.getElem?_cons_zero, List.getElem?_cons_succ, List.getElem?_eq_getElem, Option.map_some, Option.map_none, Option.bind_some, List.all_cons, List.all_nil, Bool.and_true, Bool.true_and, Bool.and_self, upd_same, decide_true, decide_false, decide_eq_true_eq, if_true, if_false, Bool.false_eq_true, Bool.true_eq_false, ite_true, ite_false, true_and, and_true, and_self, eq_self, reduceCtorEq, Bool.not_eq_true, Bool.not_true, Bool.not_false, Bool.not_eq_false, not_true_eq_false, not_false_eq_true, Int.toNat_natCast, Nat.zero_add, Nat.add_zero, Nat.mul_one, Nat.zero_mul, Nat.mul_zero, Nat.one_mul, Nat.zero_le, Int.toNat_zero, BEq.rfl, beq_self_eq_true, if_pos, if_neg, decide_eq_true, decide_eq_false, sz3, ze3, by3, ag3, Try.underlying3, bin_eql Try.underlying3, bin_neq Try.underlying3, sz31, ze31, by31, ag31, Try.underlying31, sz35, ze35, by35, ag35, Try.underlying35, AP.run, List.size_toArray, List.length_set, cal15, ctT_15, c15]; exact rfl; simp only [List.set_cons_succ, List.set_cons_zero, putA]; exact rfl)
    | with_reducible refine q_block ?_
    | with_reducible refine q_skip ?_
    | with_reducible refine q_ret ?_
    | with_reducible refine q_exit ?_
    | with_reducible refine q_thenR ?_
    | with_reducible refine q_thenE ?_
    | with_reducible refine q_blkN ?_
    | with_reducible refine q_blkR ?_
    | with_reducible refine q_blkE ?_
    | ((with_reducible apply q_cond); simp only [evA, List.getD_cons_succ, List.getD_cons_zero]; exact rfl)
    | with_reducible refine q_bT ?_
    | with_reducible refine q_bF ?_
    | ((with_reducible apply q_bifF); (first | rfl | decide | assumption))
    | ((with_reducible apply q_bifT); (first | rfl | decide | assumption))
    | with_reducible refine q_loop ?_)
  refine AWp.loop [0, 1, 2, 3, 4, 11, 12, 13] (fun Γ H s' m => ∃ (k : Nat) (v : AV), k ≤ n.toNat ∧ m = n.toNat - k ∧ Γ = [.sc (.int .i64 first), .sc (.int .i64 n), .dsl order.length (ints order), .sc (.int .i64 h), .sc (.int .i64 which)] ++ (List.replicate 6 .junk) ++ [.sc (.bool true), v, .sc (.int .i64 (k : Nat))] ++ (List.replicate 178 .junk) ∧
    HsI E s k v H s' (runF first k)) n.toNat ?_ ?_
  · exact ⟨0, _, Nat.zero_le _, rfl, rfl, .inl ⟨rfl, rfl, rfl, rfl, hs⟩⟩
  rintro Γ H s1 m ⟨k, v, hk, rfl, rfl, hI⟩
  refine wA_ok hmix ctT_ok _ (by kernel_rfl) ?_
  simp (maxSteps := 1000000) only [List.replicate_succ, List.replicate_zero, List.cons_append, List.nil_append, List.append_nil]
  by_cases hlt : k < n.toNat
  · rcases hI with ⟨rfl, rfl, rfl, rfl, hf⟩ | ⟨k0, rfl, rfl, hH, ⟨hs1, hf⟩, hE⟩
    · repeat (first
    | with_reducible refine q_seq ?_
    | with_reducible refine q_reg ?_
    | with_reducible refine q_nil ?_
    | with_reducible refine q_thenN ?_
    | ((with_reducible apply q_cons rfl); simp (disch := omega) only [true_or, aOp, aStep, aWanted, evA, putA, begA, packA, aRes, aRead, bin_add, bin_sub, bin_mul, bin_lss, bin_leq, bin_gtr, bin_geq, bin_quo, bin_rem, un_not, aBuiltin, aLen, aLoad, aStore, aBox, aAlloc, aCells, AV.one, Value.oneCell', putCells, cellsOut, aIndexAddr, aFieldAddr, aField, AV.parts?, aNilCheck, aExtract, aSlice, bnd, aAppend, aSrc, aBuildSlice, aFill, aZeros, aMakeSlice, aFieldAddr, AP.ofOption, Value.cells, List.cons_append, List.nil_append, List.append_nil, List.length_cons, List.length_nil, List.length_map, List.replicate_succ, List.replicate_zero, List.set_cons_succ, List.set_cons_zero, List.getD_cons_succ, List.getD_cons_zero, List.toList_toArray, List.map_cons, List.map_nil, List.drop_zero, List.drop_succ_cons, List.drop_nil, List.take_succ_cons, List.take_zero, List.take_nil, List.head?_cons, List.head?_drop, List.getElem?_map, List.getElem?_cons_zero, List.getElem?_cons_succ, List.getElem?_eq_getElem, Option.map_some, Option.map_none, Option.bind_some, List.all_cons, List.all_nil, Bool.and_true, Bool.true_and, Bool.and_self, upd_same, decide_true, decide_false, decide_eq_true_eq, if_true, if_false, Bool.false_eq_true, Bool.true_eq_false, ite_true, ite_false, true_and, and_true, and_self, eq_self, reduceCtorEq, Bool.not_eq_true, Bool.not_true, Bool.not_false, Bool.not_eq_false, not_true_eq_false, not_false_eq_true, Int.toNat_natCast, Nat.zero_add, Nat.add_zero, Nat.mul_one, Nat.zero_mul, Nat.mul_zero, Nat.one_mul, Nat.zero_le, Int.toNat_zero, BEq.rfl, beq_self_eq_true, if_pos, if_neg, decide_eq_true, decide_eq_false, sz3, ze3, by3, ag3, Try.underlying3, bin_eql Try.underlying3, bin_neq Try.underlying3, sz31, ze31, by31, ag31, Try.underlying31, sz35, ze35, by35, ag35, Try.underlying35, AP.run, List.size_toArray, List.length_set, hf, upd_ne]; exact rfl; simp only [List.set_cons_succ, List.set_cons_zero, putA]; exact rfl)
    | ((with_reducible apply q_consF); simp only [aWanted, List.getElem?_toArray, List.getElem?_cons_succ, List.getElem?_cons_zero, Option.bind_some, List.getD_cons_succ, List.getD_cons_zero]; exact rfl; simp only [List.set_cons_succ, List.set_cons_zero, putA]; exact rfl)
    | ((with_reducible apply q_consT); simp only [aWanted, List.getElem?_toArray, List.getElem?_cons_succ, List.getElem?_cons_zero, Option.bind_some, List.getD_cons_succ, List.getD_cons_zero]; exact rfl; simp (disch := omega) only [true_or, aOp, aStep, aWanted, evA, putA, begA, packA, aRes, aRead, bin_add, bin_sub, bin_mul, bin_lss, bin_leq, bin_gtr, bin_geq, bin_quo, bin_rem, un_not, aBuiltin, aLen, aLoad, aStore, aBox, aAlloc, aCells, AV.one, Value.oneCell', putCells, cellsOut, aIndexAddr, aFieldAddr, aField, AV.parts?, aNilCheck, aExtract, aSlice, bnd, aAppend, aSrc, aBuildSlice, aFill, aZeros, aMakeSlice, aFieldAddr, AP.ofOption, Value.cells, List.cons_append, List.nil_append, List.append_nil, List.length_cons, List.length_nil, List.length_map, List.replicate_succ, List.replicate_zero, List.set_cons_succ, List.set_cons_zero, List.getD_cons_succ, List.getD_cons_zero, List.toList_toArray, List.map_cons, List.map_nil, List.drop_zero, List.drop_succ_cons, List.drop_nil, List.take_succ_cons, List.take_zero, List.take_nil, List.head?_cons, List.head?_drop, List.getElem?_map, List.getElem?_cons_zero, List.getElem?_cons_succ, List.getElem?_eq_getElem, Option.map_some, Option.map_none, Option.bind_some, List.all_cons, List.all_nil, Bool.and_true, Bool.true_and, Bool.and_self, upd_same, decide_true, decide_false, decide_eq_true_eq, if_true, if_false, Bool.false_eq_true, Bool.true_eq_false, ite_true, ite_false, true_and, and_true, and_self, eq_self, reduceCtorEq, Bool.not_eq_true, Bool.not_true, Bool.not_false, Bool.not_eq_false, not_true_eq_false, not_false_eq_true, Int.toNat_natCast, Nat.zero_add, Nat.add_zero, Nat.mul_one, Nat.zero_mul, Nat.mul_zero, Nat.one_mul, Nat.zero_le, Int.toNat_zero, BEq.rfl, beq_self_eq_true, if_pos, if_neg, decide_eq_true, decide_eq_false, sz3, ze3, by3, ag3, Try.underlying3, bin_eql Try.underlying3, bin_neq Try.underlying3, sz31, ze31, by31, ag31, Try.underlying31, sz35, ze35, by35, ag35, Try.underlying35, AP.run, List.size_toArray, List.length_set, hf, upd_ne]; exact rfl; simp only [List.set_cons_succ, List.set_cons_zero, putA]; exact rfl)
    | with_reducible refine q_block ?_
    | with_reducible refine q_skip ?_
    | with_reducible refine q_ret ?_
    | with_reducible refine q_exit ?_
    | with_reducible refine q_thenR ?_
    | with_reducible refine q_thenE ?_
    | with_reducible refine q_blkN ?_
    | with_reducible refine q_blkR ?_
    | with_reducible refine q_blkE ?_
    | ((with_reducible apply q_cond); simp only [evA, List.getD_cons_succ, List.getD_cons_zero]; exact rfl)
    | with_reducible refine q_bT ?_
    | with_reducible refine q_bF ?_
    | ((with_reducible apply q_bifF); (first | rfl | decide | assumption))
    | ((with_reducible apply q_bifT); (first | rfl | decide | assumption))
    | with_reducible refine q_loop ?_)
      exact ⟨n.toNat - 1, by omega, 1, _, by omega, rfl, rfl, .inr ⟨0, rfl, rfl, by simp [upd, runF, List.range_succ], ⟨by omega, fun q hq => by rw [upd_ne _ _ (by omega), upd_ne _ _ (by omega)]; exact hf q (by omega)⟩, fun q hq => by
        have : q < s1 := Nat.lt_of_not_le (fun e => hq (hf q e))
        rw [upd_ne _ _ (by omega), upd_ne _ _ (by omega)]⟩⟩
    · have hrf : runF first (k0 + 1 + 1) = runF first (k0 + 1) ++ [first + ((k0 + 1 : Nat) : Int)] := by unfold runF; rw [List.range_succ, List.map_append]; rfl
      repeat (first
    | with_reducible refine q_seq ?_
    | with_reducible refine q_reg ?_
    | with_reducible refine q_nil ?_
    | with_reducible refine q_thenN ?_
    | ((with_reducible apply q_cons rfl); simp (disch := omega) only [true_or, aOp, aStep, aWanted, evA, putA, begA, packA, aRes, aRead, bin_add, bin_sub, bin_mul, bin_lss, bin_leq, bin_gtr, bin_geq, bin_quo, bin_rem, un_not, aBuiltin, aLen, aLoad, aStore, aBox, aAlloc, aCells, AV.one, Value.oneCell', putCells, cellsOut, aIndexAddr, aFieldAddr, aField, AV.parts?, aNilCheck, aExtract, aSlice, bnd, aAppend, aSrc, aBuildSlice, aFill, aZeros, aMakeSlice, aFieldAddr, AP.ofOption, Value.cells, List.cons_append, List.nil_append, List.append_nil, List.length_cons, List.length_nil, List.length_map, List.replicate_succ, List.replicate_zero, List.set_cons_succ, List.set_cons_zero, List.getD_cons_succ, List.getD_cons_zero, List.toList_toArray, List.map_cons, List.map_nil, List.drop_zero, List.drop_succ_cons, List.drop_nil, List.take_succ_cons, List.take_zero, List.take_nil, List.head?_cons, List.head?_drop, List.getElem?_map, List.getElem?_cons_zero, List.getElem?_cons_succ, List.getElem?_eq_getElem, Option.map_some, Option.map_none, Option.bind_some, List.all_cons, List.all_nil, Bool.and_true, Bool.true_and, Bool.and_self, upd_same, decide_true, decide_false, decide_eq_true_eq, if_true, if_false, Bool.false_eq_true, Bool.true_eq_false, ite_true, ite_false, true_and, and_true, and_self, eq_self, reduceCtorEq, Bool.not_eq_true, Bool.not_true, Bool.not_false, Bool.not_eq_false, not_true_eq_false, not_false_eq_true, Int.toNat_natCast, Nat.zero_add, Nat.add_zero, Nat.mul_one, Nat.zero_mul, Nat.mul_zero, Nat.one_mul, Nat.zero_le, Int.toNat_zero, BEq.rfl, beq_self_eq_true, if_pos, if_neg, decide_eq_true, decide_eq_false, sz3, ze3, by3, ag3, Try.underlying3, bin_eql Try.underlying3, bin_neq Try.underlying3, sz31, ze31, by31, ag31, Try.underlying31, sz35, ze35, by35, ag35, Try.underlying35, AP.run, List.size_toArray, List.length_set, hf, hH, upd_ne, runF_len]; exact rfl; simp only [List.set_cons_succ, List.set_cons_zero, putA]; exact rfl)
    | ((with_reducible apply q_consF); simp only [aWanted, List.getElem?_toArray, List.getElem?_cons_succ, List.getElem?_cons_zero, Option.bind_some, List.getD_cons_succ, List.getD_cons_zero]; exact rfl; simp only [List.set_cons_succ, List.set_cons_zero, putA]; exact rfl)
    | ((with_reducible apply q_consT); simp only [aWanted, List.getElem?_toArray, List.getElem?_cons_succ, List.getElem?_cons_zero, Option.bind_some, List.getD_cons_succ, List.getD_cons_zero]; exact rfl; simp (disch := omega) only [true_or, aOp, aStep, aWanted, evA, putA, begA, packA, aRes, aRead, bin_add, bin_sub, bin_mul, bin_lss, bin_leq, bin_gtr, bin_geq, bin_quo, bin_rem, un_not, aBuiltin, aLen, aLoad, aStore, aBox, aAlloc, aCells, AV.one, Value.oneCell', putCells, cellsOut, aIndexAddr, aFieldAddr, aField, AV.parts?, aNilCheck, aExtract, aSlice, bnd, aAppend, aSrc, aBuildSlice, aFill, aZeros, aMakeSlice, aFieldAddr, AP.ofOption, Value.cells, List.cons_append, List.nil_append, List.append_nil, List.length_cons, List.length_nil, List.length_map, List.replicate_succ, List.replicate_zero, List.set_cons_succ, List.set_cons_zero, List.getD_cons_succ, List.getD_cons_zero, List.toList_toArray, List.map_cons, List.map_nil, List.drop_zero, List.drop_succ_cons, List.drop_nil, List.take_succ_cons, List.take_zero, List.take_nil, List.head?_cons, List.head?_drop, List.getElem?_map, List.getElem?_cons_zero, List.getElem?_cons_succ, List.getElem?_eq_getElem, Option.map_some, Option.map_none, Option.bind_some, List.all_cons, List.all_nil, Bool.and_true, Bool.true_and, Bool.and_self, upd_same, decide_true, decide_false, decide_eq_true_eq, if_true, if_false, Bool.false_eq_true, Bool.true_eq_false, ite_true, ite_false, true_and, and_true, and_self, eq_self, reduceCtorEq, Bool.not_eq_true, Bool.not_true, Bool.not_false, Bool.not_eq_false, not_true_eq_false, not_false_eq_true, Int.toNat_natCast, Nat.zero_add, Nat.add_zero, Nat.mul_one, Nat.zero_mul, Nat.mul_zero, Nat.one_mul, Nat.zero_le, Int.toNat_zero, BEq.rfl, beq_self_eq_true, if_pos, if_neg, decide_eq_true, decide_eq_false, sz3, ze3, by3, ag3, Try.underlying3, bin_eql Try.underlying3, bin_neq Try.underlying3, sz31, ze31, by31, ag31, Try.underlying31, sz35, ze35, by35, ag35, Try.underlying35, AP.run, List.size_toArray, List.length_set, hf, hH, upd_ne, runF_len]; exact rfl; simp only [List.set_cons_succ, List.set_cons_zero, putA]; exact rfl)
    | with_reducible refine q_block ?_
    | with_reducible refine q_skip ?_
    | with_reducible refine q_ret ?_
    | with_reducible refine q_exit ?_
    | with_reducible refine q_thenR ?_
    | with_reducible refine q_thenE ?_
    | with_reducible refine q_blkN ?_
    | with_reducible refine q_blkR ?_
    | with_reducible refine q_blkE ?_
    | ((with_reducible apply q_cond); simp only [evA, List.getD_cons_succ, List.getD_cons_zero]; exact rfl)
    | with_reducible refine q_bT ?_
    | with_reducible refine q_bF ?_
    | ((with_reducible apply q_bifF); (first | rfl | decide | assumption))
    | ((with_reducible apply q_bifT); (first | rfl | decide | assumption))
    | with_reducible refine q_loop ?_)
      refine ⟨n.toNat - (k0 + 1 + 1), by omega, k0 + 1 + 1, _, by omega, rfl, rfl, .inr ⟨k0 + 1, rfl, rfl, ?_, ⟨by omega, fun q hq => by rw [upd_ne _ _ (by omega), upd_ne _ _ (by omega)]; exact hf q (by omega)⟩, fun q hq => ?_⟩⟩
      · rw [hrf]
        simp [upd, runF_len, List.take_of_length_le]
      · have h1 : q < s := Nat.lt_of_not_le (fun e => hq (hs q e))
        rw [upd_ne _ _ (by omega), upd_ne _ _ (by omega)]
        exact hE q hq
  · obtain rfl : k = n.toNat := by omega
    repeat (first
    | with_reducible refine q_seq ?_
    | with_reducible refine q_reg ?_
    | with_reducible refine q_nil ?_
    | with_reducible refine q_thenN ?_
    | ((with_reducible apply q_cons rfl); simp (disch := omega) only [true_or, aOp, aStep, aWanted, evA, putA, begA, packA, aRes, aRead, bin_add, bin_sub, bin_mul, bin_lss, bin_leq, bin_gtr, bin_geq, bin_quo, bin_rem, un_not, aBuiltin, aLen, aLoad, aStore, aBox, aAlloc, aCells, AV.one, Value.oneCell', putCells, cellsOut, aIndexAddr, aFieldAddr, aField, AV.parts?, aNilCheck, aExtract, aSlice, bnd, aAppend, aSrc, aBuildSlice, aFill, aZeros, aMakeSlice, aFieldAddr, AP.ofOption, Value.cells, List.cons_append, List.nil_append, List.append_nil, List.length_cons, List.length_nil, List.length_map, List.replicate_succ, List.replicate_zero, List.set_cons_succ, List.set_cons_zero, List.getD_cons_succ, List.getD_cons_zero, List.toList_toArray, List.map_cons, List.map_nil, List.drop_zero, List.drop_succ_cons, List.drop_nil, List.take_succ_cons, List.take_zero, List.take_nil, List.head?_cons, List.head?_drop, List.getElem?_map, List.getElem?_cons_zero, List.getElem?_cons_succ, List.getElem?_eq_getElem, Option.map_some, Option.map_none, Option.bind_some, List.all_cons, List.all_nil, Bool.and_true, Bool.true_and, Bool.and_self, upd_same, decide_true, decide_false, decide_eq_true_eq, if_true, if_false, Bool.false_eq_true, Bool.true_eq_false, ite_true, ite_false, true_and, and_true, and_self, eq_self, reduceCtorEq, Bool.not_eq_true, Bool.not_true, Bool.not_false, Bool.not_eq_false, not_true_eq_false, not_false_eq_true, Int.toNat_natCast, Nat.zero_add, Nat.add_zero, Nat.mul_one, Nat.zero_mul, Nat.mul_zero, Nat.one_mul, Nat.zero_le, Int.toNat_zero, BEq.rfl, beq_self_eq_true, if_pos, if_neg, decide_eq_true, decide_eq_false, sz3, ze3, by3, ag3, Try.underlying3, bin_eql Try.underlying3, bin_neq Try.underlying3, sz31, ze31, by31, ag31, Try.underlying31, sz35, ze35, by35, ag35, Try.underlying35, AP.run, List.size_toArray, List.length_set, cal15, cal23, ctT_23, c23]; exact rfl; simp only [List.set_cons_succ, List.set_cons_zero, putA]; exact rfl)
    | ((with_reducible apply q_consF); simp only [aWanted, List.getElem?_toArray, List.getElem?_cons_succ, List.getElem?_cons_zero, Option.bind_some, List.getD_cons_succ, List.getD_cons_zero]; exact rfl; simp only [List.set_cons_succ, List.set_cons_zero, putA]; exact rfl)
    | ((with_reducible apply q_consT); simp only [aWanted, List.getElem?_toArray, List.getElem?_cons_succ, List.getElem?_cons_zero, Option.bind_some, List.getD_cons_succ, List.getD_cons_zero]; exact rfl; simp (disch := omega) only [true_or, aOp, aStep, aWanted, evA, putA, begA, packA, aRes, aRead, bin_add, bin_sub, bin_mul, bin_lss, bin_leq, bin_gtr, bin_geq, bin_quo, bin_rem, un_not, aBuiltin, aLen, aLoad, aStore, aBox, aAlloc, aCells, AV.one, Value.oneCell', putCells, cellsOut, aIndexAddr, aFieldAddr, aField, AV.parts?, aNilCheck, aExtract, aSlice, bnd, aAppend, aSrc, aBuildSlice, aFill, aZeros, aMakeSlice, aFieldAddr, AP.ofOption, Value.cells, List.cons_append, List.nil_append, List.append_nil, List.length_cons, List.length_nil, List.length_map, List.replicate_succ, List.replicate_zero, List.set_cons_succ, List.set_cons_zero, List.getD_cons_succ, List.getD_cons_zero, List.toList_toArray, List.map_cons, List.map_nil, List.drop_zero, List.drop_succ_cons, List.drop_nil, List.take_succ_cons, List.take_zero, List.take_nil, List.head?_cons, List.head?_drop, List.getElem?_map, List.getElem?_cons_zero, List.getElem?_cons_succ, List.getElem?_eq_getElem, Option.map_some, Option.map_none, Option.bind_some, List.all_cons, List.all_nil, Bool.and_true, Bool.true_and, Bool.and_self, upd_same, decide_true, decide_false, decide_eq_true_eq, if_true, if_false, Bool.false_eq_true, Bool.true_eq_false, ite_true, ite_false, true_and, and_true, and_self, eq_self, reduceCtorEq, Bool.not_eq_true, Bool.not_true, Bool.not_false, Bool.not_eq_false, not_true_eq_false, not_false_eq_true, Int.toNat_natCast, Nat.zero_add, Nat.add_zero, Nat.mul_one, Nat.zero_mul, Nat.mul_zero, Nat.one_mul, Nat.zero_le, Int.toNat_zero, BEq.rfl, beq_self_eq_true, if_pos, if_neg, decide_eq_true, decide_eq_false, sz3, ze3, by3, ag3, Try.underlying3, bin_eql Try.underlying3, bin_neq Try.underlying3, sz31, ze31, by31, ag31, Try.underlying31, sz35, ze35, by35, ag35, Try.underlying35, AP.run, List.size_toArray, List.length_set, cal15, cal23, ctT_23, c23]; exact rfl; simp only [List.set_cons_succ, List.set_cons_zero, putA]; exact rfl)
    | with_reducible refine q_block ?_
    | with_reducible refine q_skip ?_
    | with_reducible refine q_ret ?_
    | with_reducible refine q_exit ?_
    | with_reducible refine q_thenR ?_
    | with_reducible refine q_thenE ?_
    | with_reducible refine q_blkN ?_
    | with_reducible refine q_blkR ?_
    | with_reducible refine q_blkE ?_
    | ((with_reducible apply q_cond); simp only [evA, List.getD_cons_succ, List.getD_cons_zero]; exact rfl)
    | with_reducible refine q_bT ?_
    | with_reducible refine q_bF ?_
    | ((with_reducible apply q_bifF); (first | rfl | decide | assumption))
    | ((with_reducible apply q_bifT); (first | rfl | decide | assumption))
    | with_reducible refine q_loop ?_)
    refine AWp.loop [0, 1, 2, 3, 4, 11, 12, 14, 15] (fun Γ H s' m => ∃ (i : Nat) (hs lt : List Int), i ≤ n.toNat ∧ m = n.toNat - i ∧ Γ = [.sc (.int .i64 first), .sc (.int .i64 n), .dsl order.length (ints order), .sc (.int .i64 h), .sc (.int .i64 which)] ++ (List.replicate 6 .junk) ++ [.sc (.bool true), v, .junk, .dsl lt.length (ints lt), .sc (.int .i64 (i : Nat))] ++ (List.replicate 176 .junk) ∧
      HsI E s n.toNat v H s' hs ∧ TBI first n.toNat i hs lt) n.toNat ?_ ?_
    · exact ⟨0, _, _, Nat.zero_le _, rfl, rfl, hI, tbi_start first n.toNat⟩
    clear hI
    rintro Γ H2 s2 m ⟨i, hs, lt, hi, rfl, rfl, hI, hT⟩
    refine wA_ok hmix ctT_ok _ (by kernel_rfl) ?_
    simp (maxSteps := 1000000) only [List.replicate_succ, List.replicate_zero, List.cons_append, List.nil_append, List.append_nil]
    by_cases hlt : i < n.toNat
    · rcases hI with ⟨e0, _⟩ | ⟨k0, e0, rfl, hH, ⟨hs1, hf⟩, hE⟩
      · omega
      have hcast : ((n.toNat : Nat) : Int) = n := by omega
      have hlen : hs.length = k0 + 1 := by rw [hT.len]; omega
      by_cases hor : i < order.length
      · have hb1 := Int.tmod_lt_of_pos order[i] (show 0 < n - (i : Int) by omega)
        have hb2 := Int.lt_tmod_of_pos order[i] (show 0 < n - (i : Int) by omega)
        have hb3 := Int.tmod_lt_of_pos (order[i].tmod (n - (i : Int)) + n - (i : Int)) (show 0 < n - (i : Int) by omega)
        have hb4 : 0 ≤ (order[i].tmod (n - (i : Int)) + n - (i : Int)).tmod (n - (i : Int)) := Int.tmod_nonneg _ (by omega)
        obtain ⟨kk, hkk⟩ : ∃ kk : Nat, (i : Int) + (order[i].tmod (n - (i : Int)) + n - (i : Int)).tmod (n - (i : Int)) = (kk : Int) := ⟨(i + (order[i].tmod (n - (i : Int)) + n - (i : Int)).tmod (n - (i : Int))).toNat, by omega⟩
        have hk1 : i ≤ kk := by omega
        have hk2 : kk < k0 + 1 := by omega
        have hst := tbi_step hT (by omega) hk1 (by omega) (by omega) (by omega) (by omega)
        have hst0 := hst.1
        have hlt0 := hT.llen
        repeat (first
    | with_reducible refine q_seq ?_
    | with_reducible refine q_reg ?_
    | with_reducible refine q_nil ?_
    | with_reducible refine q_thenN ?_
    | ((with_reducible apply q_cons rfl); simp (disch := omega) only [true_or, aOp, aStep, aWanted, evA, putA, begA, packA, aRes, aRead, bin_add, bin_sub, bin_mul, bin_lss, bin_leq, bin_gtr, bin_geq, bin_quo, un_not, aBuiltin, aLen, aLoad, aStore, aBox, aAlloc, aCells, AV.one, Value.oneCell', putCells, cellsOut, aIndexAddr, aFieldAddr, aField, AV.parts?, aNilCheck, aExtract, aSlice, bnd, aAppend, aSrc, aBuildSlice, aFill, aZeros, aMakeSlice, aFieldAddr, AP.ofOption, Value.cells, List.cons_append, List.nil_append, List.append_nil, List.length_cons, List.length_nil, List.length_map, List.replicate_succ, List.replicate_zero, List.set_cons_succ, List.set_cons_zero, List.getD_cons_succ, List.getD_cons_zero, List.toList_toArray, List.map_cons, List.map_nil, List.drop_zero, List.drop_succ_cons, List.drop_nil, List.take_succ_cons, List.take_zero, List.take_nil, List.head?_cons, List.head?_drop, List.getElem?_map, List.getElem?_cons_zero, List.getElem?_cons_succ, List.getElem?_eq_getElem, Option.map_some, Option.map_none, Option.bind_some, List.all_cons, List.all_nil, Bool.and_true, Bool.true_and, Bool.and_self, upd_same, decide_true, decide_false, decide_eq_true_eq, if_true, if_false, Bool.false_eq_true, Bool.true_eq_false, ite_true, ite_false, true_and, and_true, and_self, eq_self, reduceCtorEq, Bool.not_eq_true, Bool.not_true, Bool.not_false, Bool.not_eq_false, not_true_eq_false, not_false_eq_true, Int.toNat_natCast, Nat.zero_add, Nat.add_zero, Nat.mul_one, Nat.zero_mul, Nat.mul_zero, Nat.one_mul, Nat.zero_le, Int.toNat_zero, BEq.rfl, beq_self_eq_true, if_pos, if_neg, decide_eq_true, decide_eq_false, sz3, ze3, by3, ag3, Try.underlying3, bin_eql Try.underlying3, bin_neq Try.underlying3, sz31, ze31, by31, ag31, Try.underlying31, sz35, ze35, by35, ag35, Try.underlying35, AP.run, List.size_toArray, List.length_set, cal24, ctT_24, c24, rdK_dsl, hf, hH, upd_ne, bin_remT, hkk, hst0]; exact rfl; simp only [List.set_cons_succ, List.set_cons_zero, putA]; exact rfl)
    | ((with_reducible apply q_consF); simp only [aWanted, List.getElem?_toArray, List.getElem?_cons_succ, List.getElem?_cons_zero, Option.bind_some, List.getD_cons_succ, List.getD_cons_zero]; exact rfl; simp only [List.set_cons_succ, List.set_cons_zero, putA]; exact rfl)
    | ((with_reducible apply q_consT); simp only [aWanted, List.getElem?_toArray, List.getElem?_cons_succ, List.getElem?_cons_zero, Option.bind_some, List.getD_cons_succ, List.getD_cons_zero]; exact rfl; simp (disch := omega) only [true_or, aOp, aStep, aWanted, evA, putA, begA, packA, aRes, aRead, bin_add, bin_sub, bin_mul, bin_lss, bin_leq, bin_gtr, bin_geq, bin_quo, un_not, aBuiltin, aLen, aLoad, aStore, aBox, aAlloc, aCells, AV.one, Value.oneCell', putCells, cellsOut, aIndexAddr, aFieldAddr, aField, AV.parts?, aNilCheck, aExtract, aSlice, bnd, aAppend, aSrc, aBuildSlice, aFill, aZeros, aMakeSlice, aFieldAddr, AP.ofOption, Value.cells, List.cons_append, List.nil_append, List.append_nil, List.length_cons, List.length_nil, List.length_map, List.replicate_succ, List.replicate_zero, List.set_cons_succ, List.set_cons_zero, List.getD_cons_succ, List.getD_cons_zero, List.toList_toArray, List.map_cons, List.map_nil, List.drop_zero, List.drop_succ_cons, List.drop_nil, List.take_succ_cons, List.take_zero, List.take_nil, List.head?_cons, List.head?_drop, List.getElem?_map, List.getElem?_cons_zero, List.getElem?_cons_succ, List.getElem?_eq_getElem, Option.map_some, Option.map_none, Option.bind_some, List.all_cons, List.all_nil, Bool.and_true, Bool.true_and, Bool.and_self, upd_same, decide_true, decide_false, decide_eq_true_eq, if_true, if_false, Bool.false_eq_true, Bool.true_eq_false, ite_true, ite_false, true_and, and_true, and_self, eq_self, reduceCtorEq, Bool.not_eq_true, Bool.not_true, Bool.not_false, Bool.not_eq_false, not_true_eq_false, not_false_eq_true, Int.toNat_natCast, Nat.zero_add, Nat.add_zero, Nat.mul_one, Nat.zero_mul, Nat.mul_zero, Nat.one_mul, Nat.zero_le, Int.toNat_zero, BEq.rfl, beq_self_eq_true, if_pos, if_neg, decide_eq_true, decide_eq_false, sz3, ze3, by3, ag3, Try.underlying3, bin_eql Try.underlying3, bin_neq Try.underlying3, sz31, ze31, by31, ag31, Try.underlying31, sz35, ze35, by35, ag35, Try.underlying35, AP.run, List.size_toArray, List.length_set, cal24, ctT_24, c24, rdK_dsl, hf, hH, upd_ne, bin_remT, hkk, hst0]; exact rfl; simp only [List.set_cons_succ, List.set_cons_zero, putA]; exact rfl)
    | with_reducible refine q_block ?_
    | with_reducible refine q_skip ?_
    | with_reducible refine q_ret ?_
    | with_reducible refine q_exit ?_
    | with_reducible refine q_thenR ?_
    | with_reducible refine q_thenE ?_
    | with_reducible refine q_blkN ?_
    | with_reducible refine q_blkR ?_
    | with_reducible refine q_blkE ?_
    | ((with_reducible apply q_cond); simp only [evA, List.getD_cons_succ, List.getD_cons_zero]; exact rfl)
    | with_reducible refine q_bT ?_
    | with_reducible refine q_bF ?_
    | ((with_reducible apply q_bifF); (first | rfl | decide | assumption))
    | ((with_reducible apply q_bifT); (first | rfl | decide | assumption))
    | with_reducible refine q_loop ?_)
        exact ⟨n.toNat - (i + 1), by omega, i + 1, (hs.set kk hs[i]).set i hs[kk], _, by omega, rfl, rfl, .inr ⟨k0, e0, rfl, by rw [upd_same]; simp only [List.map_set], ⟨hs1, fun q hq => by rw [upd_ne _ _ (by omega), upd_ne _ _ (by omega)]; exact hf q hq⟩, fun q hq => by
          have h1 : q < s := Nat.lt_of_not_le (fun e => hq (hsE q e))
          rw [upd_ne _ _ (by omega), upd_ne _ _ (by omega)]
          exact hE q hq⟩, hst.2⟩
      · have hst := tbi_step hT (by omega) (Nat.le_refl i) (by omega) (by omega) (by omega) (by omega)
        have hst0 := hst.1
        have hlt0 := hT.llen
        repeat (first
    | with_reducible refine q_seq ?_
    | with_reducible refine q_reg ?_
    | with_reducible refine q_nil ?_
    | with_reducible refine q_thenN ?_
    | ((with_reducible apply q_cons rfl); simp (disch := omega) only [true_or, aOp, aStep, aWanted, evA, putA, begA, packA, aRes, aRead, bin_add, bin_sub, bin_mul, bin_lss, bin_leq, bin_gtr, bin_geq, bin_quo, un_not, aBuiltin, aLen, aLoad, aStore, aBox, aAlloc, aCells, AV.one, Value.oneCell', putCells, cellsOut, aIndexAddr, aFieldAddr, aField, AV.parts?, aNilCheck, aExtract, aSlice, bnd, aAppend, aSrc, aBuildSlice, aFill, aZeros, aMakeSlice, aFieldAddr, AP.ofOption, Value.cells, List.cons_append, List.nil_append, List.append_nil, List.length_cons, List.length_nil, List.length_map, List.replicate_succ, List.replicate_zero, List.set_cons_succ, List.set_cons_zero, List.getD_cons_succ, List.getD_cons_zero, List.toList_toArray, List.map_cons, List.map_nil, List.drop_zero, List.drop_succ_cons, List.drop_nil, List.take_succ_cons, List.take_zero, List.take_nil, List.head?_cons, List.head?_drop, List.getElem?_map, List.getElem?_cons_zero, List.getElem?_cons_succ, List.getElem?_eq_getElem, Option.map_some, Option.map_none, Option.bind_some, List.all_cons, List.all_nil, Bool.and_true, Bool.true_and, Bool.and_self, upd_same, decide_true, decide_false, decide_eq_true_eq, if_true, if_false, Bool.false_eq_true, Bool.true_eq_false, ite_true, ite_false, true_and, and_true, and_self, eq_self, reduceCtorEq, Bool.not_eq_true, Bool.not_true, Bool.not_false, Bool.not_eq_false, not_true_eq_false, not_false_eq_true, Int.toNat_natCast, Nat.zero_add, Nat.add_zero, Nat.mul_one, Nat.zero_mul, Nat.mul_zero, Nat.one_mul, Nat.zero_le, Int.toNat_zero, BEq.rfl, beq_self_eq_true, if_pos, if_neg, decide_eq_true, decide_eq_false, sz3, ze3, by3, ag3, Try.underlying3, bin_eql Try.underlying3, bin_neq Try.underlying3, sz31, ze31, by31, ag31, Try.underlying31, sz35, ze35, by35, ag35, Try.underlying35, AP.run, List.size_toArray, List.length_set, cal24, ctT_24, c24, rdK_dsl, hf, hH, upd_ne, bin_remT, hst0]; exact rfl; simp only [List.set_cons_succ, List.set_cons_zero, putA]; exact rfl)
    | ((with_reducible apply q_consF); simp only [aWanted, List.getElem?_toArray, List.getElem?_cons_succ, List.getElem?_cons_zero, Option.bind_some, List.getD_cons_succ, List.getD_cons_zero]; exact rfl; simp only [List.set_cons_succ, List.set_cons_zero, putA]; exact rfl)
    | ((with_reducible apply q_consT); simp only [aWanted, List.getElem?_toArray, List.getElem?_cons_succ, List.getElem?_cons_zero, Option.bind_some, List.getD_cons_succ, List.getD_cons_zero]; exact rfl; simp (disch := omega) only [true_or, aOp, aStep, aWanted, evA, putA, begA, packA, aRes, aRead, bin_add, bin_sub, bin_mul, bin_lss, bin_leq, bin_gtr, bin_geq, bin_quo, un_not, aBuiltin, aLen, aLoad, aStore, aBox, aAlloc, aCells, AV.one, Value.oneCell', putCells, cellsOut, aIndexAddr, aFieldAddr, aField, AV.parts?, aNilCheck, aExtract, aSlice, bnd, aAppend, aSrc, aBuildSlice, aFill, aZeros, aMakeSlice, aFieldAddr, AP.ofOption, Value.cells, List.cons_append, List.nil_append, List.append_nil, List.length_cons, List.length_nil, List.length_map, List.replicate_succ, List.replicate_zero, List.set_cons_succ, List.set_cons_zero, List.getD_cons_succ, List.getD_cons_zero, List.toList_toArray, List.map_cons, List.map_nil, List.drop_zero, List.drop_succ_cons, List.drop_nil, List.take_succ_cons, List.take_zero, List.take_nil, List.head?_cons, List.head?_drop, List.getElem?_map, List.getElem?_cons_zero, List.getElem?_cons_succ, List.getElem?_eq_getElem, Option.map_some, Option.map_none, Option.bind_some, List.all_cons, List.all_nil, Bool.and_true, Bool.true_and, Bool.and_self, upd_same, decide_true, decide_false, decide_eq_true_eq, if_true, if_false, Bool.false_eq_true, Bool.true_eq_false, ite_true, ite_false, true_and, and_true, and_self, eq_self, reduceCtorEq, Bool.not_eq_true, Bool.not_true, Bool.not_false, Bool.not_eq_false, not_true_eq_false, not_false_eq_true, Int.toNat_natCast, Nat.zero_add, Nat.add_zero, Nat.mul_one, Nat.zero_mul, Nat.mul_zero, Nat.one_mul, Nat.zero_le, Int.toNat_zero, BEq.rfl, beq_self_eq_true, if_pos, if_neg, decide_eq_true, decide_eq_false, sz3, ze3, by3, ag3, Try.underlying3, bin_eql Try.underlying3, bin_neq Try.underlying3, sz31, ze31, by31, ag31, Try.underlying31, sz35, ze35, by35, ag35, Try.underlying35, AP.run, List.size_toArray, List.length_set, cal24, ctT_24, c24, rdK_dsl, hf, hH, upd_ne, bin_remT, hst0]; exact rfl; simp only [List.set_cons_succ, List.set_cons_zero, putA]; exact rfl)
    | with_reducible refine q_block ?_
    | with_reducible refine q_skip ?_
    | with_reducible refine q_ret ?_
    | with_reducible refine q_exit ?_
    | with_reducible refine q_thenR ?_
    | with_reducible refine q_thenE ?_
    | with_reducible refine q_blkN ?_
    | with_reducible refine q_blkR ?_
    | with_reducible refine q_blkE ?_
    | ((with_reducible apply q_cond); simp only [evA, List.getD_cons_succ, List.getD_cons_zero]; exact rfl)
    | with_reducible refine q_bT ?_
    | with_reducible refine q_bF ?_
    | ((with_reducible apply q_bifF); (first | rfl | decide | assumption))
    | ((with_reducible apply q_bifT); (first | rfl | decide | assumption))
    | with_reducible refine q_loop ?_)
        exact ⟨n.toNat - (i + 1), by omega, i + 1, (hs.set i hs[i]).set i hs[i], _, by omega, rfl, rfl, .inr ⟨k0, e0, rfl, by rw [upd_same]; simp only [List.map_set], ⟨hs1, fun q hq => by rw [upd_ne _ _ (by omega), upd_ne _ _ (by omega)]; exact hf q hq⟩, fun q hq => by
          have h1 : q < s := Nat.lt_of_not_le (fun e => hq (hsE q e))
          rw [upd_ne _ _ (by omega), upd_ne _ _ (by omega)]
          exact hE q hq⟩, hst.2⟩
    · obtain rfl : i = n.toNat := by omega
      have hend := tb_end hT (by omega) (by omega) (by omega)
      have hV := hend.1
      have hcast : ((n.toNat : Nat) : Int) = n := by omega
      rw [hcast] at hend
      obtain ⟨_, hc4, hfi, ⟨ha0, ha8⟩, hdr⟩ := hend
      repeat (first
    | with_reducible refine q_seq ?_
    | with_reducible refine q_reg ?_
    | with_reducible refine q_nil ?_
    | with_reducible refine q_thenN ?_
    | ((with_reducible apply q_cons rfl); simp (disch := omega) only [true_or, aOp, aStep, aWanted, evA, putA, begA, packA, aRes, aRead, bin_add, bin_sub, bin_mul, bin_lss, bin_leq, bin_gtr, bin_geq, bin_quo, bin_rem, un_not, aBuiltin, aLen, aLoad, aStore, aBox, aAlloc, aCells, AV.one, Value.oneCell', putCells, cellsOut, aIndexAddr, aFieldAddr, aField, AV.parts?, aNilCheck, aExtract, aSlice, bnd, aAppend, aSrc, aBuildSlice, aFill, aZeros, aMakeSlice, aFieldAddr, AP.ofOption, Value.cells, List.cons_append, List.nil_append, List.append_nil, List.length_cons, List.length_nil, List.length_map, List.replicate_succ, List.replicate_zero, List.set_cons_succ, List.set_cons_zero, List.getD_cons_succ, List.getD_cons_zero, List.toList_toArray, List.map_cons, List.map_nil, List.drop_zero, List.drop_succ_cons, List.drop_nil, List.take_succ_cons, List.take_zero, List.take_nil, List.head?_cons, List.head?_drop, List.getElem?_map, List.getElem?_cons_zero, List.getElem?_cons_succ, List.getElem?_eq_getElem, Option.map_some, Option.map_none, Option.bind_some, List.all_cons, List.all_nil, Bool.and_true, Bool.true_and, Bool.and_self, upd_same, decide_true, decide_false, decide_eq_true_eq, if_true, if_false, Bool.false_eq_true, Bool.true_eq_false, ite_true, ite_false, true_and, and_true, and_self, eq_self, reduceCtorEq, Bool.not_eq_true, Bool.not_true, Bool.not_false, Bool.not_eq_false, not_true_eq_false, not_false_eq_true, Int.toNat_natCast, Nat.zero_add, Nat.add_zero, Nat.mul_one, Nat.zero_mul, Nat.mul_zero, Nat.one_mul, Nat.zero_le, Int.toNat_zero, BEq.rfl, beq_self_eq_true, if_pos, if_neg, decide_eq_true, decide_eq_false, sz3, ze3, by3, ag3, Try.underlying3, bin_eql Try.underlying3, bin_neq Try.underlying3, sz31, ze31, by31, ag31, Try.underlying31, sz35, ze35, by35, ag35, Try.underlying35, AP.run, List.size_toArray, List.length_set, cal25, ctT_25, c25, rdK_dsl, hV]; exact rfl; simp only [List.set_cons_succ, List.set_cons_zero, putA]; exact rfl)
    | ((with_reducible apply q_consF); simp only [aWanted, List.getElem?_toArray, List.getElem?_cons_succ, List.getElem?_cons_zero, Option.bind_some, List.getD_cons_succ, List.getD_cons_zero]; exact rfl; simp only [List.set_cons_succ, List.set_cons_zero, putA]; exact rfl)
    | ((with_reducible apply q_consT); simp only [aWanted, List.getElem?_toArray, List.getElem?_cons_succ, List.getElem?_cons_zero, Option.bind_some, List.getD_cons_succ, List.getD_cons_zero]; exact rfl; simp (disch := omega) only [true_or, aOp, aStep, aWanted, evA, putA, begA, packA, aRes, aRead, bin_add, bin_sub, bin_mul, bin_lss, bin_leq, bin_gtr, bin_geq, bin_quo, bin_rem, un_not, aBuiltin, aLen, aLoad, aStore, aBox, aAlloc, aCells, AV.one, Value.oneCell', putCells, cellsOut, aIndexAddr, aFieldAddr, aField, AV.parts?, aNilCheck, aExtract, aSlice, bnd, aAppend, aSrc, aBuildSlice, aFill, aZeros, aMakeSlice, aFieldAddr, AP.ofOption, Value.cells, List.cons_append, List.nil_append, List.append_nil, List.length_cons, List.length_nil, List.length_map, List.replicate_succ, List.replicate_zero, List.set_cons_succ, List.set_cons_zero, List.getD_cons_succ, List.getD_cons_zero, List.toList_toArray, List.map_cons, List.map_nil, List.drop_zero, List.drop_succ_cons, List.drop_nil, List.take_succ_cons, List.take_zero, List.take_nil, List.head?_cons, List.head?_drop, List.getElem?_map, List.getElem?_cons_zero, List.getElem?_cons_succ, List.getElem?_eq_getElem, Option.map_some, Option.map_none, Option.bind_some, List.all_cons, List.all_nil, Bool.and_true, Bool.true_and, Bool.and_self, upd_same, decide_true, decide_false, decide_eq_true_eq, if_true, if_false, Bool.false_eq_true, Bool.true_eq_false, ite_true, ite_false, true_and, and_true, and_self, eq_self, reduceCtorEq, Bool.not_eq_true, Bool.not_true, Bool.not_false, Bool.not_eq_false, not_true_eq_false, not_false_eq_true, Int.toNat_natCast, Nat.zero_add, Nat.add_zero, Nat.mul_one, Nat.zero_mul, Nat.mul_zero, Nat.one_mul, Nat.zero_le, Int.toNat_zero, BEq.rfl, beq_self_eq_true, if_pos, if_neg, decide_eq_true, decide_eq_false, sz3, ze3, by3, ag3, Try.underlying3, bin_eql Try.underlying3, bin_neq Try.underlying3, sz31, ze31, by31, ag31, Try.underlying31, sz35, ze35, by35, ag35, Try.underlying35, AP.run, List.size_toArray, List.length_set, cal25, ctT_25, c25, rdK_dsl, hV]; exact rfl; simp only [List.set_cons_succ, List.set_cons_zero, putA]; exact rfl)
    | with_reducible refine q_block ?_
    | with_reducible refine q_skip ?_
    | with_reducible refine q_ret ?_
    | with_reducible refine q_exit ?_
    | with_reducible refine q_thenR ?_
    | with_reducible refine q_thenE ?_
    | with_reducible refine q_blkN ?_
    | with_reducible refine q_blkR ?_
    | with_reducible refine q_blkE ?_
    | ((with_reducible apply q_cond); simp only [evA, List.getD_cons_succ, List.getD_cons_zero]; exact rfl)
    | with_reducible refine q_bT ?_
    | with_reducible refine q_bF ?_
    | ((with_reducible apply q_bifF); (first | rfl | decide | assumption))
    | ((with_reducible apply q_bifT); (first | rfl | decide | assumption))
    | with_reducible refine q_loop ?_)
      refine AWp.loop [0, 1, 2, 3, 4, 11, 12, 14, 21, 23] (fun Γ H s' m => ∃ j : Nat, j ≤ (chainsF lt).length ∧ m = (chainsF lt).length - j ∧ Γ = [.sc (.int .i64 first), .sc (.int .i64 n), .dsl order.length (ints order), .sc (.int .i64 h), .sc (.int .i64 which)] ++ (List.replicate 6 .junk) ++ [.sc (.bool true), v, .junk, .dsl lt.length (ints lt)] ++ (List.replicate 6 .junk) ++ [.dsl (chainsF lt).length (rowsA (chainsF lt)), .junk, .sc (.int .i64 (j : Nat))] ++ (List.replicate 168 .junk) ∧
        HsI E s n.toNat v H s' hs) (chainsF lt).length ?_ ?_
      · exact ⟨0, Nat.zero_le _, rfl, rfl, hI⟩
      clear hI
      rintro Γ H3 s3 m ⟨j, hj, rfl, rfl, hI⟩
      refine wA_ok hmix ctT_ok _ (by kernel_rfl) ?_
      simp (maxSteps := 1000000) only [List.replicate_succ, List.replicate_zero, List.cons_append, List.nil_append, List.append_nil]
      have hLb : (chainsF lt).length ≤ 50000 := by
        unfold chainsF
        rw [List.length_map, List.length_range, tab_n hT.head]
        have := bkts_half n.toNat
        omega
      by_cases hlt : j < (chainsF lt).length
      · have h4 : (chainsF lt)[j].length ≤ 4 := hc4 j hlt _ (by simp [hlt])
        repeat (first
    | with_reducible refine q_seq ?_
    | with_reducible refine q_reg ?_
    | with_reducible refine q_nil ?_
    | with_reducible refine q_thenN ?_
    | ((with_reducible apply q_cons rfl); simp (disch := omega) only [true_or, aOp, aStep, aWanted, evA, putA, begA, packA, aRes, aRead, bin_add, bin_sub, bin_mul, bin_lss, bin_leq, bin_gtr, bin_geq, bin_quo, bin_rem, un_not, aBuiltin, aLen, aLoad, aStore, aBox, aAlloc, aCells, AV.one, Value.oneCell', putCells, cellsOut, aIndexAddr, aFieldAddr, aField, AV.parts?, aNilCheck, aExtract, aSlice, bnd, aAppend, aSrc, aBuildSlice, aFill, aZeros, aMakeSlice, aFieldAddr, AP.ofOption, Value.cells, List.cons_append, List.nil_append, List.append_nil, List.length_cons, List.length_nil, List.length_map, List.replicate_succ, List.replicate_zero, List.set_cons_succ, List.set_cons_zero, List.getD_cons_succ, List.getD_cons_zero, List.toList_toArray, List.map_cons, List.map_nil, List.drop_zero, List.drop_succ_cons, List.drop_nil, List.take_succ_cons, List.take_zero, List.take_nil, List.head?_cons, List.head?_drop, List.getElem?_map, List.getElem?_cons_zero, List.getElem?_cons_succ, List.getElem?_eq_getElem, Option.map_some, Option.map_none, Option.bind_some, List.all_cons, List.all_nil, Bool.and_true, Bool.true_and, Bool.and_self, upd_same, decide_true, decide_false, decide_eq_true_eq, if_true, if_false, Bool.false_eq_true, Bool.true_eq_false, ite_true, ite_false, true_and, and_true, and_self, eq_self, reduceCtorEq, Bool.not_eq_true, Bool.not_true, Bool.not_false, Bool.not_eq_false, not_true_eq_false, not_false_eq_true, Int.toNat_natCast, Nat.zero_add, Nat.add_zero, Nat.mul_one, Nat.zero_mul, Nat.mul_zero, Nat.one_mul, Nat.zero_le, Int.toNat_zero, BEq.rfl, beq_self_eq_true, if_pos, if_neg, decide_eq_true, decide_eq_false, sz3, ze3, by3, ag3, Try.underlying3, bin_eql Try.underlying3, bin_neq Try.underlying3, sz31, ze31, by31, ag31, Try.underlying31, sz35, ze35, by35, ag35, Try.underlying35, AP.run, List.size_toArray, List.length_set, rowsA]; exact rfl; simp only [List.set_cons_succ, List.set_cons_zero, putA]; exact rfl)
    | ((with_reducible apply q_consF); simp only [aWanted, List.getElem?_toArray, List.getElem?_cons_succ, List.getElem?_cons_zero, Option.bind_some, List.getD_cons_succ, List.getD_cons_zero]; exact rfl; simp only [List.set_cons_succ, List.set_cons_zero, putA]; exact rfl)
    | ((with_reducible apply q_consT); simp only [aWanted, List.getElem?_toArray, List.getElem?_cons_succ, List.getElem?_cons_zero, Option.bind_some, List.getD_cons_succ, List.getD_cons_zero]; exact rfl; simp (disch := omega) only [true_or, aOp, aStep, aWanted, evA, putA, begA, packA, aRes, aRead, bin_add, bin_sub, bin_mul, bin_lss, bin_leq, bin_gtr, bin_geq, bin_quo, bin_rem, un_not, aBuiltin, aLen, aLoad, aStore, aBox, aAlloc, aCells, AV.one, Value.oneCell', putCells, cellsOut, aIndexAddr, aFieldAddr, aField, AV.parts?, aNilCheck, aExtract, aSlice, bnd, aAppend, aSrc, aBuildSlice, aFill, aZeros, aMakeSlice, aFieldAddr, AP.ofOption, Value.cells, List.cons_append, List.nil_append, List.append_nil, List.length_cons, List.length_nil, List.length_map, List.replicate_succ, List.replicate_zero, List.set_cons_succ, List.set_cons_zero, List.getD_cons_succ, List.getD_cons_zero, List.toList_toArray, List.map_cons, List.map_nil, List.drop_zero, List.drop_succ_cons, List.drop_nil, List.take_succ_cons, List.take_zero, List.take_nil, List.head?_cons, List.head?_drop, List.getElem?_map, List.getElem?_cons_zero, List.getElem?_cons_succ, List.getElem?_eq_getElem, Option.map_some, Option.map_none, Option.bind_some, List.all_cons, List.all_nil, Bool.and_true, Bool.true_and, Bool.and_self, upd_same, decide_true, decide_false, decide_eq_true_eq, if_true, if_false, Bool.false_eq_true, Bool.true_eq_false, ite_true, ite_false, true_and, and_true, and_self, eq_self, reduceCtorEq, Bool.not_eq_true, Bool.not_true, Bool.not_false, Bool.not_eq_false, not_true_eq_false, not_false_eq_true, Int.toNat_natCast, Nat.zero_add, Nat.add_zero, Nat.mul_one, Nat.zero_mul, Nat.mul_zero, Nat.one_mul, Nat.zero_le, Int.toNat_zero, BEq.rfl, beq_self_eq_true, if_pos, if_neg, decide_eq_true, decide_eq_false, sz3, ze3, by3, ag3, Try.underlying3, bin_eql Try.underlying3, bin_neq Try.underlying3, sz31, ze31, by31, ag31, Try.underlying31, sz35, ze35, by35, ag35, Try.underlying35, AP.run, List.size_toArray, List.length_set, rowsA]; exact rfl; simp only [List.set_cons_succ, List.set_cons_zero, putA]; exact rfl)
    | with_reducible refine q_block ?_
    | with_reducible refine q_skip ?_
    | with_reducible refine q_ret ?_
    | with_reducible refine q_exit ?_
    | with_reducible refine q_thenR ?_
    | with_reducible refine q_thenE ?_
    | with_reducible refine q_blkN ?_
    | with_reducible refine q_blkR ?_
    | with_reducible refine q_blkE ?_
    | ((with_reducible apply q_cond); simp only [evA, List.getD_cons_succ, List.getD_cons_zero]; exact rfl)
    | with_reducible refine q_bT ?_
    | with_reducible refine q_bF ?_
    | ((with_reducible apply q_bifF); (first | rfl | decide | assumption))
    | ((with_reducible apply q_bifT); (first | rfl | decide | assumption))
    | with_reducible refine q_loop ?_)
        exact ⟨(chainsF lt).length - (j + 1), by omega, j + 1, by omega, rfl, rfl, hI⟩
      · obtain rfl : j = (chainsF lt).length := by omega
        have hend2 : ∀ q, E.H q ≠ none → H3 q = E.H q := by
          rcases hI with ⟨_, _, rfl, _⟩ | ⟨_, _, _, _, _, hE⟩
          · exact fun _ _ => rfl
          · exact hE
        by_cases hn0 : n = 0
        · by_cases hh : 0 ≤ h ∧ h ≤ 2147483647
          · obtain ⟨hf0, hf4⟩ := hfi h hh
            repeat (first
    | with_reducible refine q_seq ?_
    | with_reducible refine q_reg ?_
    | with_reducible refine q_nil ?_
    | with_reducible refine q_thenN ?_
    | ((with_reducible apply q_cons rfl); simp (disch := omega) only [true_or, aOp, aStep, aWanted, evA, putA, begA, packA, aRes, aRead, bin_add, bin_sub, bin_mul, bin_lss, bin_leq, bin_gtr, bin_geq, bin_quo, bin_rem, un_not, aBuiltin, aLen, aLoad, aStore, aBox, aAlloc, aCells, AV.one, Value.oneCell', putCells, cellsOut, aIndexAddr, aFieldAddr, aField, AV.parts?, aNilCheck, aExtract, aSlice, bnd, aAppend, aSrc, aBuildSlice, aFill, aZeros, aMakeSlice, aFieldAddr, AP.ofOption, Value.cells, List.cons_append, List.nil_append, List.append_nil, List.length_cons, List.length_nil, List.length_map, List.replicate_succ, List.replicate_zero, List.set_cons_succ, List.set_cons_zero, List.getD_cons_succ, List.getD_cons_zero, List.toList_toArray, List.map_cons, List.map_nil, List.drop_zero, List.drop_succ_cons, List.drop_nil, List.take_succ_cons, List.take_zero, List.take_nil, List.head?_cons, List.head?_drop, List.getElem?_map, List.getElem?_cons_zero, List.getElem?_cons_succ, List.getElem?_eq_getElem, Option.map_some, Option.map_none, Option.bind_some, List.all_cons, List.all_nil, Bool.and_true, Bool.true_and, Bool.and_self, upd_same, decide_true, decide_false, decide_eq_true_eq, if_true, if_false, Bool.false_eq_true, Bool.true_eq_false, ite_true, ite_false, true_and, and_true, and_self, eq_self, reduceCtorEq, Bool.not_eq_true, Bool.not_true, Bool.not_false, Bool.not_eq_false, not_true_eq_false, not_false_eq_true, Int.toNat_natCast, Nat.zero_add, Nat.add_zero, Nat.mul_one, Nat.zero_mul, Nat.mul_zero, Nat.one_mul, Nat.zero_le, Int.toNat_zero, BEq.rfl, beq_self_eq_true, if_pos, if_neg, decide_eq_true, decide_eq_false, sz3, ze3, by3, ag3, Try.underlying3, bin_eql Try.underlying3, bin_neq Try.underlying3, sz31, ze31, by31, ag31, Try.underlying31, sz35, ze35, by35, ag35, Try.underlying35, AP.run, List.size_toArray, List.length_set, cal26, ctT_26, c26, cal21, ctT_21, c21, cal24, ctT_24, c24, rdK_dsl, hf0, ha0]; exact rfl; simp only [List.set_cons_succ, List.set_cons_zero, putA]; exact rfl)
    | ((with_reducible apply q_consF); simp only [aWanted, List.getElem?_toArray, List.getElem?_cons_succ, List.getElem?_cons_zero, Option.bind_some, List.getD_cons_succ, List.getD_cons_zero]; exact rfl; simp only [List.set_cons_succ, List.set_cons_zero, putA]; exact rfl)
    | ((with_reducible apply q_consT); simp only [aWanted, List.getElem?_toArray, List.getElem?_cons_succ, List.getElem?_cons_zero, Option.bind_some, List.getD_cons_succ, List.getD_cons_zero]; exact rfl; simp (disch := omega) only [true_or, aOp, aStep, aWanted, evA, putA, begA, packA, aRes, aRead, bin_add, bin_sub, bin_mul, bin_lss, bin_leq, bin_gtr, bin_geq, bin_quo, bin_rem, un_not, aBuiltin, aLen, aLoad, aStore, aBox, aAlloc, aCells, AV.one, Value.oneCell', putCells, cellsOut, aIndexAddr, aFieldAddr, aField, AV.parts?, aNilCheck, aExtract, aSlice, bnd, aAppend, aSrc, aBuildSlice, aFill, aZeros, aMakeSlice, aFieldAddr, AP.ofOption, Value.cells, List.cons_append, List.nil_append, List.append_nil, List.length_cons, List.length_nil, List.length_map, List.replicate_succ, List.replicate_zero, List.set_cons_succ, List.set_cons_zero, List.getD_cons_succ, List.getD_cons_zero, List.toList_toArray, List.map_cons, List.map_nil, List.drop_zero, List.drop_succ_cons, List.drop_nil, List.take_succ_cons, List.take_zero, List.take_nil, List.head?_cons, List.head?_drop, List.getElem?_map, List.getElem?_cons_zero, List.getElem?_cons_succ, List.getElem?_eq_getElem, Option.map_some, Option.map_none, Option.bind_some, List.all_cons, List.all_nil, Bool.and_true, Bool.true_and, Bool.and_self, upd_same, decide_true, decide_false, decide_eq_true_eq, if_true, if_false, Bool.false_eq_true, Bool.true_eq_false, ite_true, ite_false, true_and, and_true, and_self, eq_self, reduceCtorEq, Bool.not_eq_true, Bool.not_true, Bool.not_false, Bool.not_eq_false, not_true_eq_false, not_false_eq_true, Int.toNat_natCast, Nat.zero_add, Nat.add_zero, Nat.mul_one, Nat.zero_mul, Nat.mul_zero, Nat.one_mul, Nat.zero_le, Int.toNat_zero, BEq.rfl, beq_self_eq_true, if_pos, if_neg, decide_eq_true, decide_eq_false, sz3, ze3, by3, ag3, Try.underlying3, bin_eql Try.underlying3, bin_neq Try.underlying3, sz31, ze31, by31, ag31, Try.underlying31, sz35, ze35, by35, ag35, Try.underlying35, AP.run, List.size_toArray, List.length_set, cal26, ctT_26, c26, cal21, ctT_21, c21, cal24, ctT_24, c24, rdK_dsl, hf0, ha0]; exact rfl; simp only [List.set_cons_succ, List.set_cons_zero, putA]; exact rfl)
    | with_reducible refine q_block ?_
    | with_reducible refine q_skip ?_
    | with_reducible refine q_ret ?_
    | with_reducible refine q_exit ?_
    | with_reducible refine q_thenR ?_
    | with_reducible refine q_thenE ?_
    | with_reducible refine q_blkN ?_
    | with_reducible refine q_blkR ?_
    | with_reducible refine q_blkE ?_
    | ((with_reducible apply q_cond); simp only [evA, List.getD_cons_succ, List.getD_cons_zero]; exact rfl)
    | with_reducible refine q_bT ?_
    | with_reducible refine q_bF ?_
    | ((with_reducible apply q_bifF); (first | rfl | decide | assumption))
    | ((with_reducible apply q_bifT); (first | rfl | decide | assumption))
    | with_reducible refine q_loop ?_)
            (apply q_end; simp only [aRes, Try.results4, List.toList_toArray, List.getD_cons_succ, List.getD_cons_zero]; exact rfl; simp only [packA]; exact rfl)
            exact ⟨hend2, Pub.sc _⟩
          · repeat (first
    | with_reducible refine q_seq ?_
    | with_reducible refine q_reg ?_
    | with_reducible refine q_nil ?_
    | with_reducible refine q_thenN ?_
    | ((with_reducible apply q_cons rfl); simp (disch := omega) only [true_or, aOp, aStep, aWanted, evA, putA, begA, packA, aRes, aRead, bin_add, bin_sub, bin_mul, bin_lss, bin_leq, bin_gtr, bin_geq, bin_quo, bin_rem, un_not, aBuiltin, aLen, aLoad, aStore, aBox, aAlloc, aCells, AV.one, Value.oneCell', putCells, cellsOut, aIndexAddr, aFieldAddr, aField, AV.parts?, aNilCheck, aExtract, aSlice, bnd, aAppend, aSrc, aBuildSlice, aFill, aZeros, aMakeSlice, aFieldAddr, AP.ofOption, Value.cells, List.cons_append, List.nil_append, List.append_nil, List.length_cons, List.length_nil, List.length_map, List.replicate_succ, List.replicate_zero, List.set_cons_succ, List.set_cons_zero, List.getD_cons_succ, List.getD_cons_zero, List.toList_toArray, List.map_cons, List.map_nil, List.drop_zero, List.drop_succ_cons, List.drop_nil, List.take_succ_cons, List.take_zero, List.take_nil, List.head?_cons, List.head?_drop, List.getElem?_map, List.getElem?_cons_zero, List.getElem?_cons_succ, List.getElem?_eq_getElem, Option.map_some, Option.map_none, Option.bind_some, List.all_cons, List.all_nil, Bool.and_true, Bool.true_and, Bool.and_self, upd_same, decide_true, decide_false, decide_eq_true_eq, if_true, if_false, Bool.false_eq_true, Bool.true_eq_false, ite_true, ite_false, true_and, and_true, and_self, eq_self, reduceCtorEq, Bool.not_eq_true, Bool.not_true, Bool.not_false, Bool.not_eq_false, not_true_eq_false, not_false_eq_true, Int.toNat_natCast, Nat.zero_add, Nat.add_zero, Nat.mul_one, Nat.zero_mul, Nat.mul_zero, Nat.one_mul, Nat.zero_le, Int.toNat_zero, BEq.rfl, beq_self_eq_true, if_pos, if_neg, decide_eq_true, decide_eq_false, sz3, ze3, by3, ag3, Try.underlying3, bin_eql Try.underlying3, bin_neq Try.underlying3, sz31, ze31, by31, ag31, Try.underlying31, sz35, ze35, by35, ag35, Try.underlying35, AP.run, List.size_toArray, List.length_set, cal26, ctT_26, c26, cal21, ctT_21, c21, cal24, ctT_24, c24, rdK_dsl, ha0]; exact rfl; simp only [List.set_cons_succ, List.set_cons_zero, putA]; exact rfl)
    | ((with_reducible apply q_consF); simp only [aWanted, List.getElem?_toArray, List.getElem?_cons_succ, List.getElem?_cons_zero, Option.bind_some, List.getD_cons_succ, List.getD_cons_zero]; exact rfl; simp only [List.set_cons_succ, List.set_cons_zero, putA]; exact rfl)
    | ((with_reducible apply q_consT); simp only [aWanted, List.getElem?_toArray, List.getElem?_cons_succ, List.getElem?_cons_zero, Option.bind_some, List.getD_cons_succ, List.getD_cons_zero]; exact rfl; simp (disch := omega) only [true_or, aOp, aStep, aWanted, evA, putA, begA, packA, aRes, aRead, bin_add, bin_sub, bin_mul, bin_lss, bin_leq, bin_gtr, bin_geq, bin_quo, bin_rem, un_not, aBuiltin, aLen, aLoad, aStore, aBox, aAlloc, aCells, AV.one, Value.oneCell', putCells, cellsOut, aIndexAddr, aFieldAddr, aField, AV.parts?, aNilCheck, aExtract, aSlice, bnd, aAppend, aSrc, aBuildSlice, aFill, aZeros, aMakeSlice, aFieldAddr, AP.ofOption, Value.cells, List.cons_append, List.nil_append, List.append_nil, List.length_cons, List.length_nil, List.length_map, List.replicate_succ, List.replicate_zero, List.set_cons_succ, List.set_cons_zero, List.getD_cons_succ, List.getD_cons_zero, List.toList_toArray, List.map_cons, List.map_nil, List.drop_zero, List.drop_succ_cons, List.drop_nil, List.take_succ_cons, List.take_zero, List.take_nil, List.head?_cons, List.head?_drop, List.getElem?_map, List.getElem?_cons_zero, List.getElem?_cons_succ, List.getElem?_eq_getElem, Option.map_some, Option.map_none, Option.bind_some, List.all_cons, List.all_nil, Bool.and_true, Bool.true_and, Bool.and_self, upd_same, decide_true, decide_false, decide_eq_true_eq, if_true, if_false, Bool.false_eq_true, Bool.true_eq_false, ite_true, ite_false, true_and, and_true, and_self, eq_self, reduceCtorEq, Bool.not_eq_true, Bool.not_true, Bool.not_false, Bool.not_eq_false, not_true_eq_false, not_false_eq_true, Int.toNat_natCast, Nat.zero_add, Nat.add_zero, Nat.mul_one, Nat.zero_mul, Nat.mul_zero, Nat.one_mul, Nat.zero_le, Int.toNat_zero, BEq.rfl, beq_self_eq_true, if_pos, if_neg, decide_eq_true, decide_eq_false, sz3, ze3, by3, ag3, Try.underlying3, bin_eql Try.underlying3, bin_neq Try.underlying3, sz31, ze31, by31, ag31, Try.underlying31, sz35, ze35, by35, ag35, Try.underlying35, AP.run, List.size_toArray, List.length_set, cal26, ctT_26, c26, cal21, ctT_21, c21, cal24, ctT_24, c24, rdK_dsl, ha0]; exact rfl; simp only [List.set_cons_succ, List.set_cons_zero, putA]; exact rfl)
    | with_reducible refine q_block ?_
    | with_reducible refine q_skip ?_
    | with_reducible refine q_ret ?_
    | with_reducible refine q_exit ?_
    | with_reducible refine q_thenR ?_
    | with_reducible refine q_thenE ?_
    | with_reducible refine q_blkN ?_
    | with_reducible refine q_blkR ?_
    | with_reducible refine q_blkE ?_
    | ((with_reducible apply q_cond); simp only [evA, List.getD_cons_succ, List.getD_cons_zero]; exact rfl)
    | with_reducible refine q_bT ?_
    | with_reducible refine q_bF ?_
    | ((with_reducible apply q_bifF); (first | rfl | decide | assumption))
    | ((with_reducible apply q_bifT); (first | rfl | decide | assumption))
    | with_reducible refine q_loop ?_)
            (apply q_end; simp only [aRes, Try.results4, List.toList_toArray, List.getD_cons_succ, List.getD_cons_zero]; exact rfl; simp only [packA]; exact rfl)
            exact ⟨hend2, Pub.sc _⟩
        · have hb1 := Int.tmod_lt_of_pos which (show 0 < n by omega)
          have hb2 := Int.lt_tmod_of_pos which (show 0 < n by omega)
          have hb3 := Int.tmod_lt_of_pos (which.tmod n + n) (show 0 < n by omega)
          have hb4 : 0 ≤ (which.tmod n + n).tmod n := Int.tmod_nonneg _ (by omega)
          obtain ⟨kk, hkk⟩ : ∃ kk : Nat, (which.tmod n + n).tmod n = (kk : Int) := ⟨((which.tmod n + n).tmod n).toNat, by omega⟩
          rcases hI with ⟨e0, _⟩ | ⟨k0, e0, rfl, hH, ⟨hs1, hf⟩, hE⟩
          · omega
          have hlen : hs.length = k0 + 1 := by rw [hT.len]; omega
          have hk2 : kk < k0 + 1 := by omega
          obtain ⟨hd0, hd12⟩ := hdr kk (by omega)
          by_cases hh : 0 ≤ h ∧ h ≤ 2147483647
          · obtain ⟨hf0, hf4⟩ := hfi h hh
            repeat (first
    | with_reducible refine q_seq ?_
    | with_reducible refine q_reg ?_
    | with_reducible refine q_nil ?_
    | with_reducible refine q_thenN ?_
    | ((with_reducible apply q_cons rfl); simp (disch := omega) only [true_or, aOp, aStep, aWanted, evA, putA, begA, packA, aRes, aRead, bin_add, bin_sub, bin_mul, bin_lss, bin_leq, bin_gtr, bin_geq, bin_quo, un_not, aBuiltin, aLen, aLoad, aStore, aBox, aAlloc, aCells, AV.one, Value.oneCell', putCells, cellsOut, aIndexAddr, aFieldAddr, aField, AV.parts?, aNilCheck, aExtract, aSlice, bnd, aAppend, aSrc, aBuildSlice, aFill, aZeros, aMakeSlice, aFieldAddr, AP.ofOption, Value.cells, List.cons_append, List.nil_append, List.append_nil, List.length_cons, List.length_nil, List.length_map, List.replicate_succ, List.replicate_zero, List.set_cons_succ, List.set_cons_zero, List.getD_cons_succ, List.getD_cons_zero, List.toList_toArray, List.map_cons, List.map_nil, List.drop_zero, List.drop_succ_cons, List.drop_nil, List.take_succ_cons, List.take_zero, List.take_nil, List.head?_cons, List.head?_drop, List.getElem?_map, List.getElem?_cons_zero, List.getElem?_cons_succ, List.getElem?_eq_getElem, Option.map_some, Option.map_none, Option.bind_some, List.all_cons, List.all_nil, Bool.and_true, Bool.true_and, Bool.and_self, upd_same, decide_true, decide_false, decide_eq_true_eq, if_true, if_false, Bool.false_eq_true, Bool.true_eq_false, ite_true, ite_false, true_and, and_true, and_self, eq_self, reduceCtorEq, Bool.not_eq_true, Bool.not_true, Bool.not_false, Bool.not_eq_false, not_true_eq_false, not_false_eq_true, Int.toNat_natCast, Nat.zero_add, Nat.add_zero, Nat.mul_one, Nat.zero_mul, Nat.mul_zero, Nat.one_mul, Nat.zero_le, Int.toNat_zero, BEq.rfl, beq_self_eq_true, if_pos, if_neg, decide_eq_true, decide_eq_false, sz3, ze3, by3, ag3, Try.underlying3, bin_eql Try.underlying3, bin_neq Try.underlying3, sz31, ze31, by31, ag31, Try.underlying31, sz35, ze35, by35, ag35, Try.underlying35, AP.run, List.size_toArray, List.length_set, cal26, ctT_26, c26, cal21, ctT_21, c21, cal24, ctT_24, c24, cal27, ctT_27, c27, rdK_dsl, hf0, ha0, hd0, hH, hf, bin_remT, hkk]; exact rfl; simp only [List.set_cons_succ, List.set_cons_zero, putA]; exact rfl)
    | ((with_reducible apply q_consF); simp only [aWanted, List.getElem?_toArray, List.getElem?_cons_succ, List.getElem?_cons_zero, Option.bind_some, List.getD_cons_succ, List.getD_cons_zero]; exact rfl; simp only [List.set_cons_succ, List.set_cons_zero, putA]; exact rfl)
    | ((with_reducible apply q_consT); simp only [aWanted, List.getElem?_toArray, List.getElem?_cons_succ, List.getElem?_cons_zero, Option.bind_some, List.getD_cons_succ, List.getD_cons_zero]; exact rfl; simp (disch := omega) only [true_or, aOp, aStep, aWanted, evA, putA, begA, packA, aRes, aRead, bin_add, bin_sub, bin_mul, bin_lss, bin_leq, bin_gtr, bin_geq, bin_quo, un_not, aBuiltin, aLen, aLoad, aStore, aBox, aAlloc, aCells, AV.one, Value.oneCell', putCells, cellsOut, aIndexAddr, aFieldAddr, aField, AV.parts?, aNilCheck, aExtract, aSlice, bnd, aAppend, aSrc, aBuildSlice, aFill, aZeros, aMakeSlice, aFieldAddr, AP.ofOption, Value.cells, List.cons_append, List.nil_append, List.append_nil, List.length_cons, List.length_nil, List.length_map, List.replicate_succ, List.replicate_zero, List.set_cons_succ, List.set_cons_zero, List.getD_cons_succ, List.getD_cons_zero, List.toList_toArray, List.map_cons, List.map_nil, List.drop_zero, List.drop_succ_cons, List.drop_nil, List.take_succ_cons, List.take_zero, List.take_nil, List.head?_cons, List.head?_drop, List.getElem?_map, List.getElem?_cons_zero, List.getElem?_cons_succ, List.getElem?_eq_getElem, Option.map_some, Option.map_none, Option.bind_some, List.all_cons, List.all_nil, Bool.and_true, Bool.true_and, Bool.and_self, upd_same, decide_true, decide_false, decide_eq_true_eq, if_true, if_false, Bool.false_eq_true, Bool.true_eq_false, ite_true, ite_false, true_and, and_true, and_self, eq_self, reduceCtorEq, Bool.not_eq_true, Bool.not_true, Bool.not_false, Bool.not_eq_false, not_true_eq_false, not_false_eq_true, Int.toNat_natCast, Nat.zero_add, Nat.add_zero, Nat.mul_one, Nat.zero_mul, Nat.mul_zero, Nat.one_mul, Nat.zero_le, Int.toNat_zero, BEq.rfl, beq_self_eq_true, if_pos, if_neg, decide_eq_true, decide_eq_false, sz3, ze3, by3, ag3, Try.underlying3, bin_eql Try.underlying3, bin_neq Try.underlying3, sz31, ze31, by31, ag31, Try.underlying31, sz35, ze35, by35, ag35, Try.underlying35, AP.run, List.size_toArray, List.length_set, cal26, ctT_26, c26, cal21, ctT_21, c21, cal24, ctT_24, c24, cal27, ctT_27, c27, rdK_dsl, hf0, ha0, hd0, hH, hf, bin_remT, hkk]; exact rfl; simp only [List.set_cons_succ, List.set_cons_zero, putA]; exact rfl)
    | with_reducible refine q_block ?_
    | with_reducible refine q_skip ?_
    | with_reducible refine q_ret ?_
    | with_reducible refine q_exit ?_
    | with_reducible refine q_thenR ?_
    | with_reducible refine q_thenE ?_
    | with_reducible refine q_blkN ?_
    | with_reducible refine q_blkR ?_
    | with_reducible refine q_blkE ?_
    | ((with_reducible apply q_cond); simp only [evA, List.getD_cons_succ, List.getD_cons_zero]; exact rfl)
    | with_reducible refine q_bT ?_
    | with_reducible refine q_bF ?_
    | ((with_reducible apply q_bifF); (first | rfl | decide | assumption))
    | ((with_reducible apply q_bifT); (first | rfl | decide | assumption))
    | with_reducible refine q_loop ?_)
            (apply q_end; simp only [aRes, Try.results4, List.toList_toArray, List.getD_cons_succ, List.getD_cons_zero]; exact rfl; simp only [packA]; exact rfl)
            exact ⟨hend2, Pub.sc _⟩
          · repeat (first
    | with_reducible refine q_seq ?_
    | with_reducible refine q_reg ?_
    | with_reducible refine q_nil ?_
    | with_reducible refine q_thenN ?_
    | ((with_reducible apply q_cons rfl); simp (disch := omega) only [true_or, aOp, aStep, aWanted, evA, putA, begA, packA, aRes, aRead, bin_add, bin_sub, bin_mul, bin_lss, bin_leq, bin_gtr, bin_geq, bin_quo, un_not, aBuiltin, aLen, aLoad, aStore, aBox, aAlloc, aCells, AV.one, Value.oneCell', putCells, cellsOut, aIndexAddr, aFieldAddr, aField, AV.parts?, aNilCheck, aExtract, aSlice, bnd, aAppend, aSrc, aBuildSlice, aFill, aZeros, aMakeSlice, aFieldAddr, AP.ofOption, Value.cells, List.cons_append, List.nil_append, List.append_nil, List.length_cons, List.length_nil, List.length_map, List.replicate_succ, List.replicate_zero, List.set_cons_succ, List.set_cons_zero, List.getD_cons_succ, List.getD_cons_zero, List.toList_toArray, List.map_cons, List.map_nil, List.drop_zero, List.drop_succ_cons, List.drop_nil, List.take_succ_cons, List.take_zero, List.take_nil, List.head?_cons, List.head?_drop, List.getElem?_map, List.getElem?_cons_zero, List.getElem?_cons_succ, List.getElem?_eq_getElem, Option.map_some, Option.map_none, Option.bind_some, List.all_cons, List.all_nil, Bool.and_true, Bool.true_and, Bool.and_self, upd_same, decide_true, decide_false, decide_eq_true_eq, if_true, if_false, Bool.false_eq_true, Bool.true_eq_false, ite_true, ite_false, true_and, and_true, and_self, eq_self, reduceCtorEq, Bool.not_eq_true, Bool.not_true, Bool.not_false, Bool.not_eq_false, not_true_eq_false, not_false_eq_true, Int.toNat_natCast, Nat.zero_add, Nat.add_zero, Nat.mul_one, Nat.zero_mul, Nat.mul_zero, Nat.one_mul, Nat.zero_le, Int.toNat_zero, BEq.rfl, beq_self_eq_true, if_pos, if_neg, decide_eq_true, decide_eq_false, sz3, ze3, by3, ag3, Try.underlying3, bin_eql Try.underlying3, bin_neq Try.underlying3, sz31, ze31, by31, ag31, Try.underlying31, sz35, ze35, by35, ag35, Try.underlying35, AP.run, List.size_toArray, List.length_set, cal26, ctT_26, c26, cal21, ctT_21, c21, cal24, ctT_24, c24, cal27, ctT_27, c27, rdK_dsl, ha0, hd0, hH, hf, bin_remT, hkk]; exact rfl; simp only [List.set_cons_succ, List.set_cons_zero, putA]; exact rfl)
    | ((with_reducible apply q_consF); simp only [aWanted, List.getElem?_toArray, List.getElem?_cons_succ, List.getElem?_cons_zero, Option.bind_some, List.getD_cons_succ, List.getD_cons_zero]; exact rfl; simp only [List.set_cons_succ, List.set_cons_zero, putA]; exact rfl)
    | ((with_reducible apply q_consT); simp only [aWanted, List.getElem?_toArray, List.getElem?_cons_succ, List.getElem?_cons_zero, Option.bind_some, List.getD_cons_succ, List.getD_cons_zero]; exact rfl; simp (disch := omega) only [true_or, aOp, aStep, aWanted, evA, putA, begA, packA, aRes, aRead, bin_add, bin_sub, bin_mul, bin_lss, bin_leq, bin_gtr, bin_geq, bin_quo, un_not, aBuiltin, aLen, aLoad, aStore, aBox, aAlloc, aCells, AV.one, Value.oneCell', putCells, cellsOut, aIndexAddr, aFieldAddr, aField, AV.parts?, aNilCheck, aExtract, aSlice, bnd, aAppend, aSrc, aBuildSlice, aFill, aZeros, aMakeSlice, aFieldAddr, AP.ofOption, Value.cells, List.cons_append, List.nil_append, List.append_nil, List.length_cons, List.length_nil, List.length_map, List.replicate_succ, List.replicate_zero, List.set_cons_succ, List.set_cons_zero, List.getD_cons_succ, List.getD_cons_zero, List.toList_toArray, List.map_cons, List.map_nil, List.drop_zero, List.drop_succ_cons, List.drop_nil, List.take_succ_cons, List.take_zero, List.take_nil, List.head?_cons, List.head?_drop, List.getElem?_map, List.getElem?_cons_zero, List.getElem?_cons_succ, List.getElem?_eq_getElem, Option.map_some, Option.map_none, Option.bind_some, List.all_cons, List.all_nil, Bool.and_true, Bool.true_and, Bool.and_self, upd_same, decide_true, decide_false, decide_eq_true_eq, if_true, if_false, Bool.false_eq_true, Bool.true_eq_false, ite_true, ite_false, true_and, and_true, and_self, eq_self, reduceCtorEq, Bool.not_eq_true, Bool.not_true, Bool.not_false, Bool.not_eq_false, not_true_eq_false, not_false_eq_true, Int.toNat_natCast, Nat.zero_add, Nat.add_zero, Nat.mul_one, Nat.zero_mul, Nat.mul_zero, Nat.one_mul, Nat.zero_le, Int.toNat_zero, BEq.rfl, beq_self_eq_true, if_pos, if_neg, decide_eq_true, decide_eq_false, sz3, ze3, by3, ag3, Try.underlying3, bin_eql Try.underlying3, bin_neq Try.underlying3, sz31, ze31, by31, ag31, Try.underlying31, sz35, ze35, by35, ag35, Try.underlying35, AP.run, List.size_toArray, List.length_set, cal26, ctT_26, c26, cal21, ctT_21, c21, cal24, ctT_24, c24, cal27, ctT_27, c27, rdK_dsl, ha0, hd0, hH, hf, bin_remT, hkk]; exact rfl; simp only [List.set_cons_succ, List.set_cons_zero, putA]; exact rfl)
    | with_reducible refine q_block ?_
    | with_reducible refine q_skip ?_
    | with_reducible refine q_ret ?_
    | with_reducible refine q_exit ?_
    | with_reducible refine q_thenR ?_
    | with_reducible refine q_thenE ?_
    | with_reducible refine q_blkN ?_
    | with_reducible refine q_blkR ?_
    | with_reducible refine q_blkE ?_
    | ((with_reducible apply q_cond); simp only [evA, List.getD_cons_succ, List.getD_cons_zero]; exact rfl)
    | with_reducible refine q_bT ?_
    | with_reducible refine q_bF ?_
    | ((with_reducible apply q_bifF); (first | rfl | decide | assumption))
    | ((with_reducible apply q_bifT); (first | rfl | decide | assumption))
    | with_reducible refine q_loop ?_)
            (apply q_end; simp only [aRes, Try.results4, List.toList_toArray, List.getD_cons_succ, List.getD_cons_zero]; exact rfl; simp only [packA]; exact rfl)
            exact ⟨hend2, Pub.sc _⟩
end Go.Proofs.Ytdcomhdadnhpnaa
