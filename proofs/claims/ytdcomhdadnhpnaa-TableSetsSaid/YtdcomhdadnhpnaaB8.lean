/- TableSets, run on the machine. -/
import Derived.Test.YtdcomhdadnhpnaaB7
set_option linter.unusedSimpArgs false
set_option linter.unusedVariables false
namespace Go.Proofs.Ytdcomhdadnhpnaa
open Go Go.Am Go.RowKit
attribute [local irreducible] wA opsQ opsLQ thenA blockA EndA
attribute [local go_sem] true_or aOp aStep aWanted evA putA begA packA aRes aRead bin_add bin_sub bin_mul bin_lss bin_leq bin_gtr bin_geq bin_quo bin_rem un_not aBuiltin aLen aLoad aStore aBox aAlloc
attribute [local go_sem] aCells AV.one Value.oneCell' cellsOut aIndexAddr aFieldAddr aField AV.parts? aNilCheck aExtract aSlice bnd aAppend aSrc aFill aZeros aMakeSlice AP.ofOption Value.cells
attribute [local go_sem] List.cons_append List.nil_append List.append_nil List.length_cons List.length_nil List.length_map List.replicate_succ List.replicate_zero List.set_cons_succ List.set_cons_zero
attribute [local go_sem] List.getD_cons_succ List.getD_cons_zero List.toList_toArray List.map_cons List.map_nil List.drop_zero List.drop_succ_cons List.drop_nil List.take_succ_cons List.take_zero
attribute [local go_sem] List.take_nil List.head?_cons List.head?_drop List.getElem?_map List.getElem?_cons_zero List.getElem?_cons_succ List.getElem?_eq_getElem Option.map_some Option.map_none
attribute [local go_sem] Option.bind_some List.all_cons List.all_nil Bool.and_true Bool.true_and Bool.and_self upd_same decide_true decide_false decide_eq_true_eq if_true if_false Bool.false_eq_true
attribute [local go_sem] Bool.true_eq_false ite_true ite_false true_and and_true and_self eq_self reduceCtorEq Bool.not_eq_true Bool.not_true Bool.not_false Bool.not_eq_false not_true_eq_false
attribute [local go_sem] not_false_eq_true Int.toNat_natCast Nat.zero_add Nat.add_zero Nat.mul_one Nat.zero_mul Nat.mul_zero Nat.one_mul Nat.zero_le Int.toNat_zero BEq.rfl beq_self_eq_true if_pos
attribute [local go_sem] if_neg decide_eq_true decide_eq_false sz3 ze3 by3 ag3 Try.underlying3 eqlT3 neqT3 sz4 ze4 by4 ag4 Try.underlying4 sz23 ze23 by23 ag23 Try.underlying23 eqlT23 neqT23
attribute [local go_sem] Try.underlying24 sz31 ze31 by31 ag31 Try.underlying31 Try.underlying33 sz41 ze41 by41 ag41 Try.underlying41 sz43 ze43 by43 ag43 fo43_0 fo43_1 bu43 Try.underlying43 sz50 ze50
attribute [local go_sem] by50 ag50 Try.underlying50 Try.underlying57 sz64 ze64 by64 ag64 fo64_0 fo64_1 fo64_2 fo64_3 bu64 Try.underlying64 sz66 ze66 by66 ag66 fo66_0 fo66_1 bu66 Try.underlying66 AP.run
attribute [local go_sem] List.size_toArray List.length_set AP.runL bs31 bs40 bs41 put1 put2

theorem put4 (a b c d e f g h : AV) : putCells [a, b, c, d] 0 [e, f, g, h] = [e, f, g, h] := rfl
attribute [local go_sem] put4
/-- an operation of the law -/
structure OpT where
  k : Int
  h : Int
  w : Int
  v : Int
abbrev opG (o : OpT) : AV := .agg [.sc (.int .i64 o.k), .sc (.int .i64 o.h), .sc (.int .i64 o.w), .sc (.int .i64 o.v)]
def opsA (L : List OpT) : List AV := L.flatMap fun o => [.sc (.int .i64 o.k), .sc (.int .i64 o.h), .sc (.int .i64 o.w), .sc (.int .i64 o.v)]
theorem opsA_cons (o : OpT) (L : List OpT) : opsA (o :: L) = .sc (.int .i64 o.k) :: .sc (.int .i64 o.h) :: .sc (.int .i64 o.w) :: .sc (.int .i64 o.v) :: opsA L := rfl
theorem opsA_len (L : List OpT) : (opsA L).length = L.length * 4 := by
  induction L with
  | nil => rfl
  | cons o L ih => rw [opsA_cons]; simp only [List.length_cons, ih]; omega
theorem opsA_drop : ∀ {L : List OpT} {k : Nat} (h : k < L.length), (opsA L).drop (k * 4) = .sc (.int .i64 L[k].k) :: .sc (.int .i64 L[k].h) :: .sc (.int .i64 L[k].w) :: .sc (.int .i64 L[k].v) :: opsA (L.drop (k + 1))
  | o :: L, 0, h => by simp [opsA_cons]
  | o :: L, k + 1, h => by
    have := opsA_drop (L := L) (k := k) (by simpa using h)
    rw [opsA_cons, show (k + 1) * 4 = k * 4 + 1 + 1 + 1 + 1 by omega, List.drop_succ_cons, List.drop_succ_cons, List.drop_succ_cons, List.drop_succ_cons, this]
    rfl
/-- lists of numbers, as data -/
def rdD (a : AV) (k : List Int → AP AV) : AP AV := match a with
  | .dsl len cells => match intsOf cells with
    | some l => if l.length = len then k l else .fail
    | none => .fail
  | _ => .fail
theorem rdD_dsl (l : List Int) (k : List Int → AP AV) : rdD (.dsl l.length (ints l)) k = k l := by
  unfold rdD; simp only [intsOf_ints, if_true]
theorem rdD_ok {ρ : Inj} {H H' : AHp} {w : World} {a r : AV} {v : Value} {k : List Int → AP AV} {s s' : Nat} {O : Nat → Prop} (hr : Rep ρ O w a v) (hm : (rdD a k).run H s = some (r, H', s')) :
    ∃ l, Rep ρ O w (.dsl l.length (ints l)) v ∧ (k l).run H s = some (r, H', s') := by
  unfold rdD at hm
  split at hm
  · split at hm
    · rename_i L hL
      split at hm
      · rename_i e
        subst e
        rw [intsOf_some hL] at hr
        exact ⟨L, hr, hm⟩
      · simp [AP.run] at hm
    · simp [AP.run] at hm
  · simp [AP.run] at hm
def c43 : List AV → AP AV
  | [.agg [.sc (.int .i64 K), .sc (.int .i64 h0), .sc (.int .i64 w0), .sc (.int .i64 V)], .agg [.sc (.int .i64 x), .sc (.int .i64 y)], a] => rdE a fun L => if L.length ≤ 90000 then .ret (.agg [.dsl (wantF K V (x, y) L).1.length (elsA (wantF K V (x, y) L).1), .sc (.int .i64 (wantF K V (x, y) L).2)]) else .fail
  | _ => .fail
noncomputable def c44 : List AV → AP AV
  | [.agg [.sc (.int .i64 K), .sc (.int .i64 h0), .sc (.int .i64 w0), .sc (.int .i64 V)], .agg [.sc (.int .i64 x), .sc (.int .i64 y)], a] => rdD a fun t => .ret (.tup [.dsl (doesF K V (x, y) t).1.length (ints (doesF K V (x, y) t).1), .sc (.int .i64 (doesF K V (x, y) t).2)])
  | _ => .fail
open Classical in
noncomputable def c46 : List AV → AP AV
  | [a, b, .sc (.int .i64 h)] => rdD a fun t => rdE b fun L => if ValidL t ∧ wds t h = wof L h ∧ L.length ≤ 100000 then .ret (.sc (.bool true)) else .fail
  | _ => .fail
theorem arg3 {ρ : Inj} {O : Nat → Prop} {w : World} {a b c : AV} {vs : List Value} (h : Reps ρ O w [a, b, c] vs) : ∃ x y z, vs = [x, y, z] ∧ Rep ρ O w a x ∧ Rep ρ O w b y ∧ Rep ρ O w c z := by
  obtain ⟨x, t, rfl, h1, h2⟩ := Reps.uncons h
  obtain ⟨y, z, rfl, h3, h4⟩ := arg2 h2
  exact ⟨x, y, z, rfl, h1, h3, h4⟩
theorem a43 (args : List AV) : ACall Try.prog 43 args (c43 args) := by
  intro ρ H w vs hR hA s r H' s' hm
  unfold c43 at hm
  split at hm
  · obtain ⟨v0, v1, v2, rfl, hv0, hv1, hv2⟩ := arg3 hA
    obtain ⟨L, hr, hm⟩ := rdE_ok hv2 hm
    split at hm
    · rename_i hle
      exact wants_call _ _ _ _ _ L hle ρ H w _ hR (.cons hv0 (.cons hv1 (.cons hr .nil))) s r H' s' hm
    · simp [AP.run] at hm
  · simp [AP.run] at hm
theorem a44 (args : List AV) : ACall Try.prog 44 args (c44 args) := by
  intro ρ H w vs hR hA s r H' s' hm
  unfold c44 at hm
  split at hm
  · obtain ⟨v0, v1, v2, rfl, hv0, hv1, hv2⟩ := arg3 hA
    obtain ⟨t, hr, hm⟩ := rdD_ok hv2 hm
    exact does_call _ _ _ _ _ t ρ H w _ hR (.cons hv0 (.cons hv1 (.cons hr .nil))) s r H' s' hm
  · simp [AP.run] at hm
theorem a46 (args : List AV) : ACall Try.prog 46 args (c46 args) := by
  intro ρ H w vs hR hA s r H' s' hm
  unfold c46 at hm
  split at hm
  · obtain ⟨v0, v1, v2, rfl, hv0, hv1, hv2⟩ := arg3 hA
    obtain ⟨t, hr, hm⟩ := rdD_ok hv0 hm
    obtain ⟨L, hr2, hm⟩ := rdE_ok hv1 hm
    split at hm
    · rename_i hle
      exact agrees_call t L _ hle.1 hle.2.1 hle.2.2 ρ H w _ hR (.cons hr (.cons hr2 (.cons hv2 .nil))) s r H' s' hm
    · simp [AP.run] at hm
  · simp [AP.run] at hm
noncomputable def ctS : CT := fun f args => if f = 43 then c43 args else if f = 44 then c44 args else if f = 46 then c46 args else ctP f args
theorem ctS_ok : CTok Try.prog ctS := fun f args => by
  unfold ctS
  split
  · rename_i e; subst e; exact a43 args
  split
  · rename_i e; subst e; exact a44 args
  split
  · rename_i e; subst e; exact a46 args
  · exact ctP_ok f args
theorem ctS_15 (a : List AV) : ctS 15 a = c15 a := rfl
theorem ctS_23 (a : List AV) : ctS 23 a = c23 a := rfl
theorem ctS_43 (a : List AV) : ctS 43 a = c43 a := rfl
theorem ctS_44 (a : List AV) : ctS 44 a = c44 a := rfl
theorem ctS_45 (a : List AV) : ctS 45 a = c45 a := rfl
theorem ctS_46 (a : List AV) : ctS 46 a = c46 a := rfl
theorem cal15 : callable Try.prog 15 = true := by kernel_rfl
theorem cal23 : callable Try.prog 23 = true := by kernel_rfl
theorem cal43 : callable Try.prog 43 = true := by kernel_rfl
theorem cal44 : callable Try.prog 44 = true := by kernel_rfl
theorem cal45 : callable Try.prog 45 = true := by kernel_rfl
theorem cal46 : callable Try.prog 46 = true := by kernel_rfl

set_option maxRecDepth 100000 in
set_option maxHeartbeats 4000000 in
theorem tableSets_call (ops : List OpT) (ho : ops.length ≤ 9223372036854775807) : ACall Try.prog 8 [.dsl ops.length (opsA ops)] (.ret (.sc (.bool true))) := by
  refine acall_pure' hmix ctS_ok Try.func8 rfl (by kernel_rfl) (fun E s hs => ?_)
  simp (maxSteps := 300000) only [begA, Try.ntmps8, List.replicate_succ, List.replicate_zero, List.length_cons, List.length_nil, List.cons_append, List.nil_append]
  by_cases g1 : 150 < ops.length
  · repeat (first
    | with_reducible refine q_seq ?_
    | with_reducible refine q_reg ?_
    | with_reducible refine q_nil ?_
    | with_reducible refine q_thenN ?_
    | ((with_reducible apply q_cons rfl); simp (disch := omega) only [go_sem, cal15, ctS_15, c15]; exact rfl; simp only [List.set_cons_succ, List.set_cons_zero, putA]; exact rfl)
    | with_reducible refine q_block ?_
    | with_reducible refine q_skip ?_
    | with_reducible refine q_ret ?_
    | with_reducible refine q_exit ?_
    | with_reducible refine q_thenR ?_
    | with_reducible refine q_thenE ?_
    | with_reducible refine q_blkN ?_
    | with_reducible refine q_blkR ?_
    | with_reducible refine q_blkE ?_
    | ((with_reducible apply q_cond); simp only [evA, List.getD_cons_succ, List.getD_cons_zero]; exact rfl)
    | with_reducible refine q_bT ?_
    | with_reducible refine q_bF ?_
    | ((with_reducible apply q_bifF); (first | rfl | decide | assumption))
    | ((with_reducible apply q_bifT); (first | rfl | decide | assumption))
    | with_reducible refine q_loop ?_)
    (apply q_end; simp only [aRes, Try.results8, List.toList_toArray, List.getD_cons_succ, List.getD_cons_zero]; exact rfl; simp only [packA]; exact rfl)
    exact ⟨fun _ _ => rfl, Pub.sc _⟩
  repeat (first
    | with_reducible refine q_seq ?_
    | with_reducible refine q_reg ?_
    | with_reducible refine q_nil ?_
    | with_reducible refine q_thenN ?_
    | ((with_reducible apply q_cons rfl); simp (disch := omega) only [go_sem, cal15, ctS_15, c15, cal23, ctS_23, c23]; exact rfl; simp only [List.set_cons_succ, List.set_cons_zero, putA]; exact rfl)
    | with_reducible refine q_block ?_
    | with_reducible refine q_skip ?_
    | with_reducible refine q_ret ?_
    | with_reducible refine q_exit ?_
    | with_reducible refine q_thenR ?_
    | with_reducible refine q_thenE ?_
    | with_reducible refine q_blkN ?_
    | with_reducible refine q_blkR ?_
    | with_reducible refine q_blkE ?_
    | ((with_reducible apply q_cond); simp only [evA, List.getD_cons_succ, List.getD_cons_zero]; exact rfl)
    | with_reducible refine q_bT ?_
    | with_reducible refine q_bF ?_
    | ((with_reducible apply q_bifF); (first | rfl | decide | assumption))
    | ((with_reducible apply q_bifT); (first | rfl | decide | assumption))
    | with_reducible refine q_loop ?_)
  refine AWp.loop [0, 3, 4, 5, 6] (fun Γ H s' m => ∃ (i : Nat) (v : AV) (t : List Int) (L : List (Int × Int)), i ≤ ops.length ∧ m = ops.length - i ∧ Γ = [.dsl ops.length (opsA ops)] ++ (List.replicate 2 .junk) ++ [.sc (.bool true), .dsl t.length (ints t), v, .sc (.int .i64 (i : Nat))] ++ (List.replicate 109 .junk) ∧
    ((L = [] ∧ v = .sc (.slice none 0 0)) ∨ v = .dsl L.length (elsA L)) ∧ SI t L ∧ L.length ≤ i ∧ s ≤ s' ∧ (∀ q, s' ≤ q → H q = none) ∧ ∀ q, q < s → H q = E.H q) ops.length ?_ ?_
  · exact ⟨0, _, _, [], Nat.zero_le _, rfl, rfl, .inl ⟨rfl, rfl⟩, si_start, Nat.zero_le _, Nat.le_refl _, hs, fun _ _ => rfl⟩
  rintro Γ H s1 m ⟨i, v, t, L, hi, rfl, rfl, hv, hS, hLi, hss, hf, hE⟩
  refine wA_ok hmix ctS_ok _ (by kernel_rfl) ?_
  simp (maxSteps := 1000000) only [List.replicate_succ, List.replicate_zero, List.cons_append, List.nil_append, List.append_nil]
  by_cases hlt : i < ops.length
  · have hlv : aLen Try.prog 41 v = .ret (.sc (.int .i64 (L.length : Nat))) := by
      rcases hv with ⟨rfl, rfl⟩ | rfl
      · exact len_nil41
      · simp only [aLen, Try.underlying41]
    have hrv : ∀ k, rdE v k = k L := by
      rcases hv with ⟨rfl, rfl⟩ | rfl
      · exact rdE_nil
      · exact rdE_dsl L
    obtain ⟨e, he⟩ : ∃ e : Int × Int, e = if h : ops[i].k ≠ 0 ∧ 0 < L.length then L[((ops[i].w.tmod L.length + L.length).tmod L.length).toNat]'(by
        have h1 := Int.lt_tmod_of_pos ops[i].w (show 0 < (L.length : Int) by omega)
        have h2 := Int.tmod_lt_of_pos (ops[i].w.tmod L.length + L.length) (show 0 < (L.length : Int) by omega)
        have h3 : 0 ≤ (ops[i].w.tmod L.length + L.length).tmod L.length := Int.tmod_nonneg _ (by omega)
        omega) else (ops[i].h, ops[i].w) := ⟨_, rfl⟩
    obtain ⟨s1', s2', s3'⟩ := hS.step (by omega) ops[i].k ops[i].v e
    have hwl := wantF_len ops[i].k ops[i].v e L
    generalize hL' : (wantF ops[i].k ops[i].v e L).1 = L' at *
    have s1'' := s1'.symm
    by_cases hK : ops[i].k ≠ 0 ∧ 0 < L.length
    · rw [dif_pos hK] at he
      obtain ⟨hK0, hL0⟩ := hK
      have hvd : v = .dsl L.length (elsA L) := by
        rcases hv with ⟨rfl, _⟩ | h
        · simp at hL0
        · exact h
      subst hvd
      have h1 := Int.lt_tmod_of_pos ops[i].w (show 0 < (L.length : Int) by omega)
      have h1' := Int.tmod_lt_of_pos ops[i].w (show 0 < (L.length : Int) by omega)
      have h2 := Int.tmod_lt_of_pos (ops[i].w.tmod L.length + L.length) (show 0 < (L.length : Int) by omega)
      have h3 : 0 ≤ (ops[i].w.tmod L.length + L.length).tmod L.length := Int.tmod_nonneg _ (by omega)
      obtain ⟨kk, hkk⟩ : ∃ kk : Nat, (ops[i].w.tmod L.length + L.length).tmod L.length = (kk : Int) := ⟨((ops[i].w.tmod L.length + L.length).tmod L.length).toNat, by omega⟩
      have hk2 : kk < L.length := by omega
      have he2 : L[kk] = e := by rw [he]; congr 1; omega
      by_cases hz : (doesF ops[i].k ops[i].v e t).2 = 0
      · rw [if_pos hz] at s3'
        have hV := s3'.v
        have hW := s3'.w
        have hN := s3'.n
        have hwz : (wantF ops[i].k ops[i].v e L).2 = 0 := s1''.trans hz
        repeat (first
    | with_reducible refine q_seq ?_
    | with_reducible refine q_reg ?_
    | with_reducible refine q_nil ?_
    | with_reducible refine q_thenN ?_
    | ((with_reducible apply q_cons rfl); simp (disch := omega) only [go_sem, opsA_len, opsA_drop, elsA_len, elsA_drop, hf, upd_ne, bin_remT, hkk, he2, pair_eta, cal43, cal44, cal45, cal46, ctS_43, ctS_44, ctS_45, ctS_46, c43, c44, c45, c46, rdK_dsl, rdD_dsl, rdE_dsl, hL', hwz, hz, hV, hW, hN]; exact rfl; simp only [List.set_cons_succ, List.set_cons_zero, putA]; exact rfl)
    | ((with_reducible apply q_consF); simp only [aWanted, List.getElem?_toArray, List.getElem?_cons_succ, List.getElem?_cons_zero, Option.bind_some, List.getD_cons_succ, List.getD_cons_zero]; exact rfl; simp only [List.set_cons_succ, List.set_cons_zero, putA]; exact rfl)
    | ((with_reducible apply q_consT); simp only [aWanted, List.getElem?_toArray, List.getElem?_cons_succ, List.getElem?_cons_zero, Option.bind_some, List.getD_cons_succ, List.getD_cons_zero]; exact rfl; simp (disch := omega) only [go_sem, opsA_len, opsA_drop, elsA_len, elsA_drop, hf, upd_ne, bin_remT, hkk, he2, pair_eta, cal43, cal44, cal45, cal46, ctS_43, ctS_44, ctS_45, ctS_46, c43, c44, c45, c46, rdK_dsl, rdD_dsl, rdE_dsl, hL', hwz, hz, hV, hW, hN]; exact rfl; simp only [List.set_cons_succ, List.set_cons_zero, putA]; exact rfl)
    | with_reducible refine q_block ?_
    | with_reducible refine q_skip ?_
    | with_reducible refine q_ret ?_
    | with_reducible refine q_exit ?_
    | with_reducible refine q_thenR ?_
    | with_reducible refine q_thenE ?_
    | with_reducible refine q_blkN ?_
    | with_reducible refine q_blkR ?_
    | with_reducible refine q_blkE ?_
    | ((with_reducible apply q_cond); simp only [evA, List.getD_cons_succ, List.getD_cons_zero]; exact rfl)
    | with_reducible refine q_bT ?_
    | with_reducible refine q_bF ?_
    | ((with_reducible apply q_bifF); (first | rfl | decide | assumption))
    | ((with_reducible apply q_bifT); (first | rfl | decide | assumption))
    | with_reducible refine q_loop ?_)
        exact ⟨ops.length - (i + 1), by omega, i + 1, _, _, L', by omega, rfl, rfl, .inr rfl, s3', by omega, by omega, fun q hq => by (simp (disch := omega) only [upd_ne]; exact hf q (by omega)), fun q hq => by (simp (disch := omega) only [upd_ne]; exact hE q hq)⟩
      · rw [if_neg hz] at s3'
        have hV := s3'.v
        have hW := s3'.w
        have hN := s3'.n
        have hl0 := s2' hz
        have hz' : ((doesF ops[i].k ops[i].v e t).2 == 0) = false := by simpa using hz
        repeat (first
    | with_reducible refine q_seq ?_
    | with_reducible refine q_reg ?_
    | with_reducible refine q_nil ?_
    | with_reducible refine q_thenN ?_
    | ((with_reducible apply q_cons rfl); simp (disch := omega) only [go_sem, opsA_len, opsA_drop, elsA_len, elsA_drop, hf, upd_ne, bin_remT, hkk, he2, pair_eta, cal43, cal44, cal45, cal46, ctS_43, ctS_44, ctS_45, ctS_46, c43, c44, c45, c46, rdK_dsl, rdD_dsl, rdE_dsl, hL', s1'', hz, hl0, hV, hW, hN]; exact rfl; simp only [List.set_cons_succ, List.set_cons_zero, putA]; exact rfl)
    | ((with_reducible apply q_consF); simp only [aWanted, List.getElem?_toArray, List.getElem?_cons_succ, List.getElem?_cons_zero, Option.bind_some, List.getD_cons_succ, List.getD_cons_zero]; exact rfl; simp only [List.set_cons_succ, List.set_cons_zero, putA]; exact rfl)
    | ((with_reducible apply q_consT); simp only [aWanted, List.getElem?_toArray, List.getElem?_cons_succ, List.getElem?_cons_zero, Option.bind_some, List.getD_cons_succ, List.getD_cons_zero]; exact rfl; simp (disch := omega) only [go_sem, opsA_len, opsA_drop, elsA_len, elsA_drop, hf, upd_ne, bin_remT, hkk, he2, pair_eta, cal43, cal44, cal45, cal46, ctS_43, ctS_44, ctS_45, ctS_46, c43, c44, c45, c46, rdK_dsl, rdD_dsl, rdE_dsl, hL', s1'', hz, hl0, hV, hW, hN]; exact rfl; simp only [List.set_cons_succ, List.set_cons_zero, putA]; exact rfl)
    | with_reducible refine q_block ?_
    | with_reducible refine q_skip ?_
    | with_reducible refine q_ret ?_
    | with_reducible refine q_exit ?_
    | with_reducible refine q_thenR ?_
    | with_reducible refine q_thenE ?_
    | with_reducible refine q_blkN ?_
    | with_reducible refine q_blkR ?_
    | with_reducible refine q_blkE ?_
    | ((with_reducible apply q_cond); simp only [evA, List.getD_cons_succ, List.getD_cons_zero]; exact rfl)
    | with_reducible refine q_bT ?_
    | with_reducible refine q_bF ?_
    | ((with_reducible apply q_bifF); (first | rfl | decide | assumption))
    | ((with_reducible apply q_bifT); (first | rfl | decide | assumption))
    | with_reducible refine q_loop ?_)
        exact ⟨ops.length - (i + 1), by omega, i + 1, _, _, L', by omega, rfl, rfl, .inr rfl, s3', by omega, by omega, fun q hq => by (simp (disch := omega) only [upd_ne]; exact hf q (by omega)), fun q hq => by (simp (disch := omega) only [upd_ne]; exact hE q hq)⟩
    · rw [dif_neg hK] at he
      subst he
      by_cases hK0 : ops[i].k = 0
      · by_cases hz : (doesF ops[i].k ops[i].v (ops[i].h, ops[i].w) t).2 = 0
        · rw [if_pos hz] at s3'
          have hV := s3'.v
          have hW := s3'.w
          have hN := s3'.n
          have hwz : (wantF ops[i].k ops[i].v (ops[i].h, ops[i].w) L).2 = 0 := s1''.trans hz
          repeat (first
    | with_reducible refine q_seq ?_
    | with_reducible refine q_reg ?_
    | with_reducible refine q_nil ?_
    | with_reducible refine q_thenN ?_
    | ((with_reducible apply q_cons rfl); simp (disch := omega) only [go_sem, opsA_len, opsA_drop, elsA_len, elsA_drop, hf, upd_ne, ↓hlv, hrv, pair_eta, cal43, cal44, cal45, cal46, ctS_43, ctS_44, ctS_45, ctS_46, c43, c44, c45, c46, rdK_dsl, rdD_dsl, rdE_dsl, hL', hwz, hz, hV, hW, hN]; exact rfl; simp only [List.set_cons_succ, List.set_cons_zero, putA]; exact rfl)
    | ((with_reducible apply q_consF); simp only [aWanted, List.getElem?_toArray, List.getElem?_cons_succ, List.getElem?_cons_zero, Option.bind_some, List.getD_cons_succ, List.getD_cons_zero]; exact rfl; simp only [List.set_cons_succ, List.set_cons_zero, putA]; exact rfl)
    | ((with_reducible apply q_consT); simp only [aWanted, List.getElem?_toArray, List.getElem?_cons_succ, List.getElem?_cons_zero, Option.bind_some, List.getD_cons_succ, List.getD_cons_zero]; exact rfl; simp (disch := omega) only [go_sem, opsA_len, opsA_drop, elsA_len, elsA_drop, hf, upd_ne, ↓hlv, hrv, pair_eta, cal43, cal44, cal45, cal46, ctS_43, ctS_44, ctS_45, ctS_46, c43, c44, c45, c46, rdK_dsl, rdD_dsl, rdE_dsl, hL', hwz, hz, hV, hW, hN]; exact rfl; simp only [List.set_cons_succ, List.set_cons_zero, putA]; exact rfl)
    | with_reducible refine q_block ?_
    | with_reducible refine q_skip ?_
    | with_reducible refine q_ret ?_
    | with_reducible refine q_exit ?_
    | with_reducible refine q_thenR ?_
    | with_reducible refine q_thenE ?_
    | with_reducible refine q_blkN ?_
    | with_reducible refine q_blkR ?_
    | with_reducible refine q_blkE ?_
    | ((with_reducible apply q_cond); simp only [evA, List.getD_cons_succ, List.getD_cons_zero]; exact rfl)
    | with_reducible refine q_bT ?_
    | with_reducible refine q_bF ?_
    | ((with_reducible apply q_bifF); (first | rfl | decide | assumption))
    | ((with_reducible apply q_bifT); (first | rfl | decide | assumption))
    | with_reducible refine q_loop ?_)
          exact ⟨ops.length - (i + 1), by omega, i + 1, _, _, L', by omega, rfl, rfl, .inr rfl, s3', by omega, by omega, fun q hq => by (simp (disch := omega) only [upd_ne]; exact hf q (by omega)), fun q hq => by (simp (disch := omega) only [upd_ne]; exact hE q hq)⟩
        · rw [if_neg hz] at s3'
          have hV := s3'.v
          have hW := s3'.w
          have hN := s3'.n
          have hl0 := s2' hz
          have hz' : ((doesF ops[i].k ops[i].v (ops[i].h, ops[i].w) t).2 == 0) = false := by simpa using hz
          repeat (first
    | with_reducible refine q_seq ?_
    | with_reducible refine q_reg ?_
    | with_reducible refine q_nil ?_
    | with_reducible refine q_thenN ?_
    | ((with_reducible apply q_cons rfl); simp (disch := omega) only [go_sem, opsA_len, opsA_drop, elsA_len, elsA_drop, hf, upd_ne, ↓hlv, hrv, pair_eta, cal43, cal44, cal45, cal46, ctS_43, ctS_44, ctS_45, ctS_46, c43, c44, c45, c46, rdK_dsl, rdD_dsl, rdE_dsl, hL', s1'', hz, hl0, hV, hW, hN]; exact rfl; simp only [List.set_cons_succ, List.set_cons_zero, putA]; exact rfl)
    | ((with_reducible apply q_consF); simp only [aWanted, List.getElem?_toArray, List.getElem?_cons_succ, List.getElem?_cons_zero, Option.bind_some, List.getD_cons_succ, List.getD_cons_zero]; exact rfl; simp only [List.set_cons_succ, List.set_cons_zero, putA]; exact rfl)
    | ((with_reducible apply q_consT); simp only [aWanted, List.getElem?_toArray, List.getElem?_cons_succ, List.getElem?_cons_zero, Option.bind_some, List.getD_cons_succ, List.getD_cons_zero]; exact rfl; simp (disch := omega) only [go_sem, opsA_len, opsA_drop, elsA_len, elsA_drop, hf, upd_ne, ↓hlv, hrv, pair_eta, cal43, cal44, cal45, cal46, ctS_43, ctS_44, ctS_45, ctS_46, c43, c44, c45, c46, rdK_dsl, rdD_dsl, rdE_dsl, hL', s1'', hz, hl0, hV, hW, hN]; exact rfl; simp only [List.set_cons_succ, List.set_cons_zero, putA]; exact rfl)
    | with_reducible refine q_block ?_
    | with_reducible refine q_skip ?_
    | with_reducible refine q_ret ?_
    | with_reducible refine q_exit ?_
    | with_reducible refine q_thenR ?_
    | with_reducible refine q_thenE ?_
    | with_reducible refine q_blkN ?_
    | with_reducible refine q_blkR ?_
    | with_reducible refine q_blkE ?_
    | ((with_reducible apply q_cond); simp only [evA, List.getD_cons_succ, List.getD_cons_zero]; exact rfl)
    | with_reducible refine q_bT ?_
    | with_reducible refine q_bF ?_
    | ((with_reducible apply q_bifF); (first | rfl | decide | assumption))
    | ((with_reducible apply q_bifT); (first | rfl | decide | assumption))
    | with_reducible refine q_loop ?_)
          exact ⟨ops.length - (i + 1), by omega, i + 1, _, _, L', by omega, rfl, rfl, .inr rfl, s3', by omega, by omega, fun q hq => by (simp (disch := omega) only [upd_ne]; exact hf q (by omega)), fun q hq => by (simp (disch := omega) only [upd_ne]; exact hE q hq)⟩
      · by_cases hz : (doesF ops[i].k ops[i].v (ops[i].h, ops[i].w) t).2 = 0
        · rw [if_pos hz] at s3'
          have hV := s3'.v
          have hW := s3'.w
          have hN := s3'.n
          have hwz : (wantF ops[i].k ops[i].v (ops[i].h, ops[i].w) L).2 = 0 := s1''.trans hz
          repeat (first
    | with_reducible refine q_seq ?_
    | with_reducible refine q_reg ?_
    | with_reducible refine q_nil ?_
    | with_reducible refine q_thenN ?_
    | ((with_reducible apply q_cons rfl); simp (disch := omega) only [go_sem, opsA_len, opsA_drop, elsA_len, elsA_drop, hf, upd_ne, ↓hlv, hrv, pair_eta, cal43, cal44, cal45, cal46, ctS_43, ctS_44, ctS_45, ctS_46, c43, c44, c45, c46, rdK_dsl, rdD_dsl, rdE_dsl, hL', hwz, hz, hV, hW, hN]; exact rfl; simp only [List.set_cons_succ, List.set_cons_zero, putA]; exact rfl)
    | ((with_reducible apply q_consF); simp only [aWanted, List.getElem?_toArray, List.getElem?_cons_succ, List.getElem?_cons_zero, Option.bind_some, List.getD_cons_succ, List.getD_cons_zero]; exact rfl; simp only [List.set_cons_succ, List.set_cons_zero, putA]; exact rfl)
    | ((with_reducible apply q_consT); simp only [aWanted, List.getElem?_toArray, List.getElem?_cons_succ, List.getElem?_cons_zero, Option.bind_some, List.getD_cons_succ, List.getD_cons_zero]; exact rfl; simp (disch := omega) only [go_sem, opsA_len, opsA_drop, elsA_len, elsA_drop, hf, upd_ne, ↓hlv, hrv, pair_eta, cal43, cal44, cal45, cal46, ctS_43, ctS_44, ctS_45, ctS_46, c43, c44, c45, c46, rdK_dsl, rdD_dsl, rdE_dsl, hL', hwz, hz, hV, hW, hN]; exact rfl; simp only [List.set_cons_succ, List.set_cons_zero, putA]; exact rfl)
    | with_reducible refine q_block ?_
    | with_reducible refine q_skip ?_
    | with_reducible refine q_ret ?_
    | with_reducible refine q_exit ?_
    | with_reducible refine q_thenR ?_
    | with_reducible refine q_thenE ?_
    | with_reducible refine q_blkN ?_
    | with_reducible refine q_blkR ?_
    | with_reducible refine q_blkE ?_
    | ((with_reducible apply q_cond); simp only [evA, List.getD_cons_succ, List.getD_cons_zero]; exact rfl)
    | with_reducible refine q_bT ?_
    | with_reducible refine q_bF ?_
    | ((with_reducible apply q_bifF); (first | rfl | decide | assumption))
    | ((with_reducible apply q_bifT); (first | rfl | decide | assumption))
    | with_reducible refine q_loop ?_)
          exact ⟨ops.length - (i + 1), by omega, i + 1, _, _, L', by omega, rfl, rfl, .inr rfl, s3', by omega, by omega, fun q hq => by (simp (disch := omega) only [upd_ne]; exact hf q (by omega)), fun q hq => by (simp (disch := omega) only [upd_ne]; exact hE q hq)⟩
        · rw [if_neg hz] at s3'
          have hV := s3'.v
          have hW := s3'.w
          have hN := s3'.n
          have hl0 := s2' hz
          have hz' : ((doesF ops[i].k ops[i].v (ops[i].h, ops[i].w) t).2 == 0) = false := by simpa using hz
          repeat (first
    | with_reducible refine q_seq ?_
    | with_reducible refine q_reg ?_
    | with_reducible refine q_nil ?_
    | with_reducible refine q_thenN ?_
    | ((with_reducible apply q_cons rfl); simp (disch := omega) only [go_sem, opsA_len, opsA_drop, elsA_len, elsA_drop, hf, upd_ne, ↓hlv, hrv, pair_eta, cal43, cal44, cal45, cal46, ctS_43, ctS_44, ctS_45, ctS_46, c43, c44, c45, c46, rdK_dsl, rdD_dsl, rdE_dsl, hL', s1'', hz, hl0, hV, hW, hN]; exact rfl; simp only [List.set_cons_succ, List.set_cons_zero, putA]; exact rfl)
    | ((with_reducible apply q_consF); simp only [aWanted, List.getElem?_toArray, List.getElem?_cons_succ, List.getElem?_cons_zero, Option.bind_some, List.getD_cons_succ, List.getD_cons_zero]; exact rfl; simp only [List.set_cons_succ, List.set_cons_zero, putA]; exact rfl)
    | ((with_reducible apply q_consT); simp only [aWanted, List.getElem?_toArray, List.getElem?_cons_succ, List.getElem?_cons_zero, Option.bind_some, List.getD_cons_succ, List.getD_cons_zero]; exact rfl; simp (disch := omega) only [go_sem, opsA_len, opsA_drop, elsA_len, elsA_drop, hf, upd_ne, ↓hlv, hrv, pair_eta, cal43, cal44, cal45, cal46, ctS_43, ctS_44, ctS_45, ctS_46, c43, c44, c45, c46, rdK_dsl, rdD_dsl, rdE_dsl, hL', s1'', hz, hl0, hV, hW, hN]; exact rfl; simp only [List.set_cons_succ, List.set_cons_zero, putA]; exact rfl)
    | with_reducible refine q_block ?_
    | with_reducible refine q_skip ?_
    | with_reducible refine q_ret ?_
    | with_reducible refine q_exit ?_
    | with_reducible refine q_thenR ?_
    | with_reducible refine q_thenE ?_
    | with_reducible refine q_blkN ?_
    | with_reducible refine q_blkR ?_
    | with_reducible refine q_blkE ?_
    | ((with_reducible apply q_cond); simp only [evA, List.getD_cons_succ, List.getD_cons_zero]; exact rfl)
    | with_reducible refine q_bT ?_
    | with_reducible refine q_bF ?_
    | ((with_reducible apply q_bifF); (first | rfl | decide | assumption))
    | ((with_reducible apply q_bifT); (first | rfl | decide | assumption))
    | with_reducible refine q_loop ?_)
          exact ⟨ops.length - (i + 1), by omega, i + 1, _, _, L', by omega, rfl, rfl, .inr rfl, s3', by omega, by omega, fun q hq => by (simp (disch := omega) only [upd_ne]; exact hf q (by omega)), fun q hq => by (simp (disch := omega) only [upd_ne]; exact hE q hq)⟩
  · repeat (first
    | with_reducible refine q_seq ?_
    | with_reducible refine q_reg ?_
    | with_reducible refine q_nil ?_
    | with_reducible refine q_thenN ?_
    | ((with_reducible apply q_cons rfl); simp (disch := omega) only [go_sem]; exact rfl; simp only [List.set_cons_succ, List.set_cons_zero, putA]; exact rfl)
    | with_reducible refine q_block ?_
    | with_reducible refine q_skip ?_
    | with_reducible refine q_ret ?_
    | with_reducible refine q_exit ?_
    | with_reducible refine q_thenR ?_
    | with_reducible refine q_thenE ?_
    | with_reducible refine q_blkN ?_
    | with_reducible refine q_blkR ?_
    | with_reducible refine q_blkE ?_
    | ((with_reducible apply q_cond); simp only [evA, List.getD_cons_succ, List.getD_cons_zero]; exact rfl)
    | with_reducible refine q_bT ?_
    | with_reducible refine q_bF ?_
    | ((with_reducible apply q_bifF); (first | rfl | decide | assumption))
    | ((with_reducible apply q_bifT); (first | rfl | decide | assumption))
    | with_reducible refine q_loop ?_)
    (apply q_end; simp only [aRes, Try.results8, List.toList_toArray, List.getD_cons_succ, List.getD_cons_zero]; exact rfl; simp only [packA]; exact rfl)
    exact ⟨fun q hq => hE q (Nat.lt_of_not_le fun h => hq (hs q h)), Pub.sc _⟩
end Go.Proofs.Ytdcomhdadnhpnaa
