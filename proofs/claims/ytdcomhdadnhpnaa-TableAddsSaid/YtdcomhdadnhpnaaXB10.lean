import Derived.Test.YtdcomhdadnhpnaaXB9
import Derived.Test.YtdcomhdadnhpnaaXA25
set_option linter.all false
namespace Go.Proofs.Ytdcomhdadnhpnaa
open Go Go.Am Go.RowKit
attribute [local irreducible] wA opsQ opsLQ thenA blockA EndA
def headL (n : Nat) : List Int := (((List.replicate (wlen n) (0 : Int)).set 0 (n : Nat)).set 1 (bkts n : Nat)).set 2 (pow2 (bkts n) : Nat)
def wR (recs : List (Int × Int)) : Nat → List Int → List Int
  | 0, l => l
  | k + 1, l => ((wR recs k l).set (recAt k) (recs.getD k (0, 0)).1).set (recAt k + 1) (recs.getD k (0, 0)).2
def lnk : Nat → List Nat → List Int → List Int
  | _, [], l => l
  | f, r :: rs, l => lnk (recAt r + 2) rs (l.set f ((r : Int) + 1))
def wC (chs : List (List Nat)) : Nat → List Int → List Int
  | 0, l => l
  | k + 1, l => lnk (headAt k) (chs.getD k []) (wC chs k l)
def wordsF (recs : List (Int × Int)) (chs : List (List Nat)) : List Int := wC chs chs.length (wR recs recs.length (headL recs.length))
theorem headL_len (n : Nat) : (headL n).length = wlen n := by simp [headL]
theorem wR_len (recs : List (Int × Int)) : ∀ (k : Nat) (l : List Int), (wR recs k l).length = l.length
  | 0, _ => rfl
  | k + 1, l => by simp [wR, wR_len recs k l]
theorem lnk_len : ∀ (c : List Nat) (f : Nat) (l : List Int), (lnk f c l).length = l.length
  | [], _, _ => rfl
  | r :: rs, f, l => by simp [lnk, lnk_len rs]
theorem wC_len (chs : List (List Nat)) : ∀ (k : Nat) (l : List Int), (wC chs k l).length = l.length
  | 0, _ => rfl
  | k + 1, l => by simp [wC, lnk_len, wC_len chs k l]
def rowsN (chs : List (List Nat)) : List AV := chs.map fun c => .dsl c.length (natsA c)
abbrev tabG (recs : List (Int × Int)) (chs : List (List Nat)) : AV := .agg [.dsl recs.length (elsA recs), .dsl chs.length (rowsN chs)]
theorem az31 (k : Nat) : aZeros (.int .i64 0) k = ints (List.replicate k 0) := by
  show List.replicate k (AV.sc (.int .i64 0)) = _
  simp
theorem ints_set (l : List Int) (i : Nat) (x : Int) : (ints l).set i (.sc (.int .i64 x)) = ints (l.set i x) := by simp [List.map_set]
theorem tn1 : (1 : Int).toNat = 1 := rfl
theorem tn2 : (2 : Int).toNat = 2 := rfl
set_option maxRecDepth 100000 in
set_option maxHeartbeats 2000000 in
theorem words_ro (recs : List (Int × Int)) (chs : List (List Nat)) (hn : recs.length ≤ 100000) (hc : chs.length = bkts recs.length) (hr : ∀ c ∈ chs, ∀ r ∈ c, r < recs.length) (hcn : ∀ c ∈ chs, c.length ≤ 100000) :
    RO Try.prog 51 [tabG recs chs] (OwnX (some (wordsF recs chs))) := by
  have hb := bkts_le recs.length (by omega)
  have hb8 := bkts8 recs.length
  have hll := wlen_le recs.length (by omega)
  have h60 := wlen_ge recs.length
  have hrec : ∀ r, r < recs.length → recAt r + 2 < wlen recs.length := fun r hr => recAt_wlen hr
  refine ro_of Try.func51 rfl (fun E s hs => ?_)
  refine wA_ok hmix ctN_ok _ (by kernel_rfl) ?_
  simp (maxSteps := 300000) only [begA, Try.ntmps51, List.replicate_succ, List.replicate_zero, List.length_cons, List.length_nil, List.cons_append, List.nil_append]
  have hl1 : (((List.replicate (wlen recs.length) (AV.sc (.int .i64 0))).set 0 (AV.sc (.int .i64 (recs.length : Nat)))).set 1 (AV.sc (.int .i64 (bkts recs.length : Nat))))[1]? = some (AV.sc (.int .i64 (bkts recs.length : Nat))) := by
    rw [List.getElem?_set, if_pos rfl, if_pos (by simp; omega)]
  repeat (first | (with_reducible first | apply Q0 | apply Q1 | apply Q2 | apply Q3 | apply Q4 | apply Q5 | apply Q6 | apply Q7 | apply Q8 | apply Q9 | apply QA | apply QB | apply QC | apply QD | apply QE | apply QF) | (with_reducible apply QK rfl; simp (disch := omega) only [go_sem, hs, upd_ne, cal18, cal19, cal67, ctN_18, ctN_19, ctN_67, c18r, c19r, c67r, az31, ints_len, List.length_replicate, ints_set, tn1, tn2, hl1]; exact rfl; simp only [sB, sA, putA]; exact rfl) | (with_reducible apply QQ; simp only [evA, gB, gA]; exact rfl) | ((first | with_reducible apply QX | with_reducible apply QY); (first | rfl | decide | assumption)))
  have hbase : (wR recs recs.length (headL recs.length)).length = wlen recs.length := by rw [wR_len, headL_len]
  refine AWp.loop [1, 3, 4, 5] (fun Γ H s' m => ∃ k : Nat, k ≤ recs.length ∧ m = recs.length - k ∧ Γ = (List.replicate 1 .junk) ++ [.ptr s 0 0] ++ (List.replicate 1 .junk) ++ [.sc (.int .i64 (recs.length : Nat)), .sl (s + 1) 0 0 (wlen recs.length), .sc (.int .i64 (k : Nat))] ++ (List.replicate 85 .junk) ∧
    H s = some (.row 0 1 [.dsl recs.length (elsA recs), .dsl chs.length (rowsN chs)]) ∧ H (s + 1) = some (.row 0 1 (ints (wR recs k (headL recs.length))))) recs.length ?_ ?_
  · exact ⟨0, Nat.zero_le _, rfl, rfl, by simp (disch := omega) only [upd_ne, upd_same], by rw [upd_same]; simp [wR, headL, List.map_set]⟩
  · rintro Γ H s1 m ⟨k, hk, rfl, rfl, hH0, hH1⟩
    refine wA_ok hmix ctN_ok _ (by kernel_rfl) ?_
    simp (maxSteps := 1000000) only [List.replicate_succ, List.replicate_zero, List.cons_append, List.nil_append, List.append_nil]
    have hlen : (wR recs k (headL recs.length)).length = wlen recs.length := by rw [wR_len, headL_len]
    by_cases hlt : k < recs.length
    · have h2 := hrec k hlt
      have hi1 : (((recAt k : Nat) : Int) + 1).toNat = recAt k + 1 := by omega
      repeat (first | (with_reducible first | apply Q0 | apply Q1 | apply QG | apply Q2 | apply Q3 | apply Q4 | apply Q5 | apply Q6 | apply Q7 | apply Q8 | apply Q9 | apply QA | apply QB | apply QC | apply QD | apply QE | apply QF) | (with_reducible apply QK rfl; simp (disch := omega) only [go_sem, cal91, ctN_91, c91r, hH0, hH1, upd_ne, ints_len, hlen, elsA_len, elsA_drop, ints_set, hi1]; exact rfl; simp only [sB, sA, putA]; exact rfl) | ((first | with_reducible apply QL rfl | (with_reducible apply QM; simp only [go_sem]; exact rfl)); simp (disch := omega) only [go_sem, cal91, ctN_91, c91r, hH0, hH1, upd_ne, ints_len, hlen, elsA_len, elsA_drop, ints_set, hi1]; exact rfl; simp only [sB, sA, putA]; exact rfl; simp only [logT_none, logT_rd, logT_wr, List.cons_append, List.nil_append]; exact rfl) | ((first | with_reducible apply QI | with_reducible apply QN); simp only [go_sem]; exact rfl; simp only [sB, sA, putA]; exact rfl) | (with_reducible refine QO ?_ ?_; first | focus (simp only [dyn_nil, dyn_cons, allY_nil, allY_cons, dj_rr, true_or, true_and]; done) | focus (simp only [dyn_nil, dyn_cons, allY_nil, allY_cons, Dj, List.mem_cons, List.not_mem_nil, or_false, forall_eq, forall_eq_or_imp, and_true, true_and, false_imp_iff, implies_true]; omega) | focus (simp only [dyn_nil, dyn_cons, allY_nil, allY_cons, and_true, true_and]; (repeat' refine And.intro ?_ ?_); all_goals first | (left; simp only [Dj, List.mem_cons, List.not_mem_nil, or_false, forall_eq, forall_eq_or_imp, and_true, true_and, false_imp_iff, implies_true]; first | done | omega) | (right; kernel_rfl))) | (with_reducible apply QQ; simp only [evA, gB, gA]; exact rfl) | ((first | with_reducible apply QX | with_reducible apply QY); (first | rfl | decide | assumption)))
      refine ⟨recs.length - (k + 1), by omega, k + 1, by omega, rfl, rfl, by simp (disch := omega) only [upd_ne]; exact hH0, ?_⟩
      rw [upd_same]
      show _ = some (AO.row 0 1 (ints (((wR recs k (headL recs.length)).set (recAt k) (recs.getD k (0, 0)).1).set (recAt k + 1) (recs.getD k (0, 0)).2)))
      rw [show recs.getD k (0, 0) = recs[k] by simp [hlt]]
    · obtain rfl : k = recs.length := by omega
      repeat (first | (with_reducible first | apply Q0 | apply Q1 | apply Q2 | apply Q3 | apply Q4 | apply Q5 | apply Q6 | apply Q7 | apply Q8 | apply Q9 | apply QA | apply QB | apply QC | apply QD | apply QE | apply QF) | (with_reducible apply QK rfl; simp (disch := omega) only [go_sem]; exact rfl; simp only [sB, sA, putA]; exact rfl) | (with_reducible apply QQ; simp only [evA, gB, gA]; exact rfl) | ((first | with_reducible apply QX | with_reducible apply QY); (first | rfl | decide | assumption)))
      refine AWp.loop [1, 4, 6] (fun Γ H s' m => ∃ i : Nat, i ≤ chs.length ∧ m = chs.length - i ∧ Γ = (List.replicate 1 .junk) ++ [.ptr s 0 0] ++ (List.replicate 2 .junk) ++ [.sl (s + 1) 0 0 (wlen recs.length), .junk, .sc (.int .i64 (i : Nat))] ++ (List.replicate 84 .junk) ∧
        H s = some (.row 0 1 [.dsl recs.length (elsA recs), .dsl chs.length (rowsN chs)]) ∧ H (s + 1) = some (.row 0 1 (ints (wC chs i (wR recs recs.length (headL recs.length)))))) chs.length ?_ ?_
      · exact ⟨0, Nat.zero_le _, rfl, rfl, hH0, hH1⟩
      clear hH0 hH1 hlt
      rintro Γ H s2 m ⟨i, hi, rfl, rfl, hH0, hH1⟩
      refine wA_ok hmix ctN_ok _ (by kernel_rfl) ?_
      simp (maxSteps := 1000000) only [List.replicate_succ, List.replicate_zero, List.cons_append, List.nil_append, List.append_nil]
      by_cases hlt : i < chs.length
      · have hh := headAt_wlen (n := recs.length) (k := i) (by omega)
        have hri : ∀ r ∈ chs[i], r < recs.length := hr _ (List.getElem_mem hlt)
        have hci := hcn _ (List.getElem_mem hlt)
        repeat (first | (with_reducible first | apply Q0 | apply Q1 | apply Q2 | apply Q3 | apply Q4 | apply Q5 | apply Q6 | apply Q7 | apply Q8 | apply Q9 | apply QA | apply QB | apply QC | apply QD | apply QE | apply QF) | (with_reducible apply QK rfl; simp (disch := omega) only [go_sem, cal92, ctN_92, c92r, hH0, rowsN]; exact rfl; simp only [sB, sA, putA]; exact rfl) | (with_reducible apply QQ; simp only [evA, gB, gA]; exact rfl) | ((first | with_reducible apply QX | with_reducible apply QY); (first | rfl | decide | assumption)))
        refine AWp.loop [1, 4, 6, 7, 8] (fun Γ H s' m => ∃ (k pos : Nat) (cur : List Int), k ≤ chs[i].length ∧ m = chs[i].length - k ∧ pos < wlen recs.length ∧ cur.length = wlen recs.length ∧ Γ = (List.replicate 1 .junk) ++ [.ptr s 0 0] ++ (List.replicate 2 .junk) ++ [.sl (s + 1) 0 0 (wlen recs.length), .junk, .sc (.int .i64 (i : Nat)), .sc (.int .i64 (pos : Nat)), .sc (.int .i64 (k : Nat))] ++ (List.replicate 82 .junk) ∧
          H s = some (.row 0 1 [.dsl recs.length (elsA recs), .dsl chs.length (rowsN chs)]) ∧ H (s + 1) = some (.row 0 1 (ints cur)) ∧ lnk pos (chs[i].drop k) cur = wC chs (i + 1) (wR recs recs.length (headL recs.length))) chs[i].length ?_ ?_
        · refine ⟨0, headAt i, _, Nat.zero_le _, rfl, hh, ?_, rfl, hH0, hH1, ?_⟩
          · rw [wC_len, hbase]
          · rw [wC, List.drop_zero, show chs.getD i [] = chs[i] by simp [hlt]]
        clear hH0 hH1
        rintro Γ H s3 m ⟨k, pos, cur, hk, rfl, hp, hcl, rfl, hH0, hH1, hL⟩
        refine wA_ok hmix ctN_ok _ (by kernel_rfl) ?_
        simp (maxSteps := 1000000) only [List.replicate_succ, List.replicate_zero, List.cons_append, List.nil_append, List.append_nil]
        by_cases hkl : k < chs[i].length
        · have hrn := hri _ (List.getElem_mem hkl)
          have h2 := hrec _ hrn
          have hcast : ((chs[i][k] : Nat) : Int) + 1 = ((chs[i][k] : Nat) : Int) + 1 := rfl
          repeat (first | (with_reducible first | apply Q0 | apply Q1 | apply Q2 | apply Q3 | apply Q4 | apply Q5 | apply Q6 | apply Q7 | apply Q8 | apply Q9 | apply QA | apply QB | apply QC | apply QD | apply QE | apply QF) | (with_reducible apply QK rfl; simp (disch := omega) only [go_sem, cal91, ctN_91, c91r, hH0, hH1, upd_ne, ints_len, hcl, ints_set, rowsN]; exact rfl; simp only [sB, sA, putA]; exact rfl) | (with_reducible apply QQ; simp only [evA, gB, gA]; exact rfl) | ((first | with_reducible apply QX | with_reducible apply QY); (first | rfl | decide | assumption)))
          refine ⟨chs[i].length - (k + 1), by omega, k + 1, recAt chs[i][k] + 2, _, by omega, rfl, h2, ?_, rfl, by simp (disch := omega) only [upd_ne]; exact hH0, upd_same _ _ _, ?_⟩
          · rw [List.length_set, hcl]
          · rw [← hL, List.drop_eq_getElem_cons hkl, lnk]
        · obtain rfl : k = chs[i].length := by omega
          repeat (first | (with_reducible first | apply Q0 | apply Q1 | apply Q2 | apply Q3 | apply Q4 | apply Q5 | apply Q6 | apply Q7 | apply Q8 | apply Q9 | apply QA | apply QB | apply QC | apply QD | apply QE | apply QF) | (with_reducible apply QK rfl; simp (disch := omega) only [go_sem, hH0, rowsN]; exact rfl; simp only [sB, sA, putA]; exact rfl) | (with_reducible apply QQ; simp only [evA, gB, gA]; exact rfl) | ((first | with_reducible apply QX | with_reducible apply QY); (first | rfl | decide | assumption)))
          refine ⟨chs.length - (i + 1), by omega, i + 1, by omega, rfl, rfl, hH0, ?_⟩
          rw [hH1, ← hL, List.drop_length, lnk]
      · obtain rfl : i = chs.length := by omega
        repeat (first | (with_reducible first | apply Q0 | apply Q1 | apply Q2 | apply Q3 | apply Q4 | apply Q5 | apply Q6 | apply Q7 | apply Q8 | apply Q9 | apply QA | apply QB | apply QC | apply QD | apply QE | apply QF) | (with_reducible apply QK rfl; simp (disch := omega) only [go_sem, hH0, rowsN]; exact rfl; simp only [sB, sA, putA]; exact rfl) | (with_reducible apply QQ; simp only [evA, gB, gA]; exact rfl) | ((first | with_reducible apply QX | with_reducible apply QY); (first | rfl | decide | assumption)))
        (apply QZ; simp only [aRes, Try.results51, List.toList_toArray, List.getD_cons_succ, List.getD_cons_zero]; exact rfl; simp only [packA]; exact rfl)
        have hwl : (wordsF recs chs).length = wlen recs.length := by unfold wordsF; rw [wC_len, hbase]
        exact ⟨_, _, by rw [hwl], hH1⟩
theorem words_call (recs : List (Int × Int)) (chs : List (List Nat)) (hn : recs.length ≤ 100000) (hc : chs.length = bkts recs.length) (hr : ∀ c ∈ chs, ∀ r ∈ c, r < recs.length) (hcn : ∀ c ∈ chs, c.length ≤ 100000) :
    RC Try.prog 51 [tabG recs chs] (.dsl (wordsF recs chs).length (ints (wordsF recs chs))) :=
  (words_ro recs chs hn hc hr hcn).rc (fun a H ⟨n, ver, e, hH⟩ => by subst e; exact Exp.ints hH)
end Go.Proofs.Ytdcomhdadnhpnaa