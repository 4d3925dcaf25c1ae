/-
  Proved: TableMoves returns true for every input, and the arguments read as before. No condition is added.
-/
import Derived.Test.YtdcomhdadnhpnaaRows
import Derived.WalkKit
import Derived.ProofKit
import Derived.OpenShut
import Derived.Test.YtdcomhdadnhpnaaYZB48
import Derived.Test.YtdcomhdadnhpnaaYZC5
set_option linter.all false
namespace Go.Proofs.Ytdcomhdadnhpnaa.tableMoves
open Go.ChangeShapes Go.WideShapes Go.ChangeAt Go.RowKit Go.Am
theorem own : ownKnob Try.prog.godebug = none := by kernel_rfl
set_option maxRecDepth 100000 in
theorem lifted (os : Os) (started : os.Started) (H : Type) (enc : TypeId × Value → H) :
    ReturnsInHanded {} Try.checked os 14 .any (Rows.tableMovesSpec.pre6 enc Try.prog Try.f14 Rows.tableMovesRow.domain false) (Rows.tableMovesSpec.post enc Try.prog Try.f14 false true false false) := by
  refine returnsInHanded_of_change (C := Try.checked) own started (by kernel_rfl) Try.func14
    (ChangeSpec.witness6 (enc := enc) (C := Try.checked) false ⟨#[], #[.agg #[.slice none 0 0, .slice none 0 0, .bool false, .int .i64 0, .int .i64 0], .agg #[.slice none 0 0, .slice none 0 0, .bool false, .int .i64 0, .int .i64 0], .slice none 0 0, .slice none 0 0], []⟩ 8 (by kernel_rfl) (by kernel_rfl) (by kernel_rfl) (by kernel_rfl)) ?_
  intro W base args ds gs before hval0 hW hcnd _
  have hval : ∀ (j : Nat) t v, Try.f14.params[j]? = some t → args[j]? = some v → Value.okWide Try.prog W .any base t v := hval0
  have hW' := hW
  obtain ⟨p, q, hA0, hV, rfl, hfz, hnd⟩ := hW
  have hA : DataW.TrodAll enc Try.prog W 0 (fun _ => true) true Try.f14.params.toList args.toList ds p := hA0
  rw [Try.params14] at hA hval
  obtain ⟨v0, vs0, d0, ds0, p0, q0, hargs, rfl, rfl, h0, r0⟩ := trodAll_cons hA
  obtain ⟨v1, vs1, d1, ds1, p1, q1, rfl, rfl, rfl, h1, r1⟩ := trodAll_cons r0
  obtain ⟨v2, vs2, d2, ds2, p2, q2, rfl, rfl, rfl, h2, r2⟩ := trodAll_cons r1
  obtain ⟨v3, vs3, d3, ds3, p3, q3, rfl, rfl, rfl, h3, r3⟩ := trodAll_cons r2
  obtain ⟨rfl, rfl, rfl⟩ := trodAll_nil r3
  obtain rfl : args = #[v0, v1, v2, v3] := by cases args; simp_all
  obtain ⟨rfl, rfl⟩ := trodVars_none hV
  obtain ⟨b2, len2, cap2, rfl⟩ := okWide_slice Try.underlying83 (hval 2 83 v2 rfl rfl)
  obtain ⟨b3, len3, cap3, rfl⟩ := okWide_slice Try.underlying40 (hval 3 40 v3 rfl rfl)
  obtain ⟨L, ops, b, x, y, hr0⟩ := rep_play (hval 0 52 v0 rfl rfl) h0
  obtain ⟨L', ops', b', x', y', hr1⟩ := rep_play (hval 1 52 v1 rfl rfl) h1
  obtain ⟨mv, hr2, _⟩ := rep_pairs h2
  obtain ⟨more, hr3, _⟩ := rep_els h3
  clear hA0 hval0
  simp only [List.append_nil, List.nil_append] at hW'
  have hlt : ∀ x ∈ p0 ++ (p1 ++ (p2 ++ p3)), x.block < W.heap.size := fun x hx => by simpa using hW'.lt x hx
  have hc := calls_of_sc (tableMoves_call L ops b x y L' ops' b' x' y' mv more) (.cons hr0 (.cons hr1 (.cons hr2 (.cons hr3 .nil))))
  refine hc.mono fun e W' ⟨he, hg⟩ => ?_
  subst he
  have stay : ∀ {t : TypeId} {v : Value} {d : DataW H} {pp : List MemPlace}, Try.prog.readableRec t = true → t < Try.prog.types.size → DataW.Trod enc Try.prog W 0 (fun _ => true) true t v d pp → (∀ x ∈ pp, x ∈ p0 ++ (p1 ++ (p2 ++ p3))) → ∀ sp : Nat → Bool, (∀ x ∈ pp, sp x.block = true) → DataW.Trod enc Try.prog W' 0 sp true t v d pp :=
    fun k1 k2 ht hsub sp hs => WideElems.Trod_stays (show laidOutB Try.prog = true by kernel_rfl) k1 k2 ht (fun x hx => hg.same (hlt x (hsub x hx))) hs
  have hargs : ∀ sp : Nat → Bool, (∀ x ∈ p0 ++ (p1 ++ (p2 ++ p3)), sp x.block = true) → DataW.TrodAll enc Try.prog W' 0 sp true [52, 52, 83, 40] [v0, v1, .slice b2 len2 cap2, .slice b3 len3 cap3] [d0, d1, d2, d3] (p0 ++ (p1 ++ (p2 ++ p3))) :=
    fun sp hsp => by
      have k := trodAll_cons_mk (stay (by kernel_rfl) (of_decide_eq_true (by kernel_rfl)) h0 (fun x hx => by simp [hx]) sp (fun x hx => hsp x (by simp [hx]))) (trodAll_cons_mk (stay (by kernel_rfl) (of_decide_eq_true (by kernel_rfl)) h1 (fun x hx => by simp [hx]) sp (fun x hx => hsp x (by simp [hx]))) (trodAll_cons_mk (stay (by kernel_rfl) (of_decide_eq_true (by kernel_rfl)) h2 (fun x hx => by simp [hx]) sp (fun x hx => hsp x (by simp [hx]))) (trodAll_cons_mk (stay (by kernel_rfl) (of_decide_eq_true (by kernel_rfl)) h3 (fun x hx => by simp [hx]) sp (fun x hx => hsp x (by simp [hx]))) trodAll_mk0)))
      simpa using k
  exact ⟨_, rfl, post_of_below (pa := p0 ++ (p1 ++ (p2 ++ p3))) (pv := []) hW' (fun _ _ _ => (trodAll_cons_mk (shut_bool Try.underlying4 _) trodAll_mk0)) hargs (fun _ _ => rfl) (by simp)
    hg (ok_one (by kernel_rfl) rfl (okWide_bool_mk Try.underlying4 _))⟩
theorem over : Rows.tableMovesRow.holds Try.pinned (OpenSpec.ofChange Rows.tableMovesSpec) :=
  OpenClaim.holds_of_wide 14 Try.f14 rfl rfl rfl rfl rfl rfl rfl ⟨rfl, rfl, rfl, rfl, rfl⟩ rfl rfl rfl rfl rfl (by kernel_rfl) Try.func14 (by kernel_rfl)
    (of_decide_eq_true (by kernel_rfl)) (by unfold Func.isWrapper; first | (rw [if_pos (by decide +kernel)]; kernel_rfl) | (rw [if_neg (by decide +kernel)]; exact ⟨rfl, rfl⟩))
    (fun os started H enc _ => lifted os started H enc)
/-- ████ THE STATEMENT ████ -/
theorem proved : Rows.TableMovesSaid :=
  over
#print axioms proved
end Go.Proofs.Ytdcomhdadnhpnaa.tableMoves
