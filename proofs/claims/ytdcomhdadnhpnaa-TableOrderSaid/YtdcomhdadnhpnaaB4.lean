/- Contracts of Elems and of the law's helpers on lists of elements, for the machine. -/
import Derived.Test.YtdcomhdadnhpnaaP14
import Derived.Test.YtdcomhdadnhpnaaB3
set_option linter.unusedSimpArgs false
set_option linter.unusedVariables false
namespace Go.Proofs.Ytdcomhdadnhpnaa
open Go Go.Am Go.RowKit

def elsOf : List AV → Option (List (Int × Int))
  | [] => some []
  | .sc (.int .i64 x) :: .sc (.int .i64 y) :: t => (elsOf t).map ((x, y) :: ·)
  | _ => none
theorem elsOf_elsA : ∀ (L : List (Int × Int)), elsOf (elsA L) = some L
  | [] => rfl
  | e :: L => by rw [elsA_cons, elsOf, elsOf_elsA L]; rfl
theorem elsOf_some : ∀ {cs : List AV} {L : List (Int × Int)}, elsOf cs = some L → cs = elsA L
  | [], L, h => by cases h; rfl
  | [a], L, h => by unfold elsOf at h; split at h <;> simp_all
  | a :: b :: t, L, h => by
    unfold elsOf at h
    split at h
    · rename_i e; cases e
    · rename_i x y t' e
      cases e
      cases hk : elsOf t with
      | none => rw [hk] at h; cases h
      | some m => rw [hk] at h; cases h; rw [elsOf_some hk]; rfl
    · cases h
/-- a list of elements that is read -/
def rdE (a : AV) (k : List (Int × Int) → AP AV) : AP AV := match a with
  | .dsl len cells => match elsOf cells with
    | some L => if L.length = len then k L else .fail
    | none => .fail
  | .sc (.slice none 0 0) => k []
  | _ => .fail
theorem rdE_dsl (L : List (Int × Int)) (k : List (Int × Int) → AP AV) : rdE (.dsl L.length (elsA L)) k = k L := by
  unfold rdE; simp only [elsOf_elsA, if_true]
theorem rdE_nil (k : List (Int × Int) → AP AV) : rdE (.sc (.slice none 0 0)) k = k [] := rfl
section
variable {ρ : Inj} {H H' : AHp} {w w' : World}
theorem rdE_ok {a r : AV} {v : Value} {k : List (Int × Int) → AP AV} {s s' : Nat} {O : Nat → Prop} (hr : Rep ρ O w a v) (hm : (rdE a k).run H s = some (r, H', s')) :
    ∃ L, Rep ρ O w (.dsl L.length (elsA L)) v ∧ (k L).run H s = some (r, H', s') := by
  unfold rdE at hm
  split at hm
  · rename_i len cells
    split at hm
    · rename_i L hL
      split at hm
      · rename_i e
        subst e
        rw [elsOf_some hL] at hr
        exact ⟨L, hr, hm⟩
      · simp [AP.run] at hm
    · simp [AP.run] at hm
  · exact ⟨[], Wk.nil _ _ _ _ hr, hm⟩
  · simp [AP.run] at hm
theorem elsA_map (l : List Int) (rs : List Nat) : (elsA (rs.map (elm l))).length = rs.length * 2 ∧ ∀ {ρ : Inj} {O : Nat → Prop} {w : World} (i : Nat) (a : AV) (x : Value), (elsA (rs.map (elm l)))[i]? = some a → (cellsE l rs)[i]? = some x → Rep ρ O w a x := by
  refine ⟨by rw [elsA_len, List.length_map], ?_⟩
  intro ρ O w
  induction rs with
  | nil => intro i a x h; simp [elsA] at h
  | cons r rs ih =>
    intro i a x ha hx
    rw [List.map_cons, elsA_cons] at ha
    simp only [cellsE, List.flatMap_cons, List.cons_append, List.nil_append] at hx
    match i with
    | 0 => simp at ha hx; subst ha; subst hx; exact .sc _
    | 1 => simp at ha hx; subst ha; subst hx; exact .sc _
    | i + 2 => exact ih i a x (by simpa using ha) (by simpa [cellsE] using hx)
theorem rep_own2 {O : Nat → Prop} {base : Nat} {v : Value} {l : List Int} {rs : List Nat} (h : w.ownsRow base 43 2 v rs.length (cellsE l rs)) (hno : ∀ b, O b → b < base) : Rep ρ O w (.dsl rs.length (elsA (rs.map (elm l)))) v := by
  have hcs := fun g hg => h.cells (g := g) hg
  rcases h.2 with ⟨rfl, h0⟩ | ⟨g, c, cur, rfl, hb, hg, hle, _⟩
  · obtain rfl : rs = [] := List.length_eq_zero_iff.1 h0
    exact .dnil (Nat.le_refl _)
  · refine .dsl hle (fun h => by have := hno g h; omega) (lt_heap hg) (by rw [(elsA_map l rs).1, cellsE_len]) (fun i x hx => ?_) (elsA_map l rs).2
    have := hcs g rfl i x hx
    rwa [addr_add] at this
end
open Classical in
noncomputable def c28 : List AV → AP AV
  | [a] => rdK a fun l => if ValidL l then .ret (.tup [.dsl (ordF l).length (elsA (ordF l)), .sc (.int .i64 0)]) else .ret (.tup [.dsl 0 [], .sc (.int .i64 600)])
  | _ => .fail
def c29 : List AV → AP AV
  | [a, .sc (.int .i64 i)] => rdE a fun L => if L.length ≤ 100000 then .ret (.dsl (woL L i).length (elsA (woL L i))) else .fail
  | _ => .fail
def c30 : List AV → AP AV
  | [a, .agg [.sc (.int .i64 x), .sc (.int .i64 y)]] => rdE a fun L => if L.length ≤ 100000 then .ret (.sc (.int .i64 (idxF L (x, y)))) else .fail
  | _ => .fail
def c31 : List AV → AP AV
  | [a, b] => rdE a fun L => rdE b fun M => if L.length ≤ 100000 ∧ M.length ≤ 100000 then .ret (.sc (.bool (decide (L = M)))) else .fail
  | _ => .fail
theorem a28 (args : List AV) : ACall Try.prog 28 args (c28 args) := by
  intro ρ H w vs hR hA s r H' s' hm
  unfold c28 at hm
  split at hm
  · obtain ⟨v0, rfl, hv0⟩ := reps1 hA
    obtain ⟨l, A, c, rfl, hr, _, hm⟩ := rdK_ok hR hv0 hm
    refine (elemsX_any A c l w hr).mono ?_
    rintro e w' ⟨(⟨h1, rfl⟩ | ⟨h1, n, C, v, hH, g, rfl, ho⟩), hb⟩
    · rw [if_neg h1] at hm
      simp only [AP.run, Option.some.injEq, Prod.mk.injEq] at hm
      obtain ⟨rfl, rfl, rfl⟩ := hm
      exact ⟨_, ρ, rfl, step_of_below hR hb, Rep.tup_iff.2 ⟨_, rfl, .cons (.dnil (Nat.le_refl _)) (.cons (.sc _) .nil)⟩⟩
    · rw [if_pos h1] at hm
      simp only [AP.run, Option.some.injEq, Prod.mk.injEq] at hm
      obtain ⟨rfl, rfl, rfl⟩ := hm
      refine ⟨_, ρ, rfl, step_of_below hR hb, Rep.tup_iff.2 ⟨_, rfl, .cons ?_ (.cons (.sc _) .nil)⟩⟩
      have e : ordF l = (recsL C (bkts n)).map (elm l) := by
        have : ∀ k, k ≤ bkts n → recsL (tabC l) k = recsL C k := fun k => by
          induction k with
          | zero => intro _; rfl
          | succ k ih => intro hk; rw [recsL, recsL, ih (by omega), tab_c hH g (by omega)]
        unfold ordF
        rw [tab_n hH, this _ (Nat.le_refl _)]
      rw [e]
      have := rep_own2 (ρ := ρ) (O := own ρ H) ho (fun b hb => hR.own_lt hb)
      rwa [show (recsL C (bkts n)).length = ((recsL C (bkts n)).map (elm l)).length from by rw [List.length_map]] at this
  · simp [AP.run] at hm
theorem a29 (args : List AV) : ACall Try.prog 29 args (c29 args) := by
  intro ρ H w vs hR hA s r H' s' hm
  unfold c29 at hm
  split at hm
  · obtain ⟨v0, v1, rfl, hv0, hv1⟩ := reps2 hA
    obtain ⟨L, hr, hm⟩ := rdE_ok hv0 hm
    split at hm
    · rename_i hle
      exact without_call L _ hle ρ H w _ hR (.cons hr (.cons hv1 .nil)) s r H' s' hm
    · simp [AP.run] at hm
  · simp [AP.run] at hm
theorem a30 (args : List AV) : ACall Try.prog 30 args (c30 args) := by
  intro ρ H w vs hR hA s r H' s' hm
  unfold c30 at hm
  split at hm
  · obtain ⟨v0, v1, rfl, hv0, hv1⟩ := reps2 hA
    obtain ⟨L, hr, hm⟩ := rdE_ok hv0 hm
    split at hm
    · rename_i hle
      exact index_call L _ hle ρ H w _ hR (.cons hr (.cons hv1 .nil)) s r H' s' hm
    · simp [AP.run] at hm
  · simp [AP.run] at hm
theorem a31 (args : List AV) : ACall Try.prog 31 args (c31 args) := by
  intro ρ H w vs hR hA s r H' s' hm
  unfold c31 at hm
  split at hm
  · obtain ⟨v0, v1, rfl, hv0, hv1⟩ := reps2 hA
    obtain ⟨L, hr, hm⟩ := rdE_ok hv0 hm
    obtain ⟨M, hr2, hm⟩ := rdE_ok hv1 hm
    split at hm
    · rename_i hle
      exact elems_call L M hle.1 hle.2 ρ H w _ hR (.cons hr (.cons hr2 .nil)) s r H' s' hm
    · simp [AP.run] at hm
  · simp [AP.run] at hm
noncomputable def ctO : CT := fun f args =>
  if f = 28 then c28 args else if f = 29 then c29 args else if f = 30 then c30 args else if f = 31 then c31 args else ctT f args
theorem ctO_ok : CTok Try.prog ctO := fun f args => by
  unfold ctO
  split
  · rename_i e; subst e; exact a28 args
  split
  · rename_i e; subst e; exact a29 args
  split
  · rename_i e; subst e; exact a30 args
  split
  · rename_i e; subst e; exact a31 args
  · exact ctT_ok f args
theorem ctO_15 (a : List AV) : ctO 15 a = c15 a := rfl
theorem ctO_23 (a : List AV) : ctO 23 a = c23 a := rfl
theorem ctO_24 (a : List AV) : ctO 24 a = c24 a := rfl
theorem ctO_26 (a : List AV) : ctO 26 a = c26 a := rfl
theorem ctO_27 (a : List AV) : ctO 27 a = c27 a := rfl
theorem ctO_28 (a : List AV) : ctO 28 a = c28 a := rfl
theorem ctO_29 (a : List AV) : ctO 29 a = c29 a := rfl
theorem ctO_30 (a : List AV) : ctO 30 a = c30 a := rfl
theorem ctO_31 (a : List AV) : ctO 31 a = c31 a := rfl
end Go.Proofs.Ytdcomhdadnhpnaa
