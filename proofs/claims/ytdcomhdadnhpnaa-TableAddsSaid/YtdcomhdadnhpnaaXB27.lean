import Derived.Test.YtdcomhdadnhpnaaXB26
import Derived.Test.YtdcomhdadnhpnaaXB21
import Derived.Test.YtdcomhdadnhpnaaXP22
set_option linter.all false
namespace Go.Proofs.Ytdcomhdadnhpnaa
open Go Go.Am Go.RowKit
theorem rwithout_rc (c : List Nat) (n : Nat) (hc : c.length ≤ 100000) : RC Try.prog 84 [.dsl c.length (natsA c), .sc (.int .i64 (n : Nat))] (.dsl (wiN c n).length (natsA (wiN c n))) := by
  refine rc_of hmix noCT_ok Try.func84 rfl (by kernel_rfl) (fun E s hs => ?_)
  refine rwithout_walk c n hc E s (fun q _ => hs q) _ (fun v H s' hO => ?_)
  obtain ⟨_, _, _, ⟨h0, h1, rfl⟩ | ⟨nm, ver, h0, rfl, h1, h2, h3⟩⟩ := hO
  · rw [h0, h1]; exact .nil
  · exact Exp.ints h1
def c84d : List AV → AP AV
  | [y, .sc (.int .i64 n)] => rdN y fun c => if 0 ≤ n ∧ c.length ≤ 100000 then .ret (.dsl (wiN c n.toNat).length (natsA (wiN c n.toNat))) else .fail
  | _ => .fail
theorem a84d (args : List AV) : ACall Try.prog 84 args (c84d args) := by
  intro ρ H w vs hR hA s r H' s' hm
  unfold c84d at hm
  split at hm
  · rename_i y n
    obtain ⟨v0, v1, rfl, hv0, hv1⟩ := reps2 hA
    obtain ⟨c, hr, hm⟩ := rdN_data hR hv0 hm
    split at hm
    · rename_i hw
      simp only [AP.run, Option.some.injEq, Prod.mk.injEq] at hm
      obtain ⟨rfl, rfl, rfl⟩ := hm
      obtain rfl := Rep.sc_iff.1 hv1
      have := rwithout_rc c n.toNat hw.2
      rw [show ((n.toNat : Nat) : Int) = n by omega] at this
      exact this.acall hR (.cons hr (.cons (.sc _) .nil))
    · simp [AP.run] at hm
  · simp [AP.run] at hm
open Classical in
/-- Buckets; at its call the own row q, which lies in the row nm, turns to data -/
noncomputable def c18f (q nm kk : Nat) (c : List Nat) (cs : List AV) (args : List AV) : AP AV :=
  .get q fun o => if o = .row 0 1 (natsA c) then .get nm fun o2 => if o2 = .row 0 1 cs ∧ cs[kk]? = some (.sl q 0 0 c.length) ∧ q ≠ nm then
    .set q (.dead 0) (.set nm (.row 0 1 (cs.set kk (.dsl c.length (natsA c)))) (c18r args)) else .fail else .fail
theorem a18f (q nm kk : Nat) (c : List Nat) (cs : List AV) (args : List AV) : ACall Try.prog 18 args (c18f q nm kk c cs args) := by
  intro ρ H w vs hR hA s r H' s' hm
  unfold c18f at hm
  obtain ⟨o, h1, hm⟩ := get_some hm
  split at hm
  · rename_i e
    subst e
    obtain ⟨o2, h2, hm⟩ := get_some hm
    split at hm
    · rename_i e
      obtain ⟨rfl, h3, h4⟩ := e
      simp only [AP.run] at hm
      have hs := Step.freeze hR h1 h2 h3 h4
      refine (a18r args ρ _ w vs hs.rel (hs.reps hA) s r H' s' hm).mono ?_
      rintro e w' ⟨v, ρ', rfl, k1, k2⟩
      exact ⟨v, ρ', rfl, hs.trans k1, k2⟩
    · simp [AP.run] at hm
  · simp [AP.run] at hm
noncomputable def ctD (A B C : List AV → AP AV) : CT := fun f args => if f = 18 then A args else if f = 78 then B args else if f = 84 then C args else ctS f args
theorem ctD_ok {A B C : List AV → AP AV} (hA : ∀ args, ACall Try.prog 18 args (A args)) (hB : ∀ args, ACall Try.prog 78 args (B args)) (hC : ∀ args, ACall Try.prog 84 args (C args)) : CTok Try.prog (ctD A B C) := fun f args => by
  unfold ctD
  split
  · rename_i e; subst e; exact hA args
  split
  · rename_i e; subst e; exact hB args
  split
  · rename_i e; subst e; exact hC args
  · exact ctS_ok f args
section
variable (A B C : List AV → AP AV) (a : List AV)
theorem ctD_18 : ctD A B C 18 a = A a := rfl
theorem ctD_21 : ctD A B C 21 a = ctR 21 a := rfl
theorem ctD_22 : ctD A B C 22 a = ctR 22 a := rfl
theorem ctD_51 : ctD A B C 51 a = c51o a := rfl
theorem ctD_78 : ctD A B C 78 a = B a := rfl
theorem ctD_79 : ctD A B C 79 a = c79 a := rfl
theorem ctD_83 : ctD A B C 83 a = c83 a := rfl
theorem ctD_84 : ctD A B C 84 a = C a := rfl
theorem ctD_85 : ctD A B C 85 a = c85 a := rfl
end
theorem dropF_600 {l : List Int} {h x : Int} (hV : ¬ ValidL l) : dropF l h x = (0, [], 600) := dropF_eq (.inl ⟨hV, rfl, rfl, rfl⟩)
theorem elsA_takeK (L : List (Int × Int)) : ∀ k, (elsA L).take (k * 2) = elsA (L.take k) := by
  induction L with
  | nil => intro k; simp [elsA]
  | cons a L ih =>
    intro k
    cases k with
    | zero => rfl
    | succ k =>
      rw [show (k + 1) * 2 = k * 2 + 1 + 1 by omega]
      exact congrArg (fun t => AV.sc (Value.int .i64 a.1) :: AV.sc (Value.int .i64 a.2) :: t) (ih k)
theorem elsA_dropK (L : List (Int × Int)) : ∀ k, (elsA L).drop (k * 2) = elsA (L.drop k) := by
  induction L with
  | nil => intro k; simp [elsA]
  | cons a L ih =>
    intro k
    cases k with
    | zero => rfl
    | succ k =>
      rw [show (k + 1) * 2 = k * 2 + 1 + 1 by omega]
      exact ih k
theorem elsA_putE {L : List (Int × Int)} {k : Nat} (e : Int × Int) (h : k < L.length) : putCells (elsA L) (k * 2) [.sc (.int .i64 e.1), .sc (.int .i64 e.2)] = elsA (L.set k e) := by
  have e0 : putCells (elsA L) (k * 2) [.sc (.int .i64 e.1), .sc (.int .i64 e.2)] = (elsA L).take (k * 2) ++ [AV.sc (.int .i64 e.1), AV.sc (.int .i64 e.2)] ++ (elsA L).drop (k * 2 + 2) := rfl
  rw [e0, show k * 2 + 2 = (k + 1) * 2 by omega, elsA_takeK, elsA_dropK, List.set_eq_take_append_cons_drop, if_pos h, elsA_append, List.append_assoc]
  rfl
theorem rowsN_take (chs : List (List Nat)) (k : Nat) : (rowsN chs).take k = rowsN (chs.take k) := by simp [rowsN, List.map_take]
theorem mrgR_len (recs : List (Int × Int)) : ∀ (k : Nat) (a l : List Nat), a.length + l.length ≤ k → (mrgR recs a l).length = a.length + l.length
  | _, [], l, _ => by rw [mrgR_nill]; simp
  | _, x :: a, [], _ => by rw [mrgR_nilr]; simp
  | 0, x :: a, y :: l, hk => by simp at hk
  | k + 1, x :: a, y :: l, hk => by
    simp only [List.length_cons] at hk
    by_cases e : (recs.getD x (0, 0)).1 < (recs.getD y (0, 0)).1
    · rw [mrgR_lt e, List.length_cons, mrgR_len recs k a (y :: l) (by simp only [List.length_cons]; omega)]; simp only [List.length_cons]; omega
    · rw [mrgR_ge e, List.length_cons, mrgR_len recs k (x :: a) l (by simp only [List.length_cons]; omega)]; simp only [List.length_cons]; omega
theorem MOK.olen {recs : List (Int × Int)} {n : Nat} {chs : List (List Nat)} (h : MOK recs n chs) : (mrgO recs chs).length ≤ 200000 := by
  have key : ∀ i, (chs.getD i []).length ≤ 100000 := fun i => by
    by_cases hi : i < chs.length
    · have : chs.getD i [] = chs[i] := by simp [hi]
      rw [this]; exact h.l _ (List.getElem_mem hi)
    · rw [List.getD_eq_getElem?_getD, List.getElem?_eq_none (by omega)]; simp
  unfold mrgO
  rw [mrgR_len recs _ _ _ (Nat.le_refl _)]
  have := key (mrgI chs.length)
  have := key (chs.length - 1)
  omega
end Go.Proofs.Ytdcomhdadnhpnaa
