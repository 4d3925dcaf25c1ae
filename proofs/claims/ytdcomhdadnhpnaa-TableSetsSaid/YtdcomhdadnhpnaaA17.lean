/- The abstract machine: '==' of elements. -/
import Derived.Test.YtdcomhdadnhpnaaM9
import Derived.Test.YtdcomhdadnhpnaaA16
set_option linter.unusedSimpArgs false
set_option linter.unusedVariables false
namespace Go.Proofs.Ytdcomhdadnhpnaa
open Go Go.Am
/-- what stands for the one stands for the other -/
def Wk (a b : AV) : Prop := ∀ ρ O w v, Rep ρ O w a v → Rep ρ O w b v
theorem Wk.rfl' {a : AV} : Wk a a := fun _ _ _ _ h => h
theorem Wk.nil : Wk (.sc (.slice none 0 0)) (.dsl 0 []) := fun _ _ _ _ h => by cases h; exact .dnil (Nat.le_refl _)
theorem acall_pureW {P : Program} {ct : CT} {f : FuncId} {fn : Func} {c : Code} {args : List AV} {r : AV} (hm : P.follows .mixedOrders = true) (hct : CTok P ct) (hf : P.funcs[f]? = some fn) (hb : fn.body = some c) (hst : statC c = true)
    (h : ∀ (E : Ent) (s : Nat), (∀ n, s ≤ n → E.H n = none) → wA P E ct c (begA fn args) E.H s (EndA P fn fun r1 H1 => ∃ r', Wk r' r ∧ PureEnd E r' r1 H1)) : ACall P f args (.ret r) := by
  intro ρ H w vs hrel hr s r' H' s' hmm
  simp only [AP.run, Option.some.injEq, Prod.mk.injEq] at hmm
  obtain ⟨rfl, rfl, rfl⟩ := hmm
  obtain ⟨N, hN⟩ := hrel.fin
  refine (calls_of_awp (E := ⟨ρ, H, w⟩) hf hb hrel hr (wA_ok hm hct c hst (h ⟨ρ, H, w⟩ N hN))).mono ?_
  rintro e w' ⟨v, r1, H1, ρ1, rfl, ⟨r', hw, k1, k2⟩, hs, hrep⟩
  have k1' : ∀ n, H n ≠ none → H1 n = H n := k1
  have hF : Fin H H1 (fun _ => none) H := by
    refine ⟨fun n hn => ⟨hn, rfl⟩, fun n o' hn => .inl ⟨rfl, .inl ⟨hn, ?_⟩⟩, ?_, ?_, ⟨N, hN⟩⟩
    · rw [k1' n (by rw [hn]; simp)]; exact hn
    · intro a b n o o' h; cases h
    · intro s n o h; cases h
  obtain ⟨ρ', h1, h2⟩ := exit_gen hrel hs (fun _ => none) H hF
  exact ⟨v, ρ', rfl, h1, hw _ _ _ _ (h2 _ _ _ (by simpa using k2) hrep)⟩
theorem pureRun_underlying {P : Program} {t : TypeId} {d : TypeDesc} (h : P.underlying t = some d) : pureRun P (underlying t) = some d := by
  simp [underlying, pureRun_bind, pureRun, program, h]
  rfl
theorem pureRun_program {P : Program} : pureRun P program = some P := rfl
theorem pureRun_int {P : Program} {t : TypeId} {k k' : IntKind} {x y : Int} (d : Nat) (h : P.underlying t = some (.int k')) : pureRun P (Op.equalIn (d + 1) t (.int k x) (.int k y)) = some (x == y) := by
  simp [Op.equalIn, pureRun_bind, pureRun_underlying h, pureRun_pure]
theorem pureRun_part3 {xs : Array Value} {i : Nat} {v : Value} (h : xs[i]? = some v) : pureRun Try.prog (part 3 xs i) = some v := by
  simp [part, isAgg, pureRun_bind, pureRun_underlying Try.underlying3, pureRun_pure, h]
theorem pr_eq43 (a b c d : Int) : pureRun Try.prog (Op.equalIn (9998 + 1 + 1) 43 (.agg #[.int .i64 a, .int .i64 b]) (.agg #[.int .i64 c, .int .i64 d])) = some (decide (a = c ∧ b = d)) := by
  rw [Op.equalIn]
  have hp : Try.prog.stoodInHeld 43 = false := by kernel_rfl
  simp only [pureRun_bind, pureRun_underlying Try.underlying43, Option.bind_some, pureRun_program, hp, Bool.false_eq_true, if_false]
  rw [← Array.forIn_toList]
  simp only [List.forIn_cons, List.forIn_nil, pureRun_bind]
  rw [if_pos (by decide), if_pos (by decide)]
  simp only [pureRun_bind]
  rw [pureRun_part3 (v := .int .i64 a) rfl, pureRun_part3 (v := .int .i64 c) rfl]
  simp only [Option.bind_some, pureRun_int _ Try.underlying3]
  by_cases e : a = c
  · subst e
    simp only [beq_self_eq_true, Bool.not_true, Bool.false_eq_true, if_false, pureRun_pure, Option.bind_some]
    simp only [pureRun_bind]
    rw [pureRun_part3 (v := .int .i64 b) rfl, pureRun_part3 (v := .int .i64 d) rfl]
    simp only [Option.bind_some, pureRun_int _ Try.underlying3]
    by_cases e2 : b = d
    · subst e2; simp [pureRun_pure]
    · simp [pureRun_pure, e2]
  · simp [pureRun_pure, e]
theorem pureRun_map {α β : Type} {P : Program} (f : α → β) (e : Sem α) : pureRun P (f <$> e) = (pureRun P e).map f := by
  show pureRun P (e >>= fun a => pure (f a)) = _
  rw [pureRun_bind]
  cases pureRun P e <;> rfl
theorem pr_eq43' (a b c d : Int) : pureRun Try.prog (Op.equalIn 10000 43 (.agg #[.int .i64 a, .int .i64 b]) (.agg #[.int .i64 c, .int .i64 d])) = some (decide (a = c ∧ b = d)) := pr_eq43 a b c d
theorem bin_eql43 {xo yo : Operand} {a b c d : Int} : aBin Try.prog .eql 43 xo yo (.agg [.sc (.int .i64 a), .sc (.int .i64 b)]) (.agg [.sc (.int .i64 c), .sc (.int .i64 d)]) = .ret (.sc (.bool (decide (a = c ∧ b = d)))) := by
  have hp : Try.prog.eqGuardType Try.prog.depth 43 = false := by kernel_rfl
  have h1 : ∀ l fs, nonNil (.struct fs) (.agg l) = false := fun l fs => rfl
  simp [aBin, isEqOp, aG2, AV.val?, valL?, eqGuard, pureRun_bind, pureRun_program, hp, binOp, Op.equal, Op.maxDepth, pureRun_pure, pureRun_map, pr_eq43', AP.ofOption, Try.underlying43, h1]
theorem bin_neq43 {xo yo : Operand} {a b c d : Int} : aBin Try.prog .neq 43 xo yo (.agg [.sc (.int .i64 a), .sc (.int .i64 b)]) (.agg [.sc (.int .i64 c), .sc (.int .i64 d)]) = .ret (.sc (.bool (!(decide (a = c ∧ b = d))))) := by
  have hp : Try.prog.eqGuardType Try.prog.depth 43 = false := by kernel_rfl
  have h1 : ∀ l fs, nonNil (.struct fs) (.agg l) = false := fun l fs => rfl
  simp [aBin, isEqOp, aG2, AV.val?, valL?, eqGuard, pureRun_bind, pureRun_program, hp, binOp, Op.equal, Op.maxDepth, pureRun_pure, pureRun_map, pr_eq43', AP.ofOption, Try.underlying43, h1]
end Go.Proofs.Ytdcomhdadnhpnaa
