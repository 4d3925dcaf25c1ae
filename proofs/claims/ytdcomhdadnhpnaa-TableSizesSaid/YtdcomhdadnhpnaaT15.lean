/- (t) valid: whether a list of words is a table. -/
import Derived.Test.YtdcomhdadnhpnaaT14
import Derived.Test.YtdcomhdadnhpnaaT9
import Derived.Defers
namespace Go.Proofs.Ytdcomhdadnhpnaa
open Go.RowKit

theorem wpStill_off {P : Program} {ops : Array Oper} {w : World} {Q : Act → Prop} {o : Oper} {rest : List Oper} {a : Act} (hw : Region.wanted o (yielded ops a.tmps) = false) (h : wpStill P ops w Q rest (a.put o.dst undef)) : wpStill P ops w Q (o :: rest) a := by
  show (if _ then _ else _)
  rw [if_neg (by rw [hw]; simp)]
  exact h
/-- a list of numbers that is read -/
structure RdL (w : World) (A : Option Addr) (l : List Int) : Prop where
  at_ : 0 < l.length → ∃ b off, A = some ⟨b, off, none⟩ ∧ b < w.heap.size ∧ ∀ i, i < l.length → w.cell? ⟨b, off + i, none⟩ = some (.int .i64 (ati l i))
theorem RdL.below {w w' : World} {A : Option Addr} {l : List Int} (h : RdL w A l) (hb : Below w.heap.size w w') : RdL w' A l :=
  ⟨fun h0 => by obtain ⟨b, off, e, hl, hc⟩ := h.at_ h0; exact ⟨b, off, e, Nat.lt_of_lt_of_le hl hb.size, fun i hi => (hb.cell (p := ⟨b, off + i, none⟩) hl).trans (hc i hi)⟩⟩

/-- the chains of the first k buckets are looked at -/
def ckAll (l : List Int) (n bk : Nat) : Nat → Option (List Bool)
  | 0 => some (List.replicate n false)
  | k + 1 => (ckAll l n bk k).bind fun s => ckC l bk k (headAt k) s [] 0

/-- what valid asks of a list of words -/
structure ValidL (l : List Int) : Prop where
  l4 : 4 ≤ l.length
  n0 : 0 ≤ ati l 0
  n1 : ati l 0 ≤ 100000
  len : l.length = wlen (ati l 0).toNat
  b1 : ati l 1 = bkts (ati l 0).toNat
  b2 : ati l 2 = pow2 (bkts (ati l 0).toNat)
  b3 : ati l 3 = 0
  hash : ∀ r, r < (ati l 0).toNat → 0 ≤ ati l (recAt r) ∧ ati l (recAt r) ≤ 2147483647
  chains : ∃ s, ckAll l (ati l 0).toNat (bkts (ati l 0).toNat) (bkts (ati l 0).toNat) = some s ∧ false ∉ s
  resth : RestH l (bkts (ati l 0).toNat) ((l.length - 4) / 56)
  restr : RestR l (ati l 0).toNat ((l.length - 4) / 56)

/-- the first words -/
structure HeadOk (l : List Int) (n : Nat) : Prop where
  n0 : ati l 0 = (n : Int)
  n1 : n ≤ 100000
  len : l.length = wlen n
  b1 : ati l 1 = bkts n
  b2 : ati l 2 = (pow2 (bkts n) : Nat)
  b3 : ati l 3 = 0
theorem ValidL.head {l : List Int} (h : ValidL l) : HeadOk l (ati l 0).toNat := ⟨by have := h.n0; omega, by have := h.n1; omega, h.len, h.b1, h.b2, h.b3⟩
theorem bkts_stripes (n : Nat) : bkts n ≤ max 1 ((n + 15) / 16) * 8 := by unfold bkts; split <;> omega
theorem recs_stripes (n : Nat) : n ≤ max 1 ((n + 15) / 16) * 16 := by omega
theorem headAt_wlen {n k : Nat} (h : k < bkts n) : headAt k < wlen n := headAt_lt (Nat.lt_of_lt_of_le h (bkts_stripes n))
theorem recAt_wlen {n r : Nat} (h : r < n) : recAt r + 2 < wlen n := recAt_lt (Nat.lt_of_lt_of_le h (recs_stripes n))
theorem ckC_len {l : List Int} {bk i q : Nat} {seen : List Bool} {had : List (Int × Int)} {last : Int} {s : List Bool} (h : ckC l bk i q seen had last = some s) : s.length = seen.length := by
  fun_induction ckC l bk i q seen had last with
  | case1 => cases h; rfl
  | case2 _ _ _ _ _ _ _ ih => rw [ih h, List.length_set]
  | case3 => cases h
  | case4 => cases h
theorem ckAll_len {l : List Int} {n bk : Nat} : ∀ {k : Nat} {s : List Bool}, ckAll l n bk k = some s → s.length = n
  | 0, s, h => by cases h; simp
  | k + 1, s, h => by
    rw [ckAll] at h
    cases hk : ckAll l n bk k with
    | none => rw [hk] at h; cases h
    | some u => rw [hk] at h; exact (ckC_len h).trans (ckAll_len hk)
theorem ckAll_none {l : List Int} {n bk k : Nat} (h : ckAll l n bk k = none) : ∀ m, k ≤ m → ckAll l n bk m = none
  | 0, hm => by obtain rfl : k = 0 := by omega
                exact h
  | m + 1, hm => by
    by_cases e : k = m + 1
    · rw [← e]; exact h
    · rw [ckAll, ckAll_none h m (by omega)]; rfl
theorem info4 : (Try.prog.info? 4).map (fun i => (i.zero, i.size, i.bytes)) = some (some (.bool false), 1, 1) := by kernel_rfl
theorem made_bools (n : Nat) : madeCells (Value.bool false).cells (n * 1) = ((List.replicate n false).map Value.bool).toArray := by
  unfold madeCells
  apply Array.ext
  · simp [Value.cells]
  · intro i h1 h2
    simp [Value.cells, Nat.mod_one]
theorem make_bools (n : Nat) (hn : n ≤ 1000000) (w : World) : (Instr.makeSlice 133 (.int .i64 n) (.int .i64 n)).run Try.prog w = .ok (.slice (some ⟨w.heap.size, 0, none⟩) n n) (w.alloc (.cells ((List.replicate n false).map Value.bool).toArray 4)) := by
  obtain ⟨i0, hinf, hz0, hz1, hz2⟩ := info_parts info4
  have h := run_makeSlice (P := Try.prog) w 133 4 i0 (.bool false) (by kernel_rfl) hinf hz0 .i64 .i64 n n (by omega) (Int.le_refl _) (by rw [hz1]; simp; omega) (by rw [hz2]; simp; omega) (by omega)
  rw [hz1, Int.toNat_natCast, made_bools] at h
  exact h
theorem valid_fail {R : Ending → World → Prop} {W : World} {tmps : Array Value} {p : Nat} {v : Bool} (ht : tmps.getD 2 undef = .pointer (some ⟨p, 0, none⟩)) (hB : Boxed W p 4 (.bool v))
    (hR : R (.returned (.bool false)) ((W.alloc (.cells #[] 131)).setCell ⟨p, 0, none⟩ (.bool false))) :
    bodyPostD Try.prog Try.f97 R (Exit.panic [{ v := .iface 131 (.agg #[]), recovered := false }]) { tmps := tmps, defers := [{ target := .fn (.func 108) #[.pointer (some ⟨p, 0, none⟩)], args := #[] }] } W := by
  have e1 := ((hB.alloc (.cells #[] 131)).set (.bool false)).cell
  refine leaves_cons (f := 108) (args := #[.pointer (some ⟨p, 0, none⟩)]) (by simp) (by simp [go_sem]) ?_
  refine (catch_panicking p v [] _ hB).mono ?_
  rintro e u' w'' ⟨rfl, rfl, rfl⟩
  have ht' : tmps[2]?.getD undef = .pointer (some ⟨p, 0, none⟩) := by simpa using ht
  simpa [Leaves, settle, results, Try.results97, go_sem, ht', e1] using hR
end Go.Proofs.Ytdcomhdadnhpnaa
