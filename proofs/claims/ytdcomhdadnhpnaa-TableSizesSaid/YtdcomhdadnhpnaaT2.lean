/- A range over the chain of a bucket hands on its records, and the index of the word that leads to each. -/
import Derived.Test.YtdcomhdadnhpnaaT1
import Derived.RangeFuncNested
import Derived.RangeFuncBound
import Derived.RangeFuncCalls
import Derived.RangeFuncLeaves
import Derived.Shelf.Abstract
import Derived.Shelf.RegionOpen
import Derived.OwnWalkIn
import Derived.TacticsInMore
import Derived.LoopNIn
import Derived.LoopIn
import Derived.Outline
namespace Go.Proofs.Ytdcomhdadnhpnaa
open Go.RowKit Go.Shelf
attribute [local go_sem] Oper.semAt_some

/-- Cells of the blocks of s lie as they lay. -/
def Keep (s : Nat → Prop) (A B : World) : Prop := ∀ k o, s k → A.heap[k]? = some o → o.isCells = true → B.heap[k]? = some o
theorem Keep.trans {s : Nat → Prop} {A B C : World} (h : Keep s A B) (k : Keep s B C) : Keep s A C := fun i o hs hi ho => k i o hs (h i o hs hi ho) ho
theorem Keep.putObj {s : Nat → Prop} (W : World) (l : Nat) (o o' : Obj) (h : W.heap[l]? = some o) (hc : o.isCells = false) : Keep s W (W.putObj l o') := fun k o1 _ hk ho => by
  have hne : k ≠ l := by rintro rfl; rw [h] at hk; cases hk; rw [hc] at ho; cases ho
  exact (World.putObj_heap_other hne).trans hk
theorem isCells_of_cell {w : World} {b o : Nat} {v : Value} (h : w.cell? ⟨b, o, none⟩ = some v) : ∃ c t f, w.heap[b]? = some (.cells c t f) := by
  unfold World.cell? at h
  split at h
  · rename_i c t f hh; exact ⟨c, t, f, hh⟩
  · cases h
theorem Keep.cell {s : Nat → Prop} {A B : World} (h : Keep s A B) {b o : Nat} {v : Value} (hs : s b) (hc : A.cell? ⟨b, o, none⟩ = some v) : B.cell? ⟨b, o, none⟩ = some v := by
  obtain ⟨c, t, f, hh⟩ := isCells_of_cell hc
  have := h b _ hs hh rfl
  rw [cell_of_heap this]; rw [cell_of_heap hh] at hc; exact hc
theorem TblR.keep {s : Nat → Prop} {A B : World} {p b off cap : Nat} {l : List Int} (h : TblR A p b off cap l) (hk : Keep s A B) (hp : s p) (hb : s b) (h0 : 0 < l.length) : TblR B p b off cap l := by
  refine ⟨hk.cell hp h.head, fun i hi => hk.cell hb (h.cells i hi), lt_cell (hk.cell hb (h.cells 0 h0))⟩

/-- The chain that begins with the word at an index. -/
inductive Chn (l : List Int) : Nat → List (Nat × Nat) → Prop
  | nil (f : Nat) (hf : f < l.length) (h : ati l f = 0) : Chn l f []
  | cons (f r : Nat) (rest : List (Nat × Nat)) (hf : f < l.length) (h : ati l f = (r : Int) + 1) (hr : r ≤ 100000) (k : Chn l (recAt r + 2) rest) : Chn l f ((r, f) :: rest)

theorem Chn.uniq {l : List Int} {f : Nat} {c d : List (Nat × Nat)} (h : Chn l f c) (k : Chn l f d) : c = d := by
  induction h generalizing d with
  | nil f hf h =>
    cases k with
    | nil => rfl
    | cons _ r rest _ h' _ _ => omega
  | cons f r rest hf h hr k ih =>
    cases k with
    | nil _ _ h' => omega
    | cons _ r' rest' _ h' _ k' =>
      obtain rfl : r = r' := by omega
      rw [ih k']
open Classical in
noncomputable def chnLen (l : List Int) (f : Nat) : Nat := if h : ∃ c, Chn l f c then h.choose.length else 0
theorem Chn.len {l : List Int} {f : Nat} {c : List (Nat × Nat)} (h : Chn l f c) : chnLen l f = c.length := by
  unfold chnLen
  have hx : ∃ c, Chn l f c := ⟨c, h⟩
  rw [dif_pos hx, Chn.uniq hx.choose_spec h]

def encRF (x : Nat × Nat) : Array Value := #[.int .i64 (x.1 : Nat), .int .i64 (x.2 : Nat)]

/-- the iterator's own blocks -/
def ownC (p b bt bi : Nat) (k : Nat) : Prop := k = p ∨ k = b ∨ k = bt ∨ k = bi

set_option maxHeartbeats 1600000 in
theorem chain1_in {α : Type} (g : α → Nat × Nat) (n : Nat) (hn : 1 ≤ n) (L p b off cap bt bi i : Nat) (l : List Int) (ch : List α) (hi : i ≤ 1000000) (hl : l.length ≤ 100000000) (h4 : 4 ≤ l.length)
    (J Jx : List α → World → Prop)
    (hY : ∀ pre x W, J pre W → pre.length < ch.length → YieldAt Fence.wide (n - 1) Try.prog L (encRF (g x)) W fun e W' =>
      (e = .returned (.bool true) ∧ J (pre ++ [x]) W' ∧ Keep (ownC p b bt bi) W W') ∨ (e = .returned (.bool false) ∧ Jx (pre ++ [x]) W'))
    (W : World) (hT : TblR W p b off cap l) (hbt : W.cell? ⟨bt, 0, none⟩ = some (.pointer (some ⟨p, 0, none⟩))) (hbi : W.cell? ⟨bi, 0, none⟩ = some (.int .i64 i)) (hch : Chn l (headAt i) (ch.map g)) (h0 : J [] W) :
    CallsIn Fence.wide n Try.prog 102 #[.func (.yield L) #[] #[], .pointer (some ⟨bi, 0, none⟩), .pointer (some ⟨bt, 0, none⟩)] W fun e W' => (∃ v, e = .returned v) ∧
      ((∃ ys, ys = ch ∧ J ys W') ∨ (∃ pre, pre <+: ch ∧ Jx pre W')) := by
  refine callsIn_of_wp Try.func102 rfl trivial ?_ rfl
  simp only [Try.ntmps102, List.size_toArray, List.length_cons, List.length_nil, Nat.reduceAdd, Nat.reduceSub, Array.replicate_succ, Array.replicate_zero, List.push_toArray, List.append_toArray, List.nil_append, List.cons_append]
  gi_wp2_with fail
  refine ⟨trivial, ?_⟩
  refine (callsIn_wide.2 (headAt_any i W (by omega) (by omega))).mono ?_
  rintro e w1 ⟨rfl, rfl⟩
  rw [Int.toNat_natCast]
  gi_wp2_with fail
  gi_loopw [4] (fun f wr => ∃ (pre rest : List α) (q : Nat), f = .int .i64 (q : Nat) ∧ Hid (ch = pre ++ rest) ∧ Chn l q (rest.map g) ∧ J pre wr ∧ TblR wr p b off cap l ∧ wr.cell? ⟨bt, 0, none⟩ = some (.pointer (some ⟨p, 0, none⟩)) ∧ wr.cell? ⟨bi, 0, none⟩ = some (.int .i64 i))
    (fun f _ => chnLen l (intOf f).toNat)
  case atStart => exact ⟨[], ch, headAt i, rfl, rfl, hch, h0, hT, hbt, hbi⟩
  case round =>
    obtain ⟨pre, rest, q, rfl, hx, hc, hJ, hTr, hbt', hbi'⟩ := hrel
    have hp := hTr.head
    cases rest with
    | nil =>
      obtain ⟨hf, hz⟩ : q < l.length ∧ ati l q = 0 := by cases hc with | nil _ hf hz => exact ⟨hf, hz⟩
      have hcq := hTr.cells q hf
      rw [hz] at hcq
      clear hbt hbi hT hz
      gi_wp2
      go_end0
      exact ⟨⟨_, rfl⟩, .inl ⟨pre, by rw [hx.out, List.append_nil], hJ⟩⟩
    | cons y rest' =>
      rw [List.map_cons] at hc
      have hcc := hc
      obtain ⟨r, hgy, hf, hv, hr, hk⟩ : ∃ r, g y = (r, q) ∧ q < l.length ∧ ati l q = (r : Int) + 1 ∧ r ≤ 100000 ∧ Chn l (recAt r + 2) (rest'.map g) := by
        generalize g y = z at hc
        cases hc with | cons _ r _ hf hv hr hk => exact ⟨r, rfl, hf, hv, hr, hk⟩
      have hcq := hTr.cells q hf
      rw [hv] at hcq
      clear hbt hbi hT hc
      obtain ⟨fn, tmps, assign, body, hy, hR⟩ := hY pre y wr hJ (by rw [hx.out]; simp)
      rw [hgy] at hy
      have HG := Lib.hid hgy
      have HV := Lib.hid hv
      clear hgy hv
      dsimp only [encRF] at hy
      gi_wp2
      refine hR.mono ?_
      rintro e W3 (⟨rfl, hJ3, hk3⟩ | ⟨rfl, hJx3⟩)
      · have hT3 := hTr.keep hk3 (.inl rfl) (.inr (.inl rfl)) (by omega)
        have hp3 := hT3.head
        have hc3 := hT3.cells q hf
        rw [HV.out] at hc3
        have hbt3 := hk3.cell (.inr (.inr (.inl rfl))) hbt'
        have hbi3 := hk3.cell (.inr (.inr (.inr rfl))) hbi'
        clear hp hcq hbt' hbi' hy
        gi_wp2_with fail
        refine ⟨trivial, ?_⟩
        refine (callsIn_wide.2 (recordAt_any r W3 (by omega) (by omega))).mono ?_
        rintro e w4 ⟨rfl, rfl⟩
        rw [Int.toNat_natCast]
        have hrr : recAt r ≤ 1000000 := by unfold recAt; omega
        gi_wp2
        go_roundw
        case rel => exact ⟨pre ++ [y], rest', recAt r + 2, by go_num, by show _ = _; rw [hx.out]; simp, hk, hJ3, hT3, hbt3, hbi3⟩
        case measure =>
          have hq := hcc.len
          simp only [intOf]
          rw [show ((recAt r : Nat) + 2 : Int).toNat = recAt r + 2 by omega, Int.toNat_natCast, hk.len, hq]
          simp
      · gi_wp2
        refine bodyPost_ret (results_none rfl _ _ _) rfl ?_
        exact ⟨⟨_, rfl⟩, .inr ⟨pre ++ [y], ⟨rest', by rw [hx.out]; simp⟩, hJx3⟩⟩

theorem chain_any (p i : Nat) (w : World) :
    Calls Try.prog 72 #[.pointer (some ⟨p, 0, none⟩), .int .i64 i] w fun e w' => e = .returned (.func (.func 102) #[] #[.pointer (some ⟨w.heap.size + 1, 0, none⟩), .pointer (some ⟨w.heap.size, 0, none⟩)]) ∧ w' = (w.alloc (.cells #[.pointer (some ⟨p, 0, none⟩)] 92)).alloc (.cells #[.int .i64 i] 3) := by
  have hmf : ∀ (fn : Fn) (first cap : Array Value) (w : World), (Instr.makeFunc fn first cap).run Try.prog w = .ok (.func fn first cap) w := fun _ _ _ _ => rfl
  go_enter Try.func72, Try.ntmps72
  go_wp2
  go_ret
  exact ⟨rfl, rfl⟩

/-- THE ITERATOR's CONTRACT: the chain's records, and what leads to each. -/
theorem chain_stops {α : Type} (g : α → Nat × Nat) (n : Nat) (hn : 1 ≤ n) (p b off cap bt bi i : Nat) (l : List Int) (ch : List α) (hi : i ≤ 1000000) (hl : l.length ≤ 100000000) (h4 : 4 ≤ l.length) (w : World)
    (hT : TblR w p b off cap l) (hbt : w.cell? ⟨bt, 0, none⟩ = some (.pointer (some ⟨p, 0, none⟩))) (hbi : w.cell? ⟨bi, 0, none⟩ = some (.int .i64 i)) (hch : Chn l (headAt i) (ch.map g)) :
    SeqStopsK Fence.wide n Try.prog 102 #[.pointer (some ⟨bi, 0, none⟩), .pointer (some ⟨bt, 0, none⟩)] (fun x => encRF (g x)) (Keep (ownC p b bt bi)) (fun xs => xs = ch) (fun pre => pre <+: ch) ch.length w :=
  fun L J Jx W hW _ _ hY h0 => chain1_in g n hn L p b off cap bt bi i l ch hi hl h4 J Jx hY W (hT.below hW) (cell_below hW hbt) (cell_below hW hbi) hch h0

/-- a record of a table of n words, and what leads to it -/
abbrev RF (n : Nat) := { q : Nat × Nat // recAt q.1 + 2 < n ∧ q.1 ≤ 100000 }
def toRF (n : Nat) (ch : List (Nat × Nat)) (h : ∀ q ∈ ch, recAt q.1 + 2 < n ∧ q.1 ≤ 100000) : List (RF n) := ch.attach.map fun q => ⟨q.1, h q.1 q.2⟩
theorem toRF_map (n : Nat) (ch : List (Nat × Nat)) (h : ∀ q ∈ ch, recAt q.1 + 2 < n ∧ q.1 ≤ 100000) : (toRF n ch h).map Subtype.val = ch := by
  simp only [toRF, List.map_map, Function.comp_def]; exact List.attach_map_subtype_val ch
end Go.Proofs.Ytdcomhdadnhpnaa
