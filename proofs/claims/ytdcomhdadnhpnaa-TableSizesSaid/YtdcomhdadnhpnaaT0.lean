/- What is said of a table of words in memory: read (TblR), and the call's own (Tb); what a step leaves as it was (Fr). -/
import Derived.Test.YtdcomhdadnhpnaaProg
import Derived.Below
import Derived.WalkKit
import Derived.KernelRfl
import Derived.Handy
import Derived.Deep.LoopGhost
import Derived.Recover
import Derived.Deep.QuietTactic
import Derived.BigQuiet
import Derived.RegionTactic
import Derived.Deep.RegionWith
import Derived.Deep.RegionHeld3
import Derived.Laws.NewBlocks
import Derived.Lib.Hide
namespace Go.Proofs.Ytdcomhdadnhpnaa
open Go.RowKit

/-- an element of a list of numbers -/
def ati (l : List Int) (i : Nat) : Int := l.getD i 0
def bkts (n : Nat) : Nat := if n ≤ 16 then 8 else (n + 1) / 2
def wlen (n : Nat) : Nat := 4 + 56 * max 1 ((n + 15) / 16)
def pow2 (b : Nat) : Nat := 2 ^ Nat.log2 b
def bkt (h b : Nat) : Nat := if h % (2 * pow2 b) < b then h % (2 * pow2 b) else h % pow2 b
def headAt (i : Nat) : Nat := 4 + 56 * (i / 8) + i % 8
def recAt (r : Nat) : Nat := 4 + 56 * (r / 16) + 8 + 3 * (r % 16)

theorem ret_int {k : IntKind} {a b : Int} (h : a = b) : Ending.returned (.int k a) = .returned (.int k b) := by rw [h]
theorem lt_cell {w : World} {b o : Nat} {v : Value} (h : w.cell? ⟨b, o, none⟩ = some v) : b < w.heap.size := World.block_lt_of_cell? w ⟨b, o, none⟩ h
theorem lt_heap {w : World} {b : Nat} {o : Obj} (h : w.heap[b]? = some o) : b < w.heap.size := (Array.getElem?_eq_some_iff.1 h).1

structure TblR (w : World) (p b off cap : Nat) (l : List Int) : Prop where
  head : w.cell? ⟨p, 0, none⟩ = some (.slice (some ⟨b, off, none⟩) l.length cap)
  cells : ∀ i, i < l.length → w.cell? ⟨b, off + i, none⟩ = some (.int .i64 (ati l i))
  lt : b < w.heap.size

theorem TblR.below {w w' : World} {p b off cap : Nat} {l : List Int} (h : TblR w p b off cap l) (hb : Below w.heap.size w w') : TblR w' p b off cap l :=
  ⟨(hb.cell (p := ⟨p, 0, none⟩) (lt_cell h.head)).trans h.head, fun i hi => (hb.cell (p := ⟨b, off + i, none⟩) h.lt).trans (h.cells i hi), Nat.lt_of_lt_of_le h.lt hb.size⟩
theorem TblR.alloc {w : World} {p b off cap : Nat} {l : List Int} (h : TblR w p b off cap l) (o : Obj) : TblR (w.alloc o) p b off cap l := h.below ((Below.refl _ _).alloc (Nat.le_refl _) o)
theorem TblR.drew {w : World} {p b off cap : Nat} {l : List Int} (h : TblR w p b off cap l) : TblR w.drew p b off cap l := h.below (Below.refl _ _).drew

theorem bcell {W w1 : World} (hb : Below W.heap.size W w1) : (∀ b o, b < W.heap.size → w1.cell? ⟨b, o, none⟩ = W.cell? ⟨b, o, none⟩) ∧ (∀ b o, b < W.heap.size → w1.frozen? ⟨b, o, none⟩ = W.frozen? ⟨b, o, none⟩) :=
  ⟨fun b o h => hb.cell (p := ⟨b, o, none⟩) h, fun b o h => hb.frozen (p := ⟨b, o, none⟩) h⟩
theorem cell_below {W w1 : World} (hb : Below W.heap.size W w1) {b o : Nat} {v : Value} (h : W.cell? ⟨b, o, none⟩ = some v) : w1.cell? ⟨b, o, none⟩ = some v := (hb.cell (p := ⟨b, o, none⟩) (lt_cell h)).trans h
theorem frz_below {W w1 : World} (hb : Below W.heap.size W w1) {b o : Nat} (hl : b < W.heap.size) (h : W.frozen? ⟨b, o, none⟩ = false) : w1.frozen? ⟨b, o, none⟩ = false := (hb.frozen (p := ⟨b, o, none⟩) hl).trans h
theorem below_drewN {B n : Nat} {a w : World} (h : Below B a w) : Below B a (w.drewN n) := ⟨h.os, h.tape, h.output, h.size, h.block⟩

/-- Nothing has turned but blocks p and B, and what is new. -/
structure Fr (p B : Nat) (w w' : World) : Prop where
  os : w'.os = w.os
  tape : w'.tape = w.tape
  output : w'.output = w.output
  size : w.heap.size ≤ w'.heap.size
  block : ∀ k, k < w.heap.size → k ≠ p → k ≠ B → w'.heap[k]? = w.heap[k]?
theorem Fr.refl (p B : Nat) (w : World) : Fr p B w w := ⟨rfl, rfl, rfl, Nat.le_refl _, fun _ _ _ _ => rfl⟩
theorem Fr.of_below {p B : Nat} {w w' : World} (h : Below w.heap.size w w') : Fr p B w w' := ⟨h.os, h.tape, h.output, h.size, fun k hk _ _ => h.block k hk⟩
theorem Fr.trans {p B : Nat} {a b c : World} (h : Fr p B a b) (k : Fr p B b c) : Fr p B a c :=
  ⟨k.os.trans h.os, k.tape.trans h.tape, k.output.trans h.output, Nat.le_trans h.size k.size, fun i hi h1 h2 => (k.block i (Nat.lt_of_lt_of_le hi h.size) h1 h2).trans (h.block i hi h1 h2)⟩
/-- behind a step that has laid the words anew -/
theorem Fr.trans' {p B B' : Nat} {a b c : World} (h : Fr p B a b) (k : Fr p B' b c) (hB : B' = B ∨ a.heap.size ≤ B') : Fr p B a c :=
  ⟨k.os.trans h.os, k.tape.trans h.tape, k.output.trans h.output, Nat.le_trans h.size k.size, fun i hi h1 h2 => (k.block i (Nat.lt_of_lt_of_le hi h.size) h1 (by rcases hB with rfl | hB <;> omega)).trans (h.block i hi h1 h2)⟩
theorem Fr.below {p B b : Nat} {w w' : World} (h : Fr p B w w') (hw : b ≤ w.heap.size) (hp : b ≤ p) (hB : b ≤ B) : Below b w w' :=
  ⟨h.os, h.tape, h.output, h.size, fun k hk => h.block k (by omega) (by omega) (by omega)⟩
theorem Fr.drew {p B : Nat} {a w : World} (h : Fr p B a w) : Fr p B a w.drew := ⟨h.os, h.tape, h.output, h.size, h.block⟩
theorem Fr.drewN {p B n : Nat} {a w : World} (h : Fr p B a w) : Fr p B a (w.drewN n) := ⟨h.os, h.tape, h.output, h.size, h.block⟩
theorem Fr.alloc {p B : Nat} {a w : World} (h : Fr p B a w) (o : Obj) : Fr p B a (w.alloc o) := h.trans (Fr.of_below ((Below.refl _ _).alloc (Nat.le_refl _) o))
theorem Fr.setCell {p B : Nat} {a w : World} (h : Fr p B a w) {c : Addr} (hc : c.block = p ∨ c.block = B ∨ a.heap.size ≤ c.block) (u : Value) : Fr p B a (w.setCell c u) :=
  ⟨h.os, h.tape, h.output, by simpa [World.setCell] using h.size, fun k hk h1 h2 =>
    (Below.heap_setCell w c u k (by rintro rfl; rcases hc with hc | hc | hc <;> omega)).trans (h.block k hk h1 h2)⟩

/-- A table of the call's own: block p holds the slice, block B its words. -/
structure Tb (base : Nat) (w : World) (p B cap : Nat) (l : List Int) : Prop where
  pb : base ≤ p
  bb : base ≤ B
  ne : p ≠ B
  hp : w.heap[p]? = some (.cells #[.slice (some ⟨B, 0, none⟩) l.length cap] 91 (0, 0))
  row : ∃ cur, w.heap[B]? = some (.cells cur 3 (0, 0)) ∧ cur.size = cap ∧ cur.toList.take l.length = l.map (Value.int .i64)
  le : l.length ≤ cap
  capm : cap ≤ maxLen

theorem cell_of_heap {w : World} {b i : Nat} {cs : Array Value} {t : TypeId} {f : Nat × Nat} (h : w.heap[b]? = some (.cells cs t f)) : w.cell? ⟨b, i, none⟩ = cs[i]? := by
  simp [World.cell?, h]
theorem frozen_of_heap {w : World} {b i : Nat} {cs : Array Value} {t : TypeId} (h : w.heap[b]? = some (.cells cs t (0, 0))) : w.frozen? ⟨b, i, none⟩ = false := by
  simp [World.frozen?, h]
section
variable {base : Nat} {w w' : World} {p B cap : Nat} {l : List Int}
theorem Tb.ltp (h : Tb base w p B cap l) : p < w.heap.size := lt_heap h.hp
theorem Tb.ltB (h : Tb base w p B cap l) : B < w.heap.size := by obtain ⟨_, hh, _⟩ := h.row; exact lt_heap hh
theorem Tb.head (h : Tb base w p B cap l) : w.cell? ⟨p, 0, none⟩ = some (.slice (some ⟨B, 0, none⟩) l.length cap) := (cell_of_heap h.hp).trans rfl
theorem Tb.frzp (h : Tb base w p B cap l) : w.frozen? ⟨p, 0, none⟩ = false := frozen_of_heap h.hp
theorem Tb.frz (h : Tb base w p B cap l) (i : Nat) : w.frozen? ⟨B, i, none⟩ = false := by obtain ⟨_, hh, _⟩ := h.row; exact frozen_of_heap hh
theorem Tb.cell (h : Tb base w p B cap l) (i : Nat) (hi : i < l.length) : w.cell? ⟨B, i, none⟩ = some (.int .i64 (ati l i)) := by
  obtain ⟨cur, hh, hs, ht⟩ := h.row
  rw [cell_of_heap hh]
  have h1 : (cur.toList.take l.length)[i]? = (l.map (Value.int .i64))[i]? := by rw [ht]
  rw [List.getElem?_take, if_pos hi] at h1
  rw [← Array.getElem?_toList, h1, List.getElem?_map, List.getElem?_eq_getElem hi]
  simp [ati, hi]
theorem Tb.r (h : Tb base w p B cap l) : TblR w p B 0 cap l := ⟨h.head, fun i hi => by rw [Nat.zero_add]; exact h.cell i hi, h.ltB⟩
theorem Tb.fr {p' B' : Nat} (h : Tb base w p B cap l) (hf : Fr p' B' w w') (h1 : p ≠ p') (h2 : p ≠ B') (h3 : B ≠ p') (h4 : B ≠ B') : Tb base w' p B cap l :=
  ⟨h.pb, h.bb, h.ne, (hf.block p h.ltp h1 h2).trans h.hp, by obtain ⟨cur, hh, r⟩ := h.row; exact ⟨cur, (hf.block B h.ltB h3 h4).trans hh, r⟩, h.le, h.capm⟩
theorem Tb.below (h : Tb base w p B cap l) (hb : Below w.heap.size w w') : Tb base w' p B cap l :=
  ⟨h.pb, h.bb, h.ne, (hb.block p h.ltp).trans h.hp, by obtain ⟨cur, hh, r⟩ := h.row; exact ⟨cur, (hb.block B h.ltB).trans hh, r⟩, h.le, h.capm⟩
theorem Tb.alloc (h : Tb base w p B cap l) (o : Obj) : Tb base (w.alloc o) p B cap l := h.below ((Below.refl _ _).alloc (Nat.le_refl _) o)
theorem Tb.drew (h : Tb base w p B cap l) : Tb base w.drew p B cap l := h.below (Below.refl _ _).drew
theorem Tb.drewN {n : Nat} (h : Tb base w p B cap l) : Tb base (w.drewN n) p B cap l := h.below (below_drewN (Below.refl _ _))
theorem Tb.other (h : Tb base w p B cap l) {c : Addr} (u : Value) (h1 : c.block ≠ p) (h2 : c.block ≠ B) : Tb base (w.setCell c u) p B cap l :=
  ⟨h.pb, h.bb, h.ne, (Below.heap_setCell _ _ _ _ (by omega)).trans h.hp, by obtain ⟨cur, hh, r⟩ := h.row; exact ⟨cur, (Below.heap_setCell _ _ _ _ (by omega)).trans hh, r⟩, h.le, h.capm⟩
theorem Tb.set (h : Tb base w p B cap l) (i : Nat) (v : Int) : Tb base (w.setCell ⟨B, i, none⟩ (.int .i64 v)) p B cap (l.set i v) := by
  obtain ⟨cur, hh, hs, ht⟩ := h.row
  refine ⟨h.pb, h.bb, h.ne, ?_, ⟨cur.setIfInBounds i (.int .i64 v), ?_, by simpa using hs, ?_⟩, by simpa using h.le, h.capm⟩
  · rw [Below.heap_setCell _ _ _ _ h.ne, List.length_set]; exact h.hp
  · simp [World.setCell, Array.getElem?_modify, hh]
  · rw [List.length_set, Array.toList_setIfInBounds, List.take_set, ht, List.map_set]
theorem Tb.fr_set (_h : Tb base w p B cap l) (i : Nat) (v : Value) : Fr p B w (w.setCell ⟨B, i, none⟩ v) := (Fr.refl p B w).setCell (.inr (.inl rfl)) v
end
end Go.Proofs.Ytdcomhdadnhpnaa
