/- (t) find: the first record of the chain that holds an element. -/
import Derived.Test.YtdcomhdadnhpnaaT3
import Derived.StillTailTactics
import Derived.Sort.CutIn
import Derived.Test.YtdcomhdadnhpnaaWEqStruct
namespace Go.Proofs.Ytdcomhdadnhpnaa
open Go.RowKit Go.Shelf
attribute [local go_sem] Oper.semAt_some

section
open Go.Proofs.YtdcomhdadnhpnaaW.PrintWords
/-- two elements are equal if both parts are -/
theorem eqA43 (d : Nat) (w : World) (x0 y0 : Int) (x1 y1 : Int) :
    (Op.equalIn (d + 2) 43 (.agg #[.int .i64 x0, .int .i64 x1]) (.agg #[.int .i64 y0, .int .i64 y1])).run Try.prog w = .ok (x0 == y0 && (x1 == y1)) w := by
  refine eqA_of Try.underlying43 (by kernel_rfl) ?_
  refine eqf_cons (by rfl) (by go_simp; rfl) (by go_simp; rfl) (by go_simp) ?_
  exact eqf_last (by rfl) (by go_simp; rfl) (by go_simp; rfl) (by go_simp)
end
attribute [local go_sem high] eqA43

theorem region_still_tail {P : Program} {id : Nat} {Q : Exit → Act → World → Prop} {a : Act} {w : World} {l : List Oper} (n : Nat) (hm : P.follows .mixedOrders = true) (hB : Region.lexTailB .any l.toArray n = true)
    (h : ∀ w', w' = w.drew → wpStill P l.toArray w' (fun a' => wpList P l.toArray Q (l.drop n) a' w') (l.take n) a) : (Code.region id l.toArray true).wp P Q a w :=
  wp_region_still_tail n hm hB (h _ rfl)
/-- a region that only reads and calls quietly, and one last operation or more in a row -/
theorem region_still {P : Program} {id : Nat} {Q : Exit → Act → World → Prop} {a : Act} {w : World} {l : List Oper} (hm : P.follows .mixedOrders = true) (hB : Region.lexB .any l.toArray = true)
    (h : ∀ w', w' = w.drew → wpStill P l.toArray w' (fun a' => Q .normal a' w') l a) : (Code.region id l.toArray true).wp P Q a w :=
  wp_region_still_lit hm hB (h _ rfl)

/-- The blocks that a call has made, one behind the other. -/
structure Fresh (w0 : World) (n : Nat) (os : List Obj) (w : World) : Prop where
  size : w.heap.size = n + os.length
  blks : ∀ j o, os[j]? = some o → w.heap[n + j]? = some o
  below : Below n w0 w
theorem Fresh.start (w : World) : Fresh w w.heap.size [] w := ⟨by simp, fun j o h => by simp at h, Below.refl _ _⟩
theorem Fresh.alloc {w0 w : World} {n : Nat} {os : List Obj} (h : Fresh w0 n os w) (o : Obj) : Fresh w0 n (os ++ [o]) (w.alloc o) := by
  refine ⟨by rw [World.size_alloc, h.size]; simp; omega, fun j o' hj => ?_, h.below.alloc (by rw [h.size]; omega) o⟩
  rcases Nat.lt_trichotomy j os.length with hlt | heq | hgt
  · rw [Below.heap_alloc _ _ _ (by rw [h.size]; omega)]
    exact h.blks j o' (by rw [List.getElem?_append_left hlt] at hj; exact hj)
  · subst heq
    rw [← h.size]
    simp at hj
    subst hj
    exact World.alloc_heap_new w _
  · rw [List.getElem?_eq_none (by simp; omega)] at hj; cases hj
theorem Fresh.drew {w0 w : World} {n : Nat} {os : List Obj} (h : Fresh w0 n os w) : Fresh w0 n os w.drew := ⟨h.size, h.blks, h.below.drew⟩

/-- what find tells of a chain, k records having been looked at -/
def findC (l : List Int) (h x : Int) : List (Nat × Nat) → Nat → Int × Int × Int
  | [], k => (-1, 0, k)
  | (r, f) :: rest, k => if ati l (recAt r) = h ∧ ati l (recAt r + 1) = x then (r, f, (k : Int) + 1) else findC l h x rest (k + 1)

def hits (l : List Int) (h x : Int) (r : Nat) : Prop := ati l (recAt r) = h ∧ ati l (recAt r + 1) = x
theorem bkt_lt (h : Nat) {b : Nat} (hb : 0 < b) : bkt h b < b := by
  unfold bkt
  split
  · assumption
  · exact Nat.lt_of_lt_of_le (Nat.mod_lt _ (pow2_pos b)) (pow2_le (by omega))
theorem findC_none {l : List Int} {h x : Int} : ∀ (ch : List (Nat × Nat)) (k : Nat), (∀ q ∈ ch, ¬ hits l h x q.1) → findC l h x ch k = (-1, 0, ((k + ch.length : Nat) : Int))
  | [], k, _ => by simp [findC]
  | (r, f) :: rest, k, hn => by
    rw [findC, if_neg (show ¬ (_ ∧ _) from hn (r, f) (by simp)), findC_none rest (k + 1) (fun q hq => hn q (by simp [hq]))]
    simp; omega
theorem findC_some {l : List Int} {h x : Int} {r f : Nat} {rest : List (Nat × Nat)} (hr : hits l h x r) : ∀ (pre : List (Nat × Nat)) (k : Nat), (∀ q ∈ pre, ¬ hits l h x q.1) → findC l h x (pre ++ (r, f) :: rest) k = ((r : Int), (f : Int), ((k + pre.length + 1 : Nat) : Int))
  | [], k, _ => by rw [List.nil_append, findC, if_pos (show _ ∧ _ from hr)]; simp
  | (r', f') :: pre, k, hn => by
    rw [List.cons_append, findC, if_neg (show ¬ (_ ∧ _) from hn (r', f') (by simp)), findC_some hr pre (k + 1) (fun q hq => hn q (by simp [hq]))]
    simp; omega

theorem TblR.other {w : World} {p b off cap : Nat} {l : List Int} (h : TblR w p b off cap l) {c : Addr} (u : Value) (h1 : p ≠ c.block) (h2 : b ≠ c.block) : TblR (w.setCell c u) p b off cap l :=
  ⟨(World.cell?_of_block (a := ⟨p, 0, none⟩) (Below.heap_setCell w c u p h1)).trans h.head, fun i hi => (World.cell?_of_block (a := ⟨b, off + i, none⟩) (Below.heap_setCell w c u b h2)).trans (h.cells i hi), by simpa [World.setCell] using h.lt⟩
theorem keepsOthers_of_below {W V : World} (h : Below W.heap.size W V) : KeepsOthers W V := ⟨h.size, fun k _ hk _ => (h.block k (lt_heap hk)).trans hk⟩
theorem boxed_below {W V : World} {B : Nat} {t : TypeId} {v : Value} (hv : Boxed W B t v) (h : Below W.heap.size W V) : Boxed V B t v := (h.block B hv.lt).trans hv
theorem keep_of_own {W W' : World} {row : Option Nat} {B : Nat} (hg : W.grownBy W' row) (hr : ∀ r, row = some r → B ≤ r ∧ ∃ o : Obj, W.heap[r]? = some o ∧ o.isCells = false) : Keep (fun _ => True) W W' := fun k o _ hk ho => by
  rw [hg.block k (lt_heap hk) (fun e => by obtain ⟨_, o', h1, h2⟩ := hr k e.symm; rw [hk] at h1; cases h1; rw [ho] at h2; cases h2)]
  exact hk

set_option maxRecDepth 100000 in
set_option maxHeartbeats 2000000 in
theorem find_any (p b off cap : Nat) (h x : Int) (l : List Int) (ch : List (Nat × Nat)) (hl : l.length ≤ 100000000) (h4 : 4 ≤ l.length) (w : World) (hh0 : 0 ≤ h) (hh1 : h ≤ 4294967296)
    (hT : TblR w p b off cap l) (hb0 : 1 ≤ ati l 1) (hb1 : ati l 1 ≤ 1000000) (hch : Chn l (headAt (bkt h.toNat (ati l 1).toNat)) ch) (hrec : ∀ q ∈ ch, recAt q.1 + 2 < l.length ∧ q.1 ≤ 100000) (hlen : ch.length ≤ 1000000) :
    Calls Try.prog 86 #[.pointer (some ⟨p, 0, none⟩), .agg #[.int .i64 h, .int .i64 x]] w fun e W' => e = .returned (.tuple #[.int .i64 (findC l h x ch 0).1, .int .i64 (findC l h x ch 0).2.1, .int .i64 (findC l h x ch 0).2.2]) ∧ Below w.heap.size w W' := by
  refine (callsIn_wide (n := 8)).1 ?_
  have hp := hT.head
  have hc1 := hT.cells 1 (by omega)
  have bp := lt_cell hp
  have bb := hT.lt
  refine callsIn_of_wp_marks Try.func86 rfl trivial ?_ rfl
  simp only [Try.ntmps86, List.size_toArray, List.length_cons, List.length_nil, Nat.reduceAdd, Nat.reduceSub, Array.replicate_succ, Array.replicate_zero, List.push_toArray, List.append_toArray, List.nil_append, List.cons_append]
  refine wpIn_wide.2 ?_
  go_wp2
  obtain ⟨n₀, hn0⟩ : ∃ n₀, n₀ = w.heap.size := ⟨_, rfl⟩
  refine region_still_tail 10 (by kernel_rfl) (by kernel_rfl) (fun w7 hw7 => ?_)
  rw [← hn0]
  have hF : Fresh w n₀ [.cells #[.pointer (some ⟨p, 0, none⟩)] 92, .cells #[.int .i64 h, .int .i64 x] 43, .cells #[.int .i64 0] 3, .cells #[.int .i64 0] 3, .cells #[.int .i64 0] 3, .cells #[.int .i64 0] 3] w7 := by
    rw [hw7, hn0]; exact ((((((Fresh.start w).alloc _).alloc _).alloc _).alloc _).alloc _).alloc _ |>.drew
  have hs7 : w7.heap.size = n₀ + 6 := hF.size
  have hBn := hF.below
  have hT7 : TblR w7 p b off cap l := hT.below (by rw [← hn0]; exact hBn)
  have bt : Boxed w7 n₀ 92 (.pointer (some ⟨p, 0, none⟩)) := hF.blks 0 _ rfl
  have bx : w7.heap[n₀ + 1]? = some (.cells #[.int .i64 h, .int .i64 x] 43) := hF.blks 1 _ rfl
  have r0 : Boxed w7 (n₀ + 1 + 1) 3 (.int .i64 0) := hF.blks 2 _ rfl
  have r1 : Boxed w7 (n₀ + 1 + 1 + 1) 3 (.int .i64 0) := hF.blks 3 _ rfl
  have r2 : Boxed w7 (n₀ + 1 + 1 + 1 + 1) 3 (.int .i64 0) := hF.blks 4 _ rfl
  have rl : Boxed w7 (n₀ + 1 + 1 + 1 + 1 + 1) 3 (.int .i64 0) := hF.blks 5 _ rfl
  have hp7 := hT7.head
  have hc7 := hT7.cells 1 (by omega)
  have ct := bt.cell
  have cx0 : w7.cell? ⟨n₀ + 1, 0, none⟩ = some (.int .i64 h) := (cell_of_heap bx).trans rfl
  have i1 : (1 : Int) < (l.length : Int) := by omega
  have hle0 : n₀ ≤ w.heap.size := by omega
  have hle1 : w.heap.size ≤ n₀ := by omega
  have bp' : p < n₀ := by omega
  have bb' : b < n₀ := by omega
  have HN := Lib.hid hn0
  have HS := Lib.hid hs7
  clear hw7 hn0 bp bb hT hp hc1 hF hs7
  simp only [List.take_succ_cons, List.take_zero, List.drop_succ_cons, List.drop_zero]
  repeat still_step
  still_call (bucket_any h (ati l 1) w7 hh0 hh1 hb0 hb1)
  refine wpStill_nil ?_
  clear i1
  go_wp2_with (go_at_call 72; refine (chain_any p _ _).mono ?_; rintro e w' ⟨rfl, rfl⟩)
  obtain ⟨w9, hw9⟩ : ∃ w9, w9 = (w7.alloc (.cells #[.pointer (some ⟨p, 0, none⟩)] 92)).alloc (.cells #[.int .i64 (bkt h.toNat (ati l 1).toNat : Nat)] 3) := ⟨_, rfl⟩
  rw [← hw9, HS.out]
  have h79 : Below w7.heap.size w7 w9 := by rw [hw9]; exact ((Below.refl _ _).alloc (Nat.le_refl _) _).alloc (by simp) _
  have hs9 : w9.heap.size = n₀ + 8 := by rw [hw9]; simp [HS.out]
  have bt9 : Boxed w9 n₀ 92 (.pointer (some ⟨p, 0, none⟩)) := by rw [hw9]; exact (bt.alloc _).alloc _
  have bx9 : w9.heap[n₀ + 1]? = some (.cells #[.int .i64 h, .int .i64 x] 43) := (h79.block _ (by have := HS.out; omega)).trans bx
  have r09 : Boxed w9 (n₀ + 1 + 1) 3 (.int .i64 0) := by rw [hw9]; exact (r0.alloc _).alloc _
  have r19 : Boxed w9 (n₀ + 1 + 1 + 1) 3 (.int .i64 0) := by rw [hw9]; exact (r1.alloc _).alloc _
  have r29 : Boxed w9 (n₀ + 1 + 1 + 1 + 1) 3 (.int .i64 0) := by rw [hw9]; exact (r2.alloc _).alloc _
  have rl9 : Boxed w9 (n₀ + 1 + 1 + 1 + 1 + 1) 3 (.int .i64 0) := by rw [hw9]; exact (rl.alloc _).alloc _
  have bct : w9.cell? ⟨n₀ + 6, 0, none⟩ = some (.pointer (some ⟨p, 0, none⟩)) := by
    have h := ((Boxed.new w7 92 (.pointer (some ⟨p, 0, none⟩))).alloc (.cells #[.int .i64 (bkt h.toNat (ati l 1).toNat : Nat)] 3)).cell
    rw [HS.out] at h; rw [hw9]; exact h
  have bci : w9.cell? ⟨n₀ + 6 + 1, 0, none⟩ = some (.int .i64 (bkt h.toNat (ati l 1).toNat : Nat)) := by
    have h := (Boxed.new (w7.alloc (.cells #[.pointer (some ⟨p, 0, none⟩)] 92)) 3 (.int .i64 (bkt h.toNat (ati l 1).toNat : Nat))).cell
    rw [World.size_alloc, HS.out] at h; rw [hw9]; exact h
  have hT9 := hT7.below h79
  have hB9 : Below n₀ w w9 := hBn.trans (h79.mono (by have := HS.out; omega))
  clear hw9 h79 bt bx r0 r1 r2 rl ct cx0 hp7 hc7 hT7 hBn
  have hbk : bkt h.toNat (ati l 1).toNat ≤ 1000000 := by have := bkt_lt h.toNat (b := (ati l 1).toNat) (by omega); omega
  have HS9 := Lib.hid hs9
  clear hs9
  refine (wpIn_wide (n := 8)).1 ?_
  have hmap := toRF_map l.length ch hrec
  generalize toRF l.length ch hrec = cr at hmap
  subst hmap
  have HL := Lib.hid hlen
  have hlen' : cr.length ≤ 1000000 := by simpa using hlen
  clear hlen hrec
  refine wpIn_rangeFunc_ownG (n := 8) rfl (by omega) (gf := 102) (lb := #[.pointer (some ⟨n₀ + 6 + 1, 0, none⟩), .pointer (some ⟨n₀ + 6, 0, none⟩)]) rfl trivial (enters_of Try.func102 (by kernel_rfl) rfl)
    (chain_stops (α := RF l.length) Subtype.val (8 - 1) (by omega) p b off cap (n₀ + 6) (n₀ + 6 + 1) _ l cr hbk hl h4 w9 hT9 bct bci hch)
    Keep.trans (fun W l o o' _ h hc _ => Keep.putObj W l o o' h hc) (Below.refl _ _) (fun _ => rfl)
    (fun pre W => (Boxed W n₀ 92 (.pointer (some ⟨p, 0, none⟩)) ∧ W.heap[n₀ + 1]? = some (.cells #[.int .i64 h, .int .i64 x] 43) ∧ Boxed W (n₀ + 1 + 1) 3 (.int .i64 0) ∧ Boxed W (n₀ + 1 + 1 + 1) 3 (.int .i64 0) ∧ Boxed W (n₀ + 1 + 1 + 1 + 1) 3 (.int .i64 0) ∧ Boxed W (n₀ + 1 + 1 + 1 + 1 + 1) 3 (.int .i64 (pre.length : Nat)) ∧ TblR W p b off cap l ∧ n₀ + 8 ≤ W.heap.size ∧ ∀ q ∈ pre, ¬ hits l h x q.1.1) ∧ Below n₀ w W)
    (fun c pre W => (c = .ret ∧ ∃ pre' y, pre = pre' ++ [y] ∧ (∀ q ∈ pre', ¬ hits l h x q.1.1) ∧ hits l h x y.1.1 ∧ Boxed W (n₀ + 1 + 1) 3 (.int .i64 (y.1.1 : Nat)) ∧ Boxed W (n₀ + 1 + 1 + 1) 3 (.int .i64 (y.1.2 : Nat)) ∧ Boxed W (n₀ + 1 + 1 + 1 + 1) 3 (.int .i64 (pre.length : Nat))) ∧ Below n₀ w W)
    ?hI ?hIx ?h0
    (fun y => { tmps := #[.pointer (some ⟨p, 0, none⟩), .agg #[.int .i64 h, .int .i64 x], .pointer (some ⟨n₀, 0, none⟩), .pointer (some ⟨n₀ + 1, 0, none⟩), .pointer (some ⟨n₀ + 1 + 1, 0, none⟩), .pointer (some ⟨n₀ + 1 + 1 + 1, 0, none⟩), .pointer (some ⟨n₀ + 1 + 1 + 1 + 1, 0, none⟩), .pointer (some ⟨n₀ + 1 + 1 + 1 + 1 + 1, 0, none⟩), .int .i64 (y.1.1 : Nat), .int .i64 (y.1.2 : Nat), .pointer (some ⟨p, 0, none⟩), .pointer (some ⟨n₀ + 1, 0, none⟩), .int .i64 h, .pointer (some ⟨p, 0, none⟩), .pointer (some ⟨p, 0, none⟩), .pointer (some ⟨p, 0, none⟩), .slice (some ⟨b, off, none⟩) l.length cap, .pointer (some ⟨b, off + 1, none⟩), .int .i64 (ati l 1), .int .i64 (bkt h.toNat (ati l 1).toNat : Nat), .func (.func 102) #[] #[.pointer (some ⟨n₀ + 6 + 1, 0, none⟩), .pointer (some ⟨n₀ + 6, 0, none⟩)], .int .i64 (y.1.1 : Nat), .int .i64 (y.1.2 : Nat), undef, undef, undef, undef, undef, undef, undef, undef, undef, undef, undef, undef], defers := [] }) ?assign ?body ?done ?stop
  case hI =>
    refine OwnFrom.and (fun pre A B row hs hg hr => ?_) (ownFrom_below hle0 (by have := HS9.out; omega))
    have hk := keep_of_own hg hr
    obtain ⟨k0, k1, k2, k3, k4, k5, k6, k7, k8⟩ := hs
    exact ⟨hk _ _ trivial k0 rfl, hk _ _ trivial k1 rfl, hk _ _ trivial k2 rfl, hk _ _ trivial k3 rfl, hk _ _ trivial k4 rfl, hk _ _ trivial k5 rfl, k6.keep hk trivial trivial (by omega), Nat.le_trans k7 hg.size, k8⟩
  case hIx =>
    intro c
    refine OwnFrom.and (fun pre A B row hs hg hr => ?_) (ownFrom_below hle0 (by have := HS9.out; omega))
    have hk := keep_of_own hg hr
    obtain ⟨k0, pre', y, k1, k2, k3, k4, k5, k6⟩ := hs
    exact ⟨k0, pre', y, k1, k2, k3, hk _ _ trivial k4 rfl, hk _ _ trivial k5 rfl, hk _ _ trivial k6 rfl⟩
  case h0 => exact ⟨⟨bt9, bx9, r09, r19, r29, rl9, hT9, by have := HS9.out; omega, fun q hq => by cases hq⟩, hB9⟩
  case assign =>
    intro L y W K hK
    dsimp only [encRF]
    gi_wp2
    exact hK
  case body =>
    rintro L pre y W ⟨⟨k0, k1, k2, k3, k4, k5, k6, k7, k8⟩, hB⟩ hlt
    have ct := k0.cell
    have cl := k5.cell
    have fl := k5.frozen
    gi_wp2
    obtain ⟨W1, hW1⟩ : ∃ W1, W1 = W.setCell ⟨n₀ + 1 + 1 + 1 + 1 + 1, 0, none⟩ (.int .i64 ((pre.length : Nat) + 1)) := ⟨_, rfl⟩
    rw [← hW1]
    have j0 : Boxed W1 n₀ 92 (.pointer (some ⟨p, 0, none⟩)) := by rw [hW1]; exact k0.other (by omega) _
    have j1 : W1.heap[n₀ + 1]? = some (.cells #[.int .i64 h, .int .i64 x] 43) := by rw [hW1, Below.heap_setCell _ _ _ _ (by simp)]; exact k1
    have j2 : Boxed W1 (n₀ + 1 + 1) 3 (.int .i64 0) := by rw [hW1]; exact k2.other (by omega) _
    have j3 : Boxed W1 (n₀ + 1 + 1 + 1) 3 (.int .i64 0) := by rw [hW1]; exact k3.other (by omega) _
    have j4 : Boxed W1 (n₀ + 1 + 1 + 1 + 1) 3 (.int .i64 0) := by rw [hW1]; exact k4.other (by omega) _
    have j5 : Boxed W1 (n₀ + 1 + 1 + 1 + 1 + 1) 3 (.int .i64 ((pre.length : Nat) + 1)) := by rw [hW1]; exact k5.set _
    have j6 : TblR W1 p b off cap l := by rw [hW1]; exact k6.other _ (by simp; omega) (by simp; omega)
    have j7 : n₀ + 8 ≤ W1.heap.size := by rw [hW1]; simpa [World.setCell] using k7
    have jB : Below n₀ W W1 := by rw [hW1]; exact (Below.refl _ _).setCell (by simp; omega) _
    have jK : Keep (fun k => k < n₀ ∨ k = n₀ + 6 ∨ k = n₀ + 6 + 1) W W1 := keep_of_same (fun k hk => by rw [hW1]; exact Below.heap_setCell _ _ _ _ (by simp; omega))
    have jO : KeepsOthers W W1 := by rw [hW1]; exact KeepsOthers.setCell _ _ _
    clear hW1 ct cl fl k0 k1 k2 k3 k4 k5 k6
    have ct := j0.cell
    have cx0 : W1.cell? ⟨n₀ + 1, 0, none⟩ = some (.int .i64 h) := (cell_of_heap j1).trans rfl
    have cx1 : W1.cell? ⟨n₀ + 1, 1, none⟩ = some (.int .i64 x) := (cell_of_heap j1).trans rfl
    have z1 : n₀ + 1 < W1.heap.size := by omega
    have hy1 := y.2.1
    have hy2 := y.2.2
    by_cases hit : hits l h x y.1.1
    · have he : (ati l (recAt y.1.1) == h && ati l (recAt y.1.1 + 1) == x) = true := by simp [hit.1, hit.2]
      gi_cut [30] from 25 (fun v V => v = .bool true ∧ Below W1.heap.size W1 V)
      case first =>
        rename_i J K' hJ hK'
        gi_region_with (first | (refine ⟨trivial, ?_⟩; gi_at_call 73; refine (CallsIn.inRound L (callsIn_wide.2 (record_any p (y.1.1 : Nat) _ (by omega) (by omega)))).mono ?_; rintro e V1 ⟨rfl, hb1⟩; have hT1 := j6.drew.below hb1; have cx0a := cell_below hb1 (show W1.drew.cell? ⟨n₀ + 1, 0, none⟩ = _ from cx0); have cx1a := cell_below hb1 (show W1.drew.cell? ⟨n₀ + 1, 1, none⟩ = _ from cx1)) | (refine ⟨trivial, ?_⟩; gi_at_call 77; refine (CallsIn.inRound L (callsIn_wide.2 (elem_any _ p b off cap l hT1 (recAt y.1.1 : Nat) (by omega) (by omega) (by omega)))).mono ?_; rintro e V2 ⟨rfl, hb2⟩; rw [Int.toNat_natCast]; have cx0b := cell_below hb2 cx0a; have cx1b := cell_below hb2 cx1a))
        all_goals
          refine hK' _ _ (Met.intro (hJ _ _ ?_))
          (repeat apply Exists.intro)
          refine ⟨?rel, rfl⟩
          case rel => exact ⟨rfl, (Below.trans (Below.refl _ _).drew hb1).trans (hb2.mono hb1.size)⟩
      case rest =>
      obtain ⟨rfl, hb12⟩ := hcut
      clear he cx0 cx1 ct
      have hz := hb12.size
      have b2 := boxed_below j2 hb12
      have b3 := boxed_below j3 hb12
      have b4 := boxed_below j4 hb12
      have b5 := boxed_below j5 hb12
      have c2 := b2.cell
      have c3 := b3.cell
      have c4 := b4.cell
      have c5 := b5.cell
      have f2 := b2.frozen
      have f3 := b3.frozen
      have f4 := b4.frozen
      gi_wp2
      gi_region
      all_goals gi_wp2
      all_goals
        have d2 : Boxed (((wc.setCell ⟨n₀ + 1 + 1, 0, none⟩ (.int .i64 (y.1.1 : Nat))).setCell ⟨n₀ + 1 + 1 + 1, 0, none⟩ (.int .i64 (y.1.2 : Nat))).setCell ⟨n₀ + 1 + 1 + 1 + 1, 0, none⟩ (.int .i64 ((pre.length : Nat) + 1))) (n₀ + 1 + 1) 3 (.int .i64 (y.1.1 : Nat)) := ((b2.set _).other (by omega) _).other (by omega) _
        have d3 : Boxed (((wc.setCell ⟨n₀ + 1 + 1, 0, none⟩ (.int .i64 (y.1.1 : Nat))).setCell ⟨n₀ + 1 + 1 + 1, 0, none⟩ (.int .i64 (y.1.2 : Nat))).setCell ⟨n₀ + 1 + 1 + 1 + 1, 0, none⟩ (.int .i64 ((pre.length : Nat) + 1))) (n₀ + 1 + 1 + 1) 3 (.int .i64 (y.1.2 : Nat)) := ((b3.other (by omega) _).set _).other (by omega) _
        have d4 : Boxed (((wc.setCell ⟨n₀ + 1 + 1, 0, none⟩ (.int .i64 (y.1.1 : Nat))).setCell ⟨n₀ + 1 + 1 + 1, 0, none⟩ (.int .i64 (y.1.2 : Nat))).setCell ⟨n₀ + 1 + 1 + 1 + 1, 0, none⟩ (.int .i64 ((pre.length : Nat) + 1))) (n₀ + 1 + 1 + 1 + 1) 3 (.int .i64 ((pre.length : Nat) + 1)) := ((b4.other (by omega) _).other (by omega) _).set _
        refine ⟨(((((jO.trans (keepsOthers_of_below hb12)).trans (KeepsOthers.setCell _ _ _)).trans (KeepsOthers.setCell _ _ _)).trans (KeepsOthers.setCell _ _ _)).trans (KeepsOthers.drew _)).from _, ⟨rfl, pre, y, rfl, k8, hit, d2, d3, by rw [show (((pre ++ [y]).length : Nat) : Int) = (pre.length : Nat) + 1 by simp]; exact d4⟩, ?_⟩
        exact ((((((hB.trans jB).trans (hb12.mono (by omega))).setCell (by simp; omega) _).setCell (by simp; omega) _).setCell (by simp; omega) _).drew)
    · have he : (ati l (recAt y.1.1) == h && ati l (recAt y.1.1 + 1) == x) = false := by
        cases hq : (ati l (recAt y.1.1) == h && ati l (recAt y.1.1 + 1) == x)
        · rfl
        · exact absurd (show _ ∧ _ by simpa using hq) hit
      gi_cut [30] from 25 (fun v V => v = .bool false ∧ Below W1.heap.size W1 V)
      case first =>
        rename_i J K' hJ hK'
        gi_region_with (first | (refine ⟨trivial, ?_⟩; gi_at_call 73; refine (CallsIn.inRound L (callsIn_wide.2 (record_any p (y.1.1 : Nat) _ (by omega) (by omega)))).mono ?_; rintro e V1 ⟨rfl, hb1⟩; have hT1 := j6.drew.below hb1; have cx0a := cell_below hb1 (show W1.drew.cell? ⟨n₀ + 1, 0, none⟩ = _ from cx0); have cx1a := cell_below hb1 (show W1.drew.cell? ⟨n₀ + 1, 1, none⟩ = _ from cx1)) | (refine ⟨trivial, ?_⟩; gi_at_call 77; refine (CallsIn.inRound L (callsIn_wide.2 (elem_any _ p b off cap l hT1 (recAt y.1.1 : Nat) (by omega) (by omega) (by omega)))).mono ?_; rintro e V2 ⟨rfl, hb2⟩; rw [Int.toNat_natCast]; have cx0b := cell_below hb2 cx0a; have cx1b := cell_below hb2 cx1a))
        all_goals
          refine hK' _ _ (Met.intro (hJ _ _ ?_))
          (repeat apply Exists.intro)
          refine ⟨?rel, rfl⟩
          case rel => exact ⟨rfl, (Below.trans (Below.refl _ _).drew hb1).trans (hb2.mono hb1.size)⟩
      case rest =>
      obtain ⟨rfl, hb12⟩ := hcut
      clear he cx0 cx1 ct
      have hz := hb12.size
      gi_wp2
      refine ⟨(jO.trans (keepsOthers_of_below hb12)).from _, ?_, ⟨boxed_below j0 hb12, (hb12.block _ (by omega)).trans j1, boxed_below j2 hb12, boxed_below j3 hb12, boxed_below j4 hb12, by have := boxed_below j5 hb12; simpa using this, j6.below hb12, by omega, ?_⟩, (hB.trans jB).trans (hb12.mono (by omega))⟩
      · intro k o hs hk ho
        have h1 := jK k o (by rcases hs with rfl | rfl | rfl | rfl <;> omega) hk ho
        exact (hb12.block k (lt_heap h1)).trans h1
      · intro q hq
        rcases List.mem_append.1 hq with hq | hq
        · exact k8 q hq
        · obtain rfl : q = y := by simpa using hq
          exact hit
  case done =>
    rintro D ys W hD rfl ⟨⟨k0, k1, k2, k3, k4, k5, k6, k7, k8⟩, hB⟩ hK
    have hlD : n₀ + 8 ≤ D := by have := HS9.out; omega
    have c2 := k2.cell
    have c3 := k3.cell
    have c4 := k4.cell
    have c5 := k5.cell
    have f2 := k2.frozen
    have f3 := k3.frozen
    have f4 := k4.frozen
    clear k0 k1
    go_wp2
    go_region
    all_goals go_wp2
    all_goals
      have hfin : findC l h x (ys.map Subtype.val) 0 = (-1, 0, ((ys.length : Nat) : Int)) := by
        rw [findC_none _ 0 (fun q hq => by obtain ⟨z, hz, rfl⟩ := List.mem_map.1 hq; exact k8 z hz)]
        simp
      have d2 : Boxed (((W.setCell ⟨n₀ + 1 + 1, 0, none⟩ (.int .i64 (-1))).setCell ⟨n₀ + 1 + 1 + 1, 0, none⟩ (.int .i64 0)).setCell ⟨n₀ + 1 + 1 + 1 + 1, 0, none⟩ (.int .i64 (ys.length : Nat))).drew (n₀ + 1 + 1) 3 (.int .i64 (-1)) := ((k2.set _).other (by omega) _).other (by omega) _
      have d3 : Boxed (((W.setCell ⟨n₀ + 1 + 1, 0, none⟩ (.int .i64 (-1))).setCell ⟨n₀ + 1 + 1 + 1, 0, none⟩ (.int .i64 0)).setCell ⟨n₀ + 1 + 1 + 1 + 1, 0, none⟩ (.int .i64 (ys.length : Nat))).drew (n₀ + 1 + 1 + 1) 3 (.int .i64 0) := ((k3.other (by omega) _).set _).other (by omega) _
      have d4 : Boxed (((W.setCell ⟨n₀ + 1 + 1, 0, none⟩ (.int .i64 (-1))).setCell ⟨n₀ + 1 + 1 + 1, 0, none⟩ (.int .i64 0)).setCell ⟨n₀ + 1 + 1 + 1 + 1, 0, none⟩ (.int .i64 (ys.length : Nat))).drew (n₀ + 1 + 1 + 1 + 1) 3 (.int .i64 (ys.length : Nat)) := ((k4.other (by omega) _).other (by omega) _).set _
      have hK' : (((W.setCell ⟨n₀ + 1 + 1, 0, none⟩ (.int .i64 (-1))).setCell ⟨n₀ + 1 + 1 + 1, 0, none⟩ (.int .i64 0)).setCell ⟨n₀ + 1 + 1 + 1 + 1, 0, none⟩ (.int .i64 (ys.length : Nat))).drew.heap[D]? = some (.deferred (some [])) := by
        show (((W.setCell _ _).setCell _ _).setCell _ _).heap[D]? = _
        rw [Below.heap_setCell _ _ _ _ (by simp; omega), Below.heap_setCell _ _ _ _ (by simp; omega), Below.heap_setCell _ _ _ _ (by simp; omega)]
        exact hK
      have hBX : Below n₀ w (((W.setCell ⟨n₀ + 1 + 1, 0, none⟩ (.int .i64 (-1))).setCell ⟨n₀ + 1 + 1 + 1, 0, none⟩ (.int .i64 0)).setCell ⟨n₀ + 1 + 1 + 1 + 1, 0, none⟩ (.int .i64 (ys.length : Nat))).drew := (((hB.setCell (by simp; omega) _).setCell (by simp; omega) _).setCell (by simp; omega) _).drew
      generalize (((W.setCell ⟨n₀ + 1 + 1, 0, none⟩ (.int .i64 (-1))).setCell ⟨n₀ + 1 + 1 + 1, 0, none⟩ (.int .i64 0)).setCell ⟨n₀ + 1 + 1 + 1 + 1, 0, none⟩ (.int .i64 (ys.length : Nat))).drew = X at *
      refine ⟨by simp, .inl ⟨_, _, rfl, run_takeDeferred hK', ?_⟩⟩
      have e2 : (X.putObj D (.deferred none)).cell? ⟨n₀ + 1 + 1, 0, none⟩ = _ := (Keep.putObj (s := fun _ => True) X D _ (.deferred none) hK' rfl).cell trivial d2.cell
      have e3 : (X.putObj D (.deferred none)).cell? ⟨n₀ + 1 + 1 + 1, 0, none⟩ = _ := (Keep.putObj (s := fun _ => True) X D _ (.deferred none) hK' rfl).cell trivial d3.cell
      have e4 : (X.putObj D (.deferred none)).cell? ⟨n₀ + 1 + 1 + 1 + 1, 0, none⟩ = _ := (Keep.putObj (s := fun _ => True) X D _ (.deferred none) hK' rfl).cell trivial d4.cell
      refine ⟨.tuple #[.int .i64 (-1), .int .i64 0, .int .i64 (ys.length : Nat)], by simp [results, Try.results86, go_sem, e2, e3, e4], by rw [hfin], ?_⟩
      rw [← HN.out]
      exact hBX.trans (belowK_b (w := w9) (by have := HS9.out; omega) X D _ _ hD hK' rfl rfl)
  case stop =>
    rintro D c pre W hD hpre ⟨⟨rfl, pre', y, hp', hn', hit, k2, k3, k4⟩, hB⟩ hK
    have c2 := k2.cell
    have c3 := k3.cell
    have c4 := k4.cell
    gi_wp2
    have hfin : findC l h x (cr.map Subtype.val) 0 = ((y.1.1 : Int), (y.1.2 : Int), ((pre.length : Nat) : Int)) := by
      obtain ⟨rest, hrest⟩ := hpre
      rw [← hrest, hp']
      have := findC_some (l := l) (h := h) (x := x) (r := y.1.1) (f := y.1.2) (rest := rest.map Subtype.val) hit (pre'.map Subtype.val) 0 (fun q hq => by obtain ⟨z, hz, rfl⟩ := List.mem_map.1 hq; exact hn' z hz)
      simpa using this
    refine ⟨by simp, .inl ⟨_, _, rfl, run_takeDeferred hK, ?_⟩⟩
    have e2 : (W.putObj D (.deferred none)).cell? ⟨n₀ + 1 + 1, 0, none⟩ = _ := (Keep.putObj (s := fun _ => True) W D _ (.deferred none) hK rfl).cell trivial c2
    have e3 : (W.putObj D (.deferred none)).cell? ⟨n₀ + 1 + 1 + 1, 0, none⟩ = _ := (Keep.putObj (s := fun _ => True) W D _ (.deferred none) hK rfl).cell trivial c3
    have e4 : (W.putObj D (.deferred none)).cell? ⟨n₀ + 1 + 1 + 1 + 1, 0, none⟩ = _ := (Keep.putObj (s := fun _ => True) W D _ (.deferred none) hK rfl).cell trivial c4
    refine ⟨.tuple #[.int .i64 (y.1.1 : Nat), .int .i64 (y.1.2 : Nat), .int .i64 (pre.length : Nat)], by simp [results, Try.results86, go_sem, e2, e3, e4], by rw [hfin], ?_⟩
    rw [← HN.out]
    exact hB.trans (belowK_b (w := w9) (by have := HS9.out; omega) W D _ _ hD hK rfl rfl)
end Go.Proofs.Ytdcomhdadnhpnaa
