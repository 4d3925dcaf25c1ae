/- (t) all: the records of a chain, as a slice of the call's own. -/
import Derived.Test.YtdcomhdadnhpnaaT2
import Derived.RangeFuncBox
import Derived.Maps.AppendAt
namespace Go.Proofs.Ytdcomhdadnhpnaa
open Go.RowKit Go.Shelf
attribute [local go_sem] Oper.semAt_some

theorem info3 : (Try.prog.info? 3).map (fun i => (i.zero, i.size, i.bytes)) = some (some (.int .i64 0), 1, 8) := by kernel_rfl

/-- as Boxed.appended, where the row lies beyond the box. -/
theorem boxed_appended {W w1 : World} {n₀ b0 B : Nat} {t e : TypeId} {size : Nat} {v v' : Value} {k m : Nat} {xs ys : List Value} {tmp : Obj}
    (hv : Boxed W B t v) (hte : t ≠ e) (hrow : W.ownsRow b0 e size v k xs) (hb0 : b0 ≤ W.heap.size) (hn₀ : n₀ ≤ b0) (hB : n₀ ≤ B)
    (hown' : w1.ownsRow b0 e size v' m ys) (hgrow : (W.alloc tmp).grownBy w1 v.ownBlock) :
    Boxed w1 B t v ∧ Boxed (w1.setCell ⟨B, 0, none⟩ v') B t v' ∧ (w1.setCell ⟨B, 0, none⟩ v').ownsRow b0 e size v' m ys ∧ KeepsOthers W (w1.setCell ⟨B, 0, none⟩ v') ∧ Below n₀ W (w1.setCell ⟨B, 0, none⟩ v') ∧
      (∀ k, k < b0 → k ≠ B → (w1.setCell ⟨B, 0, none⟩ v').heap[k]? = W.heap[k]?) := by
  have hv1 : Boxed w1 B t v := (hv.alloc tmp).kept hgrow (hv.not_row hte hrow)
  have hj : ∀ j, v.ownBlock = some j → b0 ≤ j := fun j ej => (hrow.lt j ej).1
  refine ⟨hv1, hv1.set v', hown'.kept (grownBy_setCell' w1 B v') (.inr (hv1.not_row hte hown').symm), ?_, ?_, ?_⟩
  · refine ((KeepsOthers.alloc W tmp).trans (KeepsOthers.of_grownBy hgrow fun j o ej hj => ?_)).trans (KeepsOthers.setCell _ _ _)
    rcases (hrow.alloc tmp).2 with ⟨rfl, _⟩ | ⟨g, cap, cur, rfl, _, hgb, _⟩
    · simp [Value.ownBlock] at ej
    · obtain rfl : g = j := by simpa [Value.ownBlock] using ej
      rw [hgb] at hj; cases hj; rfl
  · exact (((Below.refl n₀ W).alloc (by omega) tmp).grown hgrow (by simp; omega) fun j ej => by have := hj j ej; omega).setCell (p := ⟨B, 0, none⟩) hB v'
  · intro k hk hne
    rw [Below.heap_setCell _ _ _ _ hne]
    rw [hgrow.block k (by simp; omega) (fun e => by have := hj k e.symm; omega)]
    exact Below.heap_alloc _ _ _ (by omega)

theorem ownsRow_lower {w : World} {b b' : Nat} {e : TypeId} {size n : Nat} {v : Value} {xs : List Value} (h : w.ownsRow b e size v n xs) (hb : b' ≤ b) : w.ownsRow b' e size v n xs := by
  obtain ⟨h1, h2⟩ := h
  refine ⟨h1, ?_⟩
  rcases h2 with h2 | ⟨g, cap, cur, hv, hg, r⟩
  · exact .inl h2
  · exact .inr ⟨g, cap, cur, hv, by omega, r⟩

theorem ownFrom_size {β : Type} (B m : Nat) : OwnFrom B (fun (_ : β) (W : World) => m ≤ W.heap.size) := fun _ _ _ _ hs hg _ => Nat.le_trans hs hg.size

theorem keep_of_same {s : Nat → Prop} {A B : World} (h : ∀ k, s k → B.heap[k]? = A.heap[k]?) : Keep s A B := fun k _ hs hk _ => (h k hs).trans hk

def encR (x : Nat × Nat) : Value := .int .i64 (x.1 : Nat)

set_option maxRecDepth 100000 in
set_option maxHeartbeats 2000000 in
theorem all_any (p b off cap i : Nat) (l : List Int) (ch : List (Nat × Nat)) (hi : i ≤ 1000000) (hl : l.length ≤ 100000000) (h4 : 4 ≤ l.length) (w : World)
    (hT : TblR w p b off cap l) (hch : Chn l (headAt i) ch) (hlen : ch.length ≤ 1000000) :
    Calls Try.prog 71 #[.pointer (some ⟨p, 0, none⟩), .int .i64 i] w fun e W' => ∃ v, e = .returned v ∧ W'.ownsRow w.heap.size 3 1 v ch.length (ch.map encR) ∧ Below w.heap.size w W' := by
  refine (callsIn_wide (n := 8)).1 ?_
  obtain ⟨i0, hinf, hz0, hz1, hz2⟩ := info_parts info3
  have bp := lt_cell hT.head
  have bb := hT.lt
  refine callsIn_of_wp_marks Try.func71 rfl trivial ?_ rfl
  simp only [Try.ntmps71, List.size_toArray, List.length_cons, List.length_nil, Nat.reduceAdd, Nat.reduceSub, Array.replicate_succ, Array.replicate_zero, List.push_toArray, List.append_toArray, List.nil_append, List.cons_append]
  gi_wp2_with (refine ⟨trivial, ?_⟩; gi_at_call 72; refine (callsIn_wide.2 (chain_any p i _)).mono ?_; rintro e w' ⟨rfl, rfl⟩)
  obtain ⟨n₀, hn0⟩ : ∃ n₀, n₀ = w.heap.size := ⟨_, rfl⟩
  rw [← hn0]
  obtain ⟨w3, hw3⟩ : ∃ w3, w3 = ((w.alloc (.cells #[.slice none 0 0] 31)).alloc (.cells #[.pointer (some ⟨p, 0, none⟩)] 92)).alloc (.cells #[.int .i64 i] 3) := ⟨_, rfl⟩
  rw [← hw3]
  have hB0 : Below w.heap.size w w3 := by rw [hw3]; exact (((Below.refl _ w).alloc (Nat.le_refl _) _).alloc (by simp) _).alloc (by simp; omega) _
  have hs3 : w3.heap.size = n₀ + 3 := by rw [hw3, hn0]; simp
  have bO : Boxed w3 n₀ 31 (.slice none 0 0) := by rw [hw3, hn0]; exact ((Boxed.new w 31 (.slice none 0 0)).alloc _).alloc _
  have bt : w3.cell? ⟨n₀ + 1, 0, none⟩ = some (.pointer (some ⟨p, 0, none⟩)) := by
    have h := ((Boxed.new (w.alloc (.cells #[.slice none 0 0] 31)) 92 (.pointer (some ⟨p, 0, none⟩))).alloc (.cells #[.int .i64 i] 3)).cell
    rw [World.size_alloc] at h; rw [hw3, hn0]; exact h
  have bi : w3.cell? ⟨n₀ + 1 + 1, 0, none⟩ = some (.int .i64 i) := by
    have h := (Boxed.new ((w.alloc (.cells #[.slice none 0 0] 31)).alloc (.cells #[.pointer (some ⟨p, 0, none⟩)] 92)) 3 (.int .i64 i)).cell
    rw [World.size_alloc, World.size_alloc] at h; rw [hw3, hn0]; exact h
  have hT3 := hT.below hB0
  have hBn : Below n₀ w w3 := by rw [hn0]; exact hB0
  have bp' : p < n₀ := by omega
  have bb' : b < n₀ := by omega
  have HN := Lib.hid hn0
  have hle0 : n₀ ≤ w.heap.size := by omega
  have hle1 : w.heap.size ≤ n₀ := by omega
  clear hw3 hn0 hB0 bp bb hT
  refine wpIn_rangeFunc_ownG (n := 8) rfl (by omega) (gf := 102) (lb := #[.pointer (some ⟨n₀ + 1 + 1, 0, none⟩), .pointer (some ⟨n₀ + 1, 0, none⟩)]) rfl trivial (enters_of Try.func102 (by kernel_rfl) rfl)
    (chain_stops (fun x : Nat × Nat => x) (8 - 1) (by omega) p b off cap (n₀ + 1) (n₀ + 1 + 1) i l ch hi hl h4 w3 hT3 bt bi (by simpa using hch))
    Keep.trans (fun W l o o' _ h hc _ => Keep.putObj W l o o' h hc) (Below.refl _ _) (fun _ => rfl)
    (fun pre W => ((∃ v, Boxed W n₀ 31 v ∧ W.ownsRow (n₀ + 3) 3 1 v pre.length (pre.map encR) ∧ True) ∧ Below n₀ w W) ∧ n₀ + 3 ≤ W.heap.size)
    (fun _ _ _ => False)
    (OwnFrom.and (OwnFrom.and (Own.from (holdsRow_own (n₀ + 3) n₀ 31 3 1 (fun (pre : List (Nat × Nat)) => pre.length) (fun pre => pre.map encR) (fun _ _ => True)) _) (ownFrom_below (by omega) (by omega))) (ownFrom_size _ _))
    (fun _ _ _ _ _ hs _ _ => hs)
    ⟨⟨⟨_, bO, World.ownsRow_nil _ _ _ _, trivial⟩, hBn⟩, by omega⟩
    (fun x => { tmps := #[.pointer (some ⟨p, 0, none⟩), .int .i64 i, undef, undef, .slice none 0 0, .pointer (some ⟨n₀, 0, none⟩), .int .i64 (x.1 : Nat), .pointer (some ⟨p, 0, none⟩), .int .i64 i, .func (.func 102) #[] #[.pointer (some ⟨n₀ + 1 + 1, 0, none⟩), .pointer (some ⟨n₀ + 1, 0, none⟩)], .int .i64 (x.1 : Nat), .int .i64 (x.2 : Nat), undef, undef, undef, undef, undef], defers := [] }) ?assign ?body ?done ?stop
  case assign =>
    intro l x W K hK
    dsimp only [encRF]
    gi_wp2
    exact hK
  case body =>
    rintro L pre x W ⟨⟨⟨v, hv, hrow, _⟩, hB⟩, hsz⟩ hlt
    have hc := hv.cell
    gi_wp2_with (gi_at_builtin; refine wpListIn_append_own _ rfl _ _ 31 rfl (n₀ + 3) 3 i0 (.int .i64 0) 1 8 Try.underlying31 hinf hz0 hz1 hz2 rfl (by decide) _ _ _ rfl (hrow.alloc _) ⟨W.heap.size, 0, none⟩ 1 1 [.int .i64 (x.1 : Nat)] rfl rfl (cell_one_new _ _ _) (by simp [Value.oneCell']) (by unfold maxLen; omega) (by omega) (by simp; omega) ?_; intro v' w1 hown' hgrow _; obtain ⟨g', cap', rfl⟩ := ownsRow_succ hown'; obtain ⟨hv1, hv2, hr2, hk2, hb2, hsame⟩ := boxed_appended (n₀ := n₀) hv (by decide) hrow hsz (by omega) (Nat.le_refl _) hown' hgrow; have hc1 := hv1.cell; have hf1 := hv1.frozen)
    exact ⟨hk2.from _, keep_of_same (fun k hk => hsame k (by rcases hk with rfl | rfl | rfl | rfl <;> omega) (by rcases hk with rfl | rfl | rfl | rfl <;> omega)), ⟨⟨_, hv2, by simpa [encR] using hr2, trivial⟩, hB.trans hb2⟩, by have := hb2.size; omega⟩
  case done =>
    rintro D ys W hD rfl ⟨⟨⟨v, hv, hrow, _⟩, hB⟩, hsz⟩ hK
    have hc := hv.cell
    gi_wp2
    have hle : w.heap.size ≤ n₀ + 3 := by have := HN.out; omega
    refine ⟨by simp, .inl ⟨_, _, rfl, run_takeDeferred hK, ?_⟩⟩
    exact ⟨_, results_tmp rfl _ _ _, v, rfl, ownsRow_lower (ownsRow_putObj hrow _ hK rfl) hle, by rw [← HN.out]; exact hB.trans (belowK_b (w := w3) (by omega) W D _ _ hD hK rfl rfl)⟩
  case stop =>
    rintro D c pre W _ _ h _
    exact h.elim
end Go.Proofs.Ytdcomhdadnhpnaa
