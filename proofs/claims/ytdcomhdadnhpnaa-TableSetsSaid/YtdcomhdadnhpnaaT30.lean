/- (t) Elems, as the package gives it. -/
import Derived.Test.YtdcomhdadnhpnaaM6
import Derived.Maps.AppendAt
set_option linter.unusedSimpArgs false
set_option linter.unusedVariables false
namespace Go.Proofs.Ytdcomhdadnhpnaa
open Go.RowKit Go.Shelf
open Go.Proofs.YtdcomhdadnhpnaaW.PrintWords (own_move)
attribute [local irreducible] wpStill
attribute [local go_sem] Oper.semAt_some

theorem info43 : (Try.prog.info? 43).map (fun i => (i.zero, i.size, i.bytes)) = some (some (.agg #[.int .i64 0, .int .i64 0]), 2, 16) := by kernel_rfl
/-- the records of the first chains -/
def recsL (C : Nat → List Nat) : Nat → List Nat
  | 0 => []
  | k + 1 => recsL C k ++ C k
/-- their elements, cell by cell -/
def cellsE (l : List Int) (rs : List Nat) : List Value := rs.flatMap fun r => [.int .i64 (ati l (recAt r)), .int .i64 (ati l (recAt r + 1))]
theorem cellsE_len (l : List Int) (rs : List Nat) : (cellsE l rs).length = rs.length * 2 := by
  induction rs with
  | nil => rfl
  | cons r rs ih => simp only [cellsE, List.flatMap_cons, List.length_append, List.length_cons, List.length_nil] at ih ⊢; omega
theorem cellsE_append (l : List Int) (a b : List Nat) : cellsE l (a ++ b) = cellsE l a ++ cellsE l b := by simp [cellsE]
theorem own_keepS {W W' : World} {base n size : Nat} {e : TypeId} {v : Value} {xs : List Value} (h : W.ownsRow base e size v n xs) (hk : Keep (fun _ => True) W W') : W'.ownsRow base e size v n xs :=
  ⟨h.1, h.2.imp id (fun ⟨g, c, cur, e1, e2, hg, r⟩ => ⟨g, c, cur, e1, e2, hk g _ trivial hg rfl, r⟩)⟩
theorem cell_two_new (W : World) (t : TypeId) (x y : Value) : ∀ j u, [x, y][j]? = some u → (W.alloc (.cells #[x, y] t)).cell? ((⟨W.heap.size, 0, none⟩ : Addr).add j) = some u := by
  intro j u hu
  have hh : (W.alloc (.cells #[x, y] t)).heap[W.heap.size]? = some (.cells #[x, y] t) := World.alloc_heap_new _ _
  rw [Go.WideShapes.add_plain, Nat.zero_add]
  refine (cell_of_heap hh).trans ?_
  match j with
  | 0 => simpa using hu
  | 1 => simpa using hu
  | j + 2 => simp at hu
theorem app_fact43 {V : World} {base k : Nat} {v : Value} {xs : List Value} (h : V.ownsRow base 43 2 v k xs) (hb : base ≤ V.heap.size) (hk : k ≤ 1000000) (x y : Int) :
    ∃ g cap V6, (appS #[40, 40] 40 #[v, .slice (some ⟨V.heap.size, 0, none⟩) 1 1]).run Try.prog (V.alloc (.cells #[.int .i64 x, .int .i64 y] 43)) = .ok (.slice (some ⟨g, 0, none⟩) (k + 1) cap) V6 ∧
      V6.ownsRow base 43 2 (.slice (some ⟨g, 0, none⟩) (k + 1) cap) (k + 1) (xs ++ [.int .i64 x, .int .i64 y]) ∧ (V.alloc (.cells #[.int .i64 x, .int .i64 y] 43)).grownBy V6 v.ownBlock := by
  obtain ⟨i0, hinf, hz0, hz1, hz2⟩ := info_parts info43
  obtain ⟨v', w', hrun, hown, hg, _, _⟩ := run_append_own_at (P := Try.prog) (w := V.alloc (.cells #[.int .i64 x, .int .i64 y] 43)) base 40 40 43 i0 (.agg #[.int .i64 0, .int .i64 0]) 2 16 Try.underlying40 hinf hz0 hz1 hz2 rfl (by decide) v k xs (h.alloc _) ⟨V.heap.size, 0, none⟩ 1 1 [.int .i64 x, .int .i64 y] rfl (cell_two_new _ _ _ _) (by simp [Value.oneCell']) (by unfold maxLen; omega) (by omega) (by simp; omega)
  obtain ⟨g, cap, rfl⟩ := ownsRow_succ hown
  exact ⟨g, cap, w', hrun, hown, hg⟩

/-- what Elems returns -/
def ElemsE (base : Nat) (l : List Int) (e : Ending) (W' : World) : Prop :=
  (¬ ValidL l ∧ e = .returned (.tuple #[.slice none 0 0, .int .i64 600])) ∨
  (ValidL l ∧ ∃ n C v, HeadOk l n ∧ G l n (bkts n) C ∧ e = .returned (.tuple #[v, .int .i64 0]) ∧ W'.ownsRow base 43 2 v (recsL C (bkts n)).length (cellsE l (recsL C (bkts n))))
def cD (D : Nat) : Deferred := { target := .collected D, args := #[] }
theorem leaves_marks {F : Fence} {n : Nat} {P : Program} {fn : Func} {tmps : Array Value} {R : Ending → World → Prop} : ∀ (Ds : List Nat) (W : World), Ds.Nodup → (∀ D ∈ Ds, W.heap[D]? = some (.deferred (some []))) →
    (∀ W', W'.os = W.os → W'.tape = W.tape → W'.output = W.output → W'.heap.size = W.heap.size → (∀ k, k ∉ Ds → W'.heap[k]? = W.heap[k]?) → LeavesInM F n P fn tmps R [] .returning W') → LeavesInM F n P fn tmps R (Ds.map cD) .returning W
  | [], W, _, _, h => h W rfl rfl rfl rfl (fun _ _ => rfl)
  | D :: Ds, W, hn, hd, h => by
    refine ⟨by simp, .inl ⟨D, W.putObj D (.deferred none), rfl, run_takeDeferred (hd D (by simp)), ?_⟩⟩
    have hn' := List.nodup_cons.1 hn
    refine leaves_marks Ds _ hn'.2 (fun E hE => ?_) (fun W' h1 h2 h3 h4 h5 => ?_)
    · exact (World.putObj_heap_other (by rintro rfl; exact hn'.1 hE)).trans (hd E (by simp [hE]))
    · refine h W' (h1.trans rfl) (h2.trans rfl) (h3.trans rfl) (h4.trans (by simp [World.putObj])) (fun k hk => ?_)
      simp only [List.mem_cons, not_or] at hk
      exact (h5 k hk.2).trans (World.putObj_heap_other hk.1)

theorem _root_.Go.Proofs.Ytdcomhdadnhpnaa.G.recs {l : List Int} {n b : Nat} {C : Nat → List Nat} (g : G l n b C) : ∀ k, k ≤ b → (recsL C k).Nodup ∧ ∀ r ∈ recsL C k, r < n ∧ ∃ i, i < k ∧ r ∈ C i
  | 0, _ => ⟨List.nodup_nil, by simp [recsL]⟩
  | k + 1, hk => by
    obtain ⟨h1, h2⟩ := g.recs k (by omega)
    refine ⟨List.nodup_append.2 ⟨h1, g.nd k (by omega), fun a ha b hb e => ?_⟩, fun r hr => ?_⟩
    · subst e
      obtain ⟨_, i, hi, hm⟩ := h2 a ha
      have := g.only (by omega) (by omega) hm hb
      omega
    · rcases List.mem_append.1 hr with hr | hr
      · obtain ⟨h3, i, hi, hm⟩ := h2 r hr
        exact ⟨h3, i, by omega, hm⟩
      · exact ⟨g.lt (by omega) hr, k, by omega, hr⟩
theorem _root_.Go.Proofs.Ytdcomhdadnhpnaa.G.recs_le {l : List Int} {n b : Nat} {C : Nat → List Nat} (g : G l n b C) (k : Nat) (hk : k ≤ b) : (recsL C k).length ≤ n :=
  nodup_len n _ (g.recs k hk).1 (fun r hr => ((g.recs k hk).2 r hr).1)

theorem app_same {W w1 : World} {B : Nat} {v v' : Value} {tmp : Obj} (hgrow : (W.alloc tmp).grownBy w1 v.ownBlock) : ∀ k, k < W.heap.size → k ≠ B → v.ownBlock ≠ some k → (w1.setCell ⟨B, 0, none⟩ v').heap[k]? = W.heap[k]? := by
  intro k hk hne ho
  rw [Below.heap_setCell _ _ _ _ hne, hgrow.block k (by simp; omega) (fun e => ho e.symm)]
  exact Below.heap_alloc _ _ _ hk
attribute [local go_sem ↓ high] append_fold
set_option maxRecDepth 100000 in
set_option maxHeartbeats 4000000 in
theorem elemsX_any (A : Option Addr) (c : Nat) (l : List Int) (w : World) (hR : RdL w A l) :
    Calls Try.prog 28 #[.slice A l.length c] w fun e W' => ElemsE w.heap.size l e W' ∧ Below w.heap.size w W' := by
  have hop := opened_any A c l 0 w hR
  by_cases hV : ValidL l
  · obtain ⟨C, hH, g⟩ := validL_iff.1 hV
    generalize (ati l 0).toNat = n at hH g
    have hop2 : Calls Try.prog 69 #[.slice A l.length c, .int .i64 0] w fun e W' => (∃ p B cap, e = .returned (.tuple #[.pointer (some ⟨p, 0, none⟩), .int .i64 0]) ∧ Tb w.heap.size W' p B cap l) ∧ Below w.heap.size w W' := by
      refine hop.mono ?_
      rintro e W' ⟨(⟨h1, _⟩ | ⟨_, h1, _⟩ | ⟨_, _, h1⟩), h2⟩
      · exact absurd hV h1
      · exact absurd (by decide) h1
      · exact ⟨h1, h2⟩
    have hlen := hH.len
    have hl60 := wlen_ge n
    have hnn := g.n1
    have hll := wlen_le n (by omega)
    have hb1 := bkts_le n (by omega)
    have hbp := bkts_pos n
    have ha1 := hH.b1
    have HG := Lib.hid g
    have HH := Lib.hid hH
    have HV := Lib.hid hV
    have HOP := Lib.hid hop2
    have HL := Lib.hid hlen
    clear hop hop2 g hH hV hlen
    refine (callsIn_wide (n := 8)).1 ?_
    refine callsIn_of_wp_marks Try.func28 rfl trivial ?_ rfl
    simp only [Try.ntmps28, List.size_toArray, List.length_cons, List.length_nil, Nat.reduceAdd, Nat.reduceSub, Array.replicate_succ, Array.replicate_zero, List.push_toArray, List.append_toArray, List.nil_append, List.cons_append]
    refine wpIn_wide.2 ?_
    go_wp2_with fail
    refine HOP.out.mono ?_
    rintro e w1 ⟨⟨p, B, cap, rfl, hT⟩, hB1⟩
    have hT2 : Tb w.heap.size ((w1.alloc (.cells #[.pointer (some ⟨p, 0, none⟩)] 92)).alloc (.cells #[.slice none 0 0] 40)) p B cap l := (hT.alloc _).alloc _
    have hp2 := hT2.head
    have c2 := hT2.cell 1 (by have := HL.out; omega)
    rw [ha1] at c2
    have i1 : (1 : Int) < (l.length : Int) := by have := HL.out; omega
    go_wp2
    obtain ⟨s, hs⟩ : ∃ s, s = w1.heap.size := ⟨_, rfl⟩
    have hs1 := hB1.size
    rw [← hs]
    obtain ⟨wx, hwx⟩ : ∃ wx, wx = w1.alloc (.cells #[.pointer (some ⟨p, 0, none⟩)] 92) := ⟨_, rfl⟩
    have hzx : wx.heap.size = s + 1 := by rw [hwx, hs]; simp
    have hTx : Tb w.heap.size wx p B cap l := by rw [hwx]; exact hT.alloc _
    have bxx : Boxed wx s 92 (.pointer (some ⟨p, 0, none⟩)) := by rw [hwx, hs]; exact Boxed.new _ _ _
    have hBwx : Below w.heap.size w wx := by rw [hwx]; exact hB1.alloc hs1 _
    have bo : Boxed (wx.alloc (.cells #[.slice none 0 0] 40)) (s + 1) 40 (.slice none 0 0) := by rw [← hzx]; exact Boxed.new _ _ _
    have hB2 : Below (s + 1) wx (wx.alloc (.cells #[.slice none 0 0] 40)) := by rw [← hzx]; exact (Below.refl _ _).alloc (Nat.le_refl _) _
    have hz2 : (wx.alloc (.cells #[.slice none 0 0] 40)).heap.size = s + 2 := by simp [hzx]
    rw [← hwx]
    have hps : p < s := by rw [hs]; exact hT.ltp
    have hBs : B < s := by rw [hs]; exact hT.ltB
    have hws : w.heap.size ≤ s := by omega
    clear hwx hT2 hp2 c2 i1 hs hs1 hB1 hT hR
    generalize wx.alloc (.cells #[.slice none 0 0] 40) = w2 at bo hB2 hz2 ⊢
    obtain ⟨w₀, hw0⟩ : ∃ z, z = w.heap.size := ⟨_, rfl⟩
    refine wp_loop (fun a W => ∃ (k : Nat) (Ds : List Nat) (v u7 u24 u25 u26 u27 u28 u38 : Value), k ≤ bkts n ∧
        a = ⟨#[.slice A l.length c, undef, .slice none 0 0, .int .i64 0, .pointer (some ⟨s, 0, none⟩), .int .i64 0, .pointer (some ⟨s + 1, 0, none⟩), u7, undef, .tuple #[.pointer (some ⟨p, 0, none⟩), .int .i64 0], .slice A l.length c, .tuple #[.pointer (some ⟨p, 0, none⟩), .int .i64 0], .pointer (some ⟨p, 0, none⟩), .int .i64 0, .int .i64 0, .bool false, undef, .pointer (some ⟨p, 0, none⟩), .pointer (some ⟨p, 0, none⟩), .pointer (some ⟨p, 0, none⟩), .slice (some ⟨B, 0, none⟩) l.length cap, .pointer (some ⟨B, 1, none⟩), .int .i64 (bkts n : Nat), .int .i64 (k : Nat), u24, u25, u26, u27, u28, undef, undef, undef, undef, undef, undef, undef, undef, undef, u38, undef], Ds.map cD⟩ ∧
        Below (s + 1) wx W ∧ Boxed W (s + 1) 40 v ∧ W.ownsRow (s + 2) 43 2 v (recsL C k).length (cellsE l (recsL C k)) ∧ s + 2 ≤ W.heap.size ∧ Ds.Nodup ∧ ∀ D ∈ Ds, s + 2 ≤ D ∧ W.heap[D]? = some (.deferred (some [])))
      (fun a _ => bkts n - (intOf (a.tmps.getD 23 undef)).toNat) ?start ?round
    case start => exact ⟨0, [], _, _, _, _, _, _, _, _, Nat.zero_le _, rfl, hB2, bo, World.ownsRow_nil _ _ _ _, by omega, List.nodup_nil, by simp⟩
    case round =>
      rintro a W ⟨k, Ds, v, u7, u24, u25, u26, u27, u28, u38, hk, rfl, hBW, bv, hrow, hz, hnd, hds⟩
      have hTW := hTx.below (by rw [hzx]; exact hBW)
      have bxW : Boxed W s 92 (.pointer (some ⟨p, 0, none⟩)) := (hBW.block s (by omega)).trans bxx
      by_cases hlt : k < bkts n
      · have hk' : (k : Int) < (bkts n : Int) := by omega
        have cx := bxW.cell
        have HR := Lib.hid hrow
        have HD := Lib.hid hds
        clear hrow hds
        go_wp2_with (go_at_call 72; refine (chain_any p _ _).mono ?_; rintro e wc ⟨rfl, rfl⟩)
        clear cx hk'
        obtain ⟨z, hzW⟩ : ∃ z, z = W.heap.size := ⟨_, rfl⟩
        rw [← hzW]
        obtain ⟨w9, hw9⟩ : ∃ w9, w9 = (W.alloc (.cells #[.pointer (some ⟨p, 0, none⟩)] 92)).alloc (.cells #[.int .i64 (k : Nat)] 3) := ⟨_, rfl⟩
        rw [← hw9]
        have h9 : Below W.heap.size W w9 := by rw [hw9]; exact ((Below.refl _ _).alloc (Nat.le_refl _) _).alloc (by simp) _
        have hz9 : w9.heap.size = z + 2 := by rw [hw9, hzW]; simp
        have bt9 : Boxed w9 z 92 (.pointer (some ⟨p, 0, none⟩)) := by rw [hw9, hzW]; exact (Boxed.new _ _ _).alloc _
        have bi9 : Boxed w9 (z + 1) 3 (.int .i64 (k : Nat)) := by
          have h := Boxed.new (W.alloc (.cells #[.pointer (some ⟨p, 0, none⟩)] 92)) 3 (.int .i64 (k : Nat))
          rw [World.size_alloc, ← hzW] at h; rw [hw9]; exact h
        have hB9 : Below (s + 1) wx w9 := hBW.trans (h9.mono (by omega))
        have bv9 := boxed_below bv h9
        have hr9 := own_move (w1 := w9) HR.out (fun j hj => h9.block j (HR.out.lt j hj).2)
        have hd9 : ∀ D ∈ Ds, w9.heap[D]? = some (.deferred (some [])) := fun D hD => by
          obtain ⟨h1, h2⟩ := HD.out D hD
          exact (h9.block D (lt_heap h2)).trans h2
        have hDlt : ∀ D ∈ Ds, s + 2 ≤ D ∧ D < z := fun D hD => by
          obtain ⟨h1, h2⟩ := HD.out D hD
          exact ⟨h1, by rw [hzW]; exact lt_heap h2⟩
        have hTb : ∀ V, Below (s + 1) wx V → Tb w.heap.size V p B cap l := fun V hb => hTx.below (by rw [hzx]; exact hb)
        have hbx : ∀ V, Below (s + 1) wx V → Boxed V s 92 (.pointer (some ⟨p, 0, none⟩)) := fun V hb => (hb.block s (by omega)).trans bxx
        have hT9 := (hTb w9 hB9).r
        have bct := bt9.cell
        have bci := bi9.cell
        have hzs : s + 2 ≤ z := by omega
        have hll1 : l.length ≤ 100000000 := by have := HL.out; omega
        have h41 : 4 ≤ l.length := by have := HL.out; omega
        have hib : k ≤ 1000000 := by omega
        have hrec : ∀ q ∈ wf (headAt k) (C k), recAt q.1 + 2 < l.length ∧ q.1 ≤ 100000 := fun q hq => by
          have hm : q.1 ∈ C k := by rw [← wf_map (headAt k) (C k)]; exact List.mem_map_of_mem hq
          have := HG.out.lt hlt hm
          exact ⟨HG.out.rl _ this, by omega⟩
        have hch := (HG.out.chn k hlt).chn
        have hmap := toRF_map l.length (wf (headAt k) (C k)) hrec
        have hcl := HG.out.clen hlt
        generalize toRF l.length (wf (headAt k) (C k)) hrec = cr at hmap
        rw [← hmap] at hch
        have hmp : cr.map (·.1.1) = C k := by
          have := congrArg (List.map (·.1)) hmap
          rw [wf_map, List.map_map] at this
          exact this
        have hrl : (recsL C k).length ≤ 200000 := by have := HG.out.recs_le k (by omega); omega
        have HMP := Lib.hid hmp
        have HCL := Lib.hid hcl
        have HZW := Lib.hid hzW
        have HZ9 := Lib.hid hz9
        have HH9 := Lib.hid h9
        have HRL := Lib.hid hrl
        have HDL := Lib.hid hDlt
        clear hrec hmap hmp hcl hw9 hzW hz9 h9 hrl hz bv hTW bxW hDlt
        have hcrl : cr.length ≤ 200000 := by have := congrArg List.length HMP.out; rw [List.length_map] at this; have := HCL.out; omega
        have HCR := Lib.hid hcrl
        clear hcrl
        have hsw : s + 1 ≤ wx.heap.size := by omega
        refine (wpIn_wide (n := 8)).1 ?_
        refine wpIn_rangeFunc_ownG (n := 8) rfl (by omega) (gf := 102) (lb := #[.pointer (some ⟨z + 1, 0, none⟩), .pointer (some ⟨z, 0, none⟩)]) rfl trivial (enters_of Try.func102 (by kernel_rfl) rfl)
          (chain_stops (α := RF l.length) Subtype.val (8 - 1) (by omega) p B 0 cap z (z + 1) k l cr hib hll1 h41 w9 hT9 bct bci hch)
          Keep.trans (fun W l o o' _ h hc _ => Keep.putObj W l o o' h hc) (Below.refl _ _) (fun _ => rfl)
          (fun pr V => ((∃ v, Boxed V (s + 1) 40 v ∧ V.ownsRow (s + 2) 43 2 v (recsL C k ++ pr.map (·.1.1)).length (cellsE l (recsL C k ++ pr.map (·.1.1)))) ∧ (∀ D ∈ Ds, V.heap[D]? = some (.deferred (some []))) ∧ Boxed V z 92 (.pointer (some ⟨p, 0, none⟩)) ∧ Boxed V (z + 1) 3 (.int .i64 (k : Nat)) ∧ z + 2 ≤ V.heap.size) ∧ Below (s + 1) wx V)
          (fun c pr V => False)
          ?hI ?hIx ?h0
          (fun y => { tmps := #[.slice A l.length c, undef, .slice none 0 0, .int .i64 0, .pointer (some ⟨s, 0, none⟩), .int .i64 0, .pointer (some ⟨s + 1, 0, none⟩), .int .i64 (k : Nat), .int .i64 (y.1.1 : Nat), .tuple #[.pointer (some ⟨p, 0, none⟩), .int .i64 0], .slice A l.length c, .tuple #[.pointer (some ⟨p, 0, none⟩), .int .i64 0], .pointer (some ⟨p, 0, none⟩), .int .i64 0, .int .i64 0, .bool false, undef, .pointer (some ⟨p, 0, none⟩), .pointer (some ⟨p, 0, none⟩), .pointer (some ⟨p, 0, none⟩), .slice (some ⟨B, 0, none⟩) l.length cap, .pointer (some ⟨B, 1, none⟩), .int .i64 (bkts n : Nat), .int .i64 (k : Nat), .bool true, .int .i64 (k : Nat), .pointer (some ⟨p, 0, none⟩), .int .i64 (k : Nat), .func (Fn.func 102) #[] #[.pointer (some ⟨z + 1, 0, none⟩), .pointer (some ⟨z, 0, none⟩)], .int .i64 (y.1.1 : Nat), .int .i64 (y.1.2 : Nat), undef, undef, undef, undef, undef, undef, undef, u38, undef], defers := [] }) ?assign ?body ?done ?stop
        case hI =>
          refine OwnFrom.and (fun pr A B row hs hg hr => ?_) (ownFrom_below hsw (by have := HZ9.out; omega))
          have hk := keep_of_own hg hr
          obtain ⟨⟨v, k1, k4⟩, k5, k6, k7, k2⟩ := hs
          refine ⟨⟨v, hk _ _ trivial k1 rfl, own_keepS k4 hk⟩, fun D hD => ?_, hk _ _ trivial k6 rfl, hk _ _ trivial k7 rfl, Nat.le_trans k2 hg.size⟩
          have h2 := k5 D hD
          rw [hg.block D (lt_heap h2) (fun e => by obtain ⟨h3, _⟩ := hr D e.symm; have := (HDL.out D hD).2; have := HZ9.out; omega)]
          exact h2
        case hIx =>
          intro c pr A B row hs hg hr
          exact hs.elim
        case h0 => exact ⟨⟨⟨_, bv9, by simpa using hr9⟩, hd9, bt9, bi9, by have := HZ9.out; omega⟩, hB9⟩
        case assign =>
          intro L y W K hK
          dsimp only [encRF]
          gi_wp2
          exact hK
        case body =>
          rintro L pr y V ⟨⟨⟨v, k1, kr⟩, k2, k3, k4, k5⟩, hB⟩ hlt
          have hy1 := y.2.1
          have hy2 := y.2.2
          have cx := (hbx V hB).cell
          have co := k1.cell
          have fo := k1.frozen
          have hT1 := hTb V hB
          have hnl : (recsL C k ++ pr.map (·.1.1)).length ≤ 1000000 := by have := HRL.out; have := HCR.out; simp; omega
          obtain ⟨rs, hrs⟩ : ∃ rs, rs = recsL C k ++ pr.map (·.1.1) := ⟨_, rfl⟩
          rw [← hrs] at kr hnl
          have KR := Lib.hid kr
          have HRS := Lib.hid hrs
          have n3 := k3.not_row (by decide) kr
          have n4 := k4.not_row (by decide) kr
          clear kr hrs
          gi_wp2
          gi_region_with (first
            | (refine ⟨trivial, ?_⟩; gi_at_call 73; refine (CallsIn.inRound L (callsIn_wide.2 (record_any p (y.1.1 : Nat) _ (by omega) (by omega)))).mono ?_; rintro e V1 ⟨rfl, hb1⟩; rw [Int.toNat_natCast]; have co1 := cell_below hb1 (show V.drew.cell? ⟨s + 1, 0, none⟩ = _ from co))
            | (refine ⟨trivial, ?_⟩; gi_at_call 77; refine (CallsIn.inRound L (callsIn_wide.2 (elem_any V1 p B 0 cap l (hT1.drew.below hb1).r ((recAt y.1.1 : Nat) : Int) (by omega) (by omega) (by omega)))).mono ?_; rintro e V2 ⟨rfl, hb2⟩; rw [Int.toNat_natCast]; have hb12 : Below V.heap.size V V2 := ((Below.refl _ _).drew.trans hb1).trans (hb2.mono hb1.size); have no5 := boxed_below k1 hb12; have co5 := no5.cell; have co6 := (no5.alloc (.cells #[.int .i64 (ati l (recAt y.1.1)), .int .i64 (ati l (recAt y.1.1 + 1))] 43)).cell; have fo5 := no5.frozen; have nr5 := own_move (w1 := V2) KR.out (fun j hj => hb12.block j (KR.out.lt j hj).2); have nz5 : s + 2 ≤ V2.heap.size := (by have := hb12.size; omega); obtain ⟨g', cap', V6, hrun, hown', hgrow⟩ := app_fact43 nr5 nz5 hnl (ati l (recAt y.1.1)) (ati l (recAt y.1.1 + 1)); obtain ⟨hv1, hv2, hr2, hk2, hb6, hsame⟩ := boxed_appended (n₀ := s + 1) no5 (by decide) nr5 nz5 (by omega) (Nat.le_refl _) hown' hgrow; have cv1 := hv1.cell; have fv1 := hv1.frozen; have HO6 := Lib.hid hown'; have HR5 := Lib.hid nr5; have HR6 := Lib.hid hr2; clear hown' nr5 hr2)
            | (rw [hrun]))
          all_goals
            gi_wp2
            have hz12 := hb12.size
            have hat : ∀ j, j = p ∨ j = B ∨ j = z ∨ j = z + 1 → (V6.setCell ⟨s + 1, 0, none⟩ (.slice (some ⟨g', 0, none⟩) (rs.length + 1) cap')).heap[j]? = V.heap[j]? := fun j hj => by
              have hjl : j < V.heap.size := by have := hB.size; rcases hj with rfl | rfl | rfl | rfl <;> omega
              have ho : v.ownBlock ≠ some j := by
                rcases hj with rfl | rfl | rfl | rfl
                · intro e; have := (KR.out.lt _ e).1; omega
                · intro e; have := (KR.out.lt _ e).1; omega
                · exact fun e => n3 e.symm
                · exact fun e => n4 e.symm
              exact (app_same hgrow j (by omega) (by rcases hj with rfl | rfl | rfl | rfl <;> omega) ho).trans (hb12.block j hjl)
            have hkk := (keepsOthers_of_below hb12).trans hk2
            refine ⟨hkk.from _, keep_of_same hat, ⟨⟨_, hv2, ?_⟩, fun D hD => ?_, (hat z (by simp)).trans k3, (hat (z + 1) (by simp)).trans k4, Nat.le_trans k5 hkk.size⟩, (hB.trans (hb12.mono (by omega))).trans hb6⟩
            · have := HR6.out
              rw [show recsL C k ++ (pr ++ [y]).map (·.1.1) = rs ++ [y.1.1] by rw [HRS.out]; simp, List.length_append, cellsE_append]
              exact this
            · have h2 := k2 D hD
              exact hkk.same D _ h2 rfl
        case done =>
          rintro D ys V hD rfl ⟨⟨⟨v, k1, kr⟩, k2, k3, k4, k5⟩, hB⟩ hK
          have e1 : IntKind.i64.wrap ((k : Int) + 1) = (k : Int) + 1 := IntWalk.i64_in _ (by omega)
          rw [HMP.out] at kr
          have KR := Lib.hid kr
          have K2 := Lib.hid k2
          have HK := Lib.hid hK
          clear kr k2 hK
          gi_wp2
          go_wp2
          refine ⟨⟨k + 1, D :: Ds, v, _, _, _, _, _, _, _, by omega, rfl, hB, k1, KR.out, by omega, ?_, ?_⟩, ?_⟩
          · refine List.nodup_cons.2 ⟨fun hm => ?_, hnd⟩
            have := (HDL.out D hm).2
            have := HZ9.out
            omega
          · intro E hE
            rcases List.mem_cons.1 hE with rfl | hE
            · exact ⟨by have := HZ9.out; omega, HK.out⟩
            · exact ⟨(HDL.out E hE).1, K2.out E hE⟩
          · simp [intOf]; omega
        case stop =>
          rintro D c pre W _ _ h _
          exact h.elim
      · have hkk : k = bkts n := by omega
        subst hkk
        have hk' : ¬ ((bkts n : Nat) : Int) < (bkts n : Int) := by omega
        have co := bv.cell
        have HR := Lib.hid hrow
        have HD := Lib.hid hds
        clear hrow hds
        go_wp2
        refine leaves_marks Ds _ hnd (fun D hD => (HD.out D hD).2) (fun W' h1 h2 h3 h4 h5 => ?_)
        refine ⟨.tuple #[v, .int .i64 0], by simp [results, Try.results28, go_sem], .inr ⟨HV.out, ?_⟩, ?_⟩
        · refine ⟨n, C, v, HH.out, HG.out, rfl, ?_⟩
          refine ownsRow_lower (own_move HR.out (fun j hj => h5 j fun hm => ?_)) (by omega)
          have h6 := (HD.out j hm).2
          rcases HR.out.2 with ⟨rfl, _⟩ | ⟨g, cap, cur, rfl, _, hgb, _⟩
          · simp [Value.ownBlock] at hj
          · simp [Value.ownBlock] at hj
            subst hj
            rw [hgb] at h6
            cases h6
        · have hb := hBwx.trans (hBW.mono (by omega))
          exact ⟨h1.trans hb.os, h2.trans hb.tape, h3.trans hb.output, by rw [h4]; exact hb.size, fun j hj => (h5 j fun hm => by have := (HD.out j hm).1; omega).trans (hb.block j hj)⟩
  · have HOP := Lib.hid hop
    clear hop
    go_enter Try.func28, Try.ntmps28
    go_wp2_with fail
    refine HOP.out.mono ?_
    rintro e w1 ⟨(⟨h1, rfl⟩ | ⟨h1, h2, rfl⟩ | ⟨h1, h2, _⟩), hB1⟩
    · go_wp2
      refine bodyPost_ret (v := .tuple #[.slice none 0 0, .int .i64 600]) (by simp [results, Try.results28, go_sem]) rfl ?_
      exact ⟨.inl ⟨h1, rfl⟩, hB1.alloc hB1.size _⟩
    · exact absurd h1 hV
    · exact absurd h1 hV
end Go.Proofs.Ytdcomhdadnhpnaa
