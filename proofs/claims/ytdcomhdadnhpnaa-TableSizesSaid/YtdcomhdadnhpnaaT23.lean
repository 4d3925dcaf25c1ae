/- (t) Find, as the package gives it. -/
import Derived.Test.YtdcomhdadnhpnaaT22
set_option linter.unusedSimpArgs false
set_option linter.unusedVariables false
namespace Go.Proofs.Ytdcomhdadnhpnaa
open Go.RowKit Go.Shelf
open Go.Proofs.YtdcomhdadnhpnaaW.PrintWords (own_move)
attribute [local irreducible] wpStill
attribute [local go_sem] Oper.semAt_some

/-- the words of the records with a hash -/
def outL (l : List Int) (h : Int) (rs : List Nat) : List Int := (rs.filter (fun r => decide (ati l (recAt r) = h))).map (fun r => ati l (recAt r + 1))
/-- what Find returns -/
def FindE (base : Nat) (l : List Int) (h : Int) (e : Ending) (W' : World) : Prop :=
  (¬ ValidL l ∧ e = .returned (.tuple #[.slice none 0 0, .int .i64 0, .int .i64 600])) ∨
  (ValidL l ∧ ¬ (0 ≤ h ∧ h ≤ 2147483647) ∧ e = .returned (.tuple #[.slice none 0 0, .int .i64 0, .int .i64 1])) ∨
  (ValidL l ∧ (0 ≤ h ∧ h ≤ 2147483647) ∧ ∃ n C v, HeadOk l n ∧ G l n (bkts n) C ∧
    e = .returned (.tuple #[v, .int .i64 (min (C (bkt h.toNat (bkts n))).length ((preR l h (C (bkt h.toNat (bkts n)))).length + 1) : Nat), .int .i64 0]) ∧
    W'.ownsRow base 3 1 v (outL l h (C (bkt h.toNat (bkts n)))).length ((outL l h (C (bkt h.toNat (bkts n)))).map (Value.int .i64)))

theorem own_keep {W W' : World} {base n : Nat} {e : TypeId} {v : Value} {xs : List Value} (h : W.ownsRow base e 1 v n xs) (hk : Keep (fun _ => True) W W') : W'.ownsRow base e 1 v n xs :=
  ⟨h.1, h.2.imp id (fun ⟨g, c, cur, e1, e2, hg, r⟩ => ⟨g, c, cur, e1, e2, hk g _ trivial hg rfl, r⟩)⟩
/-- append, as one word that simp leaves alone -/
noncomputable def appS (ats : Array TypeId) (ty : TypeId) (args : Array Value) : Sem Value := Builtin.append_ ats ty args
theorem append_fold (ats : Array TypeId) (ty : TypeId) (args : Array Value) : Builtin.append_ ats ty args = appS ats ty args := rfl
theorem app_fact {V : World} {base k : Nat} {v : Value} {xs : List Value} (h : V.ownsRow base 3 1 v k xs) (hb : base ≤ V.heap.size) (hk : k ≤ 1000000) (x : Int) :
    ∃ g cap V6, (appS #[31, 31] 31 #[v, .slice (some ⟨V.heap.size, 0, none⟩) 1 1]).run Try.prog (V.alloc (.cells #[.int .i64 x] 3)) = .ok (.slice (some ⟨g, 0, none⟩) (k + 1) cap) V6 ∧
      V6.ownsRow base 3 1 (.slice (some ⟨g, 0, none⟩) (k + 1) cap) (k + 1) (xs ++ [.int .i64 x]) ∧ (V.alloc (.cells #[.int .i64 x] 3)).grownBy V6 v.ownBlock := by
  obtain ⟨i0, hinf, hz0, hz1, hz2⟩ := info_parts info3
  obtain ⟨v', w', hrun, hown, hg, _, _⟩ := run_append_own_at (P := Try.prog) (w := V.alloc (.cells #[.int .i64 x] 3)) base 31 31 3 i0 (.int .i64 0) 1 8 Try.underlying31 hinf hz0 hz1 hz2 rfl (by decide) v k xs (h.alloc _) ⟨V.heap.size, 0, none⟩ 1 1 [.int .i64 x] rfl (cell_one_new _ _ _) (by simp [Value.oneCell']) (by unfold maxLen; omega) (by omega) (by simp; omega)
  obtain ⟨g, cap, rfl⟩ := ownsRow_succ hown
  exact ⟨g, cap, w', hrun, hown, hg⟩
theorem own_form {W : World} {base n : Nat} {e : TypeId} {size : Nat} {v : Value} {xs : List Value} (h : W.ownsRow base e size v n xs) : ∃ A c, v = .slice A n c := by
  rcases h.2 with ⟨rfl, rfl⟩ | ⟨g, c, cur, rfl, _⟩
  · exact ⟨_, _, rfl⟩
  · exact ⟨_, _, rfl⟩
theorem outL_snoc (l : List Int) (h : Int) (rs : List Nat) (r : Nat) : outL l h (rs ++ [r]) = outL l h rs ++ (if ati l (recAt r) = h then [ati l (recAt r + 1)] else []) := by
  unfold outL
  rw [List.filter_append, List.map_append]
  congr 1
  by_cases e : ati l (recAt r) = h <;> simp [e]
theorem outL_stop {l : List Int} {h : Int} {a b : List Nat} {r : Nat} (hr : h < ati l (recAt r)) (hs : (a ++ r :: b).Pairwise (fun r s => ati l (recAt r) ≤ ati l (recAt s))) : outL l h (a ++ r :: b) = outL l h a := by
  unfold outL
  rw [List.filter_append]
  have : (r :: b).filter (fun r => decide (ati l (recAt r) = h)) = [] := by
    rw [List.filter_eq_nil_iff]
    intro q hq
    have h2 := List.pairwise_cons.1 (List.pairwise_append.1 hs).2.1
    have : ati l (recAt r) ≤ ati l (recAt q) := by
      rcases List.mem_cons.1 hq with rfl | hq
      · omega
      · exact h2.1 q hq
    simp; omega
  rw [this, List.append_nil]
theorem outL_len (l : List Int) (h : Int) (rs : List Nat) : (outL l h rs).length ≤ rs.length := by unfold outL; rw [List.length_map]; exact List.length_filter_le _ _

attribute [local go_sem ↓ high] append_fold
set_option maxRecDepth 100000 in
set_option maxHeartbeats 8000000 in
theorem findX_any (A : Option Addr) (c : Nat) (l : List Int) (h : Int) (w : World) (hR : RdL w A l) :
    Calls Try.prog 26 #[.slice A l.length c, .int .i64 h] w fun e W' => FindE w.heap.size l h e W' ∧ Below w.heap.size w W' := by
  have hB0 : Below w.heap.size w (w.alloc (.cells #[.int .i64 h] 3)) := (Below.refl _ _).alloc (Nat.le_refl _) _
  have hb0 : Boxed (w.alloc (.cells #[.int .i64 h] 3)) w.heap.size 3 (.int .i64 h) := Boxed.new _ _ _
  have hz0 : (w.alloc (.cells #[.int .i64 h] 3)).heap.size = w.heap.size + 1 := by simp
  have hop := opened_any A c l h _ (hR.below hB0)
  by_cases hV : ValidL l ∧ (0 ≤ h ∧ h ≤ 2147483647)
  · obtain ⟨hV, hh⟩ := hV
    obtain ⟨C, hH, g⟩ := validL_iff.1 hV
    generalize (ati l 0).toNat = n at hH g
    have hop2 : Calls Try.prog 69 #[.slice A l.length c, .int .i64 h] (w.alloc (.cells #[.int .i64 h] 3)) fun e W' => (∃ p B cap, e = .returned (.tuple #[.pointer (some ⟨p, 0, none⟩), .int .i64 0]) ∧ Tb (w.heap.size + 1) W' p B cap l) ∧ Below (w.heap.size + 1) (w.alloc (.cells #[.int .i64 h] 3)) W' := by
      rw [← hz0]
      refine hop.mono ?_
      rintro e W' ⟨(⟨h1, _⟩ | ⟨_, h1, _⟩ | ⟨_, _, h1⟩), h2⟩
      · exact absurd hV h1
      · exact absurd hh h1
      · exact ⟨h1, h2⟩
    have hlen := hH.len
    have hl60 := wlen_ge n
    have hnn := g.n1
    have hll := wlen_le n (by omega)
    have hb1 := bkts_le n (by omega)
    have hbp := bkts_pos n
    have ha1 := hH.b1
    have HG := Lib.hid g
    have HH := Lib.hid hH
    have HV := Lib.hid (And.intro hV hh)
    have hh1 := hh.1
    have hh2 := hh.2
    have HOP := Lib.hid hop2
    have HL := Lib.hid hlen
    clear hop hop2 g hH hV hh hlen
    refine (callsIn_wide (n := 8)).1 ?_
    refine callsIn_of_wp_marks Try.func26 rfl trivial ?_ rfl
    simp only [Try.ntmps26, List.size_toArray, List.length_cons, List.length_nil, Nat.reduceAdd, Nat.reduceSub, Array.replicate_succ, Array.replicate_zero, List.push_toArray, List.append_toArray, List.nil_append, List.cons_append]
    refine wpIn_wide.2 ?_
    have ct0 := hb0.cell
    go_wp2_with (go_at_call 69; refine HOP.out.mono ?_; rintro e w1 ⟨⟨p, B, cap, rfl, hT⟩, hB1⟩)
    obtain ⟨n₀, hn0⟩ : ∃ n₀, n₀ = w.heap.size := ⟨_, rfl⟩
    obtain ⟨s, hs⟩ : ∃ s, s = w1.heap.size := ⟨_, rfl⟩
    have hs1 := hB1.size
    rw [hz0] at hs1
    rw [← hn0, ← hs]
    have hi := bkt_lt h.toNat (b := bkts n) (by omega)
    obtain ⟨w2, hw2⟩ : ∃ w2, w2 = ((w1.alloc (.cells #[.pointer (some ⟨p, 0, none⟩)] 92)).alloc (.cells #[.slice none 0 0] 31)).alloc (.cells #[.int .i64 0] 3) := ⟨_, rfl⟩
    have bx : Boxed w2 s 92 (.pointer (some ⟨p, 0, none⟩)) := by rw [hw2, hs]; exact ((Boxed.new _ _ _).alloc _).alloc _
    have bo : Boxed w2 (s + 1) 31 (.slice none 0 0) := by
      have h := (Boxed.new (w1.alloc (.cells #[.pointer (some ⟨p, 0, none⟩)] 92)) 31 (.slice none 0 0)).alloc (.cells #[.int .i64 0] 3)
      rw [World.size_alloc, ← hs] at h; rw [hw2]; exact h
    have bl : Boxed w2 (s + 2) 3 (.int .i64 0) := by
      have h := Boxed.new ((w1.alloc (.cells #[.pointer (some ⟨p, 0, none⟩)] 92)).alloc (.cells #[.slice none 0 0] 31)) 3 (.int .i64 0)
      rw [World.size_alloc, World.size_alloc, ← hs] at h; rw [hw2]; exact h
    have hB2 : Below s w1 w2 := by rw [hw2, hs]; exact (((Below.refl _ _).alloc (Nat.le_refl _) _).alloc (by simp) _).alloc (by simp; omega) _
    have hz2 : w2.heap.size = s + 3 := by rw [hw2, hs]; simp
    have hT2 := hT.below (by rw [← hs]; exact hB2)
    obtain ⟨wx, hwx⟩ : ∃ wx, wx = w1.alloc (.cells #[.pointer (some ⟨p, 0, none⟩)] 92) := ⟨_, rfl⟩
    have hzx : wx.heap.size = s + 1 := by rw [hwx, hs]; simp
    have hTx : Tb (w.heap.size + 1) wx p B cap l := by rw [hwx]; exact hT.alloc _
    have bxx : Boxed wx s 92 (.pointer (some ⟨p, 0, none⟩)) := by rw [hwx, hs]; exact Boxed.new _ _ _
    have hBx1 : Below s w1 wx := by rw [hwx, hs]; exact (Below.refl _ _).alloc (Nat.le_refl _) _
    have hB2x : Below (s + 1) wx w2 := by rw [hw2, ← hwx, ← hzx]; exact ((Below.refl _ _).alloc (Nat.le_refl _) _).alloc (by simp) _
    have hps : p < s := by rw [hs]; exact hT.ltp
    have hBs : B < s := by rw [hs]; exact hT.ltB
    have hBn : Below (n₀ + 1) (w.alloc (.cells #[.int .i64 h] 3)) w2 := by rw [hn0]; exact hB1.trans (hB2.mono (by omega))
    have bh : Boxed w2 n₀ 3 (.int .i64 h) := (hBn.block n₀ (by omega)).trans (by rw [hn0]; exact hb0)
    have hB3 : Below w.heap.size w w2 := hB0.trans (hBn.mono (by omega))
    have hBnx : Below (n₀ + 1) (w.alloc (.cells #[.int .i64 h] 3)) wx := by rw [hn0]; exact hB1.trans (hBx1.mono (by omega))
    have bhx : Boxed wx n₀ 3 (.int .i64 h) := (hBnx.block n₀ (by omega)).trans (by rw [hn0]; exact hb0)
    have hBwx : Below w.heap.size w wx := hB0.trans (hBnx.mono (by omega))
    rw [← hw2]
    have HN := Lib.hid hn0
    have HS := Lib.hid hs
    have HW2 := Lib.hid hB2
    have hns : n₀ < s := by omega
    clear hwx hBnx hBx1
    clear hw2 hn0 hs hB0 hb0 hz0 hB1 hB2 hBn ct0 hT hR
    have HZ2 := Lib.hid hz2
    clear hz2
    have cx := bx.cell
    have chh := bh.cell
    have hp2 := hT2.head
    have c1 := hT2.cell 1 (by have := HL.out; omega)
    rw [ha1] at c1
    have i1 : (1 : Int) < (l.length : Int) := by have := HL.out; omega
    go_cut [31] from 22 (fun v31 V => v31 = .func (.func 102) #[] #[.pointer (some ⟨s + 3 + 1, 0, none⟩), .pointer (some ⟨s + 3, 0, none⟩)] ∧
      V.heap.size = s + 5 ∧ Below (s + 3) w2 V ∧ V.cell? ⟨s + 3, 0, none⟩ = some (.pointer (some ⟨p, 0, none⟩)) ∧ V.cell? ⟨s + 3 + 1, 0, none⟩ = some (.int .i64 (bkt h.toNat (bkts n) : Nat)))
    case first =>
      rename_i J K' hJ hK'
      go_region_held3 (fun w' => w'.cell? ⟨s, 0, none⟩ = some (.pointer (some ⟨p, 0, none⟩)) ∧ w'.cell? ⟨n₀, 0, none⟩ = some (.int .i64 h) ∧ w'.cell? ⟨p, 0, none⟩ = some (.slice (some ⟨B, 0, none⟩) l.length cap) ∧ w'.cell? ⟨B, 1, none⟩ = some (.int .i64 (bkts n : Nat))) (simp [*, World.cell?_alloc_some]) (first
        | (go_at_call 66; refine (bucket_any h (bkts n : Int) _ hh1 (by omega) (by omega) (by omega)).mono ?_; rintro e wa ⟨rfl, hwa⟩; rw [show ((bkts n : Nat) : Int).toNat = bkts n from by omega, hwa]; clear hwa wa)
        | (go_at_call 72; refine (chain_any p _ _).mono ?_; rintro e wc ⟨rfl, rfl⟩))
      all_goals
        refine hK' _ _ (Met.intro (hJ _ _ ?_))
        (repeat apply Exists.intro)
        refine ⟨?rel, rfl⟩
        case rel =>
          have hz2 := HZ2.out
          refine ⟨by rw [← hz2], by simp [hz2], (((Below.refl _ _).alloc (by omega) _).alloc (by simp; omega) _).drew, ?_, ?_⟩
          · have h := ((Boxed.new w2 92 (.pointer (some ⟨p, 0, none⟩))).alloc (.cells #[.int .i64 (bkt h.toNat (bkts n) : Nat)] 3)).cell
            rw [hz2] at h; exact h
          · have h := (Boxed.new (w2.alloc (.cells #[.pointer (some ⟨p, 0, none⟩)] 92)) 3 (.int .i64 (bkt h.toNat (bkts n) : Nat))).cell
            rw [World.size_alloc, hz2] at h; exact h
    case rest =>
      obtain ⟨rfl, hz9, hB9, bct, bci⟩ := hcut
      go_wp2
      have hz2 := HZ2.out
      have hB9x : Below (s + 1) wx wc := hB2x.trans (hB9.mono (by omega))
      have bo9 : Boxed wc (s + 1) 31 (.slice none 0 0) := (hB9.block (s + 1) (by omega)).trans bo
      have bl9 : Boxed wc (s + 1 + 1) 3 (.int .i64 0) := (hB9.block (s + 2) (by omega)).trans bl
      have hTb : ∀ W, Below (s + 1) wx W → Tb (w.heap.size + 1) W p B cap l := fun W hb => hTx.below (by rw [hzx]; exact hb)
      have hbx : ∀ W, Below (s + 1) wx W → Boxed W s 92 (.pointer (some ⟨p, 0, none⟩)) := fun W hb => (hb.block s (by omega)).trans bxx
      have hbh : ∀ W, Below (s + 1) wx W → Boxed W n₀ 3 (.int .i64 h) := fun W hb => (hb.block n₀ (by omega)).trans bhx
      have hT9 := (hTb wc hB9x).r
      clear hp2 c1 cx chh bx bo bl bh hT2 hz2 hB9 hB2x
      obtain ⟨i, hii⟩ : ∃ i, i = bkt h.toNat (bkts n) := ⟨_, rfl⟩
      rw [← hii] at bci hi
      have hll1 : l.length ≤ 100000000 := by have := HL.out; omega
      have h41 : 4 ≤ l.length := by have := HL.out; omega
      have hib : i ≤ 1000000 := by omega
      have hrec : ∀ q ∈ wf (headAt i) (C i), recAt q.1 + 2 < l.length ∧ q.1 ≤ 100000 := fun q hq => by
        have hm : q.1 ∈ C i := by rw [← wf_map (headAt i) (C i)]; exact List.mem_map_of_mem hq
        have := HG.out.lt hi hm
        exact ⟨HG.out.rl _ this, by omega⟩
      have hch := (HG.out.chn i hi).chn
      have hmap := toRF_map l.length (wf (headAt i) (C i)) hrec
      have hcl := HG.out.clen hi
      have hsrt := HG.out.srt i hi
      generalize toRF l.length (wf (headAt i) (C i)) hrec = cr at hmap
      rw [← hmap] at hch
      have hcrl : cr.length = (C i).length := by have := congrArg List.length hmap; rw [wf_len, List.length_map] at this; exact this
      have HMAP := Lib.hid hmap
      have HCRL := Lib.hid hcrl
      have HCL := Lib.hid hcl
      have HSRT := Lib.hid hsrt
      have HII := Lib.hid hii
      clear hrec hmap hcrl hcl hsrt hii
      have hsw : s + 1 ≤ wx.heap.size := by omega
      have HZ9 := Lib.hid hz9
      clear hz9
      have hfin : ∀ (D : Nat) (W : World) (v : Value) (lk : Nat), s + 5 ≤ D → Below (s + 1) wx W → W.ownsRow (s + 5) 3 1 v (outL l h (C i)).length ((outL l h (C i)).map (Value.int .i64)) → W.heap[D]? = some (.deferred (some [])) →
          lk = min (C i).length ((preR l h (C i)).length + 1) → FindE w.heap.size l h (.returned (.tuple #[v, .int .i64 (lk : Nat), .int .i64 0])) (W.putObj D (.deferred none)) ∧ Below w.heap.size w (W.putObj D (.deferred none)) := fun D W v lk hD hB hr hK hlk => by
        have hN := HN.out
        have hBW := hBwx.trans (hB.mono (by omega))
        refine ⟨.inr (.inr ⟨HV.out.1, HV.out.2, n, C, v, HH.out, HG.out, by rw [← HII.out, hlk], ?_⟩), ⟨hBW.os, hBW.tape, hBW.output, by have := hBW.size; simpa [World.putObj] using this, fun k hk => (World.putObj_heap_other (by omega)).trans (hBW.block k hk)⟩⟩
        rw [← HII.out]
        exact ownsRow_lower (ownsRow_putObj hr _ hK rfl) (by omega)
      refine (wpIn_wide (n := 8)).1 ?_
      refine wpIn_rangeFunc_ownG (n := 8) rfl (by omega) (gf := 102) (lb := #[.pointer (some ⟨s + 3 + 1, 0, none⟩), .pointer (some ⟨s + 3, 0, none⟩)]) rfl trivial (enters_of Try.func102 (by kernel_rfl) rfl)
        (chain_stops (α := RF l.length) Subtype.val (8 - 1) (by omega) p B 0 cap (s + 3) (s + 3 + 1) i l cr hib hll1 h41 wc hT9 bct bci hch)
        Keep.trans (fun W l o o' _ h hc _ => Keep.putObj W l o o' h hc) (Below.refl _ _) (fun _ => rfl)
        (fun pr W => (Boxed W (s + 1 + 1) 3 (.int .i64 (pr.length : Nat)) ∧ (∃ v, Boxed W (s + 1) 31 v ∧ W.ownsRow (s + 5) 3 1 v (outL l h (pr.map (·.1.1))).length ((outL l h (pr.map (·.1.1))).map (Value.int .i64))) ∧ s + 5 ≤ W.heap.size ∧ ∀ q ∈ pr, ati l (recAt q.1.1) ≤ h) ∧ Below (s + 1) wx W)
        (fun c pr W => (c = .exit 0 ∧ ∃ pr' y, pr = pr' ++ [y] ∧ (∀ q ∈ pr', ati l (recAt q.1.1) ≤ h) ∧ h < ati l (recAt y.1.1) ∧ Boxed W (s + 1 + 1) 3 (.int .i64 (pr.length : Nat)) ∧
          (∃ v, Boxed W (s + 1) 31 v ∧ W.ownsRow (s + 5) 3 1 v (outL l h (pr'.map (·.1.1))).length ((outL l h (pr'.map (·.1.1))).map (Value.int .i64)))) ∧ Below (s + 1) wx W)
        ?hI ?hIx ?h0
        (fun y => { tmps := #[.slice A l.length c, .int .i64 h, undef, .pointer (some ⟨n₀, 0, none⟩), .slice none 0 0, .int .i64 0, .int .i64 0, .pointer (some ⟨s, 0, none⟩), .int .i64 0, .pointer (some ⟨s + 1, 0, none⟩), .pointer (some ⟨s + 1 + 1, 0, none⟩), .int .i64 (y.1.1 : Nat), undef, .tuple #[.pointer (some ⟨p, 0, none⟩), .int .i64 0], .slice A l.length c, .int .i64 h, .tuple #[.pointer (some ⟨p, 0, none⟩), .int .i64 0], .pointer (some ⟨p, 0, none⟩), .int .i64 0, .int .i64 0, .bool false, undef, u22, u23, u24, u25, u26, u27, u28, u29, u30, .func (Fn.func 102) #[] #[.pointer (some ⟨s + 3 + 1, 0, none⟩), .pointer (some ⟨s + 3, 0, none⟩)], .int .i64 (y.1.1 : Nat), .int .i64 (y.1.2 : Nat), u34, u35, u36, u37, u38, u39, u40, u41, u42, u43, u44, u45, u46, u47, u48, u49, u50, u51, u52, u53], defers := [] }) ?assign ?body ?done ?stop
      case hI =>
        refine OwnFrom.and (fun pr A B row hs hg hr => ?_) (ownFrom_below hsw (by have := HZ9.out; omega))
        have hk := keep_of_own hg hr
        obtain ⟨k0, ⟨v, k1, k4⟩, k2, k3⟩ := hs
        exact ⟨hk _ _ trivial k0 rfl, ⟨v, hk _ _ trivial k1 rfl, own_keep k4 hk⟩, Nat.le_trans k2 hg.size, k3⟩
      case hIx =>
        intro c
        refine OwnFrom.and (fun pr A B row hs hg hr => ?_) (ownFrom_below hsw (by have := HZ9.out; omega))
        have hk := keep_of_own hg hr
        obtain ⟨k0, pr', y, k1, k2, k3, k4, v, k5, k6⟩ := hs
        exact ⟨k0, pr', y, k1, k2, k3, hk _ _ trivial k4 rfl, v, hk _ _ trivial k5 rfl, own_keep k6 hk⟩
      case h0 => exact ⟨⟨bl9, ⟨_, bo9, World.ownsRow_nil _ _ _ _⟩, by have := HZ9.out; omega, fun q hq => by cases hq⟩, hB9x⟩
      case assign =>
        intro L y W K hK
        dsimp only [encRF]
        gi_wp2
        exact hK
      case body =>
        rintro L pr y W ⟨⟨k0, ⟨v, k1, kr⟩, k2, k3⟩, hB⟩ hlt
        have cl := k0.cell
        have fl := k0.frozen
        have hcl9 := HCL.out
        have hcr9 := HCRL.out
        have ex : IntKind.i64.wrap (((pr.length : Nat) : Int) + 1) = ((pr.length : Nat) : Int) + 1 := IntWalk.i64_in _ (by omega)
        have hy1 := y.2.1
        have hy2 := y.2.2
        have cx := ((hbx W hB).other (B' := s + 1 + 1) (by omega) (.int .i64 (((pr.length : Nat) : Int) + 1))).cell
        gi_wp2_with (refine ⟨trivial, ?_⟩; gi_at_call 73; refine (CallsIn.inRound L (callsIn_wide.2 (record_any p (y.1.1 : Nat) _ (by omega) (by omega)))).mono ?_; rintro e V1 ⟨rfl, hb1⟩; rw [Int.toNat_natCast])
        have hs1w : (W.setCell ⟨s + 1 + 1, 0, none⟩ (.int .i64 (((pr.length : Nat) : Int) + 1))).heap.size = W.heap.size := by simp [World.setCell]
        have jl1 : Boxed (W.setCell ⟨s + 1 + 1, 0, none⟩ (.int .i64 (((pr.length : Nat) : Int) + 1))) (s + 1 + 1) 3 (.int .i64 (((pr.length : Nat) : Int) + 1)) := k0.set _
        have jo1 := k1.other (B' := s + 1 + 1) (by omega) (.int .i64 (((pr.length : Nat) : Int) + 1))
        have jr1 := own_move (w1 := W.setCell ⟨s + 1 + 1, 0, none⟩ (.int .i64 (((pr.length : Nat) : Int) + 1))) kr (fun k hk => Below.heap_setCell _ _ _ _ (by have := (kr.lt k hk).1; simp; omega))
        have jB1 : Below (s + 1) wx (W.setCell ⟨s + 1 + 1, 0, none⟩ (.int .i64 (((pr.length : Nat) : Int) + 1))) := hB.setCell (by simp) _
        have jK1 : Keep (fun k => k < s ∨ k = s + 3 ∨ k = s + 3 + 1) W (W.setCell ⟨s + 1 + 1, 0, none⟩ (.int .i64 (((pr.length : Nat) : Int) + 1))) := keep_of_same (fun k hk => Below.heap_setCell _ _ _ _ (by simp; omega))
        have jO1 : KeepsOthers W (W.setCell ⟨s + 1 + 1, 0, none⟩ (.int .i64 (((pr.length : Nat) : Int) + 1))) := KeepsOthers.setCell _ _ _
        have hb2 := hb1.alloc hb1.size (Obj.cells #[Value.pointer (some { block := p, off := 0 }), Value.int IntKind.i64 ((recAt y.1.1 : Nat) : Int)] 102)
        generalize W.setCell ⟨s + 1 + 1, 0, none⟩ (.int .i64 (((pr.length : Nat) : Int) + 1)) = W1 at *
        have hd1 : s + 5 ≤ V1.heap.size := by have := hb1.size; omega
        have jd : (V1.alloc (Obj.cells #[Value.pointer (some { block := p, off := 0 }), Value.int IntKind.i64 ((recAt y.1.1 : Nat) : Int)] 102)).heap[V1.heap.size]? = some (.cells #[Value.pointer (some { block := p, off := 0 }), Value.int IntKind.i64 ((recAt y.1.1 : Nat) : Int)] 102) := World.alloc_heap_new _ _
        have hd2 : V1.heap.size < (V1.alloc (Obj.cells #[Value.pointer (some { block := p, off := 0 }), Value.int IntKind.i64 ((recAt y.1.1 : Nat) : Int)] 102)).heap.size := by simp
        generalize V1.alloc (Obj.cells #[Value.pointer (some { block := p, off := 0 }), Value.int IntKind.i64 ((recAt y.1.1 : Nat) : Int)] 102) = V2 at *
        have jl := boxed_below jl1 hb2
        have jo := boxed_below jo1 hb2
        have jr := own_move (w1 := V2) jr1 (fun k hk => hb2.block k (jr1.lt k hk).2)
        have jB := jB1.trans (hb2.mono (by omega))
        have jK := jK1.trans (keep_of_same (fun k hk => hb2.block k (by omega)))
        have jO := jO1.trans (keepsOthers_of_below hb2)
        have jT := hTb V2 jB
        have jh := hbh V2 jB
        have cd0 : V2.cell? ⟨V1.heap.size, 0, none⟩ = some (.pointer (some ⟨p, 0, none⟩)) := (cell_of_heap jd).trans rfl
        have cd1 : V2.cell? ⟨V1.heap.size, 1, none⟩ = some (.int .i64 ((recAt y.1.1 : Nat) : Int)) := (cell_of_heap jd).trans rfl
        have ch := jh.cell
        generalize hdd : V1.heap.size = d at *
        clear hb1 hb2 jl1 jo1 jr1 jB1 jK1 jO1 hs1w k0 k1 kr k2 hB cl fl cx ex hdd
        by_cases hit : h < ati l (recAt y.1.1)
        · gi_cut [42] from 39 (fun v V => v = .bool true ∧ Below V2.heap.size V2 V)
          case first =>
            rename_i J K' hJ hK'
            gi_region_with (first | (refine ⟨trivial, ?_⟩; gi_at_call 74; refine (CallsIn.inRound L (callsIn_wide.2 (hash_any V2.drew p B 0 cap l jT.drew.r ((recAt y.1.1 : Nat) : Int) (by omega) (by omega)))).mono ?_; rintro e V3 ⟨rfl, hb3⟩; have ch3 := cell_below hb3 (show V2.drew.cell? ⟨n₀, 0, none⟩ = _ from ch); rw [Int.toNat_natCast]))
            all_goals
              refine hK' _ _ (Met.intro (hJ _ _ ?_))
              (repeat apply Exists.intro)
              refine ⟨?rel, rfl⟩
              case rel => exact ⟨by simp [hit], (Below.refl _ _).drew.trans hb3⟩
          case rest =>
          obtain ⟨rfl, hb23⟩ := hcut
          gi_wp2
          have b0 := boxed_below jl hb23
          have b1 := boxed_below jo hb23
          refine ⟨(jO.trans (keepsOthers_of_below hb23)).from _, ⟨rfl, pr, y, rfl, k3, hit, by rw [show (((pr ++ [y]).length : Nat) : Int) = (pr.length : Nat) + 1 by simp]; exact b0, v, b1, own_move jr (fun k hk => hb23.block k (jr.lt k hk).2)⟩, jB.trans (hb23.mono (by omega))⟩
        · gi_cut [42] from 39 (fun v V => v = .bool false ∧ Below V2.heap.size V2 V)
          case first =>
            rename_i J K' hJ hK'
            gi_region_with (first | (refine ⟨trivial, ?_⟩; gi_at_call 74; refine (CallsIn.inRound L (callsIn_wide.2 (hash_any V2.drew p B 0 cap l jT.drew.r ((recAt y.1.1 : Nat) : Int) (by omega) (by omega)))).mono ?_; rintro e V3 ⟨rfl, hb3⟩; have ch3 := cell_below hb3 (show V2.drew.cell? ⟨n₀, 0, none⟩ = _ from ch); rw [Int.toNat_natCast]))
            all_goals
              refine hK' _ _ (Met.intro (hJ _ _ ?_))
              (repeat apply Exists.intro)
              refine ⟨?rel, rfl⟩
              case rel => exact ⟨by simp [hit], (Below.refl _ _).drew.trans hb3⟩
          case rest =>
          obtain ⟨rfl, hb23⟩ := hcut
          gi_wp2
          have hz3 := hb23.size
          have ml := boxed_below jl hb23
          have mo := boxed_below jo hb23
          have mr := own_move (w1 := wc) jr (fun k hk => hb23.block k (jr.lt k hk).2)
          have mB := jB.trans (hb23.mono (show s + 1 ≤ V2.heap.size by omega))
          have mK := jK.trans (keep_of_same (fun k hk => hb23.block k (by omega)))
          have mO := jO.trans (keepsOthers_of_below hb23)
          have mT := hTb wc mB
          have mh := hbh wc mB
          have md0 := cell_below hb23 cd0
          have md1 := cell_below hb23 cd1
          have mch := mh.cell
          have hd3 : d < wc.heap.size := by omega
          clear jl jo jr jB jK jO jT jh cd0 cd1 ch jd hb23
          by_cases heq : ati l (recAt y.1.1) = h
          · gi_cut [46] from 43 (fun v V => v = .bool true ∧ Below wc.heap.size wc V)
            case first =>
              rename_i J K' hJ hK'
              gi_region_with (first | (refine ⟨trivial, ?_⟩; gi_at_call 74; refine (CallsIn.inRound L (callsIn_wide.2 (hash_any wc.drew p B 0 cap l mT.drew.r ((recAt y.1.1 : Nat) : Int) (by omega) (by omega)))).mono ?_; rintro e V4 ⟨rfl, hb4⟩; have ch4 := cell_below hb4 (show wc.drew.cell? ⟨n₀, 0, none⟩ = _ from mch); rw [Int.toNat_natCast]))
              all_goals
                refine hK' _ _ (Met.intro (hJ _ _ ?_))
                (repeat apply Exists.intro)
                refine ⟨?rel, rfl⟩
                case rel => exact ⟨by simp [heq], (Below.refl _ _).drew.trans hb4⟩
            case rest =>
            obtain ⟨rfl, hb34⟩ := hcut
            have hz4 := hb34.size
            have nl := boxed_below ml hb34
            have no := boxed_below mo hb34
            have nr := own_move (w1 := wc) mr (fun k hk => hb34.block k (mr.lt k hk).2)
            have nB := mB.trans (hb34.mono (by omega))
            have nK := mK.trans (keep_of_same (fun k hk => hb34.block k (by omega)))
            have nO := mO.trans (keepsOthers_of_below hb34)
            have nT := hTb wc nB
            have nd0 := cell_below hb34 md0
            have nd1 := cell_below hb34 md1
            have nz : s + 5 ≤ wc.heap.size := by omega
            have hol := outL_len l h (pr.map (·.1.1))
            rw [List.length_map] at hol
            have nol : (outL l h (pr.map (·.1.1))).length ≤ 1000000 := by omega
            clear ml mo mr mB mK mO mT mh md0 md1 mch hb34 hol
            have co := no.cell
            gi_wp2
            have HR4 := Lib.hid nr
            clear nr
            gi_region_with (first | (refine ⟨trivial, ?_⟩; gi_at_call 75; refine (CallsIn.inRound L (callsIn_wide.2 (word_any wc.drew p B 0 cap l nT.drew.r ((recAt y.1.1 : Nat) : Int) (by omega) (by omega) (by omega)))).mono ?_; rintro e V5 ⟨rfl, hb5⟩; rw [Int.toNat_natCast]; have no5 := boxed_below (show Boxed wc.drew (s + 1) 31 v from no) hb5; have co5 := no5.cell; have co6 := (no5.alloc (.cells #[.int .i64 (ati l (recAt y.1.1 + 1))] 3)).cell; have fo5 := no5.frozen; have nr5 := own_move (w1 := V5) HR4.out (fun k hk => hb5.block k (HR4.out.lt k hk).2); have nz5 := Nat.le_trans nz hb5.size; obtain ⟨g', cap', V6, hrun, hown', hgrow⟩ := app_fact nr5 nz5 nol (ati l (recAt y.1.1 + 1)); obtain ⟨hv1, hv2, hr2, hk2, hb6, hsame⟩ := boxed_appended (n₀ := s + 1) no5 (by decide) nr5 nz5 (by omega) (Nat.le_refl _) hown' hgrow; have cv1 := hv1.cell; have fv1 := hv1.frozen; have HO6 := Lib.hid hown'; have HR5 := Lib.hid nr5; have HR6 := Lib.hid hr2; clear hown' nr5 hr2) | (rw [hrun]))
            all_goals
              gi_wp2
              have hb45 : Below wc.heap.size wc V5 := (Below.refl _ _).drew.trans hb5
              have hz5 := hb45.size
              refine ⟨((nO.trans (keepsOthers_of_below hb45)).trans hk2).from _, ?_, ⟨?_, ⟨_, hv2, ?_⟩, Nat.le_trans nz5 hk2.size, ?_⟩, (nB.trans (hb45.mono (by omega))).trans hb6⟩
              · intro k o hs hk ho
                have h1 := nK k o (by rcases hs with rfl | rfl | rfl | rfl <;> omega) hk ho
                exact (hsame k (by rcases hs with rfl | rfl | rfl | rfl <;> omega) (by rcases hs with rfl | rfl | rfl | rfl <;> omega)).trans ((hb45.block k (lt_heap h1)).trans h1)
              · rw [show (((pr ++ [y]).length : Nat) : Int) = (pr.length : Nat) + 1 by simp]
                exact (hsame (s + 1 + 1) (by omega) (by omega)).trans (boxed_below nl hb45)
              · rw [show (pr ++ [y]).map (·.1.1) = pr.map (·.1.1) ++ [y.1.1] by simp, outL_snoc, if_pos heq, List.length_append, List.map_append]
                exact HR6.out
              · intro q hq
                rcases List.mem_append.1 hq with hq | hq
                · exact k3 q hq
                · obtain rfl : q = y := by simpa using hq
                  omega
          · gi_cut [46] from 43 (fun v V => v = .bool false ∧ Below wc.heap.size wc V)
            case first =>
              rename_i J K' hJ hK'
              gi_region_with (first | (refine ⟨trivial, ?_⟩; gi_at_call 74; refine (CallsIn.inRound L (callsIn_wide.2 (hash_any wc.drew p B 0 cap l mT.drew.r ((recAt y.1.1 : Nat) : Int) (by omega) (by omega)))).mono ?_; rintro e V4 ⟨rfl, hb4⟩; have ch4 := cell_below hb4 (show wc.drew.cell? ⟨n₀, 0, none⟩ = _ from mch); rw [Int.toNat_natCast]))
              all_goals
                refine hK' _ _ (Met.intro (hJ _ _ ?_))
                (repeat apply Exists.intro)
                refine ⟨?rel, rfl⟩
                case rel => exact ⟨by simp [heq], (Below.refl _ _).drew.trans hb4⟩
            case rest =>
            obtain ⟨rfl, hb34⟩ := hcut
            gi_wp2
            have b0 := boxed_below ml hb34
            have b1 := boxed_below mo hb34
            have hz4 := hb34.size
            refine ⟨(mO.trans (keepsOthers_of_below hb34)).from _, ?_, ⟨by rw [show (((pr ++ [y]).length : Nat) : Int) = (pr.length : Nat) + 1 by simp]; exact b0, ⟨v, b1, ?_⟩, by omega, ?_⟩, mB.trans (hb34.mono (by omega))⟩
            · intro k o hs hk ho
              have h1 := mK k o (by rcases hs with rfl | rfl | rfl | rfl <;> omega) hk ho
              exact (hb34.block k (lt_heap h1)).trans h1
            · rw [show (pr ++ [y]).map (·.1.1) = pr.map (·.1.1) ++ [y.1.1] by simp, outL_snoc, if_neg heq, List.append_nil]
              exact own_move mr (fun k hk => hb34.block k (mr.lt k hk).2)
            · intro q hq
              rcases List.mem_append.1 hq with hq | hq
              · exact k3 q hq
              · obtain rfl : q = y := by simpa using hq
                omega
      case done =>
        rintro D ys W hD rfl ⟨⟨k0, ⟨v, k1, kr⟩, k2, k3⟩, hB⟩ hK
        have hmp : ys.map (·.1.1) = C i := by
          have := congrArg (List.map (·.1)) HMAP.out
          rw [wf_map, List.map_map] at this
          exact this
        have hpre : preR l h (C i) = C i := by
          rw [← hmp]
          unfold preR
          refine takeWhile_all _ _ (fun r hr => ?_)
          obtain ⟨q, hq, rfl⟩ := List.mem_map.1 hr
          exact decide_eq_true (k3 q hq)
        have hF := hfin D W.drew v ys.length (by have := HZ9.out; omega) hB.drew (by rw [← hmp]; exact kr.drew) (show W.heap[D]? = _ from hK) (by rw [hpre, ← HCRL.out]; omega)
        have HF := Lib.hid hF
        obtain ⟨A', c', rfl⟩ := own_form kr
        clear hfin hF hmp hpre kr
        gi_wp2
        go_wp2
        refine region_still (by kernel_rfl) (by kernel_rfl) (fun w7 hw7 => ?_)
        have cl : w7.cell? ⟨s + 1 + 1, 0, none⟩ = some (.int .i64 (ys.length : Nat)) := by rw [hw7]; exact k0.cell
        have co := (show W.drew.cell? ⟨s + 1, 0, none⟩ = _ from k1.cell)
        rw [← hw7] at co HF
        have hK7 : w7.heap[D]? = some (.deferred (some [])) := by rw [hw7]; exact hK
        clear hw7
        repeat still_step
        refine wpStill_nil ?_
        go_wp2
        refine ⟨by simp, .inl ⟨_, _, rfl, run_takeDeferred hK7, ?_⟩⟩
        exact ⟨.tuple #[.slice A' (outL l h (ys.map (·.1.1))).length c', .int .i64 (ys.length : Nat), .int .i64 0], by simp [results, Try.results26, go_sem], HF.out⟩
      case stop =>
        rintro D c pr W hD hpr ⟨⟨rfl, pr', y, hp', hn', hit, k2, v, k4, kr⟩, hB⟩ hK
        obtain ⟨rest, hrs⟩ := hpr
        have hmp : C i = pr'.map (·.1.1) ++ y.1.1 :: rest.map (·.1.1) := by
          have := congrArg (List.map (·.1)) HMAP.out
          rw [wf_map, List.map_map, ← hrs, hp'] at this
          rw [← this]
          simp
          rfl
        have hpre : preR l h (C i) = pr'.map (·.1.1) := by
          rw [hmp]
          unfold preR
          refine takeWhile_mid (fun r => decide (ati l (recAt r) ≤ h)) y.1.1 _ (decide_eq_false (by omega)) _ (fun r hr => ?_)
          obtain ⟨q, hq, rfl⟩ := List.mem_map.1 hr
          exact decide_eq_true (hn' q hq)
        have hlen1 : pr.length = min (C i).length ((preR l h (C i)).length + 1) := by
          rw [hpre, hmp, hp']; simp
        have hout : outL l h (C i) = outL l h (pr'.map (·.1.1)) := by
          have hsr := HSRT.out
          rw [hmp] at hsr ⊢
          exact outL_stop hit hsr
        have hF := hfin D W.drew v pr.length (by have := HZ9.out; omega) hB.drew (by rw [hout]; exact kr.drew) (show W.heap[D]? = _ from hK) hlen1
        have HF := Lib.hid hF
        obtain ⟨A', c', rfl⟩ := own_form kr
        clear hfin hF hmp hpre hlen1 hout kr hp' hrs hn'
        gi_wp2
        go_wp2
        refine region_still (by kernel_rfl) (by kernel_rfl) (fun w7 hw7 => ?_)
        have cl : w7.cell? ⟨s + 1 + 1, 0, none⟩ = some (.int .i64 (pr.length : Nat)) := by rw [hw7]; exact k2.cell
        have co := (show W.drew.cell? ⟨s + 1, 0, none⟩ = _ from k4.cell)
        rw [← hw7] at co HF
        have hK7 : w7.heap[D]? = some (.deferred (some [])) := by rw [hw7]; exact hK
        clear hw7
        repeat still_step
        refine wpStill_nil ?_
        go_wp2
        refine ⟨by simp, .inl ⟨_, _, rfl, run_takeDeferred hK7, ?_⟩⟩
        exact ⟨.tuple #[.slice A' (outL l h (pr'.map (·.1.1))).length c', .int .i64 (pr.length : Nat), .int .i64 0], by simp [results, Try.results26, go_sem], HF.out⟩
  · have HOP := Lib.hid hop
    have hb1 : ¬ (ValidL l ∧ (0 ≤ h ∧ h ≤ 2147483647)) := hV
    have ct0 := hb0.cell
    clear hop hV
    go_enter Try.func26, Try.ntmps26
    go_wp2_with fail
    refine HOP.out.mono ?_
    rintro e w1 ⟨(⟨h1, rfl⟩ | ⟨h1, h2, rfl⟩ | ⟨h1, h2, _⟩), hB1⟩
    · go_wp2
      refine bodyPost_ret (v := .tuple #[.slice none 0 0, .int .i64 0, .int .i64 600]) (by simp [results, Try.results26, go_sem]) rfl ?_
      exact ⟨.inl ⟨h1, rfl⟩, (hB0.trans (hB1.mono (by simp))).alloc (by have := hB1.size; simp at this; omega) _⟩
    · have H2 := Lib.hid h2
      clear h2
      go_wp2
      refine bodyPost_ret (v := .tuple #[.slice none 0 0, .int .i64 0, .int .i64 1]) (by simp [results, Try.results26, go_sem]) rfl ?_
      exact ⟨.inr (.inl ⟨h1, H2.out, rfl⟩), (hB0.trans (hB1.mono (by simp))).alloc (by have := hB1.size; simp at this; omega) _⟩
    · exact absurd ⟨h1, h2⟩ hb1
end Go.Proofs.Ytdcomhdadnhpnaa
