/- (t) checkChain: the chain's records are of the bucket, in order, different, and not seen before. -/
import Derived.Test.YtdcomhdadnhpnaaT12
namespace Go.Proofs.Ytdcomhdadnhpnaa
open Go.RowKit

theorem count_set {s : List Bool} {r : Nat} (h : s[r]? = some false) : (s.set r true).count false + 1 = s.count false := by
  obtain ⟨hr, he⟩ := List.getElem?_eq_some_iff.1 h
  have := List.count_set (a := true) (b := false) hr
  rw [this, he]
  have : 0 < s.count false := List.count_pos_iff.2 (by rw [← he]; exact List.getElem_mem hr)
  simp; omega

/-- what a chain's check makes of the records that have been seen -/
def ckC (l : List Int) (bk i : Nat) (q : Nat) (seen : List Bool) (had : List (Int × Int)) (last : Int) : Option (List Bool) :=
  if ati l q = 0 then some seen
  else if h : 0 < ati l q ∧ ati l q ≤ seen.length ∧ seen[(ati l q).toNat - 1]? = some false then
    if last ≤ ati l (recAt ((ati l q).toNat - 1)) ∧ bkt (ati l (recAt ((ati l q).toNat - 1))).toNat bk = i ∧ (ati l (recAt ((ati l q).toNat - 1)), ati l (recAt ((ati l q).toNat - 1) + 1)) ∉ had then
      ckC l bk i (recAt ((ati l q).toNat - 1) + 2) (seen.set ((ati l q).toNat - 1) true) (had ++ [(ati l (recAt ((ati l q).toNat - 1)), ati l (recAt ((ati l q).toNat - 1) + 1))]) (ati l (recAt ((ati l q).toNat - 1)))
    else none
  else none
termination_by seen.count false
decreasing_by have := count_set h.2.2; omega

/-- the records that have been seen -/
def SeenR (w : World) (B : Nat) (s : List Bool) : Prop := w.heap[B]? = some (.cells (s.map Value.bool).toArray 4 (0, 0))
theorem SeenR.cell {w : World} {B : Nat} {s : List Bool} (h : SeenR w B s) (i : Nat) (hi : i < s.length) : w.cell? ⟨B, i, none⟩ = some (.bool (s.getD i false)) := by
  rw [cell_of_heap h]; simp [hi]
theorem SeenR.frz {w : World} {B : Nat} {s : List Bool} (h : SeenR w B s) (i : Nat) : w.frozen? ⟨B, i, none⟩ = false := frozen_of_heap h
theorem SeenR.set {w : World} {B : Nat} {s : List Bool} (h : SeenR w B s) (i : Nat) (b : Bool) : SeenR (w.setCell ⟨B, i, none⟩ (.bool b)) B (s.set i b) := by
  unfold SeenR at h ⊢
  simp [World.setCell, Array.getElem?_modify, h]
def isF : Value → Bool
  | .bool false => true
  | _ => false
def cntF (w : World) (B : Nat) : Nat := match w.heap[B]? with
  | some (.cells c _ _) => c.toList.countP isF
  | _ => 0
theorem SeenR.cnt {w : World} {B : Nat} {s : List Bool} (h : SeenR w B s) : cntF w B = s.count false := by
  unfold cntF
  rw [h]
  simp only [List.countP_map]
  rw [List.count]
  congr 1
  funext b
  cases b <;> rfl

theorem TblR.belowN {n : Nat} {w w' : World} {p b off cap : Nat} {l : List Int} (h : TblR w p b off cap l) (hb : Below n w w') (h1 : p < n) (h2 : b < n) : TblR w' p b off cap l :=
  ⟨(hb.cell (p := ⟨p, 0, none⟩) h1).trans h.head, fun i hi => (hb.cell (p := ⟨b, off + i, none⟩) h2).trans (h.cells i hi), Nat.lt_of_lt_of_le h.lt hb.size⟩
/-- what a round leans on -/
structure CkI (w : World) (p b off cap : Nat) (l : List Int) (Bs : Nat) (seen : List Bool) (M : Nat) (had : List (Int × Int)) : Prop where
  t : TblR w p b off cap l
  s : SeenR w Bs seen
  m : KMap encE Value.bool w M (had.map (fun x => (x, true)))
  pb : p < Bs
  bb : b < Bs
  sm : Bs < M
theorem CkI.below {w w' : World} {p b off cap : Nat} {l : List Int} {Bs : Nat} {seen : List Bool} {M : Nat} {had : List (Int × Int)} (h : CkI w p b off cap l Bs seen M had) (hb : Below w.heap.size w w') : CkI w' p b off cap l Bs seen M had :=
  ⟨h.t.below hb, (hb.block _ (lt_heap h.s)).trans h.s, h.m.below hb, h.pb, h.bb, h.sm⟩
theorem had_look {w : World} {M : Nat} {had : List (Int × Int)} (h : KMap encE Value.bool w M (had.map (fun x => (x, true)))) (a b : Int) :
    ((a, b) ∈ had → (Instr.lookup 117 (.map (some M)) (.agg #[.int .i64 a, .int .i64 b]) false).run Try.prog w = .ok (.bool true) w) ∧
    ((a, b) ∉ had → (Instr.lookup 117 (.map (some M)) (.agg #[.int .i64 a, .int .i64 b]) false).run Try.prog w = .ok (.bool false) w) := by
  rcases h.look keyOk43 (t := 117) (et := 4) (by kernel_rfl) (a, b) (z := .bool false) (by kernel_rfl) false with ⟨v, hv, hr⟩ | ⟨hn, hr⟩
  · obtain ⟨x, hx, hq⟩ := List.mem_map.1 hv
    cases hq
    exact ⟨fun _ => hr, fun h => absurd hx h⟩
  · exact ⟨fun hm => absurd rfl (hn ((a, b), true) (List.mem_map.2 ⟨_, hm, rfl⟩)), fun _ => hr⟩
theorem had_store {w : World} {M : Nat} {had : List (Int × Int)} (h : KMap encE Value.bool w M (had.map (fun x => (x, true)))) (a b : Int) (hn : (a, b) ∉ had) :
    ∃ w', (Instr.mapUpdate 117 (.map (some M)) (.agg #[.int .i64 a, .int .i64 b]) (.bool true)).run Try.prog w = .ok () w' ∧ KMap encE Value.bool w' M ((had ++ [(a, b)]).map (fun x => (x, true))) ∧
      (∀ n, n ≤ M → Below n w w') ∧ (∀ k, k ≠ M → w'.heap[k]? = w.heap[k]?) ∧ w'.heap.size = w.heap.size := by
  have := h.store keyOk43 (t := 117) (et := 4) (by kernel_rfl) (a, b) true (fun s hs => by obtain ⟨x, hx, rfl⟩ := List.mem_map.1 hs; exact fun e => hn (by rw [← e]; exact hx))
  simpa [encE] using this

set_option maxRecDepth 100000 in
set_option maxHeartbeats 4000000 in
theorem checkChain_any (p b off cap : Nat) (l : List Int) (i bk Bs : Nat) (seen : List Bool) (w : World) (hT : TblR w p b off cap l) (hpB : p < Bs) (hbB : b < Bs) (hS : SeenR w Bs seen) (hl : l.length ≤ 3000000)
    (hi : i ≤ 1000000) (hhi : headAt i < l.length) (hbk0 : 1 ≤ bk) (hbk : bk ≤ 1000000) (hn : seen.length ≤ 100000) (hrec : ∀ r, r < seen.length → recAt r + 2 < l.length ∧ 0 ≤ ati l (recAt r) ∧ ati l (recAt r) ≤ 2147483647) :
    Calls Try.prog 110 #[.pointer (some ⟨p, 0, none⟩), .int .i64 i, .int .i64 bk, .slice (some ⟨Bs, 0, none⟩) seen.length seen.length] w fun e W' =>
      ((∃ s', ckC l bk i (headAt i) seen [] 0 = some s' ∧ e = .returned (.tuple #[]) ∧ SeenR W' Bs s') ∨ (ckC l bk i (headAt i) seen [] 0 = none ∧ e = wrongEnd)) ∧ Below Bs w W' := by
  have hp := hT.head
  obtain ⟨res, hres⟩ : ∃ res, res = ckC l bk i (headAt i) seen [] 0 := ⟨_, rfl⟩
  rw [← hres]
  obtain ⟨n, hsl⟩ : ∃ n, seen.length = n := ⟨_, rfl⟩
  rw [hsl] at hn hrec ⊢
  have hmm : ∀ w : World, (Instr.makeMap 117 none).run Try.prog w = .ok (.map (some w.heap.size)) (w.alloc (.map #[] 0)) := fun _ => rfl
  go_enter Try.func110, Try.ntmps110
  go_wp2_with (go_at_call 89; refine (headAt_any _ _ (by omega) (by omega)).mono ?_; rintro e w1 ⟨rfl, rfl⟩; rw [Int.toNat_natCast])
  have hC0 : CkI (w.alloc (.map #[] 0)) p b off cap l Bs seen w.heap.size [] := ⟨hT.alloc _, (Below.heap_alloc _ _ _ (lt_heap hS)).trans hS, KMap.made _, hpB, hbB, lt_heap hS⟩
  have hB0 : Below Bs w (w.alloc (.map #[] 0)) := (Below.refl _ _).alloc (Nat.le_of_lt (lt_heap hS)) _
  generalize w.alloc (.map #[] 0) = w1 at *
  generalize w.heap.size = M at *
  clear hp hS hT
  go_loopw [9, 10, 11, 12] (fun la fr _ _ wr => ∃ (last : Int) (q : Nat) (sn : List Bool) (had : List (Int × Int)), la = .int .i64 last ∧ fr = .int .i64 (q : Nat) ∧ q < l.length ∧ sn.length = n ∧ Hid (res = ckC l bk i q sn had last) ∧ CkI wr p b off cap l Bs sn M had ∧ Below Bs w wr)
    (fun _ _ _ _ wr => cntF wr Bs)
  case atStart => exact ⟨0, headAt i, seen, [], rfl, rfl, hhi, hsl, hres, hC0, hB0⟩
  case round =>
    clear hC0 hB0 hsl hres
    obtain ⟨last, q, sn, had, rfl, rfl, hq, hsn, hrs, hC, hB⟩ := hrel
    have hpr := hC.t.head
    have hcq := hC.t.cells q hq
    have i0 : (q : Int) < (l.length : Int) := by omega
    have bp := lt_cell hpr
    have bb := hC.t.lt
    rw [ckC] at hrs
    by_cases hz : ati l q = 0
    · rw [if_pos hz] at hrs
      rw [hz] at hcq
      clear hz
      go_wp2
      go_end0
      exact ⟨.inl ⟨sn, hrs.out, rfl, hC.s⟩, hB⟩
    · rw [if_neg hz] at hrs
      by_cases h1 : 0 < ati l q ∧ ati l q ≤ sn.length ∧ sn[(ati l q).toNat - 1]? = some false
      · rw [dif_pos h1] at hrs
        obtain ⟨r, hr⟩ : ∃ r : Nat, ati l q = (r : Int) + 1 := ⟨(ati l q).toNat - 1, by omega⟩
        rw [hr] at hcq
        rw [show (ati l q).toNat - 1 = r by omega] at hrs h1
        have hrn : r < n := by omega
        have hrn' : (r : Int) < (n : Int) := by omega
        have hsr := hC.s.cell r (by omega)
        have hfr := hC.s.frz r
        have hsf := h1.2.2
        have hgd : sn.getD r false = false := by rw [List.getD_eq_getElem?_getD, hsf]; rfl
        rw [hgd] at hsr
        obtain ⟨hr1, hr2, hr3⟩ := hrec r hrn
        clear h1 hz hr hgd hrec
        go_wp2_with (go_at_call 109; refine (need_yes (by simp) _).mono ?_; rintro e w8 ⟨rfl, rfl⟩)
        have hC1 : CkI (w8.setCell ⟨Bs, r, none⟩ (.bool true)) p b off cap l Bs (sn.set r true) M had :=
          ⟨hC.t.other _ (by simp; omega) (by simp; omega), hC.s.set r true, hC.m.block (Below.heap_setCell _ _ _ _ (by have := hC.sm; simp; omega)), hC.pb, hC.bb, hC.sm⟩
        have hB1 : Below Bs w (w8.setCell ⟨Bs, r, none⟩ (.bool true)) := hB.setCell (Nat.le_refl _) _
        have hcnt : cntF w8 Bs = sn.count false := hC.s.cnt
        generalize w8.setCell ⟨Bs, r, none⟩ (.bool true) = w2 at hC1 hB1 ⊢
        clear hsr hfr hcq hpr bp bb hC hB
        refine (record_any p (r : Int) w2 (by omega) (by omega)).mono ?_
        rintro e w3 ⟨rfl, hb3⟩
        rw [Int.toNat_natCast]
        have hC3 := hC1.below hb3
        have hB3 : Below Bs w w3 := hB1.trans (hb3.mono (Nat.le_of_lt (lt_heap hC1.s)))
        clear hb3 hC1 hB1
        go_wp2_with fail
        have hC4 : CkI (w3.alloc (.cells #[.pointer (some ⟨p, 0, none⟩), .int .i64 (recAt r : Nat)] 102)) p b off cap l Bs (sn.set r true) M had := hC3.below ((Below.refl _ _).alloc (Nat.le_refl _) _)
        have hB4 : Below Bs w (w3.alloc (.cells #[.pointer (some ⟨p, 0, none⟩), .int .i64 (recAt r : Nat)] 102)) := hB3.alloc (Nat.le_of_lt (lt_heap hC3.s)) _
        have hx4 : (w3.alloc (.cells #[.pointer (some ⟨p, 0, none⟩), .int .i64 (recAt r : Nat)] 102)).heap[w3.heap.size]? = some (.cells #[.pointer (some ⟨p, 0, none⟩), .int .i64 (recAt r : Nat)] 102 (0, 0)) := World.alloc_heap_new _ _
        have hMX : M < w3.heap.size := hC3.m.lt
        generalize w3.alloc (.cells #[.pointer (some ⟨p, 0, none⟩), .int .i64 (recAt r : Nat)] 102) = w4 at hC4 hB4 hx4 ⊢
        generalize w3.heap.size = X at hx4 hMX ⊢
        clear hC3 hB3
        by_cases ha : last ≤ ati l (recAt r)
        · by_cases hbk' : bkt (ati l (recAt r)).toNat bk = i
          · by_cases hm : (ati l (recAt r), ati l (recAt r + 1)) ∈ had
            · rw [if_neg (fun h => h.2.2 hm)] at hrs
              have HM := Lib.hid hm
              clear hm
              go_wp2_with (first
                | (go_at_call 74; refine (hash_any _ p b off cap l hC4.t (recAt r : Nat) (by omega) (by omega)).mono ?_; rintro e w5 ⟨rfl, hb5⟩; rw [Int.toNat_natCast]; have hB4 := hB4.trans (hb5.mono (Nat.le_of_lt (lt_heap hC4.s))); have hC4 := hC4.below hb5; have hx4 := (hb5.block _ (lt_heap hx4)).trans hx4; have cx0 : w5.cell? ⟨X, 0, none⟩ = some (.pointer (some ⟨p, 0, none⟩)) := (cell_of_heap hx4).trans rfl; have cx1 : w5.cell? ⟨X, 1, none⟩ = some (.int .i64 (recAt r : Nat)) := (cell_of_heap hx4).trans rfl)
                | (go_at_call 66; refine (bucket_any _ _ _ hr2 (by omega) (by omega) (by omega)).mono ?_; rintro e w5 ⟨rfl, rfl⟩; rw [Int.toNat_natCast, hbk'])
                | (go_at_call 77; refine (elem_any _ p b off cap l hC4.t (recAt r : Nat) (by omega) (by omega) (by omega)).mono ?_; rintro e w5 ⟨rfl, hb5⟩; rw [Int.toNat_natCast]; have hB4 := hB4.trans (hb5.mono (Nat.le_of_lt (lt_heap hC4.s))); have hC4 := hC4.below hb5; have hx4 := (hb5.block _ (lt_heap hx4)).trans hx4; have cx0 : w5.cell? ⟨X, 0, none⟩ = some (.pointer (some ⟨p, 0, none⟩)) := (cell_of_heap hx4).trans rfl; have cx1 : w5.cell? ⟨X, 1, none⟩ = some (.int .i64 (recAt r : Nat)) := (cell_of_heap hx4).trans rfl; have hlk := (had_look hC4.m (ati l (recAt r)) (ati l (recAt r + 1))).1 HM.out)
                | (go_at_call 109; refine (need_no (by simp) _).mono ?_; rintro e w8 ⟨rfl, rfl⟩))
              refine ⟨rfl, ?_⟩
              exact ⟨.inr ⟨hrs.out, rfl⟩, hB4⟩
            · rw [if_pos ⟨ha, hbk', hm⟩] at hrs
              have HM := Lib.hid hm
              have HM1 := HM
              clear hm
              go_wp2_with (first
                | (go_at_call 74; refine (hash_any _ p b off cap l hC4.t (recAt r : Nat) (by omega) (by omega)).mono ?_; rintro e w5 ⟨rfl, hb5⟩; rw [Int.toNat_natCast]; have hB4 := hB4.trans (hb5.mono (Nat.le_of_lt (lt_heap hC4.s))); have hC4 := hC4.below hb5; have hx4 := (hb5.block _ (lt_heap hx4)).trans hx4; have cx0 : w5.cell? ⟨X, 0, none⟩ = some (.pointer (some ⟨p, 0, none⟩)) := (cell_of_heap hx4).trans rfl; have cx1 : w5.cell? ⟨X, 1, none⟩ = some (.int .i64 (recAt r : Nat)) := (cell_of_heap hx4).trans rfl)
                | (go_at_call 66; refine (bucket_any _ _ _ hr2 (by omega) (by omega) (by omega)).mono ?_; rintro e w5 ⟨rfl, rfl⟩; rw [Int.toNat_natCast, hbk'])
                | (have hflag := HM1; clear HM1; go_at_call 77; refine (elem_any _ p b off cap l hC4.t (recAt r : Nat) (by omega) (by omega) (by omega)).mono ?_; rintro e w5 ⟨rfl, hb5⟩; rw [Int.toNat_natCast]; have hB4 := hB4.trans (hb5.mono (Nat.le_of_lt (lt_heap hC4.s))); have hC4 := hC4.below hb5; have hx4 := (hb5.block _ (lt_heap hx4)).trans hx4; have cx0 : w5.cell? ⟨X, 0, none⟩ = some (.pointer (some ⟨p, 0, none⟩)) := (cell_of_heap hx4).trans rfl; have cx1 : w5.cell? ⟨X, 1, none⟩ = some (.int .i64 (recAt r : Nat)) := (cell_of_heap hx4).trans rfl; have hlk := (had_look hC4.m (ati l (recAt r)) (ati l (recAt r + 1))).2 HM.out; clear hflag)
                | (go_at_call 77; refine (elem_any _ p b off cap l hC4.t (recAt r : Nat) (by omega) (by omega) (by omega)).mono ?_; rintro e w5 ⟨rfl, hb5⟩; rw [Int.toNat_natCast]; have hB4 := hB4.trans (hb5.mono (Nat.le_of_lt (lt_heap hC4.s))); have hC4 := hC4.below hb5; have hx4 := (hb5.block _ (lt_heap hx4)).trans hx4; have cx0 : w5.cell? ⟨X, 0, none⟩ = some (.pointer (some ⟨p, 0, none⟩)) := (cell_of_heap hx4).trans rfl; have cx1 : w5.cell? ⟨X, 1, none⟩ = some (.int .i64 (recAt r : Nat)) := (cell_of_heap hx4).trans rfl; obtain ⟨wm, hup, hm1, hm2, hm3, hm4⟩ := had_store hC4.m _ _ HM.out; have hB4 := hB4.trans (hm2 Bs (Nat.le_of_lt hC4.sm)); have hx4 := (hm3 X (by omega)).trans hx4; have hC4 : CkI wm p b off cap l Bs (sn.set r true) M _ := ⟨hC4.t.belowN (hm2 M (Nat.le_refl _)) (Nat.lt_trans hC4.pb hC4.sm) (Nat.lt_trans hC4.bb hC4.sm), (hm3 Bs (Nat.ne_of_lt hC4.sm)).trans hC4.s, hm1, hC4.pb, hC4.bb, hC4.sm⟩; have cx0 : wm.cell? ⟨X, 0, none⟩ = some (.pointer (some ⟨p, 0, none⟩)) := (cell_of_heap hx4).trans rfl; have cx1 : wm.cell? ⟨X, 1, none⟩ = some (.int .i64 (recAt r : Nat)) := (cell_of_heap hx4).trans rfl)
                | (go_at_call 109; refine (need_yes (by simp) _).mono ?_; rintro e w8 ⟨rfl, rfl⟩))
              go_roundw
              case rel => exact ⟨ati l (recAt r), recAt r + 2, sn.set r true, _, rfl, by go_num, hr1, by rw [List.length_set]; exact hsn, hrs, hC4, hB4⟩
              case measure =>
                rw [hC4.s.cnt, hcnt]
                have := count_set hsf
                omega
          · rw [if_neg (fun h => hbk' h.2.1)] at hrs
            have hne : ((bkt (ati l (recAt r)).toNat bk : Nat) : Int) ≠ (i : Int) := by omega
            have hbe : (((bkt (ati l (recAt r)).toNat bk : Nat) : Int) == (i : Int)) = false := by rw [beq_eq_false_iff_ne]; exact hne
            go_wp2_with (first
              | (go_at_call 74; refine (hash_any _ p b off cap l hC4.t (recAt r : Nat) (by omega) (by omega)).mono ?_; rintro e w5 ⟨rfl, hb5⟩; rw [Int.toNat_natCast]; have hB4 := hB4.trans (hb5.mono (Nat.le_of_lt (lt_heap hC4.s))); have hC4 := hC4.below hb5; have hx4 := (hb5.block _ (lt_heap hx4)).trans hx4; have cx0 : w5.cell? ⟨X, 0, none⟩ = some (.pointer (some ⟨p, 0, none⟩)) := (cell_of_heap hx4).trans rfl; have cx1 : w5.cell? ⟨X, 1, none⟩ = some (.int .i64 (recAt r : Nat)) := (cell_of_heap hx4).trans rfl)
              | (go_at_call 66; refine (bucket_any _ _ _ hr2 (by omega) (by omega) (by omega)).mono ?_; rintro e w5 ⟨rfl, rfl⟩; rw [Int.toNat_natCast])
              | (go_at_call 109; refine (need_no (by simp) _).mono ?_; rintro e w8 ⟨rfl, rfl⟩))
            refine ⟨rfl, ?_⟩
            exact ⟨.inr ⟨hrs.out, rfl⟩, hB4⟩
        · rw [if_neg (fun h => ha h.1)] at hrs
          go_wp2_with (first
            | (go_at_call 74; refine (hash_any _ p b off cap l hC4.t (recAt r : Nat) (by omega) (by omega)).mono ?_; rintro e w5 ⟨rfl, hb5⟩; rw [Int.toNat_natCast]; have hB4 := hB4.trans (hb5.mono (Nat.le_of_lt (lt_heap hC4.s))); have hC4 := hC4.below hb5; have hx4 := (hb5.block _ (lt_heap hx4)).trans hx4; have cx0 : w5.cell? ⟨X, 0, none⟩ = some (.pointer (some ⟨p, 0, none⟩)) := (cell_of_heap hx4).trans rfl; have cx1 : w5.cell? ⟨X, 1, none⟩ = some (.int .i64 (recAt r : Nat)) := (cell_of_heap hx4).trans rfl)
            | (go_at_call 109; refine (need_no (by simp) _).mono ?_; rintro e w8 ⟨rfl, rfl⟩))
          refine ⟨rfl, ?_⟩
          exact ⟨.inr ⟨hrs.out, rfl⟩, hB4⟩
      · rw [dif_neg h1] at hrs
        by_cases hn0 : ati l q < 0
        · clear h1 hz
          go_wp2_with (go_at_call 109; refine (need_no (by simp) _).mono ?_; rintro e w8 ⟨rfl, rfl⟩)
          refine ⟨rfl, ?_⟩
          exact ⟨.inr ⟨hrs.out, rfl⟩, hB⟩
        · by_cases hn1 : (n : Int) < ati l q
          · clear h1 hz
            go_wp2_with (go_at_call 109; refine (need_no (by simp) _).mono ?_; rintro e w8 ⟨rfl, rfl⟩)
            refine ⟨rfl, ?_⟩
            exact ⟨.inr ⟨hrs.out, rfl⟩, hB⟩
          · obtain ⟨r, hr⟩ : ∃ r : Nat, ati l q = (r : Int) + 1 := ⟨(ati l q).toNat - 1, by omega⟩
            rw [hr] at hcq
            have hrn : r < n := by omega
            have hrn' : (r : Int) < (n : Int) := by omega
            have hsr := hC.s.cell r (by omega)
            have hgd : sn.getD r false = true := by
              rw [List.getD_eq_getElem?_getD, List.getElem?_eq_getElem (by omega)]
              have : sn[r]'(by omega) ≠ false := fun e => h1 ⟨by omega, by omega, by rw [show (ati l q).toNat - 1 = r by omega, List.getElem?_eq_getElem (by omega), e]⟩
              simpa using this
            rw [hgd] at hsr
            clear h1 hz hr hgd hn0 hn1 hrec
            go_wp2_with (go_at_call 109; refine (need_no (by simp) _).mono ?_; rintro e w8 ⟨rfl, rfl⟩)
            refine ⟨rfl, ?_⟩
            exact ⟨.inr ⟨hrs.out, rfl⟩, hB⟩
end Go.Proofs.Ytdcomhdadnhpnaa
