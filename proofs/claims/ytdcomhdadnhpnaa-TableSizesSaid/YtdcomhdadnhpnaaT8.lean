/- (t) divide: the chain of one bucket becomes those of two. -/
import Derived.Test.YtdcomhdadnhpnaaT7
namespace Go.Proofs.Ytdcomhdadnhpnaa
open Go.RowKit Go.Shelf
open Go.Proofs.YtdcomhdadnhpnaaW.PrintWords (ReadsOf encs print_append_row_of own_reads_of)

theorem encs_eq (rs : List Nat) : encs encN rs = rs.map encN := rfl

/-- append(v, ys...) of lists of records, v the call's own -/
theorem app_row {ops : Array Oper} {rest : List Oper} {o : Oper} {a : Act} {Q : Exit → Act → World → Prop} {W : World} (base : Nat) (hgd : o.guard = none) (s x : Operand)
    (ho : o.op = .call { callee := .builtin .append, args := #[s, x], argTypes := #[31, 31] }) (v : Value) (xs ys : List Nat) (A : Option Addr) (c : Nat) (hs : a.eval s = v) (hx : a.eval x = .slice A ys.length c)
    (HO : W.ownsRow base 3 1 v xs.length (xs.map encN)) (HR : ReadsOf encN 0 W A ys.length ys) (hb : base ≤ W.heap.size) (hl : xs.length + ys.length ≤ 1000000000)
    (h : ∀ v1 w1, w1.ownsRow base 3 1 v1 (xs ++ ys).length ((xs ++ ys).map encN) → W.grownBy w1 v.ownBlock → (v1.ownBlock = v.ownBlock ∨ ∃ b, v1.ownBlock = some b ∧ W.heap.size ≤ b) → wpList Try.prog ops Q rest (a.put o.dst v1) w1) :
    wpList Try.prog ops Q (o :: rest) a W :=
  print_append_row_of (w0 := W) encN 0 base hgd s x 31 3 (.int .i64 0) 8 ho Try.underlying31 info3 rfl (by decide) (fun _ => rfl) v xs ys A _ c hs hx HO HR (Below.refl _ _) hb (by omega)
    fun v1 w1 h1 _ hg hat => h v1 w1 h1 hg hat

theorem reads_one (W : World) (r : Nat) (t : TypeId) : ReadsOf encN 0 (W.alloc (.cells #[.int .i64 r] t)) (some ⟨W.heap.size, 0, none⟩) [r].length [r] := by
  refine ⟨rfl, by simp, fun _ => ⟨_, rfl, fun j hj => ?_⟩⟩
  obtain rfl : j = 0 := by simp at hj; omega
  exact (Boxed.new W t (.int .i64 r)).cell

structure Own2 (nb : Nat) (w : World) (vs vg : Value) (S G : List Nat) : Prop where
  s : w.ownsRow nb 3 1 vs S.length (S.map encN)
  g : w.ownsRow nb 3 1 vg G.length (G.map encN)
  ne : ∀ k, vs.ownBlock = some k → vg.ownBlock ≠ some k
theorem Own2.alloc {nb : Nat} {w : World} {vs vg : Value} {S G : List Nat} (h : Own2 nb w vs vg S G) (o : Obj) : Own2 nb (w.alloc o) vs vg S G := ⟨h.s.alloc o, h.g.alloc o, h.ne⟩
theorem Own2.below {nb : Nat} {w w1 : World} {vs vg : Value} {S G : List Nat} (h : Own2 nb w vs vg S G) (hb : Below w.heap.size w w1) : Own2 nb w1 vs vg S G :=
  ⟨h.s.kept ⟨hb.os, hb.tape, hb.output, hb.size, fun k hk _ => hb.block k hk⟩ (row := none) (by cases h' : vs.ownBlock <;> simp), h.g.kept ⟨hb.os, hb.tape, hb.output, hb.size, fun k hk _ => hb.block k hk⟩ (row := none) (by cases h' : vg.ownBlock <;> simp), h.ne⟩
theorem Own2.app_s {nb : Nat} {W w1 : World} {vs vg v1 : Value} {S G S' : List Nat} (h : Own2 nb W vs vg S G) (h1 : w1.ownsRow nb 3 1 v1 S'.length (S'.map encN)) (hg : W.grownBy w1 vs.ownBlock)
    (hat : v1.ownBlock = vs.ownBlock ∨ ∃ b, v1.ownBlock = some b ∧ W.heap.size ≤ b) : Own2 nb w1 v1 vg S' G := by
  refine ⟨h1, h.g.kept hg ?_, ?_⟩
  · cases hv : vg.ownBlock with
    | none => exact .inl rfl
    | some k => exact .inr (fun e => h.ne k e.symm hv)
  · intro k hk
    rcases hat with e | ⟨b, e, hb⟩
    · exact h.ne k (by rw [← e]; exact hk)
    · intro hv
      have := (h.g.lt k hv).2
      rw [e] at hk; injection hk with hk
      omega
theorem Own2.swap {nb : Nat} {w : World} {vs vg : Value} {S G : List Nat} (h : Own2 nb w vs vg S G) : Own2 nb w vg vs G S := ⟨h.g, h.s, fun k hk e => h.ne k e hk⟩

def isNew (l : List Int) (n : Nat) (r : Nat) : Bool := decide (bkt (ati l (recAt r)).toNat (n + 1) = n)
def stayS (l : List Int) (n : Nat) (rs : List Nat) : List Nat := rs.filter (fun r => !isNew l n r)
def goneS (l : List Int) (n : Nat) (rs : List Nat) : List Nat := rs.filter (fun r => isNew l n r)
theorem stayS_succ {l : List Int} {n : Nat} {rs : List Nat} {k : Nat} (hk : k < rs.length) (b : Bool) (h : isNew l n (natAt rs k) = b) :
    stayS l n (rs.take (k + 1)) = stayS l n (rs.take k) ++ (if b then [] else [natAt rs k]) ∧ goneS l n (rs.take (k + 1)) = goneS l n (rs.take k) ++ (if b then [natAt rs k] else []) := by
  have e : natAt rs k = rs[k] := by simp [natAt, hk]
  unfold stayS goneS
  rw [List.take_succ_eq_append_getElem hk, List.filter_append, List.filter_append, ← e]
  cases b <;> simp [h]
set_option maxRecDepth 100000 in
set_option maxHeartbeats 4000000 in
theorem divide_any (base : Nat) (w : World) (p B cap : Nat) (l : List Int) (n : Nat) (ch : List (Nat × Nat)) (hT : Tb base w p B cap l) (hl : l.length ≤ 100000000) (h4 : 4 ≤ l.length)
    (hn0 : 1 ≤ n) (hn1 : n ≤ 500000) (hch : Chn l (headAt (n - pow2 n)) ch) (hi1 : headAt (n - pow2 n) < l.length) (hi2 : headAt n < l.length)
    (hrec : ∀ q ∈ ch, recAt q.1 + 2 < l.length ∧ q.1 ≤ 100000 ∧ 0 ≤ ati l (recAt q.1) ∧ ati l (recAt q.1) ≤ 4294967296) (hlen : ch.length ≤ 1000000) :
    Calls Try.prog 101 #[.pointer (some ⟨p, 0, none⟩), .int .i64 n] w fun e W' => e = .returned (.int .i64 (ch.length : Nat)) ∧
      Tb base W' p B cap (linkL (linkL l (headAt (n - pow2 n)) (stayS l n (ch.map (·.1)))) (headAt n) (goneS l n (ch.map (·.1)))) ∧ Fr p B w W' := by
  have hpl := pow2_le (b := n) (by omega)
  have hpp := pow2_pos n
  have hs0 : IntKind.i64.wrap ((n : Int) - ((pow2 n : Nat) : Int)) = ((n - pow2 n : Nat) : Int) := by rw [IntWalk.i64_in _ (by omega)]; omega
  have hmf : ∀ (fn : Fn) (first cap : Array Value) (w : World), (Instr.makeFunc fn first cap).run Try.prog w = .ok (.func fn first cap) w := fun _ _ _ _ => rfl
  go_enter Try.func101, Try.ntmps101
  go_wp2
  refine region_still (by kernel_rfl) (by kernel_rfl) (fun w1 hw1 => ?_)
  obtain ⟨n₀, hn0'⟩ : ∃ n₀, n₀ = w.heap.size := ⟨_, rfl⟩
  rw [← hn0']
  have hF : Fresh w n₀ [.cells #[.pointer (some ⟨p, 0, none⟩)] 92, .cells #[.int .i64 n] 3] w1 := by
    rw [hw1, hn0']; exact (((Fresh.start w).alloc _).alloc _).drew
  have hB1 := hF.below
  have hs1 : w1.heap.size = n₀ + 2 := hF.size
  have bt : Boxed w1 n₀ 92 (.pointer (some ⟨p, 0, none⟩)) := hF.blks 0 _ rfl
  have bb : Boxed w1 (n₀ + 1) 3 (.int .i64 n) := hF.blks 1 _ rfl
  have hT1 : Tb base w1 p B cap l := hT.below (by rw [← hn0']; exact hB1)
  have ct := bt.cell
  have cb := bb.cell
  have HN := Lib.hid hn0'
  have HS := Lib.hid hs1
  clear hw1 hn0' hF hs1
  repeat still_step
  still_call (by simpa using power_any (n : Int) w1 (by omega) (by omega))
  repeat still_step
  refine wpStill_nil ?_
  clear hs0
  generalize hi : n - pow2 n = i at *
  have HI := Lib.hid hi
  have hi6 : i ≤ 1000000 := by omega
  clear hi
  go_wp2_with (go_at_call 71; refine (all_any p B 0 cap i l ch hi6 hl h4 w1 hT1.r hch hlen).mono ?_; rintro e w2 ⟨v, rfl, hv, hb2⟩; obtain ⟨A, c, rfl, hR⟩ := own_reads_of (enc := encN) (d := 0) (xs := ch.map (·.1)) (by rw [encs_eq, List.map_map]; exact hv))
  have hT2 := hT1.below hb2
  have hbt2 := boxed_below bt hb2
  have hbb2 := boxed_below bb hb2
  have hrs : ∀ r ∈ ch.map (·.1), recAt r + 2 < l.length ∧ r ≤ 100000 ∧ 0 ≤ ati l (recAt r) ∧ ati l (recAt r) ≤ 4294967296 := by
    intro r hr; obtain ⟨q, hq, rfl⟩ := List.mem_map.1 hr; exact hrec q hq
  have hB2 : Below n₀ w w2 := hB1.trans (hb2.mono (by have := HS.out; omega))
  have hz2 : n₀ + 2 ≤ w2.heap.size := by have := hb2.size; have := HS.out; omega
  have hle0 : n₀ ≤ w.heap.size := by have := HN.out; omega
  have hle1 : w.heap.size ≤ n₀ := by have := HN.out; omega
  have hF2 : Fr p B w w2 := Fr.of_below (by have := HN.out; rw [← HN.out]; exact hB2)
  have hpn : p < n₀ := by have := HN.out; have := hT.ltp; omega
  have hBn : B < n₀ := by have := HN.out; have := hT.ltB; omega
  have hlen2 : (ch.map (·.1)).length = ch.length := by simp
  rw [← hlen2]
  rw [← hlen2] at hR hlen
  clear hlen2 hch hrec hb2 ct cb bt bb hT1 hB1 hv hT
  generalize hrsd : ch.map (·.1) = rs at *
  have HRS := Lib.hid hrsd
  clear hrsd
  obtain ⟨nb, hnb⟩ : ∃ nb, nb = w2.heap.size := ⟨_, rfl⟩
  go_loopw [8, 9, 22] (fun vs vg kk wr => ∃ k : Nat, k ≤ rs.length ∧ kk = .int .i64 (k : Nat) ∧ Own2 nb wr vs vg (stayS l n (rs.take k)) (goneS l n (rs.take k)) ∧ Below nb w2 wr ∧ nb ≤ wr.heap.size)
    (fun _ _ kk _ => rs.length - (intOf kk).toNat)
  case atStart => exact ⟨0, Nat.zero_le _, rfl, ⟨World.ownsRow_nil _ _ _ _, World.ownsRow_nil _ _ _ _, fun k hk => by simp [Value.ownBlock] at hk⟩, Below.refl _ _, by omega⟩
  case round =>
    obtain ⟨k, hk, rfl, hO, hBr, hzr⟩ := hrel
    have hBr' : Below w2.heap.size w2 wr := by rw [← hnb]; exact hBr
    have hTr := hT2.below hBr'
    have btr := boxed_below hbt2 hBr'
    have bbr := boxed_below hbb2 hBr'
    have ctr := btr.cell
    have cbr := bbr.cell
    have HNB := Lib.hid hnb
    clear hnb
    by_cases hlt : k < rs.length
    · obtain ⟨ad, rfl, hcr⟩ := hR.2.2 (by omega)
      have hck := (hcr k hlt)
      have hck2 := (World.cell?_of_block (a := ad.add k) (hBr'.block _ (World.block_lt_of_cell? _ _ hck))).trans hck
      have hrk := hrs (natAt rs k) (by have e : natAt rs k = rs[k] := by { simp [natAt, hlt] }; rw [e]; exact List.getElem_mem _)
      have hck3 : wr.cell? (ad.add k) = some (.int .i64 (natAt rs k : Nat)) := hck2
      have hr1 := hrk.1
      have hr2 := hrk.2.1
      have hrle : (rs.take k).length ≤ 1000000 := by rw [List.length_take]; omega
      have hls : (stayS l n (rs.take k)).length ≤ 1000000 := Nat.le_trans (List.length_filter_le _ _) hrle
      have hlg : (goneS l n (rs.take k)).length ≤ 1000000 := Nat.le_trans (List.length_filter_le _ _) hrle
      clear hcr hck hck2 hrs hR hrle
      by_cases hnew : isNew l n (natAt rs k) = true
      · have hdec : decide (bkt (ati l (recAt (natAt rs k))).toNat (n + 1) = n) = true := hnew
        have HNW := Lib.hid (stayS_succ (l := l) (n := n) hlt true hnew)
        clear hnew
        go_wp2_with (first
          | (go_at_call 113; refine (isNew_any _ p B 0 cap n₀ (n₀ + 1) l hTr.r (natAt rs k) n _ hr2 (by omega) rfl hrk.2.2.1 hrk.2.2.2 hn1 ctr cbr).mono ?_; rintro e w5 ⟨rfl, hb5⟩; have hO5 := hO.below hb5; rw [hdec])
          | (at_builtin; refine app_row nb rfl _ _ rfl _ _ [natAt rs k] (some ⟨w5.heap.size, 0, none⟩) 1 rfl rfl (hO5.alloc _).g (reads_one _ _ _) (by have := hb5.size; simp; omega) (by simp; omega) ?_; intro v1 w6 ho6 hg6 hat6))
        go_roundw
        case rel =>
          have hz5 := hb5.size
          refine ⟨k + 1, by omega, by go_num, ?_, ?_, by have := hg6.size; simp at this; omega⟩
          · have h := ((hO5.alloc _).swap.app_s ho6 hg6 hat6).swap
            rw [HNW.out.1, HNW.out.2]
            simpa using h
          · exact (hBr.trans (((Below.refl _ _).trans (hb5.mono hzr)).alloc (by omega) _)).grown hg6 (by simp; omega) (fun j ej => (hO5.g.lt j ej).1)
        case measure => simp [intOf]; omega
      · have hnew : isNew l n (natAt rs k) = false := by simpa using hnew
        have hdec : decide (bkt (ati l (recAt (natAt rs k))).toNat (n + 1) = n) = false := hnew
        have HNW := Lib.hid (stayS_succ (l := l) (n := n) hlt false hnew)
        clear hnew
        go_wp2_with (first
          | (go_at_call 113; refine (isNew_any _ p B 0 cap n₀ (n₀ + 1) l hTr.r (natAt rs k) n _ hr2 (by omega) rfl hrk.2.2.1 hrk.2.2.2 hn1 ctr cbr).mono ?_; rintro e w5 ⟨rfl, hb5⟩; have hO5 := hO.below hb5; rw [hdec])
          | (at_builtin; refine app_row nb rfl _ _ rfl _ _ [natAt rs k] (some ⟨w5.heap.size, 0, none⟩) 1 rfl rfl (hO5.alloc _).s (reads_one _ _ _) (by have := hb5.size; simp; omega) (by simp; omega) ?_; intro v1 w6 ho6 hg6 hat6))
        go_roundw
        case rel =>
          have hz5 := hb5.size
          refine ⟨k + 1, by omega, by go_num, ?_, ?_, by have := hg6.size; simp at this; omega⟩
          · have h := ((hO5.alloc _).app_s ho6 hg6 hat6)
            rw [HNW.out.1, HNW.out.2]
            simpa using h
          · exact (hBr.trans (((Below.refl _ _).trans (hb5.mono hzr)).alloc (by omega) _)).grown hg6 (by simp; omega) (fun j ej => (hO5.s.lt j ej).1)
        case measure => simp [intOf]; omega
    · have hkk : k = rs.length := by omega
      subst hkk
      rw [List.take_length] at hO
      have hsS : ∀ r ∈ stayS l n rs, recAt r + 2 < l.length ∧ r ≤ 1000000 := fun r hr => by have := hrs r (List.mem_filter.1 hr |>.1); omega
      have hsG : ∀ r ∈ goneS l n rs, recAt r + 2 < l.length ∧ r ≤ 1000000 := fun r hr => by have := hrs r (List.mem_filter.1 hr |>.1); omega
      have hls : (stayS l n rs).length ≤ 1000000 := Nat.le_trans (List.length_filter_le _ _) hlen
      have hlg : (goneS l n rs).length ≤ 1000000 := Nat.le_trans (List.length_filter_le _ _) hlen
      have hne : ∀ (u : Value) (xs : List Value) (m k : Nat), wr.ownsRow nb 3 1 u m xs → k < n₀ + 2 → some k ≠ u.ownBlock := fun u xs m k h hk e => by have := (h.lt k e.symm).1; have := HNB.out; omega
      have hs1 := hne _ _ _ p hO.s (by omega)
      have hs2 := hne _ _ _ B hO.s (by omega)
      have hg1 := hne _ _ _ p hO.g (by omega)
      have hg2 := hne _ _ _ B hO.g (by omega)
      have hFr : Fr p B w wr := hF2.trans (Fr.of_below hBr')
      clear hne hR hrs
      go_wp2_with fail
      refine (link_any base _ p B cap l i hi6 (stayS l n rs) nb _ hTr hl hi1 hsS hls hO.s hs1 hs2).mono ?_
      rintro e w6 ⟨rfl, hT6, hF6⟩
      have ct6 := (World.cell?_of_block (a := ⟨n₀, 0, none⟩) (hF6.block n₀ (by have := HNB.out; omega) (by omega) (by omega))).trans ctr
      have cb6 := (World.cell?_of_block (a := ⟨n₀ + 1, 0, none⟩) (hF6.block (n₀ + 1) (by have := HNB.out; omega) (by omega) (by omega))).trans cbr
      have hG6 := Go.Proofs.YtdcomhdadnhpnaaW.PrintWords.own_move (w1 := w6) hO.g (fun k hk => hF6.block k (hO.g.lt k hk).2 (fun e => hg1 (by rw [hk, e])) (fun e => hg2 (by rw [hk, e])))
      have hl6 : (linkL l (headAt i) (stayS l n rs)).length = l.length := linkL_len _ _ _
      go_wp2_with fail
      refine (link_any base _ p B cap _ n (by omega) (goneS l n rs) nb _ hT6 (by omega) (by omega) (by rw [hl6]; exact hsG) hlg hG6 hg1 hg2).mono ?_
      rintro e w7 ⟨rfl, hT7, hF7⟩
      clear hl6
      go_wp2
      go_ret
      refine ⟨?_, ?_, (hFr.trans hF6).trans hF7⟩
      · have := congrArg List.length HRS.out
        rw [List.length_map] at this
        rw [this]; rfl
      · rw [HI.out, HRS.out]
        exact hT7
end Go.Proofs.Ytdcomhdadnhpnaa
