/- (t) Add and Drop, as the package gives them. -/
import Derived.Test.YtdcomhdadnhpnaaT21
set_option linter.unusedSimpArgs false
set_option linter.unusedVariables false
namespace Go.Proofs.Ytdcomhdadnhpnaa
open Go.RowKit Go.Shelf

/-- what a function returns that makes a list of words from one: nothing, 0 and why; or the words and a number -/
def MadeE (base : Nat) (e : Ending) (W' : World) (R : Int → List Int → Int → Prop) : Prop :=
  (∃ c, c ≠ 0 ∧ e = .returned (.tuple #[.slice none 0 0, .int .i64 0, .int .i64 c]) ∧ R 0 [] c) ∨
  (∃ B cap k l', e = .returned (.tuple #[.slice (some ⟨B, 0, none⟩) l'.length cap, .int .i64 k, .int .i64 0]) ∧ Rw base W' B cap l' ∧ R k l' 0)

/-- what Add returns -/
def AddQ (l : List Int) (h x : Int) (k : Int) (l' : List Int) (c : Int) : Prop :=
  (¬ ValidL l ∧ k = 0 ∧ l' = [] ∧ c = 600) ∨
  (ValidL l ∧ ¬ (0 ≤ h ∧ h ≤ 2147483647) ∧ k = 0 ∧ l' = [] ∧ c = 1) ∨
  (ValidL l ∧ (0 ≤ h ∧ h ≤ 2147483647) ∧ ∃ n C, HeadOk l n ∧ G l n (bkts n) C ∧ c = (addR l n C h x).2.1 ∧ k = (addR l n C h x).1 ∧ (c = 0 → l' = (addR l n C h x).2.2) ∧ (c ≠ 0 → l' = []))
theorem addR_cases (l : List Int) (n : Nat) (C : Nat → List Nat) (h x : Int) : ((addR l n C h x).2.1 = 0) ∨ ((addR l n C h x).2.1 ≠ 0 ∧ (addR l n C h x).1 = 0) := by
  unfold addR
  split
  · right; simp
  · split
    · right; simp
    · split
      · right; simp
      · split <;> (left; rfl)

set_option maxRecDepth 100000 in
set_option maxHeartbeats 2000000 in
theorem addX_any (A : Option Addr) (c : Nat) (l : List Int) (h x : Int) (w : World) (hR : RdL w A l) :
    Calls Try.prog 24 #[.slice A l.length c, .int .i64 h, .int .i64 x] w fun e W' => MadeE w.heap.size e W' (AddQ l h x) ∧ Below w.heap.size w W' := by
  go_enter Try.func24, Try.ntmps24
  go_wp2_with fail
  refine (opened_any A c l h w hR).mono ?_
  rintro e w1 ⟨(⟨hV, rfl⟩ | ⟨hV, hh, rfl⟩ | ⟨hV, hh, p, B, cap, rfl, hT⟩), hB1⟩
  · go_wp2
    refine bodyPost_ret (v := .tuple #[.slice none 0 0, .int .i64 0, .int .i64 600]) (by simp [results, Try.results24, go_sem]) rfl ?_
    exact ⟨.inl ⟨600, by decide, rfl, .inl ⟨hV, rfl, rfl, rfl⟩⟩, hB1⟩
  · have HH := Lib.hid hh
    clear hh
    go_wp2
    refine bodyPost_ret (v := .tuple #[.slice none 0 0, .int .i64 0, .int .i64 1]) (by simp [results, Try.results24, go_sem]) rfl ?_
    exact ⟨.inl ⟨1, by decide, rfl, .inr (.inl ⟨hV, HH.out, rfl, rfl, rfl⟩)⟩, hB1⟩
  · obtain ⟨C, hH, g⟩ := validL_iff.1 hV
    generalize (ati l 0).toNat = n at hH g
    have hbld : ∀ W : World, (Instr.build 43 #[(0, .int .i64 h), (1, .int .i64 x)]).run Try.prog W = .ok (.agg #[.int .i64 h, .int .i64 x]) W := fun _ => by kernel_rfl
    have HA := add_any w.heap.size w1 p B cap l n C h x hT hH g hB1.size
    have hs1 := hB1.size
    have hQ : ∀ k l' c, c = (addR l n C h x).2.1 → k = (addR l n C h x).1 → (c = 0 → l' = (addR l n C h x).2.2) → (c ≠ 0 → l' = []) → AddQ l h x k l' c := fun k l' c h1 h2 h3 h4 => .inr (.inr ⟨hV, hh, n, C, hH, g, h1, h2, h3, h4⟩)
    have hBl : ∀ W, Fr p B w1 W → Below w.heap.size w W := fun W hF => hB1.trans (hF.below hs1 hT.pb hT.bb)
    have HQ := Lib.hid hQ
    have HBl := Lib.hid hBl
    have hcs := addR_cases l n C h x
    generalize addR l n C h x = R at *
    obtain ⟨k, c2, l'⟩ := R
    dsimp only at *
    clear hQ hBl hV hh hH g hT
    go_wp2_with fail
    refine HA.mono ?_
    rintro e w2 ⟨rfl, B', cap', hT2, hF2, hB2⟩
    rcases hcs with rfl | ⟨hne, rfl⟩
    · have hp := hT2.head
      have HT := Lib.hid hT2
      clear hT2
      go_wp2
      refine bodyPost_ret (v := .tuple #[.slice (some ⟨B', 0, none⟩) l'.length cap', .int .i64 k, .int .i64 0]) (by simp [results, Try.results24, go_sem]) rfl ?_
      exact ⟨.inr ⟨B', cap', k, l', rfl, HT.out.rw_, HQ.out _ _ _ rfl rfl (fun _ => rfl) (fun h => absurd rfl h)⟩, HBl.out _ hF2⟩
    · have hne' : (c2 != 0) = true := by simpa using hne
      go_wp2
      refine bodyPost_ret (v := .tuple #[.slice none 0 0, .int .i64 0, .int .i64 c2]) (by simp [results, Try.results24, go_sem]) rfl ?_
      exact ⟨.inl ⟨c2, hne, rfl, HQ.out _ _ _ rfl rfl (fun h => absurd h hne) (fun _ => rfl)⟩, HBl.out _ hF2⟩

/-- what Drop returns -/
def DropQ (l : List Int) (h x : Int) (k : Int) (l' : List Int) (c : Int) : Prop :=
  (¬ ValidL l ∧ k = 0 ∧ l' = [] ∧ c = 600) ∨
  (ValidL l ∧ ¬ (0 ≤ h ∧ h ≤ 2147483647) ∧ k = 0 ∧ l' = [] ∧ c = 1) ∨
  (ValidL l ∧ (0 ≤ h ∧ h ≤ 2147483647) ∧ ∃ n C, HeadOk l n ∧ G l n (bkts n) C ∧
    ((hasR l h x (C (bkt h.toNat (bkts n))) = false ∧ k = 0 ∧ l' = [] ∧ c = 5) ∨ (c = 0 ∧ ∃ (m : Nat) (C' : Nat → List Nat), k = (m : Int) ∧ DropS l n C h x m l' C')))
set_option maxRecDepth 100000 in
set_option maxHeartbeats 2000000 in
theorem dropX_any (A : Option Addr) (c : Nat) (l : List Int) (h x : Int) (w : World) (hR : RdL w A l) :
    Calls Try.prog 27 #[.slice A l.length c, .int .i64 h, .int .i64 x] w fun e W' => MadeE w.heap.size e W' (DropQ l h x) ∧ Below w.heap.size w W' := by
  go_enter Try.func27, Try.ntmps27
  go_wp2_with fail
  refine (opened_any A c l h w hR).mono ?_
  rintro e w1 ⟨(⟨hV, rfl⟩ | ⟨hV, hh, rfl⟩ | ⟨hV, hh, p, B, cap, rfl, hT⟩), hB1⟩
  · go_wp2
    refine bodyPost_ret (v := .tuple #[.slice none 0 0, .int .i64 0, .int .i64 600]) (by simp [results, Try.results27, go_sem]) rfl ?_
    exact ⟨.inl ⟨600, by decide, rfl, .inl ⟨hV, rfl, rfl, rfl⟩⟩, hB1⟩
  · have HH := Lib.hid hh
    clear hh
    go_wp2
    refine bodyPost_ret (v := .tuple #[.slice none 0 0, .int .i64 0, .int .i64 1]) (by simp [results, Try.results27, go_sem]) rfl ?_
    exact ⟨.inl ⟨1, by decide, rfl, .inr (.inl ⟨hV, HH.out, rfl, rfl, rfl⟩)⟩, hB1⟩
  · obtain ⟨C, hH, g⟩ := validL_iff.1 hV
    generalize (ati l 0).toNat = n at hH g
    have hbld : ∀ W : World, (Instr.build 43 #[(0, .int .i64 h), (1, .int .i64 x)]).run Try.prog W = .ok (.agg #[.int .i64 h, .int .i64 x]) W := fun _ => by kernel_rfl
    have HA := drop_any w.heap.size w1 p B cap l n C h x hT hH g hB1.size hh.1 hh.2
    have hs1 := hB1.size
    have hQ0 : hasR l h x (C (bkt h.toNat (bkts n))) = false → DropQ l h x 0 [] 5 := fun h1 => .inr (.inr ⟨hV, hh, n, C, hH, g, .inl ⟨h1, rfl, rfl, rfl⟩⟩)
    have hQ1 : ∀ m l' C', DropS l n C h x m l' C' → DropQ l h x (m : Nat) l' 0 := fun m l' C' h1 => .inr (.inr ⟨hV, hh, n, C, hH, g, .inr ⟨rfl, m, C', rfl, h1⟩⟩)
    have hBl : ∀ W, Fr p B w1 W → Below w.heap.size w W := fun W hF => hB1.trans (hF.below hs1 hT.pb hT.bb)
    have HQ0 := Lib.hid hQ0
    have HQ1 := Lib.hid hQ1
    have HBl := Lib.hid hBl
    clear hQ0 hQ1 hBl hV hh hH g hT
    go_wp2_with fail
    refine HA.mono ?_
    rintro e w2 (⟨hno, rfl, hT2, hF2⟩ | ⟨k, l', C', hD, rfl, B', cap', hT2, hF2, hB2⟩)
    · have HT := Lib.hid hT2
      have HN := Lib.hid hno
      clear hT2 hno
      go_wp2
      refine bodyPost_ret (v := .tuple #[.slice none 0 0, .int .i64 0, .int .i64 5]) (by simp [results, Try.results27, go_sem]) rfl ?_
      exact ⟨.inl ⟨5, by decide, rfl, HQ0.out HN.out⟩, HBl.out _ hF2⟩
    · have hp := hT2.head
      have HT := Lib.hid hT2
      have HD := Lib.hid hD
      clear hT2 hD
      go_wp2
      refine bodyPost_ret (v := .tuple #[.slice (some ⟨B', 0, none⟩) l'.length cap', .int .i64 k, .int .i64 0]) (by simp [results, Try.results27, go_sem]) rfl ?_
      exact ⟨.inr ⟨B', cap', k, l', rfl, HT.out.rw_, HQ1.out _ _ _ HD.out⟩, HBl.out _ hF2⟩
end Go.Proofs.Ytdcomhdadnhpnaa
