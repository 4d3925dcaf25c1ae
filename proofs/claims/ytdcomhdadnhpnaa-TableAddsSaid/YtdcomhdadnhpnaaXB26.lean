import Derived.Test.YtdcomhdadnhpnaaXB25
import Derived.Test.YtdcomhdadnhpnaaXB24
set_option linter.all false
namespace Go.Proofs.Ytdcomhdadnhpnaa
open Go Go.Am Go.RowKit
open Classical in
noncomputable def c78k (kk : Nat) : List AV → AP AV
  | [t] => rdD t fun l => if l.length ≤ 1000000000 ∧ ValidL l ∧ kk < (chsT l).length ∧ (chsT l).getD kk [] ≠ [] then
      .new (.row 0 2 (elsA (recsT l))) fun n1 => .new (.row 0 1 (natsA ((chsT l).getD kk []))) fun g => .new (.row 0 1 ((rowsN (chsT l)).set kk (.sl g 0 0 ((chsT l).getD kk []).length))) fun n2 =>
        .ret (.tup [.agg [.sl n1 0 0 (recsT l).length, .sl n2 0 0 (chsT l).length], .sc (.bool true)]) else .fail
  | _ => .fail
set_option maxRecDepth 100000 in
theorem readk_own {l : List Int} (hl : l.length ≤ 1000000000) (hV : ValidL l) (kk : Nat) (hkk : kk < (chsT l).length) (hne : (chsT l).getD kk [] ≠ []) : ACall Try.prog 78 [.dsl l.length (ints l)]
    (.new (.row 0 2 (elsA (recsT l))) fun n1 => .new (.row 0 1 (natsA ((chsT l).getD kk []))) fun g => .new (.row 0 1 ((rowsN (chsT l)).set kk (.sl g 0 0 ((chsT l).getD kk []).length))) fun n2 =>
        .ret (.tup [.agg [.sl n1 0 0 (recsT l).length, .sl n2 0 0 (chsT l).length], .sc (.bool true)])) := by
  refine acall_gen Try.func78 rfl (fun E s0 s r H' s' hr hs => ?_)
  have hs0 : ∀ q, s ≤ q → E.H q = none := fun q hq => (hs q hq).1
  have hall : ∀ q, s ≤ q → H' q = none := fun q hq => (hs q hq).2
  simp only [AP.run] at hr
  split at hr
  rotate_left
  · cases hr
  rename_i f1
  split at hr
  rotate_left
  · cases hr
  rename_i f2
  split at hr
  rotate_left
  · cases hr
  rename_i f3
  simp only [Option.some.injEq, Prod.mk.injEq] at hr
  obtain ⟨rfl, rfl, rfl⟩ := hr
  rw [upd_ne _ _ (by omega), upd_ne _ _ (by omega)] at f3
  rw [upd_ne _ _ (by omega)] at f2
  have hlt : s0 + 2 < s := Nat.lt_of_not_le fun h => by
    have := hall _ h
    rw [show s0 + 1 + 1 = s0 + 2 from rfl, upd_same] at this; cases this
  refine (wA_ok hmix (ctK_ok kk) _ (by kernel_rfl) (readk_walk l hl hV kk hkk hne E s hs0 (fun r1 H1 => ∃ (r2 : AV) (N : Nat → Option (Nat × Nat)), Wk r2 _ ∧ Fin E.H H1 N _ ∧ Pub H1 (fun n => _ ≠ none ∧ N n = none) N r1 r2) (fun H1 nm1 ver1 nm2 ver2 g hE h1 hn1 h2 hn2 hg hng hne2 => ?_)))
  generalize chsT l = chs at *
  generalize recsT l = recs at *
  let N : Nat → Option (Nat × Nat) := fun q => if q = s0 then some (nm1, 0) else if q = s0 + 1 then some (g, 0) else if q = s0 + 1 + 1 then some (nm2, 0) else none
  have N0 : N s0 = some (nm1, 0) := if_pos rfl
  have N1 : N (s0 + 1) = some (g, 0) := by show (if _ then _ else _) = _; rw [if_neg (by omega), if_pos rfl]
  have N2 : N (s0 + 1 + 1) = some (nm2, 0) := by show (if _ then _ else _) = _; rw [if_neg (by omega), if_neg (by omega), if_pos rfl]
  have N3 : ∀ q, q ≠ s0 → q ≠ s0 + 1 → q ≠ s0 + 1 + 1 → N q = none := fun q a b c => by show (if _ then _ else _) = _; rw [if_neg a, if_neg b, if_neg c]
  have Ncase : ∀ q n o, N q = some (n, o) → o = 0 ∧ ((q = s0 ∧ n = nm1) ∨ (q = s0 + 1 ∧ n = g) ∨ (q = s0 + 1 + 1 ∧ n = nm2)) := fun q n o h => by
    by_cases a : q = s0
    · subst a; rw [N0] at h; cases h; exact ⟨rfl, .inl ⟨rfl, rfl⟩⟩
    · by_cases b : q = s0 + 1
      · subst b; rw [N1] at h; cases h; exact ⟨rfl, .inr (.inl ⟨rfl, rfl⟩)⟩
      · by_cases c : q = s0 + 1 + 1
        · subst c; rw [N2] at h; cases h; exact ⟨rfl, .inr (.inr ⟨rfl, rfl⟩)⟩
        · rw [N3 q a b c] at h; cases h
  have d1 : nm1 ≠ g := fun e => by rw [e, hg] at h1; cases h1
  have d2 : nm1 ≠ nm2 := fun e => by rw [e, h2] at h1; cases h1
  have hcell : cellsK kk g chs = (rowsN chs).set kk (.sl g 0 0 (chs.getD kk []).length) := by unfold cellsK; rw [if_pos hkk]
  rw [hcell] at h2
  have hk2 : kk < (rowsN chs).length := by rw [rowsN_len]; exact hkk
  refine ⟨_, N, Wk.rfl', ⟨fun n hn => ?_, fun n o' hn => ?_, fun a b n o o' ha hb => ?_, fun q n o hq => ?_, ⟨s, hall⟩⟩, ?_⟩
  · have a : n ≠ s0 := fun e => hn (by rw [e]; exact f1)
    have b : n ≠ s0 + 1 := fun e => hn (by rw [e]; exact f2)
    have c : n ≠ s0 + 1 + 1 := fun e => hn (by rw [e]; exact f3)
    exact ⟨by rw [upd_ne _ _ c, upd_ne _ _ b, upd_ne _ _ a]; exact hn, N3 n a b c⟩
  · by_cases c : n = s0 + 1 + 1
    · subst c
      rw [upd_same] at hn; cases hn
      refine .inr ⟨nm2, 0, ver2, 1, _, _, N2, h2, hall nm2 hn2, Nat.zero_le _, rfl, by simp, fun j a b ha hb => ?_⟩
      rw [List.drop_zero] at ha
      by_cases e : kk = j
      · subst e
        rw [List.getElem?_set_self hk2] at ha hb
        cases ha; cases hb
        exact Pub.ren (s := s0 + 1) hg N1 (fun k => k.1 (hall g hng))
      · rw [List.getElem?_set_ne e] at ha hb
        rw [ha] at hb; cases hb
        exact .same (row_inS (List.mem_of_getElem? ha))
    · rw [upd_ne _ _ c] at hn
      by_cases b : n = s0 + 1
      · subst b
        rw [upd_same] at hn; cases hn
        refine .inr ⟨g, 0, 0, 1, _, _, N1, hg, hall g hng, Nat.zero_le _, rfl, by simp, fun j a b ha hb => ?_⟩
        rw [List.drop_zero] at ha
        rw [ha] at hb; cases hb
        obtain ⟨x, _, rfl⟩ := List.mem_map.1 (List.mem_of_getElem? ha)
        exact Pub.sc _
      · rw [upd_ne _ _ b] at hn
        by_cases a : n = s0
        · subst a
          rw [upd_same] at hn; cases hn
          refine .inr ⟨nm1, 0, ver1, 2, _, _, N0, h1, hall nm1 hn1, Nat.zero_le _, rfl, by simp, fun j a b ha hb => ?_⟩
          rw [List.drop_zero] at ha
          rw [ha] at hb; cases hb
          obtain ⟨v, rfl⟩ := elsA_sc (List.mem_of_getElem? ha)
          exact Pub.sc _
        · rw [upd_ne _ _ a] at hn
          have hlt : n < s := Nat.lt_of_not_le fun h => by rw [hs0 n h] at hn; cases hn
          exact .inl ⟨N3 n a b c, .inl ⟨hn, by rw [hE n hlt]; exact hn⟩⟩
  · obtain ⟨_, ha⟩ := Ncase a n o ha
    obtain ⟨_, hb⟩ := Ncase b n o' hb
    omega
  · obtain ⟨_, hq⟩ := Ncase q n o hq
    rcases hq with ⟨rfl, _⟩ | ⟨rfl, _⟩ | ⟨rfl, _⟩
    · rw [upd_ne _ _ (by omega), upd_ne _ _ (by omega), upd_same]; simp
    · rw [upd_ne _ _ (by omega), upd_same]; simp
    · rw [upd_same]; simp
  · exact Pub.tab (Pub.ren (s := s0) h1 N0 (fun k => k.1 (hall nm1 hn1))) (Pub.ren (s := s0 + 1 + 1) h2 N2 (fun k => k.1 (hall nm2 hn2))) (Pub.sc _)
theorem a78k (kk : Nat) (args : List AV) : ACall Try.prog 78 args (c78k kk args) := by
  intro ρ H w vs hR hA s r H' s' hm
  unfold c78k at hm
  split at hm
  · obtain ⟨v0, rfl, hv0⟩ := reps1 hA
    obtain ⟨l, hr, hm⟩ := rdD_ok hv0 hm
    split at hm
    · rename_i hc
      obtain ⟨hl, hV, hkk, hne⟩ := hc
      exact readk_own hl hV kk hkk hne ρ H w _ hR (.cons hr .nil) s r H' s' hm
    · simp [AP.run] at hm
  · simp [AP.run] at hm
end Go.Proofs.Ytdcomhdadnhpnaa
