/- Plain: what Put makes of a table. No program here. -/
import Derived.Test.YtdcomhdadnhpnaaP14
import Derived.Test.YtdcomhdadnhpnaaT31
set_option linter.unusedSimpArgs false
set_option linter.unusedVariables false
namespace Go.Proofs.Ytdcomhdadnhpnaa
variable {l l' : List Int} {n b : Nat} {C C' : Nat → List Nat}

theorem rec1_head {r i : Nat} : recAt r + 1 ≠ headAt i := fun e => head_rec e.symm (by omega)
theorem rec1_ne {r s a : Nat} (ha : a < 3) (h : s ≠ r ∨ a ≠ 1) : recAt r + 1 ≠ recAt s + a := fun e => by
  have := recAt_inj e (by omega) ha
  omega
/-- the word of a record is replaced -/
theorem G.put (g : G l n b C) {r : Nat} (hr : r < n) {h x v : Int} (hh : hits l h x r) (hv : v = x ∨ ∀ s, s < n → ¬ hits l h v s) : G (l.set (recAt r + 1) v) n b C := by
  have h1 : ∀ q, q ≠ recAt r + 1 → ati (l.set (recAt r + 1) v) q = ati l q := fun q hq => ati_set_ne (Ne.symm hq)
  have h0 : ∀ s, ati (l.set (recAt r + 1) v) (recAt s) = ati l (recAt s) := fun s => h1 _ (fun e => rec1_ne (s := s) (a := 0) (by omega) (.inr (by omega)) e.symm)
  have hw : ∀ s, ati (l.set (recAt r + 1) v) (recAt s + 1) = if s = r then v else ati l (recAt s + 1) := fun s => by
    by_cases e : s = r
    · subst e; rw [if_pos rfl, ati_set_eq (by have := g.rl s hr; omega)]
    · rw [if_neg e]; exact h1 _ (fun e2 => rec1_ne (s := s) (a := 1) (by omega) (.inl e) e2.symm)
  refine ⟨g.n1, fun s hs => by rw [List.length_set]; exact g.rl s hs, g.b8, fun i hi => by rw [List.length_set]; exact g.hl i hi, fun s hs => by rw [h0]; exact g.hash s hs, fun i hi => ?_, g.nd, fun i hi s => by rw [h0]; exact g.mem i hi s, fun i hi => by
    refine (g.srt i hi).imp (fun {a b} hab => by rw [h0, h0]; exact hab), fun s hs t ht e1 e2 => ?_, fun i hi => ?_, fun s hs a ha => ?_⟩
  · refine (g.chn i hi).frame (fun q hq => ⟨?_, ?_⟩)
    · rw [List.length_set]
      rcases hq with rfl | ⟨s, hs, rfl⟩
      · exact g.hl i hi
      · exact g.rl s (g.lt hi hs)
    · refine h1 _ ?_
      rcases hq with rfl | ⟨s, hs, rfl⟩
      · exact fun e => rec1_head e.symm
      · exact fun e => rec1_ne (s := s) (a := 2) (by omega) (.inr (by omega)) e.symm
  · rw [h0, h0] at e1
    rw [hw, hw] at e2
    by_cases es : s = r
    · by_cases et : t = r
      · rw [es, et]
      · exfalso
        rw [if_pos es, if_neg et] at e2
        rcases hv with rfl | hv
        · exact et ((g.dif t ht r hr (by rw [← e1, es]) (by rw [← e2]; exact hh.2.symm)))
        · exact hv t ht ⟨by rw [← e1, es]; exact hh.1, e2.symm⟩
    · by_cases et : t = r
      · exfalso
        rw [if_neg es, if_pos et] at e2
        rcases hv with rfl | hv
        · exact es (g.dif s hs r hr (by rw [e1, et]) (by rw [e2]; exact hh.2.symm))
        · exact hv s hs ⟨by rw [e1, et]; exact hh.1, e2⟩
      · rw [if_neg es, if_neg et] at e2
        exact g.dif s hs t ht e1 e2
  · rw [h1 _ (fun e => rec1_head e.symm)]; exact g.zh i hi
  · rw [h1 _ (fun e => rec1_ne (s := s) (a := a) ha (.inl (by omega)) e.symm)]; exact g.zr s hs a ha
theorem HeadOk.put (hH : HeadOk l n) {r : Nat} (v : Int) : HeadOk (l.set (recAt r + 1) v) n := by
  have h12 := recAt_ge r
  have h1 : ∀ q, q < 4 → ati (l.set (recAt r + 1) v) q = ati l q := fun q hq => ati_set_ne (by omega)
  exact ⟨(h1 0 (by omega)).trans hH.n0, hH.n1, (List.length_set ..).trans hH.len, (h1 1 (by omega)).trans hH.b1, (h1 2 (by omega)).trans hH.b2, (h1 3 (by omega)).trans hH.b3⟩
theorem G.put_out (g : G l n b C) {r : Nat} (hr : r < n) {h x v : Int} (hh : hits l h x r) {h' : Int} : ∀ {rs : List Nat}, (∀ s ∈ rs, s < n) → outL (l.set (recAt r + 1) v) h' rs = if h' = h then (outL l h rs).map (fun w => if w = x then v else w) else outL l h' rs
  | [], _ => by simp [outL]
  | s :: rs, hs => by
    have hsn := hs s (by simp)
    have ih := G.put_out g hr hh (v := v) (h' := h') (rs := rs) (fun t ht => hs t (by simp [ht]))
    have h0 : ati (l.set (recAt r + 1) v) (recAt s) = ati l (recAt s) := ati_set_ne (rec1_ne (s := s) (a := 0) (by omega) (.inr (by omega)))
    rw [outL_cons, ih, h0]
    by_cases e : h' = h
    · subst e
      rw [if_pos rfl, if_pos rfl, outL_cons, List.map_append]
      by_cases es : ati l (recAt s) = h'
      · rw [if_pos es, if_pos es]
        by_cases er : s = r
        · subst er
          rw [ati_set_eq (by have := g.rl s hr; omega), hh.2]; simp
        · rw [ati_set_ne (rec1_ne (s := s) (a := 1) (by omega) (.inl er))]
          have : ati l (recAt s + 1) ≠ x := fun e2 => er (g.dif s hsn r hr (es.trans hh.1.symm) (e2.trans hh.2.symm))
          simp [this]
      · rw [if_neg es, if_neg es]; rfl
    · rw [if_neg e, if_neg e, outL_cons]
      by_cases es : ati l (recAt s) = h'
      · have er : s ≠ r := fun er => e (by rw [← es, er]; exact hh.1)
        rw [if_pos es, if_pos es, ati_set_ne (rec1_ne (s := s) (a := 1) (by omega) (.inl er))]
      · rw [if_neg es, if_neg es]

open Classical in
/-- what Put returns -/
noncomputable def putF (l : List Int) (h x v : Int) : List Int × Int :=
  if q : ∃ r : List Int × Int, PutQ l h x v r.1 r.2 then q.choose else ([], 0)
theorem hasR_out {rs : List Nat} {h x : Int} : hasR l h x rs = false ↔ x ∉ outL l h rs := by rw [← hasR_wds (l := l), Bool.eq_false_iff]
theorem putQ_uni {h x v : Int} {l1 l2 : List Int} {c c' : Int} (q : PutQ l h x v l1 c) (q' : PutQ l h x v l2 c') : l1 = l2 ∧ c = c' := by
  rcases q with ⟨h1, rfl, rfl⟩ | ⟨h1, h2, rfl, rfl⟩ | ⟨h1, h2, n, C, hH, g, q⟩
  · rcases q' with ⟨_, rfl, rfl⟩ | ⟨h3, _⟩ | ⟨h3, _⟩
    · exact ⟨rfl, rfl⟩
    · exact absurd h3 h1
    · exact absurd h3 h1
  · rcases q' with ⟨h3, _⟩ | ⟨_, _, rfl, rfl⟩ | ⟨_, h3, _⟩
    · exact absurd h1 h3
    · exact ⟨rfl, rfl⟩
    · exact absurd h3 h2
  · rcases q' with ⟨h3, _⟩ | ⟨_, h3, _⟩ | ⟨_, _, n', C', hH', g', q'⟩
    · exact absurd h1 h3
    · exact absurd h2 h3
    · obtain rfl := hH.same hH'
      have hi := bkt_lt h.toNat (b := bkts n) (by have := bkts8 n; omega)
      rw [← g.det g' hi] at q'
      rcases q with ⟨a1, rfl, rfl⟩ | ⟨a1, a2, a3, rfl, rfl⟩ | ⟨a1, rfl, r, hr, hh, rfl⟩ <;> rcases q' with ⟨b1, rfl, rfl⟩ | ⟨b1, b2, b3, rfl, rfl⟩ | ⟨b1, rfl, r', hr', hh', rfl⟩
      · exact ⟨rfl, rfl⟩
      · rw [a1] at b1; cases b1
      · exact absurd (hasR_out.1 a1) (fun hn => hn (outL_mem.2 ⟨r', hr', hh'⟩))
      · rw [b1] at a1; cases a1
      · exact ⟨rfl, rfl⟩
      · rcases b1 with b1 | b1
        · exact absurd b1 a2
        · rw [b1] at a3; cases a3
      · exact absurd (hasR_out.1 b1) (fun hn => hn (outL_mem.2 ⟨r, hr, hh⟩))
      · rcases a1 with a1 | a1
        · exact absurd a1 b2
        · rw [a1] at b3; cases b3
      · have e : r = r' := g.dif r (g.lt hi hr) r' (g.lt hi hr') (hh.1.trans hh'.1.symm) (hh.2.trans hh'.2.symm)
        rw [e]; exact ⟨rfl, rfl⟩
theorem putF_eq {h x v : Int} {c : Int} (q : PutQ l h x v l' c) : putF l h x v = (l', c) := by
  have hex : ∃ r : List Int × Int, PutQ l h x v r.1 r.2 := ⟨(l', c), q⟩
  unfold putF
  rw [dif_pos hex]
  have := putQ_uni hex.choose_spec q
  exact Prod.ext this.1 this.2
theorem putF_bad (hV : ValidL l) {h x v : Int} (hh : ¬ okH h) : putF l h x v = ([], 1) := putF_eq (.inr (.inl ⟨hV, hh, rfl, rfl⟩))
theorem putF_none (hV : ValidL l) {h x v : Int} (hh : okH h) (hx : x ∉ wds l h) : putF l h x v = ([], 5) :=
  putF_eq (.inr (.inr ⟨hV, hh, tabN l, tabC l, tab_h hV, tab_g hV, .inl ⟨hasR_out.2 hx, rfl, rfl⟩⟩))
theorem putF_twice (hV : ValidL l) {h x v : Int} (hh : okH h) (hx : x ∈ wds l h) (hne : v ≠ x) (hv : v ∈ wds l h) : putF l h x v = ([], 6) :=
  putF_eq (.inr (.inr ⟨hV, hh, tabN l, tabC l, tab_h hV, tab_g hV, .inr (.inl ⟨hasR_wds.2 hx, hne, hasR_wds.2 hv, rfl, rfl⟩)⟩))
theorem putF_ok (hV : ValidL l) {h x v : Int} (hh : okH h) (hx : x ∈ wds l h) (hv : v = x ∨ v ∉ wds l h) :
    (putF l h x v).2 = 0 ∧ ValidL (putF l h x v).1 ∧ tabN (putF l h x v).1 = tabN l ∧ ∀ h', wds (putF l h x v).1 h' = if h' = h then (wds l h).map (fun w => if w = x then v else w) else wds l h' := by
  have g := tab_g hV
  have hH := tab_h hV
  have hi := bkt_lt h.toNat (b := bkts (tabN l)) (by have := bkts8 (tabN l); omega)
  obtain ⟨r, hr, hh1, hh2⟩ := outL_mem.1 hx
  have hrn := g.lt hi hr
  have e : putF l h x v = (l.set (recAt r + 1) v, 0) := putF_eq (.inr (.inr ⟨hV, hh, tabN l, tabC l, hH, g, .inr (.inr ⟨hv.imp id (fun h1 => hasR_out.2 h1), rfl, r, hr, ⟨hh1, hh2⟩, rfl⟩)⟩))
  rw [e]
  have g2 := g.put hrn ⟨hh1, hh2⟩ (v := v) (hv.imp id (fun h1 s hs hs2 => h1 (outL_mem.2 ⟨s, (g.mem _ hi s).2 ⟨hs, by rw [hs2.1]⟩, hs2⟩)))
  have hH2 := hH.put (r := r) v
  refine ⟨rfl, g_validL hH2 g2, tab_n hH2, fun h' => ?_⟩
  have hi' := bkt_lt h'.toNat (b := bkts (tabN l)) (by have := bkts8 (tabN l); omega)
  rw [wds_g hH2 g2, g.put_out hrn ⟨hh1, hh2⟩ (fun s hs => g.lt hi' hs)]
  by_cases eh : h' = h
  · subst eh; rfl
  · rw [if_neg eh, if_neg eh]; rfl
end Go.Proofs.Ytdcomhdadnhpnaa
