/- Plain: the words of a table are told by its elements and chains; what Add makes; small tables. No program here. -/
import Derived.Test.YtdcomhdadnhpnaaP8
import Derived.Test.YtdcomhdadnhpnaaT20
import Derived.Test.YtdcomhdadnhpnaaT19
set_option linter.unusedSimpArgs false
set_option linter.unusedVariables false
namespace Go.Proofs.Ytdcomhdadnhpnaa
variable {l l' : List Int} {n b : Nat} {C C' : Nat → List Nat}

theorem pos_cases {q : Nat} (h : 4 ≤ q) : (∃ i, q = headAt i) ∨ ∃ r a, a < 3 ∧ q = recAt r + a := by
  obtain ⟨S, o, ho, e⟩ : ∃ S o, o < 56 ∧ q = 4 + 56 * S + o := ⟨(q - 4) / 56, (q - 4) % 56, Nat.mod_lt _ (by omega), by omega⟩
  by_cases h8 : o < 8
  · refine .inl ⟨8 * S + o, ?_⟩
    unfold headAt
    have h1 : (8 * S + o) / 8 = S := by omega
    have h2 : (8 * S + o) % 8 = o := by omega
    rw [h1, h2]; omega
  · refine .inr ⟨16 * S + (o - 8) / 3, (o - 8) % 3, Nat.mod_lt _ (by omega), ?_⟩
    unfold recAt
    have h0 : (o - 8) / 3 < 16 := by omega
    have h1 : (16 * S + (o - 8) / 3) / 16 = S := by omega
    have h2 : (16 * S + (o - 8) / 3) % 16 = (o - 8) / 3 := by omega
    rw [h1, h2]; omega
theorem CL.same : ∀ {f : Nat} {rs : List Nat}, CL l f rs → CL l' f rs → ati l f = ati l' f ∧ ∀ r ∈ rs, ati l (recAt r + 2) = ati l' (recAt r + 2)
  | _, [], h, h' => ⟨h.2.trans h'.2.symm, by simp⟩
  | _, r :: rs, h, h' => ⟨h.2.1.trans h'.2.1.symm, fun s hs => by
      have := h.2.2.2.same h'.2.2.2
      rcases List.mem_cons.1 hs with rfl | hs
      · exact this.1
      · exact this.2 s hs⟩
/-- two lists of words of the same elements and chains are the same -/
theorem G.ext (hH : HeadOk l n) (hH' : HeadOk l' n) (g : G l n (bkts n) C) (g' : G l' n (bkts n) C') (hC : ∀ i, i < bkts n → C i = C' i)
    (hE : ∀ r, r < n → ati l (recAt r) = ati l' (recAt r) ∧ ati l (recAt r + 1) = ati l' (recAt r + 1)) : l = l' := by
  refine ext_ati (hH.len.trans hH'.len.symm) (fun q _ => ?_)
  by_cases h4 : q < 4
  · rcases (by omega : q = 0 ∨ q = 1 ∨ q = 2 ∨ q = 3) with rfl | rfl | rfl | rfl
    · exact hH.n0.trans hH'.n0.symm
    · exact hH.b1.trans hH'.b1.symm
    · exact hH.b2.trans hH'.b2.symm
    · exact hH.b3.trans hH'.b3.symm
  · rcases pos_cases (q := q) (by omega) with ⟨i, rfl⟩ | ⟨r, a, ha, rfl⟩
    · by_cases hi : i < bkts n
      · exact ((g.chn i hi).same (by rw [hC i hi]; exact g'.chn i hi)).1
      · rw [g.zh i (by omega), g'.zh i (by omega)]
    · by_cases hr : r < n
      · rcases (by omega : a = 0 ∨ a = 1 ∨ a = 2) with rfl | rfl | rfl
        · exact (hE r hr).1
        · exact (hE r hr).2
        · have hi := bkt_lt (ati l (recAt r)).toNat (b := bkts n) (by have := bkts8 n; omega)
          exact ((g.chn _ hi).same (by rw [hC _ hi]; exact g'.chn _ hi)).2 r ((g.mem _ hi r).2 ⟨hr, rfl⟩)
      · rw [g.zr r (by omega) a ha, g'.zr r (by omega) a ha]

/-- the chains behind Add -/
def addCC (l : List Int) (n : Nat) (C : Nat → List Nat) (h : Int) (l1 : List Int) : Nat → List Nat :=
  if bkts n < bkts (n + 1) then fun k => if k = bkts n - pow2 (bkts n) then stayS l1 (bkts n) (addC l n C h (bkts n - pow2 (bkts n))) else if k = bkts n then goneS l1 (bkts n) (addC l n C h (bkts n - pow2 (bkts n))) else addC l n C h k
  else addC l n C h
theorem addL_head (hH : HeadOk l n) (hn : n < 100000) {fr : Nat} {h x : Int} (h4 : 4 ≤ fr) : HeadOk (addL l n fr h x) (n + 1) := by
  have h60 := wlen_ge (n + 1)
  have hr := recAt_ge n
  have hA : ∀ q, q < 4 → ati (addL l n fr h x) q = ati (sizedL l (n + 1)) q := fun q hq => by
    unfold addL
    rw [ati_set_ne (by omega), ati_set_ne (by omega), ati_set_ne (by omega), ati_set_ne (by omega)]
  refine ⟨by rw [hA 0 (by omega), ati_sizedL, if_pos rfl], by omega, addL_len, by rw [hA 1 (by omega), ati_sizedL, if_neg (by omega), if_pos rfl], by rw [hA 2 (by omega), ati_sizedL, if_neg (by omega), if_neg (by omega), if_pos rfl], ?_⟩
  rw [hA 3 (by omega), ati_sizedL, if_neg (by omega), if_neg (by omega), if_neg (by omega), if_pos (by omega)]
  exact hH.b3
theorem G.add (g : G l n (bkts n) C) (hH : HeadOk l n) {h x : Int} (h0 : (addR l n C h x).2.1 = 0) :
    (0 ≤ h ∧ h ≤ 2147483647) ∧ hasR l h x (C (bkt h.toNat (bkts n))) = false ∧ n < 100000 ∧
    HeadOk (addR l n C h x).2.2 (n + 1) ∧ G (addR l n C h x).2.2 (n + 1) (bkts (n + 1)) (addCC l n C h (addL l n (endp (headAt (bkt h.toNat (bkts n))) (preR l h (C (bkt h.toNat (bkts n))))) h x)) ∧
    (∀ r, r < n + 1 → ∀ a, a < 2 → ati (addR l n C h x).2.2 (recAt r + a) = if r = n then (if a = 0 then h else x) else ati l (recAt r + a)) := by
  have hi := bkt_lt h.toNat (b := bkts n) (by have := bkts8 n; omega)
  by_cases hh : 0 ≤ h ∧ h ≤ 2147483647
  · by_cases hhas : hasR l h x (C (bkt h.toNat (bkts n))) = true
    · unfold addR at h0; rw [if_neg (by simpa using hh), if_pos hhas] at h0; exact absurd h0 (by simp)
    · by_cases hm : n = 100000
      · unfold addR at h0; rw [if_neg (by simpa using hh), if_neg hhas, if_pos hm] at h0; exact absurd h0 (by simp)
      · have hhas' : hasR l h x (C (bkt h.toNat (bkts n))) = false := by simpa using hhas
        have hnl : n < 100000 := by have := g.n1; omega
        have g1 := G_addR (x := x) g hH.len hnl hh.1 hh.2 hhas'
        have hfr : 4 ≤ endp (headAt (bkt h.toNat (bkts n))) (preR l h (C (bkt h.toNat (bkts n)))) ∧ endp (headAt (bkt h.toNat (bkts n))) (preR l h (C (bkt h.toNat (bkts n)))) < l.length := by
          rcases endp_cases (headAt (bkt h.toNat (bkts n))) (preR l h (C (bkt h.toNat (bkts n)))) with ⟨_, e⟩ | ⟨r, hr, e⟩
          · rw [e]; exact ⟨headAt_ge _, g.headlt hi⟩
          · rw [e]; have := recAt_ge r; exact ⟨by omega, g.rl r (g.lt hi ((List.takeWhile_sublist _).subset hr))⟩
        have hnofr : ∀ r a, a < 2 → recAt r + a ≠ endp (headAt (bkt h.toNat (bkts n))) (preR l h (C (bkt h.toNat (bkts n)))) := fun r a ha e => endp_no01 _ _ _ _ ha e.symm
        have hHd := addL_head (x := x) (h := h) hH hnl hfr.1
        have hw := wlen_mono (show n ≤ n + 1 by omega)
        have hA : ∀ q, 3 ≤ q → _ := fun q hq => ati_addL (h := h) (x := x) (show 3 ≤ endp (headAt (bkt h.toNat (bkts n))) (preR l h (C (bkt h.toNat (bkts n)))) by omega) (by rw [hH.len] at hfr; omega) q hq hH.len
        have hel : ∀ r, r < n + 1 → ∀ a, a < 2 → ati (addL l n (endp (headAt (bkt h.toNat (bkts n))) (preR l h (C (bkt h.toNat (bkts n))))) h x) (recAt r + a) = if r = n then (if a = 0 then h else x) else ati l (recAt r + a) := fun r hr a ha => by
          rw [hA _ (by have := recAt_ge r; omega), if_neg (hnofr r a ha)]
          by_cases e : r = n
          · subst e
            rcases (by omega : a = 0 ∨ a = 1) with rfl | rfl
            · simp
            · simp
          · have h3 : ∀ c, c < 3 → recAt r + a ≠ recAt n + c := fun c hc e2 => e (recAt_inj e2 (by omega) hc).1
            rw [if_neg (h3 2 (by omega)), if_neg (h3 1 (by omega)), if_neg (show ¬ recAt r + a = recAt n from h3 0 (by omega)), if_neg e]
        refine ⟨hh, hhas', hnl, ?_⟩
        generalize hl1 : addL l n (endp (headAt (bkt h.toNat (bkts n))) (preR l h (C (bkt h.toNat (bkts n))))) h x = l1 at *
        by_cases hb : bkts n < bkts (n + 1)
        · have hR : (addR l n C h x).2.2 = divL l1 (bkts n) (addC l n C h (bkts n - pow2 (bkts n))) := by
            unfold addR; rw [if_neg (by simpa using hh), if_neg hhas, if_neg hm, if_pos hb, hl1]
          have hCC : addCC l n C h l1 = fun k => if k = bkts n - pow2 (bkts n) then stayS l1 (bkts n) (addC l n C h (bkts n - pow2 (bkts n))) else if k = bkts n then goneS l1 (bkts n) (addC l n C h (bkts n - pow2 (bkts n))) else addC l n C h k := by unfold addCC; rw [if_pos hb]
          have hbn := bkts_nx hb
          have hbh : headAt (bkts n) < l1.length := by rw [hHd.len]; exact headAt_wlen (by omega)
          have g2 := G_divide g1 hbh
          have hD : ∀ q, (∀ i, q ≠ headAt i) → (∀ r, q ≠ recAt r + 2) → ati (divL l1 (bkts n) (addC l n C h (bkts n - pow2 (bkts n)))) q = ati l1 q := fun q h1 h2 => divL_ati _ _ _ _ (h1 _) (h1 _) (fun r _ => h2 r)
          have hD4 : ∀ q, q < 4 → ati (divL l1 (bkts n) (addC l n C h (bkts n - pow2 (bkts n)))) q = ati l1 q := fun q hq => hD q (fun i e => by have := headAt_ge i; omega) (fun r e => by have := recAt_ge r; omega)
          rw [hR, hCC, hbn]
          refine ⟨⟨(hD4 0 (by omega)).trans hHd.n0, hHd.n1, (divL_len _ _ _).trans hHd.len, (hD4 1 (by omega)).trans hHd.b1, (hD4 2 (by omega)).trans hHd.b2, (hD4 3 (by omega)).trans hHd.b3⟩, g2, fun r hr a ha => ?_⟩
          rw [hD _ (fun i e => head_rec e.symm (by omega)) (fun s e => by have := (recAt_inj e (by omega) (by omega)).2; omega)]
          exact hel r hr a ha
        · have hR : (addR l n C h x).2.2 = l1 := by
            unfold addR; rw [if_neg (by simpa using hh), if_neg hhas, if_neg hm, if_neg hb, hl1]
          have hCC : addCC l n C h l1 = addC l n C h := by unfold addCC; rw [if_neg hb]
          have hbe : bkts (n + 1) = bkts n := by have := bkts_mono (show n ≤ n + 1 by omega); omega
          rw [hR, hCC, hbe]
          exact ⟨hHd, g1, hel⟩
  · unfold addR at h0; rw [if_pos hh] at h0; exact absurd h0 (by simp)

theorem freshL_ati (q : Nat) : ati freshL q = if q = 1 then 8 else if q = 2 then 8 else 0 := by
  unfold freshL
  rw [ati_sizedL]
  have h : ∀ q, ati (List.replicate 60 (0 : Int)) q = 0 := fun q => by unfold ati; rw [List.getD_eq_getElem?_getD, List.getElem?_replicate]; split <;> rfl
  rw [h]
  by_cases e0 : q = 0
  · subst e0; decide
  · rw [if_neg e0]
    by_cases e1 : q = 1
    · subst e1; decide
    · rw [if_neg e1, if_neg e1]
      by_cases e2 : q = 2
      · subst e2; decide
      · rw [if_neg e2, if_neg e2]; split <;> rfl
theorem freshL_len : freshL.length = 60 := sizedL_len _ _
theorem freshL_head : HeadOk freshL 0 := ⟨by rw [freshL_ati]; decide, by omega, freshL_len.trans (by decide), by rw [freshL_ati]; decide, by rw [freshL_ati]; decide, by rw [freshL_ati]; decide⟩
theorem freshL_g : G freshL 0 (bkts 0) (fun _ => []) := by
  have hz : ∀ q, 4 ≤ q → ati freshL q = 0 := fun q hq => by rw [freshL_ati, if_neg (by omega), if_neg (by omega)]
  have hl : ∀ i, i < bkts 0 → headAt i < freshL.length := fun i hi => by rw [freshL_head.len]; exact headAt_wlen hi
  exact ⟨by omega, fun r hr => absurd hr (by omega), bkts8 0, hl, fun r hr => absurd hr (by omega), fun i hi => ⟨hl i hi, hz _ (headAt_ge i)⟩, fun _ _ => List.nodup_nil, fun i hi r => by simp, fun _ _ => List.Pairwise.nil, fun r hr => absurd hr (by omega), fun i _ => hz _ (headAt_ge i), fun r _ a _ => hz _ (by have := recAt_ge r; omega)⟩
end Go.Proofs.Ytdcomhdadnhpnaa
