/- Plain: a list of words is accepted just where it holds a table. No program here. -/
import Derived.Test.YtdcomhdadnhpnaaP4
set_option linter.unusedSimpArgs false
set_option linter.unusedVariables false
namespace Go.Proofs.Ytdcomhdadnhpnaa

theorem CL.det {l : List Int} : ∀ {f : Nat} {rs rs' : List Nat}, CL l f rs → CL l f rs' → rs = rs'
  | _, [], [], _, _ => rfl
  | _, [], r :: _, h, h' => absurd (h'.2.1.symm.trans h.2) (by omega)
  | _, r :: _, [], h, h' => absurd (h.2.1.symm.trans h'.2) (by omega)
  | f, r :: rs, r' :: rs', h, h' => by
    obtain rfl : r = r' := by have := h.2.1.symm.trans h'.2.1; omega
    rw [h.2.2.2.det h'.2.2.2]
theorem G.det {l : List Int} {n b n' : Nat} {C C' : Nat → List Nat} (g : G l n b C) (g' : G l n' b C') {i : Nat} (hi : i < b) : C i = C' i := (g.chn i hi).det (g'.chn i hi)
theorem pw_ne {α : Type} {R : α → α → Prop} (hs : ∀ a b, R a b → R b a) : ∀ {rs : List α}, rs.Pairwise R → ∀ r ∈ rs, ∀ s ∈ rs, r ≠ s → R r s
  | [], _, r, hr, _, _, _ => absurd hr (by simp)
  | a :: rs, h, r, hr, s, hs2, hne => by
    have h2 := List.pairwise_cons.1 h
    rcases List.mem_cons.1 hr with e | hr'
    · rcases List.mem_cons.1 hs2 with e' | hs2'
      · exact absurd (e.trans e'.symm) hne
      · rw [e]; exact h2.1 s hs2'
    · rcases List.mem_cons.1 hs2 with e' | hs2'
      · rw [e']; exact hs _ _ (h2.1 r hr')
      · exact pw_ne hs h2.2 r hr' s hs2' hne
theorem pw_of {α : Type} {R : α → α → Prop} : ∀ {rs : List α}, rs.Nodup → (∀ r ∈ rs, ∀ s ∈ rs, r ≠ s → R r s) → rs.Pairwise R
  | [], _, _ => List.Pairwise.nil
  | a :: rs, h, k => by
    have h2 := List.nodup_cons.1 h
    exact List.pairwise_cons.2 ⟨fun s hs => k a (by simp) s (by simp [hs]) (fun e => h2.1 (e ▸ hs)), pw_of h2.2 (fun r hr s hs => k r (by simp [hr]) s (by simp [hs]))⟩
theorem bkts8 (n : Nat) : 8 ≤ bkts n := by unfold bkts; split <;> omega
theorem S_wlen (n : Nat) : (wlen n - 4) / 56 = max 1 ((n + 15) / 16) := by unfold wlen; omega
theorem headAt_in {i S : Nat} (h : headAt i < 4 + 56 * S) : i < S * 8 := by unfold headAt at h; omega
theorem recAt_in {r S : Nat} (h : recAt r < 4 + 56 * S) : r < S * 16 := by unfold recAt at h; omega

theorem validL_g {l : List Int} (h : ValidL l) : ∃ C, G l (ati l 0).toNat (bkts (ati l 0).toNat) C := by
  have hH := h.head
  obtain ⟨s, hs, hf⟩ := h.chains
  have hhash := h.hash
  have hresth := h.resth
  have hrestr := h.restr
  generalize hn : (ati l 0).toNat = n at *
  have hr : ∀ r, r < n → recAt r + 2 < l.length := fun r hr => by rw [hH.len]; exact recAt_wlen hr
  have hh : ∀ i, i < bkts n → headAt i < l.length := fun i hi => by rw [hH.len]; exact headAt_wlen hi
  obtain ⟨C, hC, rfl⟩ := (ckAll_iff hr hH.n1 (bkts n) s hh).1 hs
  have hC2 := fun i hi => chOk_iff.1 (hC i hi).2
  have hlt : ∀ i, i < bkts n → ∀ r, r ∈ C i → r < n := fun i hi r hr => (seeA_get.1 ((hC2 i hi).2.1 r hr).1).1
  have hbk : ∀ i, i < bkts n → ∀ r, r ∈ C i → bkt (ati l (recAt r)).toNat (bkts n) = i := fun i hi r hr => ((hC2 i hi).2.1 r hr).2.2.1
  have hall : ∀ r, r < n → ∃ i, i < bkts n ∧ r ∈ C i := fun r hr => Classical.byContradiction fun hc => by
    have : (seeA n C (bkts n))[r]? = some false := seeA_get.2 ⟨hr, fun i hi hm => hc ⟨i, hi, hm⟩⟩
    exact hf (List.mem_of_getElem? this)
  have hmem : ∀ i, i < bkts n → ∀ r, r ∈ C i ↔ r < n ∧ bkt (ati l (recAt r)).toNat (bkts n) = i := fun i hi r => by
    constructor
    · intro hm; exact ⟨hlt i hi r hm, hbk i hi r hm⟩
    · rintro ⟨h1, h2⟩
      obtain ⟨j, hj, hm⟩ := hall r h1
      rwa [(hbk j hj r hm).symm.trans h2] at hm
  have hS := S_wlen n
  refine ⟨C, hH.n1, hr, bkts8 n, hh, hhash, fun i hi => (hC i hi).1, fun i hi => (hC2 i hi).1, hmem, fun i hi => (hC2 i hi).2.2.1, fun r hr s hs e1 e2 => ?_, fun i hi => ?_, fun r hr a ha => ?_⟩
  · refine Classical.byContradiction fun hne => ?_
    obtain ⟨i, hi, hm⟩ := hall r hr
    have hm2 : s ∈ C i := (hmem i hi s).2 ⟨hs, by rw [← e1]; exact hbk i hi r hm⟩
    exact pw_ne (fun a b h e => h e.symm) (hC2 i hi).2.2.2 r hm s hm2 hne (by unfold elm; rw [e1, e2])
  · by_cases hx : headAt i < l.length
    · refine hresth i hi (headAt_in ?_)
      rw [hH.len] at hx ⊢
      rw [hS]; unfold wlen at hx; omega
    · exact ati_big (by omega)
  · by_cases hx : recAt r + a < l.length
    · have := hrestr r hr (recAt_in (by
        rw [hH.len] at hx ⊢
        rw [hS]; unfold wlen at hx; omega))
      unfold restR at this
      rcases (by omega : a = 0 ∨ a = 1 ∨ a = 2) with rfl | rfl | rfl
      · exact this.1
      · exact this.2.1
      · exact this.2.2
    · exact ati_big (by omega)

theorem g_validL {l : List Int} {n : Nat} {C : Nat → List Nat} (hH : HeadOk l n) (g : G l n (bkts n) C) : ValidL l := by
  have hn : (ati l 0).toNat = n := by have := hH.n0; omega
  have h60 := wlen_ge n
  have hlen := hH.len
  have hr : ∀ r, r < n → recAt r + 2 < l.length := g.rl
  have hh : ∀ i, i < bkts n → headAt i < l.length := g.hl
  refine ⟨by omega, by have := hH.n0; omega, by have := hH.n0; have := hH.n1; omega, by rw [hn]; exact hlen, by rw [hn]; exact hH.b1, by rw [hn]; exact hH.b2, hH.b3, by rw [hn]; exact g.hash, ?_, ?_, ?_⟩
  · rw [hn]
    refine ⟨seeA n C (bkts n), (ckAll_iff hr hH.n1 (bkts n) _ hh).2 ⟨C, fun i hi => ⟨g.chn i hi, chOk_iff.2 ⟨g.nd i hi, fun r hm => ⟨seeA_get.2 ⟨g.lt hi hm, fun j hj hm2 => ?_⟩, (g.hash r (g.lt hi hm)).1, ((g.mem i hi r).1 hm).2, by simp⟩, g.srt i hi, ?_⟩⟩, rfl⟩, fun hf => ?_⟩
    · exact absurd (g.only hi (by omega) hm hm2) (by omega)
    · refine pw_of (g.nd i hi) (fun r h1 s h2 hne e => hne ?_)
      have e1 := congrArg Prod.fst e
      have e2 := congrArg Prod.snd e
      exact g.dif r (g.lt hi h1) s (g.lt hi h2) e1 e2
    · obtain ⟨r, hr2⟩ := List.mem_iff_getElem?.1 hf
      have h1 := seeA_get.1 hr2
      exact h1.2 _ (bkt_lt _ (by have := bkts8 n; omega)) ((g.mem _ (bkt_lt _ (by have := bkts8 n; omega)) r).2 ⟨h1.1, rfl⟩)
  · rw [hn]; exact fun i h1 _ => g.zh i h1
  · rw [hn]; exact fun r h1 _ => ⟨g.zr r h1 0 (by omega), g.zr r h1 1 (by omega), g.zr r h1 2 (by omega)⟩
theorem validL_iff {l : List Int} : ValidL l ↔ ∃ C, HeadOk l (ati l 0).toNat ∧ G l (ati l 0).toNat (bkts (ati l 0).toNat) C :=
  ⟨fun h => by obtain ⟨C, hC⟩ := validL_g h; exact ⟨C, h.head, hC⟩, fun ⟨_, h1, h2⟩ => g_validL h1 h2⟩
end Go.Proofs.Ytdcomhdadnhpnaa
