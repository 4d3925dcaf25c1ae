/- Plain: a table with one element, as 'awake' makes it. No program here. -/
import Derived.Test.YtdcomhdadnhpnaaT24
set_option linter.unusedSimpArgs false
set_option linter.unusedVariables false
namespace Go.Proofs.Ytdcomhdadnhpnaa

def oneL : List Int := addL freshL 0 (headAt 5) 5 70
theorem oneL_len : oneL.length = 60 := by decide
theorem oneL_0 : ati oneL 0 = 1 := by decide
theorem oneL_9 : ati oneL 9 = 1 := by decide
theorem oneL_12 : ati oneL 12 = 5 := by decide
theorem oneL_13 : ati oneL 13 = 70 := by decide
theorem oneL_14 : ati oneL 14 = 0 := by decide
theorem bkts0 : bkts 0 = 8 := by decide
theorem bkts1 : bkts 1 = 8 := by decide
theorem bkt58 : bkt (5 : Int).toNat 8 = 5 := by decide
theorem HeadOk.same {l : List Int} {n m : Nat} (h : HeadOk l n) (h' : HeadOk l m) : n = m := by have := h.n0; have := h'.n0; omega

theorem addR_fresh {C : Nat → List Nat} (h : C 5 = []) : addR freshL 0 C 5 70 = (0, 0, oneL) := by
  unfold addR
  rw [if_neg (by decide), bkts0, bkt58, h, if_neg (by decide), if_neg (by decide), bkts1, if_neg (by decide)]
  rfl
theorem add_one {k : Int} {l' : List Int} {c : Int} (h : AddQ freshL 5 70 k l' c) : k = 0 ∧ l' = oneL ∧ c = 0 := by
  have hV : ValidL freshL := g_validL freshL_head freshL_g
  rcases h with ⟨h, _⟩ | ⟨_, h, _⟩ | ⟨_, _, n, C, hH, g, h1, h2, h3, _⟩
  · exact absurd hV h
  · exact absurd (by decide) h
  · obtain rfl : n = 0 := hH.same freshL_head
    have hC : C 5 = [] := g.det freshL_g (by decide)
    rw [addR_fresh hC] at h1 h2 h3
    exact ⟨h2, h3 h1, h1⟩
theorem one_g : ∃ C, HeadOk oneL 1 ∧ G oneL 1 (bkts 1) C ∧ C 5 = [0] := by
  have h := freshL_g.add freshL_head (h := 5) (x := 70) (by rw [addR_fresh rfl])
  rw [addR_fresh rfl] at h
  refine ⟨_, h.2.2.2.1, h.2.2.2.2.1, ?_⟩
  unfold addCC addC
  rw [bkts0, bkts1, if_neg (by decide), bkt58]
  rfl
theorem one_v : ValidL oneL := by obtain ⟨C, h1, h2, _⟩ := one_g; exact g_validL h1 h2
theorem find_one {base : Nat} {e : Ending} {W : World} (h : FindE base oneL 5 e W) : ∃ v, e = .returned (.tuple #[v, .int .i64 1, .int .i64 0]) ∧ W.ownsRow base 3 1 v [(70 : Int)].length ([(70 : Int)].map (Value.int .i64)) := by
  rcases h with ⟨h, _⟩ | ⟨_, h, _⟩ | ⟨_, _, n, C, v, hH, g, h1, h2⟩
  · exact absurd one_v h
  · exact absurd (by decide) h
  · obtain ⟨C1, hH1, g1, hC1⟩ := one_g
    obtain rfl : n = 1 := hH.same hH1
    have hC : C 5 = [0] := (g.det g1 (by decide)).trans hC1
    rw [bkts1, bkt58, hC] at h1 h2
    have e1 : outL oneL 5 [0] = [70] := by decide
    have e2 : min [0].length ((preR oneL 5 [0]).length + 1) = 1 := by decide
    rw [e1] at h2
    rw [e2] at h1
    exact ⟨v, h1, h2⟩
theorem drop_one {k : Int} {l' : List Int} {c : Int} (h : DropQ oneL 5 70 k l' c) : k = 1 ∧ l' = freshL ∧ c = 0 := by
  rcases h with ⟨h, _⟩ | ⟨_, h, _⟩ | ⟨_, _, n, C, hH, g, h1⟩
  · exact absurd one_v h
  · exact absurd (by decide) h
  · obtain ⟨C1, hH1, g1, hC1⟩ := one_g
    obtain rfl : n = 1 := hH.same hH1
    have hC : C 5 = [0] := (g.det g1 (by decide)).trans hC1
    rcases h1 with ⟨h1, _⟩ | ⟨rfl, m, C', rfl, hD⟩
    · rw [bkts1, bkt58, hC] at h1
      exact absurd h1 (by decide)
    · have g2 := g.drop hH hD
      obtain ⟨pre, r, post, k1, l1, C2, k2, l2, h1, _, _, hM, hJ, rfl, rfl⟩ := hD
      rw [bkts1, bkt58, hC] at h1
      have hpre : pre = [] ∧ r = 0 ∧ post = [] := by
        cases pre with
        | nil => simp at h1; exact ⟨rfl, h1.1.symm, h1.2⟩
        | cons a pre => simp at h1
      obtain ⟨rfl, rfl, rfl⟩ := hpre
      have hk1 : k1 = 0 := by
        rcases hM with ⟨_, h, _⟩ | ⟨h, _⟩
        · exact h
        · exact absurd rfl h
      have hk2 : k2 = 0 := by
        rcases hJ with ⟨_, h, _⟩ | ⟨h, _⟩
        · exact h
        · rw [bkts1] at h; exact absurd h (by decide)
      refine ⟨by rw [hk1, hk2]; rfl, ?_, rfl⟩
      refine G.ext g2.2.2 freshL_head g2.2.1 freshL_g (fun i hi => ?_) (fun r hr => absurd hr (by omega))
      cases hc : C' i with
      | nil => rfl
      | cons a t => exact absurd (g2.2.1.lt hi (show a ∈ C' i by rw [hc]; simp)) (by omega)
theorem not_valid1 : ¬ ValidL [1] := fun h => by have := h.l4; simp at this
end Go.Proofs.Ytdcomhdadnhpnaa
