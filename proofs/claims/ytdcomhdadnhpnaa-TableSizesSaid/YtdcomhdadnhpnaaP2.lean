/- Plain: the chain of a bucket becomes those of two. No program here. -/
import Derived.Test.YtdcomhdadnhpnaaP1
set_option linter.unusedSimpArgs false
set_option linter.unusedVariables false
namespace Go.Proofs.Ytdcomhdadnhpnaa
variable {l : List Int} {n b : Nat} {C : Nat → List Nat}

/-- the words behind divide -/
def divL (l : List Int) (b : Nat) (rs : List Nat) : List Int := linkL (linkL l (headAt (b - pow2 b)) (stayS l b rs)) (headAt b) (goneS l b rs)
theorem divL_len (l : List Int) (b : Nat) (rs : List Nat) : (divL l b rs).length = l.length := by simp [divL, linkL_len]
theorem divL_ati (l : List Int) (b : Nat) (rs : List Nat) (q : Nat) (h1 : q ≠ headAt (b - pow2 b)) (h2 : q ≠ headAt b) (hq : ∀ r ∈ rs, q ≠ recAt r + 2) : ati (divL l b rs) q = ati l q := by
  unfold divL
  have m1 : ∀ r ∈ goneS l b rs, q ≠ recAt r + 2 := fun r hr => hq r (List.mem_filter.1 hr).1
  have m2 : ∀ r ∈ stayS l b rs, q ≠ recAt r + 2 := fun r hr => hq r (List.mem_filter.1 hr).1
  rw [linkL_ati _ _ _ _ h2 m1, linkL_ati _ _ _ _ h1 m2]

theorem G_divide (g : G l n b C) (hb : headAt b < l.length) :
    G (divL l b (C (b - pow2 b))) n (b + 1) (fun k => if k = b - pow2 b then stayS l b (C (b - pow2 b)) else if k = b then goneS l b (C (b - pow2 b)) else C k) := by
  have hb8 := g.b8
  have hp := pow2_pos b
  have hpl := pow2_le (b := b) (by omega)
  have hi : b - pow2 b < b := by omega
  generalize hii : b - pow2 b = i at *
  have hat : ∀ q, q ≠ headAt i → q ≠ headAt b → (∀ r ∈ C i, q ≠ recAt r + 2) → ati (divL l b (C i)) q = ati l q := fun q h1 h2 h3 => divL_ati l b (C i) q (by rw [hii]; exact h1) h2 h3
  have hrec : ∀ r a, a < 2 → ati (divL l b (C i)) (recAt r + a) = ati l (recAt r + a) := fun r a ha =>
    hat _ (fun e => head_rec e.symm (by omega)) (fun e => head_rec e.symm (by omega)) (fun s _ e => by have := (recAt_inj e (by omega) (by omega)).2; omega)
  have hrec0 : ∀ r, ati (divL l b (C i)) (recAt r) = ati l (recAt r) := fun r => hrec r 0 (by omega)
  have hnd := g.nd i hi
  have hnew : ∀ r, isNew l b r = true ↔ bkt (ati l (recAt r)).toNat (b + 1) = b := fun r => by unfold isNew; simp
  have hst : ∀ r, r ∈ stayS l b (C i) ↔ r < n ∧ bkt (ati l (recAt r)).toNat (b + 1) = i := fun r => by
    unfold stayS
    rw [List.mem_filter, g.mem i hi r]
    have h1 := hnew r
    constructor
    · rintro ⟨⟨h2, h3⟩, h4⟩
      have h5 : bkt (ati l (recAt r)).toNat (b + 1) ≠ b := fun e => by rw [h1.2 e] at h4; simp at h4
      exact ⟨h2, by rw [bkt_old (by omega) h5]; exact h3⟩
    · rintro ⟨h2, h3⟩
      have h5 : bkt (ati l (recAt r)).toNat (b + 1) ≠ b := by omega
      refine ⟨⟨h2, by rw [← bkt_old (by omega) h5]; exact h3⟩, ?_⟩
      cases hx : isNew l b r
      · rfl
      · exact absurd (h1.1 hx) h5
  have hgo : ∀ r, r ∈ goneS l b (C i) ↔ r < n ∧ bkt (ati l (recAt r)).toNat (b + 1) = b := fun r => by
    unfold goneS
    rw [List.mem_filter, g.mem i hi r, hnew]
    constructor
    · rintro ⟨⟨h2, h3⟩, h4⟩; exact ⟨h2, h4⟩
    · rintro ⟨h2, h3⟩; exact ⟨⟨h2, by rw [← hii]; exact bkt_new (by omega) h3⟩, h3⟩
  have hsn : (stayS l b (C i)).Nodup := hnd.filter _
  have hgn : (goneS l b (C i)).Nodup := hnd.filter _
  have hle : ∀ r ∈ C i, recAt r + 2 < l.length ∧ r ≤ 100000 := fun r hr => by have h1 := g.lt hi hr; have := g.n1; exact ⟨g.rl r h1, by omega⟩
  have hhne : headAt i ≠ headAt b := fun e => by have := headAt_inj e; omega
  have hpw : ∀ m : List Nat, m.Pairwise (fun r s => ati l (recAt r) ≤ ati l (recAt s)) → m.Pairwise (fun r s => ati (divL l b (C i)) (recAt r) ≤ ati (divL l b (C i)) (recAt s)) := fun m hm =>
    hm.imp (fun {r s} h => by rw [hrec0, hrec0]; exact h)
  have hcs : CL (divL l b (C i)) (headAt i) (stayS l b (C i)) := by
    have h1 := linkL_cl l (headAt i) (stayS l b (C i)) (g.headlt hi) (fun r hr => hle r (List.mem_filter.1 hr).1) (fun r _ e => head_rec e (by omega)) hsn
    refine h1.frame (fun q hq => ?_)
    unfold divL
    rw [hii]
    rcases hq with rfl | ⟨r, hr, rfl⟩
    · refine ⟨by simp [linkL_len]; exact g.headlt hi, linkL_ati _ _ _ _ hhne (fun r _ e => head_rec e (by omega))⟩
    · refine ⟨by simp [linkL_len]; exact (hle r (List.mem_filter.1 hr).1).1, linkL_ati _ _ _ _ (fun e => head_rec e.symm (by omega)) (fun s hs e => ?_)⟩
      have := (recAt_inj e (by omega) (by omega)).1
      subst this
      have h2 := ((hst r).1 hr).2
      have h3 := ((hgo r).1 hs).2
      omega
  have hcg : CL (divL l b (C i)) (headAt b) (goneS l b (C i)) := by
    unfold divL
    exact linkL_cl _ _ _ (by rw [linkL_len]; exact hb) (fun r hr => by rw [linkL_len]; exact hle r (List.mem_filter.1 hr).1) (fun r _ e => head_rec e (by omega)) hgn
  refine ⟨g.n1, fun r hr => by rw [divL_len]; exact g.rl r hr, by omega, fun k hk => ?_, fun r hr => by rw [hrec0]; exact g.hash r hr, ?_, ?_, ?_, ?_, ?_, ?_, ?_⟩
  · rw [divL_len]
    by_cases e : k = b
    · subst e; exact hb
    · exact g.headlt (by omega)
  · intro k hk
    by_cases e : k = i
    · subst e; simp only [if_true]; exact hcs
    · by_cases e2 : k = b
      · subst e2; rw [if_neg e, if_pos rfl]; exact hcg
      · rw [if_neg e, if_neg e2]
        refine (g.chn k (by omega)).frame (fun q hq => ?_)
        rw [divL_len]
        rcases hq with rfl | ⟨r, hr, rfl⟩
        · exact ⟨g.headlt (by omega), hat _ (fun e3 => e (headAt_inj e3)) (fun e3 => e2 (headAt_inj e3)) (fun r _ e3 => head_rec e3 (by omega))⟩
        · refine ⟨g.rl r (g.lt (by omega) hr), hat _ (fun e => head_rec e.symm (by omega)) (fun e => head_rec e.symm (by omega)) (fun s hs e3 => ?_)⟩
          have := (recAt_inj e3 (by omega) (by omega)).1
          subst this
          exact e (g.only (by omega) hi hr hs)
  · intro k hk
    split
    · exact hsn
    · split
      · exact hgn
      · exact g.nd k (by omega)
  · intro k hk r
    rw [hrec0]
    by_cases e : k = i
    · subst e; simp only [if_true]; exact hst r
    · by_cases e2 : k = b
      · subst e2; rw [if_neg e, if_pos rfl]; exact hgo r
      · rw [if_neg e, if_neg e2, g.mem k (by omega) r]
        constructor
        · rintro ⟨h1, h2⟩
          refine ⟨h1, ?_⟩
          by_cases h3 : bkt (ati l (recAt r)).toNat (b + 1) = b
          · have := bkt_new (by omega) h3; omega
          · rw [bkt_old (by omega) h3]; exact h2
        · rintro ⟨h1, h2⟩
          exact ⟨h1, by rw [← bkt_old (by omega) (by omega)]; exact h2⟩
  · intro k hk
    split
    · exact hpw _ ((g.srt i hi).filter _)
    · split
      · exact hpw _ ((g.srt i hi).filter _)
      · exact hpw _ (g.srt k (by omega))
  · intro r hr s hs e1 e2
    rw [hrec0, hrec0] at e1
    rw [hrec r 1 (by omega), hrec s 1 (by omega)] at e2
    exact g.dif r hr s hs e1 e2
  · intro k hk
    rw [hat _ (fun e => by have := headAt_inj e; omega) (fun e => by have := headAt_inj e; omega) (fun r _ e => head_rec e (by omega))]
    exact g.zh k (by omega)
  · intro r hr a ha
    rw [hat _ (fun e => head_rec e.symm (by omega)) (fun e => head_rec e.symm (by omega)) (fun s hs e => ?_)]
    · exact g.zr r hr a ha
    · have := (recAt_inj e (by omega) (by omega)).1
      have := g.lt hi hs
      omega
end Go.Proofs.Ytdcomhdadnhpnaa
