import Derived.Test.YtdcomhdadnhpnaaXP18
set_option linter.all false
namespace Go.Proofs.Ytdcomhdadnhpnaa
variable {l : List Int} {n b : Nat} {C : Nat → List Nat}
theorem chF_of : ∀ {k f : Nat} {c : List Nat}, CL l f c → c.length ≤ k → (∀ r ∈ c, r < n) → chF l n k f = some c
  | 0, f, c, h, hk, _ => by
    obtain rfl : c = [] := List.length_eq_zero_iff.1 (by omega)
    unfold chF; rw [if_pos h.2]
  | k + 1, f, [], h, _, _ => by unfold chF; rw [if_pos h.2]
  | k + 1, f, r :: rs, h, hk, hr => by
    obtain ⟨h1, h2, h3, h4⟩ := h
    have hrn := hr r (by simp)
    have ih := chF_of (k := k) h4 (by simp at hk; omega) (fun s hs => hr s (by simp [hs]))
    have e : (ati l f - 1).toNat = r := by omega
    unfold chF
    rw [if_neg (by omega), if_pos (by omega), e, ih]
    rfl
theorem chF_cl (hn : n ≤ 100000) (hr : ∀ r, r < n → recAt r + 2 < l.length) : ∀ {k f : Nat} {c : List Nat}, f < l.length → chF l n k f = some c → CL l f c
  | 0, f, c, hf, h => by
    unfold chF at h
    split at h
    · rename_i h0; cases h; exact ⟨hf, h0⟩
    · cases h
  | k + 1, f, c, hf, h => by
    unfold chF at h
    split at h
    · rename_i h0; cases h; exact ⟨hf, h0⟩
    · split at h
      · rename_i h1
        cases hc : chF l n k (recAt (ati l f - 1).toNat + 2) with
        | none => rw [hc] at h; cases h
        | some d =>
          rw [hc] at h
          cases h
          have hlt : (ati l f - 1).toNat < n := by omega
          exact ⟨hf, by omega, by omega, chF_cl hn hr (hr _ hlt) hc⟩
      · cases h
theorem recsL_flat (C : Nat → List Nat) : ∀ k, ((List.range k).map C).flatten = recsL C k
  | 0 => rfl
  | k + 1 => by rw [List.range_succ, List.map_append, List.flatten_append, recsL_flat C k]; simp [recsL]
theorem chsF_of (g : G l n b C) : ∀ k, k ≤ b → chsF l n k = some ((List.range k).map C)
  | 0, _ => rfl
  | k + 1, hk => by
    have hc := chF_of (n := n) (k := n) (g.chn k (by omega)) (g.clen (by omega)) (fun r hr => g.lt (by omega) hr)
    rw [chsF, chsF_of g k (by omega)]
    simp only [hc]
    rw [if_pos, List.range_succ, List.map_append]
    · rfl
    · rw [recsL_flat]
      exact (g.recs (k + 1) hk).1
theorem srtF_of {i b : Nat} : ∀ {E : List (Int × Int)} {p : Option Int} {seen : List Int}, (∀ e ∈ E, (0 ≤ e.1 ∧ e.1 ≤ 2147483647) ∧ bkt e.1.toNat b = i) → E.Pairwise (fun x y => x.1 ≤ y.1) → E.Nodup →
    (∀ h, p = some h → ∀ e ∈ E, h ≤ e.1 ∧ (e.1 = h → e.2 ∉ seen)) → srtF i b p seen E = true
  | [], p, seen, _, _, _, _ => by cases p <;> rfl
  | e :: E, p, seen, hE, hs, hn, hp => by
    have hs2 := List.pairwise_cons.1 hs
    have hn2 := List.nodup_cons.1 hn
    have he := hE e (by simp)
    have hc : ¬ (¬ (0 ≤ e.1 ∧ e.1 ≤ 2147483647) ∨ bkt e.1.toNat b ≠ i) := fun h => h.elim (fun h => h he.1) (fun h => h he.2)
    have nxt : ∀ seen', (∀ x ∈ seen', x ∈ seen ∧ p = some e.1 ∨ x = e.2) → srtF i b (some e.1) seen' E = true := fun seen' hse =>
      srtF_of (fun d hd => hE d (by simp [hd])) hs2.2 hn2.2 (fun h hh d hd => by
        cases hh
        refine ⟨hs2.1 d hd, fun e1 hm => ?_⟩
        rcases hse _ hm with ⟨h1, h2⟩ | h1
        · exact (hp _ h2 d (by simp [hd])).2 e1 h1
        · exact hn2.1 ((Prod.ext e1.symm h1.symm : e = d) ▸ hd))
    cases p with
    | none => rw [srtF, if_neg hc]; exact nxt _ (fun x hx => .inr (by simpa using hx))
    | some h =>
      obtain ⟨h1, h2⟩ := hp h rfl e (by simp)
      rw [srtF, if_neg hc]
      try simp only
      rw [if_neg (by omega)]
      by_cases e1 : h = e.1
      · rw [if_pos e1, if_neg (h2 e1.symm)]
        exact nxt _ (fun x hx => by
          rcases List.mem_append.1 hx with hx | hx
          · exact .inl ⟨hx, by rw [e1]⟩
          · exact .inr (by simpa using hx))
      · rw [if_neg e1]; exact nxt _ (fun x hx => .inr (by simpa using hx))
theorem srtF_to {i b : Nat} : ∀ {E : List (Int × Int)} {p : Option Int} {seen : List Int}, srtF i b p seen E = true →
    (∀ e ∈ E, (0 ≤ e.1 ∧ e.1 ≤ 2147483647) ∧ bkt e.1.toNat b = i) ∧ E.Pairwise (fun x y => x.1 ≤ y.1 ∧ x ≠ y) ∧ (∀ h, p = some h → ∀ e ∈ E, h ≤ e.1 ∧ (e.1 = h → e.2 ∉ seen))
  | [], p, seen, _ => ⟨by simp, List.Pairwise.nil, by simp⟩
  | e :: E, p, seen, h => by
    have hc : ¬ (¬ (0 ≤ e.1 ∧ e.1 ≤ 2147483647) ∨ bkt e.1.toNat b ≠ i) := fun hb => by rw [srtF_bad hb] at h; cases h
    have he : (0 ≤ e.1 ∧ e.1 ≤ 2147483647) ∧ bkt e.1.toNat b = i := by
      by_cases h1 : 0 ≤ e.1 ∧ e.1 ≤ 2147483647
      · by_cases h2 : bkt e.1.toNat b = i
        · exact ⟨h1, h2⟩
        · exact absurd (.inr h2) hc
      · exact absurd (.inl h1) hc
    have fin : ∀ seen', srtF i b (some e.1) seen' E = true → e.2 ∈ seen' → (∀ d ∈ e :: E, (0 ≤ d.1 ∧ d.1 ≤ 2147483647) ∧ bkt d.1.toNat b = i) ∧ (e :: E).Pairwise (fun x y => x.1 ≤ y.1 ∧ x ≠ y) ∧ ∀ d ∈ E, e.1 ≤ d.1 ∧ (d.1 = e.1 → d.2 ∉ seen') := fun seen' h1 h2 => by
      obtain ⟨a1, a2, a3⟩ := srtF_to h1
      refine ⟨fun d hd => ?_, List.pairwise_cons.2 ⟨fun d hd => ?_, a2⟩, a3 _ rfl⟩
      · rcases List.mem_cons.1 hd with rfl | hd
        · exact he
        · exact a1 d hd
      · obtain ⟨b1, b2⟩ := a3 _ rfl d hd
        exact ⟨b1, fun e1 => by subst e1; exact b2 rfl h2⟩
    cases p with
    | none =>
      rw [srtF, if_neg hc] at h
      obtain ⟨a1, a2, _⟩ := fin _ h (by simp)
      exact ⟨a1, a2, by simp⟩
    | some hp =>
      rw [srtF, if_neg hc] at h
      try simp only at h
      by_cases h1 : e.1 < hp
      · rw [if_pos h1] at h; cases h
      rw [if_neg h1] at h
      by_cases h2 : hp = e.1
      · rw [if_pos h2] at h
        by_cases h3 : e.2 ∈ seen
        · rw [if_pos h3] at h; cases h
        rw [if_neg h3] at h
        obtain ⟨a1, a2, a3⟩ := fin _ h (by simp)
        refine ⟨a1, a2, fun q hq d hd => ?_⟩
        cases hq
        rcases List.mem_cons.1 hd with rfl | hd
        · exact ⟨by omega, fun _ => h3⟩
        · obtain ⟨b1, b2⟩ := a3 d hd
          exact ⟨by omega, fun e1 hm => b2 (e1.trans h2) (by simp [hm])⟩
      · rw [if_neg h2] at h
        obtain ⟨a1, a2, a3⟩ := fin _ h (by simp)
        refine ⟨a1, a2, fun q hq d hd => ?_⟩
        cases hq
        rcases List.mem_cons.1 hd with rfl | hd
        · exact ⟨by omega, fun e1 => absurd e1.symm h2⟩
        · obtain ⟨b1, b2⟩ := a3 d hd
          exact ⟨by omega, fun e1 => by omega⟩
theorem recsF_get (l : List Int) {n r : Nat} (h : r < n) : (recsF l n).getD r (0, 0) = elm l r := by simp [recsF, h, elm]
theorem elsOfC_elm {n : Nat} {c : List Nat} (h : ∀ r ∈ c, r < n) : elsOfC (recsF l n) c = c.map (elm l) := by
  unfold elsOfC
  exact List.map_congr_left (fun r hr => recsF_get l (h r hr))
noncomputable def chsT (l : List Int) : List (List Nat) := (List.range (bkts (tabN l))).map (tabC l)
theorem readF_valid (hV : ValidL l) : readF l = some (recsF l (tabN l), chsT l) := by
  have g := tab_g hV
  have hH := tab_h hV
  have hn : (ati l 0).toNat = tabN l := rfl
  have h60 := hV.len60
  have hlen : (chsT l).length = bkts (tabN l) := by simp [chsT]
  have hcg : ∀ i, i < bkts (tabN l) → (chsT l).getD i [] = tabC l i := fun i hi => by simp [chsT, hi]
  unfold readF
  rw [if_pos ⟨hV.l4, hV.n0, hV.n1, hV.len⟩, hn, chsF_of g _ (Nat.le_refl _)]
  simp only
  rw [if_pos]
  · rfl
  refine ⟨?_, fun i hi => ?_, wordsF_eq hH g (recsF_len l _) (fun r hr => recsF_get l hr)⟩
  · rw [recsL_flat]
    have := ordF_len hV
    unfold ordF at this
    rwa [List.length_map] at this
  · change i < (chsT l).length at hi
    rw [hlen] at hi
    show srtF i (chsT l).length none [] (elsOfC _ ((chsT l).getD i [])) = true
    rw [hcg i hi, hlen, elsOfC_elm (fun r hr => g.lt hi hr)]
    refine srtF_of (fun e he => ?_) (List.pairwise_map.2 (g.srt i hi)) ?_ (by simp)
    · obtain ⟨r, hr, rfl⟩ := List.mem_map.1 he
      exact ⟨g.hash r (g.lt hi hr), ((g.mem i hi r).1 hr).2⟩
    · refine List.pairwise_map.2 ((g.nd i hi).imp_of_mem (fun {r s} hr hs hne e => ?_))
      simp only [elm, Prod.mk.injEq] at e
      exact hne (g.dif r (g.lt hi hr) s (g.lt hi hs) e.1 e.2)
theorem mem_of_full {n : Nat} {m : List Nat} (hn : m.Nodup) (hl : m.length = n) (hr : ∀ r ∈ m, r < n) {r : Nat} (h : r < n) : r ∈ m := by
  refine Classical.byContradiction fun hno => ?_
  have := nodup_len n (r :: m) (List.nodup_cons.2 ⟨hno, hn⟩) (fun s hs => by
    rcases List.mem_cons.1 hs with rfl | hs
    · exact h
    · exact hr s hs)
  simp at this
  omega
theorem pw_or {α : Type} {R : α → α → Prop} : ∀ {m : List α} {a b : α}, m.Pairwise R → a ∈ m → b ∈ m → a ≠ b → R a b ∨ R b a
  | [], a, b, _, ha, _, _ => by simp at ha
  | x :: m, a, b, h, ha, hb, hne => by
    have h2 := List.pairwise_cons.1 h
    rcases List.mem_cons.1 ha with ea | ha2
    · rcases List.mem_cons.1 hb with eb | hb2
      · exact absurd (ea.trans eb.symm) hne
      · rw [ea]; exact .inl (h2.1 b hb2)
    · rcases List.mem_cons.1 hb with eb | hb2
      · rw [eb]; exact .inr (h2.1 a ha2)
      · exact pw_or h2.2 ha2 hb2 hne
theorem readF_some {x : List (Int × Int) × List (List Nat)} (h : readF l = some x) : ValidL l := by
  unfold readF at h
  split at h
  · rename_i hh
    obtain ⟨h4, h0, h1, hlen⟩ := hh
    generalize hn : (ati l 0).toNat = n at *
    have hn1 : n ≤ 100000 := by omega
    cases hcs : chsF l n (bkts n) with
    | none => rw [hcs] at h; cases h
    | some cs =>
      rw [hcs] at h
      simp only at h
      split at h
      · rename_i hc
        obtain ⟨hfl, hsr, hw⟩ := hc
        obtain ⟨c1, c2, c3⟩ := chsF_ok hcs
        have h60 := wlen_ge n
        have h8 := bkts8 n
        have hrl : ∀ r, r < n → recAt r + 2 < l.length := fun r hr => by rw [hlen]; exact recAt_wlen hr
        have hgi : ∀ i (hi : i < bkts n), cs.getD i [] = cs[i]'(by omega) := fun i hi => by simp [c1, hi]
        have hmem : ∀ i, i < bkts n → cs.getD i [] ∈ cs := fun i hi => by rw [hgi i hi]; exact List.getElem_mem _
        have hlt : ∀ i, i < bkts n → ∀ r ∈ cs.getD i [], r < n := fun i hi r hr => (c3 _ (hmem i hi)).1 r hr
        have hall : ∀ r, r < n → ∃ i, i < bkts n ∧ r ∈ cs.getD i [] := fun r hr => by
          have := mem_of_full c2 hfl (fun s hs => by obtain ⟨d, hd, hs'⟩ := List.mem_flatten.1 hs; exact (c3 d hd).1 s hs') hr
          obtain ⟨d, hd, hrd⟩ := List.mem_flatten.1 this
          obtain ⟨i, hi, rfl⟩ := List.mem_iff_getElem.1 hd
          exact ⟨i, by omega, by rw [hgi i (by omega)]; exact hrd⟩
        have hS : ∀ i, i < bkts n → _ := fun i hi => srtF_to (hsr i (by omega))
        have helm : ∀ i, i < bkts n → elsOfC (recsF l n) (cs.getD i []) = (cs.getD i []).map (elm l) := fun i hi => elsOfC_elm (hlt i hi)
        have hbk : ∀ i, i < bkts n → ∀ r ∈ cs.getD i [], (0 ≤ ati l (recAt r) ∧ ati l (recAt r) ≤ 2147483647) ∧ bkt (ati l (recAt r)).toNat (bkts n) = i := fun i hi r hr => by
          have := (hS i hi).1 (elm l r) (by rw [helm i hi]; exact List.mem_map_of_mem hr)
          rwa [c1] at this
        have hW : ∀ q, ati l q = ati (wC cs (bkts n) (wR (recsF l n) n (headL n))) q := fun q => by
          conv => lhs; rw [← hw]
          unfold wordsF
          rw [c1, recsF_len]
        have hnd : ∀ i, i < bkts n → (cs.getD i []).Nodup := fun i hi => by
          rw [hgi i hi]
          exact (List.pairwise_flatten.1 c2).1 _ (List.getElem_mem _)
        have hposh : ∀ i, bkts n ≤ i → ati l (headAt i) = 0 := fun i hi => by
          rw [hW, wC_ati (fun j hj => ⟨fun e => by have := headAt_inj e; omega, fun r _ e => head_rec e (by omega)⟩), ati_wR_ne (fun r _ => ⟨fun e => head_rec (a := 0) e (by omega), fun e => head_rec e (by omega)⟩), ati_headL]
          have := headAt_ge i
          rw [if_neg (by omega), if_neg (by omega), if_neg (by omega)]
        have hposr : ∀ r, n ≤ r → ∀ a, a < 3 → ati l (recAt r + a) = 0 := fun r hr a ha => by
          rw [hW, wC_ati (fun j hj => ⟨fun e => head_rec e.symm ha, fun s hs e => by have := (recAt_inj e ha (by omega)).1; have := hlt j hj s hs; omega⟩),
            ati_wR_ne (fun s hs => ⟨fun e => by have := (recAt_inj (b := 0) e ha (by omega)).1; omega, fun e => by have := (recAt_inj e ha (by omega)).1; omega⟩), ati_headL]
          have := recAt_ge r
          rw [if_neg (by omega), if_neg (by omega), if_neg (by omega)]
        have hhd : ∀ q, q < 4 → ati l q = if q = 0 then (n : Int) else if q = 1 then (bkts n : Int) else if q = 2 then (pow2 (bkts n) : Nat) else 0 := fun q hq => by
          rw [hW, wC_ati (fun j _ => ⟨by have := headAt_ge j; omega, fun r _ => by have := recAt_ge r; omega⟩), ati_wR_ne (fun r _ => by have := recAt_ge r; omega), ati_headL]
        have hchn : ∀ i, i < bkts n → CL l (headAt i) (cs.getD i []) := by
          have key : ∀ k, k ≤ bkts n → ∀ ds, chsF l n k = some ds → ∀ i, i < k → CL l (headAt i) (ds.getD i []) := by
            intro k
            induction k with
            | zero => intro _ ds _ i hi; omega
            | succ k ih =>
              intro hk ds hds i hi
              rw [chsF] at hds
              cases e1 : chsF l n k with
              | none => rw [e1] at hds; cases hds
              | some es =>
                rw [e1] at hds
                simp only at hds
                cases e2 : chF l n n (headAt k) with
                | none => rw [e2] at hds; cases hds
                | some c =>
                  rw [e2] at hds
                  simp only at hds
                  split at hds
                  · cases hds
                    have hel := (chsF_ok e1).1
                    by_cases e : i = k
                    · subst e
                      have : (es ++ [c]).getD i [] = c := by simp [← hel]
                      rw [this]
                      exact chF_cl hn1 hrl (by rw [hlen]; exact headAt_wlen (by omega)) e2
                    · have : (es ++ [c]).getD i [] = es.getD i [] := by
                        rw [List.getD_eq_getElem?_getD, List.getD_eq_getElem?_getD, List.getElem?_append_left (by omega)]
                      rw [this]
                      exact ih (by omega) es e1 i (by omega)
                  · cases hds
          exact key _ (Nat.le_refl _) cs hcs
        refine g_validL (n := n) (C := fun i => cs.getD i []) ⟨by have := hhd 0 (by omega); rwa [if_pos rfl] at this, hn1, hlen, by have := hhd 1 (by omega); rwa [if_neg (by omega), if_pos rfl] at this, by have := hhd 2 (by omega); rwa [if_neg (by omega), if_neg (by omega), if_pos rfl] at this, by have := hhd 3 (by omega); rwa [if_neg (by omega), if_neg (by omega), if_neg (by omega)] at this⟩
          ⟨hn1, hrl, h8, fun i hi => by rw [hlen]; exact headAt_wlen hi, fun r hr => ?_, hchn, hnd, fun i hi r => ⟨fun hr => ⟨hlt i hi r hr, (hbk i hi r hr).2⟩, fun hr => ?_⟩, fun i hi => ?_, fun r hr s hs e1 e2 => ?_, hposh, hposr⟩
        · obtain ⟨i, hi, hm⟩ := hall r hr; exact (hbk i hi r hm).1
        · obtain ⟨j, hj, hm⟩ := hall r hr.1
          have := (hbk j hj r hm).2
          rw [hr.2] at this
          subst this
          exact hm
        · have := (hS i hi).2.1
          rw [helm i hi] at this
          exact (List.pairwise_map.1 this).imp (fun h => h.1)
        · obtain ⟨i, hi, hm⟩ := hall r hr
          obtain ⟨j, hj, hm2⟩ := hall s hs
          have h1 := (hbk i hi r hm).2
          have h2 := (hbk j hj s hm2).2
          rw [e1, h2] at h1
          subst h1
          refine Classical.byContradiction fun hne => ?_
          have hp := (hS j hj).2.1
          rw [helm j hj] at hp
          have hp2 := (List.pairwise_map.1 hp)
          have hel : elm l r = elm l s := by simp [elm, e1, e2]
          rcases pw_or hp2 hm hm2 hne with h | h
          · exact h.2 hel
          · exact h.2 hel.symm
      · cases h
  · cases h
end Go.Proofs.Ytdcomhdadnhpnaa