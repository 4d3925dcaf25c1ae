/- Plain: chains behind taking a record out, and behind moving the last one. No program here. -/
import Derived.Test.YtdcomhdadnhpnaaP2
set_option linter.unusedSimpArgs false
set_option linter.unusedVariables false
namespace Go.Proofs.Ytdcomhdadnhpnaa
variable {l : List Int} {n b : Nat} {C : Nat → List Nat}

/-- b chains lie apart in the words -/
structure Chs (l : List Int) (n b : Nat) (C : Nat → List Nat) : Prop where
  cl : ∀ k, k < b → CL l (headAt k) (C k)
  nd : ∀ k, k < b → (C k).Nodup
  dj : ∀ i j r, i < b → j < b → r ∈ C i → r ∈ C j → i = j
  lt : ∀ k r, k < b → r ∈ C k → r < n
  rl : ∀ r, r < n → recAt r + 2 < l.length ∧ r ≤ 100000
  hl : ∀ k, k < b → headAt k < l.length
theorem G.chs (g : G l n b C) : Chs l n b C :=
  ⟨g.chn, g.nd, fun _ _ _ hi hj h1 h2 => g.only hi hj h1 h2, fun _ _ hk h => g.lt hk h, fun r h => ⟨g.rl r h, by have := g.n1; omega⟩, g.hl⟩

/-- the positions of one chain are no positions of another -/
theorem Chs.pos_apart (h : Chs l n b C) {i k : Nat} (hi : i < b) (hk : k < b) (hne : k ≠ i) {q : Nat} (hq : q = headAt k ∨ ∃ s ∈ C k, q = recAt s + 2) : ¬ (q = headAt i ∨ ∃ s ∈ C i, q = recAt s + 2) := by
  rintro (e | ⟨s, hs, e⟩)
  · rcases hq with rfl | ⟨t, _, rfl⟩
    · exact hne (headAt_inj e)
    · exact head_rec e.symm (by omega)
  · rcases hq with rfl | ⟨t, ht, rfl⟩
    · exact head_rec e (by omega)
    · have := (recAt_inj e (by omega) (by omega)).1
      subst this
      exact hne (h.dj _ _ _ hk hi ht hs)
theorem endp_pos (f : Nat) (a b : List Nat) : endp f a = f ∨ ∃ s ∈ a ++ b, endp f a = recAt s + 2 := by
  rcases endp_cases f a with ⟨_, e⟩ | ⟨s, hs, e⟩
  · exact .inl e
  · exact .inr ⟨s, by simp [hs], e⟩
theorem CL.posn {f : Nat} {a b : List Nat} (h : CL l f (a ++ b)) : endp f a < l.length := h.split.endlt

/-- the tail of a chain is laid anew at the word that ends its head part -/
theorem Chs.relink (h : Chs l n b C) {i : Nat} (hi : i < b) {pre post post' : List Nat} (hC : C i = pre ++ post) {l' : List Int} (hlen : l'.length = l.length)
    (hsame : ∀ q, q ≠ endp (headAt i) pre → ((∃ k, k < b ∧ q = headAt k) ∨ ∃ k s, k < b ∧ s ∈ C k ∧ q = recAt s + 2) → ati l' q = ati l q)
    (htail : CL l' (endp (headAt i) pre) post') (hnd : (pre ++ post').Nodup) (hnew : ∀ r ∈ post', r < n ∧ ∀ k, k < b → k ≠ i → r ∉ C k) :
    Chs l' n b (fun k => if k = i then pre ++ post' else C k) := by
  have hcl := h.cl i hi
  rw [hC] at hcl
  have hp : endp (headAt i) pre = headAt i ∨ ∃ s ∈ C i, endp (headAt i) pre = recAt s + 2 := by rw [hC]; exact endp_pos _ _ _
  refine ⟨fun k hk => ?_, fun k hk => ?_, fun j k r hj hk h1 h2 => ?_, fun k r hk hr => ?_, fun r hr => by rw [hlen]; exact h.rl r hr, fun k hk => by rw [hlen]; exact h.hl k hk⟩
  · by_cases e : k = i
    · subst e
      simp only [if_true]
      refine hcl.graft (fun q hq hne => ?_) (fun r _ e => head_rec e (by omega)) (List.nodup_append.1 hnd).1 htail
      rw [hlen]
      rcases hq with rfl | ⟨s, hs, rfl⟩
      · exact ⟨h.hl _ hk, hsame _ hne (.inl ⟨_, hk, rfl⟩)⟩
      · have hm : s ∈ C k := by rw [hC]; simp [hs]
        exact ⟨(h.rl s (h.lt k s hk hm)).1, hsame _ hne (.inr ⟨k, s, hk, hm, rfl⟩)⟩
    · rw [if_neg e]
      refine (h.cl k hk).frame (fun q hq => ?_)
      have hne : q ≠ endp (headAt i) pre := fun e2 => h.pos_apart hi hk e hq (by rw [e2]; exact hp)
      rw [hlen]
      rcases hq with rfl | ⟨s, hs, rfl⟩
      · exact ⟨h.hl _ hk, hsame _ hne (.inl ⟨_, hk, rfl⟩)⟩
      · exact ⟨(h.rl s (h.lt k s hk hs)).1, hsame _ hne (.inr ⟨k, s, hk, hs, rfl⟩)⟩
  · by_cases e : k = i
    · subst e; simp only [if_true]; exact hnd
    · rw [if_neg e]; exact h.nd k hk
  · have key : ∀ k, k < b → k ≠ i → r ∈ C k → r ∉ pre ++ post' := fun k hk e hr hm => by
      rcases List.mem_append.1 hm with hm | hm
      · exact e (h.dj k i r hk hi hr (by rw [hC]; simp [hm]))
      · exact (hnew r hm).2 k hk e hr
    by_cases e1 : j = i
    · by_cases e2 : k = i
      · omega
      · rw [if_pos e1] at h1; rw [if_neg e2] at h2; exact absurd h1 (key k hk e2 h2)
    · rw [if_neg e1] at h1
      by_cases e2 : k = i
      · rw [if_pos e2] at h2; exact absurd h2 (key j hj e1 h1)
      · rw [if_neg e2] at h2; exact h.dj j k r hj hk h1 h2
  · by_cases e : k = i
    · subst e
      simp only [if_true] at hr
      rcases List.mem_append.1 hr with hr | hr
      · exact h.lt k r hk (by rw [hC]; simp [hr])
      · exact (hnew r hr).1
    · rw [if_neg e] at hr; exact h.lt k r hk hr

/-- the words behind taking record r out of its chain, fr being the word that leads to it -/
def remL (l : List Int) (fr r : Nat) : List Int := l.set fr (ati l (recAt r + 2))
theorem Chs.rem (h : Chs l n b C) {i r : Nat} (hi : i < b) {pre post : List Nat} (hC : C i = pre ++ r :: post) :
    Chs (remL l (endp (headAt i) pre) r) n b (fun k => if k = i then pre ++ post else C k) := by
  have hcl := h.cl i hi
  have hnd := h.nd i hi
  rw [hC] at hcl hnd
  have hs := hcl.split
  have hnd2 := List.nodup_append.1 hnd
  have hne : ∀ s ∈ r :: post, recAt s + 2 ≠ endp (headAt i) pre := fun s hs e => by
    rcases endp_cases (headAt i) pre with ⟨_, e2⟩ | ⟨t, ht, e2⟩
    · exact head_rec (e2.symm.trans e.symm) (by omega)
    · have := (recAt_inj (e.trans e2) (by omega) (by omega)).1
      subst this
      exact hnd2.2.2 _ ht _ hs rfl
  refine h.relink hi hC (by simp [remL]) (fun q hq _ => ati_set_ne (Ne.symm hq)) ?_ (hnd.sublist (List.Sublist.append_left (List.sublist_cons_self _ _) _)) (fun s hs => ?_)
  · have ht := hs.2.2.2
    have hv : ati (remL l (endp (headAt i) pre) r) (endp (headAt i) pre) = ati l (recAt r + 2) := ati_set_eq hs.1
    cases post with
    | nil => exact ⟨by simp [remL]; exact hs.1, hv.trans ht.2⟩
    | cons s rest =>
      refine ⟨by simp [remL]; exact hs.1, hv.trans ht.2.1, ht.2.2.1, ht.2.2.2.frame (fun q hq => ?_)⟩
      have hq' : ∃ t ∈ s :: rest, q = recAt t + 2 := by
        rcases hq with rfl | ⟨t, ht, rfl⟩
        · exact ⟨s, by simp, rfl⟩
        · exact ⟨t, by simp [ht], rfl⟩
      obtain ⟨t, ht2, rfl⟩ := hq'
      have hm : t ∈ C i := by rw [hC]; exact List.mem_append.2 (.inr (List.mem_cons_of_mem _ ht2))
      exact ⟨by simp [remL]; exact (h.rl t (h.lt i t hi hm)).1, ati_set_ne (Ne.symm (hne t (List.mem_cons_of_mem _ ht2)))⟩
  · have hm : s ∈ C i := by rw [hC]; simp [hs]
    exact ⟨h.lt i s hi hm, fun k hk e hk2 => e (h.dj k i s hk hi hk2 hm)⟩
/-- record r takes the place of record m, lead being the word that leads to m -/
def movL (l : List Int) (r m lead : Nat) : List Int :=
  (((l.set (recAt r) (ati l (recAt m))).set (recAt r + 1) (ati l (recAt m + 1))).set (recAt r + 2) (ati l (recAt m + 2))).set lead ((r : Int) + 1)
theorem movL_len {r m lead : Nat} : (movL l r m lead).length = l.length := by simp [movL]
theorem ati_movL {r m lead : Nat} (hr : recAt r + 2 < l.length) (hl : lead < l.length) (h0 : lead ≠ recAt r) (h1 : lead ≠ recAt r + 1) (h2 : lead ≠ recAt r + 2) (q : Nat) :
    ati (movL l r m lead) q = if q = lead then (r : Int) + 1 else if q = recAt r + 2 then ati l (recAt m + 2) else if q = recAt r + 1 then ati l (recAt m + 1) else if q = recAt r then ati l (recAt m) else ati l q := by
  unfold movL
  rw [ati_set, ati_set, ati_set, ati_set]
  simp only [List.length_set]
  by_cases e1 : q = lead
  · subst e1; simp [hl]
  · simp only [e1, Ne.symm e1, false_and, if_false]
    by_cases e2 : q = recAt r + 2
    · subst e2; simp [hr]
    · by_cases e3 : q = recAt r + 1
      · subst e3; simp; omega
      · by_cases e4 : q = recAt r
        · subst e4; simp; omega
        · simp [e2, e3, e4, Ne.symm e2, Ne.symm e3, Ne.symm e4]
theorem Chs.mov (h : Chs l n b C) {j r m : Nat} (hj : j < b) {pre post : List Nat} (hC : C j = pre ++ m :: post) (hr : r < n) (hout : ∀ k, k < b → r ∉ C k) :
    Chs (movL l r m (endp (headAt j) pre)) n b (fun k => if k = j then pre ++ r :: post else C k) := by
  have hcl := h.cl j hj
  have hnd := h.nd j hj
  have hoj := hout j hj
  rw [hC] at hcl hnd hoj
  have hs := hcl.split
  have hnd2 := List.nodup_append.1 hnd
  have hrl := h.rl r hr
  have hend := endp_cases (headAt j) pre
  have hne : ∀ s ∈ m :: post, recAt s + 2 ≠ endp (headAt j) pre := fun s hs e => by
    rcases hend with ⟨_, e2⟩ | ⟨t, ht, e2⟩
    · exact head_rec (e2.symm.trans e.symm) (by omega)
    · have := (recAt_inj (e.trans e2) (by omega) (by omega)).1
      subst this
      exact hnd2.2.2 _ ht _ hs rfl
  have hlr : ∀ a, a < 3 → endp (headAt j) pre ≠ recAt r + a := fun a ha e => by
    rcases hend with ⟨_, e2⟩ | ⟨t, ht, e2⟩
    · exact head_rec (e2.symm.trans e) ha
    · have := (recAt_inj (e2.symm.trans e) (by omega) ha).1
      subst this
      exact hoj (by simp [ht])
  have hA := ati_movL (m := m) hrl.1 hs.1 (hlr 0 (by omega)) (hlr 1 (by omega)) (hlr 2 (by omega))
  have hkeep : ∀ q, q ≠ endp (headAt j) pre → ((∃ k, k < b ∧ q = headAt k) ∨ ∃ k s, k < b ∧ s ∈ C k ∧ q = recAt s + 2) → ati (movL l r m (endp (headAt j) pre)) q = ati l q := fun q hq hc => by
    have h3 : ∀ a, a < 3 → q ≠ recAt r + a := fun a ha e => by
      rcases hc with ⟨k, _, rfl⟩ | ⟨k, s, hk, hsm, rfl⟩
      · exact head_rec e ha
      · have := (recAt_inj e (by omega) ha).1
        subst this
        exact hout k hk hsm
    rw [hA, if_neg hq, if_neg (h3 2 (by omega)), if_neg (h3 1 (by omega)), if_neg (show ¬ q = recAt r from h3 0 (by omega))]
  refine h.relink hj hC movL_len hkeep ?_ ?_ (fun s hs2 => ?_)
  · refine ⟨by rw [movL_len]; exact hs.1, by rw [hA, if_pos rfl], hrl.2, ?_⟩
    have ht := hs.2.2.2
    have hv : ati (movL l r m (endp (headAt j) pre)) (recAt r + 2) = ati l (recAt m + 2) := by rw [hA, if_neg (Ne.symm (hlr 2 (by omega))), if_pos rfl]
    cases post with
    | nil => exact ⟨by rw [movL_len]; exact hrl.1, hv.trans ht.2⟩
    | cons s rest =>
      refine ⟨by rw [movL_len]; exact hrl.1, hv.trans ht.2.1, ht.2.2.1, ht.2.2.2.frame (fun q hq => ?_)⟩
      have hq' : ∃ t ∈ s :: rest, q = recAt t + 2 := by
        rcases hq with rfl | ⟨t, ht, rfl⟩
        · exact ⟨s, by simp, rfl⟩
        · exact ⟨t, by simp [ht], rfl⟩
      obtain ⟨t, ht2, rfl⟩ := hq'
      have hm : t ∈ C j := by rw [hC]; exact List.mem_append.2 (.inr (List.mem_cons_of_mem _ ht2))
      exact ⟨by rw [movL_len]; exact (h.rl t (h.lt j t hj hm)).1, hkeep _ (hne t (List.mem_cons_of_mem _ ht2)) (.inr ⟨j, t, hj, hm, rfl⟩)⟩
  · have hmid : (pre ++ post).Nodup := hnd.sublist (List.Sublist.append_left (List.sublist_cons_self _ _) _)
    exact List.perm_middle.nodup_iff.2 (List.nodup_cons.2 ⟨fun hm => hoj (by rcases List.mem_append.1 hm with hm | hm <;> simp [hm]), hmid⟩)
  · rcases List.mem_cons.1 hs2 with rfl | hs2
    · exact ⟨hr, fun k hk _ => hout k hk⟩
    · have hm : s ∈ C j := by rw [hC]; simp [hs2]
      exact ⟨h.lt j s hj hm, fun k hk e hk2 => e (h.dj k j s hk hj hk2 hm)⟩
/-- a record that is in no chain is made empty -/
def zerL (l : List Int) (m : Nat) : List Int := ((l.set (recAt m) 0).set (recAt m + 1) 0).set (recAt m + 2) 0
theorem zerL_len {m : Nat} : (zerL l m).length = l.length := by simp [zerL]
theorem ati_zerL {m : Nat} (hm : recAt m + 2 < l.length) (q : Nat) : ati (zerL l m) q = if q = recAt m ∨ q = recAt m + 1 ∨ q = recAt m + 2 then 0 else ati l q := by
  unfold zerL
  rw [ati_set, ati_set, ati_set]
  simp only [List.length_set]
  by_cases e2 : q = recAt m + 2
  · subst e2; simp [hm]
  · by_cases e3 : q = recAt m + 1
    · subst e3; simp; omega
    · by_cases e4 : q = recAt m
      · subst e4; simp; omega
      · simp [e2, e3, e4, Ne.symm e2, Ne.symm e3, Ne.symm e4]
theorem Chs.zer (h : Chs l n b C) {m : Nat} (hm : m < n) (hout : ∀ k, k < b → m ∉ C k) : Chs (zerL l m) n b C := by
  have hml := (h.rl m hm).1
  refine ⟨fun k hk => (h.cl k hk).frame (fun q hq => ?_), h.nd, h.dj, h.lt, fun r hr => by rw [zerL_len]; exact h.rl r hr, fun k hk => by rw [zerL_len]; exact h.hl k hk⟩
  have hne : ∀ a, a < 3 → q ≠ recAt m + a := fun a ha e => by
    rcases hq with rfl | ⟨s, hs, rfl⟩
    · exact head_rec e ha
    · have := (recAt_inj e (by omega) ha).1
      subst this
      exact hout k hk hs
  rw [zerL_len, ati_zerL hml, if_neg (by rintro (e | e | e); exact hne 0 (by omega) e; exact hne 1 (by omega) e; exact hne 2 (by omega) e)]
  rcases hq with rfl | ⟨s, hs, rfl⟩
  · exact ⟨h.hl k hk, rfl⟩
  · exact ⟨(h.rl s (h.lt k s hk hs)).1, rfl⟩
end Go.Proofs.Ytdcomhdadnhpnaa
