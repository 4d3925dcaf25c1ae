/- Plain: dropping an element: its record is taken out, the last one takes its place. No program here. -/
import Derived.Test.YtdcomhdadnhpnaaP3
import Derived.Test.YtdcomhdadnhpnaaP5
set_option linter.unusedSimpArgs false
set_option linter.unusedVariables false
namespace Go.Proofs.Ytdcomhdadnhpnaa
variable {l : List Int} {n b : Nat} {C : Nat → List Nat} {S : Nat → Prop}

/-- The words hold the elements of some records in b chains. -/
structure GS (l : List Int) (n : Nat) (S : Nat → Prop) (b : Nat) (C : Nat → List Nat) : Prop where
  n1 : n ≤ 100000
  sn : ∀ r, S r → r < n
  rl : ∀ r, r < n → recAt r + 2 < l.length
  b8 : 8 ≤ b
  hl : ∀ i, i < b → headAt i < l.length
  hash : ∀ r, S r → 0 ≤ ati l (recAt r) ∧ ati l (recAt r) ≤ 2147483647
  chn : ∀ i, i < b → CL l (headAt i) (C i)
  nd : ∀ i, i < b → (C i).Nodup
  mem : ∀ i, i < b → ∀ r, r ∈ C i ↔ S r ∧ bkt (ati l (recAt r)).toNat b = i
  srt : ∀ i, i < b → (C i).Pairwise (fun r s => ati l (recAt r) ≤ ati l (recAt s))
  dif : ∀ r, S r → ∀ s, S s → ati l (recAt r) = ati l (recAt s) → ati l (recAt r + 1) = ati l (recAt s + 1) → r = s
  zh : ∀ i, b ≤ i → ati l (headAt i) = 0
  zr : ∀ r, n ≤ r → ∀ a, a < 3 → ati l (recAt r + a) = 0

theorem G.gs (g : G l n b C) : GS l n (fun r => r < n) b C := ⟨g.n1, fun _ h => h, g.rl, g.b8, g.hl, g.hash, g.chn, g.nd, g.mem, g.srt, g.dif, g.zh, g.zr⟩
theorem GS.g (g : GS l n (fun r => r < n - 1) b C) (hz : ∀ a, a < 3 → ati l (recAt (n - 1) + a) = 0) : G l (n - 1) b C :=
  ⟨by have := g.n1; omega, fun r hr => g.rl r (by omega), g.b8, g.hl, g.hash, g.chn, g.nd, g.mem, g.srt, g.dif, g.zh, fun r hr a ha => by
    by_cases e : r = n - 1
    · rw [e]; exact hz a ha
    · exact g.zr r (by omega) a ha⟩
theorem GS.congr {S' : Nat → Prop} (g : GS l n S b C) (h : ∀ r, S r ↔ S' r) : GS l n S' b C := by
  obtain rfl : S = S' := funext fun r => propext (h r)
  exact g
theorem GS.chs (g : GS l n S b C) : Chs l n b C :=
  ⟨g.chn, g.nd, fun i j r hi hj h1 h2 => by rw [← ((g.mem i hi r).1 h1).2, ((g.mem j hj r).1 h2).2], fun k r hk h => g.sn r ((g.mem k hk r).1 h).1, fun r h => ⟨g.rl r h, by have := g.n1; omega⟩, g.hl⟩
theorem GS.bpos (g : GS l n S b C) : 0 < b := by have := g.b8; omega
/-- the word that leads to a record of a chain is no first or second word of a record -/
theorem endp_no01 (i : Nat) (pre : List Nat) (s a : Nat) (ha : a < 2) : endp (headAt i) pre ≠ recAt s + a := fun e => by
  rcases endp_cases (headAt i) pre with ⟨_, e2⟩ | ⟨t, _, e2⟩
  · exact head_rec (e2.symm.trans e) (by omega)
  · have := (recAt_inj (e2.symm.trans e) (by omega) (by omega)).2; omega

theorem GS.rem (g : GS l n S b C) {i r : Nat} (hi : i < b) {pre post : List Nat} (hC : C i = pre ++ r :: post) :
    GS (remL l (endp (headAt i) pre) r) n (fun s => S s ∧ s ≠ r) b (fun k => if k = i then pre ++ post else C k) := by
  have c := g.chs.rem hi hC
  have hmi := g.mem i hi
  have hnd := g.nd i hi
  have hsr := g.srt i hi
  rw [hC] at hmi hnd hsr
  have hrS := (hmi r).1 (by simp)
  have hr2 : ∀ s a, a < 2 → ati (remL l (endp (headAt i) pre) r) (recAt s + a) = ati l (recAt s + a) := fun s a ha => ati_set_ne (endp_no01 i pre s a ha)
  have hr0 : ∀ s, ati (remL l (endp (headAt i) pre) r) (recAt s) = ati l (recAt s) := fun s => hr2 s 0 (by omega)
  have hmid : r ∉ pre ++ post := (List.nodup_cons.1 (List.perm_middle.nodup_iff.1 hnd)).1
  refine ⟨g.n1, fun s hs => g.sn s hs.1, fun s hs => (c.rl s hs).1, g.b8, c.hl, fun s hs => by rw [hr0]; exact g.hash s hs.1, c.cl, c.nd, fun k hk s => ?_, fun k hk => ?_, fun s hs t ht e1 e2 => ?_, fun k hk => ?_, fun s hs a ha => ?_⟩
  · rw [hr0]
    by_cases e : k = i
    · subst e
      rw [if_pos rfl]
      have hs := hmi s
      constructor
      · intro hm
        have h1 := hs.1 (by rcases List.mem_append.1 hm with hm | hm <;> simp [hm])
        exact ⟨⟨h1.1, fun e => hmid (e ▸ hm)⟩, h1.2⟩
      · rintro ⟨⟨h1, h2⟩, h3⟩
        have h4 := hs.2 ⟨h1, h3⟩
        rcases List.mem_append.1 h4 with h4 | h4
        · simp [h4]
        · rcases List.mem_cons.1 h4 with h4 | h4
          · exact absurd h4 h2
          · simp [h4]
    · rw [if_neg e, g.mem k hk s]
      constructor
      · rintro ⟨h1, h2⟩; exact ⟨⟨h1, fun e2 => e (by rw [← h2, e2, hrS.2])⟩, h2⟩
      · rintro ⟨⟨h1, _⟩, h3⟩; exact ⟨h1, h3⟩
  · simp only [hr0]
    by_cases e : k = i
    · rw [if_pos e]; exact hsr.sublist (List.Sublist.append_left (List.sublist_cons_self _ _) _)
    · rw [if_neg e]; exact g.srt k hk
  · rw [hr0, hr0] at e1
    rw [hr2 _ 1 (by omega), hr2 _ 1 (by omega)] at e2
    exact g.dif s hs.1 t ht.1 e1 e2
  · have hne : endp (headAt i) pre ≠ headAt k := fun e => by
      rcases endp_cases (headAt i) pre with ⟨_, e2⟩ | ⟨t, _, e2⟩
      · have := headAt_inj (e2.symm.trans e); omega
      · exact head_rec (e.symm.trans e2) (by omega)
    exact (ati_set_ne hne).trans (g.zh k hk)
  · have hne : endp (headAt i) pre ≠ recAt s + a := fun e => by
      rcases endp_cases (headAt i) pre with ⟨_, e2⟩ | ⟨t, ht, e2⟩
      · exact head_rec (e2.symm.trans e) ha
      · have := (recAt_inj (e2.symm.trans e) (by omega) ha).1
        have := g.sn t ((hmi t).1 (by simp [ht])).1
        omega
    exact (ati_set_ne hne).trans (g.zr s hs a ha)

/-- the map of the records when the last one moves -/
def mvS (r m s : Nat) : Nat := if s = m then r else s
theorem mvS_map {r m : Nat} {pre post : List Nat} (h : (pre ++ m :: post).Nodup) : (pre ++ m :: post).map (mvS r m) = pre ++ r :: post := by
  have h2 := List.nodup_cons.1 (List.perm_middle.nodup_iff.1 h)
  have hk : ∀ s ∈ pre ++ post, mvS r m s = s := fun s hs => if_neg (fun (e : s = m) => h2.1 (e ▸ hs))
  have e1 : pre.map (mvS r m) = pre := (List.map_congr_left (fun s hs => hk s (by simp [hs]))).trans (List.map_id' _)
  have e2 : post.map (mvS r m) = post := (List.map_congr_left (fun s hs => hk s (by simp [hs]))).trans (List.map_id' _)
  rw [List.map_append, List.map_cons, e1, e2]
  simp [mvS]
theorem mvS_id {r m : Nat} {rs : List Nat} (h : m ∉ rs) : rs.map (mvS r m) = rs :=
  (List.map_congr_left (fun s hs => if_neg (fun (e : s = m) => h (e ▸ hs)))).trans (List.map_id' _)

theorem GS.mov (g : GS l n S b C) {j r m : Nat} (hj : j < b) {pre post : List Nat} (hC : C j = pre ++ m :: post) (hr : r < n) (hrS : ¬ S r) :
    GS (movL l r m (endp (headAt j) pre)) n (fun s => (S s ∧ s ≠ m) ∨ s = r) b (fun k => if k = j then pre ++ r :: post else C k) := by
  have hout : ∀ k, k < b → r ∉ C k := fun k hk hm => hrS ((g.mem k hk r).1 hm).1
  have c := g.chs.mov hj hC hr hout
  have hmj := g.mem j hj
  have hnd := g.nd j hj
  rw [hC] at hmj hnd
  have hmS := (hmj m).1 (by simp)
  have hrl := g.rl r hr
  have hle : endp (headAt j) pre < l.length := by
    have := g.chn j hj; rw [hC] at this; exact this.split.endlt
  have hl2 : endp (headAt j) pre ≠ recAt r + 2 := fun e => by
    rcases endp_cases (headAt j) pre with ⟨_, e2⟩ | ⟨t, ht, e2⟩
    · exact head_rec (e2.symm.trans e) (by omega)
    · have := (recAt_inj (e2.symm.trans e) (by omega) (by omega)).1
      exact hrS (this ▸ ((hmj t).1 (by simp [ht])).1)
  have hA := ati_movL (m := m) hrl hle (endp_no01 j pre r 0 (by omega)) (endp_no01 j pre r 1 (by omega)) hl2
  have hself : ∀ a, a < 2 → ati (movL l r m (endp (headAt j) pre)) (recAt r + a) = ati l (recAt m + a) := fun a ha => by
    rw [hA, if_neg (Ne.symm (endp_no01 j pre r a ha))]
    rcases (by omega : a = 0 ∨ a = 1) with rfl | rfl
    · simp
    · simp
  have hoth : ∀ s a, s ≠ r → a < 3 → endp (headAt j) pre ≠ recAt s + a → ati (movL l r m (endp (headAt j) pre)) (recAt s + a) = ati l (recAt s + a) := fun s a hs ha hq => by
    have h3 : ∀ c, c < 3 → recAt s + a ≠ recAt r + c := fun c hc e => hs (recAt_inj e ha hc).1
    rw [hA, if_neg (Ne.symm hq), if_neg (h3 2 (by omega)), if_neg (h3 1 (by omega)), if_neg (show ¬ recAt s + a = recAt r from h3 0 (by omega))]
  have hmv : ∀ s a, S s → a < 2 → ati (movL l r m (endp (headAt j) pre)) (recAt (mvS r m s) + a) = ati l (recAt s + a) := fun s a hs ha => by
    unfold mvS
    by_cases e : s = m
    · rw [if_pos e, e]; exact hself a ha
    · rw [if_neg e]; exact hoth s a (fun e => hrS (e ▸ hs)) (by omega) (endp_no01 j pre s a ha)
  have hmv0 : ∀ s, S s → ati (movL l r m (endp (headAt j) pre)) (recAt (mvS r m s)) = ati l (recAt s) := fun s hs => hmv s 0 hs (by omega)
  have hCk : ∀ k, k < b → (if k = j then pre ++ r :: post else C k) = (C k).map (mvS r m) := fun k hk => by
    by_cases e : k = j
    · rw [if_pos e, e, hC, mvS_map hnd]
    · rw [if_neg e, mvS_id]
      intro hm
      exact e (g.chs.dj k j m hk hj hm (by rw [hC]; simp))
  have hS' : ∀ s, ((S s ∧ s ≠ m) ∨ s = r) ↔ ∃ t, S t ∧ mvS r m t = s := fun s => by
    constructor
    · rintro (⟨h1, h2⟩ | rfl)
      · exact ⟨s, h1, if_neg h2⟩
      · exact ⟨m, hmS.1, if_pos rfl⟩
    · rintro ⟨t, h1, rfl⟩
      unfold mvS
      by_cases e : t = m
      · rw [if_pos e]; exact .inr rfl
      · rw [if_neg e]; exact .inl ⟨h1, e⟩
  refine ⟨g.n1, fun s hs => ?_, fun s hs => (c.rl s hs).1, g.b8, c.hl, fun s hs => ?_, c.cl, c.nd, fun k hk s => ?_, fun k hk => ?_, fun s hs t ht e1 e2 => ?_, fun k hk => ?_, fun s hs a ha => ?_⟩
  · rcases hs with ⟨h1, _⟩ | rfl
    · exact g.sn s h1
    · exact hr
  · obtain ⟨t, ht, rfl⟩ := (hS' s).1 hs
    rw [hmv0 t ht]; exact g.hash t ht
  · rw [hCk k hk, List.mem_map]
    constructor
    · rintro ⟨t, ht, rfl⟩
      have h1 := (g.mem k hk t).1 ht
      exact ⟨(hS' _).2 ⟨t, h1.1, rfl⟩, by rw [hmv0 t h1.1]; exact h1.2⟩
    · rintro ⟨h1, h2⟩
      obtain ⟨t, ht, rfl⟩ := (hS' s).1 h1
      rw [hmv0 t ht] at h2
      exact ⟨t, (g.mem k hk t).2 ⟨ht, h2⟩, rfl⟩
  · rw [hCk k hk, List.pairwise_map]
    refine (g.srt k hk).imp_of_mem (fun {x y} hx hy hxy => ?_)
    rw [hmv0 x ((g.mem k hk x).1 hx).1, hmv0 y ((g.mem k hk y).1 hy).1]; exact hxy
  · obtain ⟨s', hs', rfl⟩ := (hS' s).1 hs
    obtain ⟨t', ht', rfl⟩ := (hS' t).1 ht
    rw [hmv0 s' hs', hmv0 t' ht'] at e1
    rw [hmv s' 1 hs' (by omega), hmv t' 1 ht' (by omega)] at e2
    rw [g.dif s' hs' t' ht' e1 e2]
  · have hne : headAt k ≠ endp (headAt j) pre := fun e => by
      rcases endp_cases (headAt j) pre with ⟨_, e2⟩ | ⟨t, _, e2⟩
      · have := headAt_inj (e.trans e2); omega
      · exact head_rec (e.trans e2) (by omega)
    rw [hA, if_neg hne, if_neg (fun e => head_rec e (by omega)), if_neg (fun e => head_rec e (by omega)), if_neg (show ¬ headAt k = recAt r from fun e => head_rec (a := 0) e (by omega))]
    exact g.zh k hk
  · have hne : endp (headAt j) pre ≠ recAt s + a := fun e => by
      rcases endp_cases (headAt j) pre with ⟨_, e2⟩ | ⟨t, ht, e2⟩
      · exact head_rec (e2.symm.trans e) ha
      · have := (recAt_inj (e2.symm.trans e) (by omega) ha).1
        have := g.sn t ((hmj t).1 (by simp [ht])).1
        omega
    rw [hoth s a (by omega) ha hne]; exact g.zr s hs a ha

theorem GS.zer (g : GS l n S b C) {m : Nat} (hm : m < n) (hmS : ¬ S m) : GS (zerL l m) n S b C ∧ ∀ a, a < 3 → ati (zerL l m) (recAt m + a) = 0 := by
  have c := g.chs.zer hm (fun k hk h => hmS ((g.mem k hk m).1 h).1)
  have hA := ati_zerL (g.rl m hm)
  have hoth : ∀ s a, s ≠ m → a < 3 → ati (zerL l m) (recAt s + a) = ati l (recAt s + a) := fun s a hs ha => by
    have h3 : ∀ c, c < 3 → recAt s + a ≠ recAt m + c := fun c hc e => hs (recAt_inj e ha hc).1
    rw [hA, if_neg (by rintro (e | e | e); exact h3 0 (by omega) e; exact h3 1 (by omega) e; exact h3 2 (by omega) e)]
  have hS0 : ∀ s, S s → ati (zerL l m) (recAt s) = ati l (recAt s) := fun s hs => hoth s 0 (fun e => hmS (e ▸ hs)) (by omega)
  refine ⟨⟨g.n1, g.sn, fun s hs => (c.rl s hs).1, g.b8, c.hl, fun s hs => by rw [hS0 s hs]; exact g.hash s hs, c.cl, c.nd, fun k hk s => ?_, fun k hk => ?_, fun s hs t ht e1 e2 => ?_, fun k hk => ?_, fun s hs a ha => ?_⟩, fun a ha => ?_⟩
  · rw [g.mem k hk s]
    constructor
    · rintro ⟨h1, h2⟩; exact ⟨h1, by rw [hS0 s h1]; exact h2⟩
    · rintro ⟨h1, h2⟩; rw [hS0 s h1] at h2; exact ⟨h1, h2⟩
  · refine (g.srt k hk).imp_of_mem (fun {x y} hx hy hxy => ?_)
    rw [hS0 x ((g.mem k hk x).1 hx).1, hS0 y ((g.mem k hk y).1 hy).1]; exact hxy
  · rw [hS0 s hs, hS0 t ht] at e1
    rw [hoth s 1 (fun e => hmS (e ▸ hs)) (by omega), hoth t 1 (fun e => hmS (e ▸ ht)) (by omega)] at e2
    exact g.dif s hs t ht e1 e2
  · rw [hA, if_neg (by rintro (e | e | e); exact head_rec (a := 0) e (by omega); exact head_rec e (by omega); exact head_rec e (by omega))]
    exact g.zh k hk
  · rw [hoth s a (by omega) ha]; exact g.zr s hs a ha
  · rw [hA, if_pos (by rcases (by omega : a = 0 ∨ a = 1 ∨ a = 2) with rfl | rfl | rfl <;> simp)]
end Go.Proofs.Ytdcomhdadnhpnaa
