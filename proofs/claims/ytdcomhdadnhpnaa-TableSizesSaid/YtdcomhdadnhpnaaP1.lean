/- Plain: a table in its words (G); adding an element, and a bucket. No program here. -/
import Derived.Test.YtdcomhdadnhpnaaP0
set_option linter.unusedSimpArgs false
set_option linter.unusedVariables false
namespace Go.Proofs.Ytdcomhdadnhpnaa

theorem pow2_eq {b k : Nat} (h1 : 2 ^ k ≤ b) (h2 : b < 2 ^ (k + 1)) : pow2 b = 2 ^ k := by
  unfold pow2
  rw [(Nat.log2_eq_iff (by have := Nat.two_pow_pos k; omega)).2 ⟨h1, h2⟩]
theorem bkt_succ (h b : Nat) (hb : 1 ≤ b) : bkt h (b + 1) = if h % (2 * pow2 b) < b + 1 then h % (2 * pow2 b) else h % pow2 b := by
  have h1 := pow2_le (b := b) (by omega)
  have h2 := lt_2pow2 b
  have h0 := pow2_pos b
  by_cases hc : b + 1 < 2 * pow2 b
  · have e : pow2 (b + 1) = pow2 b := pow2_eq (k := Nat.log2 b) (by show pow2 b ≤ _; omega) (by rw [Nat.pow_succ]; show _ < pow2 b * 2; omega)
    unfold bkt; rw [e]
  · have hbe : b + 1 = 2 * pow2 b := by omega
    have e : pow2 (b + 1) = 2 * pow2 b := by
      rw [pow2_eq (k := Nat.log2 b + 1) (by rw [Nat.pow_succ]; show pow2 b * 2 ≤ _; omega) (by rw [Nat.pow_succ, Nat.pow_succ]; show _ < pow2 b * 2 * 2; omega), Nat.pow_succ]
      show pow2 b * 2 = _; omega
    unfold bkt; rw [e]
    generalize pow2 b = p at *
    have hm := Nat.mod_lt h (show 0 < 2 * p by omega)
    rw [if_pos (show h % (2 * p) < b + 1 by omega)]
    split
    · rename_i hx
      have : h % (2 * (2 * p)) % (2 * p) = h % (2 * p) := Nat.mod_mul_left_mod _ _ _
      exact (Nat.mod_eq_of_lt (show h % (2 * (2 * p)) < 2 * p by omega)).symm.trans this
    · rfl
/-- a new bucket takes what it has from one other -/
theorem bkt_new {h b : Nat} (hb : 1 ≤ b) (e : bkt h (b + 1) = b) : bkt h b = b - pow2 b := by
  have h1 := pow2_le (b := b) (by omega)
  have h2 := lt_2pow2 b
  have h0 := pow2_pos b
  rw [bkt_succ h b hb] at e
  unfold bkt
  generalize pow2 b = p at *
  have hp := Nat.mod_lt h h0
  split at e
  · rw [if_neg (by omega)]
    have : h % (2 * p) % p = h % p := Nat.mod_mul_left_mod _ _ _
    rw [← this, e, Nat.mod_eq_sub_mod h1, Nat.mod_eq_of_lt (by omega)]
  · omega
theorem bkt_old {h b : Nat} (hb : 1 ≤ b) (e : bkt h (b + 1) ≠ b) : bkt h (b + 1) = bkt h b := by
  have h1 := pow2_le (b := b) (by omega)
  rw [bkt_succ h b hb] at e ⊢
  unfold bkt
  by_cases hc : h % (2 * pow2 b) < b + 1
  · rw [if_pos hc] at e ⊢
    rw [if_pos (by omega)]
  · rw [if_neg hc, if_neg (by omega)]

/-- The words hold n elements in b chains. -/
structure G (l : List Int) (n b : Nat) (C : Nat → List Nat) : Prop where
  n1 : n ≤ 100000
  rl : ∀ r, r < n → recAt r + 2 < l.length
  b8 : 8 ≤ b
  hl : ∀ i, i < b → headAt i < l.length
  hash : ∀ r, r < n → 0 ≤ ati l (recAt r) ∧ ati l (recAt r) ≤ 2147483647
  chn : ∀ i, i < b → CL l (headAt i) (C i)
  nd : ∀ i, i < b → (C i).Nodup
  mem : ∀ i, i < b → ∀ r, r ∈ C i ↔ r < n ∧ bkt (ati l (recAt r)).toNat b = i
  srt : ∀ i, i < b → (C i).Pairwise (fun r s => ati l (recAt r) ≤ ati l (recAt s))
  dif : ∀ r, r < n → ∀ s, s < n → ati l (recAt r) = ati l (recAt s) → ati l (recAt r + 1) = ati l (recAt s + 1) → r = s
  zh : ∀ i, b ≤ i → ati l (headAt i) = 0
  zr : ∀ r, n ≤ r → ∀ a, a < 3 → ati l (recAt r + a) = 0

variable {l : List Int} {n b : Nat} {C : Nat → List Nat}
theorem G.lt (h : G l n b C) {i r : Nat} (hi : i < b) (hr : r ∈ C i) : r < n := ((h.mem i hi r).1 hr).1
theorem G.only (h : G l n b C) {i j r : Nat} (hi : i < b) (hj : j < b) (h1 : r ∈ C i) (h2 : r ∈ C j) : i = j := by
  rw [← ((h.mem i hi r).1 h1).2, ((h.mem j hj r).1 h2).2]
theorem G.reclt (h : G l n b C) {r : Nat} (hr : r < n) : recAt r + 2 < l.length := h.rl r hr
theorem G.headlt (h : G l n b C) {i : Nat} (hi : i < b) : headAt i < l.length := h.hl i hi
theorem nodup_len : ∀ (n : Nat) (m : List Nat), m.Nodup → (∀ r ∈ m, r < n) → m.length ≤ n
  | 0, m, _, h => by
    cases m with
    | nil => simp
    | cons a m => have := h a (by simp); omega
  | n + 1, m, hn, h => by
    by_cases hm : n ∈ m
    · have h1 := nodup_len n (m.erase n) (hn.erase n) (fun r hr => by
        have h2 := (List.Nodup.mem_erase_iff hn).1 hr
        have := h r h2.2; omega)
      rw [List.length_erase_of_mem hm] at h1; omega
    · have := nodup_len n m hn (fun r hr => by have := h r hr; have : r ≠ n := fun e => hm (e ▸ hr); omega)
      omega
theorem G.clen (h : G l n b C) {i : Nat} (hi : i < b) : (C i).length ≤ n := by
  exact nodup_len n _ (h.nd i hi) (fun r hr => h.lt hi hr)

theorem wlen_mono {n m : Nat} (h : n ≤ m) : wlen n ≤ wlen m := by unfold wlen; omega
/-- the words behind adding (h, x) at the end of the list pre of chain i -/
def addL (l : List Int) (n : Nat) (fr : Nat) (h x : Int) : List Int :=
  ((((sizedL l (n + 1)).set (recAt n) h).set (recAt n + 1) x).set (recAt n + 2) (ati (sizedL l (n + 1)) fr)).set fr ((n : Int) + 1)
theorem addL_len {fr : Nat} {h x : Int} : (addL l n fr h x).length = wlen (n + 1) := by simp [addL, sizedL_len]
theorem ati_addL {fr : Nat} {h x : Int} (hfr : 3 ≤ fr) (hfl : fr < wlen (n + 1)) (q : Nat) (hq : 3 ≤ q) (hl : l.length = wlen n) :
    ati (addL l n fr h x) q = if q = fr then (n : Int) + 1 else if q = recAt n + 2 then ati l fr else if q = recAt n + 1 then x else if q = recAt n then h else ati l q := by
  have hrl := recAt_wlen (n := n + 1) (r := n) (by omega)
  have hw := wlen_mono (show n ≤ n + 1 by omega)
  have hs : ∀ q, 3 ≤ q → ati (sizedL l (n + 1)) q = ati l q := fun q hq => by
    rw [ati_sizedL, if_neg (by omega), if_neg (by omega), if_neg (by omega)]
    by_cases hx : q < wlen (n + 1)
    · rw [if_pos hx]
    · rw [if_neg hx, ati_big (by omega)]
  unfold addL
  rw [ati_set, ati_set, ati_set, ati_set, hs q hq, hs fr hfr]
  simp only [List.length_set, sizedL_len]
  by_cases e1 : q = fr
  · subst e1; simp [hfl]
  · simp only [e1, Ne.symm e1, false_and, if_false]
    by_cases e2 : q = recAt n + 2
    · subst e2; simp [hrl]
    · by_cases e3 : q = recAt n + 1
      · subst e3; simp; omega
      · by_cases e4 : q = recAt n
        · subst e4; simp; omega
        · simp [e2, e3, e4, Ne.symm e2, Ne.symm e3, Ne.symm e4]

theorem G_add {pre post : List Nat} {h x : Int} (g : G l n b C) (hlen : l.length = wlen n) (hn : n < 100000) (h0 : 0 ≤ h) (h1 : h ≤ 2147483647) (hC : C (bkt h.toNat b) = pre ++ post)
    (hpre : ∀ r ∈ pre, ati l (recAt r) ≤ h) (hpost : ∀ r ∈ post, h ≤ ati l (recAt r)) (hno : ∀ r, r < n → ¬ (ati l (recAt r) = h ∧ ati l (recAt r + 1) = x)) :
    G (addL l n (endp (headAt (bkt h.toNat b)) pre) h x) (n + 1) b (fun k => if k = bkt h.toNat b then pre ++ n :: post else C k) := by
  have hb8 := g.b8
  have hi : bkt h.toNat b < b := bkt_lt _ (by omega)
  generalize hbi : bkt h.toNat b = i at *
  have hmi := g.mem i hi
  rw [hC] at hmi
  have hw := wlen_mono (show n ≤ n + 1 by omega)
  have hend : endp (headAt i) pre = headAt i ∨ ∃ r ∈ pre, endp (headAt i) pre = recAt r + 2 := by
    rcases endp_cases (headAt i) pre with ⟨_, e⟩ | e
    · exact .inl e
    · exact .inr e
  have hfr3 : 3 ≤ endp (headAt i) pre := by
    rcases hend with e | ⟨r, _, e⟩
    · rw [e]; have := headAt_ge i; omega
    · rw [e]; have := recAt_ge r; omega
  have hfl0 : endp (headAt i) pre < l.length := by
    rcases hend with e | ⟨r, hr, e⟩
    · rw [e]; exact g.headlt hi
    · rw [e]; exact g.reclt ((hmi r).1 (by simp [hr])).1
  have hfl : endp (headAt i) pre < wlen (n + 1) := by omega
  generalize hfr : endp (headAt i) pre = fr at *
  have hA : ∀ q, 3 ≤ q → _ := fun q hq => ati_addL (h := h) (x := x) hfr3 hfl q hq hlen
  have hfrh : ∀ k, k ≠ i → headAt k ≠ fr := fun k hk e => by
    rcases hend with e' | ⟨r, _, e'⟩
    · exact hk (headAt_inj (e.trans e'))
    · exact head_rec (e.trans e') (by omega)
  have hfrr : ∀ r a, a < 2 → recAt r + a ≠ fr := fun r a ha e => by
    rcases hend with e' | ⟨s, _, e'⟩
    · exact head_rec (e'.symm.trans e.symm) (by omega)
    · have := (recAt_inj (e.trans e') (by omega) (by omega)).2; omega
  have hrec : ∀ r a, r < n → a < 2 → ati (addL l n fr h x) (recAt r + a) = ati l (recAt r + a) := fun r a hr ha => by
    have hne : ∀ c, c < 3 → recAt r + a ≠ recAt n + c := fun c hc e => by have := (recAt_inj e (by omega) hc).1; omega
    rw [hA _ (by have := recAt_ge r; omega), if_neg (hfrr r a ha), if_neg (hne 2 (by omega)), if_neg (hne 1 (by omega)), if_neg (show ¬ (_ = recAt n) from hne 0 (by omega))]
  have hnew0 : ati (addL l n fr h x) (recAt n) = h := by
    rw [hA _ (by have := recAt_ge n; omega), if_neg (show ¬ (recAt n = fr) from hfrr n 0 (by omega)), if_neg (by omega), if_neg (by omega), if_pos rfl]
  have hnew1 : ati (addL l n fr h x) (recAt n + 1) = x := by
    rw [hA _ (by have := recAt_ge n; omega), if_neg (hfrr n 1 (by omega)), if_neg (by omega), if_pos rfl]
  have hnfr : recAt n + 2 ≠ fr := fun e => by
    rcases hend with e' | ⟨s, hs, e'⟩
    · exact head_rec (e'.symm.trans e.symm) (by omega)
    · have h2 := (recAt_inj (e.trans e') (by omega) (by omega)).1
      have := ((hmi s).1 (by simp [hs])).1; omega
  have hnew2 : ati (addL l n fr h x) (recAt n + 2) = ati l fr := by
    rw [hA _ (by have := recAt_ge n; omega), if_neg hnfr, if_pos rfl]
  have hlink : ∀ q, (q = headAt q ∨ True) → True := fun _ _ => trivial
  have hnpp : n ∉ pre ++ post := fun hm => by have := ((hmi n).1 hm).1; omega
  have hndp := g.nd i hi
  rw [hC] at hndp
  have hndp' := List.nodup_append.1 hndp
  -- the words of links that stay
  have hpos : ∀ q, q ≠ fr → (∃ k, q = headAt k) ∨ (∃ r, r < n ∧ q = recAt r + 2) → ati (addL l n fr h x) q = ati l q := fun q hq hc => by
    rcases hc with ⟨k, rfl⟩ | ⟨r, hr, rfl⟩
    · rw [hA _ (by have := headAt_ge k; omega), if_neg hq, if_neg (fun e => head_rec e (by omega)), if_neg (fun e => head_rec e (by omega)), if_neg (show ¬ (_ = recAt n) from fun e => head_rec (a := 0) e (by omega))]
    · have hne : ∀ c, c < 3 → recAt r + 2 ≠ recAt n + c := fun c hc e => by have := (recAt_inj e (by omega) hc).1; omega
      rw [hA _ (by have := recAt_ge r; omega), if_neg hq, if_neg (hne 2 (by omega)), if_neg (hne 1 (by omega)), if_neg (show ¬ (_ = recAt n) from hne 0 (by omega))]
  have hlt : ∀ q, q < l.length → q < (addL l n fr h x).length := fun q hq => by rw [addL_len]; have := hlen; omega
  refine ⟨by omega, fun r hr => by rw [addL_len]; exact recAt_wlen hr, hb8, fun k hk => hlt _ (g.headlt hk), ?_, ?_, ?_, ?_, ?_, ?_, ?_, ?_⟩
  · intro r hr
    by_cases e : r = n
    · subst e; rw [hnew0]; exact ⟨h0, h1⟩
    · have := hrec r 0 (by omega) (by omega); rw [Nat.add_zero] at this; rw [this]; exact g.hash r (by omega)
  · intro k hk
    by_cases e : k = i
    · subst e
      have hcl := g.chn k hk
      rw [hC] at hcl
      simp only [if_true]
      refine hcl.graft (fun q hq hne => ?_) (fun r _ e => head_rec e (by omega)) hndp'.1 ?_
      · rw [hfr] at hne
        rcases hq with rfl | ⟨r, hr, rfl⟩
        · exact ⟨hlt _ (g.headlt hk), hpos _ hne (.inl ⟨_, rfl⟩)⟩
        · have hr' := ((hmi r).1 (by simp [hr])).1
          exact ⟨hlt _ (g.reclt hr'), hpos _ hne (.inr ⟨r, hr', rfl⟩)⟩
      · rw [hfr]
        refine ⟨hlt _ hfl0, by rw [hA _ hfr3, if_pos rfl], by omega, ?_⟩
        have hp := hcl.split
        rw [hfr] at hp
        cases post with
        | nil => exact ⟨by rw [addL_len]; exact recAt_wlen (by omega), by rw [hnew2]; exact hp.2⟩
        | cons s rest =>
          have hs : ∀ r ∈ s :: rest, r < n := fun r hr => ((hmi r).1 (List.mem_append.2 (.inr hr))).1
          refine ⟨by rw [addL_len]; exact recAt_wlen (by omega), by rw [hnew2]; exact hp.2.1, hp.2.2.1, hp.2.2.2.frame (fun q hq => ?_)⟩
          have hq' : ∃ r ∈ s :: rest, q = recAt r + 2 := by
            rcases hq with rfl | ⟨r, hr, rfl⟩
            · exact ⟨s, by simp, rfl⟩
            · exact ⟨r, by simp [hr], rfl⟩
          obtain ⟨r, hr, rfl⟩ := hq'
          refine ⟨hlt _ (g.reclt (hs r hr)), hpos _ (fun e => ?_) (.inr ⟨r, hs r hr, rfl⟩)⟩
          rcases hend with e' | ⟨s', hs', e'⟩
          · exact head_rec (e'.symm.trans e.symm) (by omega)
          · have := (recAt_inj (e.trans e') (by omega) (by omega)).1
            subst this
            exact hndp'.2.2 _ hs' _ hr rfl
    · rw [if_neg e]
      refine (g.chn k hk).frame (fun q hq => ?_)
      rcases hq with rfl | ⟨r, hr, rfl⟩
      · exact ⟨hlt _ (g.headlt hk), hpos _ (hfrh k e) (.inl ⟨_, rfl⟩)⟩
      · refine ⟨hlt _ (g.reclt (g.lt hk hr)), hpos _ (fun e2 => ?_) (.inr ⟨r, g.lt hk hr, rfl⟩)⟩
        rcases hend with e' | ⟨s', hs', e'⟩
        · exact head_rec (e'.symm.trans e2.symm) (by omega)
        · have := (recAt_inj (e2.trans e') (by omega) (by omega)).1
          subst this
          exact e (g.only hk hi hr (by rw [hC]; simp [hs']))
  · intro k hk
    by_cases e : k = i
    · subst e
      simp only [if_true]
      exact List.perm_middle.nodup_iff.2 (List.nodup_cons.2 ⟨hnpp, hndp⟩)
    · rw [if_neg e]; exact g.nd k hk
  · intro k hk r
    by_cases er : r = n
    · subst er
      rw [hnew0, hbi]
      by_cases e : k = i
      · subst e; simp
      · rw [if_neg e]
        constructor
        · intro hm; have := g.lt hk hm; omega
        · rintro ⟨_, h⟩; exact absurd h.symm e
    · have hrr : r < n → ati (addL l n fr h x) (recAt r) = ati l (recAt r) := fun hr => hrec r 0 hr (by omega)
      by_cases e : k = i
      · subst e
        have := hmi r
        simp only [if_true]
        simp only [List.mem_append, List.mem_cons, er, false_or]
        rw [List.mem_append] at this
        rw [this]
        constructor
        · rintro ⟨h1, h2⟩; exact ⟨by omega, by rw [hrr h1]; exact h2⟩
        · rintro ⟨h1, h2⟩; have h3 : r < n := Nat.lt_of_le_of_ne (Nat.le_of_lt_succ h1) er
          exact ⟨h3, by rw [hrr h3] at h2; exact h2⟩
      · rw [if_neg e, g.mem k hk r]
        constructor
        · rintro ⟨h1, h2⟩; exact ⟨by omega, by rw [hrr h1]; exact h2⟩
        · rintro ⟨h1, h2⟩; have h3 : r < n := Nat.lt_of_le_of_ne (Nat.le_of_lt_succ h1) er
          exact ⟨h3, by rw [hrr h3] at h2; exact h2⟩
  · intro k hk
    have hold : ∀ m : List Nat, (∀ r ∈ m, r < n) → m.Pairwise (fun r s => ati l (recAt r) ≤ ati l (recAt s)) → m.Pairwise (fun r s => ati (addL l n fr h x) (recAt r) ≤ ati (addL l n fr h x) (recAt s)) := fun m hm hp => by
      refine hp.imp_of_mem (fun {r s} hr hs hle => ?_)
      have e1 := hrec r 0 (hm r hr) (by omega)
      have e2 := hrec s 0 (hm s hs) (by omega)
      rw [Nat.add_zero] at e1 e2
      rw [e1, e2]; exact hle
    by_cases e : k = i
    · subst e
      have hs := g.srt k hk
      rw [hC] at hs
      have hs' := List.pairwise_append.1 hs
      have hl1 : ∀ r ∈ pre, r < n := fun r hr => ((hmi r).1 (by simp [hr])).1
      have hl2 : ∀ r ∈ post, r < n := fun r hr => ((hmi r).1 (by simp [hr])).1
      simp only [if_true]
      refine List.pairwise_append.2 ⟨hold pre hl1 hs'.1, List.pairwise_cons.2 ⟨fun s hs2 => ?_, hold post hl2 hs'.2.1⟩, fun r hr s hs2 => ?_⟩
      · have e2 := hrec s 0 (hl2 s hs2) (by omega)
        rw [Nat.add_zero] at e2
        rw [hnew0, e2]; exact hpost s hs2
      · have e1 := hrec r 0 (hl1 r hr) (by omega)
        rw [Nat.add_zero] at e1
        rcases List.mem_cons.1 hs2 with rfl | hs2
        · rw [hnew0, e1]; exact hpre r hr
        · have e2 := hrec s 0 (hl2 s hs2) (by omega)
          rw [Nat.add_zero] at e2
          rw [e1, e2]; exact hs'.2.2 r hr s hs2
    · rw [if_neg e]; exact hold _ (fun r hr => g.lt hk hr) (g.srt k hk)
  · intro r hr s hs e1 e2
    by_cases er : r = n
    · subst er
      by_cases es : s = r
      · exact es.symm
      · have f1 := hrec s 0 (by omega) (by omega)
        have f2 := hrec s 1 (by omega) (by omega)
        rw [Nat.add_zero] at f1
        rw [hnew0, f1] at e1; rw [hnew1, f2] at e2
        exact absurd ⟨e1.symm, e2.symm⟩ (hno s (by omega))
    · have g1 := hrec r 0 (by omega) (by omega)
      have g2 := hrec r 1 (by omega) (by omega)
      rw [Nat.add_zero] at g1
      by_cases es : s = n
      · subst es
        rw [hnew0, g1] at e1; rw [hnew1, g2] at e2
        exact absurd ⟨e1, e2⟩ (hno r (by omega))
      · have f1 := hrec s 0 (by omega) (by omega)
        have f2 := hrec s 1 (by omega) (by omega)
        rw [Nat.add_zero] at f1
        rw [g1, f1] at e1; rw [g2, f2] at e2
        exact g.dif r (by omega) s (by omega) e1 e2
  · intro k hk
    rw [hpos _ (hfrh k (by omega)) (.inl ⟨_, rfl⟩)]
    exact g.zh k hk
  · intro r hr a ha
    have hne : ∀ c, c < 3 → recAt r + a ≠ recAt n + c := fun c hc e => by have := (recAt_inj e (by omega) hc).1; omega
    rw [hA _ (by have := recAt_ge r; omega), if_neg (fun e => ?_), if_neg (hne 2 (by omega)), if_neg (hne 1 (by omega)), if_neg (show ¬ (_ = recAt n) from hne 0 (by omega)), g.zr r (by omega) a ha]
    rcases hend with e' | ⟨s', hs', e'⟩
    · exact head_rec (e'.symm.trans e.symm) (by omega)
    · have h2 := (recAt_inj (e.trans e') (by omega) (by omega)).1
      have := ((hmi s').1 (by simp [hs'])).1; omega
end Go.Proofs.Ytdcomhdadnhpnaa
