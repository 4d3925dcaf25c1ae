import Derived.Test.YtdcomhdadnhpnaaXB17
set_option linter.all false
namespace Go.Proofs.Ytdcomhdadnhpnaa
open Go Go.Am Go.RowKit
attribute [local irreducible] wA opsQ opsLQ thenA blockA EndA
theorem min33 (ts : Array TypeId) (ty : TypeId) (x y : Int) : aGL Try.prog (fun vs => Builtin.min_ ts ty vs) [.sc (.int .i64 x), .sc (.int .i64 y)] = .ret (.sc (.int .i64 (min x y))) := by
  have h : (if y < x then y else x) = min x y := by split <;> omega
  simp [aGL, Builtin.min_, AV.val?, valL?, List.foldlM, Builtin.min2, AP.ofOption, pureRun_pure, h]
def rdN (a : AV) (k : List Nat → AP AV) : AP AV := rdK a fun l => match toN l with
  | some c => k c
  | none => .fail
theorem rdN_dsl (c : List Nat) (k : List Nat → AP AV) : rdN (.dsl c.length (natsA c)) k = k c := by
  have : (c.map fun r : Nat => (r : Int)).length = c.length := by simp
  unfold rdN
  rw [← this, rdK_dsl, toN_cast]
theorem rdN_data {ρ : Inj} {H H' : AHp} {w : World} {a r : AV} {v : Value} {k : List Nat → AP AV} {s s' : Nat} (h : Rel ρ H w) (hr : Rep ρ (own ρ H) w a v) (hm : (rdN a k).run H s = some (r, H', s')) :
    ∃ c, Rep ρ0 (own ρ0 H0) w (.dsl c.length (natsA c)) v ∧ (k c).run H s = some (r, H', s') := by
  obtain ⟨l, h1, h2⟩ := rdK_data h hr hm
  split at h2
  · rename_i c hc
    have := toN_some hc
    rw [this] at h1
    refine ⟨c, ?_, h2⟩
    rw [show (c.map fun r : Nat => (r : Int)).length = c.length by simp] at h1
    exact h1
  · simp [AP.run] at h2
open Classical in
noncomputable def c79 : List AV → AP AV
  | [x, .agg [.sc (.int .i64 a), .sc (.int .i64 b)]] => rdT x fun recs chs => if WOK recs chs ∧ 0 ≤ a ∧ a ≤ 4294967296 then .ret (.sc (.int .i64 (ofF recs chs (a, b)))) else .fail
  | _ => .fail
open Classical in
noncomputable def c80 : List AV → AP AV
  | [x, y, .sc (.int .i64 h)] => rdT x fun recs chs => rdN y fun c => if recs.length ≤ 100000 ∧ (∀ r ∈ c, r < recs.length) ∧ c.length ≤ 100000 then .ret (.sc (.int .i64 (ahF recs c h : Nat))) else .fail
  | _ => .fail
def c81 : List AV → AP AV
  | [y, .sc (.int .i64 p), .sc (.int .i64 n)] => rdN y fun c => if 0 ≤ p ∧ p.toNat ≤ c.length ∧ c.length ≤ 100000 ∧ 0 ≤ n ∧ n ≤ 100000 then .ret (.dsl (insN c p.toNat n.toNat).length (natsA (insN c p.toNat n.toNat))) else .fail
  | _ => .fail
open Classical in
noncomputable def c83 : List AV → AP AV
  | [y, .sc (.int .i64 n)] => rdN y fun c => if 0 ≤ n ∧ n.toNat ∈ c ∧ c.length ≤ 100000 then .ret (.sc (.int .i64 (c.idxOf n.toNat : Nat))) else .fail
  | _ => .fail
theorem a79 (args : List AV) : ACall Try.prog 79 args (c79 args) := by
  intro ρ H w vs hR hA s r H' s' hm
  unfold c79 at hm
  split at hm
  · rename_i x a b
    obtain ⟨v0, v1, rfl, hv0, hv1⟩ := reps2 hA
    obtain ⟨recs, chs, hr, hm⟩ := rdT_data hR hv0 hm
    split at hm
    · rename_i hw
      obtain ⟨hw, h0, h1⟩ := hw
      simp only [AP.run, Option.some.injEq, Prod.mk.injEq] at hm
      obtain ⟨rfl, rfl, rfl⟩ := hm
      have hv1' : Rep ρ0 (own ρ0 H0) w (elG (a, b)) v1 := by
        obtain ⟨us, rfl, hu⟩ := Rep.agg_iff.1 hv1
        obtain ⟨p, q, e, k1, k2⟩ := arg2 hu
        obtain rfl := Rep.sc_iff.1 k1
        obtain rfl := Rep.sc_iff.1 k2
        exact Rep.agg_iff.2 ⟨us, rfl, by rw [e]; exact .cons (.sc _) (.cons (.sc _) .nil)⟩
      exact (of_call recs chs (a, b) hw ⟨h0, h1⟩).acall hR (.cons hr (.cons hv1' .nil))
    · simp [AP.run] at hm
  · simp [AP.run] at hm
theorem a80 (args : List AV) : ACall Try.prog 80 args (c80 args) := by
  intro ρ H w vs hR hA s r H' s' hm
  unfold c80 at hm
  split at hm
  · rename_i x y h
    obtain ⟨v0, v1, v2, rfl, hv0, hv1, hv2⟩ : ∃ x y z, vs = [x, y, z] ∧ Rep ρ (own ρ H) w _ x ∧ Rep ρ (own ρ H) w _ y ∧ Rep ρ (own ρ H) w _ z := by
      obtain ⟨x, t, rfl, h1, h2⟩ := Reps.uncons hA
      obtain ⟨y, z, rfl, h3, h4⟩ := reps2 h2
      exact ⟨x, y, z, rfl, h1, h3, h4⟩
    obtain ⟨recs, chs, hr, hm⟩ := rdT_data hR hv0 hm
    obtain ⟨c, hr2, hm⟩ := rdN_data hR hv1 hm
    split at hm
    · rename_i hw
      obtain ⟨h1, h2, h3⟩ := hw
      simp only [AP.run, Option.some.injEq, Prod.mk.injEq] at hm
      obtain ⟨rfl, rfl, rfl⟩ := hm
      obtain rfl := Rep.sc_iff.1 hv2
      exact (ahead_call recs chs c h h1 h2 h3).acall hR (.cons hr (.cons hr2 (.cons (.sc _) .nil)))
    · simp [AP.run] at hm
  · simp [AP.run] at hm
theorem a81 (args : List AV) : ACall Try.prog 81 args (c81 args) := by
  intro ρ H w vs hR hA s r H' s' hm
  unfold c81 at hm
  split at hm
  · rename_i y p n
    obtain ⟨v0, v1, v2, rfl, hv0, hv1, hv2⟩ : ∃ x y z, vs = [x, y, z] ∧ Rep ρ (own ρ H) w _ x ∧ Rep ρ (own ρ H) w _ y ∧ Rep ρ (own ρ H) w _ z := by
      obtain ⟨x, t, rfl, h1, h2⟩ := Reps.uncons hA
      obtain ⟨y, z, rfl, h3, h4⟩ := reps2 h2
      exact ⟨x, y, z, rfl, h1, h3, h4⟩
    obtain ⟨c, hr, hm⟩ := rdN_data hR hv0 hm
    split at hm
    · rename_i hw
      obtain ⟨h1, h2, h3, h4, h5⟩ := hw
      simp only [AP.run, Option.some.injEq, Prod.mk.injEq] at hm
      obtain ⟨rfl, rfl, rfl⟩ := hm
      obtain rfl := Rep.sc_iff.1 hv1
      obtain rfl := Rep.sc_iff.1 hv2
      have := insert_call c p.toNat n.toNat h2 h3 (by omega)
      rw [show ((p.toNat : Nat) : Int) = p by omega, show ((n.toNat : Nat) : Int) = n by omega] at this
      exact this.acall hR (.cons hr (.cons (.sc _) (.cons (.sc _) .nil)))
    · simp [AP.run] at hm
  · simp [AP.run] at hm
theorem a83 (args : List AV) : ACall Try.prog 83 args (c83 args) := by
  intro ρ H w vs hR hA s r H' s' hm
  unfold c83 at hm
  split at hm
  · rename_i y n
    obtain ⟨v0, v1, rfl, hv0, hv1⟩ := reps2 hA
    obtain ⟨c, hr, hm⟩ := rdN_data hR hv0 hm
    split at hm
    · rename_i hw
      obtain ⟨h1, h2, h3⟩ := hw
      simp only [AP.run, Option.some.injEq, Prod.mk.injEq] at hm
      obtain ⟨rfl, rfl, rfl⟩ := hm
      obtain rfl := Rep.sc_iff.1 hv1
      have := rindex_call c n.toNat h3 h2
      rw [show ((n.toNat : Nat) : Int) = n by omega] at this
      exact this.acall hR (.cons hr (.cons (.sc _) .nil))
    · simp [AP.run] at hm
  · simp [AP.run] at hm
def newN (L : List Nat) (k : AV → AP AV) : AP AV := if L.length = 0 then k (.sc (.slice none 0 0)) else .new (.row 0 1 (natsA L)) fun n => k (.sl n 0 0 L.length)
def c84 : List AV → AP AV
  | [.dsl len cells, .sc (.int .i64 n)] => rdN (.dsl len cells) fun c => if 0 ≤ n ∧ c.length ≤ 100000 ∧ len = c.length ∧ cells.length = c.length then newN (wiN c n.toNat) .ret else .fail
  | _ => .fail
theorem rdN_some {len s : Nat} {cells : List AV} {k : List Nat → AP AV} {H : AHp} {x : AV × AHp × Nat} (h : (rdN (.dsl len cells) k).run H s = some x) : ∃ c, len = c.length ∧ cells = natsA c ∧ (k c).run H s = some x := by
  unfold rdN rdK at h
  simp only at h
  split at h
  · rename_i l hl
    split at h
    · rename_i e
      split at h
      · rename_i c hc
        have h2 := toN_some hc
        refine ⟨c, ?_, ?_, h⟩
        · rw [← e, h2]; simp
        · rw [intsOf_some hl, h2]
      · simp [AP.run] at h
    · simp [AP.run] at h
  · simp [AP.run] at h
theorem natsA_sc {c : List Nat} : ∀ a ∈ natsA c, ∃ v, a = AV.sc v := fun a ha => by
  obtain ⟨x, _, rfl⟩ := List.mem_map.1 ha
  exact ⟨_, rfl⟩
theorem a84 (args : List AV) : ACall Try.prog 84 args (c84 args) := by
  intro ρ H w vs hR hA s r H' s' hm
  unfold c84 at hm
  split at hm
  · rename_i len cells n
    obtain ⟨c, rfl, rfl, hm⟩ := rdN_some hm
    split at hm
    · rename_i hw
      obtain ⟨h1, h2, _, _⟩ := hw
      unfold newN at hm
      have hn : ((n.toNat : Nat) : Int) = n := by omega
      split at hm
      · rename_i h0
        refine acall_pure' (args := [.dsl c.length (natsA c), .sc (.int .i64 n)]) (r := .sc (.slice none 0 0)) hmix noCT_ok Try.func84 rfl (by kernel_rfl) (fun E s hs => ?_) ρ H w _ hR hA s r H' s' hm
        rw [← hn]
        refine rwithout_walk c n.toNat h2 E s hs _ (fun v H1 s1 hO => ⟨hO.keep hs, ?_⟩)
        obtain ⟨_, _, _, ⟨_, _, rfl⟩ | ⟨nm, ver, k0, _⟩⟩ := hO
        · exact Pub.sc _
        · omega
      · rename_i h0
        refine acall_row (args := [.dsl c.length (natsA c), .sc (.int .i64 n)]) (esz := 1) (len := (wiN c n.toNat).length) (cs := natsA (wiN c n.toNat)) natsA_sc hmix noCT_ok Try.func84 rfl (by kernel_rfl) (fun E s hs => ?_) ρ H w _ hR hA s r H' s' hm
        rw [← hn]
        refine rwithout_walk c n.toNat h2 E s hs _ (fun v H1 s1 hO => ⟨hO.keep hs, ?_⟩)
        obtain ⟨_, _, _, ⟨k0, _, rfl⟩ | ⟨nm, ver, k0, rfl, k1, k2, k3⟩⟩ := hO
        · exact absurd k0 h0
        · exact ⟨nm, ver, rfl, k1, k3⟩
    · simp [AP.run] at hm
  · simp [AP.run] at hm
noncomputable def ctR : CT := fun f args => if f = 78 then c78o args else if f = 79 then c79 args else if f = 80 then c80 args else if f = 81 then c81 args else if f = 82 then c82 args else if f = 83 then c83 args else if f = 84 then c84 args else ctQ f args
theorem ctR_ok : CTok Try.prog ctR := fun f args => by
  unfold ctR
  split
  · rename_i e; subst e; exact a78o args
  split
  · rename_i e; subst e; exact a79 args
  split
  · rename_i e; subst e; exact a80 args
  split
  · rename_i e; subst e; exact a81 args
  split
  · rename_i e; subst e; exact a82 args
  split
  · rename_i e; subst e; exact a83 args
  split
  · rename_i e; subst e; exact a84 args
  · exact ctQ_ok f args
theorem ctR_18 (a : List AV) : ctR 18 a = c18r a := rfl
theorem ctR_21 (a : List AV) : ctR 21 a = c21 a := rfl
theorem ctR_22 (a : List AV) : ctR 22 a = c22r a := rfl
theorem cal78 : callable Try.prog 78 = true := by kernel_rfl
theorem cal79 : callable Try.prog 79 = true := by kernel_rfl
theorem cal80 : callable Try.prog 80 = true := by kernel_rfl
theorem cal81 : callable Try.prog 81 = true := by kernel_rfl
theorem cal82 : callable Try.prog 82 = true := by kernel_rfl
theorem cal83 : callable Try.prog 83 = true := by kernel_rfl
theorem cal84 : callable Try.prog 84 = true := by kernel_rfl
end Go.Proofs.Ytdcomhdadnhpnaa
