/- A map of the call's own: its entries as a list of keys and values. -/
import Derived.Test.YtdcomhdadnhpnaaT11
import Derived.MapKept
import Derived.Laws.Entries
namespace Go.Proofs.Ytdcomhdadnhpnaa
open Go.RowKit

structure KMap {κ β : Type} (ek : κ → Value) (ev : β → Value) (w : World) (B : Nat) (S : List (κ × β)) : Prop where
  row : ∃ es clock, w.heap[B]? = some (.map es clock) ∧ es.toList.map (fun e => (e.key, e.val)) = S.map (fun s => (ek s.1, ev s.2))

/-- what a map asks of its keys -/
structure KeyOk {κ : Type} (kt : TypeId) (ek : κ → Value) : Prop where
  inj : ∀ a b, ek a = ek b → a = b
  check : ∀ em a w, (Instr.checkKey em 10000 kt (ek a)).run Try.prog w = .ok () w
  find : ∀ a (es : List MapEntry) w, (∀ e ∈ es, ∃ b, e.key = ek b) →
    ((Instr.findKey kt (ek a) es).run Try.prog w = .ok none w ∧ ∀ e ∈ es, e.key ≠ ek a) ∨ ∃ j e, (Instr.findKey kt (ek a) es).run Try.prog w = .ok (some (j, e.val)) w ∧ es[j]? = some e ∧ e.key = ek a

def encE (x : Int × Int) : Value := .agg #[.int .i64 x.1, .int .i64 x.2]
theorem encE_inj (a b : Int × Int) (h : encE a = encE b) : a = b := by
  unfold encE at h
  simp at h
  exact Prod.ext h.1 h.2
theorem equal43 (a b : Int × Int) (w : World) : (Op.equal 43 (encE a) (encE b)).run Try.prog w = .ok (decide (a = b)) w := by
  have h := eqA43 (Op.maxDepth - 2) w a.1 b.1 a.2 b.2
  have hd : (a.1 == b.1 && a.2 == b.2) = decide (a = b) := by
    rw [Bool.eq_iff_iff]
    simp [Prod.ext_iff]
  rw [hd, show Op.maxDepth - 2 + 2 = Op.maxDepth from rfl] at h
  exact h
theorem find43 (a : Int × Int) (w : World) : ∀ (es : List MapEntry) (i : Nat), (∀ e ∈ es, ∃ b, e.key = encE b) →
    ((Instr.findAsking 43 (encE a) es i).run Try.prog w = .ok none w ∧ ∀ e ∈ es, e.key ≠ encE a) ∨ ∃ j e, (Instr.findAsking 43 (encE a) es i).run Try.prog w = .ok (some (i + j, e.val)) w ∧ es[j]? = some e ∧ e.key = encE a
  | [], i, _ => Or.inl ⟨by simp [Instr.findAsking], by simp⟩
  | e :: es, i, hall => by
    obtain ⟨b, hb⟩ := hall e (by simp)
    have hr := equal43 a b w
    rw [← hb] at hr
    by_cases hab : a = b
    · rw [decide_eq_true hab] at hr
      right
      exact ⟨0, e, by simp [Instr.findAsking, hr], rfl, by rw [hb, hab]⟩
    · rw [decide_eq_false hab] at hr
      rcases find43 a w es (i + 1) (fun y hy => hall y (by simp [hy])) with ⟨h1, h2⟩ | ⟨j, e', h1, h2, h3⟩
      · left
        refine ⟨by simp [Instr.findAsking, hr, h1], fun y hy => ?_⟩
        rcases List.mem_cons.1 hy with rfl | hy
        · rw [hb]; exact fun h => hab (encE_inj _ _ h).symm
        · exact h2 y hy
      · right
        exact ⟨j + 1, e', by simp [Instr.findAsking, hr, h1, Nat.add_assoc, Nat.add_comm 1 j], by simpa using h2, h3⟩
theorem keyOk43 : KeyOk 43 encE where
  inj := encE_inj
  check em a w := by unfold encE; kernel_rfl
  find a es w h := by
    cases es with
    | nil => left; exact ⟨by kernel_rfl, by simp⟩
    | cons e es =>
      have hk : (Instr.findKey 43 (encE a) (e :: es)).run Try.prog w = (Instr.findAsking 43 (encE a) (e :: es) 0).run Try.prog w := by kernel_rfl
      rw [hk]
      simpa using find43 a w (e :: es) 0 h

theorem findNow3 (a : Int) : ∀ (es : List MapEntry) (i : Nat), (∀ e ∈ es, ∃ b, e.key = .int .i64 b) →
    (Instr.findNow (.int .i64) (.int .i64 a) es i = some none ∧ ∀ e ∈ es, e.key ≠ .int .i64 a) ∨ ∃ j e, Instr.findNow (.int .i64) (.int .i64 a) es i = some (some (i + j, e.val)) ∧ es[j]? = some e ∧ e.key = .int .i64 a
  | [], i, _ => Or.inl ⟨rfl, by simp⟩
  | e :: es, i, hall => by
    obtain ⟨b, hb⟩ := hall e (by simp)
    by_cases hab : a = b
    · right
      exact ⟨0, e, by simp [Instr.findNow, Instr.sameNow, hb, hab], rfl, by rw [hb, hab]⟩
    · have hf : (a == b) = false := by simpa using hab
      rcases findNow3 a es (i + 1) (fun y hy => hall y (by simp [hy])) with ⟨h1, h2⟩ | ⟨j, e', h1, h2, h3⟩
      · left
        refine ⟨by simp [Instr.findNow, Instr.sameNow, hb, hf, h1], fun y hy => ?_⟩
        rcases List.mem_cons.1 hy with rfl | hy
        · rw [hb]; simp only [ne_eq, Value.int.injEq, true_and]; exact fun h => hab h.symm
        · exact h2 y hy
      · right
        exact ⟨j + 1, e', by simp [Instr.findNow, Instr.sameNow, hb, hf, h1, Nat.add_assoc, Nat.add_comm 1 j], by simpa using h2, h3⟩
theorem keyOk3 : KeyOk 3 (Value.int .i64) where
  inj a b h := by simpa using h
  check em a w := by kernel_rfl
  find a es w h := by
    have hu : ∀ r, Instr.findNow (.int .i64) (.int .i64 a) es 0 = some r → (Instr.findKey 3 (.int .i64 a) es).run Try.prog w = .ok r w := fun r hr => by
      simp [Instr.findKey, run_underlying Try.underlying3, hr]
    rcases findNow3 a es 0 h with ⟨h1, h2⟩ | ⟨j, e, h1, h2, h3⟩
    · exact .inl ⟨hu _ h1, h2⟩
    · exact .inr ⟨j, e, by simpa using hu _ h1, h2, h3⟩

section
variable {κ β : Type} {ek : κ → Value} {ev : β → Value} {w : World} {B : Nat} {S : List (κ × β)} {kt et t : TypeId}
theorem KMap.made (w : World) : KMap ek ev (w.alloc (.map #[] 0)) w.heap.size [] := ⟨⟨#[], 0, World.alloc_heap_new w _, rfl⟩⟩
theorem KMap.lt (h : KMap ek ev w B S) : B < w.heap.size := by obtain ⟨_, _, h, _⟩ := h.row; exact lt_heap h
theorem KMap.block {w' : World} (h : KMap ek ev w B S) (hb : w'.heap[B]? = w.heap[B]?) : KMap ek ev w' B S := by obtain ⟨es, c, h1, h2⟩ := h.row; exact ⟨es, c, hb.trans h1, h2⟩
theorem KMap.below {w' : World} (h : KMap ek ev w B S) (hb : Below w.heap.size w w') : KMap ek ev w' B S := h.block (hb.block _ h.lt)
/-- m[k] -/
theorem KMap.look (h : KMap ek ev w B S) (K : KeyOk kt ek) (ht : Try.prog.underlying t = some (.map kt et)) (a : κ) {z : Value} (hz : (zeroValue et).run Try.prog w = .ok z w) (c : Bool) :
    (∃ b, (a, b) ∈ S ∧ (Instr.lookup t (.map (some B)) (ek a) c).run Try.prog w = .ok (if c then .tuple #[ev b, .bool true] else ev b) w) ∨
    ((∀ s ∈ S, s.1 ≠ a) ∧ (Instr.lookup t (.map (some B)) (ek a) c).run Try.prog w = .ok (if c then .tuple #[z, .bool false] else z) w) := by
  obtain ⟨es, clock, hb, hS⟩ := h.row
  have hall : ∀ e ∈ es.toList, ∃ s, s ∈ S ∧ e.key = ek s.1 ∧ e.val = ev s.2 := fun e he => by
    have : (e.key, e.val) ∈ S.map (fun s => (ek s.1, ev s.2)) := by rw [← hS]; exact List.mem_map.2 ⟨e, he, rfl⟩
    obtain ⟨s, hs, hq⟩ := List.mem_map.1 this
    exact ⟨s, hs, (congrArg Prod.fst hq).symm, (congrArg Prod.snd hq).symm⟩
  rcases K.find a es.toList w (fun e he => by obtain ⟨s, _, h, _⟩ := hall e he; exact ⟨_, h⟩) with ⟨h1, h2⟩ | ⟨j, e0, h1, h2, h3⟩
  · right
    refine ⟨fun s hs he => ?_, by cases c <;> simp [Instr.lookup, run_underlying ht, MapKept.run_getObj_map hb, K.check, h1, hz, Result.andThen]⟩
    have : (ek s.1, ev s.2) ∈ es.toList.map (fun e => (e.key, e.val)) := by rw [hS]; exact List.mem_map.2 ⟨s, hs, rfl⟩
    obtain ⟨e, hm, hq⟩ := List.mem_map.1 this
    exact h2 e hm ((congrArg Prod.fst hq).trans (by rw [he]))
  · left
    obtain ⟨s, hs, hk, hv⟩ := hall e0 (List.mem_of_getElem? h2)
    have : s.1 = a := K.inj _ _ (hk.symm.trans h3)
    refine ⟨s.2, by rw [← this]; exact hs, ?_⟩
    rw [← hv]
    cases c <;> simp [Instr.lookup, run_underlying ht, MapKept.run_getObj_map hb, K.check, h1, Result.andThen]
/-- m[k] = v, at a new key -/
theorem KMap.store (h : KMap ek ev w B S) (K : KeyOk kt ek) (ht : Try.prog.underlying t = some (.map kt et)) (a : κ) (b : β) (hn : ∀ s ∈ S, s.1 ≠ a) :
    ∃ w', (Instr.mapUpdate t (.map (some B)) (ek a) (ev b)).run Try.prog w = .ok () w' ∧ KMap ek ev w' B (S ++ [(a, b)]) ∧ (∀ n, n ≤ B → Below n w w') ∧ (∀ k, k ≠ B → w'.heap[k]? = w.heap[k]?) ∧ w'.heap.size = w.heap.size := by
  obtain ⟨es, clock, hb, hS⟩ := h.row
  have hall : ∀ e ∈ es.toList, ∃ s, s ∈ S ∧ e.key = ek s.1 ∧ e.val = ev s.2 := fun e he => by
    have : (e.key, e.val) ∈ S.map (fun s => (ek s.1, ev s.2)) := by rw [← hS]; exact List.mem_map.2 ⟨e, he, rfl⟩
    obtain ⟨s, hs, hq⟩ := List.mem_map.1 this
    exact ⟨s, hs, (congrArg Prod.fst hq).symm, (congrArg Prod.snd hq).symm⟩
  have hB := h.lt
  have hne : ∀ k, k ≠ B → (w.heap.setIfInBounds B (.map (es.push ⟨ek a, ev b, clock⟩) (clock + 1)))[k]? = w.heap[k]? := fun k hk => by
    rw [Array.getElem?_setIfInBounds_ne (Ne.symm hk)]
  rcases K.find a es.toList w (fun e he => by obtain ⟨s, _, h, _⟩ := hall e he; exact ⟨_, h⟩) with ⟨h1, h2⟩ | ⟨j, e0, h1, h2, h3⟩
  · refine ⟨{ w with heap := w.heap.setIfInBounds B (.map (es.push ⟨ek a, ev b, clock⟩) (clock + 1)) }, ?_, ⟨es.push ⟨ek a, ev b, clock⟩, clock + 1, ?_, ?_⟩, ?_, hne, by simp⟩
    · simp [Instr.mapUpdate, run_underlying ht, MapKept.run_getObj_map hb, K.check, h1, MapKept.run_setObj_map _ hb, Result.andThen]
    · simp [hB]
    · simp [hS]
    · exact fun n hn' => ⟨rfl, rfl, rfl, by simp, fun k hk => hne k (by omega)⟩
  · obtain ⟨s, hs, hk, hv⟩ := hall e0 (List.mem_of_getElem? h2)
    exact absurd (K.inj _ _ (hk.symm.trans h3)) (hn s hs)
end
end Go.Proofs.Ytdcomhdadnhpnaa
