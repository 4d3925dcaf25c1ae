import Derived.Test.YtdcomhdadnhpnaaYZM1
set_option linter.all false
namespace Go.Proofs.Ytdcomhdadnhpnaa
def atW (W:List Int) (n:Int):Nat:=(W.takeWhile (fun x=>decide (x<n))).length
/-- an increasing list with a number -/
def insW (W:List Int) (n:Int):List Int:=if W[atW W n]? =some n then W else W.take (atW W n)++n::W.drop (atW W n)
theorem atW_take:∀(W:List Int) (n:Int),∀x∈W.take (atW W n),x<n
 | [],n,x,h=>by simp at h
 |y::W,n,x,h=>by
  unfold atW at h
  rw[List.takeWhile_cons]at h
  split at h
  ·rename_i hy
   rw[List.length_cons,List.take_succ_cons]at h
   rcases List.mem_cons.1 h with rfl |h
   ·exact of_decide_eq_true hy
   ·exact atW_take W n x h
  ·simp at h
theorem atW_le (W:List Int) (n:Int):atW W n≤W.length:=(List.takeWhile_sublist _).length_le
theorem atW_at:∀ {W:List Int} {n:Int} (h:atW W n<W.length),¬W[atW W n]<n
 | [],n,h=>by simp at h
 |y::W,n,h=>by
  by_cases hy:y<n
  ·have e:atW (y::W) n=atW W n+1:=by unfold atW;rw[List.takeWhile_cons,if_pos (by simpa using hy)];rfl
   have h2:atW W n<W.length:=by rw[e,List.length_cons]at h;omega
   have:=atW_at h2
   simp only[e,List.getElem_cons_succ]
   exact this
  ·have e:atW (y::W) n=0:=by unfold atW;rw[List.takeWhile_cons,if_neg (by simpa using hy)];rfl
   simp only[e,List.getElem_cons_zero]
   exact hy
theorem atW_uni {W:List Int} {n:Int} {k:Nat} (hk:k≤W.length) (h1:∀x∈W.take k,x<n) (h2:∀h:k<W.length,¬W[k]<n):k=atW W n:=by
 have hl:=atW_le W n
 rcases Nat.lt_trichotomy k (atW W n)with h |h |h
 ·exact absurd (atW_take W n _ (List.mem_take_iff_getElem.2 ⟨k,by omega,rfl⟩)) (h2 (by omega))
 ·exact h
 ·exact absurd (h1 _ (List.mem_take_iff_getElem.2 ⟨atW W n,by omega,rfl⟩)) (atW_at (by omega))
theorem insW_mem {W:List Int} {n x:Int}:x∈insW W n↔x∈W∨x=n:=by
 unfold insW
 split
 ·rename_i h
  have:=List.mem_of_getElem? h
  constructor
  ·exact .inl
  ·rintro(h |rfl)
   ·exact h
   ·exact this
 ·rw[List.mem_append,List.mem_cons]
  conv=>rhs;rw[←List.take_append_drop (atW W n) W,List.mem_append]
  constructor
  ·rintro(h |h |h)
   ·exact .inl (.inl h)
   ·exact .inr h
   ·exact .inl (.inr h)
  ·rintro((h |h) |h)
   ·exact .inl h
   ·exact .inr (.inr h)
   ·exact .inr (.inl h)
theorem insW_len (W:List Int) (n:Int):(insW W n).length≤W.length+1:=by
 unfold insW
 split
 ·omega
 ·have:=atW_le W n
  rw[List.length_append,List.length_cons,List.length_take,List.length_drop];omega
theorem insW_asc {W:List Int} {n:Int} (h:W.Pairwise (· < ·)):(insW W n).Pairwise (· < ·):=by
 unfold insW
 split
 ·exact h
 ·rename_i hne
  have hsplit:=h
  rw[←List.take_append_drop (atW W n) W,List.pairwise_append]at hsplit
  obtain⟨h1,h2,h3⟩:=hsplit
  have hd:∀y∈W.drop (atW W n),n<y:=fun y hy=>by
   have hlt:atW W n<W.length:=Nat.lt_of_not_le fun hle=>by rw[List.drop_eq_nil_iff.2 hle]at hy;cases hy
   have e:=List.drop_eq_getElem_cons hlt
   have hge:=atW_at hlt
   have hne2:W[atW W n]≠n:=fun e2=>hne (by rw[List.getElem?_eq_getElem hlt,e2])
   rw[e]at hy h2
   rcases List.mem_cons.1 hy with rfl |hy
   ·omega
   ·have:=(List.pairwise_cons.1 h2).1 y hy
    omega
  refine List.pairwise_append.2 ⟨h1,List.pairwise_cons.2 ⟨hd,h2⟩,fun a ha b hb=>?_⟩
  have:=atW_take W n a ha
  rcases List.mem_cons.1 hb with rfl |hb
  ·exact this
  ·have:=hd b hb;omega
def wordsW (es:List (Int×Int)):List Int:=es.foldl (fun W e=>insW W e.2) []
theorem wordsW_asc (es:List (Int×Int)):(wordsW es).Pairwise (· < ·):=by
 unfold wordsW
 have:∀(es:List (Int×Int)) (W:List Int),W.Pairwise (· < ·)→(es.foldl (fun W e=>insW W e.2) W).Pairwise (· < ·):=by
  intro es
  induction es with
  |nil=>exact fun W h=>h
  |cons e es ih=>exact fun W h=>ih _ (insW_asc h)
 exact this es [] .nil
theorem wordsW_mem {es:List (Int×Int)} {x:Int}:x∈wordsW es↔∃e∈es,e.2=x:=by
 unfold wordsW
 have:∀(es:List (Int×Int)) (W:List Int),x∈es.foldl (fun W e=>insW W e.2) W↔x∈W∨∃e∈es,e.2=x:=by
  intro es
  induction es with
  |nil=>simp
  |cons e es ih=>
   intro W
   rw[List.foldl_cons,ih,insW_mem]
   simp only[List.mem_cons,exists_eq_or_imp]
   constructor
   ·rintro((h |h) |h)
    ·exact .inl h
    ·exact .inr (.inl h.symm)
    ·exact .inr (.inr h)
   ·rintro(h |h |h)
    ·exact .inl (.inl h)
    ·exact .inl (.inr h.symm)
    ·exact .inr h
 simpa using this es []
end Go.Proofs.Ytdcomhdadnhpnaa
