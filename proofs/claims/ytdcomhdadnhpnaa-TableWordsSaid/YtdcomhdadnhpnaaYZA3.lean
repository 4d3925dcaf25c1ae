import Derived.Test.YtdcomhdadnhpnaaYZK
import Derived.Test.YtdcomhdadnhpnaaYZA1
set_option linter.all false
section
namespace Go.Proofs.Ytdcomhdadnhpnaa
open Go Go.Am Go.RowKit
attribute [local irreducible] wA opsQ opsLQ thenA blockA EndA
abbrev elA (e:Int×Int):List AV:=[.sc (.int .i64 e.1),.sc (.int .i64 e.2)]
abbrev elG (e:Int×Int):AV:=.agg [.sc (.int .i64 e.1),.sc (.int .i64 e.2)]
def elsA (L:List (Int×Int)):List AV:=L.flatMap elA
theorem elsA_cons (e:Int×Int) (L:List (Int×Int)):elsA (e::L)= .sc (.int .i64 e.1):: .sc (.int .i64 e.2)::elsA L:=rfl
theorem elsA_append (L M:List (Int×Int)):elsA (L++M)=elsA L++elsA M:=by simp[elsA]
theorem elsA_len (L:List (Int×Int)):(elsA L).length=L.length*2:=by
 induction L with
 |nil=>rfl
 |cons e L ih=>rw[elsA_cons];simp only[List.length_cons,ih];omega
theorem elsA_drop:∀ {L:List (Int×Int)} {k:Nat} (h:k<L.length),(elsA L).drop (k*2)= .sc (.int .i64 L[k].1):: .sc (.int .i64 L[k].2)::elsA (L.drop (k+1))
 |e::L,0,h=>by simp[elsA_cons]
 |e::L,k+1,h=>by
  have:=elsA_drop (L:=L) (k:=k) (by simpa using h)
  rw[elsA_cons,show(k+1)*2=k*2+1+1 by omega,List.drop_succ_cons,List.drop_succ_cons,this]
  rfl
theorem elsA_take (L:List (Int×Int)):(elsA L).take (L.length*2)=elsA L:=List.take_of_length_le (by rw[elsA_len];omega)
theorem elsA_one (L:List (Int×Int)):(elsA L).all AV.one=true:=by
 induction L with
 |nil=>rfl
 |cons e L ih=>rw[elsA_cons];simp only[List.all_cons,AV.one,Value.oneCell',Bool.true_and];exact ih
def OwnE (E:Ent) (s0 esz:Nat) (v:AV) (H:AHp) (s':Nat) (cs:List AV) (len:Nat):Prop:=
 s0≤s'∧(∀q,s'≤q→H q=none)∧(∀q,q<s0→H q=E.H q)∧((len=0∧cs=[]∧v= .sc (.slice none 0 0))∨∃nm ver,0<len∧v= .sl nm ver 0 len∧H nm=some (.row ver esz cs)∧nm<s'∧s0≤nm)
theorem OwnE.start {E:Ent} {s esz:Nat} (hs:∀n,s≤n→E.H n=none):OwnE E s esz (.sc (.slice none 0 0)) E.H s [] 0:=⟨Nat.le_refl _,hs,fun _ _=>rfl,.inl ⟨rfl,rfl,rfl⟩⟩
theorem OwnE.keep {E:Ent} {s0 esz s' len:Nat} {v:AV} {H:AHp} {cs:List AV} (h:OwnE E s0 esz v H s' cs len) (hs:∀n,s0≤n→E.H n=none):∀n,E.H n≠none→H n=E.H n:=fun n hn=>h.2.2.1 n (Nat.lt_of_not_le fun e=>hn (hs n e))
def elsOf:List AV→Option (List (Int×Int))
 | []=>some []
 | .sc (.int .i64 x):: .sc (.int .i64 y)::t=>(elsOf t).map ((x,y):: ·)
 |_=>none
theorem elsOf_elsA:∀(L:List (Int×Int)),elsOf (elsA L)=some L
 | []=>rfl
 |e::L=>by rw[elsA_cons,elsOf,elsOf_elsA L];rfl
theorem elsOf_some:∀ {cs:List AV} {L:List (Int×Int)},elsOf cs=some L→cs=elsA L
 | [],L,h=>by cases h;rfl
 | [a],L,h=>by unfold elsOf at h;split at h<;>simp_all
 |a::b::t,L,h=>by
  unfold elsOf at h
  split at h
  ·rename_i e;cases e
  ·rename_i x y t' e
   cases e
   cases hk:elsOf t with
   |none=>rw[hk]at h;cases h
   |some m=>rw[hk]at h;cases h;rw[elsOf_some hk];rfl
  ·cases h
theorem elsA_sc:∀ {L:List (Int×Int)} {a:AV},a∈elsA L→∃v,a= .sc v
 | [],a,h=>by simp[elsA]at h
 |e::L,a,h=>by
  rw[elsA_cons]at h
  rcases List.mem_cons.1 h with rfl |h
  ·exact⟨_,rfl⟩
  ·rcases List.mem_cons.1 h with rfl |h
   ·exact⟨_,rfl⟩
   ·exact elsA_sc h
theorem elsA_set1 {L:List (Int×Int)} {k:Nat} (y:Int) (h:k<L.length):(elsA L).set (k*2+1) (.sc (.int .i64 y))=elsA (L.set k (L[k].1,y)):=by
 induction L generalizing k with
 |nil=>simp at h
 |cons e L ih=>
  cases k with
  |zero=>simp[elsA_cons]
  |succ k=>
   rw[List.set_cons_succ,elsA_cons,elsA_cons,show(k+1)*2+1=(k*2+1)+1+1 by omega,List.set_cons_succ,List.set_cons_succ,ih (k:=k) (by simpa using h)]
   simp
end Go.Proofs.Ytdcomhdadnhpnaa
end
section
namespace Go.Proofs.Ytdcomhdadnhpnaa
open Go Go.Am Go.RowKit
attribute [local irreducible] wA opsQ opsLQ thenA blockA EndA
attribute [local go_sem] sz66 ze66 by66 ag66 fo66_0 fo66_1 bu66 Try.underlying66
theorem arg2 {ρ:Inj} {O:Nat→Prop} {w:World} {a b:AV} {vs:List Value} (h:Reps ρ O w [a,b] vs):∃x y,vs=[x,y]∧Rep ρ O w a x∧Rep ρ O w b y:=by
 obtain⟨x,t,rfl,h1,h2⟩:=Reps.uncons h
 obtain⟨y,u,rfl,h3,h4⟩:=Reps.uncons h2
 have:u=[]:=by simpa using h4.len
 exact⟨x,y,by rw[this],h1,h3⟩
theorem Pub.agg2 {H:AHp} {K:Nat→Prop} {N:Nat→Option (Nat×Nat)} {a a' b b':AV} (h:Pub H K N a a') (k:Pub H K N b b'):Pub H K N (.agg [a,b]) (.agg [a',b']):=by
 refine .agg rfl (fun i x y hx hy=>?_)
 match i with
 |0=>simp at hx hy;subst hx;subst hy;exact h
 |1=>simp at hx hy;subst hx;subst hy;exact k
 |i+2=>simp at hx
end Go.Proofs.Ytdcomhdadnhpnaa
end
