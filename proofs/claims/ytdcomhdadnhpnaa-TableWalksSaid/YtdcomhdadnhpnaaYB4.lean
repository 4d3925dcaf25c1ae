import Derived.Test.YtdcomhdadnhpnaaYT1
import Derived.Test.YtdcomhdadnhpnaaYA3
set_option linter.all false
namespace Go.Proofs.Ytdcomhdadnhpnaa
open Go Go.Am Go.RowKit
section
variable {ρ:Inj} {H H':AHp} {w w':World}
theorem elsA_map (l:List Int) (rs:List Nat):(elsA (rs.map (elm l))).length=rs.length*2∧∀ {ρ:Inj} {O:Nat→Prop} {w:World} (i:Nat) (a:AV) (x:Value),(elsA (rs.map (elm l)))[i]? =some a→(cellsE l rs)[i]? =some x→Rep ρ O w a x:=by
 refine⟨by rw[elsA_len,List.length_map],?_⟩
 intro ρ O w
 induction rs with
 |nil=>intro i a x h;simp[elsA]at h
 |cons r rs ih=>
  intro i a x ha hx
  rw[List.map_cons,elsA_cons]at ha
  simp only[cellsE,List.flatMap_cons,List.cons_append,List.nil_append]at hx
  match i with
  |0=>simp at ha hx;subst ha;subst hx;exact .sc _
  |1=>simp at ha hx;subst ha;subst hx;exact .sc _
  |i+2=>exact ih i a x (by simpa using ha) (by simpa[cellsE]using hx)
theorem rep_own2 {O:Nat→Prop} {base:Nat} {v:Value} {l:List Int} {rs:List Nat} (h:w.ownsRow base 43 2 v rs.length (cellsE l rs)) (hno:∀b,O b→b<base):Rep ρ O w (.dsl rs.length (elsA (rs.map (elm l)))) v:=by
 have hcs:=fun g hg=>h.cells (g:=g) hg
 rcases h.2 with⟨rfl,h0⟩ |⟨g,c,cur,rfl,hb,hg,hle,_⟩
 ·obtain rfl:rs=[]:=List.length_eq_zero_iff.1 h0
  exact .dnil (Nat.le_refl _)
 ·refine .dsl hle (fun h=>by have:=hno g h;omega) (lt_heap hg) (by rw[(elsA_map l rs).1,cellsE_len]) (fun i x hx=>?_) (elsA_map l rs).2
  have:=hcs g rfl i x hx
  rwa[addr_add]at this
end
open Classical in
noncomputable def c28:List AV→AP AV
 | [a]=>rdK a fun l=>if ValidL l then .ret (.tup [.dsl (ordF l).length (elsA (ordF l)),.sc (.int .i64 0)])else .ret (.tup [.dsl 0 [],.sc (.int .i64 600)])
 |_=>.fail
theorem a28 (args:List AV):ACall Try.prog 28 args (c28 args):=by
 intro ρ H w vs hR hA s r H' s' hm
 unfold c28 at hm
 split at hm
 ·obtain⟨v0,rfl,hv0⟩:=reps1 hA
  obtain⟨l,A,c,rfl,hr,_,hm⟩:=rdK_ok hR hv0 hm
  refine(elemsX_any A c l w hr).mono ?_
  rintro e w' ⟨(⟨h1,rfl⟩ |⟨h1,n,C,v,hH,g,rfl,ho⟩),hb⟩
  ·rw[if_neg h1]at hm
   simp only[AP.run,Option.some.injEq,Prod.mk.injEq]at hm
   obtain⟨rfl,rfl,rfl⟩:=hm
   exact⟨_,ρ,rfl,step_of_below hR hb,Rep.tup_iff.2 ⟨_,rfl,.cons (.dnil (Nat.le_refl _)) (.cons (.sc _) .nil)⟩⟩
  ·rw[if_pos h1]at hm
   simp only[AP.run,Option.some.injEq,Prod.mk.injEq]at hm
   obtain⟨rfl,rfl,rfl⟩:=hm
   refine⟨_,ρ,rfl,step_of_below hR hb,Rep.tup_iff.2 ⟨_,rfl,.cons ?_ (.cons (.sc _) .nil)⟩⟩
   have e:ordF l=(recsL C (bkts n)).map (elm l):=by
    have:∀k,k≤bkts n→recsL (tabC l) k=recsL C k:=fun k=>by
     induction k with
     |zero=>intro _;rfl
     |succ k ih=>intro hk;rw[recsL,recsL,ih (by omega),tab_c hH g (by omega)]
    unfold ordF
    rw[tab_n hH,this _ (Nat.le_refl _)]
   rw[e]
   have:=rep_own2 (ρ:=ρ) (O:=own ρ H) ho (fun b hb=>hR.own_lt hb)
   rwa[show(recsL C (bkts n)).length=((recsL C (bkts n)).map (elm l)).length from by rw[List.length_map]]at this
 ·simp[AP.run]at hm
end Go.Proofs.Ytdcomhdadnhpnaa
