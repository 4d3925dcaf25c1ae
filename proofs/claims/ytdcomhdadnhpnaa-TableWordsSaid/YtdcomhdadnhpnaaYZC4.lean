import Derived.Test.YtdcomhdadnhpnaaYZAB
import Derived.Test.YtdcomhdadnhpnaaYZMB
import Derived.Test.YtdcomhdadnhpnaaYZA3
import Derived.Deep.SlicePairs
set_option linter.all false
section
namespace Go.Proofs.Ytdcomhdadnhpnaa
open Go Go.Am Go.RowKit
attribute [local irreducible] wA opsQ opsLQ thenA blockA EndA
attribute [local go_sem] put5
theorem OwnT.exp {c:Int} {u:List Int} {T:List Value} {a:AV} {H:AHp} (h:OwnT (ansX c u) T a H) (hn:c≠0→u=[]):Exp H a (.tup (.dsl u.length (ints u)::T.map .sc)):=by
 obtain⟨x,rfl,hx⟩:=h
 have h0:Exp H x (.dsl u.length (ints u)):=by
  unfold ansX at hx
  split at hx
  ·obtain⟨nm,ver,rfl,hH⟩:=hx
   exact Exp.ints hH
  ·rename_i hc
   have hx:x= .sc (.slice none 0 0):=hx
   rw[hx,hn hc]
   exact .nil
 refine .tup (by simp) (fun i p q hp hq=>?_)
 cases i with
 |zero=>simp at hp hq;subst hp;subst hq;exact h0
 |succ i=>
  simp only[List.getElem?_cons_succ]at hp hq
  rw[hp]at hq;cases hq
  obtain⟨v,_,rfl⟩:=List.mem_map.1 (List.mem_of_getElem? hp)
  exact .sc _
noncomputable def c35d:List AV→AP AV
 | [t,.sc (.int .i64 h),.sc (.int .i64 x)]=>rdK t fun l=>if l.length≤1000000000 then .ret (.tup [.dsl (addF l h x).2.1.length (ints (addF l h x).2.1),.sc (.int .i64 (addF l h x).1),.sc (.int .i64 (addF l h x).2.2)])else .fail
 |_=>.fail
noncomputable def c39d:List AV→AP AV
 | [t,.sc (.int .i64 h),.sc (.int .i64 x),.sc (.int .i64 v)]=>rdK t fun l=>if l.length≤1000000000 then .ret (.tup [.dsl (putF l h x v).1.length (ints (putF l h x v).1),.sc (.int .i64 (putF l h x v).2)])else .fail
 |_=>.fail
noncomputable def c38:List AV→AP AV
 | [t,.sc (.int .i64 h),.sc (.int .i64 x),.sc (.int .i64 v)]=>rdK t fun l=>.ret (.tup [.dsl (putF l h x v).1.length (ints (putF l h x v).1),.sc (.int .i64 (putF l h x v).2)])
 |_=>.fail
theorem a38 (args:List AV):ACall Try.prog 38 args (c38 args):=by
 intro ρ H w vs hR hA s r H' s' hm
 unfold c38 at hm
 split at hm
 ·rename_i t h x v
  obtain⟨v0,tl,rfl,hv0,hA1⟩:=Reps.uncons hA
  obtain⟨v1,tl1,rfl,hv1,hA2⟩:=Reps.uncons hA1
  obtain⟨v2,tl2,rfl,hv2,hA3⟩:=Reps.uncons hA2
  obtain⟨v3,tl3,rfl,hv3,hA4⟩:=Reps.uncons hA3
  obtain rfl:=reps0 hA4
  obtain rfl:=Rep.sc_iff.1 hv1
  obtain rfl:=Rep.sc_iff.1 hv2
  obtain rfl:=Rep.sc_iff.1 hv3
  obtain⟨l,A,c,rfl,hr,_,hm⟩:=rdK_ok hR hv0 hm
  simp only[AP.run,Option.some.injEq,Prod.mk.injEq]at hm
  obtain⟨rfl,rfl,rfl⟩:=hm
  refine(putX_any A c l h x v w hr).mono ?_
  rintro e w' ⟨(⟨c,hc,rfl,hq⟩ |⟨B,cap,l',rfl,hw,hq⟩),hb⟩
  ·rw[putF_eq hq]
   exact⟨_,ρ,rfl,step_of_below hR hb,Rep.tup_iff.2 ⟨_,rfl,.cons (.dnil (Nat.le_refl _)) (.cons (.sc _) .nil)⟩⟩
  ·rw[putF_eq hq]
   exact⟨_,ρ,rfl,step_of_below hR hb,Rep.tup_iff.2 ⟨_,rfl,.cons (rep_rw hw (fun b hb=>hR.own_lt hb)) (.cons (.sc _) .nil)⟩⟩
 ·simp[AP.run]at hm
open Classical in
noncomputable def c32p (L:List (Int×Int)) (ops:List OpT) (b:Bool) (x y:Int) (args:List AV):AP AV:=
 if args=[playG L ops b x y]then .ret (.sc (.bool (decide (L.length≤300∧ops.length≤300))))else .fail
open Classical in
noncomputable def c33p (L:List (Int×Int)) (ops:List OpT) (b:Bool) (x y:Int) (args:List AV):AP AV:=
 if args=[playG L ops b x y]∧L.length≤9223372036854775806∧ops.length≤9223372036854775806 then .ret (.dsl (bentF L ops b x y).length (ints (bentF L ops b x y)))else .fail
section
variable (L:List (Int×Int)) (ops:List OpT) (b:Bool) (x y:Int)
theorem a32p (args:List AV):ACall Try.prog 32 args (c32p L ops b x y args):=by
 intro ρ H w vs hR hA s r H' s' hm
 unfold c32p at hm
 split at hm
 ·rename_i h
  subst h
  obtain⟨v0,rfl,hv0⟩:=reps1 hA
  simp only[AP.run,Option.some.injEq,Prod.mk.injEq]at hm
  obtain⟨rfl,rfl,rfl⟩:=hm
  exact(small_rc L ops b x y).acall hR (.cons (play_data hv0) .nil)
 ·simp[AP.run]at hm
theorem a33p (args:List AV):ACall Try.prog 33 args (c33p L ops b x y args):=by
 intro ρ H w vs hR hA s r H' s' hm
 unfold c33p at hm
 split at hm
 ·rename_i h
  obtain⟨rfl,hL,ho⟩:=h
  obtain⟨v0,rfl,hv0⟩:=reps1 hA
  simp only[AP.run,Option.some.injEq,Prod.mk.injEq]at hm
  obtain⟨rfl,rfl,rfl⟩:=hm
  exact(bent_rc L ops b x y hL ho).acall hR (.cons (play_data hv0) .nil)
 ·simp[AP.run]at hm
variable (a:List AV)
end
theorem cal32:callable Try.prog 32=true:=by kernel_rfl
theorem cal33:callable Try.prog 33=true:=by kernel_rfl
end Go.Proofs.Ytdcomhdadnhpnaa
end
section
section
namespace Go.Proofs.Ytdcomhdadnhpnaa
open Go Go.Am Go.RowKit Go.ChangeShapes Go.WideShapes Go.ChangeAt
def intV (v:Value):Int:=match v with | .int _ z=>z |_=>0
section
variable {H:Type} {enc:TypeId×Value→H} {W:World} {d:DataW H} {p:List MemPlace}
theorem elsA_get:∀ {L:List (Int×Int)} {i:Nat} {x:AV},(elsA L)[i]? =some x→∃j,∃h:j<L.length,(i=j*2∧x= .sc (.int .i64 L[j].1))∨(i=j*2+1∧x= .sc (.int .i64 L[j].2))
 | [],i,x,h=>by simp[elsA]at h
 |e::L,i,x,h=>by
  rw[elsA_cons]at h
  match i with
  |0=>simp at h;exact⟨0,by simp,.inl ⟨rfl,h.symm⟩⟩
  |1=>simp at h;exact⟨0,by simp,.inr ⟨rfl,h.symm⟩⟩
  |i+2=>
   obtain⟨j,hj,h1⟩:=elsA_get (L:=L) (i:=i) (x:=x) (by simpa using h)
   refine⟨j+1,by simpa using hj,?_⟩
   rcases h1 with⟨rfl,rfl⟩ |⟨rfl,rfl⟩
   ·exact .inl ⟨by omega,rfl⟩
   ·exact .inr ⟨by omega,rfl⟩
theorem rep_els {a:Option Addr} {len cap:Nat} (h:DataW.Trod enc Try.prog W 0 (fun _=>true) true 40 (.slice a len cap) d p):
  ∃L:List (Int×Int),Rep ρ0 (own ρ0 H0) W (.dsl L.length (elsA L)) (.slice a len cap)∧L.length≤9223372036854775807:=by
 obtain⟨fuel,hf⟩:=h
 rcases Go.Deep.open_slice_pairs (e:=43) Try.underlying40 Try.underlying43 (by kernel_rfl) rfl rfl (by kernel_rfl) (by kernel_rfl) hf with⟨hcs,_⟩ |⟨a',len',cap',m,n,V0,V1,D0,D1,P0,P1,hcs,_,hl,hm,hmm,_,hx⟩
 ·simp[Value.cells]at hcs
  obtain⟨rfl,rfl,rfl⟩:=hcs
  exact⟨[],.dnil (Nat.le_refl _),by simp⟩
 ·simp[Value.cells]at hcs
  obtain⟨rfl,rfl,rfl⟩:=hcs
  simp only[if_true]at hmm
  subst hmm
  have hm':m≤9223372036854775807:=hm
  refine⟨(List.range len).map fun i=>(intV (V0 i),intV (V1 i)),?_,by simp;omega⟩
  rw[List.length_map,List.length_range]
  by_cases h0:len=0
  ·subst h0
   exact .dnil (Nat.zero_le _)
  ·obtain⟨b,off,spot⟩:=a'
   have hspot:spot=none:=by simpa[Addr.add]using World.cell?_spot (hx 0 (by omega)).1
   subst hspot
   have hv:∀i,i<len→W.cell? ⟨b,off+i*2,none⟩=some (.int .i64 (intV (V0 i)))∧W.cell? ⟨b,off+(i*2+1),none⟩=some (.int .i64 (intV (V1 i))):=fun i hi=>by
    obtain⟨h1,h2,h3,h4⟩:=hx i (by omega)
    obtain⟨z0,e0,_⟩:=DataW.trod_int Try.underlying3 h3
    obtain⟨z1,e1,_⟩:=DataW.trod_int Try.underlying3 h4
    have e0':V0 i= .int .i64 z0:=by simpa using e0
    have e1':V1 i= .int .i64 z1:=by simpa using e1
    rw[e0']at h1 ⊢
    rw[e1']at h2 ⊢
    rw[add_plain]at h1 h2
    exact⟨h1,h2⟩
   have hb:b<W.heap.size:=by
    have:=(hv 0 (by omega)).1
    refine Nat.lt_of_not_le fun hb=>?_
    simp[World.cell?,hb]at this
   refine .dsl (vs:=(elsA ((List.range len).map fun i=>(intV (V0 i),intV (V1 i)))).map fun x=>match x with | .sc v=>v |_=>undef) hl (own0 b) hb (by simp) ?_ ?_
   ·intro i x hxx
    rw[List.getElem?_map]at hxx
    obtain⟨y,h1,rfl⟩:=Option.map_eq_some_iff.1 hxx
    obtain⟨j,hj,h2⟩:=elsA_get h1
    have hjl:j<len:=by simpa using hj
    rcases h2 with⟨rfl,rfl⟩ |⟨rfl,rfl⟩
    ·simpa using(hv j hjl).1
    ·simpa using(hv j hjl).2
   ·intro i y x h1 h2
    rw[List.getElem?_map,h1]at h2
    obtain⟨j,hj,h3⟩:=elsA_get h1
    rcases h3 with⟨rfl,rfl⟩ |⟨rfl,rfl⟩<;>(simp at h2;subst h2;simp only[List.getElem_map,List.getElem_range];exact .sc _)
end
end Go.Proofs.Ytdcomhdadnhpnaa
end
section
namespace Go.Proofs.Ytdcomhdadnhpnaa
open Go Go.Am Go.RowKit Go.ChangeShapes Go.WideShapes Go.ChangeAt Go.Deep
section
variable {H:Type} {enc:TypeId×Value→H} {W:World} {d:DataW H} {p:List MemPlace}
theorem opsA_get:∀ {L:List OpT} {i:Nat} {x:AV},(opsA L)[i]? =some x→∃j,∃h:j<L.length,(i=j*4∧x= .sc (.int .i64 L[j].k))∨(i=j*4+1∧x= .sc (.int .i64 L[j].h))∨(i=j*4+2∧x= .sc (.int .i64 L[j].w))∨(i=j*4+3∧x= .sc (.int .i64 L[j].v))
 | [],i,x,h=>by simp[opsA]at h
 |o::L,i,x,h=>by
  rw[opsA_cons]at h
  match i with
  |0=>simp at h;exact⟨0,by simp,.inl ⟨rfl,h.symm⟩⟩
  |1=>simp at h;exact⟨0,by simp,.inr (.inl ⟨rfl,h.symm⟩)⟩
  |2=>simp at h;exact⟨0,by simp,.inr (.inr (.inl ⟨rfl,h.symm⟩))⟩
  |3=>simp at h;exact⟨0,by simp,.inr (.inr (.inr ⟨rfl,h.symm⟩))⟩
  |i+4=>
   obtain⟨j,hj,h1⟩:=opsA_get (L:=L) (i:=i) (x:=x) (by simpa using h)
   refine⟨j+1,by simpa using hj,?_⟩
   rcases h1 with⟨rfl,rfl⟩ |⟨rfl,rfl⟩ |⟨rfl,rfl⟩ |⟨rfl,rfl⟩
   ·exact .inl ⟨by omega,rfl⟩
   ·exact .inr (.inl ⟨by omega,rfl⟩)
   ·exact .inr (.inr (.inl ⟨by omega,rfl⟩))
   ·exact .inr (.inr (.inr ⟨by omega,rfl⟩))
set_option maxRecDepth 100000 in
/-- a slice of operations that is read -/
theorem rep_ops {a:Option Addr} {len cap:Nat} (h:DataW.Trod enc Try.prog W 0 (fun _=>true) true 50 (.slice a len cap) d p):
  ∃L:List OpT,Rep ρ0 (own ρ0 H0) W (.dsl L.length (opsA L)) (.slice a len cap)∧L.length≤9223372036854775807:=by
 obtain⟨fuel,hf⟩:=h
 rcases open_slice Try.underlying50 hf with⟨hcs,_⟩ |⟨a',len',cap',m,n,D,Pl,hcs,_,hl,hm,hmm,_,hx⟩
 ·simp[Value.cells]at hcs
  obtain⟨rfl,rfl,rfl⟩:=hcs
  exact⟨[],.dnil (Nat.le_refl _),by simp⟩
 ·simp[Value.cells]at hcs
  obtain⟨rfl,rfl,rfl⟩:=hcs
  simp only[if_true]at hmm
  subst hmm
  have hm':m≤9223372036854775807:=hm
  have c64:Try.prog.cellsOf 64=4:=by kernel_rfl
  have c3:Try.prog.cellsOf 3=1:=by kernel_rfl
  have each:∀i,i<m→∃o:OpT,W.cell? (a'.add (i*4))=some (.int .i64 o.k)∧W.cell? (a'.add (i*4+1))=some (.int .i64 o.h)∧W.cell? (a'.add (i*4+2))=some (.int .i64 o.w)∧W.cell? (a'.add (i*4+3))=some (.int .i64 o.v):=by
   intro i hi
   obtain⟨cs',h1,h2⟩:=hx i hi
   rw[c64]at h1
   obtain⟨_,hlen,hcell⟩:=World.cells?_some h1
   obtain⟨xs,k,hk,hxy,_,hxl,hf⟩:=DataW.trod_struct Try.underlying64 h2
   match xs,hxl,cs',hlen with
   | [y0,y1,y2,y3],_,[v0,v1,v2,v3],_=>
     have g0:=hf 0 _ rfl
     have g1:=hf 1 _ rfl
     have g2:=hf 2 _ rfl
     have g3:=hf 3 _ rfl
     simp[c3]at g0 g1 g2 g3
     have e0:=hcell 0 (by omega)
     have e1:=hcell 1 (by omega)
     have e2:=hcell 2 (by omega)
     have e3:=hcell 3 (by omega)
     rw[Go.Deep.add_add]at e0 e1 e2 e3
     obtain⟨z0,k0,_⟩:=DataW.trod_int Try.underlying3 g0
     obtain⟨z1,k1,_⟩:=DataW.trod_int Try.underlying3 g1
     obtain⟨z2,k2,_⟩:=DataW.trod_int Try.underlying3 g2
     obtain⟨z3,k3,_⟩:=DataW.trod_int Try.underlying3 g3
     have k0':v0= .int .i64 z0:=by simpa using k0
     have k1':v1= .int .i64 z1:=by simpa using k1
     have k2':v2= .int .i64 z2:=by simpa using k2
     have k3':v3= .int .i64 z3:=by simpa using k3
     subst k0' k1' k2' k3'
     exact⟨⟨z0,z1,z2,z3⟩,by simpa using e0,by simpa using e1,by simpa using e2,by simpa using e3⟩
  have each':∀i,∃o:OpT,i<m→W.cell? (a'.add (i*4))=some (.int .i64 o.k)∧W.cell? (a'.add (i*4+1))=some (.int .i64 o.h)∧W.cell? (a'.add (i*4+2))=some (.int .i64 o.w)∧W.cell? (a'.add (i*4+3))=some (.int .i64 o.v):=fun i=>by
   by_cases hi:i<m
   ·obtain⟨o,ho⟩:=each i hi;exact⟨o,fun _=>ho⟩
   ·exact⟨⟨0,0,0,0⟩,fun h=>absurd h hi⟩
  obtain⟨q,hq⟩:=Classical.axiomOfChoice each'
  refine⟨(List.range len).map q,?_,by simp;omega⟩
  rw[List.length_map,List.length_range]
  by_cases h0:len=0
  ·subst h0
   exact .dnil (Nat.zero_le _)
  ·obtain⟨b,off,spot⟩:=a'
   have hspot:spot=none:=by simpa[Addr.add]using World.cell?_spot (hq 0 (by omega)).1
   subst hspot
   simp only[add_plain]at hq
   have hb:b<W.heap.size:=by
    have:=(hq 0 (by omega)).1
    refine Nat.lt_of_not_le fun hb=>?_
    simp[World.cell?,hb]at this
   refine .dsl (vs:=(opsA ((List.range len).map q)).map fun x=>match x with | .sc v=>v |_=>undef) hl (own0 b) hb (by simp) ?_ ?_
   ·intro i x hxx
    rw[List.getElem?_map]at hxx
    obtain⟨y,h1,rfl⟩:=Option.map_eq_some_iff.1 hxx
    obtain⟨j,hj,h2⟩:=opsA_get h1
    have hjl:j<len:=by simpa using hj
    obtain⟨q0,q1,q2,q3⟩:=hq j (by omega)
    rcases h2 with⟨rfl,rfl⟩ |⟨rfl,rfl⟩ |⟨rfl,rfl⟩ |⟨rfl,rfl⟩
    ·simpa using q0
    ·simpa using q1
    ·simpa using q2
    ·simpa using q3
   ·intro i y x h1 h2
    rw[List.getElem?_map,h1]at h2
    obtain⟨j,hj,h3⟩:=opsA_get h1
    rcases h3 with⟨rfl,rfl⟩ |⟨rfl,rfl⟩ |⟨rfl,rfl⟩ |⟨rfl,rfl⟩<;>(simp at h2;subst h2;simp only[List.getElem_map,List.getElem_range];exact .sc _)
set_option maxRecDepth 100000 in
/-- a play that is read -/
theorem rep_play {r:Reach} {b0:Nat} {v:Value} (hv:Value.okWide Try.prog W r b0 52 v) (h:DataW.Trod enc Try.prog W 0 (fun _=>true) true 52 v d p):
  ∃(L:List (Int×Int)) (ops:List OpT) (b:Bool) (x y:Int),Rep ρ0 (own ρ0 H0) W (playG L ops b x y) v:=by
 obtain⟨cs,rfl,hcs⟩:=okWide_struct Try.underlying52 hv
 obtain⟨fuel,hf⟩:=h
 have hcells:(Value.agg cs).cells=cs:=rfl
 rw[hcells]at hf
 have hs5:cs.size=5:=hcs
 obtain⟨l⟩:=cs
 match l,hs5 with
 | [c0,c1,c2,c3,c4],_=>
   obtain⟨xs,k,hk,hxy,_,hxl,hg⟩:=DataW.trod_struct Try.underlying52 hf
   have q40:Try.prog.cellsOf 40=1:=by kernel_rfl
   have q50:Try.prog.cellsOf 50=1:=by kernel_rfl
   have q4:Try.prog.cellsOf 4=1:=by kernel_rfl
   have q3:Try.prog.cellsOf 3=1:=by kernel_rfl
   match xs,hxl with
   | [y0,y1,y2,y3,y4],_=>
     have g0:=hg 0 _ rfl
     have g1:=hg 1 _ rfl
     have g2:=hg 2 _ rfl
     have g3:=hg 3 _ rfl
     have g4:=hg 4 _ rfl
     simp[q40,q50,q4,q3]at g0 g1 g2 g3 g4
     obtain⟨b,k2,_⟩:=DataW.trod_bool Try.underlying4 g2
     obtain⟨x,k3,_⟩:=DataW.trod_int Try.underlying3 g3
     obtain⟨y,k4,_⟩:=DataW.trod_int Try.underlying3 g4
     have k2':c2= .bool b:=by simpa using k2
     have k3':c3= .int .i64 x:=by simpa using k3
     have k4':c4= .int .i64 y:=by simpa using k4
     have s0:∃a len cap,c0= .slice a len cap:=by
      rcases DataW.trod_slice Try.underlying40 g0 with⟨e,_⟩ |⟨a,len,cap,_,_,_,_,e,_⟩
      ·exact⟨none,0,0,by simpa using e⟩
      ·exact⟨some a,len,cap,by simpa using e⟩
     have s1:∃a len cap,c1= .slice a len cap:=by
      rcases DataW.trod_slice Try.underlying50 g1 with⟨e,_⟩ |⟨a,len,cap,_,_,_,_,e,_⟩
      ·exact⟨none,0,0,by simpa using e⟩
      ·exact⟨some a,len,cap,by simpa using e⟩
     obtain⟨a0,l0,p0,rfl⟩:=s0
     obtain⟨a1,l1,p1,rfl⟩:=s1
     obtain⟨L,hL,_⟩:=rep_els (d:=y0.1) (p:=y0.2) ⟨k,g0⟩
     obtain⟨ops,hO,_⟩:=rep_ops (d:=y1.1) (p:=y1.2) ⟨k,g1⟩
     subst k2' k3' k4'
     exact⟨L,ops,b,x,y,Rep.agg_iff.2 ⟨_,rfl,.cons hL (.cons hO (.cons (.sc _) (.cons (.sc _) (.cons (.sc _) .nil))))⟩⟩
end
end Go.Proofs.Ytdcomhdadnhpnaa
end
end
