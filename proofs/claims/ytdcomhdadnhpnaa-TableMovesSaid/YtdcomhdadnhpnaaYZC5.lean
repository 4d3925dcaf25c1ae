import Derived.Test.YtdcomhdadnhpnaaYZC4
import Derived.OpenShut
set_option linter.all false
namespace Go.Proofs.Ytdcomhdadnhpnaa
open Go Go.Am Go.RowKit Go.ChangeShapes Go.WideShapes Go.ChangeAt
section
variable {H:Type} {enc:TypeId×Value→H} {W:World} {d:DataW H} {p:List MemPlace}
set_option maxRecDepth 100000 in
theorem rep_pairs {a:Option Addr} {len cap:Nat} (h:DataW.Trod enc Try.prog W 0 (fun _=>true) true 83 (.slice a len cap) d p):
  ∃L:List (Int×Int),Rep ρ0 (own ρ0 H0) W (.dsl L.length (elsA L)) (.slice a len cap)∧L.length≤9223372036854775807:=by
 obtain⟨fuel,hf⟩:=h
 rcases Go.Deep.open_slice Try.underlying83 hf with⟨hcs,_⟩ |⟨a',len',cap',m,n,D,Pl,hcs,_,hl,hm,hmm,_,hx⟩
 ·simp[Value.cells]at hcs
  obtain⟨rfl,rfl,rfl⟩:=hcs
  exact⟨[],.dnil (Nat.le_refl _),by simp⟩
 ·simp[Value.cells]at hcs
  obtain⟨rfl,rfl,rfl⟩:=hcs
  simp only[if_true]at hmm
  subst hmm
  have hm':m≤9223372036854775807:=hm
  have each:∀i,i<len→∃z:Int×Int,W.cell? (a'.add (i*2))=some (.int .i64 z.1)∧W.cell? (a'.add (i*2+1))=some (.int .i64 z.2):=by
   intro i hi
   obtain⟨cs',h1,h2⟩:=hx i (by omega)
   have ce:Try.prog.cellsOf 84=2:=by kernel_rfl
   have c3:Try.prog.cellsOf 3=1:=by kernel_rfl
   rw[ce]at h1
   obtain⟨_,hlen,hcell⟩:=World.cells?_some h1
   obtain⟨xs,k,_,_,_,hxl,hf2⟩:=DataW.trod_array Try.underlying84 h2
   match xs,hxl,cs',hlen with
   | [y0,y1],_,[v0,v1],_=>
     have g0:=hf2 0 (by omega)
     have g1:=hf2 1 (by omega)
     simp[c3]at g0 g1
     have e0:=hcell 0 (by omega)
     have e1:=hcell 1 (by omega)
     rw[Go.Deep.add_add]at e0 e1
     obtain⟨z0,q0,_⟩:=DataW.trod_int Try.underlying3 g0
     obtain⟨z1,q1,_⟩:=DataW.trod_int Try.underlying3 g1
     have q0':v0= .int .i64 z0:=by simpa using q0
     have q1':v1= .int .i64 z1:=by simpa using q1
     subst q0'
     subst q1'
     exact⟨(z0,z1),by simpa using e0,by simpa using e1⟩
  obtain⟨q,hq⟩:=Go.Deep.choose_lt each
  refine⟨(List.range len).map q,?_,by simp;omega⟩
  rw[List.length_map,List.length_range]
  by_cases h0:len=0
  ·subst h0
   exact .dnil (Nat.zero_le _)
  ·obtain⟨b,off,spot⟩:=a'
   have hspot:spot=none:=by simpa[Addr.add]using World.cell?_spot (hq 0 (by omega)).1
   subst hspot
   have hv:∀i,i<len→W.cell? ⟨b,off+i*2,none⟩=some (.int .i64 (q i).1)∧W.cell? ⟨b,off+(i*2+1),none⟩=some (.int .i64 (q i).2):=fun i hi=>by
    obtain⟨h1,h2⟩:=hq i hi
    rw[add_plain]at h1 h2
    exact⟨h1,h2⟩
   have hb:b<W.heap.size:=by
    have:=(hv 0 (by omega)).1
    refine Nat.lt_of_not_le fun hb=>?_
    simp[World.cell?,hb]at this
   refine .dsl (vs:=(elsA ((List.range len).map q)).map fun x=>match x with | .sc v=>v |_=>undef) hl (own0 b) hb (by simp) ?_ ?_
   ·intro i x hxx
    rw[List.getElem?_map]at hxx
    obtain⟨y,h1,rfl⟩:=Option.map_eq_some_iff.1 hxx
    obtain⟨j,hj,h2⟩:=elsA_get h1
    have hjl:j<len:=by simpa using hj
    rcases h2 with⟨rfl,rfl⟩ |⟨rfl,rfl⟩
    ·simpa using(hv j hjl).1
    ·simpa using(hv j hjl).2
   ·intro i y x h1 h2
    rw[List.getElem?_map,h1]at h2
    obtain⟨j,hj,h3⟩:=elsA_get h1
    rcases h3 with⟨rfl,rfl⟩ |⟨rfl,rfl⟩<;>(simp at h2;subst h2;simp only[List.getElem_map,List.getElem_range];exact .sc _)
end
end Go.Proofs.Ytdcomhdadnhpnaa
