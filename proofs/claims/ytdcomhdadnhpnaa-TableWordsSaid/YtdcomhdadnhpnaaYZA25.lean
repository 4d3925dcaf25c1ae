import Derived.Test.YtdcomhdadnhpnaaYZA19
set_option linter.all false
namespace Go.Proofs.Ytdcomhdadnhpnaa
open Go Go.Am Go.RowKit
def OwnX (X:Option (List Int)) (a:AV) (H:AHp):Prop:=match X with
 |some l=>∃n ver,a= .sl n ver 0 l.length∧H n=some (.row ver 1 (ints l))
 |none=>a= .sc (.slice none 0 0)
def RO (P:Program) (f:FuncId) (args:List AV) (R:AV→AHp→Prop):Prop:=∀(w:World) (vs:List Value),Reps ρ0 (own ρ0 H0) w args vs→
 Calls P f vs.toArray w fun e w'=>∃v r1 H1 ρ1,e= .returned v∧Step ρ0 H0 w ρ1 H1 w'∧Rep ρ1 (own ρ1 H1) w' r1 v∧R r1 H1
theorem ro_of {P:Program} {f:FuncId} {fn:Func} {c:Code} {args:List AV} {R:AV→AHp→Prop} (hf:P.funcs[f]? =some fn) (hb:fn.body=some c)
  (h:∀(E:Ent) (s:Nat),(∀n,E.H n=none)→AWp P E c (begA fn args) E.H s (EndA P fn R)):RO P f args R:=by
 intro w vs ha
 refine(calls_of_awp (E:=⟨ρ0,H0,w⟩) hf hb (rel0 w) ha (h ⟨ρ0,H0,w⟩ 0 (fun _=>rfl))).mono ?_
 rintro e w' ⟨v,r1,H1,ρ1,rfl,he,hs,hrep⟩
 exact⟨v,r1,H1,ρ1,rfl,hs,hrep,he⟩
theorem RO.rc {P:Program} {f:FuncId} {args:List AV} {R:AV→AHp→Prop} {r:AV} (h:RO P f args R) (hx:∀a H,R a H→Exp H a r):RC P f args r:=by
 intro w vs ha
 refine(h w vs ha).mono ?_
 rintro e w' ⟨v,r1,H1,ρ1,rfl,hs,hrep,he⟩
 exact⟨v,rfl,below_of_step hs,(hx _ _ he).fresh hs v hrep⟩
theorem sc_any {ρ ρ':Inj} {O O':Nat→Prop} {w:World} {l:List Int} {vs:List Value} (h:Reps ρ O w (ints l) vs):Reps ρ' O' w (ints l) vs:=
 ⟨h.len,fun i a x ha hx=>by
  obtain⟨y,_,rfl⟩:=List.mem_map.1 (List.mem_of_getElem? ha)
  cases h.at_ i _ x ha hx
  exact .sc _⟩
theorem adopt {ρ ρ1:Inj} {H H1:AHp} {w w1:World} {n ver s:Nat} {l:List Int} (hR:Rel ρ H w) (hs:Step ρ0 H0 w ρ1 H1 w1) (hn:H s=none) (hH:H1 n=some (.row ver 1 (ints l))):
  ∃ρ',Step ρ H w ρ' (upd H s (.row 0 1 (ints l))) w1∧∀(off len:Nat) (v:Value),Rep ρ1 (own ρ1 H1) w1 (.sl n ver off len) v→Rep ρ' (own ρ' (upd H s (.row 0 1 (ints l)))) w1 (.sl s 0 off len) v:=by
 obtain⟨L,hL,he,c,t,hc,hsz,hlen,hreps⟩:=hs.rel.live n _ hH rfl
 have hL':ρ1 n ver=some L:=hL
 have hb:w.heap.size≤L.block:=by
  rcases hs.own' L.block ⟨n,_,L,hH,rfl,hL,rfl⟩with h |h
  ·exact absurd h (own0 _)
  ·exact h
 have hm:=updR_mono (L:=L) (hR.none hn 0)
 refine⟨updR ρ s 0 L,Step.put (o:=.row 0 1 (ints l)) hR hm hs.size (fun o' ho=>by rw[hn]at ho;cases ho) (.inl hb) (fun b hb' _=>hs.frame b hb' (own0 b)) hs.os hs.tape hs.output (fun O hO hR'=>⟨he,c,t,hc,hsz,hlen,sc_any hreps⟩),fun off len v hv=>?_⟩
 cases hv with
 |sl h2 h3 h4 h5=>
  have e:ρ1 n ver=some _:=h2
  rw[hL']at e;cases e
  exact .sl (updR_same _ _ _) h3 h4 h5
def OwnT (X:Option (List Int)) (T:List Value) (a:AV) (H:AHp):Prop:=∃x,a= .tup (x::T.map .sc)∧OwnX X x H
def outX (X:Option (List Int)) (T:List Value):AP AV:=match X with
 |some l=>.new (.row 0 1 (ints l)) fun n=>.ret (.tup (.sl n 0 0 l.length::T.map .sc))
 |none=>.ret (.tup (.sc (.slice none 0 0)::T.map .sc))
theorem reps_sc {ρ ρ':Inj} {O O':Nat→Prop} {w:World}:∀ {T vs:List Value},Reps ρ O w (T.map .sc) vs→Reps ρ' O' w (T.map .sc) vs
 | [],vs,h=>by
   have:vs=[]:=by simpa using h.len
   subst this
   exact Reps.nil
 |t::T,vs,h=>by
  obtain⟨x,xs,rfl,h1,h2⟩:=Reps.uncons h
  cases h1
  exact .cons (.sc _) (reps_sc h2)
theorem RO.own1 {P:Program} {f:FuncId} {args:List AV} {l:List Int} (h:RO P f args (OwnX (some l))) {ρ:Inj} {H H':AHp} {w:World} {vs:List Value} {r:AV} {s s':Nat} (hR:Rel ρ H w) (hA:Reps ρ0 (own ρ0 H0) w args vs)
  (hm:(AP.new (.row 0 1 (ints l)) fun n=>.ret (.sl n 0 0 l.length)).run H s=some (r,H',s')):
  Calls P f vs.toArray w fun e w'=>∃v ρ',e= .returned v∧Step ρ H w ρ' H' w'∧Rep ρ' (own ρ' H') w' r v:=by
 simp only[AP.run]at hm
 split at hm
 ·rename_i hn
  simp only[Option.some.injEq,Prod.mk.injEq]at hm
  obtain⟨rfl,rfl,rfl⟩:=hm
  refine(h w vs hA).mono ?_
  rintro e w' ⟨v,r1,H1,ρ1,rfl,hs,hrep,nm,ver,rfl,hH⟩
  obtain⟨ρ',k1,k2⟩:=adopt hR hs hn hH
  exact⟨v,ρ',rfl,k1,k2 _ _ _ hrep⟩
 ·cases hm
theorem RO.ownT {P:Program} {f:FuncId} {args:List AV} {X:Option (List Int)} {T:List Value} (h:RO P f args (OwnT X T)) {ρ:Inj} {H H':AHp} {w:World} {vs:List Value} {r:AV} {s s':Nat} (hR:Rel ρ H w) (hA:Reps ρ0 (own ρ0 H0) w args vs)
  (hm:(outX X T).run H s=some (r,H',s')):
  Calls P f vs.toArray w fun e w'=>∃v ρ',e= .returned v∧Step ρ H w ρ' H' w'∧Rep ρ' (own ρ' H') w' r v:=by
 cases X with
 |none=>
  simp only[outX,AP.run,Option.some.injEq,Prod.mk.injEq]at hm
  obtain⟨rfl,rfl,rfl⟩:=hm
  refine(h w vs hA).mono ?_
  rintro e w' ⟨v,r1,H1,ρ1,rfl,hs,hrep,x,rfl,hx⟩
  have hx:x= .sc (.slice none 0 0):=hx
  subst hx
  obtain⟨us,rfl,hu⟩:=Rep.tup_iff.1 hrep
  obtain⟨y,ys,e,k1,k2⟩:=Reps.uncons hu
  cases k1
  exact⟨_,ρ,rfl,step_of_below hR (below_of_step hs),Rep.tup_iff.2 ⟨us,rfl,by rw[e];exact .cons (.sc _) (reps_sc k2)⟩⟩
 |some l=>
  simp only[outX,AP.run]at hm
  split at hm
  ·rename_i hn
   simp only[Option.some.injEq,Prod.mk.injEq]at hm
   obtain⟨rfl,rfl,rfl⟩:=hm
   refine(h w vs hA).mono ?_
   rintro e w' ⟨v,r1,H1,ρ1,rfl,hs,hrep,x,rfl,nm,ver,rfl,hH⟩
   obtain⟨us,rfl,hu⟩:=Rep.tup_iff.1 hrep
   obtain⟨y,ys,e,k1,k2⟩:=Reps.uncons hu
   obtain⟨ρ',q1,q2⟩:=adopt hR hs hn hH
   exact⟨_,ρ',rfl,q1,Rep.tup_iff.2 ⟨us,rfl,by rw[e];exact .cons (q2 _ _ _ k1) (reps_sc k2)⟩⟩
  ·cases hm
end Go.Proofs.Ytdcomhdadnhpnaa
