import Derived.Test.YtdcomhdadnhpnaaYZMB
import Derived.Test.YtdcomhdadnhpnaaYZA3
set_option linter.all false
namespace Go.Proofs.Ytdcomhdadnhpnaa
open Go Go.Am Go.RowKit
def FreshR (base:Nat) (w:World) (r:AV) (v:Value):Prop:=∀(ρ:Inj) (O:Nat→Prop),(∀b,O b→b<base)→Rep ρ O w r v
def RC (P:Program) (f:FuncId) (args:List AV) (r:AV):Prop:=∀(w:World) (vs:List Value),Reps ρ0 (own ρ0 H0) w args vs→
 Calls P f vs.toArray w fun e w'=>∃v,e= .returned v∧Below w.heap.size w w'∧FreshR w.heap.size w' r v
inductive Exp (H:AHp):AV→AV→Prop
 |sc (v:Value):Exp H (.sc v) (.sc v)
 |junk (a:AV):Exp H a .junk
 |nil:Exp H (.sc (.slice none 0 0)) (.dsl 0 [])
 |sl {n ver off len esz:Nat} {cs cs':List AV} (hn:H n=some (.row ver esz cs)) (hl:cs'.length=(cs.drop off).length) (hr:∀(i:Nat) (a b:AV),(cs.drop off)[i]? =some a→cs'[i]? =some b→Exp H a b):Exp H (.sl n ver off len) (.dsl len cs')
 |agg {l l':List AV} (hl:l'.length=l.length) (hr:∀(i:Nat) (a b:AV),l[i]? =some a→l'[i]? =some b→Exp H a b):Exp H (.agg l) (.agg l')
 |tup {l l':List AV} (hl:l'.length=l.length) (hr:∀(i:Nat) (a b:AV),l[i]? =some a→l'[i]? =some b→Exp H a b):Exp H (.tup l) (.tup l')
theorem Exp.fresh {H1:AHp} {ρ1:Inj} {w w1:World} (hs:Step ρ0 H0 w ρ1 H1 w1) {a r:AV} (h:Exp H1 a r):∀v,Rep ρ1 (own ρ1 H1) w1 a v→FreshR w.heap.size w1 r v:=by
 induction h with
 |sc v=>intro u hu ρ O hO;cases hu;exact .sc v
 |junk a=>intro u hu ρ O hO;exact .junk _
 |nil=>intro u hu ρ O hO;cases hu;exact .dnil (Nat.le_refl _)
 | @sl n ver off len esz cs cs' hn hl hr ih=>
   intro u hu ρ O hO
   cases hu with
   |sl hL h2 h3 h4=>
    obtain⟨L',hL',he,c,ty,hc,hsz,hlen,hreps⟩:=hs.rel.live n _ hn rfl
    have e2:ρ1 n ver=some L':=hL'
    rw[hL]at e2;cases e2
    rename_i L cap
    have hb:w.heap.size≤L.block:=by
     rcases hs.own' L.block ⟨n,_,L,hn,rfl,hL,rfl⟩with h |h
     ·exact absurd h (own0 _)
     ·exact h
    have hd:=hreps.drop off
    refine .dsl (vs:=((c.toList.drop L.base).take cs.length).drop off) h3 (fun h=>by have:=hO _ h;omega) (Array.getElem?_eq_some_iff.1 hc).1 (by rw[hd.len,hl]) (fun i x hx=>?_) (fun i b x hb' hx=>?_)
    ·rw[List.getElem?_drop,List.getElem?_take]at hx
     split at hx
     ·rw[List.getElem?_drop]at hx
      rw[cell_of_heap hc,←Array.getElem?_toList,←hx,Nat.add_assoc]
     ·cases hx
    ·have hi:i<(cs.drop off).length:=by rw[←hl];exact(List.getElem?_eq_some_iff.1 hb').1
     exact ih i _ b (List.getElem?_eq_getElem hi) hb' x (hd.at_ i _ x (List.getElem?_eq_getElem hi) hx) ρ O hO
 |agg hl hr ih=>
  intro u hu ρ O hO
  obtain⟨vs,rfl,hr2⟩:=Rep.agg_iff.1 hu
  refine Rep.agg_iff.2 ⟨vs,rfl,⟨by rw[hl];exact hr2.len,fun i b x hb hx=>?_⟩⟩
  have hi:=(List.getElem?_eq_some_iff.1 hb).1
  rw[hl]at hi
  exact ih i _ b (List.getElem?_eq_getElem hi) hb x (hr2.at_ i _ x (List.getElem?_eq_getElem hi) hx) ρ O hO
 |tup hl hr ih=>
  intro u hu ρ O hO
  obtain⟨vs,rfl,hr2⟩:=Rep.tup_iff.1 hu
  refine Rep.tup_iff.2 ⟨vs,rfl,⟨by rw[hl];exact hr2.len,fun i b x hb hx=>?_⟩⟩
  have hi:=(List.getElem?_eq_some_iff.1 hb).1
  rw[hl]at hi
  exact ih i _ b (List.getElem?_eq_getElem hi) hb x (hr2.at_ i _ x (List.getElem?_eq_getElem hi) hx) ρ O hO
theorem below_of_step {ρ1:Inj} {H1:AHp} {w w1:World} (hs:Step ρ0 H0 w ρ1 H1 w1):Below w.heap.size w w1:=
 ⟨hs.os,hs.tape,hs.output,hs.size,fun k hk=>hs.frame k hk (own0 k)⟩
theorem rc_of {P:Program} {ct:CT} {f:FuncId} {fn:Func} {c:Code} {args:List AV} {r:AV} (hm:P.follows .mixedOrders=true) (hct:CTok P ct) (hf:P.funcs[f]? =some fn) (hb:fn.body=some c) (hst:statC c=true)
  (h:∀(E:Ent) (s:Nat),(∀n,E.H n=none)→wA P E ct c (begA fn args) E.H s (EndA P fn fun r1 H1=>Exp H1 r1 r)):RC P f args r:=by
 intro w vs ha
 refine(calls_of_awp (E:=⟨ρ0,H0,w⟩) hf hb (rel0 w) ha (wA_ok hm hct c hst (h ⟨ρ0,H0,w⟩ 0 (fun _=>rfl)))).mono ?_
 rintro e w' ⟨v,r1,H1,ρ1,rfl,he,hs,hrep⟩
 exact⟨v,rfl,below_of_step hs,he.fresh hs v hrep⟩
theorem RC.acall {P:Program} {f:FuncId} {args:List AV} {r:AV} (h:RC P f args r) {ρ:Inj} {H:AHp} {w:World} {vs:List Value} (hR:Rel ρ H w) (hA:Reps ρ0 (own ρ0 H0) w args vs):
  Calls P f vs.toArray w fun e w'=>∃v ρ',e= .returned v∧Step ρ H w ρ' H w'∧Rep ρ' (own ρ' H) w' r v:=by
 refine(h w vs hA).mono ?_
 rintro e w' ⟨v,he,hb,hf⟩
 exact⟨v,ρ,he,step_of_below hR hb,hf ρ _ (fun b hb=>hR.own_lt hb)⟩
theorem rdK_data {ρ:Inj} {H H':AHp} {w:World} {a r:AV} {v:Value} {k:List Int→AP AV} {s s':Nat} (h:Rel ρ H w) (hr:Rep ρ (own ρ H) w a v) (hm:(rdK a k).run H s=some (r,H',s')):
  ∃l,Rep ρ0 (own ρ0 H0) w (.dsl l.length (ints l)) v∧(k l).run H s=some (r,H',s'):=by
 obtain⟨l,A,c,rfl,hR,hc,hm⟩:=rdK_ok h hr hm
 refine⟨l,?_,hm⟩
 by_cases h0:0<l.length
 ·obtain⟨b,off,rfl,hb,hcell⟩:=hR.at_ h0
  refine .dsl (vs:=l.map (Value.int .i64)) hc (own0 b) hb (by simp) (fun i x hx=>?_) (rep_int l)
  have hi:i<l.length:=by have:=(List.getElem?_eq_some_iff.1 hx).1;simpa using this
  rw[hcell i hi]
  rw[List.getElem?_map]at hx
  unfold ati
  simp[hi]at hx ⊢
  exact hx
 ·obtain rfl:l=[]:=List.length_eq_zero_iff.1 (by omega)
  exact .dnil (by omega)
def rdE2 (a:AV) (k:List (Int×Int)→AP AV):AP AV:=match a with
 | .dsl len cells=>match elsOf cells with
   |some L=>if L.length=len then k L else .fail
   |none=>.fail
 | .sl n ver off len=>.get n fun o=>match o with
   | .row ver' 2 cs=>match elsOf ((cs.drop off).take (len*2))with
     |some L=>if L.length=len∧ver'=ver then k L else .fail
     |none=>.fail
   |_=>.fail
 | .sc (.slice none 0 0)=>k []
 |_=>.fail
theorem rdE2_dsl (L:List (Int×Int)) (k:List (Int×Int)→AP AV):rdE2 (.dsl L.length (elsA L)) k=k L:=by
 unfold rdE2;simp only[elsOf_elsA,if_true]
theorem rdE2_sl {H:AHp} {s nm ver:Nat} {L:List (Int×Int)} (h:H nm=some (.row ver 2 (elsA L))) (k:List (Int×Int)→AP AV):(rdE2 (.sl nm ver 0 L.length) k).run H s=(k L).run H s:=by
 simp only[rdE2,AP.run,h,List.drop_zero,elsA_take,elsOf_elsA,true_and,and_self,if_true]
theorem rdE2_data {ρ:Inj} {H H':AHp} {w:World} {a r:AV} {v:Value} {k:List (Int×Int)→AP AV} {s s':Nat} (h:Rel ρ H w) (hr:Rep ρ (own ρ H) w a v) (hm:(rdE2 a k).run H s=some (r,H',s')):
  ∃L,Rep ρ0 (own ρ0 H0) w (.dsl L.length (elsA L)) v∧(k L).run H s=some (r,H',s'):=by
 have scell:∀ {L:List (Int×Int)} {O O':Nat→Prop} {ρ ρ':Inj} {i:Nat} {a:AV} {x:Value},(elsA L)[i]? =some a→Rep ρ O w a x→Rep ρ' O' w a x:=by
  intro L O O' ρ ρ' i a x ha hx
  obtain⟨u,rfl⟩:=elsA_sc (List.mem_of_getElem? ha)
  cases hx;exact .sc _
 cases hr with
 |sc v=>
  unfold rdE2 at hm
  split at hm
  ·rename_i e;cases e
  ·rename_i e;cases e
  ·rename_i e;cases e
   exact⟨[],.dnil (Nat.le_refl _),hm⟩
  ·simp[AP.run]at hm
 |dnil hl=>
  rename_i len cap A
  unfold rdE2 at hm
  simp only[elsOf]at hm
  split at hm
  ·rename_i e;subst e;exact⟨[],.dnil (by simp),hm⟩
  ·simp[AP.run]at hm
 |dsl hcap ho hb hl hc hrr=>
  rename_i len b off cap cells vs
  unfold rdE2 at hm
  simp only at hm
  cases hi:elsOf cells with
  |none=>rw[hi]at hm;simp[AP.run]at hm
  |some L=>
   rw[hi]at hm
   simp only at hm
   split at hm
   ·rename_i e
    obtain rfl:=elsOf_some hi
    subst e
    exact⟨L,.dsl hcap (own0 b) hb hl hc (fun i a x ha hx=>scell ha (hrr i a x ha hx)),hm⟩
   ·simp[AP.run]at hm
 |sl hL hroom hle hmx=>
  rename_i n ver off len L0 cap
  unfold rdE2 at hm
  simp only[AP.run]at hm
  split at hm
  ·rename_i o ho
   cases o with
   |row ver' esz cs=>
    split at hm
    ·rename_i v2 cs2 e
     injection e with e1 e2 e3
     subst e1;subst e2;subst e3
     cases hi:elsOf ((cs.drop off).take (len*2))with
     |none=>rw[hi]at hm;simp[AP.run]at hm
     |some L=>
      rw[hi]at hm
      simp only at hm
      split at hm
      ·rename_i e
       obtain⟨e1,e2⟩:=e
       subst e2
       obtain⟨L',h1,h2⟩:=h.live n _ ho rfl
       have h1':ρ n ver'=some L':=h1
       rw[hL]at h1';cases h1'
       obtain⟨hes,c,t,hh,hsz,hcl,hreps⟩:=h2
       have hsub:=(hreps.drop off).take (len*2)
       rw[elsOf_some hi]at hsub
       subst e1
       refine⟨L,.dsl (vs:=(((c.toList.drop L0.base).take cs.length).drop off).take (L.length*2)) hle (own0 _) (Array.getElem?_eq_some_iff.1 hh).1 hsub.len (fun i x hx=>?_) (fun i a x ha hx=>scell ha (hsub.at_ i a x ha hx)),hm⟩
       rw[List.getElem?_take]at hx
       split at hx
       ·rw[List.getElem?_drop,List.getElem?_take]at hx
        split at hx
        ·rw[List.getElem?_drop]at hx
         rw[cell_of_heap hh,←Array.getElem?_toList,←hx,Nat.add_assoc]
        ·cases hx
       ·cases hx
      ·simp[AP.run]at hm
    ·simp[AP.run]at hm
   |mapo _ _ _=>simp[AP.run]at hm
   |dead _=>simp[AP.run]at hm
  ·cases hm
 |junk=>simp[rdE2,AP.run]at hm
 |ptr _=>simp[rdE2,AP.run]at hm
 |dptr _ _ _ _ _=>simp[rdE2,AP.run]at hm
 |mp _=>simp[rdE2,AP.run]at hm
 |fn _ _ _ _=>simp[rdE2,AP.run]at hm
 |ifc _=>simp[rdE2,AP.run]at hm
 |agg _ _=>simp[rdE2,AP.run]at hm
 |tup _ _=>simp[rdE2,AP.run]at hm
theorem ints_len (l:List Int):(ints l).length=l.length:=by simp
theorem ints_take (l:List Int):(ints l).take l.length=ints l:=List.take_of_length_le (by simp)
theorem ints_all (l:List Int):(ints l).all AV.one=true:=by
 induction l with
 |nil=>rfl
 |cons x l ih=>simp only[List.map_cons,List.all_cons,AV.one,Value.oneCell',Bool.true_and];exact ih
theorem len_nil31:aLen Try.prog 31 (.sc (.slice none 0 0))= .ret (.sc (.int .i64 0)):=by
 simp[aLen,Try.underlying31,aG1,AV.val?,Builtin.len_,pureRun_bind,pureRun_underlying Try.underlying31,goInt,pureRun_pure,AP.ofOption]
theorem len_nil40:aLen Try.prog 40 (.sc (.slice none 0 0))= .ret (.sc (.int .i64 0)):=by
 simp[aLen,Try.underlying40,aG1,AV.val?,Builtin.len_,pureRun_bind,pureRun_underlying Try.underlying40,goInt,pureRun_pure,AP.ofOption]
theorem OwnE.len31 {E:Ent} {v:AV} {H:AHp} {s s' len:Nat} {cs:List AV} (h:OwnE E s 1 v H s' cs len):aLen Try.prog 31 v= .ret (.sc (.int .i64 (len:Nat))):=by
 obtain⟨_,_,_,⟨rfl,_,rfl⟩ |⟨nm,ver,_,rfl,_⟩⟩:=h
 ·exact len_nil31
 ·simp only[aLen,Try.underlying31]
end Go.Proofs.Ytdcomhdadnhpnaa
