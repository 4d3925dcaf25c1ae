import Derived.Test.YtdcomhdadnhpnaaYZM7
import Derived.IntWalk
set_option linter.all false
section
namespace Go.Am
open Go
def evA (Γ:List AV):Operand→AV
 | .tmp t=>Γ.getD t (.sc undef)
 | .const v=>.sc v
 | .global g=>.sc (.pointer (some ⟨g,0,none⟩))
 | .func f=>.fn (.func f) [] []
inductive AAct where
 |mem (m:AP AV)
 |call (f:FuncId) (args:List AV)
 |no
def optVal:Option AV→Option (Option Value)
 |none=>some none
 |some a=>a.val?.map some
def aSliceG (P:Program) (t:TypeId) (v:Value) (lo hi:Option AV):AP AV:=match optVal lo,optVal hi with
 |some l,some h=>AP.ofOption ((pureRun P (Instr.sliceAt t v l h none)).map .sc)
 |_,_=>.fail
def callable (P:Program) (f:FuncId):Bool:=match P.funcs[f]? with
 | some fn => fn.name != "runtime.NumGoroutine" && fn.body.isSome
 |none=>false
def aGL (P:Program) (e:Array Value→Sem Value) (args:List AV):AP AV:=match valL? args with
 |some vs=>AP.ofOption ((pureRun P (e vs.toArray)).map .sc)
 |none=>.fail
def aTypeAssert (P:Program) (x:AV) (t:TypeId) (ok:Bool):AP AV:=match P.underlying t,x with
 |some (.interface _),_=>.fail
 |some _,.ifc d v=>if d=t then .ret (if ok then .tup [v,.sc (.bool true)]else v)else if ok then match zeroOf P t with |some z=>.ret (.tup [.sc z,.sc (.bool false)]) |none=>.fail else .fail
 |_,_=>.fail
def aBuiltin (P:Program) (b:Builtin) (ts:List TypeId) (ty:TypeId) (args:List AV):AP AV:=match b,ts,args with
 | .len,[t],[x]=>aLen P t x
 | .append,[t,u],[s,x]=>if t=u then aAppend P t s x else .fail
 | .copy,[t,_],[d,x]=>aCopy P t d x
 | .max,ts,args=>aGL P (fun vs=>Builtin.max_ ts.toArray ty vs) args
 | .min,ts,args=>aGL P (fun vs=>Builtin.min_ ts.toArray ty vs) args
 |_,_,_=>.fail
def aStep (P:Program) (Γ:List AV) (o:Oper):AAct:=match o.op with
 | .move x=>.mem (.ret (evA Γ x))
 | .assign x=>.mem (.ret (evA Γ x))
 | .pick c a b=>match evA Γ c with
   | .sc (.bool t)=>.mem (.ret (if t then evA Γ a else evA Γ b))
   |_=>.no
 | .alloc t=>.mem (aAlloc P t)
 | .box _ x=>.mem (aBox (evA Γ x))
 | .build t ps=>.mem (AP.ofOption (aBuild P t (ps.toList.map fun p=>(p.1,evA Γ p.2))))
 | .buildSlice t n ps=>.mem (aBuildSlice P t n (ps.toList.map fun p=>(p.1,evA Γ p.2)))
 | .load t a=>.mem (aLoad P t (evA Γ a))
 | .store t a x=>.mem (aStore P t (evA Γ a) (evA Γ x))
 | .nilCheck x=>.mem (AP.ofOption (aNilCheck (evA Γ x)))
 | .binOp op t x y _=>.mem (aBin P op t x y (evA Γ x) (evA Γ y))
 | .unOp op _ x=>.mem (aG1 P (fun v=>Op.unary op v) (evA Γ x))
 | .convert s d x=>.mem (aG1 P (fun v=>convert s d v) (evA Γ x))
 | .makeInterface t x=>.mem (AP.ofOption (aMakeIface P t (evA Γ x)))
 | .makeFunc f first cap=>.mem (.ret (.fn f (first.toList.map (evA Γ)) (cap.toList.map (evA Γ))))
 | .makeMap t r=>match P.underlying t with
   |some (.map _ _)=>.mem (aMakeMap (r.map (evA Γ)))
   |_=>.no
 | .makeSlice t l c=>.mem (aMakeSlice P t (evA Γ l) (evA Γ c))
 | .slice t x lo hi none=>match evA Γ x with
   | .sc v=>.mem (aSliceG P t v (lo.map (evA Γ)) (hi.map (evA Γ)))
   |a=>.mem (aSlice P t a (lo.map (evA Γ)) (hi.map (evA Γ)))
 | .fieldAddr s x f=>.mem (AP.ofOption (aFieldAddr P s (evA Γ x) f))
 | .field s x f=>.mem (AP.ofOption (aField P s (evA Γ x) f))
 | .indexAddr t x i=>.mem (AP.ofOption (aIndexAddr P t (evA Γ x) (evA Γ i)))
 | .index t x i=>.mem (aIndex P t (evA Γ x) (evA Γ i))
 | .lookup t x i ok=>.mem (aLookup P t (evA Γ x) (evA Γ i) ok)
 | .mapUpdate t m k x=>.mem (aMapUpdate P t (evA Γ m) (evA Γ k) (evA Γ x))
 | .insert t m k x=>.mem (aMapUpdate P t (evA Γ m) (evA Γ k) (evA Γ x))
 | .typeAssert x _ t ok=>.mem (aTypeAssert P (evA Γ x) t ok)
 | .extract x i=>.mem (AP.ofOption (aExtract (evA Γ x) i))
 | .call c=>match c.callee with
   | .builtin b=>.mem (aBuiltin P b c.argTypes.toList o.type (c.args.toList.map (evA Γ)))
   | .value f=>match evA Γ f with
     | .fn (.func g) first cap=>if callable P g=true then .call g (first++c.args.toList.map (evA Γ)++cap)else .no
     |_=>.no
   |_=>.no
 |_=>.no
section
variable {P:Program} {ρ ρ':Inj} {H H':AHp} {O:Nat→Prop} {w w':World} {t:TypeId} {Γ:List AV} {a:Act}
theorem evA_ok (hf:Reps ρ O w Γ a.tmps.toList) (x:Operand):Rep ρ O w (evA Γ x) (a.eval x):=by
 cases x with
 |tmp t=>
  simp only[evA,Act.eval]
  rcases Nat.lt_or_ge t Γ.length with h |h
  ·obtain⟨v,h1,h2⟩:=hf.get (i:=t) (a:=Γ[t]) (by simp[h])
   rw[Array.getElem?_toList]at h1
   rw[List.getD_eq_getElem?_getD,List.getElem?_eq_getElem h]
   simpa[h1]using h2
  ·have h':a.tmps.size≤t:=by have:=hf.len;simp at this;omega
   rw[List.getD_eq_getElem?_getD,List.getElem?_eq_none h]
   simp[h']
   exact .sc _
 |const v=>exact .sc _
 |global g=>exact .sc _
 |func f=>exact Rep.fn_iff.2 ⟨#[],#[],rfl,Reps.nil,Reps.nil⟩
theorem evAs_ok (hf:Reps ρ O w Γ a.tmps.toList) (xs:List Operand):Reps ρ O w (xs.map (evA Γ)) (xs.map a.eval):=
 ⟨by simp,fun i b x hb hx=>by
  rw[List.getElem?_map]at hb hx
  cases hi:xs[i]? with
  |none=>rw[hi]at hb;cases hb
  |some y=>rw[hi]at hb hx;cases hb;cases hx;exact evA_ok hf y⟩
theorem evAo_ok (hf:Reps ρ O w Γ a.tmps.toList) (x:Option Operand):OptRep ρ O w (x.map (evA Γ)) (x.map a.eval):=by
 cases x with
 |none=>trivial
 |some x=>exact evA_ok hf x
theorem optVal_ok {x:Option AV} {v:Option Value} {r:Option Value} (h:OptRep ρ O w x v) (hr:optVal x=some r):v=r:=by
 cases x with
 |none=>cases v with
  |none=>simpa[optVal]using hr
  |some _=>exact h.elim
 |some x=>cases v with
  |none=>exact h.elim
  |some v=>
   simp only[optVal]at hr
   cases hv:x.val? with
   |none=>rw[hv]at hr;cases hr
   |some u=>rw[hv]at hr;simp at hr;rw[AV.val_ok x v u h hv];exact hr
theorem aGL_ok {e:Array Value→Sem Value} {args:List AV} {vs:List Value} (h:Rel ρ H w) (hr:Reps ρ (own ρ H) w args vs):SemOK P (e vs.toArray) id (aGL P e args) ρ H w:=by
 unfold aGL
 split
 ·rename_i us hu
  obtain rfl:=valL_ok args vs us hr hu
  refine SemOK.opt (fun r hr=>?_)
  cases hp:pureRun P (e vs.toArray)with
  |none=>rw[hp]at hr;cases hr
  |some z=>rw[hp]at hr;cases hr;exact SemOK.ret h (pureRun_ok hp w) (.sc _)
 ·exact .fail
theorem optOK {α:Type} {e:Sem α} {f:α→Value} {x:Option AV} (h:Rel ρ H w) (hx:∀a,x=some a→∃u,e.run P w= .ok u w∧Rep ρ (own ρ H) w a (f u)):SemOK P e f (AP.ofOption x) ρ H w:=
 SemOK.opt fun a ha=>let⟨_,h1,h2⟩:=hx a ha;SemOK.ret h h1 h2
theorem aBuiltin_ok {b:Builtin} {ts:Array TypeId} {ty:TypeId} {cs:Array Bool} {args:List AV} {vs:List Value} (h:Rel ρ H w) (hr:Reps ρ (own ρ H) w args vs):
  ∀s r H' s',(aBuiltin P b ts.toList ty args).run H s=some (r,H',s')→∃v w' ρ',(builtin b ts ty cs vs.toArray).run P w= .ok (.value v) w'∧Step ρ H w ρ' H' w'∧Rep ρ' (own ρ' H') w' r v:=by
 have key:∀(e:Sem Value) (m:AP AV),SemOK P e id m ρ H w→builtin b ts ty cs vs.toArray=(do pure (.value (←e)))→∀s r H' s',m.run H s=some (r,H',s')→
   ∃v w' ρ',(builtin b ts ty cs vs.toArray).run P w= .ok (.value v) w'∧Step ρ H w ρ' H' w'∧Rep ρ' (own ρ' H') w' r v:=by
  intro e m hm he s r H' s' hrun
  obtain⟨v,w',ρ',h1,h2,h3⟩:=hm s r H' s' hrun
  exact⟨v,w',ρ',by rw[he];simp[h1],h2,h3⟩
 have no:∀s r H' s',(AP.fail:AP AV).run H s=some (r,H',s')→∃v w' ρ',(builtin b ts ty cs vs.toArray).run P w= .ok (.value v) w'∧Step ρ H w ρ' H' w'∧Rep ρ' (own ρ' H') w' r v:=by
  intro s r H' s' h;simp[AP.run]at h
 unfold aBuiltin
 split
 ·rename_i t x hts
  have ets:ts= #[t]:=by rw[←Array.toList_inj];exact hts
  obtain⟨x',vs',rfl,r1,r2⟩:=hr.uncons
  obtain rfl:vs'=[]:=List.eq_nil_of_length_eq_zero (by simpa using r2.len)
  subst ets
  exact key _ _ (aLen_ok (ty:=ty) h r1) rfl
 ·rename_i t u s x hts
  have ets:ts= #[t,u]:=by rw[←Array.toList_inj];exact hts
  obtain⟨s',vs',rfl,r1,r2⟩:=hr.uncons
  obtain⟨x',vs'',rfl,r3,r4⟩:=r2.uncons
  obtain rfl:vs''=[]:=List.eq_nil_of_length_eq_zero (by simpa using r4.len)
  subst ets
  split
  ·rename_i e;subst e
   exact key _ _ (aAppend_ok (ty:=ty) h r1 r3) rfl
  ·exact no
 ·rename_i t u s x hts
  have ets:ts= #[t,u]:=by rw[←Array.toList_inj];exact hts
  obtain⟨s',vs',rfl,r1,r2⟩:=hr.uncons
  obtain⟨x',vs'',rfl,r3,r4⟩:=r2.uncons
  obtain rfl:vs''=[]:=List.eq_nil_of_length_eq_zero (by simpa using r4.len)
  subst ets
  exact key _ _ (aCopy_ok (ty:=ty) h r1 r3) rfl
 ·exact key _ _ (aGL_ok (e:=fun vs=>Builtin.max_ ts.toList.toArray ty vs) h hr) (by simp[builtin])
 ·exact key _ _ (aGL_ok (e:=fun vs=>Builtin.min_ ts.toList.toArray ty vs) h hr) (by simp[builtin])
 ·exact no
theorem aTypeAssert_ok {x:AV} {v:Value} {xt:TypeId} {ok:Bool} (h:Rel ρ H w) (hx:Rep ρ (own ρ H) w x v):SemOK P (Instr.typeAssert v xt t ok) id (aTypeAssert P x t ok) ρ H w:=by
 have hpk:∀(a b:AV) (c d:Value),Rep ρ (own ρ H) w a c→Rep ρ (own ρ H) w b d→Rep ρ (own ρ H) w (.tup [a,b]) (.tuple #[c,d]):=fun a b c d r1 r2=>Rep.tup_iff.2 ⟨#[c,d],rfl,(Reps.nil.cons r2).cons r1⟩
 unfold aTypeAssert
 split
 ·exact .fail
 ·rename_i d tt a hd hu
  cases hx with
  |ifc r=>
  rename_i v
  split
  ·rename_i e
   subst e
   refine SemOK.ret h (x:=if ok then .tuple #[v,.bool true]else v) ?_ ?_
   ·cases d<;>simp_all[Instr.typeAssert,underlying]
   ·cases ok
    ·exact r
    ·exact hpk _ _ _ _ r (.sc _)
  ·rename_i e
   split
   ·rename_i hok
    subst hok
    split
    ·rename_i z hz
     refine SemOK.ret h (x:=.tuple #[z,.bool false]) ?_ (hpk _ _ _ _ (.sc _) (.sc _))
     have hz':=run_zeroValue' (w:=w) hz
     cases d<;>simp_all[Instr.typeAssert,underlying]
    ·exact .fail
   ·exact .fail
 ·exact .fail
theorem aStep_mem {o:Oper} {m:AP AV} (h:Rel ρ H w) (hf:Reps ρ (own ρ H) w Γ a.tmps.toList) (hs:aStep P Γ o= .mem m):
  ∀s r H' s',m.run H s=some (r,H',s')→∃n v w' ρ',(execOp a.eval o).run P w= .ok n w'∧(n= .value v∨(n= .skip∧v=undef))∧Step ρ H w ρ' H' w'∧Rep ρ' (own ρ' H') w' r v:=by
 obtain⟨dst,op,type,pos,after,guard⟩:=o
 have val:∀(e:Sem Value),SemOK P e id m ρ H w→execOp a.eval { dst,op,type,pos,after,guard }=(do pure (.value (←e)))→∀s r H' s',m.run H s=some (r,H',s')→
   ∃n v w' ρ',(execOp a.eval { dst,op,type,pos,after,guard }).run P w= .ok n w'∧(n= .value v∨(n= .skip∧v=undef))∧Step ρ H w ρ' H' w'∧Rep ρ' (own ρ' H') w' r v:=by
  intro e hm he s r H' s' hrun
  obtain⟨v,w',ρ',h1,h2,h3⟩:=hm s r H' s' hrun
  exact⟨.value v,v,w',ρ',by rw[he];simp[h1],.inl rfl,h2,h3⟩
 have unit:∀(e:Sem Unit),SemOK P e (fun _=>undef) m ρ H w→execOp a.eval { dst,op,type,pos,after,guard }=(do e;pure .skip)→∀s r H' s',m.run H s=some (r,H',s')→
   ∃n v w' ρ',(execOp a.eval { dst,op,type,pos,after,guard }).run P w= .ok n w'∧(n= .value v∨(n= .skip∧v=undef))∧Step ρ H w ρ' H' w'∧Rep ρ' (own ρ' H') w' r v:=by
  intro e hm he s r H' s' hrun
  obtain⟨v,w',ρ',h1,h2,h3⟩:=hm s r H' s' hrun
  exact⟨.skip,undef,w',ρ',by rw[he];simp[h1],.inr ⟨rfl,rfl⟩,h2,h3⟩
 have ev:=fun x=>evA_ok hf x
 have hps:∀ps:Array (Nat×Operand),(ps.toList.map fun p=>(p.1,evA Γ p.2)).map (·.1)=(ps.map fun p=>(p.1,a.eval p.2)).toList.map (·.1)∧Reps ρ (own ρ H) w ((ps.toList.map fun p=>(p.1,evA Γ p.2)).map (·.2)) ((ps.map fun p=>(p.1,a.eval p.2)).toList.map (·.2)):=fun ps=>
  ⟨by simp[Function.comp_def],by
   have:=evAs_ok hf (ps.toList.map (·.2))
   simpa[Function.comp_def]using this⟩
 cases op<;>simp only[aStep]at hs
 case move x=>cases hs;exact val (pure (a.eval x)) (SemOK.ret h rfl (ev x)) rfl
 case assign x=>cases hs;exact val (pure (a.eval x)) (SemOK.ret h rfl (ev x)) rfl
 case pick c x y=>
  have hc:=ev c
  split at hs
  ·rename_i t hct
   rw[hct]at hc
   have hc':=Rep.sc_iff.1 hc
   cases hs
   refine val (do pure (if ←asBool (a.eval c)then a.eval x else a.eval y)) ?_ (by simp[execOp])
   rw[hc']
   refine SemOK.ret h (x:=if t then a.eval x else a.eval y) (by simp[asBool]) ?_
   cases t
   ·exact ev y
   ·exact ev x
  ·cases hs
 case alloc t=>cases hs;exact val _ (aAlloc_ok h) rfl
 case box t x=>cases hs;exact val _ (aBox_ok (t:=t) h (ev x)) rfl
 case build t ps=>cases hs;exact val _ (optOK h (fun b hb=>aBuild_ok (hps ps).1 (hps ps).2 hb)) rfl
 case buildSlice t n ps=>cases hs;exact val _ (aBuildSlice_ok h (hps ps).1 (hps ps).2) rfl
 case load t x=>cases hs;exact val _ (aLoad_ok h (ev x)) rfl
 case store t x y=>cases hs;exact unit _ (aStore_ok h (ev x) (ev y)) rfl
 case nilCheck x=>
  cases hs
  have hx:=ev x
  intro s r H' s' hrun
  cases hn:aNilCheck (evA Γ x)with
  |none=>rw[hn]at hrun;simp[AP.ofOption,AP.run]at hrun
  |some b=>
   rw[hn]at hrun
   simp only[AP.ofOption,AP.run,Option.some.injEq,Prod.mk.injEq]at hrun
   obtain⟨rfl,rfl,rfl⟩:=hrun
   obtain⟨rfl,-⟩:=aNilCheck_ok hx hn
   refine⟨.value (a.eval x),a.eval x,w,ρ,?_,.inl rfl,.refl h,hx⟩
   generalize hv:a.eval x=v at hx
   generalize hb:evA Γ x=b at hx hn
   simp only[execOp,hv]
   cases hx<;>first
    |rfl
    |(cases v with
      |pointer p=>cases p<;>first |rfl |(simp[aNilCheck]at hn;done)
      |func fn x y=>simp[aNilCheck]at hn
      |_=>first |rfl |(simp[aNilCheck]at hn;done))
    |(simp[aNilCheck]at hn;done)
    |(rename_i f _ _ _ _ _ _ _ _;cases f<;>first |rfl |(simp[aNilCheck]at hn;done))
 case binOp op t x y ty=>cases hs;exact val _ (aBin_ok (xo:=x) (yo:=y) h (ev x) (ev y)) rfl
 case unOp op t x=>cases hs;exact val _ (aG1_ok (e:=fun v=>Op.unary op v) h (ev x)) rfl
 case convert s d x=>cases hs;exact val _ (aG1_ok (e:=fun v=>convert s d v) h (ev x)) rfl
 case makeInterface t x=>cases hs;exact val _ (optOK h (fun b hb=>aMakeIface_ok (ev x) hb)) rfl
 case makeFunc f first cap=>
  cases hs
  refine val (Instr.makeFunc f (first.map a.eval) (cap.map a.eval)) (SemOK.ret h rfl (Rep.fn_iff.2 ⟨_,_,rfl,?_,?_⟩)) rfl
  ·simpa using evAs_ok hf first.toList
  ·simpa using evAs_ok hf cap.toList
 case makeMap t r=>
  split at hs
  ·rename_i k e hu
   cases hs
   exact val _ (aMakeMap_ok hu h (evAo_ok hf r)) rfl
  ·cases hs
 case makeSlice t l c=>cases hs;exact val _ (aMakeSlice_ok h (ev l) (ev c)) rfl
 case slice t x lo hi mx=>
  cases mx with
  |some _=>cases hs
  |none=>
   simp only at hs
   have hx:=ev x
   split at hs
   ·rename_i v hv
    cases hs
    rw[hv]at hx
    have hx':=Rep.sc_iff.1 hx
    refine val (Instr.sliceAt t (a.eval x) (lo.map a.eval) (hi.map a.eval) none) ?_ rfl
    rw[hx']
    unfold aSliceG
    split
    ·rename_i l hh hl hh'
     rw[optVal_ok (evAo_ok hf lo) hl,optVal_ok (evAo_ok hf hi) hh']
     refine SemOK.opt (fun r hr=>?_)
     cases hp:pureRun P (Instr.sliceAt t v l hh none)with
     |none=>rw[hp]at hr;cases hr
     |some z=>rw[hp]at hr;cases hr;exact SemOK.ret h (pureRun_ok hp w) (.sc _)
    ·exact .fail
   ·cases hs
    exact val _ (aSlice_ok h hx (evAo_ok hf lo) (evAo_ok hf hi)) rfl
 case fieldAddr s x f=>cases hs;exact val _ (optOK h (fun b hb=>aFieldAddr_ok (ev x) hb)) rfl
 case field s x f=>cases hs;exact val _ (optOK h (fun b hb=>aField_ok (ev x) hb)) rfl
 case indexAddr t x i=>cases hs;exact val _ (optOK h (fun b hb=>aIndexAddr_ok (ev x) (ev i) hb)) rfl
 case index t x i=>cases hs;exact val _ (aIndex_ok h (ev x) (ev i)) rfl
 case lookup t x i ok=>cases hs;exact val _ (aLookup_ok h (ev x) (ev i)) rfl
 case mapUpdate t m' k x=>cases hs;exact unit _ (aMapUpdate_ok h (ev m') (ev k) (ev x)) rfl
 case insert t m' k x=>cases hs;exact unit _ (aMapUpdate_ok h (ev m') (ev k) (ev x)) rfl
 case typeAssert x xt t ok=>cases hs;exact val _ (aTypeAssert_ok h (ev x)) rfl
 case extract x i=>cases hs;exact val _ (optOK h (fun b hb=>aExtract_ok (ev x) hb)) rfl
 case call c=>
  split at hs
  ·rename_i b hb
   cases hs
   intro s r H' s' hrun
   have hargs:=evAs_ok hf c.args.toList
   obtain⟨v,w',ρ',h1,h2,h3⟩:=aBuiltin_ok (cs:=c.args.map fun | .const _=>true |_=>false) h hargs s r H' s' hrun
   refine⟨.value v,v,w',ρ',?_,.inl rfl,h2,h3⟩
   have e:(c.args.toList.map a.eval).toArray=c.args.map a.eval:=by
    rw[←Array.toList_map]
   rw[e]at h1
   simp only[execOp,resolve,hb,Sem.run_bind,Sem.run_pure,Result.andThen_ok,invoke]
   exact h1
  ·split at hs
   ·split at hs<;>cases hs
   ·cases hs
  ·cases hs
 all_goals cases hs
theorem aStep_call {o:Oper} {f:FuncId} {args:List AV} (hf:Reps ρ O w Γ a.tmps.toList) (hs:aStep P Γ o= .call f args):
  ∃vs:List Value,(execOp a.eval o).run P w= .ok (.enter f vs.toArray) w∧Reps ρ O w args vs:=by
 obtain⟨dst,op,type,pos,after,guard⟩:=o
 cases op<;>simp only[aStep]at hs
 case call c=>
  split at hs
  ·cases hs
  ·rename_i fo hfo
   split at hs
   ·rename_i g first cap hg
    split at hs
    ·rename_i hcall
     cases hs
     have hfv:=evA_ok hf fo
     rw[hg]at hfv
     obtain⟨v1,v2,he,r1,r2⟩:=Rep.fn_iff.1 hfv
     refine⟨v1.toList++c.args.toList.map a.eval++v2.toList,?_,(r1.append (evAs_ok hf _)).append r2⟩
     unfold callable at hcall
     split at hcall
     ·rename_i fn hfn
      simp only[Bool.and_eq_true,bne_iff_ne,ne_eq]at hcall
      have hb:fn.body.isNone=false:=by cases hbb:fn.body<;>simp_all
      have hn : (fn.name == "runtime.NumGoroutine") = false := by simp [hcall.1]
      simp only[execOp,resolve,hfo,he,Deferred.ofValue,Sem.run_bind,Sem.run_pure,Result.andThen_ok,invoke,callFunc,run_program,hfn,hn,hb]
      simp
     ·cases hcall
    ·cases hs
   ·cases hs
  ·cases hs
 case pick c x y=>split at hs<;>cases hs
 case makeMap t r=>split at hs<;>cases hs
 case slice t x lo hi mx=>
  cases mx with
  |some _=>cases hs
  |none=>simp only at hs;split at hs<;>cases hs
 all_goals cases hs
end
end Go.Am
end
section
namespace Go.Am
open Go
def ACall (P:Program) (f:FuncId) (args:List AV) (m:AP AV):Prop:=
 ∀ρ H w vs,Rel ρ H w→Reps ρ (own ρ H) w args vs→∀s r H' s',m.run H s=some (r,H',s')→
  Calls P f vs.toArray w fun e w'=>∃v ρ',e= .returned v∧Step ρ H w ρ' H' w'∧Rep ρ' (own ρ' H') w' r v
abbrev CT:=FuncId→List AV→AP AV
def CTok (P:Program) (ct:CT):Prop:=∀f args,ACall P f args (ct f args)
def aOp (P:Program) (ct:CT) (Γ:List AV) (o:Oper):AP AV:=match aStep P Γ o with
 | .mem m=>m
 | .call f args=>ct f args
 | .no=>.fail
def putA (Γ:List AV) (d:Option Tmp) (r:AV):List AV:=match d with
 |some d=>Γ.set d r
 |none=>Γ
def aWanted (ops:Array Oper) (Γ:List AV) (o:Oper):Option Bool:=match o.guard with
 |none=>some true
 |some (j,want)=>match (ops[j]?).bind (·.dst)with
  |none=>some false
  |some d=>match Γ.getD d (.sc undef)with
   | .sc (.bool b)=>some (b==want)
   | .sc (.tuple _)=>some false
   |_=>none
section
variable {P:Program} {ρ ρ':Inj} {H H':AHp} {O:Nat→Prop} {w w':World} {t:TypeId} {Γ:List AV} {a:Act} {ct:CT} {ops:Array Oper}
theorem putA_ok {v:Value} {r:AV} (hf:Reps ρ O w Γ a.tmps.toList) (hr:Rep ρ O w r v) (d:Option Tmp):Reps ρ O w (putA Γ d r) (a.put d v).tmps.toList:=by
 cases d with
 |none=>exact hf
 |some d=>simp only[putA,Act.put,Array.toList_setIfInBounds];exact hf.set d hr
theorem aWanted_ok {o:Oper} {b:Bool} (hf:Reps ρ O w Γ a.tmps.toList) (h:aWanted ops Γ o=some b):Region.wanted o (yielded ops a.tmps)=b:=by
 unfold aWanted at h
 unfold Region.wanted
 cases hg:o.guard with
 |none=>rw[hg]at h;simpa using h
 |some g=>
  obtain⟨j,want⟩:=g
  rw[hg]at h
  simp only at h ⊢
  cases hd:(ops[j]?).bind (·.dst)with
  |none=>
   rw[hd]at h
   simp at h
   subst h
   simp[yielded,hd]
  |some d=>
   rw[hd]at h
   simp only at h
   have hev:=evA_ok hf (.tmp d)
   simp only[evA,Act.eval]at hev
   split at h
   ·rename_i b' hb
    rw[hb]at hev
    have:=Rep.sc_iff.1 hev
    cases h
    simp only[Array.getD_eq_getD_getElem?]at this
    cases hx:a.tmps[d]? with
    |none=>rw[hx]at this;cases this
    |some x=>rw[hx]at this;simp at this;subst this;simp[yielded,hd,hx]
   ·rename_i vs hb
    rw[hb]at hev
    have:=Rep.sc_iff.1 hev
    cases h
    simp only[Array.getD_eq_getD_getElem?]at this
    cases hx:a.tmps[d]? with
    |none=>simp[yielded,hd,hx]
    |some x=>rw[hx]at this;simp at this;subst this;simp[yielded,hd,hx]
   ·cases h
theorem aOp_ok (hct:CTok P ct) {o:Oper} (h:Rel ρ H w) (hf:Reps ρ (own ρ H) w Γ a.tmps.toList) {s s':Nat} {r:AV} (hr:(aOp P ct Γ o).run H s=some (r,H',s')) {K:Act→World→Prop} {Q:Exit→Act→World→Prop}
  (hK:∀ρ' w' v,Step ρ H w ρ' H' w'→Rep ρ' (own ρ' H') w' r v→K (a.put o.dst v) w'):o.wp P a w K Q:=by
 unfold aOp at hr
 unfold Oper.wp
 cases hs:aStep P Γ o with
 |mem m=>
  rw[hs]at hr
  obtain⟨n,v,w',ρ',h1,h2,h3,h4⟩:=aStep_mem h hf hs s r H' s' hr
  rw[h1]
  rcases h2 with rfl |⟨rfl,rfl⟩
  ·exact hK _ _ _ h3 h4
  ·exact hK _ _ _ h3 h4
 |call f args=>
  rw[hs]at hr
  obtain⟨vs,h1,h2⟩:=aStep_call (P:=P) (w:=w) hf hs
  rw[h1]
  refine(hct f args ρ H w vs h h2 s r H' s' hr).mono ?_
  rintro e w' ⟨v,ρ',rfl,h3,h4⟩
  exact hK _ _ _ h3 h4
 |no=>rw[hs]at hr;simp[AP.run]at hr
def aOps (P:Program) (ct:CT) (ops:Array Oper):List Oper→List AV→AHp→Nat→Option (List AV×AHp×Nat)
 | [],Γ,H,s=>some (Γ,H,s)
 |o::rest,Γ,H,s=>match aWanted ops Γ o with
  |some true=>match (aOp P ct Γ o).run H s with
   |some (r,H',s')=>aOps P ct ops rest (putA Γ o.dst r) H' s'
   |none=>none
  |some false=>aOps P ct ops rest (putA Γ o.dst (.sc undef)) H s
  |none=>none
theorem aOps_ok (hct:CTok P ct) {Q:Exit→Act→World→Prop}:∀(l:List Oper) (k:Nat) (Γ:List AV) (H:AHp) (s:Nat) (ρ:Inj) (w:World) (a:Act) (Γ':List AV) (H':AHp) (s':Nat),(∀j,l[j]? =ops[k+j]?)→
  Rel ρ H w→Reps ρ (own ρ H) w Γ a.tmps.toList→aOps P ct ops l Γ H s=some (Γ',H',s')→
  (∀ρ' w' a',Step ρ H w ρ' H' w'→Reps ρ' (own ρ' H') w' Γ' a'.tmps.toList→a'.defers=a.defers→Q .normal a' w')→wpOps P ops Q (List.range' k l.length) a w
 | [],k,Γ,H,s,ρ,w,a,Γ',H',s',_,h,hf,hr,hQ=>by
   simp only[aOps,Option.some.injEq,Prod.mk.injEq]at hr
   obtain⟨rfl,rfl,rfl⟩:=hr
   exact hQ _ _ _ (.refl h) hf rfl
 |o::rest,k,Γ,H,s,ρ,w,a,Γ',H',s',hl,h,hf,hr,hQ=>by
  have ho:ops[k]? =some o:=by simpa using(hl 0).symm
  have hl':∀j,rest[j]? =ops[k+1+j]? :=fun j=>by have:=hl (j+1);simpa[Nat.add_assoc,Nat.add_comm 1 j]using this
  have hd:∀v:Value,(a.put o.dst v).defers=a.defers:=fun v=>by cases o.dst<;>rfl
  simp only[List.length_cons,List.range'_succ,wpOps,ho]
  unfold aOps at hr
  split at hr
  ·rename_i hw
   rw[if_pos (aWanted_ok hf hw)]
   split at hr
   ·rename_i r H1 s1 hrun
    refine .inl (aOp_ok hct h hf hrun (fun ρ1 w1 v hst hrep=>?_))
    refine aOps_ok hct rest (k+1) _ H1 s1 ρ1 w1 _ Γ' H' s' hl' hst.rel (putA_ok (hst.reps hf) hrep _) hr (fun ρ2 w2 a2 h2 hf2 hd2=>hQ _ _ _ (hst.trans h2) hf2 (hd2.trans (hd v)))
   ·cases hr
  ·rename_i hw
   rw[if_neg (by rw[aWanted_ok hf hw];simp)]
   exact aOps_ok hct rest (k+1) _ H s ρ w _ Γ' H' s' hl' h (putA_ok hf (.sc _) _) hr (fun ρ2 w2 a2 h2 hf2 hd2=>hQ _ _ _ h2 hf2 (hd2.trans (hd undef)))
  ·cases hr
theorem aRegion_ok (hct:CTok P ct) {Q:Exit→Act→World→Prop} {id:Nat} {s s':Nat} {Γ':List AV} (h:Rel ρ H w) (hf:Reps ρ (own ρ H) w Γ a.tmps.toList) (hr:aOps P ct ops ops.toList Γ H s=some (Γ',H',s'))
  (hQ:∀ρ' w' a',Step ρ H w ρ' H' w'→Reps ρ' (own ρ' H') w' Γ' a'.tmps.toList→a'.defers=a.defers→Q .normal a' w'):(Code.region id ops false).wp P Q a w:=by
 refine wp_region ?_
 have:=aOps_ok (ops:=ops) hct (Q:=Q) ops.toList 0 Γ H s ρ w a Γ' H' s' (by simp) h hf hr hQ
 rw[List.range_eq_range']
 simpa using this
end
end Go.Am
end
section
namespace Go.Am
open Go
def AP.runL {α:Type}:AP α→AHp→Nat→Option (α×AHp×Nat×List Nat×List Nat)
 | .ret a,H,s=>some (a,H,s,[],[])
 | .get n k,H,s=>match H n with
   |some o=>match (k o).runL H s with
    |some (a,H',s',rd,wr)=>some (a,H',s',n::rd,wr)
    |none=>none
   |none=>none
 | .set n o k,H,s=>match k.runL (upd H n o) s with
   |some (a,H',s',rd,wr)=>some (a,H',s',rd,n::wr)
   |none=>none
 | .new o k,H,s=>match H s with
   |none=>match (k s).runL (upd H s o) (s+1)with
    |some (a,H',s',rd,wr)=>some (a,H',s',rd,s::wr)
    |none=>none
   |some _=>none
 | .fail,_,_=>none
theorem AP.runL_run {α:Type} (m:AP α):∀(H:AHp) (s:Nat) {a:α} {H':AHp} {s':Nat} {rd wr:List Nat},m.runL H s=some (a,H',s',rd,wr)→m.run H s=some (a,H',s'):=by
 induction m with
 |ret a=>intro H s a' H' s' rd wr h;simp only[AP.runL,Option.some.injEq,Prod.mk.injEq]at h;obtain⟨rfl,rfl,rfl,-,-⟩:=h;rfl
 |get n k ih=>
  intro H s a H' s' rd wr h
  simp only[AP.runL]at h
  simp only[AP.run]
  split at h
  ·rename_i o ho
   split at h
   ·rename_i a1 H1 s1 rd1 wr1 h1
    simp only[Option.some.injEq,Prod.mk.injEq]at h
    obtain⟨rfl,rfl,rfl,-,-⟩:=h
    rw[ho]
    exact ih o H s h1
   ·cases h
  ·cases h
 |set n o k ih=>
  intro H s a H' s' rd wr h
  simp only[AP.runL]at h
  simp only[AP.run]
  split at h
  ·rename_i a1 H1 s1 rd1 wr1 h1
   simp only[Option.some.injEq,Prod.mk.injEq]at h
   obtain⟨rfl,rfl,rfl,-,-⟩:=h
   exact ih _ s h1
  ·cases h
 |new o k ih=>
  intro H s a H' s' rd wr h
  simp only[AP.runL]at h
  simp only[AP.run]
  split at h
  ·rename_i hs
   split at h
   ·rename_i a1 H1 s1 rd1 wr1 h1
    simp only[Option.some.injEq,Prod.mk.injEq]at h
    obtain⟨rfl,rfl,rfl,-,-⟩:=h
    rw[hs]
    exact ih s _ _ h1
   ·cases h
  ·cases h
 |fail=>intro H s a H' s' rd wr h;simp[AP.runL]at h
def over (wr:List Nat) (H' H:AHp):AHp:=fun n=>if n∈wr then H' n else H n
theorem AP.runL_frame {α:Type} (m:AP α):∀(H:AHp) (s:Nat) {a:α} {H':AHp} {s':Nat} {rd wr:List Nat},m.runL H s=some (a,H',s',rd,wr)→
  (∀n,n∉wr→H' n=H n)∧∀H2:AHp,(∀n,n∈rd→H2 n=H n)→(∀n,n∈wr→H2 n=H n)→m.runL H2 s=some (a,over wr H' H2,s',rd,wr):=by
 induction m with
 |ret a=>
  intro H s a' H' s' rd wr h
  simp only[AP.runL,Option.some.injEq,Prod.mk.injEq]at h
  obtain⟨rfl,rfl,rfl,rfl,rfl⟩:=h
  refine⟨fun _ _=>rfl,fun H2 _ _=>?_⟩
  have e:over [] H H2=H2:=by funext n;simp[over]
  simp[AP.runL,e]
 |get n k ih=>
  intro H s a H' s' rd wr h
  simp only[AP.runL]at h
  split at h
  ·rename_i o ho
   split at h
   ·rename_i a1 H1 s1 rd1 wr1 h1
    simp only[Option.some.injEq,Prod.mk.injEq]at h
    obtain⟨rfl,rfl,rfl,rfl,rfl⟩:=h
    obtain⟨k1,k2⟩:=ih o H s h1
    refine⟨k1,fun H2 h2 h3=>?_⟩
    have e1:H2 n=some o:=by rw[h2 n (by simp),ho]
    have e2:=k2 H2 (fun m hm=>h2 m (by simp[hm])) h3
    simp only[AP.runL,e1,e2]
   ·cases h
  ·cases h
 |set n o k ih=>
  intro H s a H' s' rd wr h
  simp only[AP.runL]at h
  split at h
  ·rename_i a1 H1 s1 rd1 wr1 h1
   simp only[Option.some.injEq,Prod.mk.injEq]at h
   obtain⟨rfl,rfl,rfl,rfl,rfl⟩:=h
   obtain⟨k1,k2⟩:=ih (upd H n o) s h1
   refine⟨fun m hm=>?_,fun H2 h2 h3=>?_⟩
   ·simp only[List.mem_cons,not_or]at hm
    rw[k1 m hm.2,upd_ne _ _ hm.1]
   ·have hag:∀m,H2 m=H m→upd H2 n o m=upd H n o m:=fun m hm=>by unfold upd;split<;>simp[hm]
    have e2:=k2 (upd H2 n o) (fun m hm=>hag m (h2 m hm)) (fun m hm=>hag m (h3 m (by simp[hm])))
    simp only[AP.runL,e2]
    congr 3
    funext m
    unfold over
    by_cases hm:m∈wr1
    ·simp[hm]
    ·by_cases hn:m=n
     ·subst hn;simp[hm,k1 m hm]
     ·simp[hm,hn,upd_ne]
  ·cases h
 |new o k ih=>
  intro H s a H' s' rd wr h
  simp only[AP.runL]at h
  split at h
  ·rename_i hs
   split at h
   ·rename_i a1 H1 s1 rd1 wr1 h1
    simp only[Option.some.injEq,Prod.mk.injEq]at h
    obtain⟨rfl,rfl,rfl,rfl,rfl⟩:=h
    obtain⟨k1,k2⟩:=ih s (upd H s o) (s+1) h1
    refine⟨fun m hm=>?_,fun H2 h2 h3=>?_⟩
    ·simp only[List.mem_cons,not_or]at hm
     rw[k1 m hm.2,upd_ne _ _ hm.1]
    ·have hag:∀m,H2 m=H m→upd H2 s o m=upd H s o m:=fun m hm=>by unfold upd;split<;>simp[hm]
     have e1:H2 s=none:=by rw[h3 s (by simp),hs]
     have e2:=k2 (upd H2 s o) (fun m hm=>hag m (h2 m hm)) (fun m hm=>hag m (h3 m (by simp[hm])))
     simp only[AP.runL,e1,e2]
     congr 3
     funext m
     unfold over
     by_cases hm:m∈wr1
     ·simp[hm]
     ·by_cases hn:m=s
      ·subst hn;simp[hm,k1 m hm]
      ·simp[hm,hn,upd_ne]
   ·cases h
  ·cases h
 |fail=>intro H s a H' s' rd wr h;simp[AP.runL]at h
def aOpAt (P:Program) (ct:CT) (ops:Array Oper) (Γ:List AV) (H:AHp) (s i:Nat):Option (AV×AHp×Nat×List Nat×List Nat):=match ops[i]? with
 |none=>none
 |some o=>match aWanted ops Γ o with
  |some true=>(aOp P ct Γ o).runL H s
  |some false=>some (.sc undef,H,s,[],[])
  |none=>none
structure Tr where
 i:Nat
 s:Nat
 rd:List Nat
 wr:List Nat
def dstOf (ops:Array Oper) (i:Nat):Option Tmp:=(ops[i]?).bind (·.dst)
def Runs (P:Program) (ct:CT) (ops:Array Oper):List Tr→List AV→AHp→List AV→AHp→Prop
 | [],Γ,H,Γ',H'=>Γ'=Γ∧H'=H
 |x::T,Γ,H,Γ',H'=>∃r H1 s1,aOpAt P ct ops Γ H x.s x.i=some (r,H1,s1,x.rd,x.wr)∧Runs P ct ops T (putA Γ (dstOf ops x.i) r) H1 Γ' H'
def disj (xs ys:List Nat):Bool:=xs.all fun n=>!ys.contains n
def indepB (ops:Array Oper) (x y:Tr):Bool:=disj x.wr y.rd&&disj x.wr y.wr&&disj y.wr x.rd&&
 (match ops[x.i]?,ops[y.i]? with
  |some o,some p=>o.apart ops p
  |_,_=>false)
theorem disj_ok {xs ys:List Nat} (h:disj xs ys=true):∀n,n∈xs→n∉ys:=fun n hn hm=>by
 have:=List.all_eq_true.1 h n hn
 simp[hm]at this
section
variable {P:Program} {ct:CT} {ops:Array Oper} {Γ Γ':List AV} {H H':AHp}
theorem evA_put {Γ:List AV} {d:Option Tmp} {r:AV} {x:Operand} (h:∀t,d=some t→x≠.tmp t):evA (putA Γ d r) x=evA Γ x:=by
 cases d with
 |none=>rfl
 |some d=>
  cases x with
  |tmp t=>
   have hne:d≠t:=fun e=>h d rfl (e ▸ rfl)
   simp[evA,putA,List.getD_eq_getElem?_getD,List.getElem?_set_ne hne]
  |_=>rfl
theorem putA_comm {Γ:List AV} {d e:Option Tmp} {r u:AV} (h:∀t,d=some t→e≠some t):putA (putA Γ d r) e u=putA (putA Γ e u) d r:=by
 cases d with
 |none=>rfl
 |some d=>
  cases e with
  |none=>rfl
  |some e=>
   have hne:d≠e:=fun he=>h d rfl (he ▸ rfl)
   simp only[putA]
   rw[List.set_comm _ _ hne]
theorem aStep_congr {Γ Γ':List AV} (o:Oper) (h:∀x∈o.op.operands,evA Γ x=evA Γ' x):aStep P Γ o=aStep P Γ' o:=by
 obtain⟨dst,op,type,pos,after,guard⟩:=o
 have pairs:∀ps:Array (Nat×Operand),(∀x∈ps.toList.map (·.2),evA Γ x=evA Γ' x)→(ps.toList.map fun p=>(p.1,evA Γ p.2))=(ps.toList.map fun p=>(p.1,evA Γ' p.2)):=fun ps hp=>
  List.map_congr_left fun p hm=>by rw[hp p.2 (List.mem_map.2 ⟨p,hm,rfl⟩)]
 have opt:∀r:Option Operand,(∀x,r=some x→evA Γ x=evA Γ' x)→r.map (evA Γ)=r.map (evA Γ'):=fun r hr=>by cases r with |none=>rfl |some x=>simp[hr x rfl]
 cases op<;>simp only[Op.operands]at h<;>simp only[aStep]
 case build t ps=>rw[pairs ps fun x hx=>h x (by simpa using hx)]
 case buildSlice t n ps=>rw[pairs ps fun x hx=>h x (by simpa using hx)]
 case makeFunc f first cap=>
  rw[List.map_congr_left (g:=evA Γ') (fun x hx=>h x (by simp;exact .inl (by simpa using hx))),List.map_congr_left (l:=cap.toList) (g:=evA Γ') (fun x hx=>h x (by simp;exact .inr (by simpa using hx)))]
 case makeMap t r=>rw[opt r fun x hx=>h x (by subst hx;simp)]
 case slice t x lo hi mx=>
  cases mx with
  |some _=>rfl
  |none=>dsimp only;rw[h x (by simp),opt lo fun y hy=>h y (by subst hy;simp),opt hi fun y hy=>h y (by subst hy;simp)]
 case call c=>
  have hargs:c.args.toList.map (evA Γ)=c.args.toList.map (evA Γ'):=List.map_congr_left fun x hx=>h x (by simp[Call.operands];exact .inr (by simpa using hx))
  rw[hargs]
  cases hc:c.callee with
  |value f=>
   have hf:evA Γ f=evA Γ' f:=h f (by simp[Call.operands,hc])
   simp only[hf]
  |_=>rfl
 all_goals(first |rfl |(simp only[List.mem_toArray,List.mem_cons,List.not_mem_nil,or_false,forall_eq_or_imp,forall_eq]at h;simp only[h];done) |(simp at h;simp only[h];done))
theorem aWanted_put {o:Oper} {d:Option Tmp} {r:AV} (h:∀t,d=some t→t∉o.looksAt ops):aWanted ops (putA Γ d r) o=aWanted ops Γ o:=by
 unfold aWanted
 cases hg:o.guard with
 |none=>rfl
 |some g=>
  obtain⟨j,want⟩:=g
  simp only
  cases hd:(ops[j]?).bind (·.dst)with
  |none=>rfl
  |some e=>
   simp only
   have:(putA Γ d r).getD e (.sc undef)=Γ.getD e (.sc undef):=by
    have:=evA_put (Γ:=Γ) (d:=d) (r:=r) (x:=.tmp e) (fun t ht he=>by
     cases he
     exact h _ ht (by simp[Oper.looksAt,hg,hd]))
    exact this
   rw[this]
theorem aOp_put {o:Oper} {d:Option Tmp} {r:AV} (h:∀t,d=some t→t∉o.looksAt ops):aOp P ct (putA Γ d r) o=aOp P ct Γ o:=by
 unfold aOp
 rw[aStep_congr (P:=P) (Γ:=putA Γ d r) (Γ':=Γ) o (fun x hx=>evA_put (fun t ht he=>by
  subst he
  exact h t ht (by simp only[Oper.looksAt];exact List.mem_append_left _ (List.mem_filterMap.2 ⟨.tmp t,by simpa using hx,rfl⟩))))]
theorem over_comm {H H1 H2:AHp} {w1 w2:List Nat} (hd:∀n,n∈w1→n∉w2):over w2 H2 (over w1 H1 H)=over w1 H1 (over w2 H2 H):=by
 funext n
 unfold over
 by_cases h1:n∈w1
 ·simp[h1,hd n h1]
 ·simp[h1]
theorem aOpAt_frame {s i s1:Nat} {r:AV} {H1:AHp} {rd wr:List Nat} (h:aOpAt P ct ops Γ H s i=some (r,H1,s1,rd,wr)):
  (H1=over wr H1 H)∧∀H2:AHp,(∀n,n∈rd→H2 n=H n)→(∀n,n∈wr→H2 n=H n)→aOpAt P ct ops Γ H2 s i=some (r,over wr H1 H2,s1,rd,wr):=by
 unfold aOpAt at h ⊢
 split at h
 ·cases h
 ·rename_i o ho
  split at h
  ·rename_i hw
   obtain⟨k1,k2⟩:=AP.runL_frame _ H s h
   refine⟨?_,fun H2 h2 h3=>?_⟩
   ·funext n;unfold over;by_cases hn:n∈wr
    ·simp[hn]
    ·simp[hn,k1 n hn]
   ·exact k2 H2 h2 h3
  ·rename_i hw
   simp only[Option.some.injEq,Prod.mk.injEq]at h
   obtain⟨rfl,rfl,rfl,rfl,rfl⟩:=h
   have e:∀A B:AHp,over [] A B=B:=fun A B=>by funext n;simp[over]
   exact⟨(e H H).symm,fun H2 _ _=>by rw[e]⟩
  ·cases h
theorem aOpAt_put {s i:Nat} {d:Option Tmp} {r:AV} (h:∀o,ops[i]? =some o→∀t,d=some t→t∉o.looksAt ops):aOpAt P ct ops (putA Γ d r) H s i=aOpAt P ct ops Γ H s i:=by
 unfold aOpAt
 cases ho:ops[i]? with
 |none=>rfl
 |some o=>simp only;rw[aWanted_put (h o ho),aOp_put (h o ho)]
theorem Runs.swap {x y:Tr} {T:List Tr} (hi:indepB ops x y=true) (h:Runs P ct ops (x::y::T) Γ H Γ' H'):Runs P ct ops (y::x::T) Γ H Γ' H':=by
 obtain⟨r,H1,s1,hx,u,H2,s2,hy,hT⟩:=h
 simp only[indepB,Bool.and_eq_true]at hi
 obtain⟨⟨⟨d1,d2⟩,d3⟩,hap⟩:=hi
 have d1:=disj_ok d1
 have d2:=disj_ok d2
 have d3:=disj_ok d3
 have hap':∃o p,ops[x.i]? =some o∧ops[y.i]? =some p∧o.apart ops p=true:=by
  split at hap
  ·rename_i o p h1 h2;exact⟨o,p,h1,h2,hap⟩
  ·cases hap
 obtain⟨o,p,ho,hp,hap⟩:=hap'
 obtain⟨a1,a2,a3⟩:=Oper.apart_spec hap
 have edo:dstOf ops x.i=o.dst:=by simp[dstOf,ho]
 have edp:dstOf ops y.i=p.dst:=by simp[dstOf,hp]
 -- y at the first state
 rw[aOpAt_put (fun q hq t ht=>by rw[hp]at hq;cases hq;rw[edo]at ht;exact a1 t ht)]at hy
 obtain⟨e1,f1⟩:=aOpAt_frame hx
 obtain⟨e2,f2⟩:=aOpAt_frame hy
 have hag:∀n,n∉x.wr→H n=H1 n:=fun n hn=>by rw[e1];simp[over,hn]
 have hy':=f2 H (fun n hn=>hag n (fun hm=>d1 n hm hn)) (fun n hn=>hag n (fun hm=>d2 n hm hn))
 have hx':=f1 (over y.wr H2 H) (fun n hn=>by unfold over;rw[if_neg (fun hm=>d3 n hm hn)]) (fun n hn=>by unfold over;rw[if_neg (fun hm=>d2 n hn hm)])
 refine⟨u,_,s2,hy',r,over x.wr H1 (over y.wr H2 H),s1,?_,?_⟩
 ·rw[aOpAt_put (fun q hq t ht=>by rw[ho]at hq;cases hq;rw[edp]at ht;exact a3 t ht)]
  exact hx'
 ·have eH:over x.wr H1 (over y.wr H2 H)=H2:=by
   rw[over_comm (fun n hn hm=>d2 n hm hn),←e1,←e2]
  have eG:putA (putA Γ (dstOf ops y.i) u) (dstOf ops x.i) r=putA (putA Γ (dstOf ops x.i) r) (dstOf ops y.i) u:=by
   rw[edo,edp];exact(putA_comm (fun t ht=>a2 t ht)).symm
  rw[eH,eG]
  exact hT
theorem Runs.front {y:Tr} {T2:List Tr}:∀(T1:List Tr) {Γ:List AV} {H:AHp},(∀x∈T1,indepB ops x y=true)→Runs P ct ops (T1++y::T2) Γ H Γ' H'→Runs P ct ops (y::(T1++T2)) Γ H Γ' H'
 | [],Γ,H,_,h=>h
 |x::T1,Γ,H,hi,h=>by
  obtain⟨r,H1,s1,hx,hT⟩:=h
  have:=Runs.front T1 (fun z hz=>hi z (by simp[hz])) hT
  exact Runs.swap (hi x (by simp)) ⟨r,H1,s1,hx,this⟩
end
end Go.Am
end
section
namespace Go.Am
open Go
def lexL (P:Program) (ct:CT) (ops:Array Oper):List Nat→List AV→AHp→Nat→Option (List AV×AHp×Nat×List Tr)
 | [],Γ,H,s=>some (Γ,H,s,[])
 |i::is,Γ,H,s=>match aOpAt P ct ops Γ H s i with
  |some (r,H1,s1,rd,wr)=>match lexL P ct ops is (putA Γ (dstOf ops i) r) H1 s1 with
   |some (Γ',H',s',T)=>some (Γ',H',s',⟨i,s,rd,wr⟩::T)
   |none=>none
  |none=>none
def pairsB (ops:Array Oper) (bef:Array Nat):List Tr→Bool
 | []=>true
 |x::T=>T.all (fun y=>(bef.getD y.i 0).testBit x.i||indepB ops x y)&&pairsB ops bef T
def backB (ops:Array Oper):Bool:=(List.range ops.size).all fun i=>match ops[i]? with
 |some o=>o.after.toList.all fun e=>!Region.binds .any e||decide (e.on<i)
 |none=>true
def aRegionD (P:Program) (ct:CT) (ops:Array Oper) (Γ:List AV) (H:AHp) (s:Nat):Option (List AV×AHp×Nat):=
 match lexL P ct ops (List.range ops.size) Γ H s with
 |some (Γ',H',s',T)=>if pairsB ops (Region.before ops) T=true∧backB ops=true then some (Γ',H',s')else none
 |none=>none
section
variable {P:Program} {ct:CT} {ops:Array Oper}
theorem lexL_ok:∀(is:List Nat) {Γ Γ':List AV} {H H':AHp} {s s':Nat} {T:List Tr},lexL P ct ops is Γ H s=some (Γ',H',s',T)→Runs P ct ops T Γ H Γ' H'∧T.map (·.i)=is
 | [],Γ,Γ',H,H',s,s',T,h=>by
   simp only[lexL,Option.some.injEq,Prod.mk.injEq]at h
   obtain⟨rfl,rfl,rfl,rfl⟩:=h
   exact⟨⟨rfl,rfl⟩,rfl⟩
 |i::is,Γ,Γ',H,H',s,s',T,h=>by
  simp only[lexL]at h
  split at h
  ·rename_i r H1 s1 rd wr h1
   split at h
   ·rename_i Γ2 H2 s2 T2 h2
    simp only[Option.some.injEq,Prod.mk.injEq]at h
    obtain⟨rfl,rfl,rfl,rfl⟩:=h
    obtain⟨k1,k2⟩:=lexL_ok is h2
    exact⟨⟨r,H1,s1,h1,k1⟩,by simp[k2]⟩
   ·cases h
  ·cases h
theorem before_step (acc:Array Nat) (o:Oper) (j:Nat) (h:(o.after.foldl (fun s e=>if Region.binds .any e then s ||| 2^e.on ||| acc.getD e.on 0 else s) 0).testBit j=true):
  ∃e∈o.after.toList,Region.binds .any e=true∧(j=e.on∨(acc.getD e.on 0).testBit j=true):=by
 rw[←Array.foldl_toList]at h
 have key:∀(l:List Edge) (s:Nat),(l.foldl (fun s e=>if Region.binds .any e then s ||| 2^e.on ||| acc.getD e.on 0 else s) s).testBit j=true→s.testBit j=true∨∃e∈l,Region.binds .any e=true∧(j=e.on∨(acc.getD e.on 0).testBit j=true):=by
  intro l
  induction l with
  |nil=>intro s h;exact .inl h
  |cons e l ih=>
   intro s h
   rw[List.foldl_cons]at h
   rcases ih _ h with h1 |⟨e',he',r⟩
   ·split at h1
    ·rename_i hb
     rw[Nat.testBit_or,Nat.testBit_or,Nat.testBit_two_pow]at h1
     simp only[Bool.or_eq_true,decide_eq_true_eq]at h1
     rcases h1 with(h1 |h1) |h1
     ·exact .inl h1
     ·exact .inr ⟨e,by simp,hb,.inl h1.symm⟩
     ·exact .inr ⟨e,by simp,hb,.inr h1⟩
    ·exact .inl h1
   ·exact .inr ⟨e',by simp[he'],r⟩
 rcases key _ _ h with h1 |h1
 ·simp at h1
 ·exact h1
theorem before_spec (i j:Nat) (h:((Region.before ops).getD i 0).testBit j=true):∃o,ops[i]? =some o∧∃e∈o.after.toList,Region.binds .any e=true∧(j=e.on∨((Region.before ops).getD e.on 0).testBit j=true):=by
 unfold Region.before at h ⊢
 rw[←Array.foldl_toList]at h ⊢
 have key:∀(l:List Oper) (acc:Array Nat),(∀(k v:Nat),acc[k]? =some v→(l.foldl (fun acc o=>acc.push (o.after.foldl (fun s e=>if Region.binds .any e then s ||| 2^e.on ||| acc.getD e.on 0 else s) 0)) acc)[k]? =some v)∧
   ∀(i v:Nat),acc.size≤i→(l.foldl (fun acc o=>acc.push (o.after.foldl (fun s e=>if Region.binds .any e then s ||| 2^e.on ||| acc.getD e.on 0 else s) 0)) acc)[i]? =some v→v.testBit j=true→
    ∃o,l[i-acc.size]? =some o∧∃e∈o.after.toList,Region.binds .any e=true∧(j=e.on∨((l.foldl (fun acc o=>acc.push (o.after.foldl (fun s e=>if Region.binds .any e then s ||| 2^e.on ||| acc.getD e.on 0 else s) 0)) acc).getD e.on 0).testBit j=true):=by
  intro l
  induction l with
  |nil=>
   intro acc
   refine⟨fun k v h=>h,fun i v hi hv _=>?_⟩
   rw[List.foldl_nil,Array.getElem?_eq_none hi]at hv;cases hv
  |cons o l ih=>
   intro acc
   simp only[List.foldl_cons]
   obtain⟨k1,k2⟩:=ih (acc.push (o.after.foldl (fun s e=>if Region.binds .any e then s ||| 2^e.on ||| acc.getD e.on 0 else s) 0))
   have pre:∀k v,acc[k]? =some v→(acc.push (o.after.foldl (fun s e=>if Region.binds .any e then s ||| 2^e.on ||| acc.getD e.on 0 else s) 0))[k]? =some v:=fun k v h=>by
    rw[Array.getElem?_push_lt (Array.getElem?_eq_some_iff.1 h).1]
    have:=Array.getElem?_eq_some_iff.1 h
    rw[this.2]
   refine⟨fun k v h=>k1 k v (pre k v h),fun i v hi hv hb=>?_⟩
   rcases Nat.eq_or_lt_of_le hi with heq |hlt
   ·subst heq
    have h1:=k1 acc.size (o.after.foldl (fun s e=>if Region.binds .any e then s ||| 2^e.on ||| acc.getD e.on 0 else s) 0) (by simp)
    rw[h1]at hv
    cases hv
    obtain⟨e,he,hbe,hj⟩:=before_step acc o j hb
    refine⟨o,by simp,e,he,hbe,hj.imp id (fun hj=>?_)⟩
    cases hx:acc[e.on]? with
    |none=>simp[hx]at hj
    |some u=>
     have:=k1 e.on u (pre e.on u hx)
     rw[Array.getD_eq_getD_getElem?,hx]at hj
     rw[Array.getD_eq_getD_getElem?,this]
     exact hj
   ·obtain⟨o',ho',r⟩:=k2 i v (by simp;omega) hv hb
    refine⟨o',?_,r⟩
    rw[show i-acc.size=(i-(acc.size+1))+1 by omega]
    simpa using ho'
 obtain⟨_,k2⟩:=key ops.toList #[]
 cases hv:(ops.toList.foldl (fun acc o=>acc.push (o.after.foldl (fun s e=>if Region.binds .any e then s ||| 2^e.on ||| acc.getD e.on 0 else s) 0)) #[])[i]? with
 |none=>rw[Array.getD_eq_getD_getElem?,hv]at h;simp at h
 |some v=>
  rw[Array.getD_eq_getD_getElem?,hv]at h
  obtain⟨o,ho,r⟩:=k2 i v (by simp) hv h
  exact⟨o,by simpa using ho,r⟩
theorem aOpAt_ok (hct:CTok P ct) {ρ:Inj} {H H':AHp} {w:World} {Γ:List AV} {a:Act} {s s' i:Nat} {r:AV} {rd wr:List Nat} (h:Rel ρ H w) (hf:Reps ρ (own ρ H) w Γ a.tmps.toList) (hr:aOpAt P ct ops Γ H s i=some (r,H',s',rd,wr))
  {K:Act→World→Prop} {Q:Exit→Act→World→Prop} (hK:∀ρ' w' v,Step ρ H w ρ' H' w'→Rep ρ' (own ρ' H') w' r v→K (a.put (dstOf ops i) v) w'):wpOp P ops Q i K a w:=by
 unfold aOpAt at hr
 unfold wpOp
 cases ho:ops[i]? with
 |none=>rw[ho]at hr;cases hr
 |some o=>
  have hd:dstOf ops i=o.dst:=by simp[dstOf,ho]
  rw[ho]at hr
  rw[hd]at hK
  simp only at hr ⊢
  split at hr
  ·rename_i hw
   rw[if_pos (aWanted_ok hf hw)]
   exact .inl (aOp_ok hct h hf (AP.runL_run _ _ _ hr) hK)
  ·rename_i hw
   simp only[Option.some.injEq,Prod.mk.injEq]at hr
   obtain⟨rfl,rfl,rfl,-,-⟩:=hr
   rw[if_neg (by rw[aWanted_ok hf hw];simp)]
   exact hK ρ w undef (.refl h) (.sc _)
  ·cases hr
theorem pairs_sub {bef:Array Nat} {y:Tr} {T2:List Tr}:∀(T1:List Tr),pairsB ops bef (T1++y::T2)=true→pairsB ops bef (T1++T2)=true∧∀x∈T1,((bef.getD y.i 0).testBit x.i||indepB ops x y)=true
 | [],h=>by simp only[List.nil_append,pairsB,Bool.and_eq_true]at h;exact⟨h.2,fun x hx=>by cases hx⟩
 |x::T1,h=>by
  simp only[List.cons_append,pairsB,Bool.and_eq_true]at h
  obtain⟨k1,k2⟩:=pairs_sub T1 h.2
  have h1:=List.all_eq_true.1 h.1
  refine⟨?_,fun z hz=>?_⟩
  ·simp only[List.cons_append,pairsB,Bool.and_eq_true]
   refine⟨List.all_eq_true.2 fun z hz=>h1 z ?_,k1⟩
   rcases List.mem_append.1 hz with hz |hz
   ·exact List.mem_append_left _ hz
   ·exact List.mem_append_right _ (by simp[hz])
  ·rcases List.mem_cons.1 hz with rfl |hz
   ·exact h1 y (by simp)
   ·exact k2 z hz
theorem any_ok (hct:CTok P ct) (hback:backB ops=true) {Q:Exit→Act→World→Prop} {Γ':List AV} {H':AHp}:∀(n:Nat) (T:List Tr) (listed:Array Bool) (Γ:List AV) (H:AHp) (ρ:Inj) (w:World) (a:Act),T.length=n→
  Rel ρ H w→Reps ρ (own ρ H) w Γ a.tmps.toList→Runs P ct ops T Γ H Γ' H'→pairsB ops (Region.before ops) T=true→listed.size=ops.size→(T.map (·.i)).Pairwise (· < ·)→(∀i,i<ops.size→(listed.getD i true=false↔i∈T.map (·.i)))→(∀x∈T,x.i<ops.size)→
  (∀k,listed.getD k false=true→∀j,((Region.before ops).getD k 0).testBit j=true→listed.getD j false=true)→
  (∀ρ' w' a',Step ρ H w ρ' H' w'→Reps ρ' (own ρ' H') w' Γ' a'.tmps.toList→a'.defers=a.defers→Q .normal a' w')→wpAny P .any ops Q n listed a w
 |0,T,listed,Γ,H,ρ,w,a,hn,h,hf,hr,hp,hls,hpw,hU,hlt,hD,hQ=>by
  obtain rfl:T=[]:=List.eq_nil_of_length_eq_zero hn
  obtain⟨rfl,rfl⟩:=hr
  refine⟨?_,hQ _ _ _ (.refl h) hf rfl⟩
  rw[List.eq_nil_iff_forall_not_mem]
  intro i hi
  obtain⟨h1,o,ho,_⟩:=mem_ready.1 hi
  have hi':i<ops.size:=(Array.getElem?_eq_some_iff.1 ho).1
  have:=(hU i hi').1 h1
  simp at this
 |n+1,T,listed,Γ,H,ρ,w,a,hn,h,hf,hr,hp,hls,hpw,hU,hlt,hD,hQ=>by
  refine⟨fun hnil=>?_,fun i hi=>?_⟩
  ·exfalso
   cases T with
   |nil=>simp at hn
   |cons x T=>
    have hx:x.i<ops.size:=hlt x (by simp)
    have:x.i∈Region.ready .any ops listed:=by
     refine mem_ready.2 ⟨(hU _ hx).2 (by simp),ops[x.i],by simp[hx],fun e he hb=>?_⟩
     have hbk:=List.all_eq_true.1 hback x.i (by simpa using hx)
     have hget:ops[x.i]? =some ops[x.i]:=by simp[hx]
     rw[hget]at hbk
     have:=List.all_eq_true.1 hbk e (by simpa using he)
     simp[hb]at this
     have hlt':e.on<ops.size:=by omega
     cases hle:listed.getD e.on true with
     |true=>
      simp only[Array.getD_eq_getD_getElem?]at hle ⊢
      rw[Array.getElem?_eq_getElem (by omega)]at hle ⊢
      simpa using hle
     |false=>
      have:=(hU _ hlt').1 hle
      simp only[List.map_cons,List.mem_cons]at this
      rcases this with h1 |h1
      ·omega
      ·have:=(List.pairwise_cons.1 hpw).1 e.on h1
       simp only at this
       omega
    rw[hnil]at this
    cases this
  ·obtain⟨h1,o,ho,hall⟩:=mem_ready.1 hi
   have hi':i<ops.size:=(Array.getElem?_eq_some_iff.1 ho).1
   have hmem:=(hU i hi').1 h1
   obtain⟨y,hy,rfl⟩:=List.mem_map.1 hmem
   obtain⟨T1,T2,rfl⟩:=List.append_of_mem hy
   obtain⟨hp',hpy⟩:=pairs_sub T1 hp
   have hanc:∀j,((Region.before ops).getD y.i 0).testBit j=true→listed.getD j false=true:=fun j hj=>by
    obtain⟨o',ho',e,he,hb,hje⟩:=before_spec y.i j hj
    rw[ho]at ho';cases ho'
    have hle:=hall e (by simpa using he) hb
    rcases hje with rfl |hje
    ·exact hle
    ·exact hD _ hle j hje
   have hnot:∀x∈T1,listed.getD x.i false=false:=fun x hx=>by
    have h2:=(hU x.i (hlt x (by simp[hx]))).2 (List.mem_map.2 ⟨x,by simp[hx],rfl⟩)
    have hx':=hlt x (by simp[hx])
    simp only[Array.getD_eq_getD_getElem?]at h2 ⊢
    rw[Array.getElem?_eq_getElem (by omega)]at h2 ⊢
    simpa using h2
   have hind:∀x∈T1,indepB ops x y=true:=fun x hx=>by
    have:=hpy x hx
    simp only[Bool.or_eq_true]at this
    rcases this with h2 |h2
    ·have:=hanc _ h2;rw[hnot x hx]at this;cases this
    ·exact h2
   obtain⟨r,H1,s1,hop,hT⟩:=Runs.front T1 hind hr
   refine aOpAt_ok hct h hf hop (fun ρ1 w1 v hst hrep=>?_)
   have hpw':((T1++T2).map (·.i)).Pairwise (· < ·):=by
    rw[List.map_append,List.map_cons]at hpw
    rw[List.map_append]
    obtain⟨p1,p2,p3⟩:=List.pairwise_append.1 hpw
    exact List.pairwise_append.2 ⟨p1,(List.pairwise_cons.1 p2).2,fun u hu z hz=>p3 u hu z (by simp[hz])⟩
   have hne:∀x∈T1++T2,x.i≠y.i:=fun x hx e=>by
    rw[List.map_append,List.map_cons]at hpw
    obtain⟨p1,p2,p3⟩:=List.pairwise_append.1 hpw
    rcases List.mem_append.1 hx with hx |hx
    ·have:=p3 x.i (List.mem_map.2 ⟨x,hx,rfl⟩) y.i (by simp);omega
    ·have:=(List.pairwise_cons.1 p2).1 x.i (List.mem_map.2 ⟨x,hx,rfl⟩);omega
   refine any_ok hct hback n (T1++T2) _ _ H1 ρ1 w1 _ (by simp at hn ⊢;omega) hst.rel (putA_ok (hst.reps hf) hrep _) hT hp' (by simpa using hls) hpw' ?_ (fun x hx=>hlt x (by rcases List.mem_append.1 hx with hx |hx<;>simp[hx])) ?_
    (fun ρ2 w2 a2 h2 hf2 hd2=>hQ _ _ _ (hst.trans h2) hf2 (hd2.trans (by cases dstOf ops y.i<;>rfl)))
   ·intro k hk
    by_cases e:k=y.i
    ·subst e
     constructor
     ·intro hh
      simp[Array.getElem?_setIfInBounds_self_of_lt (show y.i<listed.size by omega)]at hh
     ·intro hh
      obtain⟨x,hx,hxe⟩:=List.mem_map.1 hh
      exact absurd hxe (hne x hx)
    ·have e1:(listed.setIfInBounds y.i true).getD k true=listed.getD k true:=by
      simp[Array.getElem?_setIfInBounds_ne (Ne.symm e)]
     rw[e1,hU k hk]
     simp only[List.map_append,List.map_cons,List.mem_append,List.mem_cons]
     constructor
     ·rintro(hh |hh |hh)
      ·exact .inl hh
      ·exact absurd hh e
      ·exact .inr hh
     ·rintro(hh |hh)
      ·exact .inl hh
      ·exact .inr (.inr hh)
   ·intro k hk j hj
    have hset:∀m,listed.getD m false=true→(listed.setIfInBounds y.i true).getD m false=true:=fun m hm=>by
     by_cases e:m=y.i
     ·subst e;simp[Array.getElem?_setIfInBounds_self_of_lt (show y.i<listed.size by omega)]
     ·simpa[Array.getElem?_setIfInBounds_ne (Ne.symm e)]using hm
    by_cases e:k=y.i
    ·subst e;exact hset _ (hanc j hj)
    ·have e1:(listed.setIfInBounds y.i true).getD k false=listed.getD k false:=by
      simp[Array.getElem?_setIfInBounds_ne (Ne.symm e)]
     rw[e1]at hk
     exact hset _ (hD k hk j hj)
theorem aRegionD_ok (hm:P.follows .mixedOrders=true) (hct:CTok P ct) {ρ:Inj} {H H':AHp} {w:World} {Γ Γ':List AV} {a:Act} {Q:Exit→Act→World→Prop} {id s s':Nat} (h:Rel ρ H w) (hf:Reps ρ (own ρ H) w Γ a.tmps.toList)
  (hr:aRegionD P ct ops Γ H s=some (Γ',H',s')) (hQ:∀ρ' w' a',Step ρ H w ρ' H' w'→Reps ρ' (own ρ' H') w' Γ' a'.tmps.toList→a'.defers=a.defers→Q .normal a' w'):(Code.region id ops true).wp P Q a w:=by
 unfold aRegionD at hr
 split at hr
 ·rename_i Γ2 H2 s2 T hl
  split at hr
  ·rename_i hc
   simp only[Option.some.injEq,Prod.mk.injEq]at hr
   obtain⟨rfl,rfl,rfl⟩:=hr
   obtain⟨hruns,hmap⟩:=lexL_ok _ hl
   have hTl:T.length=ops.size:=by have:=congrArg List.length hmap;simpa using this
   refine wp_region_any hm ?_
   have hd:=Step.drew h
   refine any_ok hct hc.2 ops.size T (Array.replicate ops.size false) Γ H ρ w.drew a hTl hd.rel (hd.reps hf) hruns hc.1 (by simp) ?_ ?_ ?_ ?_ (fun ρ' w' a' hs hf' hd'=>hQ _ _ _ (hd.trans hs) hf' hd')
   ·rw[hmap];exact List.pairwise_lt_range
   ·intro i hi
    rw[hmap]
    simp[hi]
   ·intro x hx
    have:x.i∈T.map (·.i):=List.mem_map.2 ⟨x,hx,rfl⟩
    rw[hmap]at this
    simpa using this
   ·intro k hk
    exfalso
    simp only[Array.getD_eq_getD_getElem?]at hk
    rcases Nat.lt_or_ge k ops.size with h1 |h1
    ·rw[Array.getElem?_eq_getElem (by simpa using h1)]at hk;simp at hk
    ·rw[Array.getElem?_eq_none (by simpa using h1)]at hk;simp at hk
  ·cases hr
 ·cases hr
end
end Go.Am
end
section
namespace Go.Am
open Go
structure Ent where
 ρ:Inj
 H:AHp
 w:World
structure St (E:Ent) (ρ:Inj) (Γ:List AV) (H:AHp) (w:World) (a:Act):Prop where
 step:Step E.ρ E.H E.w ρ H w
 env:Reps ρ (own ρ H) w Γ a.tmps.toList
 defers:a.defers=[]
abbrev APost:=Exit→List AV→AHp→Nat→Prop
def CPost (E:Ent) (Q:APost):Exit→Act→World→Prop:=fun e a w=>∃Γ H s ρ,Q e Γ H s∧St E ρ Γ H w a
def AWp (P:Program) (E:Ent) (c:Code) (Γ:List AV) (H:AHp) (_s:Nat) (Q:APost):Prop:=
 ∀ρ w a,St E ρ Γ H w a→c.wp P (CPost E Q) a w
section
variable {P:Program} {E:Ent} {ct:CT} {Γ Γ':List AV} {H H':AHp} {s s':Nat} {Q Q':APost}
theorem AWp.mono {c:Code} (h:AWp P E c Γ H s Q) (hq:∀e Γ H s,Q e Γ H s→Q' e Γ H s):AWp P E c Γ H s Q':=
 fun ρ w a hs=>wp_mono (h ρ w a hs) fun _ _ _ ⟨Γ,H,s,ρ,h1,h2⟩=>⟨Γ,H,s,ρ,hq _ _ _ _ h1,h2⟩
theorem AWp.region (hct:CTok P ct) {id:Nat} {ops:Array Oper} (hr:aOps P ct ops ops.toList Γ H s=some (Γ',H',s')) (hQ:Q .normal Γ' H' s'):AWp P E (.region id ops false) Γ H s Q:=
 fun _ _ _ hs=>aRegion_ok hct hs.step.rel hs.env hr fun ρ' _ _ h1 h2 h3=>⟨Γ',H',s',ρ',hQ,⟨hs.step.trans h1,h2,h3.trans hs.defers⟩⟩
theorem AWp.regionD (hm:P.follows .mixedOrders=true) (hct:CTok P ct) {id:Nat} {ops:Array Oper} (hr:aRegionD P ct ops Γ H s=some (Γ',H',s')) (hQ:Q .normal Γ' H' s'):AWp P E (.region id ops true) Γ H s Q:=
 fun _ _ _ hs=>aRegionD_ok hm hct hs.step.rel hs.env hr fun ρ' _ _ h1 h2 h3=>⟨Γ',H',s',ρ',hQ,⟨hs.step.trans h1,h2,h3.trans hs.defers⟩⟩
theorem AWp.skip (hQ:Q .normal Γ H s):AWp P E .skip Γ H s Q:=fun ρ _ _ hs=>wp_skip ⟨Γ,H,s,ρ,hQ,hs⟩
theorem AWp.label {l:Nat} (hQ:Q .normal Γ H s):AWp P E (.label l) Γ H s Q:=fun ρ _ _ hs=>wp_label ⟨Γ,H,s,ρ,hQ,hs⟩
theorem AWp.ret (hQ:Q .ret Γ H s):AWp P E .ret Γ H s Q:=fun ρ _ _ hs=>wp_ret ⟨Γ,H,s,ρ,hQ,hs⟩
theorem AWp.exit {id:Nat} (hQ:Q (.exit id) Γ H s):AWp P E (.exit id) Γ H s Q:=fun ρ _ _ hs=>wp_exit ⟨Γ,H,s,ρ,hQ,hs⟩
def thenA (K:List AV→AHp→Nat→Prop) (Q:APost):APost
 | .normal,Γ,H,s=>K Γ H s
 |e,Γ,H,s=>Q e Γ H s
theorem AWp.seq {x y:Code} (h:AWp P E x Γ H s (thenA (fun Γ H s=>AWp P E y Γ H s Q) Q)):AWp P E (.seq x y) Γ H s Q:=fun ρ w a hs=>by
 refine wp_seq (wp_mono (h ρ w a hs) ?_)
 rintro e a' w' ⟨Γ',H',s',ρ',h1,h2⟩
 cases e with
 |normal=>exact h1 ρ' w' a' h2
 |_=>exact⟨Γ',H',s',ρ',h1,h2⟩
theorem AWp.cond {c:Operand} {x y:Code} {t:Bool} (hc:evA Γ c= .sc (.bool t)) (h:AWp P E (if t then x else y) Γ H s Q):AWp P E (.cond c x y) Γ H s Q:=fun ρ w a hs=>by
 have hv:=evA_ok hs.env c
 rw[hc]at hv
 exact wp_cond (Rep.sc_iff.1 hv) (h ρ w a hs)
def blockA (id:Nat) (Q:APost):APost
 | .exit id',Γ,H,s=>if id'=id then Q .normal Γ H s else Q (.exit id') Γ H s
 |e,Γ,H,s=>Q e Γ H s
theorem AWp.block {id:Nat} {c:Code} (h:AWp P E c Γ H s (blockA id Q)):AWp P E (.block id c) Γ H s Q:=fun ρ w a hs=>by
 refine wp_block (wp_mono (h ρ w a hs) ?_)
 rintro e a' w' ⟨Γ',H',s',ρ',h1,h2⟩
 cases e with
 |exit id'=>
  simp only[blockA]at h1
  simp only[Exit.inBlock]
  split
  ·rename_i hid;rw[if_pos hid]at h1;exact⟨Γ',H',s',ρ',h1,h2⟩
  ·rename_i hid;rw[if_neg hid]at h1;exact⟨Γ',H',s',ρ',h1,h2⟩
 |_=>exact⟨Γ',H',s',ρ',h1,h2⟩
def keepA (live:List Nat):Nat→List AV→List AV
 |_,[]=>[]
 |i,a::Γ=>(if live.contains i then a else .junk)::keepA live (i+1) Γ
theorem keepA_ok {ρ:Inj} {O:Nat→Prop} {w:World} {live:List Nat}:∀ {i:Nat} {Γ:List AV} {vs:List Value},Reps ρ O w Γ vs→Reps ρ O w (keepA live i Γ) vs
 |i,[],vs,h=>h
 |i,a::Γ,vs,h=>by
  obtain⟨x,xs,rfl,r,rs⟩:=h.uncons
  refine Reps.cons ?_ (keepA_ok rs)
  split
  ·exact r
  ·exact .junk _
theorem St.keep {ρ:Inj} {w:World} {a:Act} (live:List Nat) (h:St E ρ Γ H w a):St E ρ (keepA live 0 Γ) H w a:=⟨h.step,keepA_ok h.env,h.defers⟩
theorem rounds_mono {c:Code} {R:Exit→Act→World→Prop}:∀(n k:Nat) {a:Act} {w:World},n≤k→Code.rounds P c R n a w→Code.rounds P c R k a w
 |0,_,_,_,_,h=>h.elim
 |n+1,k,a,w,hk,h=>by
  obtain⟨k,rfl⟩:∃j,k=j+1:=⟨k-1,by omega⟩
  refine wp_mono (show c.wp P (Exit.then (Code.rounds P c R n) R) a w from h) ?_
  intro e a' w' he
  cases e with
  |normal=>exact rounds_mono n k (by omega) he
  |_=>exact he
theorem AWp.loop {c:Code} (live:List Nat) (I:List AV→AHp→Nat→Nat→Prop) (m0:Nat) (h0:I (keepA live 0 Γ) H s m0)
  (round:∀Γ H s m,I Γ H s m→AWp P E c Γ H s (thenA (fun Γ' H' s'=>∃m',m'<m∧I (keepA live 0 Γ') H' s' m') Q)):AWp P E (.loop c) Γ H s Q:=fun ρ w a hs=>by
 have key:∀m Γ H s,I Γ H s m→∀ρ w a,St E ρ Γ H w a→Code.rounds P c (CPost E Q) (m+1) a w:=by
  intro m
  induction m using Nat.strongRecOn with
  |_ m ih=>
   intro Γ H s hI ρ w a hs
   rw[rounds_succ]
   refine wp_mono (round Γ H s m hI ρ w a hs) ?_
   rintro e a' w' ⟨Γ',H',s',ρ',h1,h2⟩
   cases e with
   |normal=>
    obtain⟨m',hlt,hI'⟩:=h1
    exact rounds_mono (m'+1) m (by omega) (ih m' hlt _ _ _ hI' ρ' w' a' (h2.keep live))
   |_=>exact⟨Γ',H',s',ρ',h1,h2⟩
 exact wp_loop_rounds _ (key m0 _ H s h0 ρ w a (hs.keep live))
def aRead (P:Program) (t:TypeId) (H:AHp):AV→Option AV
 | .ptr n ver off=>match H n with
   |some (.row v _ cs)=>if v=ver then cellsOut P t (cs.drop off)else none
   |_=>none
 | .dptr cells=>cellsOut P t cells
 |_=>none
def aRes (P:Program) (Γ:List AV) (H:AHp):List ResultVar→Option (List AV)
 | []=>some []
 | .tmp t::rs=>match aRes P Γ H rs with
   |some l=>some (Γ.getD t (.sc undef)::l)
   |none=>none
 | .cell a t::rs=>match aRead P t H (Γ.getD a (.sc undef)),aRes P Γ H rs with
   |some x,some l=>some (x::l)
   |_,_=>none
def packA:List AV→AV
 | [x]=>x
 |l=>.tup l
theorem aRead_ok {ρ:Inj} {w:World} {t:TypeId} {x a:AV} {v:Value} (h:Rel ρ H w) (hx:Rep ρ (own ρ H) w x v) (hr:aRead P t H x=some a):∃u,(do loadVar t (←asAddr v):Sem Value).run P w= .ok u w∧Rep ρ (own ρ H) w a u:=by
 cases hx with
 |ptr hL=>
  rename_i n ver off L
  simp only[aRead]at hr
  split at hr
  ·rename_i v' esz cs ho
   split at hr
   ·rename_i e
    subst e
    obtain⟨L',hL',he,c,ty,hc,hsz,hlen,hrr⟩:=h.live n _ ho rfl
    have e2:ρ n v'=some L':=hL'
    rw[hL]at e2;cases e2
    obtain⟨u,h1,h2⟩:=load_ok (P:=P) (t:=t) ((((Holds.of_row hc L.base).take cs.length).drop off)) (hrr.drop off) hr
    exact⟨u,by simpa[asAddr]using h1,h2⟩
   ·cases hr
  ·cases hr
 |dptr h1 h2 h3 h4 h5=>
  obtain⟨u,k1,k2⟩:=load_ok (P:=P) (t:=t) h4 ⟨h3,h5⟩ hr
  exact⟨u,by simpa[asAddr]using k1,k2⟩
 |_=>simp[aRead]at hr
def resOne (tmps:Array Value):ResultVar→Sem Value
 | .tmp t=>pure (tmps.getD t undef)
 | .cell x t=>do loadVar t (←asAddr (tmps.getD x undef))
theorem results_eq (fn:Func) (tmps:Array Value):results fn tmps=(do let vs ←fn.results.mapM (resOne tmps);pure (if h:vs.size=1 then vs[0]else .tuple vs)):=by
 have e:(fun r:ResultVar=>match r with
  | .tmp t=>(pure (tmps.getD t undef):Sem Value)
  | .cell a t=>do loadVar t (←asAddr (tmps.getD a undef)))=resOne tmps:=by
  funext r;cases r<;>rfl
 rw[←e]
 rfl
theorem aRes_ok {ρ:Inj} {w:World} {a:Act} (h:Rel ρ H w) (hf:Reps ρ (own ρ H) w Γ a.tmps.toList):∀(rs:List ResultVar) {l:List AV},aRes P Γ H rs=some l→
  ∃vs:List Value,(rs.mapM (resOne a.tmps):Sem (List Value)).run P w= .ok vs w∧Reps ρ (own ρ H) w l vs
 | [],l,hr=>by simp[aRes]at hr;subst hr;exact⟨[],by simp,Reps.nil⟩
 | .tmp t::rs,l,hr=>by
   simp only[aRes]at hr
   split at hr
   ·rename_i l' hl
    cases hr
    obtain⟨vs,h1,h2⟩:=aRes_ok h hf rs hl
    have:=evA_ok hf (.tmp t)
    simp only[evA,Act.eval]at this
    exact⟨a.tmps.getD t undef::vs,by simp only[List.mapM_cons,resOne,Sem.run_bind,Sem.run_pure,Result.andThen_ok,h1],h2.cons this⟩
   ·cases hr
 | .cell x t::rs,l,hr=>by
   simp only[aRes]at hr
   split at hr
   ·rename_i y l' hy hl
    cases hr
    obtain⟨vs,h1,h2⟩:=aRes_ok h hf rs hl
    have:=evA_ok hf (.tmp x)
    simp only[evA,Act.eval]at this
    obtain⟨u,h3,h4⟩:=aRead_ok h this hy
    refine⟨u::vs,?_,h2.cons h4⟩
    have h3':(resOne a.tmps (.cell x t)).run P w= .ok u w:=h3
    simp only[List.mapM_cons,Sem.run_bind]
    rw[h3']
    simp only[Result.andThen_ok,h1,Sem.run_pure]
   ·cases hr
theorem results_ok {ρ:Inj} {w:World} {a:Act} {fn:Func} {l:List AV} (h:Rel ρ H w) (hf:Reps ρ (own ρ H) w Γ a.tmps.toList) (hr:aRes P Γ H fn.results.toList=some l):∃v,(results fn a.tmps).run P w= .ok v w∧Rep ρ (own ρ H) w (packA l) v:=by
 obtain⟨vs,h1,h2⟩:=aRes_ok h hf _ hr
 have hm:(fn.results.mapM (resOne a.tmps):Sem (Array Value)).run P w= .ok vs.toArray w:=by
  have e:fn.results=fn.results.toList.toArray:=by simp
  rw[e,List.mapM_toArray]
  simp only[Sem.run_map,h1,Result.andThen_ok]
 refine⟨if h:vs.toArray.size=1 then vs.toArray[0]else .tuple vs.toArray,?_,?_⟩
 ·rw[results_eq,Sem.run_bind,hm]
  rfl
 ·unfold packA
  split
  ·rename_i x
   obtain⟨y,ys,rfl,r1,r2⟩:=h2.uncons
   obtain rfl:ys=[]:=List.eq_nil_of_length_eq_zero (by simpa using r2.len)
   simpa using r1
  ·rename_i hne
   have hl:=h2.len
   rw[dif_neg (by
    intro h1'
    simp at h1'
    rw[hl]at h1'
    match l,h1' with
    | [x],_=>exact hne x rfl)]
   exact Rep.tup_iff.2 ⟨_,rfl,by simpa using h2⟩
def begA (fn:Func) (args:List AV):List AV:=args++List.replicate (fn.ntmps-args.length) (.sc undef)
def EndA (P:Program) (fn:Func) (R:AV→AHp→Prop):APost
 | .normal,Γ,H,_=>∃l,aRes P Γ H fn.results.toList=some l∧R (packA l) H
 | .ret,Γ,H,_=>∃l,aRes P Γ H fn.results.toList=some l∧R (packA l) H
 |_,_,_,_=>False
theorem calls_of_awp {f:FuncId} {fn:Func} {c:Code} {args:List AV} {vs:List Value} {R:AV→AHp→Prop} (hf:P.funcs[f]? =some fn) (hb:fn.body=some c) (h:Rel E.ρ E.H E.w) (hr:Reps E.ρ (own E.ρ E.H) E.w args vs) {s:Nat}
  (hw:AWp P E c (begA fn args) E.H s (EndA P fn R)):Calls P f vs.toArray E.w fun e w'=>∃v r H' ρ',e= .returned v∧R r H'∧Step E.ρ E.H E.w ρ' H' w'∧Rep ρ' (own ρ' H') w' r v:=by
 refine calls_of_wp hf hb (wp_mono (hw E.ρ E.w { tmps:=vs.toArray++Array.replicate (fn.ntmps-vs.toArray.size) undef,defers:=[] } ⟨.refl h,?_,rfl⟩) ?_)
 ·simp only[begA,Array.toList_append,Array.toList_replicate,List.size_toArray]
  rw[hr.len]
  refine hr.append ⟨by simp,fun i a x ha hx=>?_⟩
  rw[List.getElem?_replicate]at ha hx
  split at ha
  ·rename_i hi;rw[if_pos hi]at hx;cases ha;cases hx;exact .sc _
  ·cases ha
 ·rintro e a w ⟨Γ,H,s,ρ,h1,h2⟩
  have key:(∃l,aRes P Γ H fn.results.toList=some l∧R (packA l) H)→a.defers=[]∧∃v,(results fn a.tmps).run P w= .ok v w∧∃v' r H' ρ',Ending.returned v= .returned v'∧R r H'∧Step E.ρ E.H E.w ρ' H' w∧Rep ρ' (own ρ' H') w r v':=by
   rintro⟨l,h3,h4⟩
   obtain⟨v,h5,h6⟩:=results_ok h2.step.rel h2.env h3
   exact⟨h2.defers,v,h5,v,packA l,H,ρ,rfl,h4,h2.step,h6⟩
  cases e with
  |normal=>exact key h1
  |ret=>exact key h1
  |_=>exact h1.elim
end
end Go.Am
end
section
namespace Go.Am
open Go
mutual
def AV.inS (S:Nat→Prop):AV→Prop
 | .sc _=>True
 | .junk=>True
 | .ptr n _ _=>S n
 | .sl n _ _ _=>S n
 | .mp n _=>S n
 | .dptr l=>inSL S l
 | .dsl _ l=>inSL S l
 | .agg l=>inSL S l
 | .tup l=>inSL S l
 | .fn _ l m=>inSL S l∧inSL S m
 | .ifc _ a=>AV.inS S a
def inSL (S:Nat→Prop):List AV→Prop
 | []=>True
 |a::l=>AV.inS S a∧inSL S l
end
theorem inSL_iff {S:Nat→Prop}:∀ {l:List AV},inSL S l↔∀a∈l,a.inS S
 | []=>by simp[inSL]
 |a::l=>by simp[inSL,inSL_iff (l:=l)]
theorem inSL_get {S:Nat→Prop} {l:List AV} (h:inSL S l) {i:Nat} {a:AV} (ha:l[i]? =some a):a.inS S:=inSL_iff.1 h a (List.mem_of_getElem? ha)
section
variable {P:Program} {ρ ρ':Inj} {H H':AHp} {O O':Nat→Prop} {w w':World} {a a':AV} {v:Value} {l cs:List AV} {vs:List Value}
theorem inSL_of_get {S:Nat→Prop} (h:∀(i:Nat) (a:AV),l[i]? =some a→a.inS S):inSL S l:=inSL_iff.2 fun a ha=>by
 obtain⟨i,hi,rfl⟩:=List.mem_iff_getElem.1 ha
 exact h i _ (List.getElem?_eq_getElem hi)
theorem Rep.known (h:Rep ρ O w a v):a.inS (fun n=>∃k L,ρ n k=some L):=by
 have key:∀ {cells:List AV} {vs:List Value},vs.length=cells.length→(∀(i:Nat) (a:AV) (x:Value),cells[i]? =some a→vs[i]? =some x→a.inS (fun n=>∃k L,ρ n k=some L))→inSL (fun n=>∃k L,ρ n k=some L) cells:=by
  intro cells vs hl ih
  refine inSL_of_get fun i a ha=>?_
  have hi:i<vs.length:=by rw[hl];exact(List.getElem?_eq_some_iff.1 ha).1
  exact ih i a vs[i] ha (List.getElem?_eq_getElem hi)
 induction h with
 |sc v=>simp[AV.inS]
 |junk v=>simp[AV.inS]
 |ptr h=>exact⟨_,_,h⟩
 |sl h _ _ _=>exact⟨_,_,h⟩
 |mp h=>exact⟨_,_,h⟩
 |dnil _=>simp[AV.inS,inSL]
 |dptr _ _ h3 _ _ ih=>simpa[AV.inS]using key h3 ih
 |dsl _ _ _ h3 _ _ ih=>simpa[AV.inS]using key h3 ih
 |fn h1 h2 _ _ i1 i2=>exact⟨key (by rw[Array.length_toList];exact h1) (fun i a x ha hx=>i1 i a x ha (by simpa using hx)),key (by rw[Array.length_toList];exact h2) (fun i a x ha hx=>i2 i a x ha (by simpa using hx))⟩
 |ifc _ ih=>simpa[AV.inS]using ih
 |agg h _ ih=>simpa[AV.inS]using key (by rw[Array.length_toList];exact h) (fun i a x ha hx=>ih i a x ha (by simpa using hx))
 |tup h _ ih=>simpa[AV.inS]using key (by rw[Array.length_toList];exact h) (fun i a x ha hx=>ih i a x ha (by simpa using hx))
theorem Rep.restrict {S:Nat→Prop} (hm:∀n k L,S n→ρ n k=some L→ρ' n k=some L) (ho:∀b,O' b→O b) (h:Rep ρ O w a v) (hs:a.inS S):Rep ρ' O' w a v:=by
 induction h with
 |sc v=>exact .sc v
 |junk v=>exact .junk v
 |ptr h=>exact .ptr (hm _ _ _ hs h)
 |sl h h2 h3 h4=>exact .sl (hm _ _ _ hs h) h2 h3 h4
 |mp h=>exact .mp (hm _ _ _ hs h)
 |dnil h=>exact .dnil h
 |dptr h1 h2 h3 h4 _ ih=>simp only[AV.inS]at hs;exact .dptr (fun hb=>h1 (ho _ hb)) h2 h3 h4 fun i a x ha hx=>ih i a x ha hx (inSL_get hs ha)
 |dsl h0 h1 h2 h3 h4 _ ih=>simp only[AV.inS]at hs;exact .dsl h0 (fun hb=>h1 (ho _ hb)) h2 h3 h4 fun i a x ha hx=>ih i a x ha hx (inSL_get hs ha)
 |fn h1 h2 _ _ i1 i2=>exact .fn h1 h2 (fun i a x ha hx=>i1 i a x ha hx (inSL_get hs.1 ha)) (fun i a x ha hx=>i2 i a x ha hx (inSL_get hs.2 ha))
 |ifc _ ih=>exact .ifc (ih (by simpa[AV.inS]using hs))
 |agg h _ ih=>simp only[AV.inS]at hs;exact .agg h fun i a x ha hx=>ih i a x ha hx (inSL_get hs ha)
 |tup h _ ih=>simp only[AV.inS]at hs;exact .tup h fun i a x ha hx=>ih i a x ha hx (inSL_get hs ha)
inductive Pub (H:AHp) (K:Nat→Prop) (N:Nat→Option (Nat×Nat)):AV→AV→Prop
 |same {a:AV} (h:a.inS K):Pub H K N a a
 |sl {n ver off len esz:Nat} {cs cs':List AV} (hn:H n=some (.row ver esz cs)) (hk:¬K n) (hN:∀s o,N s≠some (n,o)) (hl:cs'.length=(cs.drop off).length) (hr:∀(i:Nat) (a b:AV),(cs.drop off)[i]? =some a→cs'[i]? =some b→Pub H K N a b):Pub H K N (.sl n ver off len) (.dsl len cs')
 |ptr {n ver off esz:Nat} {cs cs':List AV} (hn:H n=some (.row ver esz cs)) (hk:¬K n) (hN:∀s o,N s≠some (n,o)) (hl:cs'.length=(cs.drop off).length) (hr:∀(i:Nat) (a b:AV),(cs.drop off)[i]? =some a→cs'[i]? =some b→Pub H K N a b):Pub H K N (.ptr n ver off) (.dptr cs')
 |ren {s n ver off len esz:Nat} {cs:List AV} (hn:H n=some (.row ver esz cs)) (hN:N s=some (n,off)) (hk:¬K n):Pub H K N (.sl n ver off len) (.sl s 0 0 len)
 |agg {l l':List AV} (hl:l'.length=l.length) (hr:∀(i:Nat) (a b:AV),l[i]? =some a→l'[i]? =some b→Pub H K N a b):Pub H K N (.agg l) (.agg l')
 |tup {l l':List AV} (hl:l'.length=l.length) (hr:∀(i:Nat) (a b:AV),l[i]? =some a→l'[i]? =some b→Pub H K N a b):Pub H K N (.tup l) (.tup l')
 |ifc {t:TypeId} {a b:AV} (hr:Pub H K N a b):Pub H K N (.ifc t a) (.ifc t b)
theorem Pub.rep (h:Rel ρ H w) {K:Nat→Prop} {N:Nat→Option (Nat×Nat)} (hm:∀n k L,K n→ρ n k=some L→ρ' n k=some L) (ho:∀b,O' b→own ρ H b) (hd:∀n ver esz cs L,H n=some (.row ver esz cs)→¬K n→(∀s o,N s≠some (n,o))→ρ n ver=some L→¬O' L.block)
  (hren:∀s n off ver esz cs L,H n=some (.row ver esz cs)→ρ n ver=some L→N s=some (n,off)→ρ' s 0=some ⟨L.block,L.base+off,L.room-off,L.esz⟩)
  (hp:Pub H K N a a'):∀v,Rep ρ (own ρ H) w a v→Rep ρ' O' w a' v:=by
 have row:∀ {n ver off esz:Nat} {cs cs':List AV} {L:Loc},H n=some (.row ver esz cs)→ρ n ver=some L→cs'.length=(cs.drop off).length→(∀(i:Nat) (a b:AV),(cs.drop off)[i]? =some a→cs'[i]? =some b→∀v,Rep ρ (own ρ H) w a v→Rep ρ' O' w b v)→
   ∃us:List Value,us.length=cs'.length∧Holds w L.block (L.base+off) us∧L.block<w.heap.size∧∀(i:Nat) (a:AV) (x:Value),cs'[i]? =some a→us[i]? =some x→Rep ρ' O' w a x:=by
  intro n ver off esz cs cs' L hn hL hl ih
  obtain⟨L',hL',he,c,ty,hc,hsz,hlen,hr⟩:=h.live n _ hn rfl
  have e2:ρ n ver=some L':=hL'
  rw[hL]at e2;cases e2
  refine⟨((c.toList.drop L.base).take cs.length).drop off,by rw[(hr.drop off).len,hl],((Holds.of_row hc L.base).take cs.length).drop off,(Array.getElem?_eq_some_iff.1 hc).1,fun i b x hb hx=>?_⟩
  have hi:i<(cs.drop off).length:=by rw[←hl];exact(List.getElem?_eq_some_iff.1 hb).1
  exact ih i _ b (List.getElem?_eq_getElem hi) hb x ((hr.drop off).at_ i _ x (List.getElem?_eq_getElem hi) hx)
 induction hp with
 |same hs=>exact fun v r=>r.restrict hm ho hs
 | @sl n ver off len esz cs cs' hn hk hN hl hr ih=>
   intro v r
   cases r with
   |sl hL h2 h3 h4=>
   obtain⟨us,u1,u2,u3,u4⟩:=row hn hL hl ih
   exact .dsl h3 (hd _ _ _ _ _ hn hk hN hL) u3 u1 u2 u4
 | @ptr n ver off esz cs cs' hn hk hN hl hr ih=>
   intro v r
   cases r with
   |ptr hL=>
   obtain⟨us,u1,u2,u3,u4⟩:=row hn hL hl ih
   exact .dptr (hd _ _ _ _ _ hn hk hN hL) u3 u1 u2 u4
 | @ren s n ver off len esz cs hn hN hk=>
   intro v r
   cases r with
   |sl hL h2 h3 h4=>
   have:=Rep.sl (own:=O') (w:=w) (off:=0) (hren _ _ _ _ _ _ _ hn hL hN) (by simp only;omega) h3 h4
   simpa using this
 |agg hl hr ih=>
  intro v r
  obtain⟨us,rfl,hrs⟩:=Rep.agg_iff.1 r
  refine Rep.agg_iff.2 ⟨us,rfl,⟨by rw[hrs.len,hl],fun i b x hb hx=>?_⟩⟩
  rename_i l l'
  have hi:i<l.length:=by rw[←hl];exact(List.getElem?_eq_some_iff.1 hb).1
  exact ih i _ b (List.getElem?_eq_getElem hi) hb x (hrs.at_ i _ x (List.getElem?_eq_getElem hi) hx)
 |tup hl hr ih=>
  intro v r
  obtain⟨us,rfl,hrs⟩:=Rep.tup_iff.1 r
  refine Rep.tup_iff.2 ⟨us,rfl,⟨by rw[hrs.len,hl],fun i b x hb hx=>?_⟩⟩
  rename_i l l'
  have hi:i<l.length:=by rw[←hl];exact(List.getElem?_eq_some_iff.1 hb).1
  exact ih i _ b (List.getElem?_eq_getElem hi) hb x (hrs.at_ i _ x (List.getElem?_eq_getElem hi) hx)
 |ifc _ ih=>
  intro v r
  cases r with
  |ifc r=>exact .ifc (ih _ r)
inductive PubO (H:AHp) (K:Nat→Prop) (N:Nat→Option (Nat×Nat)):AO→AO→Prop
 |row {ver esz:Nat} {cs cs':List AV} (hl:cs'.length=cs.length) (hr:∀(i:Nat) (a b:AV),cs[i]? =some a→cs'[i]? =some b→Pub H K N a b):PubO H K N (.row ver esz cs) (.row ver esz cs')
 |mapo {ver clock:Nat} {es es':List (Value×AV×Nat)} (hl:es'.length=es.length) (hr:∀(i:Nat) (e e':Value×AV×Nat),es[i]? =some e→es'[i]? =some e'→e'.1=e.1∧e'.2.2=e.2.2∧Pub H K N e.2.1 e'.2.1):PubO H K N (.mapo ver es clock) (.mapo ver es' clock)
 |dead {ver:Nat}:PubO H K N (.dead ver) (.dead ver)
theorem AV.inS_mono {S T:Nat→Prop} (hST:∀n,S n→T n) (r:Rep ρ O w a v):a.inS S→a.inS T:=by
 induction r with
 |sc v=>intro;simp[AV.inS]
 |junk v=>intro;simp[AV.inS]
 |ptr h=>intro h;simp only[AV.inS]at h ⊢;exact hST _ h
 |sl h _ _ _=>intro h;simp only[AV.inS]at h ⊢;exact hST _ h
 |mp h=>intro h;simp only[AV.inS]at h ⊢;exact hST _ h
 |dnil _=>intro;simp[AV.inS,inSL]
 |dptr _ _ h3 _ _ ih=>
  intro h;simp only[AV.inS]at h ⊢
  exact inSL_of_get fun i a ha=>ih i a _ ha (List.getElem?_eq_getElem (by rw[h3];exact(List.getElem?_eq_some_iff.1 ha).1)) (inSL_get h ha)
 |dsl _ _ _ h3 _ _ ih=>
  intro h;simp only[AV.inS]at h ⊢
  exact inSL_of_get fun i a ha=>ih i a _ ha (List.getElem?_eq_getElem (by rw[h3];exact(List.getElem?_eq_some_iff.1 ha).1)) (inSL_get h ha)
 |fn h1 h2 _ _ i1 i2=>
  intro h;simp only[AV.inS]at h ⊢
  exact⟨inSL_of_get fun i a ha=>i1 i a _ ha (Array.getElem?_eq_getElem (by rw[h1];exact(List.getElem?_eq_some_iff.1 ha).1)) (inSL_get h.1 ha),inSL_of_get fun i a ha=>i2 i a _ ha (Array.getElem?_eq_getElem (by rw[h2];exact(List.getElem?_eq_some_iff.1 ha).1)) (inSL_get h.2 ha)⟩
 |ifc _ ih=>intro h;simp only[AV.inS]at h ⊢;exact ih h
 |agg h1 _ ih=>
  intro h;simp only[AV.inS]at h ⊢
  exact inSL_of_get fun i a ha=>ih i a _ ha (Array.getElem?_eq_getElem (by rw[h1];exact(List.getElem?_eq_some_iff.1 ha).1)) (inSL_get h ha)
 |tup h1 _ ih=>
  intro h;simp only[AV.inS]at h ⊢
  exact inSL_of_get fun i a ha=>ih i a _ ha (Array.getElem?_eq_getElem (by rw[h1];exact(List.getElem?_eq_some_iff.1 ha).1)) (inSL_get h ha)
structure Fin (H0 H:AHp) (N:Nat→Option (Nat×Nat)) (H':AHp):Prop where
 keep:∀n,H0 n≠none→H' n≠none∧N n=none
 obj:∀n o',H' n=some o'→(N n=none∧((H0 n=some o'∧H n=some o')∨∃o,H n=some o∧PubO H (fun n=>H' n≠none∧N n=none) N o o'))∨
  (∃m off ver esz cs cs',N n=some (m,off)∧H m=some (.row ver esz cs)∧H' m=none∧off≤cs.length∧o'= .row 0 esz cs'∧cs'.length=(cs.drop off).length∧∀(i:Nat) (a b:AV),(cs.drop off)[i]? =some a→cs'[i]? =some b→Pub H (fun n=>H' n≠none∧N n=none) N a b)
 inj:∀a b n o o',N a=some (n,o)→N b=some (n,o')→a=b
 new:∀s n o,N s=some (n,o)→H' s≠none
 fin:∃M,∀n,M≤n→H' n=none
theorem exit_gen {ρ0:Inj} {H0:AHp} {w0:World} (h0:Rel ρ0 H0 w0) (hs:Step ρ0 H0 w0 ρ H w) (N:Nat→Option (Nat×Nat)) (H':AHp) (hF:Fin H0 H N H'):
  ∃ρ',Step ρ0 H0 w0 ρ' H' w∧∀a a' v,Pub H (fun n=>H' n≠none∧N n=none) N a a'→Rep ρ (own ρ H) w a v→Rep ρ' (own ρ' H') w a' v:=by
 classical
 obtain⟨h1,h2,h3,hNs,hfin⟩:=hF
 let ρ':Inj:=fun n k=>match N n with
  |some (m,off)=>if k=0∧H' n≠none then match H m with
    |some (.row ver _ _)=>(ρ m ver).map fun L=>⟨L.block,L.base+off,L.room-off,L.esz⟩
    |_=>none
   else none
  |none=>if H' n=none then none else ρ n k
 have hρ:∀n k,N n=none→H' n≠none→ρ' n k=ρ n k:=fun n k hN hn=>by simp only[ρ',hN];rw[if_neg hn]
 have hρn:∀n k L,N n=none→ρ' n k=some L→H' n≠none∧ρ n k=some L:=fun n k L hN hL=>by
  by_cases hn:H' n=none
  ·simp only[ρ',hN]at hL;rw[if_pos hn]at hL;cases hL
  ·exact⟨hn,by rw[←hρ n k hN hn];exact hL⟩
 have hρN:∀s m off ver esz cs L,N s=some (m,off)→H' s≠none→H m=some (.row ver esz cs)→ρ m ver=some L→ρ' s 0=some ⟨L.block,L.base+off,L.room-off,L.esz⟩:=fun s m off ver esz cs L hN hs' hm hL=>by
  simp only[ρ',hN,hm,hL];rw[if_pos ⟨trivial,hs'⟩];rfl
 have hρN':∀s m off k L',N s=some (m,off)→ρ' s k=some L'→k=0∧H' s≠none∧∃ver esz cs L,H m=some (.row ver esz cs)∧ρ m ver=some L∧L'=⟨L.block,L.base+off,L.room-off,L.esz⟩:=fun s m off k L' hN hL=>by
  simp only[ρ',hN]at hL
  split at hL
  ·rename_i hk
   split at hL
   ·rename_i ver esz cs hm
    cases hr:ρ m ver with
    |none=>rw[hr]at hL;cases hL
    |some L=>rw[hr]at hL;cases hL;exact⟨hk.1,hk.2,ver,esz,cs,L,hm,hr,rfl⟩
   ·cases hL
  ·cases hL
 -- where an object of H' came from
 have hfrom:∀n o',H' n=some o'→o'.live=true→∀L',ρ' n o'.ver=some L'→∃m o L,H m=some o∧o.live=true∧ρ m o.ver=some L∧L.block=L'.block∧((N n=none∧m=n)∨∃off,N n=some (m,off)):=fun n o' hn hl L' hL'=>by
  rcases h2 n o' hn with⟨hN,hh⟩ |⟨m,off,ver,esz,cs,cs',hN,hm,hm',hoff,rfl,hlen,hr⟩
  ·obtain⟨k1,k2⟩:=hρn n _ _ hN hL'
   rcases hh with⟨_,h⟩ |⟨o,h,hp⟩
   ·exact⟨n,o',L',h,hl,k2,rfl,.inl ⟨hN,rfl⟩⟩
   ·refine⟨n,o,L',h,?_,?_,rfl,.inl ⟨hN,rfl⟩⟩
    ·cases hp<;>first |rfl |exact hl
    ·cases hp<;>exact k2
  ·obtain⟨k1,k2,ver',esz',cs2,L,k3,k4,rfl⟩:=hρN' n m off _ L' hN hL'
   exact⟨m,_,L,k3,rfl,k4,rfl,.inr ⟨off,hN⟩⟩
 have hown:∀b,own ρ' H' b→own ρ H b:=by
  rintro b ⟨n,o',L',k1,k2,k3,rfl⟩
  obtain⟨m,o,L,k4,k5,k6,k7,_⟩:=hfrom n o' k1 k2 L' k3
  exact⟨m,o,L,k4,k5,k6,k7⟩
 have hdis:∀n ver esz cs L,H n=some (.row ver esz cs)→¬(H' n≠none∧N n=none)→(∀s o,N s≠some (n,o))→ρ n ver=some L→¬own ρ' H' L.block:=by
  rintro n ver esz cs L k1 k2 k2' k3 ⟨m,o',L',k4,k5,k6,k7⟩
  obtain⟨m',o,L2,k8,k9,k10,k11,k12⟩:=hfrom m o' k4 k5 L' k6
  have:=hs.rel.inj m' n o _ L2 L k8 k1 k9 rfl k10 k3 (by omega)
  subst this
  rcases k12 with⟨hN,rfl⟩ |⟨off,hN⟩
  ·exact k2 ⟨by rw[k4];simp,hN⟩
  ·exact k2' _ _ hN
 have hpub:∀a a' v,Pub H (fun n=>H' n≠none∧N n=none) N a a'→Rep ρ (own ρ H) w a v→Rep ρ' (own ρ' H') w a' v:=fun a a' v hp r=>
  hp.rep hs.rel (fun n k L hn hL=>by rw[hρ n k hn.2 hn.1];exact hL) hown hdis (fun s n off ver esz cs L hn hL hN=>hρN s n off ver esz cs L hN (hNs _ _ _ hN) hn hL) v r
 have hmono:∀n k L,ρ0 n k=some L→ρ' n k=some L:=fun n k L hL=>by
  obtain⟨o,k1,_⟩:=h0.dom n k L hL
  obtain⟨g1,g2⟩:=h1 n (by rw[k1];simp)
  rw[hρ n k g2 g1]
  exact hs.mono n k L hL
 have hsame:∀a v v0,Rep ρ0 (own ρ0 H0) w0 a v0→Rep ρ (own ρ H) w a v→Rep ρ' (own ρ' H') w a v:=fun a v v0 r0 r=>
  hpub a a v (.same (AV.inS_mono (fun n ⟨k,L,hL⟩=>by obtain⟨o,k1,_⟩:=h0.dom n k L hL;exact h1 n (by rw[k1];simp)) r0 r0.known)) r
 refine⟨ρ',⟨hmono,hs.size,fun b hb=>hs.own' b (hown b hb),hs.frame,hs.os,hs.tape,hs.output,⟨?_,?_,?_,?_⟩⟩,hpub⟩
 ·intro n o' hn hl
  have hn':H' n≠none:=by rw[hn];simp
  rcases h2 n o' hn with⟨hN,hh⟩ |⟨m,off,ver,esz,cs,cs',hN,hm,hm',hoff,rfl,hlen,hr⟩
  ·rcases hh with⟨k1,k2⟩ |⟨o,k2,hp⟩
   ·obtain⟨L,hL,hobj⟩:=hs.rel.live n o' k2 hl
    obtain⟨L0,hL0,hobj0⟩:=h0.live n o' k1 hl
    have eL:L0=L:=by have:=hs.mono _ _ _ hL0;rw[hL]at this;cases this;rfl
    subst eL
    refine⟨L0,by rw[hρ n _ hN hn'];exact hL,?_⟩
    cases o' with
    |row ver esz cs=>
     obtain⟨g0,c,t,g1,g2,g3,g4⟩:=hobj
     obtain⟨_,c0,t0,_,_,_,f4⟩:=hobj0
     refine⟨g0,c,t,g1,g2,g3,⟨g4.len,fun i a x ha hx=>?_⟩⟩
     obtain⟨x0,_,r0⟩:=f4.get ha
     exact hsame a x x0 r0 (g4.at_ i a x ha hx)
    |mapo ver es clock=>
     obtain⟨ms,g1,g2,g3⟩:=hobj
     obtain⟨ms0,_,f2,f3⟩:=hobj0
     refine⟨ms,g1,g2,fun i e m he hm=>?_⟩
     obtain⟨e1,e2,e3⟩:=g3 i e m he hm
     have hi:i<ms0.size:=by rw[f2];exact(List.getElem?_eq_some_iff.1 he).1
     obtain⟨_,r0,_⟩:=f3 i e ms0[i] he (Array.getElem?_eq_getElem hi)
     exact⟨e1,hsame _ _ _ r0 e2,e3⟩
    |dead ver=>cases hl
   ·cases hp with
    | @row ver esz cs cs' hlen hr=>
      obtain⟨L,hL,g0,c,t,g1,g2,g3,g4⟩:=hs.rel.live n _ k2 rfl
      refine⟨L,by rw[hρ n _ hN hn'];exact hL,g0,c,t,g1,g2,by omega,⟨by rw[hlen];exact g4.len,fun i b x hb hx=>?_⟩⟩
      rw[hlen]at hx
      have hi:i<cs.length:=by rw[←hlen];exact(List.getElem?_eq_some_iff.1 hb).1
      exact hpub _ _ _ (hr i _ b (List.getElem?_eq_getElem hi) hb) (g4.at_ i _ x (List.getElem?_eq_getElem hi) hx)
    | @mapo ver clock es es' hlen hr=>
      obtain⟨L,hL,ms,g1,g2,g3⟩:=hs.rel.live n _ k2 rfl
      refine⟨L,by rw[hρ n _ hN hn'];exact hL,ms,g1,by omega,fun i e m he hm=>?_⟩
      have hi:i<es.length:=by rw[←hlen];exact(List.getElem?_eq_some_iff.1 he).1
      obtain⟨e1,e2,e3⟩:=g3 i _ m (List.getElem?_eq_getElem hi) hm
      obtain⟨f1,f2,f3⟩:=hr i _ e (List.getElem?_eq_getElem hi) he
      exact⟨by rw[f1];exact e1,hpub _ _ _ f3 e2,by rw[f2];exact e3⟩
    |dead=>cases hl
  ·obtain⟨L,hL,g0,c,t,g1,g2,g3,g4⟩:=hs.rel.live m _ hm rfl
   refine⟨⟨L.block,L.base+off,L.room-off,L.esz⟩,hρN n m off ver esz cs L hN hn' hm hL,g0,c,t,g1,by simp only;omega,by simp only;rw[hlen,List.length_drop];omega,⟨?_,fun i b x hb hx=>?_⟩⟩
   ·have:=(g4.drop off).len
    rw[List.drop_take,List.drop_drop]at this
    rw[hlen,List.length_drop]
    simpa[Nat.add_comm]using this
   ·have hi:i<(cs.drop off).length:=by rw[←hlen];exact(List.getElem?_eq_some_iff.1 hb).1
    refine hpub _ _ _ (hr i _ b (List.getElem?_eq_getElem hi) hb) ((g4.drop off).at_ i _ x (List.getElem?_eq_getElem hi) ?_)
    rw[List.drop_take,List.drop_drop,←List.length_drop,←hlen]
    exact hx
 ·intro n k L hL
  cases hN:N n with
  |none=>
   obtain⟨k1,k2⟩:=hρn n k L hN hL
   obtain⟨o,k3,k4⟩:=hs.rel.dom n k L k2
   cases ho:H' n with
   |none=>exact absurd ho k1
   |some o'=>
    rcases h2 n o' ho with⟨_,hh⟩ |⟨m,off,ver,esz,cs,cs',hN',_⟩
    ·rcases hh with⟨_,h⟩ |⟨o2,h,hp⟩
     ·rw[k3]at h;cases h;exact⟨o,rfl,k4⟩
     ·rw[k3]at h;cases h
      refine⟨o',rfl,?_⟩
      cases hp<;>exact k4
    ·rw[hN]at hN';cases hN'
  |some p=>
   obtain⟨m,off⟩:=p
   obtain⟨rfl,k2,_⟩:=hρN' n m off k L hN hL
   cases ho:H' n with
   |none=>exact absurd ho k2
   |some o'=>exact⟨o',rfl,Nat.zero_le _⟩
 ·intro n m o o' L L' e1 e2 l1 l2 r1 r2 eb
  obtain⟨n2,p,Lp,p1,p2,p3,p4,p5⟩:=hfrom n o e1 l1 L r1
  obtain⟨m2,q,Lq,q1,q2,q3,q4,q5⟩:=hfrom m o' e2 l2 L' r2
  have:=hs.rel.inj n2 m2 p q Lp Lq p1 q1 p2 q2 p3 q3 (by omega)
  subst this
  rcases p5 with⟨pN,rfl⟩ |⟨off,pN⟩<;>rcases q5 with⟨qN,rfl⟩ |⟨off',qN⟩
  ·rfl
  ·exfalso
   -- n2 is kept,and m goes on from it
   rcases h2 m o' e2 with⟨hN,_⟩ |⟨m',off2,ver,esz,cs,cs',hN,_,hm',_⟩
   ·rw[qN]at hN;cases hN
   ·rw[qN]at hN;cases hN;rw[e1]at hm';cases hm'
  ·exfalso
   rcases h2 n o e1 with⟨hN,_⟩ |⟨m',off2,ver,esz,cs,cs',hN,_,hm',_⟩
   ·rw[pN]at hN;cases hN
   ·rw[pN]at hN;cases hN;rw[e2]at hm';cases hm'
  ·exact h3 n m n2 off off' pN qN
 ·exact hfin
end
end Go.Am
end
section
namespace Go.Am
open Go
def runQ {α:Type} (m:AP α) (H:AHp) (s:Nat) (K:α→AHp→Nat→Prop):Prop:=match m.run H s with
 |some (a,H',s')=>K a H' s'
 |none=>False
def opsQ (P:Program) (ct:CT) (ops:Array Oper):List Oper→List AV→AHp→Nat→(List AV→AHp→Nat→Prop)→Prop
 | [],Γ,H,s,K=>K Γ H s
 |o::rest,Γ,H,s,K=>match aWanted ops Γ o with
  |some true=>runQ (aOp P ct Γ o) H s fun r H' s'=>opsQ P ct ops rest (putA Γ o.dst r) H' s' K
  |some false=>opsQ P ct ops rest (putA Γ o.dst (.sc undef)) H s K
  |none=>False
section
variable {P:Program} {E:Ent} {ct:CT} {Γ Γ':List AV} {H H':AHp} {s s':Nat} {Q Q':APost}
theorem opsQ_ok {ops:Array Oper}:∀(l:List Oper) {Γ:List AV} {H:AHp} {s:Nat} {K:List AV→AHp→Nat→Prop},opsQ P ct ops l Γ H s K→∃Γ' H' s',aOps P ct ops l Γ H s=some (Γ',H',s')∧K Γ' H' s'
 | [],Γ,H,s,K,h=>⟨Γ,H,s,rfl,h⟩
 |o::rest,Γ,H,s,K,h=>by
  unfold opsQ at h
  unfold aOps
  split at h
  ·rename_i hw
   try rw[hw]
   unfold runQ at h
   split at h
   ·rename_i r H1 s1 hr
    rw[hr]
    exact opsQ_ok rest h
   ·exact h.elim
  ·rename_i hw
   try rw[hw]
   exact opsQ_ok rest h
  ·exact h.elim
def runLQ {α:Type}:AP α→AHp→Nat→List Nat→List Nat→(α→AHp→Nat→List Nat→List Nat→Prop)→Prop
 | .ret a,H,s,rd,wr,K=>K a H s rd wr
 | .get n k,H,s,rd,wr,K=>match H n with
   |some o=>runLQ (k o) H s (rd++[n]) wr K
   |none=>False
 | .set n o k,H,s,rd,wr,K=>runLQ k (upd H n o) s rd (wr++[n]) K
 | .new o k,H,s,rd,wr,K=>match H s with
   |none=>runLQ (k s) (upd H s o) (s+1) rd (wr++[s]) K
   |some _=>False
 | .fail,_,_,_,_,_=>False
theorem runLQ_ok {α:Type} (m:AP α):∀ {H:AHp} {s:Nat} {rd wr:List Nat} {K:α→AHp→Nat→List Nat→List Nat→Prop},runLQ m H s rd wr K→∃a H' s' rd' wr',m.runL H s=some (a,H',s',rd',wr')∧K a H' s' (rd++rd') (wr++wr'):=by
 induction m with
 |ret a=>intro H s rd wr K h;exact⟨a,H,s,[],[],rfl,by simpa[runLQ]using h⟩
 |get n k ih=>
  intro H s rd wr K h
  simp only[runLQ]at h
  split at h
  ·rename_i o ho
   obtain⟨a,H',s',rd',wr',h1,h2⟩:=ih o h
   exact⟨a,H',s',n::rd',wr',by simp[AP.runL,ho,h1],by simpa using h2⟩
  ·exact h.elim
 |set n o k ih=>
  intro H s rd wr K h
  simp only[runLQ]at h
  obtain⟨a,H',s',rd',wr',h1,h2⟩:=ih h
  exact⟨a,H',s',rd',n::wr',by simp[AP.runL,h1],by simpa using h2⟩
 |new o k ih=>
  intro H s rd wr K h
  simp only[runLQ]at h
  split at h
  ·rename_i hs
   obtain⟨a,H',s',rd',wr',h1,h2⟩:=ih s h
   exact⟨a,H',s',rd',s::wr',by simp[AP.runL,hs,h1],by simpa using h2⟩
  ·exact h.elim
 |fail=>intro H s rd wr K h;exact h.elim
def Dj (x y:Tr):Prop:=(∀n∈x.wr,n∉y.rd∧n∉y.wr)∧∀n∈y.wr,n∉x.rd
def ordB (ops:Array Oper) (i j:Nat):Bool:=((Region.before ops).getD j 0).testBit i
def DynOK (ops:Array Oper) (T:List Tr):Prop:=T.Pairwise fun x y=>Dj x y∨ordB ops x.i y.i=true
def statB (ops:Array Oper):Bool:=backB ops&&(List.range ops.size).all fun j=>(List.range j).all fun i=>ordB ops i j||(match ops[i]?,ops[j]? with
 |some o,some p=>o.apart ops p
 |_,_=>false)
def opsLQ (P:Program) (ct:CT) (ops:Array Oper):Nat→List Oper→List AV→AHp→Nat→List Tr→(List AV→AHp→Nat→List Tr→Prop)→Prop
 |_,[],Γ,H,s,T,K=>K Γ H s T
 |i,o::rest,Γ,H,s,T,K=>match aWanted ops Γ o with
  |some true=>runLQ (aOp P ct Γ o) H s [] [] fun r H' s' rd wr=>opsLQ P ct ops (i+1) rest (putA Γ o.dst r) H' s' (if rd=[]∧wr=[]then T else T++[⟨i,s,rd,wr⟩]) K
  |some false=>opsLQ P ct ops (i+1) rest (putA Γ o.dst (.sc undef)) H s T K
  |none=>False
def loud (x:Tr):Bool:=!(x.rd.isEmpty&&x.wr.isEmpty)
theorem opsLQ_ok {ops:Array Oper}:∀(l:List Oper) {i:Nat} {Γ:List AV} {H:AHp} {s:Nat} {T:List Tr} {K:List AV→AHp→Nat→List Tr→Prop},(∀j,l[j]? =ops[i+j]?)→opsLQ P ct ops i l Γ H s T K→
  ∃Γ' H' s' T',lexL P ct ops (List.range' i l.length) Γ H s=some (Γ',H',s',T')∧K Γ' H' s' (T++T'.filter loud)
 | [],i,Γ,H,s,T,K,_,h=>⟨Γ,H,s,[],rfl,by simpa[opsLQ]using h⟩
 |o::rest,i,Γ,H,s,T,K,hl,h=>by
  have ho:ops[i]? =some o:=by simpa using(hl 0).symm
  have hl':∀j,rest[j]? =ops[i+1+j]? :=fun j=>by have:=hl (j+1);simpa[Nat.add_assoc,Nat.add_comm 1 j]using this
  have hd:dstOf ops i=o.dst:=by simp[dstOf,ho]
  unfold opsLQ at h
  simp only[List.length_cons,List.range'_succ]
  split at h
  ·rename_i hw
   obtain⟨r,H1,s1,rd,wr,h1,h2⟩:=runLQ_ok _ h
   simp only[List.nil_append]at h2
   obtain⟨Γ',H',s',T',h3,h4⟩:=opsLQ_ok rest hl' h2
   refine⟨Γ',H',s',⟨i,s,rd,wr⟩::T',?_,?_⟩
   ·simp only[lexL,aOpAt,ho,hw,h1,hd,h3]
   ·by_cases hq:rd=[]∧wr=[]
    ·obtain⟨rfl,rfl⟩:=hq
     simpa[List.filter_cons,loud]using h4
    ·rw[if_neg hq]at h4
     have:loud ⟨i,s,rd,wr⟩=true:=by
      unfold loud
      cases rd<;>cases wr<;>simp_all
     rw[List.filter_cons,if_pos this]
     simpa using h4
  ·rename_i hw
   obtain⟨Γ',H',s',T',h3,h4⟩:=opsLQ_ok rest hl' h
   refine⟨Γ',H',s',⟨i,s,[],[]⟩::T',?_,by simpa[List.filter_cons,loud]using h4⟩
   simp only[lexL,aOpAt,ho,hw,hd,h3]
  ·exact h.elim
theorem disj_of {xs ys:List Nat} (h:∀n∈xs,n∉ys):disj xs ys=true:=List.all_eq_true.2 fun n hn=>by simp[h n hn]
theorem pairs_of {ops:Array Oper} (hst:statB ops=true):∀(T:List Tr),(T.map (·.i)).Pairwise (· < ·)→(∀x∈T,x.i<ops.size)→(T.filter loud).Pairwise (fun x y=>Dj x y∨ordB ops x.i y.i=true)→pairsB ops (Region.before ops) T=true
 | [],_,_,_=>rfl
 |x::T,hp,hlt,hd=>by
  simp only[pairsB,Bool.and_eq_true]
  simp only[List.map_cons,List.pairwise_cons]at hp
  have hd':(T.filter loud).Pairwise (fun x y=>Dj x y∨ordB ops x.i y.i=true):=by
   rw[List.filter_cons]at hd
   split at hd
   ·exact(List.pairwise_cons.1 hd).2
   ·exact hd
  refine⟨List.all_eq_true.2 fun y hy=>?_,pairs_of hst T hp.2 (fun z hz=>hlt z (by simp[hz])) hd'⟩
  have hxy:x.i<y.i:=hp.1 y.i (List.mem_map.2 ⟨y,hy,rfl⟩)
  have hys:y.i<ops.size:=hlt y (by simp[hy])
  simp only[statB,Bool.and_eq_true]at hst
  have h1:=List.all_eq_true.1 hst.2 y.i (by simpa using hys)
  have h2:=List.all_eq_true.1 h1 x.i (by simpa using hxy)
  simp only[Bool.or_eq_true]at h2 ⊢
  rcases h2 with h2 |h2
  ·exact .inl h2
  ·have key:Dj x y∨ordB ops x.i y.i=true:=by
    by_cases hx:loud x=true
    ·by_cases hy':loud y=true
     ·rw[List.filter_cons,if_pos hx]at hd
      exact(List.pairwise_cons.1 hd).1 y (List.mem_filter.2 ⟨hy,hy'⟩)
     ·left
      have:y.rd=[]∧y.wr=[]:=by simpa[loud]using hy'
      exact⟨fun n _=>by simp[this.1,this.2],fun n hn=>by simp[this.2]at hn⟩
    ·left
     have:x.rd=[]∧x.wr=[]:=by simpa[loud]using hx
     exact⟨fun n hn=>by simp[this.2]at hn,fun n _=>by simp[this.1]⟩
   rcases key with key |key
   ·right
    simp only[indepB,Bool.and_eq_true]
    exact⟨⟨⟨disj_of fun n hn=>(key.1 n hn).1,disj_of fun n hn=>(key.1 n hn).2⟩,disj_of key.2⟩,h2⟩
   ·exact .inl key
theorem AWp.regD (hm:P.follows .mixedOrders=true) (hct:CTok P ct) {id:Nat} {ops:Array Oper} (hst:statB ops=true) (h:opsLQ P ct ops 0 ops.toList Γ H s [] (fun Γ H s T=>DynOK ops T∧Q .normal Γ H s)):AWp P E (.region id ops true) Γ H s Q:=by
 obtain⟨Γ',H',s',T',h1,h2,h3⟩:=opsLQ_ok (ops:=ops) ops.toList (by simp) h
 have hl:lexL P ct ops (List.range ops.size) Γ H s=some (Γ',H',s',T'):=by rw[List.range_eq_range'];simpa using h1
 obtain⟨_,hmap⟩:=lexL_ok _ hl
 refine AWp.regionD hm hct (Γ':=Γ') (H':=H') (s':=s') ?_ h3
 unfold aRegionD
 rw[hl]
 have hb:backB ops=true:=by simp only[statB,Bool.and_eq_true]at hst;exact hst.1
 have hp:=pairs_of hst T' (by rw[hmap];exact List.pairwise_lt_range) (fun x hx=>by
  have:x.i∈T'.map (·.i):=List.mem_map.2 ⟨x,hx,rfl⟩
  rw[hmap]at this
  simpa using this) (by simpa[DynOK]using h2)
 simp[hp,hb]
def statC:Code→Bool
 | .region _ ops true=>statB ops
 | .seq a b=>statC a&&statC b
 | .cond _ a b=>statC a&&statC b
 | .block _ c=>statC c
 | .loop c=>statC c
 |_=>true
def wA (P:Program) (E:Ent) (ct:CT):Code→List AV→AHp→Nat→APost→Prop
 | .skip,Γ,H,s,Q=>Q .normal Γ H s
 | .label _,Γ,H,s,Q=>Q .normal Γ H s
 | .ret,Γ,H,s,Q=>Q .ret Γ H s
 | .exit id,Γ,H,s,Q=>Q (.exit id) Γ H s
 | .region _ ops false,Γ,H,s,Q=>opsQ P ct ops ops.toList Γ H s (Q .normal)
 | .region _ ops true,Γ,H,s,Q=>opsLQ P ct ops 0 ops.toList Γ H s [] (fun Γ H s T=>DynOK ops T∧Q .normal Γ H s)
 | .seq a b,Γ,H,s,Q=>wA P E ct a Γ H s (thenA (fun Γ H s=>wA P E ct b Γ H s Q) Q)
 | .cond c a b,Γ,H,s,Q=>match evA Γ c with
   | .sc (.bool t)=>if t=true then wA P E ct a Γ H s Q else wA P E ct b Γ H s Q
   |_=>False
 | .block id c,Γ,H,s,Q=>wA P E ct c Γ H s (blockA id Q)
 |c,Γ,H,s,Q=>AWp P E c Γ H s Q
theorem thenA_mono {K K':List AV→AHp→Nat→Prop} (hk:∀Γ H s,K Γ H s→K' Γ H s):∀e Γ H s,thenA K Q e Γ H s→thenA K' Q e Γ H s:=fun e Γ H s h=>by
 cases e with
 |normal=>exact hk _ _ _ h
 |_=>exact h
theorem wA_ok (hm:P.follows .mixedOrders=true) (hct:CTok P ct):∀(c:Code) {Γ:List AV} {H:AHp} {s:Nat} {Q:APost},statC c=true→wA P E ct c Γ H s Q→AWp P E c Γ H s Q
 | .skip,Γ,H,s,Q,_,h=>AWp.skip h
 | .label _,Γ,H,s,Q,_,h=>AWp.label h
 | .ret,Γ,H,s,Q,_,h=>AWp.ret h
 | .exit id,Γ,H,s,Q,_,h=>AWp.exit h
 | .region id ops false,Γ,H,s,Q,_,h=>by
   obtain⟨Γ',H',s',h1,h2⟩:=opsQ_ok _ (show opsQ P ct ops ops.toList Γ H s (Q .normal)from h)
   exact AWp.region hct h1 h2
 | .region id ops true,Γ,H,s,Q,hst,h=>AWp.regD hm hct hst h
 | .seq a b,Γ,H,s,Q,hst,h=>by
   simp only[statC,Bool.and_eq_true]at hst
   exact AWp.seq ((wA_ok hm hct a hst.1 h).mono (thenA_mono fun Γ H s h=>wA_ok hm hct b hst.2 h))
 | .cond c a b,Γ,H,s,Q,hst,h=>by
   simp only[statC,Bool.and_eq_true]at hst
   simp only[wA]at h
   split at h
   ·rename_i t ht
    refine AWp.cond ht ?_
    cases t
    ·exact wA_ok hm hct b hst.2 (by simpa using h)
    ·exact wA_ok hm hct a hst.1 (by simpa using h)
   ·exact h.elim
 | .block id c,Γ,H,s,Q,hst,h=>AWp.block (wA_ok hm hct c hst h)
 | .loop c,Γ,H,s,Q,_,h=>h
 | .rangeFunc _ _ _ _,Γ,H,s,Q,_,h=>h
 | .scope _,Γ,H,s,Q,_,h=>h
 | .goto _,Γ,H,s,Q,_,h=>h
 | .refuse _,Γ,H,s,Q,_,h=>h
def condQ (c:AV) (X Y:Prop):Prop:=match c with
 | .sc (.bool t)=>if t=true then X else Y
 |_=>False
theorem condQ_bool {t:Bool} {X Y:Prop}:condQ (.sc (.bool t)) X Y=if t=true then X else Y:=rfl
theorem wA_cond {c:Operand} {x y:Code} {a:AV}:wA P E ct (.cond c x y) (a::Γ) H s Q=condQ (evA (a::Γ) c) (wA P E ct x (a::Γ) H s Q) (wA P E ct y (a::Γ) H s Q):=by
 simp only[wA,condQ]
def logT (T:List Tr) (x:Tr):List Tr:=if x.rd=[]∧x.wr=[]then T else T++[x]
theorem logT_none {T:List Tr} {i s:Nat}:logT T ⟨i,s,[],[]⟩=T:=by simp[logT]
theorem logT_rd {T:List Tr} {i s n:Nat} {rd wr:List Nat}:logT T ⟨i,s,n::rd,wr⟩=T++[⟨i,s,n::rd,wr⟩]:=by simp[logT]
theorem logT_wr {T:List Tr} {i s n:Nat} {wr:List Nat}:logT T ⟨i,s,[],n::wr⟩=T++[⟨i,s,[],n::wr⟩]:=by simp[logT]
def noCT:CT:=fun _ _=>.fail
theorem noCT_ok:CTok P noCT:=fun f args ρ H w vs h hr s r H' s' hm=>by simp[noCT,AP.run]at hm
def PureEnd (E:Ent) (r r1:AV) (H1:AHp):Prop:=(∀n,E.H n≠none→H1 n=E.H n)∧Pub H1 (fun n=>E.H n≠none) (fun _=>none) r1 r
theorem acall_pure {f:FuncId} {fn:Func} {c:Code} {args:List AV} {r:AV} (hf:P.funcs[f]? =some fn) (hb:fn.body=some c)
  (h:∀(E:Ent) (s:Nat),(∀n,s≤n→E.H n=none)→AWp P E c (begA fn args) E.H s (EndA P fn (PureEnd E r))):ACall P f args (.ret r):=by
 intro ρ H w vs hrel hr s r' H' s' hm
 simp only[AP.run,Option.some.injEq,Prod.mk.injEq]at hm
 obtain⟨rfl,rfl,rfl⟩:=hm
 obtain⟨N,hN⟩:=hrel.fin
 refine(calls_of_awp (E:=⟨ρ,H,w⟩) hf hb hrel hr (h ⟨ρ,H,w⟩ N hN)).mono ?_
 rintro e w' ⟨v,r1,H1,ρ1,rfl,⟨k1,k2⟩,hs,hrep⟩
 have k1':∀n,H n≠none→H1 n=H n:=k1
 have hF:Fin H H1 (fun _=>none) H:=by
  refine⟨fun n hn=>⟨hn,rfl⟩,fun n o' hn=>.inl ⟨rfl,.inl ⟨hn,?_⟩⟩,?_,?_,⟨N,hN⟩⟩
  ·rw[k1' n (by rw[hn];simp)];exact hn
  ·intro a b n o o' h;cases h
  ·intro s n o h;cases h
 obtain⟨ρ',h1,h2⟩:=exit_gen hrel hs (fun _=>none) H hF
 exact⟨v,ρ',rfl,h1,h2 _ _ _ (by simpa using k2) hrep⟩
theorem acall_pure' {f:FuncId} {fn:Func} {c:Code} {args:List AV} {r:AV} (hm:P.follows .mixedOrders=true) (hct:CTok P ct) (hf:P.funcs[f]? =some fn) (hb:fn.body=some c) (hst:statC c=true)
  (h:∀(E:Ent) (s:Nat),(∀n,s≤n→E.H n=none)→wA P E ct c (begA fn args) E.H s (EndA P fn (PureEnd E r))):ACall P f args (.ret r):=
 acall_pure hf hb fun E s hs=>wA_ok hm hct c hst (h E s hs)
theorem Pub.sc {K:Nat→Prop} {N:Nat→Option (Nat×Nat)} (v:Value):Pub H K N (.sc v) (.sc v):=.same (by simp[AV.inS])
theorem bin_add {t:TypeId} {xo yo:Operand} {x y:Int} (h: -9223372036854775808≤x+y∧x+y≤9223372036854775807):aBin P .add t xo yo (.sc (.int .i64 x)) (.sc (.int .i64 y))= .ret (.sc (.int .i64 (x+y))):=by
 simp[aBin,isEqOp,aG2,AV.val?,eqGuard,binOp,Op.intArith,AP.ofOption,pureRun_pure,IntWalk.i64_in _ h]
theorem bin_sub {t:TypeId} {xo yo:Operand} {x y:Int} (h: -9223372036854775808≤x-y∧x-y≤9223372036854775807):aBin P .sub t xo yo (.sc (.int .i64 x)) (.sc (.int .i64 y))= .ret (.sc (.int .i64 (x-y))):=by
 simp[aBin,isEqOp,aG2,AV.val?,eqGuard,binOp,Op.intArith,AP.ofOption,pureRun_pure,IntWalk.i64_in _ h]
theorem bin_mul {t:TypeId} {xo yo:Operand} {x y:Int} (h: -9223372036854775808≤x*y∧x*y≤9223372036854775807):aBin P .mul t xo yo (.sc (.int .i64 x)) (.sc (.int .i64 y))= .ret (.sc (.int .i64 (x*y))):=by
 simp[aBin,isEqOp,aG2,AV.val?,eqGuard,binOp,Op.intArith,AP.ofOption,pureRun_pure,IntWalk.i64_in _ h]
theorem bin_lss {t:TypeId} {xo yo:Operand} {k:IntKind} {x y:Int}:aBin P .lss t xo yo (.sc (.int k x)) (.sc (.int k y))= .ret (.sc (.bool (decide (x<y)))):=by
 simp[aBin,isEqOp,aG2,AV.val?,eqGuard,binOp,Op.intCmp,AP.ofOption,pureRun_pure]
theorem bin_leq {t:TypeId} {xo yo:Operand} {k:IntKind} {x y:Int}:aBin P .leq t xo yo (.sc (.int k x)) (.sc (.int k y))= .ret (.sc (.bool (decide (x≤y)))):=by
 simp[aBin,isEqOp,aG2,AV.val?,eqGuard,binOp,Op.intCmp,AP.ofOption,pureRun_pure]
theorem bin_gtr {t:TypeId} {xo yo:Operand} {k:IntKind} {x y:Int}:aBin P .gtr t xo yo (.sc (.int k x)) (.sc (.int k y))= .ret (.sc (.bool (decide (y<x)))):=by
 simp[aBin,isEqOp,aG2,AV.val?,eqGuard,binOp,Op.intCmp,AP.ofOption,pureRun_pure]
theorem bin_geq {t:TypeId} {xo yo:Operand} {k:IntKind} {x y:Int}:aBin P .geq t xo yo (.sc (.int k x)) (.sc (.int k y))= .ret (.sc (.bool (decide (y≤x)))):=by
 simp[aBin,isEqOp,aG2,AV.val?,eqGuard,binOp,Op.intCmp,AP.ofOption,pureRun_pure]
theorem bin_eql {t:TypeId} {d:TypeDesc} {xo yo:Operand} {k:IntKind} {x y:Int} (hu:P.underlying t=some d):aBin P .eql t xo yo (.sc (.int k x)) (.sc (.int k y))= .ret (.sc (.bool (decide (x=y)))):=by
 have h1:∀v,nonNil d (.sc v)=false:=fun v=>by cases d<;>rfl
 have e:(x==y)=decide (x=y):=by by_cases h:x=y<;>simp[h]
 have e':(x != y)= !(decide (x=y)):=by rw[←e];rfl
 simp[aBin,isEqOp,hu,h1,aG2,AV.val?,eqGuard,binOp,Op.intCmp,AP.ofOption,pureRun_pure,e,e']
theorem bin_neq {t:TypeId} {d:TypeDesc} {xo yo:Operand} {k:IntKind} {x y:Int} (hu:P.underlying t=some d):aBin P .neq t xo yo (.sc (.int k x)) (.sc (.int k y))= .ret (.sc (.bool (!(decide (x=y))))):=by
 have h1:∀v,nonNil d (.sc v)=false:=fun v=>by cases d<;>rfl
 have e:(x==y)=decide (x=y):=by by_cases h:x=y<;>simp[h]
 have e':(x != y)= !(decide (x=y)):=by rw[←e];rfl
 simp[aBin,isEqOp,hu,h1,aG2,AV.val?,eqGuard,binOp,Op.intCmp,AP.ofOption,pureRun_pure,e,e']
theorem bin_quo {t:TypeId} {xo yo:Operand} {x y:Int} (h:0≤x∧0<y∧x≤9223372036854775807):aBin P .quo t xo yo (.sc (.int .i64 x)) (.sc (.int .i64 y))= .ret (.sc (.int .i64 (x/y))):=by
 have hy:y≠0:=by omega
 have hw: -9223372036854775808≤x/y∧x/y≤9223372036854775807:=by
  have h1:=Int.ediv_nonneg h.1 (Int.le_of_lt h.2.1)
  have h2:x/y≤x:=Int.ediv_le_self _ h.1
  omega
 simp[aBin,isEqOp,aG2,AV.val?,eqGuard,binOp,Op.intDiv,hy,AP.ofOption,pureRun_pure,Int.tdiv_eq_ediv_of_nonneg h.1,IntWalk.i64_in _ hw]
theorem bin_rem {t:TypeId} {xo yo:Operand} {x y:Int} (h:0≤x∧0<y∧x≤9223372036854775807):aBin P .rem t xo yo (.sc (.int .i64 x)) (.sc (.int .i64 y))= .ret (.sc (.int .i64 (x%y))):=by
 have hy:y≠0:=by omega
 simp[aBin,isEqOp,aG2,AV.val?,eqGuard,binOp,Op.intDiv,hy,AP.ofOption,pureRun_pure,Int.tmod_eq_emod_of_nonneg h.1]
theorem dyn_nil {ops:Array Oper}:DynOK ops []=True:=by simp[DynOK]
def allY (ops:Array Oper) (x:Tr):List Tr→Prop
 | []=>True
 |y::T=>(Dj x y∨ordB ops x.i y.i=true)∧allY ops x T
theorem allY_iff {ops:Array Oper} {x:Tr}:∀ {T:List Tr},allY ops x T↔∀y∈T,Dj x y∨ordB ops x.i y.i=true
 | []=>by simp[allY]
 |y::T=>by simp[allY,allY_iff (T:=T)]
theorem dyn_cons {ops:Array Oper} {x:Tr} {T:List Tr}:DynOK ops (x::T)=(allY ops x T∧DynOK ops T):=by
 simp only[DynOK,List.pairwise_cons,←allY_iff]
theorem allY_nil {ops:Array Oper} {x:Tr}:allY ops x []=True:=rfl
theorem allY_cons {ops:Array Oper} {x y:Tr} {T:List Tr}:allY ops x (y::T)=((Dj x y∨ordB ops x.i y.i=true)∧allY ops x T):=rfl
theorem dj_rr {i j s s':Nat} {rd rd':List Nat}:Dj ⟨i,s,rd,[]⟩ ⟨j,s',rd',[]⟩=True:=by simp[Dj]
theorem un_not {x:Bool}:aG1 P (fun v=>Op.unary .not v) (.sc (.bool x))= .ret (.sc (.bool (!x))):=by
 simp[aG1,AV.val?,Op.unary,AP.ofOption,pureRun_pure]
end
end Go.Am
end
section
namespace Go.Am
open Go
section
variable {P:Program} {E:Ent} {ct:CT} {Γ Γ':List AV} {H H':AHp} {s s':Nat} {Q Q':APost}
theorem Q0 {a b:Code} (h:wA P E ct a Γ H s (thenA (fun Γ H s=>wA P E ct b Γ H s Q) Q)):wA P E ct (.seq a b) Γ H s Q:=h
theorem Q4 {id:Nat} {c:Code} (h:wA P E ct c Γ H s (blockA id Q)):wA P E ct (.block id c) Γ H s Q:=h
theorem Q5 (h:Q .normal Γ H s):wA P E ct .skip Γ H s Q:=h
theorem Q6 (h:Q .ret Γ H s):wA P E ct .ret Γ H s Q:=h
theorem Q7 {id:Nat} (h:Q (.exit id) Γ H s):wA P E ct (.exit id) Γ H s Q:=h
theorem Q1 {id:Nat} {l:List Oper} (h:opsQ P ct l.toArray l Γ H s (Q .normal)):wA P E ct (.region id l.toArray false) Γ H s Q:=h
theorem QG {id:Nat} {l:List Oper} (h:opsLQ P ct l.toArray 0 l Γ H s [] (fun Γ H s T=>DynOK l.toArray T∧Q .normal Γ H s)):wA P E ct (.region id l.toArray true) Γ H s Q:=h
theorem Q2 {ops:Array Oper} {K:List AV→AHp→Nat→Prop} (h:K Γ H s):opsQ P ct ops [] Γ H s K:=h
theorem Q3 {K:List AV→AHp→Nat→Prop} (h:K Γ H s):thenA K Q .normal Γ H s:=h
theorem Q8 {K:List AV→AHp→Nat→Prop} (h:Q .ret Γ H s):thenA K Q .ret Γ H s:=h
theorem Q9 {K:List AV→AHp→Nat→Prop} {id:Nat} (h:Q (.exit id) Γ H s):thenA K Q (.exit id) Γ H s:=h
theorem QA {id:Nat} (h:Q .normal Γ H s):blockA id Q .normal Γ H s:=h
theorem QB {id:Nat} (h:Q .ret Γ H s):blockA id Q .ret Γ H s:=h
theorem QC {id:Nat} (h:Q .normal Γ H s):blockA id Q (.exit id) Γ H s:=by simpa[blockA]using h
theorem QK {ops:Array Oper} {o:Oper} {rest:List Oper} {K:List AV→AHp→Nat→Prop} {v:AV} (hw:o.guard=none) (e:(aOp P ct Γ o).run H s=some (v,H',s')) (e2:putA Γ o.dst v=Γ') (h:opsQ P ct ops rest Γ' H' s' K):
  opsQ P ct ops (o::rest) Γ H s K:=by
 subst e2
 have h1:aWanted ops Γ o=some true:=by unfold aWanted;rw[hw]
 rw[opsQ,h1]
 simp only[runQ,e]
 exact h
theorem QT {ops:Array Oper} {o:Oper} {rest:List Oper} {K:List AV→AHp→Nat→Prop} {v:AV} (hw:aWanted ops Γ o=some true) (e:(aOp P ct Γ o).run H s=some (v,H',s')) (e2:putA Γ o.dst v=Γ') (h:opsQ P ct ops rest Γ' H' s' K):
  opsQ P ct ops (o::rest) Γ H s K:=by
 subst e2
 rw[opsQ,hw]
 simp only[runQ,e]
 exact h
theorem QI {ops:Array Oper} {o:Oper} {rest:List Oper} {K:List AV→AHp→Nat→Prop} (hw:aWanted ops Γ o=some false) (e2:putA Γ o.dst (.sc undef)=Γ') (h:opsQ P ct ops rest Γ' H s K):
  opsQ P ct ops (o::rest) Γ H s K:=by
 subst e2
 rw[opsQ,hw]
 exact h
theorem q_condT {c:Operand} {x y:Code} (hc:evA Γ c= .sc (.bool true)) (h:wA P E ct x Γ H s Q):wA P E ct (.cond c x y) Γ H s Q:=by
 cases Γ with
 |nil=>simp only[wA,hc];first |exact h |simpa using h
 |cons a Γ=>rw[wA_cond,hc,condQ_bool,if_pos rfl];exact h
theorem q_condF {c:Operand} {x y:Code} (hc:evA Γ c= .sc (.bool false)) (h:wA P E ct y Γ H s Q):wA P E ct (.cond c x y) Γ H s Q:=by
 cases Γ with
 |nil=>simp only[wA,hc];first |exact h |simpa using h
 |cons a Γ=>rw[wA_cond,hc,condQ_bool,if_neg (by simp)];exact h
theorem QQ {c:Operand} {x y:Code} {t:Bool} (hc:evA Γ c= .sc (.bool t)) (h:wA P E ct (bif t then x else y) Γ H s Q):wA P E ct (.cond c x y) Γ H s Q:=by
 cases t with
 |true=>exact q_condT hc h
 |false=>exact q_condF hc h
theorem QD {x y:Code} (h:wA P E ct x Γ H s Q):wA P E ct (bif true then x else y) Γ H s Q:=h
theorem QE {x y:Code} (h:wA P E ct y Γ H s Q):wA P E ct (bif false then x else y) Γ H s Q:=h
theorem QY {t:Bool} {x y:Code} (ht:t=true) (h:wA P E ct x Γ H s Q):wA P E ct (bif t then x else y) Γ H s Q:=by subst ht;exact h
theorem QX {t:Bool} {x y:Code} (ht:t=false) (h:wA P E ct y Γ H s Q):wA P E ct (bif t then x else y) Γ H s Q:=by subst ht;exact h
theorem QZ {fn:Func} {R:AV→AHp→Prop} {l:List AV} {r:AV} (e:aRes P Γ H fn.results.toList=some l) (e2:packA l=r) (h:R r H):EndA P fn R .ret Γ H s:=⟨l,e,by rw[e2];exact h⟩
theorem QF {c:Code} (h:AWp P E (.loop c) Γ H s Q):wA P E ct (.loop c) Γ H s Q:=h
end
end Go.Am
end
