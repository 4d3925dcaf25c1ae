import Derived.Test.YtdcomhdadnhpnaaYZM8
import Derived.Test.YtdcomhdadnhpnaaYZM9
set_option linter.all false
section
namespace Go.Am
open Go
theorem runLQ_of {α:Type} (m:AP α):∀ {H:AHp} {s:Nat} {rd wr:List Nat} {K:α→AHp→Nat→List Nat→List Nat→Prop} {a:α} {H':AHp} {s':Nat} {rd' wr':List Nat},
  m.runL H s=some (a,H',s',rd',wr')→K a H' s' (rd++rd') (wr++wr')→runLQ m H s rd wr K:=by
 induction m with
 |ret a=>
  intro H s rd wr K a' H' s' rd' wr' h hk
  simp only[AP.runL,Option.some.injEq,Prod.mk.injEq]at h
  obtain⟨rfl,rfl,rfl,rfl,rfl⟩:=h
  simpa[runLQ]using hk
 |get n k ih=>
  intro H s rd wr K a' H' s' rd' wr' h hk
  simp only[AP.runL]at h
  simp only[runLQ]
  cases ho:H n with
  |none=>rw[ho]at h;cases h
  |some o=>
   rw[ho]at h
   simp only at h ⊢
   cases hr:(k o).runL H s with
   |none=>rw[hr]at h;cases h
   |some z=>
    obtain⟨b,H1,s1,rd1,wr1⟩:=z
    rw[hr]at h
    simp only[Option.some.injEq,Prod.mk.injEq]at h
    obtain⟨rfl,rfl,rfl,rfl,rfl⟩:=h
    exact ih o hr (by simpa using hk)
 |set n o k ih=>
  intro H s rd wr K a' H' s' rd' wr' h hk
  simp only[AP.runL]at h
  simp only[runLQ]
  cases hr:k.runL (upd H n o) s with
  |none=>rw[hr]at h;cases h
  |some z=>
   obtain⟨b,H1,s1,rd1,wr1⟩:=z
   rw[hr]at h
   simp only[Option.some.injEq,Prod.mk.injEq]at h
   obtain⟨rfl,rfl,rfl,rfl,rfl⟩:=h
   exact ih hr (by simpa using hk)
 |new o k ih=>
  intro H s rd wr K a' H' s' rd' wr' h hk
  simp only[AP.runL]at h
  simp only[runLQ]
  cases ho:H s with
  |some o=>rw[ho]at h;cases h
  |none=>
   rw[ho]at h
   simp only at h ⊢
   cases hr:(k s).runL (upd H s o) (s+1)with
   |none=>rw[hr]at h;cases h
   |some z=>
    obtain⟨b,H1,s1,rd1,wr1⟩:=z
    rw[hr]at h
    simp only[Option.some.injEq,Prod.mk.injEq]at h
    obtain⟨rfl,rfl,rfl,rfl,rfl⟩:=h
    exact ih s hr (by simpa using hk)
 |fail=>intro H s rd wr K a' H' s' rd' wr' h;simp[AP.runL]at h
section
variable {P:Program} {E:Ent} {ct:CT} {Γ Γ':List AV} {H H':AHp} {s s':Nat} {Q:APost}
theorem QL {ops:Array Oper} {i:Nat} {o:Oper} {rest:List Oper} {T T':List Tr} {rd wr:List Nat} {K:List AV→AHp→Nat→List Tr→Prop} {v:AV} (hw:o.guard=none) (e:(aOp P ct Γ o).runL H s=some (v,H',s',rd,wr))
  (e2:putA Γ o.dst v=Γ') (e3:logT T ⟨i,s,rd,wr⟩=T') (h:opsLQ P ct ops (i+1) rest Γ' H' s' T' K):opsLQ P ct ops i (o::rest) Γ H s T K:=by
 subst e2;subst e3
 have h1:aWanted ops Γ o=some true:=by unfold aWanted;rw[hw]
 rw[opsLQ,h1]
 exact runLQ_of _ e h
theorem QM {ops:Array Oper} {i:Nat} {o:Oper} {rest:List Oper} {T T':List Tr} {rd wr:List Nat} {K:List AV→AHp→Nat→List Tr→Prop} {v:AV} (hw:aWanted ops Γ o=some true) (e:(aOp P ct Γ o).runL H s=some (v,H',s',rd,wr))
  (e2:putA Γ o.dst v=Γ') (e3:logT T ⟨i,s,rd,wr⟩=T') (h:opsLQ P ct ops (i+1) rest Γ' H' s' T' K):opsLQ P ct ops i (o::rest) Γ H s T K:=by
 subst e2;subst e3
 rw[opsLQ,hw]
 exact runLQ_of _ e h
theorem QN {ops:Array Oper} {i:Nat} {o:Oper} {rest:List Oper} {T:List Tr} {K:List AV→AHp→Nat→List Tr→Prop} (hw:aWanted ops Γ o=some false) (e2:putA Γ o.dst (.sc undef)=Γ')
  (h:opsLQ P ct ops (i+1) rest Γ' H s T K):opsLQ P ct ops i (o::rest) Γ H s T K:=by
 subst e2
 rw[opsLQ,hw]
 exact h
theorem QO {ops:Array Oper} {i:Nat} {T:List Tr} (hd:DynOK ops T) (h:Q .normal Γ H s):opsLQ P ct ops i [] Γ H s T (fun Γ H s T=>DynOK ops T∧Q .normal Γ H s):=⟨hd,h⟩
end
end Go.Am
end
section
namespace Go.Proofs.Ytdcomhdadnhpnaa
open Go Go.Am
def Wk (a b:AV):Prop:=∀ρ O w v,Rep ρ O w a v→Rep ρ O w b v
theorem Wk.rfl' {a:AV}:Wk a a:=fun _ _ _ _ h=>h
theorem Wk.nil:Wk (.sc (.slice none 0 0)) (.dsl 0 []):=fun _ _ _ _ h=>by cases h;exact .dnil (Nat.le_refl _)
theorem acall_pureW {P:Program} {ct:CT} {f:FuncId} {fn:Func} {c:Code} {args:List AV} {r:AV} (hm:P.follows .mixedOrders=true) (hct:CTok P ct) (hf:P.funcs[f]? =some fn) (hb:fn.body=some c) (hst:statC c=true)
  (h:∀(E:Ent) (s:Nat),(∀n,s≤n→E.H n=none)→wA P E ct c (begA fn args) E.H s (EndA P fn fun r1 H1=>∃r',Wk r' r∧PureEnd E r' r1 H1)):ACall P f args (.ret r):=by
 intro ρ H w vs hrel hr s r' H' s' hmm
 simp only[AP.run,Option.some.injEq,Prod.mk.injEq]at hmm
 obtain⟨rfl,rfl,rfl⟩:=hmm
 obtain⟨N,hN⟩:=hrel.fin
 refine(calls_of_awp (E:=⟨ρ,H,w⟩) hf hb hrel hr (wA_ok hm hct c hst (h ⟨ρ,H,w⟩ N hN))).mono ?_
 rintro e w' ⟨v,r1,H1,ρ1,rfl,⟨r',hw,k1,k2⟩,hs,hrep⟩
 have k1':∀n,H n≠none→H1 n=H n:=k1
 have hF:Fin H H1 (fun _=>none) H:=by
  refine⟨fun n hn=>⟨hn,rfl⟩,fun n o' hn=>.inl ⟨rfl,.inl ⟨hn,?_⟩⟩,?_,?_,⟨N,hN⟩⟩
  ·rw[k1' n (by rw[hn];simp)];exact hn
  ·intro a b n o o' h;cases h
  ·intro s n o h;cases h
 obtain⟨ρ',h1,h2⟩:=exit_gen hrel hs (fun _=>none) H hF
 exact⟨v,ρ',rfl,h1,hw _ _ _ _ (h2 _ _ _ (by simpa using k2) hrep)⟩
theorem pureRun_underlying {P:Program} {t:TypeId} {d:TypeDesc} (h:P.underlying t=some d):pureRun P (underlying t)=some d:=by
 simp[underlying,pureRun_bind,pureRun,program,h]
 rfl
theorem pureRun_program {P:Program}:pureRun P program=some P:=rfl
theorem pureRun_int {P:Program} {t:TypeId} {k k':IntKind} {x y:Int} (d:Nat) (h:P.underlying t=some (.int k')):pureRun P (Op.equalIn (d+1) t (.int k x) (.int k y))=some (x==y):=by
 simp[Op.equalIn,pureRun_bind,pureRun_underlying h,pureRun_pure]
theorem pureRun_part3 {xs:Array Value} {i:Nat} {v:Value} (h:xs[i]? =some v):pureRun Try.prog (part 3 xs i)=some v:=by
 simp[part,isAgg,pureRun_bind,pureRun_underlying Try.underlying3,pureRun_pure,h]
theorem pr_eq43 (a b c d:Int):pureRun Try.prog (Op.equalIn (9998+1+1) 43 (.agg #[.int .i64 a,.int .i64 b]) (.agg #[.int .i64 c,.int .i64 d]))=some (decide (a=c∧b=d)):=by
 rw[Op.equalIn]
 have hp:Try.prog.stoodInHeld 43=false:=by kernel_rfl
 simp only[pureRun_bind,pureRun_underlying Try.underlying43,Option.bind_some,pureRun_program,hp,Bool.false_eq_true,if_false]
 rw[←Array.forIn_toList]
 simp only[List.forIn_cons,List.forIn_nil,pureRun_bind]
 rw[if_pos (by decide),if_pos (by decide)]
 simp only[pureRun_bind]
 rw[pureRun_part3 (v:=.int .i64 a) rfl,pureRun_part3 (v:=.int .i64 c) rfl]
 simp only[Option.bind_some,pureRun_int _ Try.underlying3]
 by_cases e:a=c
 ·subst e
  simp only[beq_self_eq_true,Bool.not_true,Bool.false_eq_true,if_false,pureRun_pure,Option.bind_some]
  simp only[pureRun_bind]
  rw[pureRun_part3 (v:=.int .i64 b) rfl,pureRun_part3 (v:=.int .i64 d) rfl]
  simp only[Option.bind_some,pureRun_int _ Try.underlying3]
  by_cases e2:b=d
  ·subst e2;simp[pureRun_pure]
  ·simp[pureRun_pure,e2]
 ·simp[pureRun_pure,e]
theorem pureRun_map {α β:Type} {P:Program} (f:α→β) (e:Sem α):pureRun P (f <$> e)=(pureRun P e).map f:=by
 show pureRun P (e >>= fun a=>pure (f a))=_
 rw[pureRun_bind]
 cases pureRun P e<;>rfl
theorem pr_eq43' (a b c d:Int):pureRun Try.prog (Op.equalIn 10000 43 (.agg #[.int .i64 a,.int .i64 b]) (.agg #[.int .i64 c,.int .i64 d]))=some (decide (a=c∧b=d)):=pr_eq43 a b c d
theorem bin_eql43 {xo yo:Operand} {a b c d:Int}:aBin Try.prog .eql 43 xo yo (.agg [.sc (.int .i64 a),.sc (.int .i64 b)]) (.agg [.sc (.int .i64 c),.sc (.int .i64 d)])= .ret (.sc (.bool (decide (a=c∧b=d)))):=by
 have hp:Try.prog.eqGuardType Try.prog.depth 43=false:=by kernel_rfl
 have h1:∀l fs,nonNil (.struct fs) (.agg l)=false:=fun l fs=>rfl
 simp[aBin,isEqOp,aG2,AV.val?,valL?,eqGuard,pureRun_bind,pureRun_program,hp,binOp,Op.equal,Op.maxDepth,pureRun_pure,pureRun_map,pr_eq43',AP.ofOption,Try.underlying43,h1]
theorem bin_neq43 {xo yo:Operand} {a b c d:Int}:aBin Try.prog .neq 43 xo yo (.agg [.sc (.int .i64 a),.sc (.int .i64 b)]) (.agg [.sc (.int .i64 c),.sc (.int .i64 d)])= .ret (.sc (.bool (!(decide (a=c∧b=d))))):=by
 have hp:Try.prog.eqGuardType Try.prog.depth 43=false:=by kernel_rfl
 have h1:∀l fs,nonNil (.struct fs) (.agg l)=false:=fun l fs=>rfl
 simp[aBin,isEqOp,aG2,AV.val?,valL?,eqGuard,pureRun_bind,pureRun_program,hp,binOp,Op.equal,Op.maxDepth,pureRun_pure,pureRun_map,pr_eq43',AP.ofOption,Try.underlying43,h1]
end Go.Proofs.Ytdcomhdadnhpnaa
end
section
namespace Go.Am
open Go
theorem AP.run_fin {α:Type} (m:AP α):∀ {H:AHp} {s:Nat} {a:α} {H':AHp} {s':Nat},m.run H s=some (a,H',s')→(∃M,∀n,M≤n→H n=none)→∃M,∀n,M≤n→H' n=none:=by
 induction m with
 |ret a=>intro H s a' H' s' h hf;simp only[AP.run,Option.some.injEq,Prod.mk.injEq]at h;obtain⟨_,rfl,_⟩:=h;exact hf
 |get n k ih=>
  intro H s a' H' s' h hf
  simp only[AP.run]at h
  split at h
  ·rename_i o ho;exact ih o h hf
  ·cases h
 |set n o k ih=>
  intro H s a' H' s' h hf
  simp only[AP.run]at h
  obtain⟨M,hM⟩:=hf
  exact ih h ⟨max M (n+1),fun q hq=>by rw[upd_ne _ _ (by omega)];exact hM q (by omega)⟩
 |new o k ih=>
  intro H s a' H' s' h hf
  simp only[AP.run]at h
  split at h
  ·obtain⟨M,hM⟩:=hf
   exact ih s h ⟨max M (s+1),fun q hq=>by rw[upd_ne _ _ (by omega)];exact hM q (by omega)⟩
  ·cases h
 |fail=>intro H s a' H' s' h;simp[AP.run]at h
section
variable {P:Program} {ct:CT}
theorem acall_gen {f:FuncId} {fn:Func} {c:Code} {args:List AV} {m:AP AV} (hf:P.funcs[f]? =some fn) (hb:fn.body=some c)
  (h:∀(E:Ent) (s0 s:Nat) (r:AV) (H':AHp) (s':Nat),m.run E.H s0=some (r,H',s')→(∀n,s≤n→E.H n=none∧H' n=none)→
   AWp P E c (begA fn args) E.H s (EndA P fn fun r1 H1=>∃(r2:AV) (N:Nat→Option (Nat×Nat)),Go.Proofs.Ytdcomhdadnhpnaa.Wk r2 r∧Fin E.H H1 N H'∧Pub H1 (fun n=>H' n≠none∧N n=none) N r1 r2)):ACall P f args m:=by
 intro ρ H w vs hrel hr s0 r H' s' hmm
 obtain⟨M,hM⟩:=hrel.fin
 obtain⟨M',hM'⟩:=AP.run_fin m hmm ⟨M,hM⟩
 refine(calls_of_awp (E:=⟨ρ,H,w⟩) hf hb hrel hr (h ⟨ρ,H,w⟩ s0 (max M M') r H' s' hmm (fun n hn=>⟨hM n (by omega),hM' n (by omega)⟩))).mono ?_
 rintro e w' ⟨v,r1,H1,ρ1,rfl,⟨r2,N,hw,hF,hp⟩,hs,hrep⟩
 obtain⟨ρ',h1,h2⟩:=exit_gen hrel hs N H' hF
 exact⟨v,ρ',rfl,h1,hw _ _ _ _ (h2 _ _ _ hp hrep)⟩
theorem acall_row {f:FuncId} {fn:Func} {c:Code} {args:List AV} {esz len:Nat} {cs:List AV} (hx:∀a∈cs,∃v,a= .sc v) (hm:P.follows .mixedOrders=true) (hct:CTok P ct) (hf:P.funcs[f]? =some fn) (hb:fn.body=some c) (hst:statC c=true)
  (h:∀(E:Ent) (s:Nat),(∀n,s≤n→E.H n=none)→wA P E ct c (begA fn args) E.H s (EndA P fn fun r1 H1=>(∀n,E.H n≠none→H1 n=E.H n)∧∃nm ver,r1= .sl nm ver 0 len∧H1 nm=some (.row ver esz cs)∧s≤nm)):
  ACall P f args (.new (.row 0 esz cs) fun n=>.ret (.sl n 0 0 len)):=by
 refine acall_gen hf hb (fun E s0 s r H' s' hr hs=>?_)
 simp only[AP.run]at hr
 split at hr
 ·rename_i h0
  simp only[Option.some.injEq,Prod.mk.injEq]at hr
  obtain⟨rfl,rfl,rfl⟩:=hr
  refine(wA_ok hm hct c hst (h E s (fun n hn=>(hs n hn).1))).mono (fun e Γ H1 s1 he=>?_)
  have key:∀r1,((∀ n,E.H n≠none→H1 n=E.H n)∧∃nm ver,r1= .sl nm ver 0 len∧H1 nm=some (.row ver esz cs)∧s≤nm)→∃(r2:AV) (N:Nat→Option (Nat×Nat)),Go.Proofs.Ytdcomhdadnhpnaa.Wk r2 (.sl s0 0 0 len)∧Fin E.H H1 N (upd E.H s0 (.row 0 esz cs))∧Pub H1 (fun n=>upd E.H s0 (.row 0 esz cs) n≠none∧N n=none) N r1 r2:=by
   rintro r1 ⟨k1,nm,ver,rfl,k2,k3⟩
   have hs0:s0<s:=Nat.lt_of_not_le fun hle=>by have:=(hs s0 hle).2;rw[upd_same]at this;cases this
   have hH:∀n,s≤n→upd E.H s0 (.row 0 esz cs) n=none:=fun n hn=>(hs n hn).2
   refine⟨_,fun q=>if q=s0 then some (nm,0)else none,Go.Proofs.Ytdcomhdadnhpnaa.Wk.rfl',⟨fun n hn=>?_,fun n o' hn=>?_,?_,?_,⟨s,hH⟩⟩,?_⟩
   ·have hne:n≠s0:=by rintro rfl;exact hn h0
    exact⟨by rw[upd_ne _ _ hne];exact hn,by rw[if_neg hne]⟩
   ·by_cases e:n=s0
    ·subst e
     rw[upd_same]at hn;cases hn
     refine .inr ⟨nm,0,ver,esz,cs,cs,by rw[if_pos rfl],k2,hH nm k3,Nat.zero_le _,rfl,by simp,fun i a b ha hb=>?_⟩
     rw[List.drop_zero]at ha
     rw[ha]at hb;cases hb
     obtain⟨v,rfl⟩:=hx a (List.mem_of_getElem? ha)
     exact Pub.sc v
    ·rw[upd_ne _ _ e]at hn
     exact .inl ⟨by rw[if_neg e],.inl ⟨hn,by rw[k1 n (by rw[hn];simp)];exact hn⟩⟩
   ·intro a b n o o' ha hb
    split at ha
    ·split at hb
     ·rename_i e1 e2;rw[e1,e2]
     ·cases hb
    ·cases ha
   ·intro q n o hq
    split at hq
    ·rename_i e;rw[e,upd_same];simp
    ·cases hq
   ·refine Pub.ren k2 (by rw[if_pos rfl]) ?_
    rintro⟨h1,_⟩
    exact h1 (hH nm k3)
  cases e with
  |normal=>exact he.imp (fun l hl=>⟨hl.1,key _ hl.2⟩)
  |ret=>exact he.imp (fun l hl=>⟨hl.1,key _ hl.2⟩)
  |_=>exact he.elim
 ·cases hr
end
end Go.Am
namespace Go.Proofs.Ytdcomhdadnhpnaa
open Go Go.Am
section
variable {xo yo:Operand} {k:IntKind} {x y:Int}
theorem eqlT3:aBin Try.prog .eql 3 xo yo (.sc (.int k x)) (.sc (.int k y))= .ret (.sc (.bool (decide (x=y)))):=bin_eql Try.underlying3
theorem neqT3:aBin Try.prog .neq 3 xo yo (.sc (.int k x)) (.sc (.int k y))= .ret (.sc (.bool (!(decide (x=y))))):=bin_neq Try.underlying3
theorem eqlT23:aBin Try.prog .eql 23 xo yo (.sc (.int k x)) (.sc (.int k y))= .ret (.sc (.bool (decide (x=y)))):=bin_eql Try.underlying23
theorem neqT23:aBin Try.prog .neq 23 xo yo (.sc (.int k x)) (.sc (.int k y))= .ret (.sc (.bool (!(decide (x=y))))):=bin_neq Try.underlying23
end
theorem bs31 (x:Int):aBuildSlice Try.prog 31 1 [(0,.sc (.int .i64 x))]= .new (.row 0 1 [.sc (.int .i64 x)]) fun n=>.ret (.sl n 0 0 1):=by
 have hz:aZeros (.int .i64 0) 1=[.sc (.int .i64 0)]:=rfl
 simp[aBuildSlice,Try.underlying31,sz3,ze3,hz,aFill,aCells,AV.one,Value.oneCell',putCells]
theorem bs41 (x y:Int):aBuildSlice Try.prog 41 1 [(0,.agg [.sc (.int .i64 x),.sc (.int .i64 y)])]= .new (.row 0 2 [.sc (.int .i64 x),.sc (.int .i64 y)]) fun n=>.ret (.sl n 0 0 1):=by
 have hz:aZeros (.agg #[.int .i64 0,.int .i64 0]) 2=[.sc (.int .i64 0),.sc (.int .i64 0)]:=by
  simp[aZeros,Value.cells,List.range_succ]
 simp[aBuildSlice,Try.underlying41,sz43,ze43,hz,aFill,aCells,AV.one,Value.oneCell',putCells]
theorem bs40 (x y:Int):aBuildSlice Try.prog 40 1 [(0,.agg [.sc (.int .i64 x),.sc (.int .i64 y)])]= .new (.row 0 2 [.sc (.int .i64 x),.sc (.int .i64 y)]) fun n=>.ret (.sl n 0 0 1):=by
 have hz:aZeros (.agg #[.int .i64 0,.int .i64 0]) 2=[.sc (.int .i64 0),.sc (.int .i64 0)]:=by
  simp[aZeros,Value.cells,List.range_succ]
 simp[aBuildSlice,Try.underlying40,sz43,ze43,hz,aFill,aCells,AV.one,Value.oneCell',putCells]
theorem put1 (cs:List AV) (off:Nat) (y:AV):putCells cs off [y]=cs.set off y:=rfl
theorem put2 (a b c d:AV):putCells [a,b] 0 [c,d]=[c,d]:=rfl
theorem bin_remT {P:Program} {t:TypeId} {xo yo:Operand} {x y:Int} (h:y≠0):aBin P .rem t xo yo (.sc (.int .i64 x)) (.sc (.int .i64 y))= .ret (.sc (.int .i64 (x.tmod y))):=by
 simp[aBin,isEqOp,aG2,AV.val?,eqGuard,binOp,Op.intDiv,h,AP.ofOption,pureRun_pure]
end Go.Proofs.Ytdcomhdadnhpnaa
end
section
namespace Go.Proofs.Ytdcomhdadnhpnaa
open Go Go.Am
def WkO (o o':AO):Prop:=o=o'∨∃ver esz cs cs',o= .row ver esz cs∧o'= .row ver esz cs'∧cs'.length=cs.length∧∀(i:Nat) (a b:AV),cs[i]? =some a→cs'[i]? =some b→Wk a b
def WkH (H H':AHp):Prop:=∀n,(H n=none∧H' n=none)∨∃o o',H n=some o∧H' n=some o'∧WkO o o'
theorem WkO.ver {o o':AO} (h:WkO o o'):o'.ver=o.ver∧o'.live=o.live:=by
 rcases h with rfl |⟨ver,esz,cs,cs',rfl,rfl,_⟩<;>exact⟨rfl,rfl⟩
theorem WkH.refl (H:AHp):WkH H H:=fun n=>by
 cases h:H n with
 |none=>exact .inl ⟨rfl,rfl⟩
 |some o=>exact .inr ⟨o,o,rfl,rfl,.inl rfl⟩
theorem WkH.own {ρ:Inj} {H H':AHp} (h:WkH H H'):Go.Am.own ρ H'=Go.Am.own ρ H:=by
 funext b
 refine propext ⟨?_,?_⟩
 ·rintro⟨n,o',L,h1,h2,h3,h4⟩
  rcases h n with⟨_,k⟩ |⟨o,o2,k1,k2,k3⟩
  ·rw[k]at h1;cases h1
  ·rw[k2]at h1;cases h1
   obtain⟨e1,e2⟩:=k3.ver
   exact⟨n,o,L,k1,by rw[←e2];exact h2,by rw[←e1];exact h3,h4⟩
 ·rintro⟨n,o,L,h1,h2,h3,h4⟩
  rcases h n with⟨k,_⟩ |⟨o1,o',k1,k2,k3⟩
  ·rw[k]at h1;cases h1
  ·rw[k1]at h1;cases h1
   obtain⟨e1,e2⟩:=k3.ver
   exact⟨n,o',L,k2,by rw[e2];exact h2,by rw[e1];exact h3,h4⟩
theorem WkH.rel {ρ:Inj} {H H':AHp} {w:World} (h:WkH H H') (hR:Rel ρ H w):Rel ρ H' w:=by
 have ho:=h.own (ρ:=ρ)
 refine⟨fun n o' h1 h2=>?_,fun n v L h1=>?_,fun n m o o' L L' h1 h2 l1 l2 r1 r2 e=>?_,?_⟩
 ·rcases h n with⟨_,k⟩ |⟨o,o2,k1,k2,k3⟩
  ·rw[k]at h1;cases h1
  ·rw[k2]at h1;cases h1
   obtain⟨e1,e2⟩:=k3.ver
   obtain⟨L,a1,a2⟩:=hR.live n o k1 (by rw[←e2];exact h2)
   refine⟨L,by rw[e1];exact a1,?_⟩
   rw[ho]
   rcases k3 with rfl |⟨ver,esz,cs,cs',rfl,rfl,hl,hw⟩
   ·exact a2
   ·obtain⟨b0,c,t,b1,b2,b3,b4⟩:=a2
    refine⟨b0,c,t,b1,b2,by omega,⟨by rw[hl];exact b4.len,fun i a x ha hx=>?_⟩⟩
    rw[hl]at hx
    have hi:i<cs.length:=by rw[←hl];exact(List.getElem?_eq_some_iff.1 ha).1
    exact hw i _ a (List.getElem?_eq_getElem hi) ha _ _ _ _ (b4.at_ i _ x (List.getElem?_eq_getElem hi) hx)
 ·obtain⟨o,a1,a2⟩:=hR.dom n v L h1
  rcases h n with⟨k,_⟩ |⟨o1,o2,k1,k2,k3⟩
  ·rw[k]at a1;cases a1
  ·rw[k1]at a1;cases a1
   exact⟨o2,k2,by rw[k3.ver.1];exact a2⟩
 ·rcases h n with⟨_,k⟩ |⟨o1,o2,k1,k2,k3⟩
  ·rw[k]at h1;cases h1
  ·rcases h m with⟨_,q⟩ |⟨p1,p2,q1,q2,q3⟩
   ·rw[q]at h2;cases h2
   ·rw[k2]at h1;cases h1
    rw[q2]at h2;cases h2
    exact hR.inj n m o1 p1 L L' k1 q1 (by rw[←k3.ver.2];exact l1) (by rw[←q3.ver.2];exact l2) (by rw[←k3.ver.1];exact r1) (by rw[←q3.ver.1];exact r2) e
 ·obtain⟨N,hN⟩:=hR.fin
  refine⟨N,fun n hn=>?_⟩
  rcases h n with⟨_,k⟩ |⟨o1,o2,k1,_⟩
  ·exact k
  ·rw[hN n hn]at k1;cases k1
theorem WkH.step {ρ ρ1:Inj} {H H1 H1':AHp} {w w1:World} (h:WkH H1 H1') (hs:Step ρ H w ρ1 H1 w1):Step ρ H w ρ1 H1' w1:=
 ⟨hs.mono,hs.size,fun b hb=>hs.own' b (by rw[←h.own (ρ:=ρ1)];exact hb),hs.frame,hs.os,hs.tape,hs.output,h.rel hs.rel⟩
theorem acall_genW {P:Program} {f:FuncId} {fn:Func} {c:Code} {args:List AV} {m:AP AV} (hf:P.funcs[f]? =some fn) (hb:fn.body=some c)
  (h:∀(E:Ent) (s0 s:Nat) (r:AV) (H':AHp) (s':Nat),m.run E.H s0=some (r,H',s')→(∀n,s≤n→E.H n=none∧H' n=none)→
   AWp P E c (begA fn args) E.H s (EndA P fn fun r1 H1=>∃(H2:AHp) (r2:AV) (N:Nat→Option (Nat×Nat)),WkH H1 H2∧Wk r2 r∧Fin E.H H2 N H'∧Pub H2 (fun n=>H' n≠none∧N n=none) N r1 r2)):ACall P f args m:=by
 intro ρ H w vs hrel hr s0 r H' s' hmm
 obtain⟨M,hM⟩:=hrel.fin
 obtain⟨M',hM'⟩:=AP.run_fin m hmm ⟨M,hM⟩
 refine(calls_of_awp (E:=⟨ρ,H,w⟩) hf hb hrel hr (h ⟨ρ,H,w⟩ s0 (max M M') r H' s' hmm (fun n hn=>⟨hM n (by omega),hM' n (by omega)⟩))).mono ?_
 rintro e w' ⟨v,r1,H1,ρ1,rfl,⟨H2,r2,N,hwk,hw,hF,hp⟩,hs,hrep⟩
 obtain⟨ρ',h1,h2⟩:=exit_gen hrel (hwk.step hs) N H' hF
 exact⟨v,ρ',rfl,h1,hw _ _ _ _ (h2 _ _ _ hp (by rw[hwk.own];exact hrep))⟩
end Go.Proofs.Ytdcomhdadnhpnaa
end
section
namespace Go.Proofs.Ytdcomhdadnhpnaa
open Go Go.Am
theorem findNow_ints (x:Int):∀(ks:List Int) (i:Nat),Instr.findNow (.int .i64) (.int .i64 x) (bare (ks.map (Value.int .i64))) i=some (if x∈ks then some (i+ks.idxOf x,undef)else none)
 | [],i=>by simp[bare,Instr.findNow]
 |k::ks,i=>by
  have ih:=findNow_ints x ks (i+1)
  simp only[bare,List.map_cons,Instr.findNow,Instr.sameNow,if_true]at ih ⊢
  by_cases e:x=k
  ·subst e
   simp[List.idxOf_cons_self]
  ·have e1:(x==k)=false:=by simpa using e
   have e2:(k==x)=false:=by simpa using Ne.symm e
   rw[e1]
   simp only
   rw[ih,List.idxOf_cons,e2]
   by_cases hm:x∈ks
   ·rw[if_pos hm,if_pos (by simp[hm])];simp;omega
   ·rw[if_neg hm,if_neg (by simp[hm,e])]
theorem keyAt_ints (x:Int) (ks:List Int):keyAt Try.prog 3 (.int .i64 x) (ks.map (Value.int .i64))=some (if x∈ks then some (ks.idxOf x)else none):=by
 unfold keyAt
 simp only[Instr.findKey,pureRun_bind,pureRun_underlying Try.underlying3,Option.bind_some,findNow_ints,pureRun_pure,Option.map_some]
 split<;>simp
theorem checkKey3 (b:Bool) (x:Int):pureRun Try.prog (Instr.checkKey b 10000 3 (.int .i64 x))=some ():=by
 have key:∀d:Nat,pureRun Try.prog (Instr.checkKey b (d+1) 3 (.int .i64 x))=some ():=fun d=>by
  rw[Instr.checkKey]
  simp[pureRun_bind,pureRun_underlying Try.underlying3,pureRun_pure]
 exact key 9999
attribute [local irreducible] Instr.checkKey Instr.sameBits keyAt
def entM (kv:List (Int×Int)):List (Value×AV×Nat):=kv.zipIdx.map fun p=>(.int .i64 p.1.1,.sc (.int .i64 p.1.2),p.2)
theorem entM_nil:entM []=[]:=rfl
theorem entM_keys (kv:List (Int×Int)):(entM kv).map (·.1)=(kv.map (·.1)).map (Value.int .i64):=by
 unfold entM
 rw[List.map_map,List.map_map]
 conv=>rhs;rw[←List.zipIdx_map_fst 0 kv,List.map_map]
 rfl
theorem entM_append (kv:List (Int×Int)) (k v:Int):entM (kv++[(k,v)])=entM kv++[(.int .i64 k,.sc (.int .i64 v),kv.length)]:=by simp[entM,List.zipIdx_append]
theorem entM_get {kv:List (Int×Int)} {i:Nat} (h:i<kv.length):(entM kv)[i]? =some (.int .i64 kv[i].1,.sc (.int .i64 kv[i].2),i):=by simp[entM,h]
def mget (kv:List (Int×Int)) (x:Int):Option Int:=if x∈kv.map (·.1)then(kv[(kv.map (·.1)).idxOf x]?).map (·.2)else none
noncomputable def lkK (x:Int) (ok:Bool) (o:AO):AP AV:=match o with
 | .mapo 0 es _=>match keyAt Try.prog 3 (.int .i64 x) (es.map (·.1))with
   |some (some i)=>match es[i]? with
    |some e=>.ret (if ok then .tup [e.2.1,.sc (.bool true)]else e.2.1)
    |none=>.fail
   |some none=>.ret (if ok then .tup [.sc (.int .i64 0),.sc (.bool false)]else .sc (.int .i64 0))
   |none=>.fail
 |_=>.fail
noncomputable def upK (n:Nat) (x:Int) (y:AV) (o:AO):AP AV:=match o with
 | .mapo 0 es clock=>match keyAt Try.prog 3 (.int .i64 x) (es.map (·.1))with
   |some (some i)=>match es[i]? with
    |some e=>if Instr.sameBits 10000 e.1 (.int .i64 x)=true then .set n (.mapo 0 (es.set i (.int .i64 x,y,e.2.2)) clock) (.ret (.sc undef))else .fail
    |none=>.fail
   |some none=>.set n (.mapo 0 (es++[(.int .i64 x,y,clock)]) (clock+1)) (.ret (.sc undef))
   |_=>.fail
 |_=>.fail
set_option maxRecDepth 100000 in
theorem lk120 (n:Nat) (x:Int) (ok:Bool):aLookup Try.prog 120 (.mp n 0) (.sc (.int .i64 x)) ok= .get n (lkK x ok):=by
 have hz:zeroOf Try.prog 3=some (.int .i64 0):=ze3
 simp only[aLookup,Try.underlying120,AV.val?]
 congr 1
 funext o
 cases o with
 |mapo v es c=>
  cases v with
  |zero=>
   simp only[checkKey3,and_self,if_true,lkK,hz]
   generalize keyAt Try.prog 3 (.int .i64 x) (es.map (·.1))=K
   cases K with
   |none=>rfl
   |some q=>cases q with
    |none=>rfl
    |some i=>dsimp only;cases es[i]? <;>rfl
  |succ v=>simp[lkK]
 |_=>rfl
set_option maxRecDepth 100000 in
theorem up120 (n:Nat) (x:Int) (y:AV):aMapUpdate Try.prog 120 (.mp n 0) (.sc (.int .i64 x)) y= .get n (upK n x y):=by
 simp only[aMapUpdate,Try.underlying120,AV.val?]
 congr 1
 funext o
 cases o with
 |mapo v es c=>
  cases v with
  |zero=>
   simp only[checkKey3,and_self,if_true,upK]
   generalize keyAt Try.prog 3 (.int .i64 x) (es.map (·.1))=K
   cases K with
   |none=>rfl
   |some q=>cases q with
    |none=>rfl
    |some i=>dsimp only;cases es[i]? <;>rfl
  |succ v=>simp[upK]
 |_=>rfl
set_option maxRecDepth 100000 in
theorem lkK_ent (x:Int) (ok:Bool) (kv:List (Int×Int)) (c:Nat):lkK x ok (.mapo 0 (entM kv) c)= .ret (if ok then .tup [.sc (.int .i64 ((mget kv x).getD 0)),.sc (.bool (mget kv x).isSome)]else .sc (.int .i64 ((mget kv x).getD 0))):=by
 simp only[lkK,entM_keys,keyAt_ints,mget]
 by_cases hm:x∈kv.map (·.1)
 ·have hlt:(kv.map (·.1)).idxOf x<kv.length:=by have:=List.idxOf_lt_length_iff.2 hm;rwa[List.length_map]at this
  simp only[if_pos hm,entM_get hlt,List.getElem?_eq_getElem hlt,Option.map_some,Option.getD_some,Option.isSome_some]
 ·simp only[if_neg hm,Option.getD_none,Option.isSome_none]
set_option maxRecDepth 100000 in
theorem upK_new {n:Nat} {x y:Int} {kv:List (Int×Int)} (h:x∉kv.map (·.1)):upK n x (.sc (.int .i64 y)) (.mapo 0 (entM kv) kv.length)= .set n (.mapo 0 (entM (kv++[(x,y)])) (kv++[(x,y)]).length) (.ret (.sc undef)):=by
 simp only[upK,entM_keys,keyAt_ints,if_neg h,entM_append,List.length_append,List.length_cons,List.length_nil]
theorem mget_ones (seen:List Int) (x:Int):(mget (seen.map fun w=>(w,(1:Int))) x).getD 0=if x∈seen then 1 else 0:=by
 unfold mget
 have e:(seen.map fun w=>(w,(1:Int))).map (·.1)=seen:=by rw[List.map_map];exact List.map_id' _
 rw[e]
 by_cases h:x∈seen
 ·have hlt:=List.idxOf_lt_length_iff.2 h
  rw[if_pos h,if_pos h]
  simp[hlt]
 ·rw[if_neg h,if_neg h];rfl
end Go.Proofs.Ytdcomhdadnhpnaa
end
