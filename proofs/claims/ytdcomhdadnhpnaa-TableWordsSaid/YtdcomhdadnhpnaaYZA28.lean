import Derived.Test.YtdcomhdadnhpnaaYZK
set_option linter.all false
namespace Go.Proofs.Ytdcomhdadnhpnaa
open Go Go.Am
theorem sz117:szOf Try.prog 117=some 1:=by kernel_rfl
theorem ze117:zeroOf Try.prog 117=some (.map none):=by kernel_rfl
theorem by117:byOf Try.prog 117=some 8:=by kernel_rfl
theorem ag117:aggB Try.prog 117=some false:=by kernel_rfl
def encV (x:Int×Int):Value:=.agg #[.int .i64 x.1,.int .i64 x.2]
theorem eq43V (x y:Int×Int):pureRun Try.prog (Op.equal 43 (encV x) (encV y))=some (decide (x=y)):=by
 have h:=pr_eq43' x.1 x.2 y.1 y.2
 have e:decide (x.1=y.1∧x.2=y.2)=decide (x=y):=by
  rw[Bool.eq_iff_iff];simp[Prod.ext_iff]
 rw[e]at h
 exact h
theorem findAsk43 (x:Int×Int):∀(ks:List (Int×Int)) (i:Nat),pureRun Try.prog (Instr.findAsking 43 (encV x) (bare (ks.map encV)) i)=some (if x∈ks then some (i+ks.idxOf x,undef)else none)
 | [],i=>by simp[bare,Instr.findAsking,pureRun_pure]
 |k::ks,i=>by
  have ih:=findAsk43 x ks (i+1)
  simp only[bare,List.map_cons,Instr.findAsking,pureRun_bind,eq43V,Option.bind_some]at ih ⊢
  by_cases e:x=k
  ·subst e
   simp[List.idxOf_cons_self,pureRun_pure]
  ·have e2:(k==x)=false:=by simpa using Ne.symm e
   rw[decide_eq_false e]
   simp only[Bool.false_eq_true,if_false]
   rw[ih,List.idxOf_cons,e2]
   by_cases hm:x∈ks
   ·rw[if_pos hm,if_pos (by simp[hm])];simp;omega
   ·rw[if_neg hm,if_neg (by simp[hm,e])]
theorem keyAt_els (x:Int×Int) (ks:List (Int×Int)):keyAt Try.prog 43 (encV x) (ks.map encV)=some (if x∈ks then some (ks.idxOf x)else none):=by
 unfold keyAt
 cases ks with
 |nil=>simp only[Instr.findKey,pureRun_bind,pureRun_underlying Try.underlying43,Option.bind_some,bare,List.map_nil,Instr.findNow,pureRun_pure,Option.map_some,Option.map_none,List.not_mem_nil,if_false]
 |cons k ks=>
  have h:=findAsk43 x (k::ks) 0
  simp only[bare,List.map_cons,Nat.zero_add]at h
  simp only[Instr.findKey,pureRun_bind,pureRun_underlying Try.underlying43,Option.bind_some,bare,List.map_cons,Instr.findNow,Instr.sameNow,h]
  split<;>simp
theorem checkKey43 (b:Bool) (x:Int×Int):pureRun Try.prog (Instr.checkKey b 10000 43 (encV x))=some ():=by unfold encV;kernel_rfl
attribute [local irreducible] Instr.checkKey Instr.sameBits keyAt
/-- the entries of a set of elements -/
def entE (es:List (Int×Int)):List (Value×AV×Nat):=es.zipIdx.map fun p=>(encV p.1,.sc (.bool true),p.2)
theorem entE_nil:entE []=[]:=rfl
theorem entE_keys (es:List (Int×Int)):(entE es).map (·.1)=es.map encV:=by
 unfold entE
 rw[List.map_map]
 conv=>rhs;rw[←List.zipIdx_map_fst 0 es,List.map_map]
 rfl
theorem entE_append (es:List (Int×Int)) (x:Int×Int):entE (es++[x])=entE es++[(encV x,.sc (.bool true),es.length)]:=by simp[entE,List.zipIdx_append]
theorem entE_get {es:List (Int×Int)} {i:Nat} (h:i<es.length):(entE es)[i]? =some (encV es[i],.sc (.bool true),i):=by simp[entE,h]
noncomputable def lkE (x:Int×Int) (o:AO):AP AV:=match o with
 | .mapo 0 es _=>match keyAt Try.prog 43 (encV x) (es.map (·.1))with
   |some (some i)=>match es[i]? with
    |some e=>.ret e.2.1
    |none=>.fail
   |some none=>.ret (.sc (.bool false))
   |none=>.fail
 |_=>.fail
noncomputable def upE (n:Nat) (x:Int×Int) (y:AV) (o:AO):AP AV:=match o with
 | .mapo 0 es clock=>match keyAt Try.prog 43 (encV x) (es.map (·.1))with
   |some (some i)=>match es[i]? with
    |some e=>if Instr.sameBits 10000 e.1 (encV x)=true then .set n (.mapo 0 (es.set i (encV x,y,e.2.2)) clock) (.ret (.sc undef))else .fail
    |none=>.fail
   |some none=>.set n (.mapo 0 (es++[(encV x,y,clock)]) (clock+1)) (.ret (.sc undef))
   |_=>.fail
 |_=>.fail
set_option maxRecDepth 100000 in
theorem lk117 (n:Nat) (a b:Int):aLookup Try.prog 117 (.mp n 0) (.agg [.sc (.int .i64 a),.sc (.int .i64 b)]) false= .get n (lkE (a,b)):=by
 have hz:zeroOf Try.prog 4=some (.bool false):=ze4
 have hk:∀em,pureRun Try.prog (Instr.checkKey em 10000 43 (.agg [Value.int .i64 a,.int .i64 b].toArray))=some ():=fun em=>checkKey43 em (a,b)
 simp only[aLookup,Try.underlying117,AV.val?,valL?]
 congr 1
 funext o
 cases o with
 |mapo v es c=>
  cases v with
  |zero=>
   simp only[hk,and_self,if_true,lkE,hz]
   show(match keyAt Try.prog 43 (encV (a,b)) (es.map (·.1)),some (Value.bool false)with |some (some i),_=>_ |some none,some z=>_ |_,_=>_)=_
   generalize keyAt Try.prog 43 (encV (a,b)) (es.map (·.1))=K
   cases K with
   |none=>rfl
   |some q=>cases q with
    |none=>rfl
    |some i=>dsimp only;cases es[i]? <;>rfl
  |succ v=>simp[lkE]
 |_=>rfl
set_option maxRecDepth 100000 in
theorem up117 (n:Nat) (a b:Int) (y:AV):aMapUpdate Try.prog 117 (.mp n 0) (.agg [.sc (.int .i64 a),.sc (.int .i64 b)]) y= .get n (upE n (a,b) y):=by
 have hk:∀em,pureRun Try.prog (Instr.checkKey em 10000 43 (.agg [Value.int .i64 a,.int .i64 b].toArray))=some ():=fun em=>checkKey43 em (a,b)
 simp only[aMapUpdate,Try.underlying117,AV.val?,valL?]
 congr 1
 funext o
 cases o with
 |mapo v es c=>
  cases v with
  |zero=>
   simp only[hk,and_self,if_true,upE]
   show(match keyAt Try.prog 43 (encV (a,b)) (es.map (·.1))with |some (some i)=>_ |some none=>_ |_=>_)=_
   generalize keyAt Try.prog 43 (encV (a,b)) (es.map (·.1))=K
   cases K with
   |none=>rfl
   |some q=>cases q with
    |none=>rfl
    |some i=>dsimp only;cases es[i]? <;>rfl
  |succ v=>simp[upE]
 |_=>rfl
set_option maxRecDepth 100000 in
theorem lkE_ent (x:Int×Int) (es:List (Int×Int)) (c:Nat):lkE x (.mapo 0 (entE es) c)= .ret (.sc (.bool (decide (x∈es)))):=by
 simp only[lkE,entE_keys,keyAt_els]
 by_cases hm:x∈es
 ·simp only[if_pos hm,entE_get (List.idxOf_lt_length_iff.2 hm),decide_eq_true hm]
 ·simp only[if_neg hm,decide_eq_false hm]
set_option maxRecDepth 100000 in
theorem upE_new {n:Nat} {x:Int×Int} {es:List (Int×Int)} (h:x∉es):upE n x (.sc (.bool true)) (.mapo 0 (entE es) es.length)= .set n (.mapo 0 (entE (es++[x])) (es++[x]).length) (.ret (.sc undef)):=by
 simp only[upE,entE_keys,keyAt_els,if_neg h,entE_append,List.length_append,List.length_cons,List.length_nil]
end Go.Proofs.Ytdcomhdadnhpnaa
