import Derived.Test.YtdcomhdadnhpnaaYZB50
import Derived.Test.YtdcomhdadnhpnaaYZB54
import Derived.Test.YtdcomhdadnhpnaaYZC4
import Derived.Test.YtdcomhdadnhpnaaYZP5
set_option linter.all false
namespace Go.Proofs.Ytdcomhdadnhpnaa
open Go Go.Am Go.RowKit
attribute [local irreducible] wA opsQ opsLQ thenA blockA EndA
attribute [local go_sem] Try.underlying24
attribute [local go_sem] put5
noncomputable def ctSh:CT:=fun f args=>if f=45 then c45 args else ctT f args
theorem ctSh_ok:CTok Try.prog ctSh:=fun f args=>by
 unfold ctSh
 split
 ·rename_i e;subst e;exact a45 args
 ·exact ctT_ok f args
theorem ctSh_16 (a:List AV):ctSh 16 a=c16 a:=rfl
theorem ctSh_17 (a:List AV):ctSh 17 a=c17 a:=rfl
theorem ctSh_45 (a:List AV):ctSh 45 a=c45 a:=rfl
theorem ctSh_62 (a:List AV):ctSh 62 a=c62 a:=rfl
theorem scal16:callable Try.prog 16=true:=by kernel_rfl
theorem scal17:callable Try.prog 17=true:=by kernel_rfl
set_option maxRecDepth 100000 in
set_option maxHeartbeats 4000000 in
theorem shaped_rc (l:List Int) (hV:ValidL l):RC Try.prog 48 [.dsl l.length (ints l)] (.sc (.bool true)):=by
 refine rc_of hmix ctSh_ok Try.func48 rfl (by kernel_rfl) (fun E s hs=>?_)
 simp(maxSteps:=300000)only[begA,Try.ntmps48,List.replicate_succ,List.replicate_zero,List.length_cons,List.length_nil,List.cons_append,List.nil_append]
 have hn1:=(tab_g hV).n1
 have hw:=hV.wlen
 have hH:=tab_h hV
 have hn0:ati l 0=((tabN l:Nat):Int):=hH.n0
 have hb1:ati l 1=((bkts (tabN l):Nat):Int):=hH.b1
 have h60:=hV.len60
 have hil:=ints_len l
 have h16:c16 [.sc (.int .i64 ((tabN l:Nat):Int))]= .ret (.tup [.sc (.int .i64 ((bkts (tabN l):Nat):Int)),.sc (.int .i64 0)]):=by
  unfold c16;simp only;rw[if_neg (by omega),if_neg (by omega),Int.toNat_natCast]
 have h17:c17 [.sc (.int .i64 ((tabN l:Nat):Int))]= .ret (.tup [.sc (.int .i64 ((l.length:Nat):Int)),.sc (.int .i64 0)]):=by
  unfold c17;simp only;rw[if_neg (by omega),if_neg (by omega),Int.toNat_natCast,hw]
 have hle:((l.length:Nat):Int)≤60+4*((tabN l:Nat):Int):=by rw[hw];unfold wlen;omega
 have hbb:=bkts_le (tabN l) (by omega)
 obtain⟨n,hn⟩:∃n,tabN l=n:=⟨_,rfl⟩
 obtain⟨b,hb⟩:∃b,bkts n=b:=⟨_,rfl⟩
 rw[hn]at hn0 hb1 h16 h17 hle hbb
 rw[hb]at hb1 h16 hbb
 have hat00:(ints l).head? =some (.sc (.int .i64 ((n:Nat):Int))):=by rw[List.head?_eq_getElem?,ints_at_ (by omega),hn0]
 have hat01:(ints l)[0]? =some (.sc (.int .i64 ((n:Nat):Int))):=by rw[ints_at_ (by omega),hn0]
 have hat1:(ints l)[1]? =some (.sc (.int .i64 ((b:Nat):Int))):=by rw[ints_at_ (by omega),hb1]
 have hl3:=hV.le
 repeat(first |(with_reducible first |apply Q0 |apply Q1 |apply Q2 |apply Q3 |apply Q4 |apply Q5 |apply Q6 |apply Q7 |apply Q8 |apply Q9 |apply QA |apply QB |apply QC |apply QD |apply QE |apply QF) |((first |(with_reducible apply QK rfl) |(apply QT;simp only[go_sem]<;>exact rfl));simp(disch:=omega)only[go_sem,hs,upd_ne,rdK_dsl,hcal45,ctSh_45,c45,hV,hn,scal17,ctSh_17,h17,scal16,ctSh_16,h16,hcal62,ctSh_62,c62,hle,hil,hat00,hat01,hat1,tn1];exact rfl;simp only[sB,sA,putA];exact rfl) |(apply QI;simp only[go_sem]<;>exact rfl;simp only[sB,sA,putA];exact rfl) |(apply QQ;simp only[evA,gB,gA];exact rfl) |((first |apply QX |apply QY);(first |rfl |decide |assumption)))
 (apply QZ;simp(disch:=omega)only[go_sem,Try.results48];exact rfl;simp only[packA];exact rfl)
 exact .sc _
open Classical in
noncomputable def c48:List AV→AP AV
 | [x]=>rdK x fun l=>if ValidL l then .ret (.sc (.bool true))else .fail
 |_=>.fail
theorem a48 (args:List AV):ACall Try.prog 48 args (c48 args):=by
 intro ρ H w vs hR hA s r H' s' hm
 unfold c48 at hm
 split at hm
 ·obtain⟨v0,rfl,hv0⟩:=reps1 hA
  obtain⟨l,hr,hm⟩:=rdK_data hR hv0 hm
  split at hm
  ·rename_i hc
   simp only[AP.run,Option.some.injEq,Prod.mk.injEq]at hm
   obtain⟨rfl,rfl,rfl⟩:=hm
   exact(shaped_rc l hc).acall hR (.cons hr .nil)
  ·simp[AP.run]at hm
 ·simp[AP.run]at hm
section
variable (L:List (Int×Int)) (ops:List OpT) (b:Bool) (x y:Int)
noncomputable def ctSt:CT:=fun f args=>if f=47 then c47p L ops b x y args else if f=32 then c32p L ops b x y args else if f=34 then c34 args else if f=38 then c38 args else if f=48 then c48 args else if f=49 then c49 args else ctT f args
theorem ctSt_ok:CTok Try.prog (ctSt L ops b x y):=fun f args=>by
 unfold ctSt
 split
 ·rename_i e;subst e;exact a47p L ops b x y args
 split
 ·rename_i e;subst e;exact a32p L ops b x y args
 split
 ·rename_i e;subst e;exact a34 args
 split
 ·rename_i e;subst e;exact a38 args
 split
 ·rename_i e;subst e;exact a48 args
 split
 ·rename_i e;subst e;exact a49 args
 ·exact ctT_ok f args
variable (a:List AV)
theorem ctSt_15:ctSt L ops b x y 15 a=c15 a:=rfl
theorem ctSt_24:ctSt L ops b x y 24 a=c24 a:=rfl
theorem ctSt_27:ctSt L ops b x y 27 a=c27 a:=rfl
theorem ctSt_32:ctSt L ops b x y 32 a=c32p L ops b x y a:=rfl
theorem ctSt_34:ctSt L ops b x y 34 a=c34 a:=rfl
theorem ctSt_38:ctSt L ops b x y 38 a=c38 a:=rfl
theorem ctSt_47:ctSt L ops b x y 47 a=c47p L ops b x y a:=rfl
theorem ctSt_48:ctSt L ops b x y 48 a=c48 a:=rfl
theorem ctSt_49:ctSt L ops b x y 49 a=c49 a:=rfl
end
theorem tcal15:callable Try.prog 15=true:=by kernel_rfl
theorem tcal24:callable Try.prog 24=true:=by kernel_rfl
theorem tcal27:callable Try.prog 27=true:=by kernel_rfl
theorem tcal32:callable Try.prog 32=true:=by kernel_rfl
theorem tcal34:callable Try.prog 34=true:=by kernel_rfl
theorem tcal38:callable Try.prog 38=true:=by kernel_rfl
theorem tcal47:callable Try.prog 47=true:=by kernel_rfl
theorem tcal48:callable Try.prog 48=true:=by kernel_rfl
theorem tcal49:callable Try.prog 49=true:=by kernel_rfl
/-- what the law asks of Add's answer -/
theorem add_case {t:List Int} (hV:ValidL t) (h w:Int):∃k a f,addF t h w=(k,a,f)∧
  ((f=0∧((a.length:Nat):Int)-((t.length:Nat):Int)=0∧ValidL a∧a.length≤1000000000∧¬10+k<((dif t a (min t.length a.length):Nat):Int)∧(0≤k∧k≤1000000000))∨
   (f=0∧((a.length:Nat):Int)-((t.length:Nat):Int)=56∧ValidL a∧a.length≤1000000000∧¬10+k<((dif t a (min t.length a.length):Nat):Int)∧(0≤k∧k≤1000000000))∨
   (¬f=0∧¬f=0∧¬f=0∧¬f=0∧¬f=0∧¬f=0)):=by
 obtain⟨⟨k,a,f⟩,e⟩:∃r,addF t h w=r:=⟨_,rfl⟩
 refine⟨k,a,f,e,?_⟩
 by_cases hf:f=0
 ·have h0:(addF t h w).2.2=0:=by rw[e];exact hf
  obtain⟨_,_,_,hva,_⟩:=addF_made hV h0
  obtain⟨m,h1,h2,h3,h4⟩:=steps_add hV h0
  rw[e]at h1 h2 h3 hva
  dsimp only at h1 h2 h3 hva
  have hm:min t.length a.length=t.length:=by omega
  rw[hm]
  have hl:=Nat.le_trans hva.le (show 3000000≤1000000000 by decide)
  rcases h2 with h2 |h2
  ·exact .inl ⟨hf,by omega,hva,hl,by omega,by omega⟩
  ·exact .inr (.inl ⟨hf,by omega,hva,hl,by omega,by omega⟩)
 ·exact .inr (.inr ⟨hf,hf,hf,hf,hf,hf⟩)
theorem drop_case {t:List Int} (hV:ValidL t) (h w:Int):∃k a f,dropF t h w=(k,a,f)∧
  ((f=0∧((t.length:Nat):Int)-((a.length:Nat):Int)=0∧ValidL a∧a.length≤1000000000∧¬16+k<((dif t a (min t.length a.length):Nat):Int)∧(1≤k∧k≤1000000000))∨
   (f=0∧((t.length:Nat):Int)-((a.length:Nat):Int)=56∧ValidL a∧a.length≤1000000000∧¬16+k<((dif t a (min t.length a.length):Nat):Int)∧(1≤k∧k≤1000000000))∨
   (¬f=0∧¬f=0∧¬f=0∧¬f=0∧¬f=0∧¬f=0)):=by
 obtain⟨⟨k,a,f⟩,e⟩:∃r,dropF t h w=r:=⟨_,rfl⟩
 refine⟨k,a,f,e,?_⟩
 by_cases hf:f=0
 ·have h0:(dropF t h w).2.2=0:=by rw[e];exact hf
  obtain⟨m,h1,h2,hva,h3,h4,h5⟩:=steps_drop hV h0
  rw[e]at h1 h3 h4 hva
  dsimp only at h1 h3 h4 hva
  have hm:min t.length a.length=a.length:=by omega
  rw[hm]
  have hl:=Nat.le_trans hva.le (show 3000000≤1000000000 by decide)
  rcases h3 with h3 |h3
  ·exact .inl ⟨hf,by omega,hva,hl,by omega,by omega⟩
  ·exact .inr (.inl ⟨hf,by omega,hva,hl,by omega,by omega⟩)
 ·exact .inr (.inr ⟨hf,hf,hf,hf,hf,hf⟩)
theorem put_case {t:List Int} (hV:ValidL t) (h w v:Int):∃a f,putF t h w v=(a,f)∧
  ((f=0∧((a.length:Nat):Int)=((t.length:Nat):Int)∧ValidL a∧a.length≤1000000000∧((dif t a (min t.length a.length):Nat):Int)≤1)∨(¬f=0∧¬f=0∧¬f=0∧¬f=0∧¬f=0)):=by
 obtain⟨⟨a,f⟩,e⟩:∃r,putF t h w v=r:=⟨_,rfl⟩
 refine⟨a,f,e,?_⟩
 by_cases hf:f=0
 ·have h0:(putF t h w v).2=0:=by rw[e];exact hf
  obtain⟨hva,h1,h2⟩:=steps_put hV h0
  rw[e]at h1 h2 hva
  dsimp only at h1 h2 hva
  have hm:min t.length a.length=t.length:=by omega
  rw[hm]
  exact .inl ⟨hf,by omega,hva,Nat.le_trans hva.le (by decide),by omega⟩
 ·exact .inr ⟨hf,hf,hf,hf,hf⟩
theorem AWp.cut {P:Program} {E:Ent} {Γ:List AV} {H:AHp} {s:Nat} {Q:APost} {c1 c2:Code} (live:List Nat) (R:List AV→AHp→Nat→Prop) (h1:AWp P E c1 Γ H s (thenA (fun Γ' H' s'=>R (keepA live 0 Γ') H' s') Q)) (h2:∀Γ' H' s',R Γ' H' s'→AWp P E c2 Γ' H' s' Q):AWp P E (c1.seq c2) Γ H s Q:=
 AWp.seq (h1.mono (thenA_mono fun Γ' H' s' h=>fun ρ w a hs=>h2 _ _ _ h ρ w a (hs.keep live)))
set_option maxRecDepth 100000 in
set_option maxHeartbeats 16000000 in
theorem tableSteps_call (L:List (Int×Int)) (ops:List OpT) (b:Bool) (x y h w v:Int) (near:Bool):
  ACall Try.prog 9 [playG L ops b x y,.sc (.int .i64 h),.sc (.int .i64 w),.sc (.int .i64 v),.sc (.bool near)] (.ret (.sc (.bool true))):=by
 refine acall_pure Try.func9 rfl (fun E s hs=>?_)
 have h32:c32p L ops b x y [playG L ops b x y]= .ret (.sc (.bool (decide (L.length≤300∧ops.length≤300)))):=if_pos rfl
 by_cases hsm:L.length≤300∧ops.length≤300
 rotate_left
 ·rw[decide_eq_false hsm]at h32
  refine wA_ok hmix (ctSt_ok L ops b x y) _ (by kernel_rfl) ?_
  simp(maxSteps:=300000)only[begA,Try.ntmps9,List.replicate_succ,List.replicate_zero,List.length_cons,List.length_nil,List.cons_append,List.nil_append]
  repeat(first |(with_reducible first |apply Q0 |apply Q1 |apply Q2 |apply Q3 |apply Q4 |apply Q5 |apply Q6 |apply Q7 |apply Q8 |apply Q9 |apply QA |apply QB |apply QC |apply QD |apply QE |apply QF) |((first |(with_reducible apply QK rfl) |(apply QT;simp only[go_sem]<;>exact rfl));simp(disch:=omega)only[go_sem,hs,upd_ne,tcal15,ctSt_15,c15,tcal32,ctSt_32,h32];exact rfl;simp only[sB,sA,putA];exact rfl) |(apply QI;simp only[go_sem]<;>exact rfl;simp only[sB,sA,putA];exact rfl) |(apply QQ;simp only[evA,gB,gA];exact rfl) |((first |apply QX |apply QY);(first |rfl |decide |assumption)))
  (apply QZ;simp(disch:=omega)only[go_sem,Try.results9];exact rfl;simp only[packA];exact rfl)
  exact⟨fun q hq=>(by have hq2:q<s:=Nat.lt_of_not_le (fun hle=>hq (hs q hle));simp(disch:=omega)only[upd_ne]),Pub.sc _⟩
 rw[decide_eq_true hsm]at h32
 have h47:c47p L ops b x y [playG L ops b x y]= .new (.row 0 1 (ints (madeF L ops))) fun n=>.ret (.sl n 0 0 (madeF L ops).length):=if_pos ⟨rfl,by omega,by omega⟩
 have hV:=madeF_valid L ops
 generalize madeF L ops=t at*
 have hit:=ints_take t
 have hil:=ints_len t
 have htl:t.length≤1000000000:=Nat.le_trans hV.le (by decide)
 obtain⟨⟨h',w'⟩,hch⟩:∃p:Int×Int,p=if near then chosenF t w else(h,w):=⟨_,rfl⟩
 obtain⟨k1,a,f1,hA,cA⟩:=add_case hV h' w'
 obtain⟨k2,d,f2,hD,cD⟩:=drop_case hV h' w'
 obtain⟨c,f3,hP,cP⟩:=put_case hV h' w' v
 simp(maxSteps:=300000)only[begA,Try.ntmps9,List.replicate_succ,List.replicate_zero,List.length_cons,List.length_nil,List.cons_append,List.nil_append]
 let R:List AV→AHp→Nat→Prop:=fun Γ' H' s'=>Γ'=(List.replicate 1 .junk)++[.sc (.int .i64 h'),.sc (.int .i64 w'),.sc (.int .i64 v)]++(List.replicate 7 .junk)++[.sc (.bool true),.sl (s+1) 0 0 t.length]++(List.replicate 143 .junk)∧H' (s+1)=some (.row 0 1 (ints t))∧(∀q,s'≤q→H' q=none)∧(∀q,q<s→H' q=E.H q)∧s+1<s'
 refine AWp.seq (wA_ok hmix (ctSt_ok L ops b x y) _ (by kernel_rfl) ?_)
 repeat(first |(with_reducible first |apply Q0 |apply Q1 |apply Q2 |apply Q3 |apply Q4 |apply Q5 |apply Q6 |apply Q7 |apply Q8 |apply Q9 |apply QA |apply QB |apply QC |apply QD |apply QE |apply QF) |((first |(with_reducible apply QK rfl) |(apply QT;simp only[go_sem]<;>exact rfl));simp(disch:=omega)only[go_sem,hs,upd_ne];exact rfl;simp only[sB,sA,putA];exact rfl) |(apply QI;simp only[go_sem]<;>exact rfl;simp only[sB,sA,putA];exact rfl) |(apply QQ;simp only[evA,gB,gA];exact rfl) |((first |apply QX |apply QY);(first |rfl |decide |assumption)))
 refine AWp.seq (wA_ok hmix (ctSt_ok L ops b x y) _ (by kernel_rfl) ?_)
 repeat(first |(with_reducible first |apply Q0 |apply Q1 |apply Q2 |apply Q3 |apply Q4 |apply Q5 |apply Q6 |apply Q7 |apply Q8 |apply Q9 |apply QA |apply QB |apply QC |apply QD |apply QE |apply QF) |((first |(with_reducible apply QK rfl) |(apply QT;simp only[go_sem]<;>exact rfl));simp(disch:=omega)only[go_sem,hs,upd_ne,tcal15,ctSt_15,c15];exact rfl;simp only[sB,sA,putA];exact rfl) |(apply QI;simp only[go_sem]<;>exact rfl;simp only[sB,sA,putA];exact rfl) |(apply QQ;simp only[evA,gB,gA];exact rfl) |((first |apply QX |apply QY);(first |rfl |decide |assumption)))
 refine AWp.seq (wA_ok hmix (ctSt_ok L ops b x y) _ (by kernel_rfl) ?_)
 repeat(first |(with_reducible first |apply Q0 |apply Q1 |apply Q2 |apply Q3 |apply Q4 |apply Q5 |apply Q6 |apply Q7 |apply Q8 |apply Q9 |apply QA |apply QB |apply QC |apply QD |apply QE |apply QF) |((first |(with_reducible apply QK rfl) |(apply QT;simp only[go_sem]<;>exact rfl));simp(disch:=omega)only[go_sem,hs,upd_ne,tcal32,ctSt_32,h32];exact rfl;simp only[sB,sA,putA];exact rfl) |(apply QI;simp only[go_sem]<;>exact rfl;simp only[sB,sA,putA];exact rfl) |(apply QQ;simp only[evA,gB,gA];exact rfl) |((first |apply QX |apply QY);(first |rfl |decide |assumption)))
 refine AWp.seq (wA_ok hmix (ctSt_ok L ops b x y) _ (by kernel_rfl) ?_)
 repeat(first |(with_reducible first |apply Q0 |apply Q1 |apply Q2 |apply Q3 |apply Q4 |apply Q5 |apply Q6 |apply Q7 |apply Q8 |apply Q9 |apply QA |apply QB |apply QC |apply QD |apply QE |apply QF) |((first |(with_reducible apply QK rfl) |(apply QT;simp only[go_sem]<;>exact rfl));simp(disch:=omega)only[go_sem,hs,upd_ne,tcal47,ctSt_47,h47];exact rfl;simp only[sB,sA,putA];exact rfl) |(apply QI;simp only[go_sem]<;>exact rfl;simp only[sB,sA,putA];exact rfl) |(apply QQ;simp only[evA,gB,gA];exact rfl) |((first |apply QX |apply QY);(first |rfl |decide |assumption)))
 refine AWp.seq (wA_ok hmix (ctSt_ok L ops b x y) _ (by kernel_rfl) ?_)
 repeat(first |(with_reducible first |apply Q0 |apply Q1 |apply Q2 |apply Q3 |apply Q4 |apply Q5 |apply Q6 |apply Q7 |apply Q8 |apply Q9 |apply QA |apply QB |apply QC |apply QD |apply QE |apply QF) |((first |(with_reducible apply QK rfl) |(apply QT;simp only[go_sem]<;>exact rfl));simp(disch:=omega)only[go_sem,hs,upd_ne,tcal48,ctSt_48,c48,rdK,hit,hil,intsOf_ints,hV];exact rfl;simp only[sB,sA,putA];exact rfl) |(apply QI;simp only[go_sem]<;>exact rfl;simp only[sB,sA,putA];exact rfl) |(apply QQ;simp only[evA,gB,gA];exact rfl) |((first |apply QX |apply QY);(first |rfl |decide |assumption)))
 refine AWp.cut [1,2,3,11,12] R (wA_ok hmix (ctSt_ok L ops b x y) _ (by kernel_rfl) ?_) ?_
 ·cases near with
  |true=>
   have hc1:(chosenF t w).1=h':=by rw[if_pos rfl]at hch;rw[←hch]
   have hc2:(chosenF t w).2=w':=by rw[if_pos rfl]at hch;rw[←hch]
   repeat(first |(with_reducible first |apply Q0 |apply Q1 |apply Q2 |apply Q3 |apply Q4 |apply Q5 |apply Q6 |apply Q7 |apply Q8 |apply Q9 |apply QA |apply QB |apply QC |apply QD |apply QE |apply QF) |((first |(with_reducible apply QK rfl) |(apply QT;simp only[go_sem]<;>exact rfl));simp(disch:=omega)only[go_sem,hs,upd_ne,tcal34,ctSt_34,c34,rdK,hit,hil,intsOf_ints,htl,hc1,hc2];exact rfl;simp only[sB,sA,putA];exact rfl) |(apply QI;simp only[go_sem]<;>exact rfl;simp only[sB,sA,putA];exact rfl) |(apply QQ;simp only[evA,gB,gA];exact rfl) |((first |apply QX |apply QY);(first |rfl |decide |assumption)))
   exact⟨rfl,by simp(disch:=omega)only[upd_ne,upd_same],fun q hq=>by(simp(disch:=omega)only[upd_ne];exact hs q (by omega)),fun q hq=>by simp(disch:=omega)only[upd_ne],by omega⟩
  |false=>
   obtain⟨rfl,rfl⟩:h'=h∧w'=w:=by rw[if_neg (by decide)]at hch;exact⟨congrArg Prod.fst hch,congrArg Prod.snd hch⟩
   repeat(first |(with_reducible first |apply Q0 |apply Q1 |apply Q2 |apply Q3 |apply Q4 |apply Q5 |apply Q6 |apply Q7 |apply Q8 |apply Q9 |apply QA |apply QB |apply QC |apply QD |apply QE |apply QF) |((first |(with_reducible apply QK rfl) |(apply QT;simp only[go_sem]<;>exact rfl));simp(disch:=omega)only[go_sem,hs,upd_ne];exact rfl;simp only[sB,sA,putA];exact rfl) |(apply QI;simp only[go_sem]<;>exact rfl;simp only[sB,sA,putA];exact rfl) |(apply QQ;simp only[evA,gB,gA];exact rfl) |((first |apply QX |apply QY);(first |rfl |decide |assumption)))
   exact⟨rfl,by simp(disch:=omega)only[upd_ne,upd_same],fun q hq=>by(simp(disch:=omega)only[upd_ne];exact hs q (by omega)),fun q hq=>by simp(disch:=omega)only[upd_ne],by omega⟩
 rintro Γ H s1 ⟨rfl,hHt,hf,hE,hs1⟩
 refine AWp.seq (wA_ok hmix (ctSt_ok L ops b x y) _ (by kernel_rfl) ?_)
 simp(maxSteps:=1000000)only[List.replicate_succ,List.replicate_zero,List.cons_append,List.nil_append,List.append_nil]
 repeat(first |(with_reducible first |apply Q0 |apply Q1 |apply Q2 |apply Q3 |apply Q4 |apply Q5 |apply Q6 |apply Q7 |apply Q8 |apply Q9 |apply QA |apply QB |apply QC |apply QD |apply QE |apply QF) |((first |(with_reducible apply QK rfl) |(apply QT;simp only[go_sem]<;>exact rfl));simp(disch:=omega)only[go_sem,hf,upd_ne,hHt,tcal24,ctSt_24,c24,rdK,hit,hil,intsOf_ints,hA];exact rfl;simp only[sB,sA,putA];exact rfl) |(apply QI;simp only[go_sem]<;>exact rfl;simp only[sB,sA,putA];exact rfl) |(apply QQ;simp only[evA,gB,gA];exact rfl) |((first |apply QX |apply QY);(first |rfl |decide |assumption)))
 refine AWp.cut [1,2,3,11,12] R (wA_ok hmix (ctSt_ok L ops b x y) _ (by kernel_rfl) ?_) ?_
 ·rcases cA with⟨hf1,hx1,va,la,da,ka⟩ |⟨hf1,hx1,va,la,da,ka⟩ |⟨hf1,hx1,va,la,da,ka⟩
  all_goals
   repeat(first |(with_reducible first |apply Q0 |apply Q1 |apply Q2 |apply Q3 |apply Q4 |apply Q5 |apply Q6 |apply Q7 |apply Q8 |apply Q9 |apply QA |apply QB |apply QC |apply QD |apply QE |apply QF) |((first |(with_reducible apply QK rfl) |(apply QT;simp only[go_sem]<;>exact rfl));simp(disch:=omega)only[go_sem,hf,upd_ne,hHt,rdK,hit,hil,intsOf_ints,ints_len,tcal48,ctSt_48,c48,htl,hf1,hx1,va,la,da,tcal49,ctSt_49,c49];exact rfl;simp only[sB,sA,putA];exact rfl) |(apply QI;simp only[go_sem]<;>exact rfl;simp only[sB,sA,putA];exact rfl) |(apply QQ;simp only[evA,gB,gA];exact rfl) |((first |apply QX |apply QY);(first |rfl |decide |assumption)))
   exact⟨rfl,hHt,hf,hE,hs1⟩
 clear hHt hf hE hs1
 rintro Γ H s1 ⟨rfl,hHt,hf,hE,hs1⟩
 refine AWp.seq (wA_ok hmix (ctSt_ok L ops b x y) _ (by kernel_rfl) ?_)
 simp(maxSteps:=1000000)only[List.replicate_succ,List.replicate_zero,List.cons_append,List.nil_append,List.append_nil]
 repeat(first |(with_reducible first |apply Q0 |apply Q1 |apply Q2 |apply Q3 |apply Q4 |apply Q5 |apply Q6 |apply Q7 |apply Q8 |apply Q9 |apply QA |apply QB |apply QC |apply QD |apply QE |apply QF) |((first |(with_reducible apply QK rfl) |(apply QT;simp only[go_sem]<;>exact rfl));simp(disch:=omega)only[go_sem,hf,upd_ne,hHt,tcal27,ctSt_27,c27,rdK,hit,hil,intsOf_ints,hD];exact rfl;simp only[sB,sA,putA];exact rfl) |(apply QI;simp only[go_sem]<;>exact rfl;simp only[sB,sA,putA];exact rfl) |(apply QQ;simp only[evA,gB,gA];exact rfl) |((first |apply QX |apply QY);(first |rfl |decide |assumption)))
 refine AWp.cut [1,2,3,11,12] R (wA_ok hmix (ctSt_ok L ops b x y) _ (by kernel_rfl) ?_) ?_
 ·rcases cD with⟨hf2,hx2,vd,ld,dd,kd⟩ |⟨hf2,hx2,vd,ld,dd,kd⟩ |⟨hf2,hx2,vd,ld,dd,kd⟩
  all_goals
   repeat(first |(with_reducible first |apply Q0 |apply Q1 |apply Q2 |apply Q3 |apply Q4 |apply Q5 |apply Q6 |apply Q7 |apply Q8 |apply Q9 |apply QA |apply QB |apply QC |apply QD |apply QE |apply QF) |((first |(with_reducible apply QK rfl) |(apply QT;simp only[go_sem]<;>exact rfl));simp(disch:=omega)only[go_sem,hf,upd_ne,hHt,rdK,hit,hil,intsOf_ints,ints_len,tcal48,ctSt_48,c48,htl,hf2,hx2,vd,ld,dd,tcal49,ctSt_49,c49];exact rfl;simp only[sB,sA,putA];exact rfl) |(apply QI;simp only[go_sem]<;>exact rfl;simp only[sB,sA,putA];exact rfl) |(apply QQ;simp only[evA,gB,gA];exact rfl) |((first |apply QX |apply QY);(first |rfl |decide |assumption)))
   exact⟨rfl,hHt,hf,hE,hs1⟩
 clear hHt hf hE hs1
 rintro Γ H s1 ⟨rfl,hHt,hf,hE,hs1⟩
 refine wA_ok hmix (ctSt_ok L ops b x y) _ (by kernel_rfl) ?_
 simp(maxSteps:=1000000)only[List.replicate_succ,List.replicate_zero,List.cons_append,List.nil_append,List.append_nil]
 rcases cP with⟨hf3,hx3,vp,lp,dp⟩ |⟨hf3,hx3,vp,lp,dp⟩
 all_goals
  repeat(first |(with_reducible first |apply Q0 |apply Q1 |apply Q2 |apply Q3 |apply Q4 |apply Q5 |apply Q6 |apply Q7 |apply Q8 |apply Q9 |apply QA |apply QB |apply QC |apply QD |apply QE |apply QF) |((first |(with_reducible apply QK rfl) |(apply QT;simp only[go_sem]<;>exact rfl));simp(disch:=omega)only[go_sem,hf,upd_ne,hHt,rdK,hit,hil,intsOf_ints,ints_len,tcal38,ctSt_38,c38,hP,tcal48,ctSt_48,c48,htl,hf3,hx3,vp,lp,dp,tcal49,ctSt_49,c49];exact rfl;simp only[sB,sA,putA];exact rfl) |(apply QI;simp only[go_sem]<;>exact rfl;simp only[sB,sA,putA];exact rfl) |(apply QQ;simp only[evA,gB,gA];exact rfl) |((first |apply QX |apply QY);(first |rfl |decide |assumption)))
  (apply QZ;simp(disch:=omega)only[go_sem,Try.results9];exact rfl;simp only[packA];exact rfl)
  exact⟨fun q hq=>(by have hq2:q<s:=Nat.lt_of_not_le (fun hle=>hq (hs q hle));exact hE q hq2),Pub.sc _⟩
end Go.Proofs.Ytdcomhdadnhpnaa
