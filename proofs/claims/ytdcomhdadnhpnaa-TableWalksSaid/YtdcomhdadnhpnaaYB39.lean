import Derived.Test.YtdcomhdadnhpnaaYB37
import Derived.Test.YtdcomhdadnhpnaaYB38
set_option linter.all false
namespace Go.Proofs.Ytdcomhdadnhpnaa
open Go Go.Am Go.RowKit
attribute [local irreducible] wA opsQ opsLQ thenA blockA EndA
attribute [local go_sem] sz91 ze91 by91 ag91 fo91_0 bu91 Try.underlying91 sz92 ze92 by92 ag92 Try.underlying92 Try.underlying94 sz102 ze102 by102 ag102 fo102_0 fo102_1 bu102 Try.underlying102
theorem CL.first {l:List Int} {f:Nat} {c:List Nat} (h:CL l f c):(c=[]∧ati l f=0)∨∃r rest,c=r::rest∧ati l f=(r:Int)+1:=by
 cases c with
 |nil=>exact .inl ⟨rfl,h.2⟩
 |cons r rest=>exact .inr ⟨r,rest,rfl,h.2.1⟩
theorem link_word {l:List Int} (hV:ValidL l) {i r:Nat} (hi:i<bkts (tabN l)) (hr:r∈tabC l i):
  ((tabC l i)[(tabC l i).idxOf r+1]? =none∧ati l (recAt r+2)=0)∨∃s,(tabC l i)[(tabC l i).idxOf r+1]? =some s∧s<tabN l∧ati l (recAt r+2)=(s:Int)+1:=by
 have g:=tab_g hV
 have hc:=g.chn i hi
 have hnd:=g.nd i hi
 have hlt:∀s∈tabC l i,s<tabN l:=fun s hs=>g.lt hi hs
 generalize tabC l i=c at*
 obtain⟨a,b,rfl⟩:=List.append_of_mem hr
 rw[idx_mid hnd]
 have e:(a++r::b)[a.length+1]? =b[0]? :=by
  rw[List.getElem?_append_right (by omega),Nat.add_sub_cancel_left,List.getElem?_cons_succ]
 rw[e]
 rcases hc.split.2.2.2.first with⟨rfl,h⟩ |⟨s,rest,rfl,h⟩
 ·exact .inl ⟨rfl,h⟩
 ·exact .inr ⟨s,rfl,hlt s (by simp),h⟩
set_option maxRecDepth 100000 in
set_option maxHeartbeats 4000000 in
theorem next_rc (l:List Int) (x:Int):RC Try.prog 41 [.dsl l.length (ints l),.sc (.int .i64 x)] (nextG (nextF l x)):=by
 refine rc_of hmix ctY_ok Try.func41 rfl (by kernel_rfl) (fun E s hs=>?_)
 simp(maxSteps:=300000)only[begA,Try.ntmps41,List.replicate_succ,List.replicate_zero,List.length_cons,List.length_nil,List.cons_append,List.nil_append]
 have h00:(0:Int)≤0∧(0:Int)≤2147483647:=by decide
 by_cases hV:ValidL l
 rotate_left
 ·have hw:nextF l x=⟨0,0,0,0,600⟩:=by unfold nextF;rw[if_pos (by simpa using hV)]
  rw[hw]
  repeat(first |(with_reducible first |apply Q0 |apply Q1 |apply Q2 |apply Q3 |apply Q4 |apply Q5 |apply Q6 |apply Q7 |apply Q8 |apply Q9 |apply QA |apply QB |apply QC |apply QD |apply QE |apply QF) |((first |(with_reducible apply QK rfl) |(apply QT;simp only[go_sem]<;>exact rfl));simp(disch:=omega)only[go_sem,hs,upd_ne,cal69,ctY_69,c69,rdK_dsl,hV];exact rfl;simp only[sB,sA,putA];exact rfl) |(apply QI;simp only[go_sem]<;>exact rfl;simp only[sB,sA,putA];exact rfl) |(apply QQ;simp only[evA,gB,gA];exact rfl) |((first |apply QX |apply QY);(first |rfl |decide |assumption)))
  (apply QZ;simp(disch:=omega)only[go_sem,Try.results41];exact rfl;simp only[packA];exact rfl)
  exact .next
 have g:=tab_g hV
 have hH:=tab_h hV
 have hrl:(recsT l).length=tabN l:=recsF_len l _
 have hcl:=chsT_len l
 have hb8:=bkts8 (tabN l)
 have hn1:=g.n1
 have hbl:=bkts_le (tabN l) (by omega)
 have hF:nextF l x=if x<0∨((recsT l).length:Int)<x then⟨0,0,0,0,1⟩else if x=0 then goN (recsT l) (chsT l) 0 else nextN (recsT l) (chsT l) (x-1).toNat:=by
  unfold nextF;rw[if_neg (by simpa using hV)]
 have hmem:=fun r hr=>rec_mem hV (r:=r) hr
 have hrg:∀r,r<tabN l→(recsT l).getD r (0,0)=(ati l (recAt r),ati l (recAt r+1)):=fun r hr=>recsT_get hr
 have hcg:∀k,k<bkts (tabN l)→(chsT l).getD k []=tabC l k:=fun k hk=>chsT_getD hk
 have hlink:=fun i hi r hr=>link_word hV (i:=i) (r:=r) hi hr
 have hll:60≤l.length:=hV.len60
 have hl3:=hV.le
 obtain⟨n,hnT⟩:∃n,tabN l=n:=⟨_,rfl⟩
 obtain⟨b,hbT⟩:∃b,bkts n=b:=⟨_,rfl⟩
 rw[hnT]at g hH hrl hcl hb8 hn1 hbl hrg hcg hlink
 rw[hbT]at g hcl hb8 hbl hcg hlink
 have hn0:ati l 0=(n:Int):=hH.n0
 have hb1:ati l 1=(b:Int):=by rw[hH.b1,hbT]
 have hat00:(ints l).head? =some (.sc (.int .i64 (n:Nat))):=by rw[List.head?_eq_getElem?,ints_at_ (by omega),hn0]
 have hat01:(ints l)[1]? =some (.sc (.int .i64 (b:Nat))):=by rw[ints_at_ (by omega),hb1]
 have hil:=ints_len l
 have hit:=ints_take l
 have hl0:0<l.length:=by omega
 have hrecI:∀r,r<n→recAt r+2<l.length:=fun r hr=>g.rl r hr
 have hhI:∀k,k<b→headAt k<l.length:=fun k hk=>g.hl k hk
 have hfirst:∀k,k<b→((chsT l).getD k []=[]∧ati l (headAt k)=0)∨∃r rest,(chsT l).getD k []=r::rest∧r<n∧ati l (headAt k)=(r:Int)+1:=fun k hk=>by
  rw[hcg k hk]
  rcases(g.chn k hk).first with h |⟨r,rest,h1,h2⟩
  ·exact .inl h
  ·exact .inr ⟨r,rest,h1,g.lt hk (by rw[h1];simp),h2⟩
 have hlk:∀i,i<b→∀r,r∈(chsT l).getD i []→(((chsT l).getD i [])[((chsT l).getD i []).idxOf r+1]? =none∧ati l (recAt r+2)=0)∨∃s,((chsT l).getD i [])[((chsT l).getD i []).idxOf r+1]? =some s∧s<n∧ati l (recAt r+2)=(s:Int)+1:=fun i hi r hr=>by
  rw[hcg i hi]at hr ⊢
  exact hlink i hi r hr
 clear hlink hcg
 generalize recsT l=recs at*
 generalize chsT l=chs at*
 rw[hrl]at hF
 by_cases hx0:x<0
 ·rw[hF,if_pos (.inl hx0)]
  repeat(first |(with_reducible first |apply Q0 |apply Q1 |apply Q2 |apply Q3 |apply Q4 |apply Q5 |apply Q6 |apply Q7 |apply Q8 |apply Q9 |apply QA |apply QB |apply QC |apply QD |apply QE |apply QF) |((first |(with_reducible apply QK rfl) |(apply QT;simp only[go_sem]<;>exact rfl));simp(disch:=omega)only[go_sem,hs,upd_ne,cal69,ctY_69,c69,rdK_dsl,hV,h00,cal88,ctY_88,c88,rdW,wK,iK_ok,hn0,hil,hit,hl0,hx0];exact rfl;simp only[sB,sA,putA];exact rfl) |(apply QI;simp only[go_sem]<;>exact rfl;simp only[sB,sA,putA];exact rfl) |(apply QQ;simp only[evA,gB,gA];exact rfl) |((first |apply QX |apply QY);(first |rfl |decide |assumption)))
  (apply QZ;simp(disch:=omega)only[go_sem,Try.results41];exact rfl;simp only[packA];exact rfl)
  exact .next
 by_cases hx1:((n:Nat):Int)<x
 ·rw[hF,if_pos (.inr hx1)]
  repeat(first |(with_reducible first |apply Q0 |apply Q1 |apply Q2 |apply Q3 |apply Q4 |apply Q5 |apply Q6 |apply Q7 |apply Q8 |apply Q9 |apply QA |apply QB |apply QC |apply QD |apply QE |apply QF) |((first |(with_reducible apply QK rfl) |(apply QT;simp only[go_sem]<;>exact rfl));simp(disch:=omega)only[go_sem,hs,upd_ne,cal69,ctY_69,c69,rdK_dsl,hV,h00,cal88,ctY_88,c88,rdW,wK,iK_ok,hn0,hil,hit,hl0,hx0,hx1];exact rfl;simp only[sB,sA,putA];exact rfl) |(apply QI;simp only[go_sem]<;>exact rfl;simp only[sB,sA,putA];exact rfl) |(apply QQ;simp only[evA,gB,gA];exact rfl) |((first |apply QX |apply QY);(first |rfl |decide |assumption)))
  (apply QZ;simp(disch:=omega)only[go_sem,Try.results41];exact rfl;simp only[packA];exact rfl)
  exact .next
 rw[hF,if_neg (by omega)]
 obtain⟨y,rfl⟩:∃y:Nat,x=(y:Int):=⟨x.toNat,by omega⟩
 by_cases hy:y=0
 ·subst hy
  rw[if_pos (show((0:Nat):Int)=0 from rfl)]
  repeat(first |(with_reducible first |apply Q0 |apply Q1 |apply QG |apply Q2 |apply Q3 |apply Q4 |apply Q5 |apply Q6 |apply Q7 |apply Q8 |apply Q9 |apply QA |apply QB |apply QC |apply QD |apply QE |apply QF) |((first |(with_reducible apply QK rfl) |(apply QT;simp only[go_sem]<;>exact rfl));simp(disch:=omega)only[go_sem,hs,upd_ne,cal69,ctY_69,c69,rdK_dsl,hV,h00,cal88,ctY_88,c88,rdW,wK,iK_ok,hn0,hil,hit,hl0,hx0,hx1];exact rfl;simp only[sB,sA,putA];exact rfl) |((first |(with_reducible apply QL rfl) |(apply QM;simp only[go_sem]<;>exact rfl));simp(disch:=omega)only[go_sem,hs,upd_ne,cal69,ctY_69,c69,rdK_dsl,hV,h00,cal88,ctY_88,c88,rdW,wK,iK_ok,hn0,hil,hit,hl0,hx0,hx1];exact rfl;simp only[sB,sA,putA];exact rfl;simp only[logT_none,logT_rd,logT_wr,List.cons_append,List.nil_append];exact rfl) |((first |apply QI |apply QN);simp only[go_sem]<;>exact rfl;simp only[sB,sA,putA];exact rfl) |(refine QO ?_ ?_;first |focus(simp only[dyn_nil,dyn_cons,allY_nil,allY_cons,dj_rr,true_or,true_and];done) |focus(simp only[dyn_nil,dyn_cons,allY_nil,allY_cons,Dj,List.mem_cons,List.not_mem_nil,or_false,forall_eq,forall_eq_or_imp,and_true,true_and,false_imp_iff,implies_true];omega) |focus(simp only[dyn_nil,dyn_cons,allY_nil,allY_cons,and_true,true_and];(repeat' refine And.intro ?_ ?_);all_goals first |(left;simp only[Dj,List.mem_cons,List.not_mem_nil,or_false,forall_eq,forall_eq_or_imp,and_true,true_and,false_imp_iff,implies_true];first |done |omega) |(right;kernel_rfl))) |(apply QQ;simp only[evA,gB,gA];exact rfl) |((first |apply QX |apply QY);(first |rfl |decide |assumption)))
  refine AWp.loop [4,8,10,12] (fun Γ H s' m=>∃k:Nat,0≤k∧k≤b∧m=b-k∧Γ=(List.replicate 4 .junk)++[.ptr s 0 0]++(List.replicate 3 .junk)++[.ptr (s+1+1) 0 0]++(List.replicate 1 .junk)++[.sc (.int .i64 ((0:Nat):Int))]++(List.replicate 1 .junk)++[.sc (.int .i64 (k:Nat))]++(List.replicate 84 .junk)∧
  scanC (chs.drop 0) 0=scanC (chs.drop k) (k-0)∧H s=some (.row 0 1 [.sc (.int .i64 0),.sc (.int .i64 0)])∧H (s+1+1)=some (.row 0 1 [.sl (s+1) 0 0 l.length])∧H (s+1)=some (.row 0 1 (ints l))∧(∀q,s'≤q→H q=none)) b ?_ ?_
  ·refine⟨0,Nat.le_refl _,Nat.zero_le _,rfl,rfl,rfl,?_,?_,?_,fun q hq=>?_⟩
   ·simp(disch:=omega)only[upd_ne,upd_same]
   ·simp(disch:=omega)only[upd_ne,upd_same]
   ·simp(disch:=omega)only[upd_ne,upd_same]
   ·simp(disch:=omega)only[upd_ne];exact hs q
  rintro Γ H s1 m ⟨k,hk0,hk,rfl,rfl,hsc,hHs,hHp,hH1,hf⟩
  refine wA_ok hmix ctY_ok _ (by kernel_rfl) ?_
  simp(maxSteps:=1000000)only[List.replicate_succ,List.replicate_zero,List.cons_append,List.nil_append,List.append_nil]
  have hbT3:((b:Nat):Int).toNat=b:=Int.toNat_natCast _
  by_cases hlt:k<b
  ·have hkT:((k:Nat):Int).toNat=k:=Int.toNat_natCast _
   have hkh:=hhI k hlt
   have hath:=ints_at_ hkh
   have hklt:((k:Nat):Int)<((b:Nat):Int):=by omega
   have hkc:k<chs.length:=by omega
   have hdk:chs.drop k=chs.getD k []::chs.drop (k+1):=by rw[show chs.getD k []=chs[k]by simp[hkc]];exact List.drop_eq_getElem_cons hkc
   rcases hfirst k hlt with⟨q1,q2⟩ |⟨r1,rest,q1,q2,q3⟩
   ·rw[q2]at hath
    have hsc2:scanC (chs.drop 0) 0=scanC (chs.drop (k+1)) (k+1-0):=by rw[hsc,hdk,q1,scanC,show k+1-0=k-0+1 by omega]
    repeat(first |(with_reducible first |apply Q0 |apply Q1 |apply QG |apply Q2 |apply Q3 |apply Q4 |apply Q5 |apply Q6 |apply Q7 |apply Q8 |apply Q9 |apply QA |apply QB |apply QC |apply QD |apply QE |apply QF) |((first |(with_reducible apply QK rfl) |(apply QT;simp only[go_sem]<;>exact rfl));simp(disch:=omega)only[go_sem,hf,upd_ne,hHp,hH1,hil,hit,hat01,tn1,hklt,cal89,ctY_89,c89,hkT,hath];exact rfl;simp only[sB,sA,putA];exact rfl) |((first |(with_reducible apply QL rfl) |(apply QM;simp only[go_sem]<;>exact rfl));simp(disch:=omega)only[go_sem,hf,upd_ne,hHp,hH1,hil,hit,hat01,tn1,hklt,cal89,ctY_89,c89,hkT,hath];exact rfl;simp only[sB,sA,putA];exact rfl;simp only[logT_none,logT_rd,logT_wr,List.cons_append,List.nil_append];exact rfl) |((first |apply QI |apply QN);simp only[go_sem]<;>exact rfl;simp only[sB,sA,putA];exact rfl) |(refine QO ?_ ?_;first |focus(simp only[dyn_nil,dyn_cons,allY_nil,allY_cons,dj_rr,true_or,true_and];done) |focus(simp only[dyn_nil,dyn_cons,allY_nil,allY_cons,Dj,List.mem_cons,List.not_mem_nil,or_false,forall_eq,forall_eq_or_imp,and_true,true_and,false_imp_iff,implies_true];omega) |focus(simp only[dyn_nil,dyn_cons,allY_nil,allY_cons,and_true,true_and];(repeat' refine And.intro ?_ ?_);all_goals first |(left;simp only[Dj,List.mem_cons,List.not_mem_nil,or_false,forall_eq,forall_eq_or_imp,and_true,true_and,false_imp_iff,implies_true];first |done |omega) |(right;kernel_rfl))) |(apply QQ;simp only[evA,gB,gA];exact rfl) |((first |apply QX |apply QY);(first |rfl |decide |assumption)))
    exact⟨b-(k+1),by omega,k+1,by omega,by omega,rfl,rfl,hsc2,hHs,hHp,hH1,hf⟩
   ·rw[q3]at hath
    have hw:goN recs chs 0=⟨ati l (recAt r1),ati l (recAt r1+1),(r1:Int)+1,((k-0:Nat):Int)+1,0⟩:=by
     unfold goN
     rw[hsc,hdk,q1,scanC]
     simp only[hrg r1 q2]
    rw[hw]
    have hs2:=hrecI r1 q2
    have hsI:((r1:Nat):Int)+1-1=((r1:Nat):Int):=by omega
    have hsT:((r1:Nat):Int).toNat=r1:=Int.toNat_natCast _
    have hslt:((recAt r1:Nat):Int)+1<((l.length:Nat):Int):=by omega
    have hsn:¬((r1:Nat):Int)+1=0:=by omega
    have hkk:((k:Nat):Int)-((0:Nat):Int)=((k-0:Nat):Int):=by omega
    repeat(first |(with_reducible first |apply Q0 |apply Q1 |apply QG |apply Q2 |apply Q3 |apply Q4 |apply Q5 |apply Q6 |apply Q7 |apply Q8 |apply Q9 |apply QA |apply QB |apply QC |apply QD |apply QE |apply QF) |((first |(with_reducible apply QK rfl) |(apply QT;simp only[go_sem]<;>exact rfl));simp(disch:=omega)only[go_sem,hf,upd_ne,hHs,hHp,hH1,hil,hit,hat01,tn1,hklt,cal89,ctY_89,c89,hkT,hath,hsn,hsI,hsT,hkk,cal73,ctY_73,c73,cal77,ctY_77,c77,rdW,wK,iK_ok,hslt];exact rfl;simp only[sB,sA,putA];exact rfl) |((first |(with_reducible apply QL rfl) |(apply QM;simp only[go_sem]<;>exact rfl));simp(disch:=omega)only[go_sem,hf,upd_ne,hHs,hHp,hH1,hil,hit,hat01,tn1,hklt,cal89,ctY_89,c89,hkT,hath,hsn,hsI,hsT,hkk,cal73,ctY_73,c73,cal77,ctY_77,c77,rdW,wK,iK_ok,hslt];exact rfl;simp only[sB,sA,putA];exact rfl;simp only[logT_none,logT_rd,logT_wr,List.cons_append,List.nil_append];exact rfl) |((first |apply QI |apply QN);simp only[go_sem]<;>exact rfl;simp only[sB,sA,putA];exact rfl) |(refine QO ?_ ?_;first |focus(simp only[dyn_nil,dyn_cons,allY_nil,allY_cons,dj_rr,true_or,true_and];done) |focus(simp only[dyn_nil,dyn_cons,allY_nil,allY_cons,Dj,List.mem_cons,List.not_mem_nil,or_false,forall_eq,forall_eq_or_imp,and_true,true_and,false_imp_iff,implies_true];omega) |focus(simp only[dyn_nil,dyn_cons,allY_nil,allY_cons,and_true,true_and];(repeat' refine And.intro ?_ ?_);all_goals first |(left;simp only[Dj,List.mem_cons,List.not_mem_nil,or_false,forall_eq,forall_eq_or_imp,and_true,true_and,false_imp_iff,implies_true];first |done |omega) |(right;kernel_rfl))) |(apply QQ;simp only[evA,gB,gA];exact rfl) |((first |apply QX |apply QY);(first |rfl |decide |assumption)))
    (apply QZ;simp(disch:=omega)only[go_sem,Try.results41];exact rfl;simp only[packA];exact rfl)
    exact .next
  ·obtain rfl:k=b:=by omega
   have hw:goN recs chs 0=⟨0,0,0,0,5⟩:=by
    unfold goN
    rw[hsc,←hcl,List.drop_length,scanC]
   rw[hw]
   repeat(first |(with_reducible first |apply Q0 |apply Q1 |apply QG |apply Q2 |apply Q3 |apply Q4 |apply Q5 |apply Q6 |apply Q7 |apply Q8 |apply Q9 |apply QA |apply QB |apply QC |apply QD |apply QE |apply QF) |((first |(with_reducible apply QK rfl) |(apply QT;simp only[go_sem]<;>exact rfl));simp(disch:=omega)only[go_sem,hf,upd_ne,hHs,hHp,hH1,hil,hit,hat01,tn1];exact rfl;simp only[sB,sA,putA];exact rfl) |((first |(with_reducible apply QL rfl) |(apply QM;simp only[go_sem]<;>exact rfl));simp(disch:=omega)only[go_sem,hf,upd_ne,hHs,hHp,hH1,hil,hit,hat01,tn1];exact rfl;simp only[sB,sA,putA];exact rfl;simp only[logT_none,logT_rd,logT_wr,List.cons_append,List.nil_append];exact rfl) |((first |apply QI |apply QN);simp only[go_sem]<;>exact rfl;simp only[sB,sA,putA];exact rfl) |(refine QO ?_ ?_;first |focus(simp only[dyn_nil,dyn_cons,allY_nil,allY_cons,dj_rr,true_or,true_and];done) |focus(simp only[dyn_nil,dyn_cons,allY_nil,allY_cons,Dj,List.mem_cons,List.not_mem_nil,or_false,forall_eq,forall_eq_or_imp,and_true,true_and,false_imp_iff,implies_true];omega) |focus(simp only[dyn_nil,dyn_cons,allY_nil,allY_cons,and_true,true_and];(repeat' refine And.intro ?_ ?_);all_goals first |(left;simp only[Dj,List.mem_cons,List.not_mem_nil,or_false,forall_eq,forall_eq_or_imp,and_true,true_and,false_imp_iff,implies_true];first |done |omega) |(right;kernel_rfl))) |(apply QQ;simp only[evA,gB,gA];exact rfl) |((first |apply QX |apply QY);(first |rfl |decide |assumption)))
   (apply QZ;simp(disch:=omega)only[go_sem,Try.results41];exact rfl;simp only[packA];exact rfl)
   exact .next
 ·rw[if_neg (by omega)]
  obtain⟨r,rfl⟩:∃r,y=r+1:=⟨y-1,by omega⟩
  have hr:r<n:=by omega
  have hrI:((r+1:Nat):Int)-1=((r:Nat):Int):=by omega
  have hrT:((r:Nat):Int).toNat=r:=Int.toNat_natCast _
  rw[hrI,hrT]
  obtain⟨m1,m2,m3,m4⟩:=hmem r (by omega)
  unfold nextN
  have hix1:=hlk _ (by omega) r m2
  rw[hrg r hr]at m1 m2 m3 m4 hix1 ⊢
  have hr2:=hrecI r hr
  have hat2:(ints l)[recAt r+2]? =some (.sc (.int .i64 (ati l (recAt r+2)))):=ints_at_ hr2
  have hri2:(((recAt r:Nat):Int)+2).toNat=recAt r+2:=by omega
  have hrlt:((recAt r:Nat):Int)<((l.length:Nat):Int):=by omega
  have h429:ati l (recAt r)≤4294967296:=by have:ati l (recAt r)≤2147483647:=m4;omega
  have m3':0≤ati l (recAt r):=m3
  have hy0:(0:Int)<((r+1:Nat):Int):=by omega
  simp only at hix1 m1 ⊢
  obtain⟨ix,hix⟩:∃ix,bkt (ati l (recAt r)).toNat chs.length=ix:=⟨_,rfl⟩
  rw[hix]at m1 hix1 ⊢
  rw[hcl]at hix
  have hbT2:((b:Nat):Int).toNat=b:=Int.toNat_natCast _
  rcases hix1 with⟨q1,q2⟩ |⟨s1,q1,q2,q3⟩
  ·rw[q1]
   simp only
   rw[q2]at hat2
   repeat(first |(with_reducible first |apply Q0 |apply Q1 |apply QG |apply Q2 |apply Q3 |apply Q4 |apply Q5 |apply Q6 |apply Q7 |apply Q8 |apply Q9 |apply QA |apply QB |apply QC |apply QD |apply QE |apply QF) |((first |(with_reducible apply QK rfl) |(apply QT;simp only[go_sem]<;>exact rfl));simp(disch:=omega)only[go_sem,hs,upd_ne,cal69,ctY_69,c69,rdK_dsl,hV,h00,cal88,ctY_88,c88,rdW,wK,iK_ok,hn0,hil,hit,hl0,hx0,hx1,hy0,hrI,hrT,cal87,ctY_87,c87,hri2,hat2,cal73,ctY_73,c73,cal74,ctY_74,c74,rdW,wK,iK_ok,hrlt,cal66,ctY_66,c66,m3',h429,hbT2,hix,hat01,tn1];exact rfl;simp only[sB,sA,putA];exact rfl) |((first |(with_reducible apply QL rfl) |(apply QM;simp only[go_sem]<;>exact rfl));simp(disch:=omega)only[go_sem,hs,upd_ne,cal69,ctY_69,c69,rdK_dsl,hV,h00,cal88,ctY_88,c88,rdW,wK,iK_ok,hn0,hil,hit,hl0,hx0,hx1,hy0,hrI,hrT,cal87,ctY_87,c87,hri2,hat2,cal73,ctY_73,c73,cal74,ctY_74,c74,rdW,wK,iK_ok,hrlt,cal66,ctY_66,c66,m3',h429,hbT2,hix,hat01,tn1];exact rfl;simp only[sB,sA,putA];exact rfl;simp only[logT_none,logT_rd,logT_wr,List.cons_append,List.nil_append];exact rfl) |((first |apply QI |apply QN);simp only[go_sem]<;>exact rfl;simp only[sB,sA,putA];exact rfl) |(refine QO ?_ ?_;first |focus(simp only[dyn_nil,dyn_cons,allY_nil,allY_cons,dj_rr,true_or,true_and];done) |focus(simp only[dyn_nil,dyn_cons,allY_nil,allY_cons,Dj,List.mem_cons,List.not_mem_nil,or_false,forall_eq,forall_eq_or_imp,and_true,true_and,false_imp_iff,implies_true];omega) |focus(simp only[dyn_nil,dyn_cons,allY_nil,allY_cons,and_true,true_and];(repeat' refine And.intro ?_ ?_);all_goals first |(left;simp only[Dj,List.mem_cons,List.not_mem_nil,or_false,forall_eq,forall_eq_or_imp,and_true,true_and,false_imp_iff,implies_true];first |done |omega) |(right;kernel_rfl))) |(apply QQ;simp only[evA,gB,gA];exact rfl) |((first |apply QX |apply QY);(first |rfl |decide |assumption)))
   refine AWp.loop [4,8,10,12] (fun Γ H s' m=>∃k:Nat,(ix+1)≤k∧k≤b∧m=b-k∧Γ=(List.replicate 4 .junk)++[.ptr s 0 0]++(List.replicate 3 .junk)++[.ptr (s+1+1) 0 0]++(List.replicate 1 .junk)++[.sc (.int .i64 (((ix+1):Nat):Int))]++(List.replicate 1 .junk)++[.sc (.int .i64 (k:Nat))]++(List.replicate 84 .junk)∧
  scanC (chs.drop (ix+1)) 0=scanC (chs.drop k) (k-(ix+1))∧H s=some (.row 0 1 [.sc (.int .i64 0),.sc (.int .i64 0)])∧H (s+1+1)=some (.row 0 1 [.sl (s+1) 0 0 l.length])∧H (s+1)=some (.row 0 1 (ints l))∧(∀q,s'≤q→H q=none)) (b-(ix+1)) ?_ ?_
   ·refine⟨ix+1,Nat.le_refl _,by omega,rfl,rfl,by rw[Nat.sub_self],?_,?_,?_,fun q hq=>?_⟩
    ·simp(disch:=omega)only[upd_ne,upd_same]
    ·simp(disch:=omega)only[upd_ne,upd_same]
    ·simp(disch:=omega)only[upd_ne,upd_same]
    ·simp(disch:=omega)only[upd_ne];exact hs q
   clear hat2 hri2 hrlt hix q1 q2 m1 m2
   rintro Γ H s1 m ⟨k,hk0,hk,rfl,rfl,hsc,hHs,hHp,hH1,hf⟩
   refine wA_ok hmix ctY_ok _ (by kernel_rfl) ?_
   simp(maxSteps:=1000000)only[List.replicate_succ,List.replicate_zero,List.cons_append,List.nil_append,List.append_nil]
   have hbT3:((b:Nat):Int).toNat=b:=Int.toNat_natCast _
   by_cases hlt:k<b
   ·have hkT:((k:Nat):Int).toNat=k:=Int.toNat_natCast _
    have hkh:=hhI k hlt
    have hath:=ints_at_ hkh
    have hklt:((k:Nat):Int)<((b:Nat):Int):=by omega
    have hkc:k<chs.length:=by omega
    have hdk:chs.drop k=chs.getD k []::chs.drop (k+1):=by rw[show chs.getD k []=chs[k]by simp[hkc]];exact List.drop_eq_getElem_cons hkc
    rcases hfirst k hlt with⟨q1,q2⟩ |⟨r1,rest,q1,q2,q3⟩
    ·rw[q2]at hath
     have hsc2:scanC (chs.drop (ix+1)) 0=scanC (chs.drop (k+1)) (k+1-(ix+1)):=by rw[hsc,hdk,q1,scanC,show k+1-(ix+1)=k-(ix+1)+1 by omega]
     repeat(first |(with_reducible first |apply Q0 |apply Q1 |apply QG |apply Q2 |apply Q3 |apply Q4 |apply Q5 |apply Q6 |apply Q7 |apply Q8 |apply Q9 |apply QA |apply QB |apply QC |apply QD |apply QE |apply QF) |((first |(with_reducible apply QK rfl) |(apply QT;simp only[go_sem]<;>exact rfl));simp(disch:=omega)only[go_sem,hf,upd_ne,hHp,hH1,hil,hit,hat01,tn1,hklt,cal89,ctY_89,c89,hkT,hath];exact rfl;simp only[sB,sA,putA];exact rfl) |((first |(with_reducible apply QL rfl) |(apply QM;simp only[go_sem]<;>exact rfl));simp(disch:=omega)only[go_sem,hf,upd_ne,hHp,hH1,hil,hit,hat01,tn1,hklt,cal89,ctY_89,c89,hkT,hath];exact rfl;simp only[sB,sA,putA];exact rfl;simp only[logT_none,logT_rd,logT_wr,List.cons_append,List.nil_append];exact rfl) |((first |apply QI |apply QN);simp only[go_sem]<;>exact rfl;simp only[sB,sA,putA];exact rfl) |(refine QO ?_ ?_;first |focus(simp only[dyn_nil,dyn_cons,allY_nil,allY_cons,dj_rr,true_or,true_and];done) |focus(simp only[dyn_nil,dyn_cons,allY_nil,allY_cons,Dj,List.mem_cons,List.not_mem_nil,or_false,forall_eq,forall_eq_or_imp,and_true,true_and,false_imp_iff,implies_true];omega) |focus(simp only[dyn_nil,dyn_cons,allY_nil,allY_cons,and_true,true_and];(repeat' refine And.intro ?_ ?_);all_goals first |(left;simp only[Dj,List.mem_cons,List.not_mem_nil,or_false,forall_eq,forall_eq_or_imp,and_true,true_and,false_imp_iff,implies_true];first |done |omega) |(right;kernel_rfl))) |(apply QQ;simp only[evA,gB,gA];exact rfl) |((first |apply QX |apply QY);(first |rfl |decide |assumption)))
     exact⟨b-(k+1),by omega,k+1,by omega,by omega,rfl,rfl,hsc2,hHs,hHp,hH1,hf⟩
    ·rw[q3]at hath
     have hw:goN recs chs (ix+1)=⟨ati l (recAt r1),ati l (recAt r1+1),(r1:Int)+1,((k-(ix+1):Nat):Int)+1,0⟩:=by
      unfold goN
      rw[hsc,hdk,q1,scanC]
      simp only[hrg r1 q2]
     rw[hw]
     have hs2:=hrecI r1 q2
     have hsI:((r1:Nat):Int)+1-1=((r1:Nat):Int):=by omega
     have hsT:((r1:Nat):Int).toNat=r1:=Int.toNat_natCast _
     have hslt:((recAt r1:Nat):Int)+1<((l.length:Nat):Int):=by omega
     have hsn:¬((r1:Nat):Int)+1=0:=by omega
     have hkk:((k:Nat):Int)-(((ix+1):Nat):Int)=((k-(ix+1):Nat):Int):=by omega
     repeat(first |(with_reducible first |apply Q0 |apply Q1 |apply QG |apply Q2 |apply Q3 |apply Q4 |apply Q5 |apply Q6 |apply Q7 |apply Q8 |apply Q9 |apply QA |apply QB |apply QC |apply QD |apply QE |apply QF) |((first |(with_reducible apply QK rfl) |(apply QT;simp only[go_sem]<;>exact rfl));simp(disch:=omega)only[go_sem,hf,upd_ne,hHs,hHp,hH1,hil,hit,hat01,tn1,hklt,cal89,ctY_89,c89,hkT,hath,hsn,hsI,hsT,hkk,cal73,ctY_73,c73,cal77,ctY_77,c77,rdW,wK,iK_ok,hslt];exact rfl;simp only[sB,sA,putA];exact rfl) |((first |(with_reducible apply QL rfl) |(apply QM;simp only[go_sem]<;>exact rfl));simp(disch:=omega)only[go_sem,hf,upd_ne,hHs,hHp,hH1,hil,hit,hat01,tn1,hklt,cal89,ctY_89,c89,hkT,hath,hsn,hsI,hsT,hkk,cal73,ctY_73,c73,cal77,ctY_77,c77,rdW,wK,iK_ok,hslt];exact rfl;simp only[sB,sA,putA];exact rfl;simp only[logT_none,logT_rd,logT_wr,List.cons_append,List.nil_append];exact rfl) |((first |apply QI |apply QN);simp only[go_sem]<;>exact rfl;simp only[sB,sA,putA];exact rfl) |(refine QO ?_ ?_;first |focus(simp only[dyn_nil,dyn_cons,allY_nil,allY_cons,dj_rr,true_or,true_and];done) |focus(simp only[dyn_nil,dyn_cons,allY_nil,allY_cons,Dj,List.mem_cons,List.not_mem_nil,or_false,forall_eq,forall_eq_or_imp,and_true,true_and,false_imp_iff,implies_true];omega) |focus(simp only[dyn_nil,dyn_cons,allY_nil,allY_cons,and_true,true_and];(repeat' refine And.intro ?_ ?_);all_goals first |(left;simp only[Dj,List.mem_cons,List.not_mem_nil,or_false,forall_eq,forall_eq_or_imp,and_true,true_and,false_imp_iff,implies_true];first |done |omega) |(right;kernel_rfl))) |(apply QQ;simp only[evA,gB,gA];exact rfl) |((first |apply QX |apply QY);(first |rfl |decide |assumption)))
     (apply QZ;simp(disch:=omega)only[go_sem,Try.results41];exact rfl;simp only[packA];exact rfl)
     exact .next
   ·obtain rfl:k=b:=by omega
    have hw:goN recs chs (ix+1)=⟨0,0,0,0,5⟩:=by
     unfold goN
     rw[hsc,←hcl,List.drop_length,scanC]
    rw[hw]
    repeat(first |(with_reducible first |apply Q0 |apply Q1 |apply QG |apply Q2 |apply Q3 |apply Q4 |apply Q5 |apply Q6 |apply Q7 |apply Q8 |apply Q9 |apply QA |apply QB |apply QC |apply QD |apply QE |apply QF) |((first |(with_reducible apply QK rfl) |(apply QT;simp only[go_sem]<;>exact rfl));simp(disch:=omega)only[go_sem,hf,upd_ne,hHs,hHp,hH1,hil,hit,hat01,tn1];exact rfl;simp only[sB,sA,putA];exact rfl) |((first |(with_reducible apply QL rfl) |(apply QM;simp only[go_sem]<;>exact rfl));simp(disch:=omega)only[go_sem,hf,upd_ne,hHs,hHp,hH1,hil,hit,hat01,tn1];exact rfl;simp only[sB,sA,putA];exact rfl;simp only[logT_none,logT_rd,logT_wr,List.cons_append,List.nil_append];exact rfl) |((first |apply QI |apply QN);simp only[go_sem]<;>exact rfl;simp only[sB,sA,putA];exact rfl) |(refine QO ?_ ?_;first |focus(simp only[dyn_nil,dyn_cons,allY_nil,allY_cons,dj_rr,true_or,true_and];done) |focus(simp only[dyn_nil,dyn_cons,allY_nil,allY_cons,Dj,List.mem_cons,List.not_mem_nil,or_false,forall_eq,forall_eq_or_imp,and_true,true_and,false_imp_iff,implies_true];omega) |focus(simp only[dyn_nil,dyn_cons,allY_nil,allY_cons,and_true,true_and];(repeat' refine And.intro ?_ ?_);all_goals first |(left;simp only[Dj,List.mem_cons,List.not_mem_nil,or_false,forall_eq,forall_eq_or_imp,and_true,true_and,false_imp_iff,implies_true];first |done |omega) |(right;kernel_rfl))) |(apply QQ;simp only[evA,gB,gA];exact rfl) |((first |apply QX |apply QY);(first |rfl |decide |assumption)))
    (apply QZ;simp(disch:=omega)only[go_sem,Try.results41];exact rfl;simp only[packA];exact rfl)
    exact .next
  ·rw[q1]
   simp only
   rw[q3]at hat2
   rw[hrg s1 q2]
   have hs2:=hrecI s1 q2
   have hsI:((s1:Nat):Int)+1-1=((s1:Nat):Int):=by omega
   have hsT:((s1:Nat):Int).toNat=s1:=Int.toNat_natCast _
   have hslt:((recAt s1:Nat):Int)+1<((l.length:Nat):Int):=by omega
   have hsn:¬((s1:Nat):Int)+1=0:=by omega
   repeat(first |(with_reducible first |apply Q0 |apply Q1 |apply QG |apply Q2 |apply Q3 |apply Q4 |apply Q5 |apply Q6 |apply Q7 |apply Q8 |apply Q9 |apply QA |apply QB |apply QC |apply QD |apply QE |apply QF) |((first |(with_reducible apply QK rfl) |(apply QT;simp only[go_sem]<;>exact rfl));simp(disch:=omega)only[go_sem,hs,upd_ne,cal69,ctY_69,c69,rdK_dsl,hV,h00,cal88,ctY_88,c88,rdW,wK,iK_ok,hn0,hil,hit,hl0,hx0,hx1,hy0,hrI,hrT,cal87,ctY_87,c87,hri2,hat2,hsn,hsI,hsT,cal73,ctY_73,c73,cal77,ctY_77,c77,rdW,wK,iK_ok,hslt];exact rfl;simp only[sB,sA,putA];exact rfl) |((first |(with_reducible apply QL rfl) |(apply QM;simp only[go_sem]<;>exact rfl));simp(disch:=omega)only[go_sem,hs,upd_ne,cal69,ctY_69,c69,rdK_dsl,hV,h00,cal88,ctY_88,c88,rdW,wK,iK_ok,hn0,hil,hit,hl0,hx0,hx1,hy0,hrI,hrT,cal87,ctY_87,c87,hri2,hat2,hsn,hsI,hsT,cal73,ctY_73,c73,cal77,ctY_77,c77,rdW,wK,iK_ok,hslt];exact rfl;simp only[sB,sA,putA];exact rfl;simp only[logT_none,logT_rd,logT_wr,List.cons_append,List.nil_append];exact rfl) |((first |apply QI |apply QN);simp only[go_sem]<;>exact rfl;simp only[sB,sA,putA];exact rfl) |(refine QO ?_ ?_;first |focus(simp only[dyn_nil,dyn_cons,allY_nil,allY_cons,dj_rr,true_or,true_and];done) |focus(simp only[dyn_nil,dyn_cons,allY_nil,allY_cons,Dj,List.mem_cons,List.not_mem_nil,or_false,forall_eq,forall_eq_or_imp,and_true,true_and,false_imp_iff,implies_true];omega) |focus(simp only[dyn_nil,dyn_cons,allY_nil,allY_cons,and_true,true_and];(repeat' refine And.intro ?_ ?_);all_goals first |(left;simp only[Dj,List.mem_cons,List.not_mem_nil,or_false,forall_eq,forall_eq_or_imp,and_true,true_and,false_imp_iff,implies_true];first |done |omega) |(right;kernel_rfl))) |(apply QQ;simp only[evA,gB,gA];exact rfl) |((first |apply QX |apply QY);(first |rfl |decide |assumption)))
   (apply QZ;simp(disch:=omega)only[go_sem,Try.results41];exact rfl;simp only[packA];exact rfl)
   exact .next
end Go.Proofs.Ytdcomhdadnhpnaa
