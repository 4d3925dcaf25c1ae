import Derived.Test.YtdcomhdadnhpnaaYZB42
import Derived.Test.YtdcomhdadnhpnaaYZA28
import Derived.Test.YtdcomhdadnhpnaaYZP27
set_option linter.all false
namespace Go.Proofs.Ytdcomhdadnhpnaa
open Go Go.Am Go.RowKit
attribute [local irreducible] wA opsQ opsLQ thenA blockA EndA
attribute [local go_sem] sz91 ze91 by91 ag91 fo91_0 bu91 Try.underlying91 sz92 ze92 by92 ag92 Try.underlying92 Try.underlying94 sz102 ze102 by102 ag102 fo102_0 fo102_1 bu102 Try.underlying102 sz117 ze117 by117 ag117 Try.underlying117
theorem ints_put {l:List Int} {i:Nat} {v:Int}:(ints l).set i (.sc (.int .i64 v))=ints (l.set i v):=by simp[ints,List.map_set]
theorem moved_take {l:List Int} (mv:List (Int×Int)) {k:Nat} (h:k<(recsT l).length):((recsT l).take (k+1)).map (mvE mv)=((recsT l).take k).map (mvE mv)++[(ati l (recAt k),mvW mv l k)]:=by
 rw[List.take_succ_eq_append_getElem h,List.map_append,recsT_at h];rfl
set_option maxRecDepth 100000 in
set_option maxHeartbeats 16000000 in
theorem tmove_rc (l:List Int) (mv:List (Int×Int)) (ht:mv.length≤1000000000):
  RC Try.prog 56 [.dsl l.length (ints l),.dsl mv.length (elsA mv)] (.tup [.dsl (rmoveF l mv).1.length (ints (rmoveF l mv).1),.sc (.int .i64 (rmoveF l mv).2)]):=by
 refine rc_of hmix ctY_ok Try.func56 rfl (by kernel_rfl) (fun E s hs=>?_)
 simp(maxSteps:=300000)only[begA,Try.ntmps56,List.replicate_succ,List.replicate_zero,List.length_cons,List.length_nil,List.cons_append,List.nil_append]
 have h00:(0:Int)≤0∧(0:Int)≤2147483647:=by decide
 by_cases hV:ValidL l
 rotate_left
 ·rw[rmoveF_bad hV]
  repeat(first |(with_reducible first |apply Q0 |apply Q1 |apply Q2 |apply Q3 |apply Q4 |apply Q5 |apply Q6 |apply Q7 |apply Q8 |apply Q9 |apply QA |apply QB |apply QC |apply QD |apply QE |apply QF) |((first |(with_reducible apply QK rfl) |(apply QT;simp only[go_sem]<;>exact rfl));simp(disch:=omega)only[go_sem,hs,upd_ne,cal69,ctY_69,c69,rdK_dsl,hV];exact rfl;simp only[sB,sA,putA];exact rfl) |(apply QI;simp only[go_sem]<;>exact rfl;simp only[sB,sA,putA];exact rfl) |(apply QQ;simp only[evA,gB,gA];exact rfl) |((first |apply QX |apply QY);(first |rfl |decide |assumption)))
  (apply QZ;simp(disch:=omega)only[go_sem,Try.results56];exact rfl;simp only[packA];exact rfl)
  exact .tup2 .nil (.sc _)
 have hrl:(recsT l).length=tabN l:=recsF_len l _
 have hn0:ati l 0=((tabN l:Nat):Int):=(tab_h hV).n0
 have hn1:tabN l≤100000:=(tab_g hV).n1
 have hrec:∀r,r<tabN l→recAt r+2<l.length:=(tab_g hV).rl
 have hll:60≤l.length:=hV.len60
 have hl3:=hV.le
 have hl0:0<l.length:=by omega
 have hil:=ints_len l
 have hit:=ints_take l
 have hcl:∀k,(chgL l k (mvW mv l)).length=l.length:=fun k=>chgL_len _ _ _
 have hc0:∀k,ati (chgL l k (mvW mv l)) 0=((tabN l:Nat):Int):=fun k=>by rw[chgL_same (fun r=>by have:=recAt_ge r;omega)];exact hn0
 have harg:¬ascK mv mv.length→rmoveF l mv=([],1):=rmoveF_arg hV
 have htw:∀k,k<(recsT l).length→ascK mv mv.length→(ati l (recAt k),mvW mv l k)∈((recsT l).take k).map (mvE mv)→rmoveF l mv=([],6):=fun k hk ha hd=>rmoveF_twice hV ha hk hd
 have hok:ascK mv mv.length→((recsT l).map (mvE mv)).Nodup→rmoveF l mv=(chgL l (tabN l) (mvW mv l),0):=fun ha hd=>rmoveF_ok hV ha hd
 have hmt:∀k,k<(recsT l).length→((recsT l).take (k+1)).map (mvE mv)=((recsT l).take k).map (mvE mv)++[(ati l (recAt k),mvW mv l k)]:=fun k hk=>moved_take mv hk
 generalize recsT l=T at*
 generalize tabN l=n at*
 have hml:=elsA_len mv
 repeat(first |(with_reducible first |apply Q0 |apply Q1 |apply Q2 |apply Q3 |apply Q4 |apply Q5 |apply Q6 |apply Q7 |apply Q8 |apply Q9 |apply QA |apply QB |apply QC |apply QD |apply QE |apply QF) |((first |(with_reducible apply QK rfl) |(apply QT;simp only[go_sem]<;>exact rfl));simp(disch:=omega)only[go_sem,hs,upd_ne,cal69,ctY_69,c69,rdK_dsl,hV,h00,aMakeMap];exact rfl;simp only[sB,sA,putA];exact rfl) |(apply QI;simp only[go_sem]<;>exact rfl;simp only[sB,sA,putA];exact rfl) |(apply QQ;simp only[evA,gB,gA];exact rfl) |((first |apply QX |apply QY);(first |rfl |decide |assumption)))
 refine AWp.loop [1,6,8,26,27,28] (fun Γ H s' m=>∃k:Nat,k≤mv.length∧m=mv.length-k∧Γ=(List.replicate 1 .junk)++[.dsl mv.length (elsA mv)]++(List.replicate 4 .junk)++[.ptr (s+1) 0 0]++(List.replicate 1 .junk)++[.mp (s+1+1) 0]++(List.replicate 17 .junk)++[.dsl mv.length (elsA mv),.sc (.int .i64 (mv.length:Nat)),.sc (.int .i64 (k:Nat))]++(List.replicate 66 .junk)∧
  ascK mv k∧H s=some (.row 0 1 (ints l))∧H (s+1)=some (.row 0 1 [.sl s 0 0 l.length])∧H (s+1+1)=some (.mapo 0 (entM (mv.take k)) k)∧s+2<s'∧∀q,s'≤q→H q=none) mv.length ?_ ?_
 ·refine⟨0,Nat.zero_le _,rfl,rfl,fun k h1=>absurd h1 (by omega),?_,?_,?_,by omega,fun q hq=>?_⟩
  ·simp(disch:=omega)only[upd_ne,upd_same]
  ·simp(disch:=omega)only[upd_ne,upd_same]
  ·simp(disch:=omega)only[upd_ne,upd_same];rfl
  ·simp(disch:=omega)only[upd_ne];exact hs q
 rintro Γ H s1 m ⟨k,hk,rfl,rfl,hasc,hH0,hH1,hHm,hs1,hf⟩
 refine wA_ok hmix ctY_ok _ (by kernel_rfl) ?_
 simp(maxSteps:=1000000)only[List.replicate_succ,List.replicate_zero,List.cons_append,List.nil_append,List.append_nil]
 by_cases hlt:k<mv.length
 ·obtain⟨M,hM⟩:∃M,M=entM (mv.take k):=⟨_,rfl⟩
  have hkl:(mv.take k).length=k:=by rw[List.length_take];omega
  have hup:ascK mv (k+1)→upK (s+1+1) mv[k].1 (.sc (.int .i64 mv[k].2)) (.mapo 0 M k)= .set (s+1+1) (.mapo 0 (entM (mv.take (k+1))) (k+1)) (.ret (.sc undef)):=fun ha=>by
   have h:=upK_new (n:=s+1+1) (y:=mv[k].2) (ascK_new hlt ha)
   rw[←List.take_succ_eq_append_getElem hlt,hkl]at h
   rw[hM,h,List.length_take,Nat.min_eq_left (by omega)]
  rw[←hM]at hHm
  have hkt:((k:Nat):Int).toNat=k:=Int.toNat_natCast _
  have hltI:((k:Nat):Int)<((mv.length:Nat):Int):=by omega
  have nxt:∀(H1:AHp) (v0 v:AO),H1=upd (upd (upd H s1 v0) s1 v) (s+1+1) (.mapo 0 (entM (mv.take (k+1))) (k+1))→H1 s=some (.row 0 1 (ints l))∧H1 (s+1)=some (.row 0 1 [.sl s 0 0 l.length])∧H1 (s+1+1)=some (.mapo 0 (entM (mv.take (k+1))) (k+1))∧s+2<s1+1∧∀q,s1+1≤q→H1 q=none:=fun H1 v0 v e=>by
   subst e
   exact⟨by(simp(disch:=omega)only[upd_ne];exact hH0),by(simp(disch:=omega)only[upd_ne];exact hH1),upd_same _ _ _,by omega,fun q hq=>by(simp(disch:=omega)only[upd_ne];exact hf q (by omega))⟩
  by_cases hk0:0<k
  ·obtain⟨j,rfl⟩:∃j,k=j+1:=⟨k-1,by omega⟩
   have hkI:(0:Int)<((j+1:Nat):Int):=by omega
   have hk2:(((j+1:Nat):Int)-1).toNat=j:=by omega
   have hjl:j<mv.length:=by omega
   by_cases hc:mv[j].1<mv[j+1].1
   ·have ha:ascK mv (j+1+1):=fun i hi h=>by
     by_cases e:i=j
     ·subst e;exact hc
     ·exact hasc i (by omega) h
    have hup':=hup ha
    have hc2:¬mv[j+1].1≤mv[j].1:=by omega
    repeat(first |(with_reducible first |apply Q0 |apply Q1 |apply QG |apply Q2 |apply Q3 |apply Q4 |apply Q5 |apply Q6 |apply Q7 |apply Q8 |apply Q9 |apply QA |apply QB |apply QC |apply QD |apply QE |apply QF) |((first |(with_reducible apply QK rfl) |(apply QT;simp only[go_sem]<;>exact rfl));simp(disch:=omega)only[go_sem,hf,upd_ne,hHm,elsA_len,elsA_drop,hltI,hkI,hk2,hc,hc2,tn1,up120,hup'];exact rfl;simp only[sB,sA,putA];exact rfl) |((first |(with_reducible apply QL rfl) |(apply QM;simp only[go_sem]<;>exact rfl));simp(disch:=omega)only[go_sem,hf,upd_ne,hHm,elsA_len,elsA_drop,hltI,hkI,hk2,hc,hc2,tn1,up120,hup'];exact rfl;simp only[sB,sA,putA];exact rfl;simp only[logT_none,logT_rd,logT_wr,List.cons_append,List.nil_append];exact rfl) |((first |apply QI |apply QN);simp only[go_sem]<;>exact rfl;simp only[sB,sA,putA];exact rfl) |(refine QO ?_ ?_;first |focus(simp only[dyn_nil,dyn_cons,allY_nil,allY_cons,dj_rr,true_or,true_and];done) |focus(simp only[dyn_nil,dyn_cons,allY_nil,allY_cons,Dj,List.mem_cons,List.not_mem_nil,or_false,forall_eq,forall_eq_or_imp,and_true,true_and,false_imp_iff,implies_true];omega) |focus(simp only[dyn_nil,dyn_cons,allY_nil,allY_cons,and_true,true_and];(repeat' refine And.intro ?_ ?_);all_goals first |(left;simp only[Dj,List.mem_cons,List.not_mem_nil,or_false,forall_eq,forall_eq_or_imp,and_true,true_and,false_imp_iff,implies_true];first |done |omega) |(right;kernel_rfl))) |(apply QQ;simp only[evA,gB,gA];exact rfl) |((first |apply QX |apply QY);(first |rfl |decide |assumption)))
    exact⟨mv.length-(j+1+1),by omega,j+1+1,by omega,rfl,rfl,ha,nxt _ _ _ rfl⟩
   ·have hc2:mv[j+1].1≤mv[j].1:=by omega
    rw[harg (fun ha=>hc (ha j (by omega) hlt))]
    repeat(first |(with_reducible first |apply Q0 |apply Q1 |apply QG |apply Q2 |apply Q3 |apply Q4 |apply Q5 |apply Q6 |apply Q7 |apply Q8 |apply Q9 |apply QA |apply QB |apply QC |apply QD |apply QE |apply QF) |((first |(with_reducible apply QK rfl) |(apply QT;simp only[go_sem]<;>exact rfl));simp(disch:=omega)only[go_sem,hf,upd_ne,hHm,elsA_len,elsA_drop,hltI,hkI,hk2,hc,hc2,tn1];exact rfl;simp only[sB,sA,putA];exact rfl) |((first |(with_reducible apply QL rfl) |(apply QM;simp only[go_sem]<;>exact rfl));simp(disch:=omega)only[go_sem,hf,upd_ne,hHm,elsA_len,elsA_drop,hltI,hkI,hk2,hc,hc2,tn1];exact rfl;simp only[sB,sA,putA];exact rfl;simp only[logT_none,logT_rd,logT_wr,List.cons_append,List.nil_append];exact rfl) |((first |apply QI |apply QN);simp only[go_sem]<;>exact rfl;simp only[sB,sA,putA];exact rfl) |(refine QO ?_ ?_;first |focus(simp only[dyn_nil,dyn_cons,allY_nil,allY_cons,dj_rr,true_or,true_and];done) |focus(simp only[dyn_nil,dyn_cons,allY_nil,allY_cons,Dj,List.mem_cons,List.not_mem_nil,or_false,forall_eq,forall_eq_or_imp,and_true,true_and,false_imp_iff,implies_true];omega) |focus(simp only[dyn_nil,dyn_cons,allY_nil,allY_cons,and_true,true_and];(repeat' refine And.intro ?_ ?_);all_goals first |(left;simp only[Dj,List.mem_cons,List.not_mem_nil,or_false,forall_eq,forall_eq_or_imp,and_true,true_and,false_imp_iff,implies_true];first |done |omega) |(right;kernel_rfl))) |(apply QQ;simp only[evA,gB,gA];exact rfl) |((first |apply QX |apply QY);(first |rfl |decide |assumption)))
    (apply QZ;simp(disch:=omega)only[go_sem,Try.results56];exact rfl;simp only[packA];exact rfl)
    exact .tup2 .nil (.sc _)
  ·have hkI:¬(0:Int)<((k:Nat):Int):=by omega
   have ha:ascK mv (k+1):=fun i hi h=>absurd hi (by omega)
   have hup':=hup ha
   repeat(first |(with_reducible first |apply Q0 |apply Q1 |apply QG |apply Q2 |apply Q3 |apply Q4 |apply Q5 |apply Q6 |apply Q7 |apply Q8 |apply Q9 |apply QA |apply QB |apply QC |apply QD |apply QE |apply QF) |((first |(with_reducible apply QK rfl) |(apply QT;simp only[go_sem]<;>exact rfl));simp(disch:=omega)only[go_sem,hf,upd_ne,hHm,elsA_len,elsA_drop,hltI,hkI,tn1,up120,hup'];exact rfl;simp only[sB,sA,putA];exact rfl) |((first |(with_reducible apply QL rfl) |(apply QM;simp only[go_sem]<;>exact rfl));simp(disch:=omega)only[go_sem,hf,upd_ne,hHm,elsA_len,elsA_drop,hltI,hkI,tn1,up120,hup'];exact rfl;simp only[sB,sA,putA];exact rfl;simp only[logT_none,logT_rd,logT_wr,List.cons_append,List.nil_append];exact rfl) |((first |apply QI |apply QN);simp only[go_sem]<;>exact rfl;simp only[sB,sA,putA];exact rfl) |(refine QO ?_ ?_;first |focus(simp only[dyn_nil,dyn_cons,allY_nil,allY_cons,dj_rr,true_or,true_and];done) |focus(simp only[dyn_nil,dyn_cons,allY_nil,allY_cons,Dj,List.mem_cons,List.not_mem_nil,or_false,forall_eq,forall_eq_or_imp,and_true,true_and,false_imp_iff,implies_true];omega) |focus(simp only[dyn_nil,dyn_cons,allY_nil,allY_cons,and_true,true_and];(repeat' refine And.intro ?_ ?_);all_goals first |(left;simp only[Dj,List.mem_cons,List.not_mem_nil,or_false,forall_eq,forall_eq_or_imp,and_true,true_and,false_imp_iff,implies_true];first |done |omega) |(right;kernel_rfl))) |(apply QQ;simp only[evA,gB,gA];exact rfl) |((first |apply QX |apply QY);(first |rfl |decide |assumption)))
   exact⟨mv.length-(k+1),by omega,k+1,by omega,rfl,rfl,ha,nxt _ _ _ rfl⟩
 ·obtain rfl:k=mv.length:=by omega
  rw[List.take_length]at hHm
  have hnlt:¬((mv.length:Nat):Int)<((mv.length:Nat):Int):=by omega
  repeat(first |(with_reducible first |apply Q0 |apply Q1 |apply Q2 |apply Q3 |apply Q4 |apply Q5 |apply Q6 |apply Q7 |apply Q8 |apply Q9 |apply QA |apply QB |apply QC |apply QD |apply QE |apply QF) |((first |(with_reducible apply QK rfl) |(apply QT;simp only[go_sem]<;>exact rfl));simp(disch:=omega)only[go_sem,hf,upd_ne,hH0,hH1,hnlt,aMakeMap,cal88,ctY_88,c88,rdW,wK,iK_ok,hn0,hil,hit,hl0];exact rfl;simp only[sB,sA,putA];exact rfl) |(apply QI;simp only[go_sem]<;>exact rfl;simp only[sB,sA,putA];exact rfl) |(apply QQ;simp only[evA,gB,gA];exact rfl) |((first |apply QX |apply QY);(first |rfl |decide |assumption)))
  refine AWp.loop [6,8,11,54,55] (fun Γ H s' m=>∃r:Nat,r≤n∧m=n-r∧Γ=(List.replicate 6 .junk)++[.ptr (s+1) 0 0]++(List.replicate 1 .junk)++[.mp (s+1+1) 0]++(List.replicate 2 .junk)++[.mp s1 0]++(List.replicate 42 .junk)++[.sc (.int .i64 (n:Nat)),.sc (.int .i64 (r:Nat))]++(List.replicate 39 .junk)∧
   (∃L0,L0=chgL l r (mvW mv l)∧H s=some (.row 0 1 (ints L0)))∧H (s+1)=some (.row 0 1 [.sl s 0 0 l.length])∧H (s+1+1)=some (.mapo 0 (entM mv) mv.length)∧H s1=some (.mapo 0 (entE ((T.take r).map (mvE mv))) r)∧((T.take r).map (mvE mv)).Nodup∧s1<s'∧∀q,s'≤q→H q=none) n ?_ ?_
  ·refine⟨0,Nat.zero_le _,rfl,rfl,⟨l,(chgL_zero _ _).symm,?_⟩,?_,?_,?_,List.Pairwise.nil,by omega,fun q hq=>?_⟩
   ·simp(disch:=omega)only[upd_ne];exact hH0
   ·simp(disch:=omega)only[upd_ne];exact hH1
   ·simp(disch:=omega)only[upd_ne];exact hHm
   ·simp(disch:=omega)only[upd_same];rfl
   ·simp(disch:=omega)only[upd_ne];exact hf q (by omega)
  clear hH0 hH1 hHm hf
  rintro Γ H s2 m ⟨r,hr,rfl,rfl,⟨L0,hL0,hH0⟩,hH1,hHm,hHd,hnd,hs2,hf⟩
  refine wA_ok hmix ctY_ok _ (by kernel_rfl) ?_
  simp(maxSteps:=1000000)only[List.replicate_succ,List.replicate_zero,List.cons_append,List.nil_append,List.append_nil]
  by_cases hlt2:r<n
  ·have hrr:=hrec r hlt2
   have hkI:(0:Int)≤((r:Nat):Int)∧((r:Nat):Int)≤1000000:=by omega
   have hkT:((r:Nat):Int).toNat=r:=Int.toNat_natCast _
   have hltI:((r:Nat):Int)<((n:Nat):Int):=by omega
   have hrT:r<T.length:=by omega
   obtain⟨L1,hL1⟩:∃L1,L1=chgL l (r+1) (mvW mv l):=⟨_,rfl⟩
   have e0:L0.length=l.length:=by rw[hL0];exact hcl r
   have e1:L1.length=l.length:=by rw[hL1];exact hcl (r+1)
   have a0:ati L0 (recAt r+1)=ati l (recAt r+1):=by rw[hL0];exact chgL_other (Nat.le_refl _)
   have a1:ati L1 (recAt r)=ati l (recAt r):=by rw[hL1];exact chgL_hash r
   have a2:ati L1 (recAt r+1)=mvW mv l r:=by rw[hL1];exact chgL_at (by omega) (by omega)
   have hst:L0.set (recAt r+1) (mvW mv l r)=L1:=by rw[hL0,hL1];exact chgL_succ fun q hq=>by have:=hrec q (by omega);omega
   have hat:(ints L0)[recAt r+1]? =some (.sc (.int .i64 (ati l (recAt r+1)))):=by rw[ints_at_ (by omega),a0]
   have hlen0:(ints L0).length=l.length:=by rw[ints_len,e0]
   have hlen1:(ints L1).length=l.length:=by rw[ints_len,e1]
   have htk0:(ints L0).take l.length=ints L0:=List.take_of_length_le (by omega)
   have htk1:(ints L1).take l.length=ints L1:=List.take_of_length_le (by omega)
   have hT1:(((recAt r:Nat):Int)+1).toNat=recAt r+1:=by omega
   have hsl2:(0:Int)≤((recAt r:Nat):Int)∧((recAt r:Nat):Int)+1<((l.length:Nat):Int)∧((recAt r:Nat):Int)<1000000000:=by omega
   have htk:=hmt r hrT
   obtain⟨D,hD⟩:∃D,D=(T.take r).map (mvE mv):=⟨_,rfl⟩
   have hDl:D.length=r:=by rw[hD,List.length_map,List.length_take];omega
   rw[←hD]at hHd hnd htk
   have htw':=htw r hrT
   rw[←hD]at htw'
   clear htw hmt hcl hc0 hrec
   have fin:∀(H1:AHp) (v0 v:AO) (s3:Nat),s3=s2+1→(ati l (recAt r),mvW mv l r)∉D→H1=upd (upd (upd (upd H s (.row 0 1 (ints L1))) s2 v0) s2 v) s1 (.mapo 0 (entE (D++[(ati l (recAt r),mvW mv l r)])) (r+1))→
     ((∃ L0,L0=chgL l (r+1) (mvW mv l)∧H1 s=some (.row 0 1 (ints L0)))∧H1 (s+1)=some (.row 0 1 [.sl s 0 0 l.length])∧H1 (s+1+1)=some (.mapo 0 (entM mv) mv.length)∧H1 s1=some (.mapo 0 (entE ((T.take (r+1)).map (mvE mv))) (r+1))∧((T.take (r+1)).map (mvE mv)).Nodup∧s1<s3∧∀q,s3≤q→H1 q=none):=fun H1 v0 v s3 e3 hno e=>by
    subst e
    subst e3
    rw[htk]
    refine⟨⟨L1,hL1,?_⟩,?_,?_,upd_same _ _ _,?_,by omega,fun q hq=>?_⟩
    ·simp(disch:=omega)only[upd_ne,upd_same]
    ·simp(disch:=omega)only[upd_ne];exact hH1
    ·simp(disch:=omega)only[upd_ne];exact hHm
    ·refine List.nodup_append.2 ⟨hnd,by simp,?_⟩
     intro a ha b hb
     simp only[List.mem_singleton]at hb
     subst hb
     exact fun e=>hno (e ▸ ha)
    ·simp(disch:=omega)only[upd_ne];exact hf q (by omega)
   have hlk2:=lkE_ent (ati l (recAt r),mvW mv l r) D r
   obtain⟨M,hM⟩:∃M,M=entE D:=⟨_,rfl⟩
   have hup2:(ati l (recAt r),mvW mv l r)∉D→upE s1 (ati l (recAt r),mvW mv l r) (.sc (.bool true)) (.mapo 0 M r)= .set s1 (.mapo 0 (entE (D++[(ati l (recAt r),mvW mv l r)])) (r+1)) (.ret (.sc undef)):=fun hno=>by
    have h:=upE_new (n:=s1) hno
    rw[hDl,List.length_append,hDl]at h
    rw[hM,h];rfl
   rw[←hM]at hHd hlk2
   cases hmg:mget mv (ati l (recAt r+1))with
   |none=>
    have hw:mvW mv l r=ati l (recAt r+1):=by unfold mvW;rw[hmg];rfl
    have hLL:L0=L1:=by
     rw[←hst,hw,←a0,←ati_some (l:=L0) (i:=recAt r+1) (by omega),List.set_getElem_self]
    subst hLL
    have hupd:upd H s (.row 0 1 (ints L0))=H:=by
     funext q;by_cases e:q=s
     ·subst e;rw[upd_same,hH0]
     ·rw[upd_ne _ _ e]
    rw[hupd]at fin
    have hlk:lkK (ati l (recAt r+1)) true (.mapo 0 (entM mv) mv.length)= .ret (.tup [.sc (.int .i64 0),.sc (.bool false)]):=by rw[lkK_ent,hmg];rfl
    by_cases hmem:(ati l (recAt r),mvW mv l r)∈D
    ·rw[decide_eq_true hmem]at hlk2
     rw[htw' hasc hmem]
     repeat(first |(with_reducible first |apply Q0 |apply Q1 |apply Q2 |apply Q3 |apply Q4 |apply Q5 |apply Q6 |apply Q7 |apply Q8 |apply Q9 |apply QA |apply QB |apply QC |apply QD |apply QE |apply QF) |((first |(with_reducible apply QK rfl) |(apply QT;simp only[go_sem]<;>exact rfl));simp(disch:=omega)only[go_sem,hf,upd_ne,hH0,hH1,hHm,hHd,hlen0,htk0,intsOf_ints,hat,hT1,tn1,hltI,hkI,hkT,hsl2,a1,a2,e0,cal87,ctY_87,c87,cal73,ctY_73,c73,cal77,ctY_77,c77,rdW,wK,iK_ok,lk120,hlk,lk117,hlk2];exact rfl;simp only[sB,sA,putA];exact rfl) |(apply QI;simp only[go_sem]<;>exact rfl;simp only[sB,sA,putA];exact rfl) |(apply QQ;simp only[evA,gB,gA];exact rfl) |((first |apply QX |apply QY);(first |rfl |decide |assumption)))
     (apply QZ;simp(disch:=omega)only[go_sem,Try.results56];exact rfl;simp only[packA];exact rfl)
     exact .tup2 .nil (.sc _)
    ·rw[decide_eq_false hmem]at hlk2
     have hup3:=hup2 hmem
     repeat(first |(with_reducible first |apply Q0 |apply Q1 |apply Q2 |apply Q3 |apply Q4 |apply Q5 |apply Q6 |apply Q7 |apply Q8 |apply Q9 |apply QA |apply QB |apply QC |apply QD |apply QE |apply QF) |((first |(with_reducible apply QK rfl) |(apply QT;simp only[go_sem]<;>exact rfl));simp(disch:=omega)only[go_sem,hf,upd_ne,hH0,hH1,hHm,hHd,hlen0,htk0,intsOf_ints,hat,hT1,tn1,hltI,hkI,hkT,hsl2,a1,a2,e0,cal87,ctY_87,c87,cal73,ctY_73,c73,cal77,ctY_77,c77,rdW,wK,iK_ok,lk120,hlk,lk117,hlk2,up117,hup3];exact rfl;simp only[sB,sA,putA];exact rfl) |(apply QI;simp only[go_sem]<;>exact rfl;simp only[sB,sA,putA];exact rfl) |(apply QQ;simp only[evA,gB,gA];exact rfl) |((first |apply QX |apply QY);(first |rfl |decide |assumption)))
     exact⟨n-(r+1),by omega,r+1,by omega,rfl,rfl,fin _ _ _ _ rfl hmem rfl⟩
   |some v=>
    have hw:mvW mv l r=v:=by unfold mvW;rw[hmg];rfl
    have hset:(ints L0).set (recAt r+1) (.sc (.int .i64 v))=ints L1:=by rw[ints_put,←hw,hst]
    have hlk:lkK (ati l (recAt r+1)) true (.mapo 0 (entM mv) mv.length)= .ret (.tup [.sc (.int .i64 v),.sc (.bool true)]):=by rw[lkK_ent,hmg];rfl
    by_cases hmem:(ati l (recAt r),mvW mv l r)∈D
    ·rw[decide_eq_true hmem]at hlk2
     rw[htw' hasc hmem]
     repeat(first |(with_reducible first |apply Q0 |apply Q1 |apply Q2 |apply Q3 |apply Q4 |apply Q5 |apply Q6 |apply Q7 |apply Q8 |apply Q9 |apply QA |apply QB |apply QC |apply QD |apply QE |apply QF) |((first |(with_reducible apply QK rfl) |(apply QT;simp only[go_sem]<;>exact rfl));simp(disch:=omega)only[go_sem,hf,upd_ne,hH0,hH1,hHm,hHd,hlen0,htk0,hlen1,htk1,intsOf_ints,hat,hset,hT1,tn1,hltI,hkI,hkT,hsl2,a1,a2,e1,cal87,ctY_87,c87,cal73,ctY_73,c73,cal77,ctY_77,c77,rdW,wK,iK_ok,lk120,hlk,lk117,hlk2];exact rfl;simp only[sB,sA,putA];exact rfl) |(apply QI;simp only[go_sem]<;>exact rfl;simp only[sB,sA,putA];exact rfl) |(apply QQ;simp only[evA,gB,gA];exact rfl) |((first |apply QX |apply QY);(first |rfl |decide |assumption)))
     (apply QZ;simp(disch:=omega)only[go_sem,Try.results56];exact rfl;simp only[packA];exact rfl)
     exact .tup2 .nil (.sc _)
    ·rw[decide_eq_false hmem]at hlk2
     have hup3:=hup2 hmem
     repeat(first |(with_reducible first |apply Q0 |apply Q1 |apply Q2 |apply Q3 |apply Q4 |apply Q5 |apply Q6 |apply Q7 |apply Q8 |apply Q9 |apply QA |apply QB |apply QC |apply QD |apply QE |apply QF) |((first |(with_reducible apply QK rfl) |(apply QT;simp only[go_sem]<;>exact rfl));simp(disch:=omega)only[go_sem,hf,upd_ne,hH0,hH1,hHm,hHd,hlen0,htk0,hlen1,htk1,intsOf_ints,hat,hset,hT1,tn1,hltI,hkI,hkT,hsl2,a1,a2,e1,cal87,ctY_87,c87,cal73,ctY_73,c73,cal77,ctY_77,c77,rdW,wK,iK_ok,lk120,hlk,lk117,hlk2,up117,hup3];exact rfl;simp only[sB,sA,putA];exact rfl) |(apply QI;simp only[go_sem]<;>exact rfl;simp only[sB,sA,putA];exact rfl) |(apply QQ;simp only[evA,gB,gA];exact rfl) |((first |apply QX |apply QY);(first |rfl |decide |assumption)))
     exact⟨n-(r+1),by omega,r+1,by omega,rfl,rfl,fin _ _ _ _ rfl hmem rfl⟩
  ·obtain rfl:r=n:=by omega
   have hnlt2:¬((r:Nat):Int)<((r:Nat):Int):=by omega
   have hTt:T.take r=T:=List.take_of_length_le (by omega)
   rw[hTt]at hnd
   rw[hok hasc hnd,←hL0]
   have e0:L0.length=l.length:=by rw[hL0];exact hcl r
   repeat(first |(with_reducible first |apply Q0 |apply Q1 |apply Q2 |apply Q3 |apply Q4 |apply Q5 |apply Q6 |apply Q7 |apply Q8 |apply Q9 |apply QA |apply QB |apply QC |apply QD |apply QE |apply QF) |((first |(with_reducible apply QK rfl) |(apply QT;simp only[go_sem]<;>exact rfl));simp(disch:=omega)only[go_sem,hf,upd_ne,hH1,hnlt2];exact rfl;simp only[sB,sA,putA];exact rfl) |(apply QI;simp only[go_sem]<;>exact rfl;simp only[sB,sA,putA];exact rfl) |(apply QQ;simp only[evA,gB,gA];exact rfl) |((first |apply QX |apply QY);(first |rfl |decide |assumption)))
   (apply QZ;simp(disch:=omega)only[go_sem,Try.results56];exact rfl;simp only[packA];exact rfl)
   refine .tup2 ?_ (.sc _)
   show Exp H (.sl s 0 0 l.length) (.dsl L0.length (ints L0))
   rw[←e0]
   exact Exp.ints hH0
noncomputable def c56:List AV→AP AV
 | [t,A]=>rdK t fun l=>rdE2 A fun mv=>if mv.length≤1000000000 then .ret (.tup [.dsl (rmoveF l mv).1.length (ints (rmoveF l mv).1),.sc (.int .i64 (rmoveF l mv).2)])else .fail
 |_=>.fail
theorem a56 (args:List AV):ACall Try.prog 56 args (c56 args):=by
 intro ρ H w vs hR hA s r H' s' hm
 unfold c56 at hm
 split at hm
 ·obtain⟨v0,v1,rfl,hv0,hv1⟩:=reps2 hA
  obtain⟨l,hr,hm⟩:=rdK_data hR hv0 hm
  obtain⟨mv,hr2,hm⟩:=rdE2_data hR hv1 hm
  split at hm
  ·rename_i hc
   simp only[AP.run,Option.some.injEq,Prod.mk.injEq]at hm
   obtain⟨rfl,rfl,rfl⟩:=hm
   exact(tmove_rc l mv hc).acall hR (.cons hr (.cons hr2 .nil))
  ·simp[AP.run]at hm
 ·simp[AP.run]at hm
end Go.Proofs.Ytdcomhdadnhpnaa
