import Derived.Test.YtdcomhdadnhpnaaYZP1
import Derived.Test.YtdcomhdadnhpnaaYZP22
set_option linter.all false
section
namespace Go.Proofs.Ytdcomhdadnhpnaa
open Go Go.Am Go.RowKit
attribute [local irreducible] wA opsQ opsLQ thenA blockA EndA
theorem c18_at (n:Nat) (h:n≤100000):c18r [.sc (.int .i64 ((n:Int)+1))]= .ret (.sc (.int .i64 (bkts (n+1):Nat))):=by
 unfold c18r
 simp only
 rw[if_pos (by omega),show((n:Int)+1).toNat=n+1 by omega]
def ansX (c:Int) (u:List Int):Option (List Int):=if c=0 then some u else none
set_option maxRecDepth 100000 in
set_option maxHeartbeats 4000000 in
theorem radd_ro (l:List Int) (h x:Int) (hl:l.length≤1000000000):
  RO Try.prog 35 [.dsl l.length (ints l),.sc (.int .i64 h),.sc (.int .i64 x)] (OwnT (ansX (addF l h x).2.2 (addF l h x).2.1) [.int .i64 (addF l h x).1,.int .i64 (addF l h x).2.2]):=by
 refine ro_of Try.func35 rfl (fun E s hs=>?_)
 refine wA_ok hmix ctS_ok _ (by kernel_rfl) ?_
 simp(maxSteps:=300000)only[begA,Try.ntmps35,List.replicate_succ,List.replicate_zero,List.length_cons,List.length_nil,List.cons_append,List.nil_append]
 by_cases hV:ValidL l
 rotate_left
 ·have hw:addF l h x=(0,[],600):=by unfold addF;rw[if_pos hV]
  rw[hw]
  repeat(first |(with_reducible first |apply Q0 |apply Q1 |apply Q2 |apply Q3 |apply Q4 |apply Q5 |apply Q6 |apply Q7 |apply Q8 |apply Q9 |apply QA |apply QB |apply QC |apply QD |apply QE |apply QF) |((first |(with_reducible apply QK rfl) |(apply QT;simp only[go_sem]<;>exact rfl));simp(disch:=omega)only[go_sem,hs,upd_ne,cal78,ctS_78,c78o,rdD_dsl,hl,hV];exact rfl;simp only[sB,sA,putA];exact rfl) |(apply QI;simp only[go_sem]<;>exact rfl;simp only[sB,sA,putA];exact rfl) |(apply QQ;simp only[evA,gB,gA];exact rfl) |((first |apply QX |apply QY);(first |rfl |decide |assumption)))
  (apply QZ;simp(disch:=omega)only[go_sem,Try.results35];exact rfl;simp only[packA];exact rfl)
  exact⟨_,rfl,rfl⟩
 have hW:=wok_valid hV
 have hn1:=hW.n
 have hb:=hW.b
 have hb8:=bkts8 (recsT l).length
 have hbl:=bkts_le (recsT l).length (by omega)
 have hn:(recsT l).length=tabN l:=recsF_len l _
 obtain⟨recs,hR⟩:∃recs,recs=recsT l:=⟨_,rfl⟩
 obtain⟨chs,hC⟩:∃chs,chs=chsT l:=⟨_,rfl⟩
 rw[←hR,←hC]at hW hb
 rw[←hR]at hn1 hb8 hbl hn
 replace hR:=hR.symm
 replace hC:=hC.symm
 rw[←hb]at hb8 hbl
 have hcn:(rowsN chs).length=chs.length:=rowsN_len _
 have hct:(rowsN chs).take chs.length=rowsN chs:=List.take_of_length_le (by rw[rowsN_len];exact Nat.le_refl _)
 have het:=elsA_take recs
 have hel:=elsA_len recs
 have hN:(recs=[]∧∀k,newE recs k=k (.sc (.slice none 0 0)))∨(0<recs.length∧∀k,newE recs k= .new (.row 0 2 (elsA recs)) fun n=>k (.sl n 0 0 recs.length)):=by
  by_cases h0:recs.length=0
  ·obtain rfl:=List.length_eq_zero_iff.1 h0
   exact .inl ⟨rfl,fun k=>rfl⟩
  ·exact .inr ⟨by omega,fun k=>if_neg h0⟩
 by_cases hh:¬(0≤h∧h≤2147483647)
 ·rw[addF_bad hV hh]
  rcases hN with⟨rfl,hN⟩ |⟨h0,hN⟩
  all_goals
   repeat(first |(with_reducible first |apply Q0 |apply Q1 |apply Q2 |apply Q3 |apply Q4 |apply Q5 |apply Q6 |apply Q7 |apply Q8 |apply Q9 |apply QA |apply QB |apply QC |apply QD |apply QE |apply QF) |((first |(with_reducible apply QK rfl) |(apply QT;simp only[go_sem]<;>exact rfl));simp(disch:=omega)only[go_sem,hs,upd_ne,cal78,ctS_78,c78o,rdD_dsl,hl,hV,hR,hC,hN,cal21,ctS_21,ctR_21,c21,hh];exact rfl;simp only[sB,sA,putA];exact rfl) |(apply QI;simp only[go_sem]<;>exact rfl;simp only[sB,sA,putA];exact rfl) |(apply QQ;simp only[evA,gB,gA];exact rfl) |((first |apply QX |apply QY);(first |rfl |decide |assumption)))
   (apply QZ;simp(disch:=omega)only[go_sem,Try.results35];exact rfl;simp only[packA];exact rfl)
   exact⟨_,rfl,rfl⟩
 replace hh:0≤h∧h≤2147483647:=Decidable.not_not.1 hh
 have hh2:h≤4294967296:=by omega
 by_cases ho:0≤ofF recs chs (h,x)
 ·have hw:addF l h x=(0,[],6):=by
   rw[addF_ok hV hh]
   rw[←hR,←hC]at ho
   have:=(of_has hV).1 ho
   unfold addR
   rw[if_neg (by simpa using hh),if_pos this]
   rfl
  rw[hw]
  rcases hN with⟨rfl,hN⟩ |⟨h0,hN⟩
  all_goals
   repeat(first |(with_reducible first |apply Q0 |apply Q1 |apply Q2 |apply Q3 |apply Q4 |apply Q5 |apply Q6 |apply Q7 |apply Q8 |apply Q9 |apply QA |apply QB |apply QC |apply QD |apply QE |apply QF) |((first |(with_reducible apply QK rfl) |(apply QT;simp only[go_sem]<;>exact rfl));simp(disch:=omega)only[go_sem,hs,upd_ne,cal78,ctS_78,c78o,rdD_dsl,hl,hV,hR,hC,hN,cal21,ctS_21,ctR_21,c21,hh,cal79,ctS_79,c79,rdT,rdE2,rdC,hct,hcn,het,hel,elsOf_elsA,rdRows_data,hW,hh2,ho,List.drop_zero];exact rfl;simp only[sB,sA,putA];exact rfl) |(apply QI;simp only[go_sem]<;>exact rfl;simp only[sB,sA,putA];exact rfl) |(apply QQ;simp only[evA,gB,gA];exact rfl) |((first |apply QX |apply QY);(first |rfl |decide |assumption)))
   (apply QZ;simp(disch:=omega)only[go_sem,Try.results35];exact rfl;simp only[packA];exact rfl)
   exact⟨_,rfl,rfl⟩
 by_cases h100:100000≤recs.length
 ·have hw:addF l h x=(0,[],3):=by
   rw[addF_ok hV hh]
   rw[←hR,←hC]at ho
   have h1:=mt (of_has hV).2 ho
   unfold addR
   rw[if_neg (by simpa using hh),if_neg h1,if_pos (by omega)]
   rfl
  rw[hw]
  have hge:(100000:Int)≤(recs.length:Int):=by omega
  rcases hN with⟨rfl,hN⟩ |⟨h0,hN⟩
  ·exact absurd h100 (by simp)
  ·repeat(first |(with_reducible first |apply Q0 |apply Q1 |apply Q2 |apply Q3 |apply Q4 |apply Q5 |apply Q6 |apply Q7 |apply Q8 |apply Q9 |apply QA |apply QB |apply QC |apply QD |apply QE |apply QF) |((first |(with_reducible apply QK rfl) |(apply QT;simp only[go_sem]<;>exact rfl));simp(disch:=omega)only[go_sem,hs,upd_ne,cal78,ctS_78,c78o,rdD_dsl,hl,hV,hR,hC,hN,cal21,ctS_21,ctR_21,c21,hh,cal79,ctS_79,c79,rdT,rdE2,rdC,hct,hcn,het,hel,elsOf_elsA,rdRows_data,hW,hh2,ho,List.drop_zero,hge];exact rfl;simp only[sB,sA,putA];exact rfl) |(apply QI;simp only[go_sem]<;>exact rfl;simp only[sB,sA,putA];exact rfl) |(apply QQ;simp only[evA,gB,gA];exact rfl) |((first |apply QX |apply QY);(first |rfl |decide |assumption)))
   (apply QZ;simp(disch:=omega)only[go_sem,Try.results35];exact rfl;simp only[packA];exact rfl)
   exact⟨_,rfl,rfl⟩
 have hge:¬(100000:Int)≤(recs.length:Int):=by omega
 have hAO:=add_ok (l:=l) (h:=h) (x:=x) hV hh (by rw[hR,hC];exact ho) (by omega)
 have hixl:=bkt_lt h.toNat (b:=chs.length) (by omega)
 obtain⟨ix,hix⟩:∃ix,bkt h.toNat chs.length=ix:=⟨_,rfl⟩
 rw[hix]at hixl
 obtain⟨c,hc⟩:∃c,chs[ix]=c:=⟨_,rfl⟩
 have hcx:(rowsN chs)[ix]? =some (.dsl c.length (natsA c)):=by rw[←hc];simp[rowsN,hixl]
 have hri:∀r∈c,r<recs.length:=by rw[←hc];exact hW.r _ (List.getElem_mem hixl)
 have hcl:c.length≤100000:=by rw[←hc];exact hW.l _ (List.getElem_mem hixl)
 have hgd:chs.getD ix []=c:=by rw[←hc];simp[hixl]
 obtain⟨at_,hat⟩:∃at_,ahF recs c h=at_:=⟨_,rfl⟩
 have hatl:at_≤c.length:=by rw[←hat];exact(List.takeWhile_sublist _).length_le
 have hmin:min ((c.length:Nat):Int) (((at_:Nat):Int)+1)=((min c.length (at_+1):Nat):Int):=by omega
 obtain⟨CH1,hCH1⟩:∃CH1,chs1 recs chs h=CH1:=⟨_,rfl⟩
 obtain⟨RE,hRE⟩:∃RE,RE=recs++[(h,x)]:=⟨_,rfl⟩
 have hset0:∀m,m=recs.length→(rowsN chs).set ix (.dsl (insN c at_ m).length (natsA (insN c at_ m)))=rowsN CH1:=fun m hm=>by
  rw[←hCH1,hm];unfold chs1;rw[hix,hgd,hat,rowsN_set]
 have hCl:CH1.length=chs.length:=by rw[←hCH1];unfold chs1;simp
 have hRel:RE.length=recs.length+1:=by rw[hRE];simp
 have tn0:(0:Int).toNat=0:=rfl
 have hadd:addF l h x=raddX recs chs h x:=by rw[←hAO.e,hR,hC]
 have hd0:=hAO.d
 have hw1:=hAO.w1
 have hw2:=hAO.w2
 rw[hR,hC,←hRE,hCH1]at hd0 hw1 hw2
 rw[←hn]at hw1 hw2
 have hTE:(elsA RE).take ((recs.length+1)*2)=elsA RE:=by rw[←hRel];exact elsA_take RE
 by_cases hdv:chs.length<bkts (recs.length+1)
 ·have hWf:=hw1 hdv
  have hDl:(divC RE CH1).length=chs.length+1:=by unfold divC;simp[hCl]
  have hTC:(rowsN (divC RE CH1)).take (chs.length+1)=rowsN (divC RE CH1):=List.take_of_length_le (by rw[rowsN_len,hDl];exact Nat.le_refl _)
  have hw:addF l h x=(((min c.length (at_+1):Nat):Int)+((CH1.getD (divI chs.length) []).length:Nat),wordsF RE (divC RE CH1),0):=by
   rw[hadd];unfold raddX
   rw[if_neg ho,if_neg h100,if_pos hdv,hix,hgd,hat,hCH1,←hRE]
  rw[hw]
  have hap:elsA recs++[.sc (.int .i64 h),.sc (.int .i64 x)]=elsA RE:=by rw[hRE,elsA_append];rfl
  have hdvI:((chs.length:Nat):Int)<((bkts (recs.length+1):Nat):Int):=by omega
  have h18:=((ctS_18 _).trans (ctR_18 _)).trans (c18_at recs.length hn1)
  have hdz:¬0<recs.length→False:=fun h0=>by
   have:recs.length=0:=by omega
   rw[this]at hb hdv
   have e1:bkts 0=8:=rfl
   have e2:bkts (0+1)=8:=rfl
   omega
  have hlk:(CH1.getD (divI chs.length) []).length≤100000:=by
   rcases Nat.lt_or_ge (divI chs.length) CH1.length with hlt |hge
   ·have:CH1.getD (divI chs.length) []=CH1[divI chs.length]:=by simp[hlt]
    rw[this];exact hd0.l _ (List.getElem_mem hlt)
   ·simp[hge]
  replace hdv:=hdvI
  have hbk:bkts 1=8:=rfl
  rcases hN with⟨rfl,hN⟩ |⟨h0,hN⟩
  ·exact(hdz (by simp)).elim
  ·have hset:=hset0 _ rfl
   repeat(first |(with_reducible first |apply Q0 |apply Q1 |apply QG |apply Q2 |apply Q3 |apply Q4 |apply Q5 |apply Q6 |apply Q7 |apply Q8 |apply Q9 |apply QA |apply QB |apply QC |apply QD |apply QE |apply QF) |((first |(with_reducible apply QK rfl) |(apply QT;simp only[go_sem]<;>exact rfl));simp(disch:=omega)only[go_sem,hs,upd_ne,cal78,ctS_78,c78o,rdD_dsl,hl,hV,hR,hC,hN,cal21,ctS_21,ctR_21,c21,hh,cal79,ctS_79,c79,rdT,rdE2,rdC,hct,hcn,het,hel,elsOf_elsA,rdRows_data,hW,hh2,ho,List.drop_zero,hge,cal22,ctS_22,ctR_22,c22r,hix,hcx,cal80,ctS_80,c80,rdN_dsl,hn1,hri,hcl,hat,min33,hmin,cal81,ctS_81,c81,Int.toNat_natCast,tn0,tn1,hset,cal18,h18,hbk,hdv,cal51,ctS_51,c51o,hTE,hTC,hRel,hCl,hWf,rowsN_len,hap,cal82,ctS_82,c82,bxK,eK_ok,cK_ok,hd0,hDl];exact rfl;simp only[sB,sA,putA];exact rfl) |((first |(with_reducible apply QL rfl) |(apply QM;simp only[go_sem]<;>exact rfl));simp(disch:=omega)only[go_sem,hs,upd_ne,cal78,ctS_78,c78o,rdD_dsl,hl,hV,hR,hC,hN,cal21,ctS_21,ctR_21,c21,hh,cal79,ctS_79,c79,rdT,rdE2,rdC,hct,hcn,het,hel,elsOf_elsA,rdRows_data,hW,hh2,ho,List.drop_zero,hge,cal22,ctS_22,ctR_22,c22r,hix,hcx,cal80,ctS_80,c80,rdN_dsl,hn1,hri,hcl,hat,min33,hmin,cal81,ctS_81,c81,Int.toNat_natCast,tn0,tn1,hset,cal18,h18,hbk,hdv,cal51,ctS_51,c51o,hTE,hTC,hRel,hCl,hWf,rowsN_len,hap,cal82,ctS_82,c82,bxK,eK_ok,cK_ok,hd0,hDl];exact rfl;simp only[sB,sA,putA];exact rfl;simp only[logT_none,logT_rd,logT_wr,List.cons_append,List.nil_append];exact rfl) |((first |apply QI |apply QN);simp only[go_sem]<;>exact rfl;simp only[sB,sA,putA];exact rfl) |(refine QO ?_ ?_;first |focus(simp only[dyn_nil,dyn_cons,allY_nil,allY_cons,dj_rr,true_or,true_and];done) |focus(simp only[dyn_nil,dyn_cons,allY_nil,allY_cons,Dj,List.mem_cons,List.not_mem_nil,or_false,forall_eq,forall_eq_or_imp,and_true,true_and,false_imp_iff,implies_true];omega) |focus(simp only[dyn_nil,dyn_cons,allY_nil,allY_cons,and_true,true_and];(repeat' refine And.intro ?_ ?_);all_goals first |(left;simp only[Dj,List.mem_cons,List.not_mem_nil,or_false,forall_eq,forall_eq_or_imp,and_true,true_and,false_imp_iff,implies_true];first |done |omega) |(right;kernel_rfl))) |(apply QQ;simp only[evA,gB,gA];exact rfl) |((first |apply QX |apply QY);(first |rfl |decide |assumption)))
   (apply QZ;simp(disch:=omega)only[go_sem,Try.results35];exact rfl;simp only[packA];exact rfl)
   exact⟨_,rfl,_,_,rfl,by simp(disch:=omega)only[upd_same,upd_ne]⟩
 ·have hWf:=hw2 hdv
  have hTC:(rowsN CH1).take chs.length=rowsN CH1:=List.take_of_length_le (by rw[rowsN_len,hCl];exact Nat.le_refl _)
  have hw:addF l h x=(((min c.length (at_+1):Nat):Int),wordsF RE CH1,0):=by
   rw[hadd];unfold raddX
   rw[if_neg ho,if_neg h100,if_neg hdv,hix,hgd,hat,hCH1,←hRE]
  rw[hw]
  have hap:elsA recs++[.sc (.int .i64 h),.sc (.int .i64 x)]=elsA RE:=by rw[hRE,elsA_append];rfl
  have h18:=((ctS_18 _).trans (ctR_18 _)).trans (c18_at recs.length hn1)
  have hdvI:¬((chs.length:Nat):Int)<((bkts (recs.length+1):Nat):Int):=by omega
  replace hdv:=hdvI
  have hbk:bkts 1=8:=rfl
  rcases hN with⟨rfl,hN⟩ |⟨h0,hN⟩
  ·have hset:=hset0 0 rfl
   have h18:ctS 18 [.sc (.int .i64 (((0:Nat):Int)+1))]= .ret (.sc (.int .i64 8)):=((ctS_18 _).trans (ctR_18 _)).trans (c18_at 0 (by omega))
   have hdv:¬((chs.length:Nat):Int)<8:=by omega
   have hri:∀r∈c,r<0:=hri
   have hge:¬(100000:Int)≤0:=by decide
   have hRel:RE.length=1:=hRel
   have he1:elsOf [.sc (.int .i64 h),.sc (.int .i64 x)]=some RE:=by rw[hRE];rfl
   repeat(first |(with_reducible first |apply Q0 |apply Q1 |apply QG |apply Q2 |apply Q3 |apply Q4 |apply Q5 |apply Q6 |apply Q7 |apply Q8 |apply Q9 |apply QA |apply QB |apply QC |apply QD |apply QE |apply QF) |((first |(with_reducible apply QK rfl) |(apply QT;simp only[go_sem]<;>exact rfl));simp(disch:=omega)only[go_sem,hs,upd_ne,cal78,ctS_78,c78o,rdD_dsl,hl,hV,hR,hC,hN,cal21,ctS_21,ctR_21,c21,hh,cal79,ctS_79,c79,rdT,rdE2,rdC,hct,hcn,het,hel,elsOf_elsA,rdRows_data,hW,hh2,ho,List.drop_zero,hge,cal22,ctS_22,ctR_22,c22r,hix,hcx,cal80,ctS_80,c80,rdN_dsl,hn1,hri,hcl,hat,min33,hmin,cal81,ctS_81,c81,Int.toNat_natCast,tn0,tn1,hset,cal18,h18,hbk,hdv,cal51,ctS_51,c51o,hTE,hTC,hRel,hCl,hWf,rowsN_len,hap,he1];exact rfl;simp only[sB,sA,putA];exact rfl) |((first |(with_reducible apply QL rfl) |(apply QM;simp only[go_sem]<;>exact rfl));simp(disch:=omega)only[go_sem,hs,upd_ne,cal78,ctS_78,c78o,rdD_dsl,hl,hV,hR,hC,hN,cal21,ctS_21,ctR_21,c21,hh,cal79,ctS_79,c79,rdT,rdE2,rdC,hct,hcn,het,hel,elsOf_elsA,rdRows_data,hW,hh2,ho,List.drop_zero,hge,cal22,ctS_22,ctR_22,c22r,hix,hcx,cal80,ctS_80,c80,rdN_dsl,hn1,hri,hcl,hat,min33,hmin,cal81,ctS_81,c81,Int.toNat_natCast,tn0,tn1,hset,cal18,h18,hbk,hdv,cal51,ctS_51,c51o,hTE,hTC,hRel,hCl,hWf,rowsN_len,hap,he1];exact rfl;simp only[sB,sA,putA];exact rfl;simp only[logT_none,logT_rd,logT_wr,List.cons_append,List.nil_append];exact rfl) |((first |apply QI |apply QN);simp only[go_sem]<;>exact rfl;simp only[sB,sA,putA];exact rfl) |(refine QO ?_ ?_;first |focus(simp only[dyn_nil,dyn_cons,allY_nil,allY_cons,dj_rr,true_or,true_and];done) |focus(simp only[dyn_nil,dyn_cons,allY_nil,allY_cons,Dj,List.mem_cons,List.not_mem_nil,or_false,forall_eq,forall_eq_or_imp,and_true,true_and,false_imp_iff,implies_true];omega) |focus(simp only[dyn_nil,dyn_cons,allY_nil,allY_cons,and_true,true_and];(repeat' refine And.intro ?_ ?_);all_goals first |(left;simp only[Dj,List.mem_cons,List.not_mem_nil,or_false,forall_eq,forall_eq_or_imp,and_true,true_and,false_imp_iff,implies_true];first |done |omega) |(right;kernel_rfl))) |(apply QQ;simp only[evA,gB,gA];exact rfl) |((first |apply QX |apply QY);(first |rfl |decide |assumption)))
   (apply QZ;simp(disch:=omega)only[go_sem,Try.results35];exact rfl;simp only[packA];exact rfl)
   exact⟨_,rfl,_,_,rfl,by simp(disch:=omega)only[upd_same,upd_ne]⟩
  ·have hset:=hset0 _ rfl
   repeat(first |(with_reducible first |apply Q0 |apply Q1 |apply QG |apply Q2 |apply Q3 |apply Q4 |apply Q5 |apply Q6 |apply Q7 |apply Q8 |apply Q9 |apply QA |apply QB |apply QC |apply QD |apply QE |apply QF) |((first |(with_reducible apply QK rfl) |(apply QT;simp only[go_sem]<;>exact rfl));simp(disch:=omega)only[go_sem,hs,upd_ne,cal78,ctS_78,c78o,rdD_dsl,hl,hV,hR,hC,hN,cal21,ctS_21,ctR_21,c21,hh,cal79,ctS_79,c79,rdT,rdE2,rdC,hct,hcn,het,hel,elsOf_elsA,rdRows_data,hW,hh2,ho,List.drop_zero,hge,cal22,ctS_22,ctR_22,c22r,hix,hcx,cal80,ctS_80,c80,rdN_dsl,hn1,hri,hcl,hat,min33,hmin,cal81,ctS_81,c81,Int.toNat_natCast,tn0,tn1,hset,cal18,h18,hbk,hdv,cal51,ctS_51,c51o,hTE,hTC,hRel,hCl,hWf,rowsN_len,hap];exact rfl;simp only[sB,sA,putA];exact rfl) |((first |(with_reducible apply QL rfl) |(apply QM;simp only[go_sem]<;>exact rfl));simp(disch:=omega)only[go_sem,hs,upd_ne,cal78,ctS_78,c78o,rdD_dsl,hl,hV,hR,hC,hN,cal21,ctS_21,ctR_21,c21,hh,cal79,ctS_79,c79,rdT,rdE2,rdC,hct,hcn,het,hel,elsOf_elsA,rdRows_data,hW,hh2,ho,List.drop_zero,hge,cal22,ctS_22,ctR_22,c22r,hix,hcx,cal80,ctS_80,c80,rdN_dsl,hn1,hri,hcl,hat,min33,hmin,cal81,ctS_81,c81,Int.toNat_natCast,tn0,tn1,hset,cal18,h18,hbk,hdv,cal51,ctS_51,c51o,hTE,hTC,hRel,hCl,hWf,rowsN_len,hap];exact rfl;simp only[sB,sA,putA];exact rfl;simp only[logT_none,logT_rd,logT_wr,List.cons_append,List.nil_append];exact rfl) |((first |apply QI |apply QN);simp only[go_sem]<;>exact rfl;simp only[sB,sA,putA];exact rfl) |(refine QO ?_ ?_;first |focus(simp only[dyn_nil,dyn_cons,allY_nil,allY_cons,dj_rr,true_or,true_and];done) |focus(simp only[dyn_nil,dyn_cons,allY_nil,allY_cons,Dj,List.mem_cons,List.not_mem_nil,or_false,forall_eq,forall_eq_or_imp,and_true,true_and,false_imp_iff,implies_true];omega) |focus(simp only[dyn_nil,dyn_cons,allY_nil,allY_cons,and_true,true_and];(repeat' refine And.intro ?_ ?_);all_goals first |(left;simp only[Dj,List.mem_cons,List.not_mem_nil,or_false,forall_eq,forall_eq_or_imp,and_true,true_and,false_imp_iff,implies_true];first |done |omega) |(right;kernel_rfl))) |(apply QQ;simp only[evA,gB,gA];exact rfl) |((first |apply QX |apply QY);(first |rfl |decide |assumption)))
   (apply QZ;simp(disch:=omega)only[go_sem,Try.results35];exact rfl;simp only[packA];exact rfl)
   exact⟨_,rfl,_,_,rfl,by simp(disch:=omega)only[upd_same,upd_ne]⟩
end Go.Proofs.Ytdcomhdadnhpnaa
end
section
namespace Go.Proofs.Ytdcomhdadnhpnaa
open Go Go.Am Go.RowKit
attribute [local irreducible] wA opsQ opsLQ thenA blockA EndA
theorem putF_600 {l:List Int} {h x v:Int} (hV:¬ValidL l):putF l h x v=([],600):=putF_eq (.inl ⟨hV,rfl,rfl⟩)
set_option maxRecDepth 100000 in
set_option maxHeartbeats 4000000 in
theorem rput_ro (l:List Int) (h x v:Int) (hl:l.length≤1000000000):
  RO Try.prog 39 [.dsl l.length (ints l),.sc (.int .i64 h),.sc (.int .i64 x),.sc (.int .i64 v)] (OwnT (ansX (putF l h x v).2 (putF l h x v).1) [.int .i64 (putF l h x v).2]):=by
 refine ro_of Try.func39 rfl (fun E s hs=>?_)
 refine wA_ok hmix ctS_ok _ (by kernel_rfl) ?_
 simp(maxSteps:=300000)only[begA,Try.ntmps39,List.replicate_succ,List.replicate_zero,List.length_cons,List.length_nil,List.cons_append,List.nil_append]
 by_cases hV:ValidL l
 rotate_left
 ·rw[putF_600 hV]
  repeat(first |(with_reducible first |apply Q0 |apply Q1 |apply Q2 |apply Q3 |apply Q4 |apply Q5 |apply Q6 |apply Q7 |apply Q8 |apply Q9 |apply QA |apply QB |apply QC |apply QD |apply QE |apply QF) |((first |(with_reducible apply QK rfl) |(apply QT;simp only[go_sem]<;>exact rfl));simp(disch:=omega)only[go_sem,hs,upd_ne,cal78,ctS_78,c78o,rdD_dsl,hl,hV];exact rfl;simp only[sB,sA,putA];exact rfl) |(apply QI;simp only[go_sem]<;>exact rfl;simp only[sB,sA,putA];exact rfl) |(apply QQ;simp only[evA,gB,gA];exact rfl) |((first |apply QX |apply QY);(first |rfl |decide |assumption)))
  (apply QZ;simp(disch:=omega)only[go_sem,Try.results39];exact rfl;simp only[packA];exact rfl)
  exact⟨_,rfl,rfl⟩
 have hW:=wok_valid hV
 have hn1:=hW.n
 have hcr:=fun hh:okH h=>(put_of (v:=v) (x:=x) hV hh)
 have hor:=of_rec (h:=h) (x:=x) hV
 have how:=of_wds (h:=h) (x:=x) hV
 have hov:=of_wds (h:=h) (x:=v) hV
 obtain⟨recs,hR⟩:∃recs,recs=recsT l:=⟨_,rfl⟩
 obtain⟨chs,hC⟩:∃chs,chs=chsT l:=⟨_,rfl⟩
 rw[←hR,←hC]at hW hcr hor how hov
 rw[←hR]at hn1
 replace hR:=hR.symm
 replace hC:=hC.symm
 have hcn:(rowsN chs).length=chs.length:=rowsN_len _
 have hct:(rowsN chs).take chs.length=rowsN chs:=List.take_of_length_le (by rw[rowsN_len];exact Nat.le_refl _)
 have het:=elsA_take recs
 have hel:=elsA_len recs
 have hN:(recs=[]∧∀k,newE recs k=k (.sc (.slice none 0 0)))∨(0<recs.length∧∀k,newE recs k= .new (.row 0 2 (elsA recs)) fun n=>k (.sl n 0 0 recs.length)):=by
  by_cases h0:recs.length=0
  ·obtain rfl:=List.length_eq_zero_iff.1 h0
   exact .inl ⟨rfl,fun k=>rfl⟩
  ·exact .inr ⟨by omega,fun k=>if_neg h0⟩
 by_cases hh:¬(0≤h∧h≤2147483647)
 ·rw[putF_bad hV hh]
  rcases hN with⟨rfl,hN⟩ |⟨h0,hN⟩
  all_goals
   repeat(first |(with_reducible first |apply Q0 |apply Q1 |apply Q2 |apply Q3 |apply Q4 |apply Q5 |apply Q6 |apply Q7 |apply Q8 |apply Q9 |apply QA |apply QB |apply QC |apply QD |apply QE |apply QF) |((first |(with_reducible apply QK rfl) |(apply QT;simp only[go_sem]<;>exact rfl));simp(disch:=omega)only[go_sem,hs,upd_ne,cal78,ctS_78,c78o,rdD_dsl,hl,hV,hR,hC,hN,cal21,ctS_21,ctR_21,c21,hh];exact rfl;simp only[sB,sA,putA];exact rfl) |(apply QI;simp only[go_sem]<;>exact rfl;simp only[sB,sA,putA];exact rfl) |(apply QQ;simp only[evA,gB,gA];exact rfl) |((first |apply QX |apply QY);(first |rfl |decide |assumption)))
   (apply QZ;simp(disch:=omega)only[go_sem,Try.results39];exact rfl;simp only[packA];exact rfl)
   exact⟨_,rfl,rfl⟩
 replace hh:0≤h∧h≤2147483647:=Decidable.not_not.1 hh
 have hh2:h≤4294967296:=by omega
 by_cases ho:0≤ofF recs chs (h,x)
 rotate_left
 ·have hol:ofF recs chs (h,x)<0:=by omega
  rw[putF_none hV hh (mt how.2 ho)]
  rcases hN with⟨rfl,hN⟩ |⟨h0,hN⟩
  all_goals
   repeat(first |(with_reducible first |apply Q0 |apply Q1 |apply Q2 |apply Q3 |apply Q4 |apply Q5 |apply Q6 |apply Q7 |apply Q8 |apply Q9 |apply QA |apply QB |apply QC |apply QD |apply QE |apply QF) |((first |(with_reducible apply QK rfl) |(apply QT;simp only[go_sem]<;>exact rfl));simp(disch:=omega)only[go_sem,hs,upd_ne,cal78,ctS_78,c78o,rdD_dsl,hl,hV,hR,hC,hN,cal21,ctS_21,ctR_21,c21,hh,cal79,ctS_79,c79,rdT,rdE2,rdC,hct,hcn,het,hel,elsOf_elsA,rdRows_data,hW,hh2,hol,List.drop_zero];exact rfl;simp only[sB,sA,putA];exact rfl) |(apply QI;simp only[go_sem]<;>exact rfl;simp only[sB,sA,putA];exact rfl) |(apply QQ;simp only[evA,gB,gA];exact rfl) |((first |apply QX |apply QY);(first |rfl |decide |assumption)))
   (apply QZ;simp(disch:=omega)only[go_sem,Try.results39];exact rfl;simp only[packA];exact rfl)
   exact⟨_,rfl,rfl⟩
 obtain⟨r,e1,e2,e3,e4⟩:=hor ho
 have hnl:¬((r:Nat):Int)<0:=by omega
 have e5:recs[r]=(h,x):=by rw[←e3];simp[e2]
 rcases hN with⟨rfl,hN⟩ |⟨h0,hN⟩
 ·simp at e2
 by_cases hb:v≠x∧0≤ofF recs chs (h,v)
 ·rw[putF_twice hV hh (how.1 ho) hb.1 (hov.1 hb.2)]
  have hb1:=hb.1
  have hb2:=hb.2
  repeat(first |(with_reducible first |apply Q0 |apply Q1 |apply Q2 |apply Q3 |apply Q4 |apply Q5 |apply Q6 |apply Q7 |apply Q8 |apply Q9 |apply QA |apply QB |apply QC |apply QD |apply QE |apply QF) |((first |(with_reducible apply QK rfl) |(apply QT;simp only[go_sem]<;>exact rfl));simp(disch:=omega)only[go_sem,hs,upd_ne,cal78,ctS_78,c78o,rdD_dsl,hl,hV,hR,hC,hN,cal21,ctS_21,ctR_21,c21,hh,cal79,ctS_79,c79,rdT,rdE2,rdC,hct,hcn,het,hel,elsOf_elsA,rdRows_data,hW,hh2,e1,hnl,List.drop_zero,hb1,hb2];exact rfl;simp only[sB,sA,putA];exact rfl) |(apply QI;simp only[go_sem]<;>exact rfl;simp only[sB,sA,putA];exact rfl) |(apply QQ;simp only[evA,gB,gA];exact rfl) |((first |apply QX |apply QY);(first |rfl |decide |assumption)))
  (apply QZ;simp(disch:=omega)only[go_sem,Try.results39];exact rfl;simp only[packA];exact rfl)
  exact⟨_,rfl,rfl⟩
 have hbo:v=x∨¬0≤ofF recs chs (h,v):=by
  rcases Decidable.em (v=x)with e |e
  ·exact .inl e
  ·exact .inr (fun k=>hb ⟨e,k⟩)
 obtain⟨hw,hWf⟩:=hcr hh ho hbo e1
 rw[hw]
 have hset:(elsA recs).set (r*2+1) (.sc (.int .i64 v))=elsA (recs.set r (h,v)):=by rw[elsA_set1 v e2,e5]
 obtain⟨RE,hRE⟩:∃RE,RE=recs.set r (h,v):=⟨_,rfl⟩
 rw[←hRE]at hset hWf
 rw[←hRE]
 have hRel:RE.length=recs.length:=by rw[hRE];simp
 have hTE:(elsA RE).take (recs.length*2)=elsA RE:=by rw[←hRel];exact elsA_take RE
 by_cases hb1:v=x
 ·subst hb1
  repeat(first |(with_reducible first |apply Q0 |apply Q1 |apply Q2 |apply Q3 |apply Q4 |apply Q5 |apply Q6 |apply Q7 |apply Q8 |apply Q9 |apply QA |apply QB |apply QC |apply QD |apply QE |apply QF) |((first |(with_reducible apply QK rfl) |(apply QT;simp only[go_sem]<;>exact rfl));simp(disch:=omega)only[go_sem,hs,upd_ne,cal78,ctS_78,c78o,rdD_dsl,hl,hV,hR,hC,hN,cal21,ctS_21,ctR_21,c21,hh,cal79,ctS_79,c79,rdT,rdE2,rdC,hct,hcn,het,hel,elsOf_elsA,rdRows_data,hW,hh2,e1,hnl,List.drop_zero,hset,cal51,ctS_51,c51o,hTE,hRel,hWf];exact rfl;simp only[sB,sA,putA];exact rfl) |(apply QI;simp only[go_sem]<;>exact rfl;simp only[sB,sA,putA];exact rfl) |(apply QQ;simp only[evA,gB,gA];exact rfl) |((first |apply QX |apply QY);(first |rfl |decide |assumption)))
  (apply QZ;simp(disch:=omega)only[go_sem,Try.results39];exact rfl;simp only[packA];exact rfl)
  exact⟨_,rfl,_,_,rfl,by simp(disch:=omega)only[upd_same,upd_ne]⟩
 ·have hb2:¬0≤ofF recs chs (h,v):=hbo.resolve_left hb1
  repeat(first |(with_reducible first |apply Q0 |apply Q1 |apply Q2 |apply Q3 |apply Q4 |apply Q5 |apply Q6 |apply Q7 |apply Q8 |apply Q9 |apply QA |apply QB |apply QC |apply QD |apply QE |apply QF) |((first |(with_reducible apply QK rfl) |(apply QT;simp only[go_sem]<;>exact rfl));simp(disch:=omega)only[go_sem,hs,upd_ne,cal78,ctS_78,c78o,rdD_dsl,hl,hV,hR,hC,hN,cal21,ctS_21,ctR_21,c21,hh,cal79,ctS_79,c79,rdT,rdE2,rdC,hct,hcn,het,hel,elsOf_elsA,rdRows_data,hW,hh2,e1,hnl,List.drop_zero,hb1,hb2,hset,cal51,ctS_51,c51o,hTE,hRel,hWf];exact rfl;simp only[sB,sA,putA];exact rfl) |(apply QI;simp only[go_sem]<;>exact rfl;simp only[sB,sA,putA];exact rfl) |(apply QQ;simp only[evA,gB,gA];exact rfl) |((first |apply QX |apply QY);(first |rfl |decide |assumption)))
  (apply QZ;simp(disch:=omega)only[go_sem,Try.results39];exact rfl;simp only[packA];exact rfl)
  exact⟨_,rfl,_,_,rfl,by simp(disch:=omega)only[upd_same,upd_ne]⟩
end Go.Proofs.Ytdcomhdadnhpnaa
end
section
namespace Go.Proofs.Ytdcomhdadnhpnaa
open Go Go.Am Go.RowKit
attribute [local irreducible] wA opsQ opsLQ thenA blockA EndA
def ascK (mv:List (Int×Int)) (n:Nat):Prop:=∀k,k+1<n→∀h:k+1<mv.length,(mv[k]).1<(mv[k+1]).1
theorem ascK_new {mv:List (Int×Int)} {k:Nat} (hk:k<mv.length) (h:ascK mv (k+1)):mv[k].1∉(mv.take k).map (·.1):=by
 have key:∀j m:Nat,j+m+1≤k→∀(h1:j+m+1<mv.length),mv[j].1<mv[j+m+1].1:=by
  intro j m
  induction m with
  |zero=>intro h1 h2;exact h j (by omega) h2
  |succ m ih=>intro h1 h2;exact Int.lt_trans (ih (by omega) (by omega)) (h (j+m+1) (by omega) h2)
 intro hm
 obtain⟨e,he,e2⟩:=List.mem_map.1 hm
 obtain⟨j,hj,rfl⟩:=List.mem_iff_getElem.1 he
 rw[List.length_take]at hj
 rw[List.getElem_take]at e2
 have:=key j (k-j-1) (by omega) (by omega)
 simp only[show j+(k-j-1)+1=k by omega]at this
 omega
def mvE (mv:List (Int×Int)) (e:Int×Int):Int×Int:=(e.1,(mget mv e.2).getD e.2)
def mvK (mv recs:List (Int×Int)) (k:Nat):List (Int×Int):=(recs.take k).map (mvE mv)++recs.drop k
theorem mvK_len (mv recs:List (Int×Int)) (k:Nat):(mvK mv recs k).length=recs.length:=by simp[mvK];omega
theorem mvK_get {mv recs:List (Int×Int)} {k:Nat} (h:k<recs.length):(mvK mv recs k)[k]'(by rw[mvK_len];exact h)=recs[k]:=by
 unfold mvK
 rw[List.getElem_append_right (by simp;omega)]
 simp[Nat.min_eq_left (Nat.le_of_lt h)]
theorem mvK_succ {mv recs:List (Int×Int)} {k:Nat} (h:k<recs.length):mvK mv recs (k+1)=(mvK mv recs k).set k (mvE mv recs[k]):=by
 unfold mvK
 have hl:((recs.take k).map (mvE mv)).length=k:=by simp;omega
 rw[List.take_succ_eq_append_getElem h,List.map_append,List.append_assoc,List.set_append,if_neg (by omega)]
 congr 1
 rw[hl,Nat.sub_self,List.drop_eq_getElem_cons h,List.set_cons_zero]
 rfl
theorem mvK_all (mv recs:List (Int×Int)):mvK mv recs recs.length=recs.map (mvE mv):=by simp[mvK]
open Classical in
/-- what the reference's Move answers -/
noncomputable def rmoveX (recs:List (Int×Int)) (chs:List (List Nat)) (mv:List (Int×Int)):List Int×Int:=
 if ¬ascK mv mv.length then([],1)
 else if ∀i,i<chs.length→srtF i chs.length none [] (elsOfC (recs.map (mvE mv)) (chs.getD i []))=true then(wordsF (recs.map (mvE mv)) chs,0)else([],6)
open Classical in
noncomputable def rmoveF (l:List Int) (mv:List (Int×Int)):List Int×Int:=
 if ¬ValidL l then([],600)else rmoveX (recsT l) (chsT l) mv
theorem elsA_at0 {L:List (Int×Int)} {k:Nat} (h:k<L.length):(elsA L)[k*2]? =some (.sc (.int .i64 L[k].1)):=by
 have:=elsA_drop h
 rw[←List.head?_drop,this];rfl
theorem elsA_at1 {L:List (Int×Int)} {k:Nat} (h:k<L.length):(elsA L)[k*2+1]? =some (.sc (.int .i64 L[k].2)):=by
 have:=elsA_drop h
 have h2:(elsA L).drop (k*2+1)=((elsA L).drop (k*2)).drop 1:=by rw[List.drop_drop]
 rw[←List.head?_drop,h2,this];rfl
theorem ctR_96 (a:List AV):ctR 96 a=c96 a:=rfl
theorem mget_none {mv:List (Int×Int)} {x:Int} (h:mget mv x=none) (k:Int):mvE mv (k,x)=(k,x):=by unfold mvE;simp[h]
set_option maxRecDepth 100000 in
set_option maxHeartbeats 8000000 in
theorem rmove_walk (l:List Int) (mv:List (Int×Int)) (hl:l.length≤1000000000) (ht:mv.length≤1000000000) (E:Ent) (s:Nat) (hs:∀q,s≤q→E.H q=none) (A:AV)
  (hA:A= .dsl mv.length (elsA mv)∨∃nm ver,A= .sl nm ver 0 mv.length∧E.H nm=some (.row ver 2 (elsA mv))) (R:AV→AHp→Prop)
  (hR:∀H1 X,(∀q,q<s→H1 q=E.H q)→OwnX (ansX (rmoveF l mv).2 (rmoveF l mv).1) X H1→R (.tup [X,.sc (.int .i64 (rmoveF l mv).2)]) H1):
  wA Try.prog E ctS Try.f57.body.get! (begA Try.f57 [.dsl l.length (ints l),A]) E.H s (EndA Try.prog Try.f57 R):=by
 simp(maxSteps:=300000)only[begA,Try.ntmps57,List.replicate_succ,List.replicate_zero,List.length_cons,List.length_nil,List.cons_append,List.nil_append]
 simp only[Try.f57,Option.get!_some]
 by_cases hV:ValidL l
 rotate_left
 ·have hw:rmoveF l mv=([],600):=by unfold rmoveF;rw[if_pos hV]
  rw[hw]at hR
  repeat(first |(with_reducible first |apply Q0 |apply Q1 |apply Q2 |apply Q3 |apply Q4 |apply Q5 |apply Q6 |apply Q7 |apply Q8 |apply Q9 |apply QA |apply QB |apply QC |apply QD |apply QE |apply QF) |((first |(with_reducible apply QK rfl) |(apply QT;simp only[go_sem]<;>exact rfl));simp(disch:=omega)only[go_sem,hs,upd_ne,cal78,ctS_78,c78o,rdD_dsl,hl,hV];exact rfl;simp only[sB,sA,putA];exact rfl) |(apply QI;simp only[go_sem]<;>exact rfl;simp only[sB,sA,putA];exact rfl) |(apply QQ;simp only[evA,gB,gA];exact rfl) |((first |apply QX |apply QY);(first |rfl |decide |assumption)))
  (apply QZ;simp(disch:=omega)only[go_sem,Try.results57];exact rfl;simp only[packA];exact rfl)
  exact hR _ _ (fun q hq=>by simp(disch:=omega)only[upd_ne]) rfl
 have hW:=wok_valid hV
 have hn1:=hW.n
 have hb:=hW.b
 have hb8:=bkts8 (recsT l).length
 have hbl:=bkts_le (recsT l).length (by omega)
 have hdef:rmoveF l mv=rmoveX (recsT l) (chsT l) mv:=by unfold rmoveF;rw[if_neg (by simpa using hV)]
 obtain⟨recs,hR'⟩:∃recs,recs=recsT l:=⟨_,rfl⟩
 obtain⟨chs,hC⟩:∃chs,chs=chsT l:=⟨_,rfl⟩
 rw[←hR',←hC]at hdef hW hb
 rw[←hR']at hn1 hb8 hbl
 replace hR':=hR'.symm
 replace hC:=hC.symm
 rw[←hb]at hb8 hbl
 have hAl:∀nm ver,A= .sl nm ver 0 mv.length→E.H nm=some (.row ver 2 (elsA mv))→nm<s:=fun nm ver _ h=>Nat.lt_of_not_le fun k=>by rw[hs nm k]at h;cases h
 have hN:(recs=[]∧∀k,newE recs k=k (.sc (.slice none 0 0)))∨(0<recs.length∧∀k,newE recs k= .new (.row 0 2 (elsA recs)) fun n=>k (.sl n 0 0 recs.length)):=by
  by_cases h0:recs.length=0
  ·obtain rfl:=List.length_eq_zero_iff.1 h0
   exact .inl ⟨rfl,fun k=>rfl⟩
  ·exact .inr ⟨by omega,fun k=>if_neg h0⟩
 have hkeep:∀ {nm:Nat} {o:AO} {H:AHp},(∀q,q<s→H q=E.H q)→E.H nm=some o→H nm=some o:=fun h1 h2=>by
  rw[h1 _ (Nat.lt_of_not_le fun k=>by rw[hs _ k]at h2;cases h2)];exact h2
 let I1:List AV→AHp→Nat→Nat→Prop:=fun Γ H s' m=>∃(k p nm2 mp:Nat) (v1:AV),k≤mv.length∧m=mv.length-k∧Γ=(List.replicate 1 .junk)++[A]++(List.replicate 4 .junk)++[.ptr p 0 0]++(List.replicate 1 .junk)++[.mp mp 0,.sc (.int .i64 (k:Nat))]++(List.replicate 85 .junk)∧
  ascK mv k∧H p=some (.row 0 1 [v1,.sl nm2 0 0 chs.length])∧H nm2=some (.row 0 1 (rowsN chs))∧H mp=some (.mapo 0 (entM (mv.take k)) k)∧RowE s 2 v1 H s' (elsA recs) recs.length∧
  p≠nm2∧s≤p∧s≤nm2∧s≤mp∧p<s'∧nm2<s'∧mp<s'∧s≤s'∧(∀q,s'≤q→H q=none)∧∀q,q<s→H q=E.H q
 rcases hN with⟨hr0,hN⟩ |⟨h0,hN⟩
 case' inl=>
  repeat(first |(with_reducible first |apply Q0 |apply Q1 |apply Q2 |apply Q3 |apply Q4 |apply Q5 |apply Q6 |apply Q7 |apply Q8 |apply Q9 |apply QA |apply QB |apply QC |apply QD |apply QE |apply QF) |((first |(with_reducible apply QK rfl) |(apply QT;simp only[go_sem]<;>exact rfl));simp(disch:=omega)only[go_sem,hs,upd_ne,cal78,ctS_78,c78o,rdD_dsl,hl,hV,hR',hC,hN,aMakeMap];exact rfl;simp only[sB,sA,putA];exact rfl) |(apply QI;simp only[go_sem]<;>exact rfl;simp only[sB,sA,putA];exact rfl) |(apply QQ;simp only[evA,gB,gA];exact rfl) |((first |apply QX |apply QY);(first |rfl |decide |assumption)))
  refine AWp.loop [1,6,8,9] I1 mv.length ?_ ?_
  ·refine⟨0,s+1,s,s+1+1,_,Nat.zero_le _,rfl,rfl,fun k h1=>absurd h1 (by omega),?_,?_,?_,.inl ⟨by rw[hr0];rfl,by rw[hr0];rfl,rfl⟩,by omega,by omega,by omega,by omega,by omega,by omega,by omega,by omega,fun q hq=>?_,fun q hq=>by simp(disch:=omega)only[upd_ne]⟩
   ·simp(disch:=omega)only[upd_ne,upd_same]
   ·simp(disch:=omega)only[upd_ne,upd_same]
   ·simp(disch:=omega)only[upd_ne,upd_same];rfl
   ·simp(disch:=omega)only[upd_ne];exact hs q (by omega)
 case' inr=>
  repeat(first |(with_reducible first |apply Q0 |apply Q1 |apply Q2 |apply Q3 |apply Q4 |apply Q5 |apply Q6 |apply Q7 |apply Q8 |apply Q9 |apply QA |apply QB |apply QC |apply QD |apply QE |apply QF) |((first |(with_reducible apply QK rfl) |(apply QT;simp only[go_sem]<;>exact rfl));simp(disch:=omega)only[go_sem,hs,upd_ne,cal78,ctS_78,c78o,rdD_dsl,hl,hV,hR',hC,hN,aMakeMap];exact rfl;simp only[sB,sA,putA];exact rfl) |(apply QI;simp only[go_sem]<;>exact rfl;simp only[sB,sA,putA];exact rfl) |(apply QQ;simp only[evA,gB,gA];exact rfl) |((first |apply QX |apply QY);(first |rfl |decide |assumption)))
  refine AWp.loop [1,6,8,9] I1 mv.length ?_ ?_
  ·refine⟨0,s+1+1,s+1,s+1+1+1,_,Nat.zero_le _,rfl,rfl,fun k h1=>absurd h1 (by omega),?_,?_,?_,.inr ⟨s,0,h0,rfl,?_,by omega,by omega⟩,by omega,by omega,by omega,by omega,by omega,by omega,by omega,by omega,fun q hq=>?_,fun q hq=>by simp(disch:=omega)only[upd_ne]⟩
   ·simp(disch:=omega)only[upd_ne,upd_same]
   ·simp(disch:=omega)only[upd_ne,upd_same]
   ·simp(disch:=omega)only[upd_ne,upd_same];rfl
   ·simp(disch:=omega)only[upd_ne,upd_same]
   ·simp(disch:=omega)only[upd_ne];exact hs q (by omega)
 all_goals
  rintro Γ H s1 m ⟨k,p,nm2,mp,v1,hk,rfl,rfl,hasc,hHp,hH2,hHm,hv1,hpn,hp0,hn0,hm0,hp1,hn2,hm1,hs1,hf,hE⟩
  refine wA_ok hmix ctS_ok _ (by kernel_rfl) ?_
  simp(maxSteps:=1000000)only[List.replicate_succ,List.replicate_zero,List.cons_append,List.nil_append,List.append_nil]
  by_cases hlt:k<mv.length
  ·obtain⟨M,hM⟩:∃M,M=entM (mv.take k):=⟨_,rfl⟩
   have hkl:(mv.take k).length=k:=by rw[List.length_take];omega
   have hup:ascK mv (k+1)→upK mp mv[k].1 (.sc (.int .i64 mv[k].2)) (.mapo 0 M k)= .set mp (.mapo 0 (entM (mv.take (k+1))) (k+1)) (.ret (.sc undef)):=fun ha=>by
    have h:=upK_new (n:=mp) (y:=mv[k].2) (ascK_new hlt ha)
    rw[←List.take_succ_eq_append_getElem hlt,hkl]at h
    rw[hM,h,List.length_take,Nat.min_eq_left (by omega)]
   rw[←hM]at hHm
   have hat0:=elsA_at0 hlt
   have hat1:=elsA_at1 hlt
   have hml:=elsA_len mv
   have hkt:((k:Nat):Int).toNat=k:=Int.toNat_natCast _
   have hk1:(((k:Nat):Int)-1).toNat=k-1:=by omega
   have nxt:∀(H1:AHp) (s2:Nat),ascK mv (k+1)→s2=s1→H1=upd H mp (.mapo 0 (entM (mv.take (k+1))) (k+1))→I1 ((List.replicate 1 .junk)++[A]++(List.replicate 4 .junk)++[.ptr p 0 0]++(List.replicate 1 .junk)++[.mp mp 0,.sc (.int .i64 ((k+1:Nat):Int))]++(List.replicate 85 .junk)) H1 s2 (mv.length-(k+1)):=fun H1 s2 ha e1 e2=>by
    subst e1;subst e2
    have d1:p≠mp:=fun e=>by rw[e,hHm]at hHp;cases hHp
    have d2:nm2≠mp:=fun e=>by rw[e,hHm]at hH2;cases hH2
    have d3:∀nm ver n,v1= .sl nm ver 0 n→nm≠mp:=fun nm ver n e e2=>by
     rcases hv1 with⟨_,_,e3⟩ |⟨nm',ver',_,e3,k1,_⟩
     ·rw[e3]at e;cases e
     ·rw[e3]at e;cases e;rw[e2,hHm]at k1;cases k1
    exact⟨k+1,p,nm2,mp,v1,by omega,rfl,rfl,ha,by rw[upd_ne _ _ d1];exact hHp,by rw[upd_ne _ _ d2];exact hH2,upd_same _ _ _,hv1.upd_off d3 (Nat.le_refl _),hpn,hp0,hn0,hm0,hp1,hn2,hm1,hs1,fun q hq=>by rw[upd_ne _ _ (by omega)];exact hf q hq,fun q hq=>by rw[upd_ne _ _ (by omega)];exact hE q hq⟩
   by_cases hk0:0<k
   ·obtain⟨j,rfl⟩:∃j,k=j+1:=⟨k-1,by omega⟩
    have hkI:(0:Int)<((j+1:Nat):Int):=by omega
    have hk2:(((j+1:Nat):Int)-1).toNat=j:=by omega
    have hjl:j<mv.length:=by omega
    have hat2:=elsA_at0 hjl
    by_cases hc:mv[j].1<mv[j+1].1
    ·have ha:ascK mv (j+1+1):=fun i hi h=>by
      by_cases e:i=j
      ·subst e;exact hc
      ·exact hasc i (by omega) h
     have hup':=hup ha
     have hc2:¬mv[j+1].1≤mv[j].1:=by omega
     rcases hA with rfl |⟨nA,vA,rfl,hAE⟩
     ·repeat(first |(with_reducible first |apply Q0 |apply Q1 |apply QG |apply Q2 |apply Q3 |apply Q4 |apply Q5 |apply Q6 |apply Q7 |apply Q8 |apply Q9 |apply QA |apply QB |apply QC |apply QD |apply QE |apply QF) |((first |(with_reducible apply QK rfl) |(apply QT;simp only[go_sem]<;>exact rfl));simp(disch:=omega)only[go_sem,hf,upd_ne,hHm,elsA_len,elsA_drop,hkI,hk2,hc,hc2,tn1,up120,hup'];exact rfl;simp only[sB,sA,putA];exact rfl) |((first |(with_reducible apply QL rfl) |(apply QM;simp only[go_sem]<;>exact rfl));simp(disch:=omega)only[go_sem,hf,upd_ne,hHm,elsA_len,elsA_drop,hkI,hk2,hc,hc2,tn1,up120,hup'];exact rfl;simp only[sB,sA,putA];exact rfl;simp only[logT_none,logT_rd,logT_wr,List.cons_append,List.nil_append];exact rfl) |((first |apply QI |apply QN);simp only[go_sem]<;>exact rfl;simp only[sB,sA,putA];exact rfl) |(refine QO ?_ ?_;first |focus(simp only[dyn_nil,dyn_cons,allY_nil,allY_cons,dj_rr,true_or,true_and];done) |focus(simp only[dyn_nil,dyn_cons,allY_nil,allY_cons,Dj,List.mem_cons,List.not_mem_nil,or_false,forall_eq,forall_eq_or_imp,and_true,true_and,false_imp_iff,implies_true];omega) |focus(simp only[dyn_nil,dyn_cons,allY_nil,allY_cons,and_true,true_and];(repeat' refine And.intro ?_ ?_);all_goals first |(left;simp only[Dj,List.mem_cons,List.not_mem_nil,or_false,forall_eq,forall_eq_or_imp,and_true,true_and,false_imp_iff,implies_true];first |done |omega) |(right;kernel_rfl))) |(apply QQ;simp only[evA,gB,gA];exact rfl) |((first |apply QX |apply QY);(first |rfl |decide |assumption)))
      exact⟨_,by omega,nxt _ _ ha rfl rfl⟩
     ·have hHA:=hkeep hE hAE
      repeat(first |(with_reducible first |apply Q0 |apply Q1 |apply QG |apply Q2 |apply Q3 |apply Q4 |apply Q5 |apply Q6 |apply Q7 |apply Q8 |apply Q9 |apply QA |apply QB |apply QC |apply QD |apply QE |apply QF) |((first |(with_reducible apply QK rfl) |(apply QT;simp only[go_sem]<;>exact rfl));simp(disch:=omega)only[go_sem,hf,upd_ne,hHm,hHA,hat0,hat1,hat2,hml,hkI,hk2,hc,hc2,tn1,up120,hup'];exact rfl;simp only[sB,sA,putA];exact rfl) |((first |(with_reducible apply QL rfl) |(apply QM;simp only[go_sem]<;>exact rfl));simp(disch:=omega)only[go_sem,hf,upd_ne,hHm,hHA,hat0,hat1,hat2,hml,hkI,hk2,hc,hc2,tn1,up120,hup'];exact rfl;simp only[sB,sA,putA];exact rfl;simp only[logT_none,logT_rd,logT_wr,List.cons_append,List.nil_append];exact rfl) |((first |apply QI |apply QN);simp only[go_sem]<;>exact rfl;simp only[sB,sA,putA];exact rfl) |(refine QO ?_ ?_;first |focus(simp only[dyn_nil,dyn_cons,allY_nil,allY_cons,dj_rr,true_or,true_and];done) |focus(simp only[dyn_nil,dyn_cons,allY_nil,allY_cons,Dj,List.mem_cons,List.not_mem_nil,or_false,forall_eq,forall_eq_or_imp,and_true,true_and,false_imp_iff,implies_true];omega) |focus(simp only[dyn_nil,dyn_cons,allY_nil,allY_cons,and_true,true_and];(repeat' refine And.intro ?_ ?_);all_goals first |(left;simp only[Dj,List.mem_cons,List.not_mem_nil,or_false,forall_eq,forall_eq_or_imp,and_true,true_and,false_imp_iff,implies_true];first |done |omega) |(right;kernel_rfl))) |(apply QQ;simp only[evA,gB,gA];exact rfl) |((first |apply QX |apply QY);(first |rfl |decide |assumption)))
      exact⟨_,by omega,nxt _ _ ha rfl rfl⟩
    ·have hc2:mv[j+1].1≤mv[j].1:=by omega
     have hw:rmoveF l mv=([],1):=by
      rw[hdef];unfold rmoveX
      rw[if_pos (fun ha=>hc (ha j (by omega) hlt))]
     rw[hw]at hR
     rcases hA with rfl |⟨nA,vA,rfl,hAE⟩
     ·repeat(first |(with_reducible first |apply Q0 |apply Q1 |apply QG |apply Q2 |apply Q3 |apply Q4 |apply Q5 |apply Q6 |apply Q7 |apply Q8 |apply Q9 |apply QA |apply QB |apply QC |apply QD |apply QE |apply QF) |((first |(with_reducible apply QK rfl) |(apply QT;simp only[go_sem]<;>exact rfl));simp(disch:=omega)only[go_sem,hf,upd_ne,hHm,elsA_len,elsA_drop,hkI,hk2,hc,hc2,tn1];exact rfl;simp only[sB,sA,putA];exact rfl) |((first |(with_reducible apply QL rfl) |(apply QM;simp only[go_sem]<;>exact rfl));simp(disch:=omega)only[go_sem,hf,upd_ne,hHm,elsA_len,elsA_drop,hkI,hk2,hc,hc2,tn1];exact rfl;simp only[sB,sA,putA];exact rfl;simp only[logT_none,logT_rd,logT_wr,List.cons_append,List.nil_append];exact rfl) |((first |apply QI |apply QN);simp only[go_sem]<;>exact rfl;simp only[sB,sA,putA];exact rfl) |(refine QO ?_ ?_;first |focus(simp only[dyn_nil,dyn_cons,allY_nil,allY_cons,dj_rr,true_or,true_and];done) |focus(simp only[dyn_nil,dyn_cons,allY_nil,allY_cons,Dj,List.mem_cons,List.not_mem_nil,or_false,forall_eq,forall_eq_or_imp,and_true,true_and,false_imp_iff,implies_true];omega) |focus(simp only[dyn_nil,dyn_cons,allY_nil,allY_cons,and_true,true_and];(repeat' refine And.intro ?_ ?_);all_goals first |(left;simp only[Dj,List.mem_cons,List.not_mem_nil,or_false,forall_eq,forall_eq_or_imp,and_true,true_and,false_imp_iff,implies_true];first |done |omega) |(right;kernel_rfl))) |(apply QQ;simp only[evA,gB,gA];exact rfl) |((first |apply QX |apply QY);(first |rfl |decide |assumption)))
      (apply QZ;simp(disch:=omega)only[go_sem,Try.results57];exact rfl;simp only[packA];exact rfl)
      exact hR _ _ (fun q hq=>hE q hq) rfl
     ·have hHA:=hkeep hE hAE
      repeat(first |(with_reducible first |apply Q0 |apply Q1 |apply QG |apply Q2 |apply Q3 |apply Q4 |apply Q5 |apply Q6 |apply Q7 |apply Q8 |apply Q9 |apply QA |apply QB |apply QC |apply QD |apply QE |apply QF) |((first |(with_reducible apply QK rfl) |(apply QT;simp only[go_sem]<;>exact rfl));simp(disch:=omega)only[go_sem,hf,upd_ne,hHm,hHA,hat0,hat1,hat2,hml,hkI,hk2,hc,hc2,tn1];exact rfl;simp only[sB,sA,putA];exact rfl) |((first |(with_reducible apply QL rfl) |(apply QM;simp only[go_sem]<;>exact rfl));simp(disch:=omega)only[go_sem,hf,upd_ne,hHm,hHA,hat0,hat1,hat2,hml,hkI,hk2,hc,hc2,tn1];exact rfl;simp only[sB,sA,putA];exact rfl;simp only[logT_none,logT_rd,logT_wr,List.cons_append,List.nil_append];exact rfl) |((first |apply QI |apply QN);simp only[go_sem]<;>exact rfl;simp only[sB,sA,putA];exact rfl) |(refine QO ?_ ?_;first |focus(simp only[dyn_nil,dyn_cons,allY_nil,allY_cons,dj_rr,true_or,true_and];done) |focus(simp only[dyn_nil,dyn_cons,allY_nil,allY_cons,Dj,List.mem_cons,List.not_mem_nil,or_false,forall_eq,forall_eq_or_imp,and_true,true_and,false_imp_iff,implies_true];omega) |focus(simp only[dyn_nil,dyn_cons,allY_nil,allY_cons,and_true,true_and];(repeat' refine And.intro ?_ ?_);all_goals first |(left;simp only[Dj,List.mem_cons,List.not_mem_nil,or_false,forall_eq,forall_eq_or_imp,and_true,true_and,false_imp_iff,implies_true];first |done |omega) |(right;kernel_rfl))) |(apply QQ;simp only[evA,gB,gA];exact rfl) |((first |apply QX |apply QY);(first |rfl |decide |assumption)))
      (apply QZ;simp(disch:=omega)only[go_sem,Try.results57];exact rfl;simp only[packA];exact rfl)
      exact hR _ _ (fun q hq=>hE q hq) rfl
   ·have hkI:¬(0:Int)<((k:Nat):Int):=by omega
    have ha:ascK mv (k+1):=fun i hi h=>absurd hi (by omega)
    have hup':=hup ha
    rcases hA with rfl |⟨nA,vA,rfl,hAE⟩
    ·repeat(first |(with_reducible first |apply Q0 |apply Q1 |apply QG |apply Q2 |apply Q3 |apply Q4 |apply Q5 |apply Q6 |apply Q7 |apply Q8 |apply Q9 |apply QA |apply QB |apply QC |apply QD |apply QE |apply QF) |((first |(with_reducible apply QK rfl) |(apply QT;simp only[go_sem]<;>exact rfl));simp(disch:=omega)only[go_sem,hf,upd_ne,hHm,elsA_len,elsA_drop,hkI,tn1,up120,hup'];exact rfl;simp only[sB,sA,putA];exact rfl) |((first |(with_reducible apply QL rfl) |(apply QM;simp only[go_sem]<;>exact rfl));simp(disch:=omega)only[go_sem,hf,upd_ne,hHm,elsA_len,elsA_drop,hkI,tn1,up120,hup'];exact rfl;simp only[sB,sA,putA];exact rfl;simp only[logT_none,logT_rd,logT_wr,List.cons_append,List.nil_append];exact rfl) |((first |apply QI |apply QN);simp only[go_sem]<;>exact rfl;simp only[sB,sA,putA];exact rfl) |(refine QO ?_ ?_;first |focus(simp only[dyn_nil,dyn_cons,allY_nil,allY_cons,dj_rr,true_or,true_and];done) |focus(simp only[dyn_nil,dyn_cons,allY_nil,allY_cons,Dj,List.mem_cons,List.not_mem_nil,or_false,forall_eq,forall_eq_or_imp,and_true,true_and,false_imp_iff,implies_true];omega) |focus(simp only[dyn_nil,dyn_cons,allY_nil,allY_cons,and_true,true_and];(repeat' refine And.intro ?_ ?_);all_goals first |(left;simp only[Dj,List.mem_cons,List.not_mem_nil,or_false,forall_eq,forall_eq_or_imp,and_true,true_and,false_imp_iff,implies_true];first |done |omega) |(right;kernel_rfl))) |(apply QQ;simp only[evA,gB,gA];exact rfl) |((first |apply QX |apply QY);(first |rfl |decide |assumption)))
     exact⟨_,by omega,nxt _ _ ha rfl rfl⟩
    ·have hHA:=hkeep hE hAE
     repeat(first |(with_reducible first |apply Q0 |apply Q1 |apply QG |apply Q2 |apply Q3 |apply Q4 |apply Q5 |apply Q6 |apply Q7 |apply Q8 |apply Q9 |apply QA |apply QB |apply QC |apply QD |apply QE |apply QF) |((first |(with_reducible apply QK rfl) |(apply QT;simp only[go_sem]<;>exact rfl));simp(disch:=omega)only[go_sem,hf,upd_ne,hHm,hHA,hat0,hat1,hml,hkI,tn1,up120,hup'];exact rfl;simp only[sB,sA,putA];exact rfl) |((first |(with_reducible apply QL rfl) |(apply QM;simp only[go_sem]<;>exact rfl));simp(disch:=omega)only[go_sem,hf,upd_ne,hHm,hHA,hat0,hat1,hml,hkI,tn1,up120,hup'];exact rfl;simp only[sB,sA,putA];exact rfl;simp only[logT_none,logT_rd,logT_wr,List.cons_append,List.nil_append];exact rfl) |((first |apply QI |apply QN);simp only[go_sem]<;>exact rfl;simp only[sB,sA,putA];exact rfl) |(refine QO ?_ ?_;first |focus(simp only[dyn_nil,dyn_cons,allY_nil,allY_cons,dj_rr,true_or,true_and];done) |focus(simp only[dyn_nil,dyn_cons,allY_nil,allY_cons,Dj,List.mem_cons,List.not_mem_nil,or_false,forall_eq,forall_eq_or_imp,and_true,true_and,false_imp_iff,implies_true];omega) |focus(simp only[dyn_nil,dyn_cons,allY_nil,allY_cons,and_true,true_and];(repeat' refine And.intro ?_ ?_);all_goals first |(left;simp only[Dj,List.mem_cons,List.not_mem_nil,or_false,forall_eq,forall_eq_or_imp,and_true,true_and,false_imp_iff,implies_true];first |done |omega) |(right;kernel_rfl))) |(apply QQ;simp only[evA,gB,gA];exact rfl) |((first |apply QX |apply QY);(first |rfl |decide |assumption)))
     exact⟨_,by omega,nxt _ _ ha rfl rfl⟩
  ·obtain rfl:k=mv.length:=by omega
   rw[List.take_length]at hHm
   have d1:p≠mp:=fun e=>by rw[e,hHm]at hHp;cases hHp
   have d2:nm2≠mp:=fun e=>by rw[e,hHm]at hH2;cases hH2
   have hWL:WOK (recs.map (mvE mv)) chs:=⟨by simpa using hn1,by simpa using hb,fun c hc r hr=>by simpa using hW.r c hc r hr,hW.l⟩
   rcases hA with rfl |⟨nA,vA,rfl,hAE⟩
   all_goals
    repeat(first |(with_reducible first |apply Q0 |apply Q1 |apply Q2 |apply Q3 |apply Q4 |apply Q5 |apply Q6 |apply Q7 |apply Q8 |apply Q9 |apply QA |apply QB |apply QC |apply QD |apply QE |apply QF) |((first |(with_reducible apply QK rfl) |(apply QT;simp only[go_sem]<;>exact rfl));simp(disch:=omega)only[go_sem,hf];exact rfl;simp only[sB,sA,putA];exact rfl) |(apply QI;simp only[go_sem]<;>exact rfl;simp only[sB,sA,putA];exact rfl) |(apply QQ;simp only[evA,gB,gA];exact rfl) |((first |apply QX |apply QY);(first |rfl |decide |assumption)))
    refine AWp.loop [6,8,10] (fun Γ H s' m=>∃r:Nat,r≤recs.length∧m=recs.length-r∧Γ=(List.replicate 6 .junk)++[.ptr p 0 0]++(List.replicate 1 .junk)++[.mp mp 0]++(List.replicate 1 .junk)++[.sc (.int .i64 (r:Nat))]++(List.replicate 84 .junk)∧
     H p=some (.row 0 1 [v1,.sl nm2 0 0 chs.length])∧H nm2=some (.row 0 1 (rowsN chs))∧H mp=some (.mapo 0 (entM mv) mv.length)∧RowE s 2 v1 H s1 (elsA (mvK mv recs r)) recs.length∧s1≤s'∧(∀q,s'≤q→H q=none)∧∀q,q<s→H q=E.H q) recs.length ?_ ?_
    ·exact⟨0,Nat.zero_le _,rfl,rfl,hHp,hH2,hHm,by simpa[mvK]using hv1,Nat.le_refl _,hf,hE⟩
    clear hHp hH2 hHm hv1 hf hE
    rintro Γ H s2 m ⟨r,hr,rfl,rfl,hHp,hH2,hHm,hv1,hs2,hf,hE⟩
    refine wA_ok hmix ctS_ok _ (by kernel_rfl) ?_
    simp(maxSteps:=1000000)only[List.replicate_succ,List.replicate_zero,List.cons_append,List.nil_append,List.append_nil]
    by_cases hlt2:r<recs.length
    ·obtain⟨h0,_,_⟩ |⟨nm1,ver1,h0,rfl,hH1,hn1a,hn1b⟩:=hv1
     ·omega
     have d3:nm1≠p:=fun e=>by rw[e,hHp]at hH1;cases hH1
     have d4:nm1≠nm2:=fun e=>by rw[e,hH2]at hH1;cases hH1
     have d5:nm1≠mp:=fun e=>by rw[e,hHm]at hH1;cases hH1
     have hml:=mvK_len mv recs r
     have hrm:r<(mvK mv recs r).length:=by omega
     have hat1:=elsA_at1 hrm
     rw[mvK_get hlt2]at hat1
     have hel:(elsA (mvK mv recs r)).length=recs.length*2:=by rw[elsA_len,hml]
     cases hmg:mget mv recs[r].2 with
     |none=>
      have hlk:lkK recs[r].2 true (.mapo 0 (entM mv) mv.length)= .ret (.tup [.sc (.int .i64 0),.sc (.bool false)]):=by rw[lkK_ent,hmg];rfl
      repeat(first |(with_reducible first |apply Q0 |apply Q1 |apply Q2 |apply Q3 |apply Q4 |apply Q5 |apply Q6 |apply Q7 |apply Q8 |apply Q9 |apply QA |apply QB |apply QC |apply QD |apply QE |apply QF) |((with_reducible apply QK rfl);simp(disch:=omega)only[go_sem,hf,upd_ne,hHp,hHm,hH1,hat1,hel,lk120,hlk,tn1];exact rfl;simp only[sB,sA,putA];exact rfl) |(apply QQ;simp only[evA,gB,gA];exact rfl) |((first |apply QX |apply QY);(first |rfl |decide |assumption)))
      refine⟨recs.length-(r+1),by omega,r+1,by omega,rfl,rfl,hHp,hH2,hHm,.inr ⟨nm1,ver1,h0,rfl,?_,hn1a,hn1b⟩,hs2,hf,hE⟩
      rw[mvK_succ hlt2,hH1]
      have:mvE mv recs[r]=(mvK mv recs r)[r]'hrm:=by rw[mvK_get hlt2];exact mget_none hmg _
      rw[this,List.set_getElem_self]
     |some v=>
      have hlk:lkK recs[r].2 true (.mapo 0 (entM mv) mv.length)= .ret (.tup [.sc (.int .i64 v),.sc (.bool true)]):=by rw[lkK_ent,hmg];rfl
      have hset:(elsA (mvK mv recs r)).set (r*2+1) (.sc (.int .i64 v))=elsA (mvK mv recs (r+1)):=by
       rw[elsA_set1 v hrm,mvK_get hlt2,mvK_succ hlt2]
       congr 2
       unfold mvE;rw[hmg];rfl
      repeat(first |(with_reducible first |apply Q0 |apply Q1 |apply Q2 |apply Q3 |apply Q4 |apply Q5 |apply Q6 |apply Q7 |apply Q8 |apply Q9 |apply QA |apply QB |apply QC |apply QD |apply QE |apply QF) |((with_reducible apply QK rfl);simp(disch:=omega)only[go_sem,hf,upd_ne,hHp,hHm,hH1,hat1,hel,lk120,hlk,tn1,hset];exact rfl;simp only[sB,sA,putA];exact rfl) |(apply QQ;simp only[evA,gB,gA];exact rfl) |((first |apply QX |apply QY);(first |rfl |decide |assumption)))
      exact⟨recs.length-(r+1),by omega,r+1,by omega,rfl,rfl,by rw[upd_ne _ _ (Ne.symm d3)];exact hHp,by rw[upd_ne _ _ (Ne.symm d4)];exact hH2,by rw[upd_ne _ _ (Ne.symm d5)];exact hHm,.inr ⟨nm1,ver1,h0,rfl,upd_same _ _ _,hn1a,hn1b⟩,hs2,fun q hq=>by rw[upd_ne _ _ (by omega)];exact hf q hq,fun q hq=>by rw[upd_ne _ _ (by omega)];exact hE q hq⟩
    ·obtain rfl:r=recs.length:=by omega
     rw[mvK_all]at hv1
     have hlv:aLen Try.prog 40 v1= .ret (.sc (.int .i64 (recs.length:Nat))):=by
      rcases hv1 with⟨h,_,rfl⟩ |⟨_,_,_,rfl,_⟩
      ·rw[len_nil40,h];rfl
      ·simp only[aLen,Try.underlying40]
     obtain⟨L,hL⟩:∃L,L=recs.map (mvE mv):=⟨_,rfl⟩
     have hLl:L.length=recs.length:=by rw[hL];simp
     rw[←hL]at hv1 hWL
     rw[←hLl]at hv1
     have hc2:RowE s 1 (.sl nm2 0 0 chs.length) H s1 (rowsN chs) chs.length:=.inr ⟨nm2,0,by omega,rfl,hH2,hn2,hn0⟩
     have hrd:=(rdT_rows hv1 hc2).1
     repeat(first |(with_reducible first |apply Q0 |apply Q1 |apply Q2 |apply Q3 |apply Q4 |apply Q5 |apply Q6 |apply Q7 |apply Q8 |apply Q9 |apply QA |apply QB |apply QC |apply QD |apply QE |apply QF) |((with_reducible apply QK rfl);simp(disch:=omega)only[go_sem,hf,upd_ne,hHp,↓hlv];exact rfl;simp only[sB,sA,putA];exact rfl) |(apply QQ;simp only[evA,gB,gA];exact rfl) |((first |apply QX |apply QY);(first |rfl |decide |assumption)))
     refine AWp.loop [6,13] (fun Γ H1 s' m=>∃i:Nat,i≤chs.length∧m=chs.length-i∧Γ=(List.replicate 6 .junk)++[.ptr p 0 0]++(List.replicate 6 .junk)++[.sc (.int .i64 (i:Nat))]++(List.replicate 81 .junk)∧H1=H∧s'=s2∧∀j,j<i→srtF j chs.length none [] (elsOfC L (chs.getD j []))=true) chs.length ?_ ?_
     ·exact⟨0,Nat.zero_le _,rfl,rfl,rfl,rfl,fun j hj=>absurd hj (by omega)⟩
     rintro Γ H1 s3 m ⟨i,hi,rfl,rfl,rfl,rfl,hsr⟩
     refine wA_ok hmix ctS_ok _ (by kernel_rfl) ?_
     simp(maxSteps:=1000000)only[List.replicate_succ,List.replicate_zero,List.cons_append,List.nil_append,List.append_nil]
     by_cases hilt:i<chs.length
     ·by_cases hsi:srtF i chs.length none [] (elsOfC L (chs.getD i []))=true
      ·repeat(first |(with_reducible first |apply Q0 |apply Q1 |apply Q2 |apply Q3 |apply Q4 |apply Q5 |apply Q6 |apply Q7 |apply Q8 |apply Q9 |apply QA |apply QB |apply QC |apply QD |apply QE |apply QF) |((with_reducible apply QK rfl);simp(disch:=omega)only[go_sem,hf,upd_ne,hHp,cal96,ctS_96,ctR_96,c96,hrd,hWL,hsi];exact rfl;simp only[sB,sA,putA];exact rfl) |(apply QQ;simp only[evA,gB,gA];exact rfl) |((first |apply QX |apply QY);(first |rfl |decide |assumption)))
       refine⟨chs.length-(i+1),by omega,i+1,by omega,rfl,rfl,rfl,rfl,fun j hj=>?_⟩
       by_cases e:j=i
       ·rw[e];exact hsi
       ·exact hsr j (by omega)
      ·have hsf:srtF i chs.length none [] (elsOfC L (chs.getD i []))=false:=by simpa using hsi
       have hw:rmoveF l mv=([],6):=by
        rw[hdef];unfold rmoveX
        rw[if_neg (fun h=>h hasc),←hL,if_neg (fun h=>hsi (h i hilt))]
       rw[hw]at hR
       repeat(first |(with_reducible first |apply Q0 |apply Q1 |apply Q2 |apply Q3 |apply Q4 |apply Q5 |apply Q6 |apply Q7 |apply Q8 |apply Q9 |apply QA |apply QB |apply QC |apply QD |apply QE |apply QF) |((with_reducible apply QK rfl);simp(disch:=omega)only[go_sem,hf,upd_ne,hHp,cal96,ctS_96,ctR_96,c96,hrd,hWL,hsf];exact rfl;simp only[sB,sA,putA];exact rfl) |(apply QQ;simp only[evA,gB,gA];exact rfl) |((first |apply QX |apply QY);(first |rfl |decide |assumption)))
       (apply QZ;simp(disch:=omega)only[go_sem,Try.results57];exact rfl;simp only[packA];exact rfl)
       exact hR _ _ (fun q hq=>hE q hq) rfl
     ·obtain rfl:i=chs.length:=by omega
      have hw:rmoveF l mv=(wordsF L chs,0):=by
       rw[hdef];unfold rmoveX
       rw[if_neg (fun h=>h hasc),←hL,if_pos (fun j hj=>hsr j hj)]
      rw[hw]at hR
      repeat(first |(with_reducible first |apply Q0 |apply Q1 |apply Q2 |apply Q3 |apply Q4 |apply Q5 |apply Q6 |apply Q7 |apply Q8 |apply Q9 |apply QA |apply QB |apply QC |apply QD |apply QE |apply QF) |((with_reducible apply QK rfl);simp(disch:=omega)only[go_sem,hf,upd_ne,hHp,cal51,ctS_51,c51o,hrd,hWL];exact rfl;simp only[sB,sA,putA];exact rfl) |(apply QQ;simp only[evA,gB,gA];exact rfl) |((first |apply QX |apply QY);(first |rfl |decide |assumption)))
      (apply QZ;simp(disch:=omega)only[go_sem,Try.results57];exact rfl;simp only[packA];exact rfl)
      exact hR _ _ (fun q hq=>by(simp(disch:=omega)only[upd_ne];exact hE q hq)) ⟨_,_,rfl,upd_same _ _ _⟩
theorem rmove_ro (l:List Int) (mv:List (Int×Int)) (hl:l.length≤1000000000) (ht:mv.length≤1000000000):
  RO Try.prog 57 [.dsl l.length (ints l),.dsl mv.length (elsA mv)] (OwnT (ansX (rmoveF l mv).2 (rmoveF l mv).1) [.int .i64 (rmoveF l mv).2]):=by
 refine ro_of Try.func57 rfl (fun E s hs=>?_)
 exact wA_ok hmix ctS_ok _ (by kernel_rfl) (rmove_walk l mv hl ht E s (fun q _=>hs q) _ (.inl rfl) _ (fun H1 X _ hX=>⟨X,rfl,hX⟩))
end Go.Proofs.Ytdcomhdadnhpnaa
end
