import Derived.Test.YtdcomhdadnhpnaaYP1
import Derived.Test.YtdcomhdadnhpnaaYB24
set_option linter.all false
namespace Go.Proofs.Ytdcomhdadnhpnaa
open Go Go.Am Go.RowKit
attribute [local irreducible] wA opsQ opsLQ thenA blockA EndA
theorem Pub.tup3 {H:AHp} {K:Nat→Prop} {N:Nat→Option (Nat×Nat)} {a a' b b' c c':AV} (h:Pub H K N a a') (k:Pub H K N b b') (m:Pub H K N c c'):Pub H K N (.tup [a,b,c]) (.tup [a',b',c']):=by
 refine .tup rfl (fun i x y hx hy=>?_)
 match i with
 |0=>simp at hx hy;subst hx;subst hy;exact h
 |1=>simp at hx hy;subst hx;subst hy;exact k
 |2=>simp at hx hy;subst hx;subst hy;exact m
 |i+3=>simp at hx
theorem c18_at (n:Nat) (h:n≤100000):c18r [.sc (.int .i64 ((n:Int)+1))]= .ret (.sc (.int .i64 (bkts (n+1):Nat))):=by
 unfold c18r
 simp only
 rw[if_pos (by omega),show((n:Int)+1).toNat=n+1 by omega]
def ansX (c:Int) (u:List Int):Option (List Int):=if c=0 then some u else none
set_option maxRecDepth 100000 in
set_option maxHeartbeats 4000000 in
theorem radd_ro (l:List Int) (h x:Int) (hl:l.length≤1000000000):
  RO Try.prog 35 [.dsl l.length (ints l),.sc (.int .i64 h),.sc (.int .i64 x)] (OwnT (ansX (addF l h x).2.2 (addF l h x).2.1) [.int .i64 (addF l h x).1,.int .i64 (addF l h x).2.2]):=by
 refine ro_of Try.func35 rfl (fun E s hs=>?_)
 refine wA_ok hmix ctS_ok _ (by kernel_rfl) ?_
 simp(maxSteps:=300000)only[begA,Try.ntmps35,List.replicate_succ,List.replicate_zero,List.length_cons,List.length_nil,List.cons_append,List.nil_append]
 by_cases hV:ValidL l
 rotate_left
 ·have hw:addF l h x=(0,[],600):=by unfold addF;rw[if_pos hV]
  rw[hw]
  repeat(first |(with_reducible first |apply Q0 |apply Q1 |apply Q2 |apply Q3 |apply Q4 |apply Q5 |apply Q6 |apply Q7 |apply Q8 |apply Q9 |apply QA |apply QB |apply QC |apply QD |apply QE |apply QF) |((first |(with_reducible apply QK rfl) |(apply QT;simp only[go_sem]<;>exact rfl));simp(disch:=omega)only[go_sem,hs,upd_ne,cal78,ctS_78,c78o,rdD_dsl,hl,hV];exact rfl;simp only[sB,sA,putA];exact rfl) |(apply QI;simp only[go_sem]<;>exact rfl;simp only[sB,sA,putA];exact rfl) |(apply QQ;simp only[evA,gB,gA];exact rfl) |((first |apply QX |apply QY);(first |rfl |decide |assumption)))
  (apply QZ;simp(disch:=omega)only[go_sem,Try.results35];exact rfl;simp only[packA];exact rfl)
  exact⟨_,rfl,rfl⟩
 have hW:=wok_valid hV
 have hn1:=hW.n
 have hb:=hW.b
 have hb8:=bkts8 (recsT l).length
 have hbl:=bkts_le (recsT l).length (by omega)
 have hn:(recsT l).length=tabN l:=recsF_len l _
 obtain⟨recs,hR⟩:∃recs,recs=recsT l:=⟨_,rfl⟩
 obtain⟨chs,hC⟩:∃chs,chs=chsT l:=⟨_,rfl⟩
 rw[←hR,←hC]at hW hb
 rw[←hR]at hn1 hb8 hbl hn
 replace hR:=hR.symm
 replace hC:=hC.symm
 rw[←hb]at hb8 hbl
 have hcn:(rowsN chs).length=chs.length:=rowsN_len _
 have hct:(rowsN chs).take chs.length=rowsN chs:=List.take_of_length_le (by rw[rowsN_len];exact Nat.le_refl _)
 have het:=elsA_take recs
 have hel:=elsA_len recs
 have hN:(recs=[]∧∀k,newE recs k=k (.sc (.slice none 0 0)))∨(0<recs.length∧∀k,newE recs k= .new (.row 0 2 (elsA recs)) fun n=>k (.sl n 0 0 recs.length)):=by
  by_cases h0:recs.length=0
  ·obtain rfl:=List.length_eq_zero_iff.1 h0
   exact .inl ⟨rfl,fun k=>rfl⟩
  ·exact .inr ⟨by omega,fun k=>if_neg h0⟩
 by_cases hh:¬(0≤h∧h≤2147483647)
 ·rw[addF_bad hV hh]
  rcases hN with⟨rfl,hN⟩ |⟨h0,hN⟩
  all_goals
   repeat(first |(with_reducible first |apply Q0 |apply Q1 |apply Q2 |apply Q3 |apply Q4 |apply Q5 |apply Q6 |apply Q7 |apply Q8 |apply Q9 |apply QA |apply QB |apply QC |apply QD |apply QE |apply QF) |((first |(with_reducible apply QK rfl) |(apply QT;simp only[go_sem]<;>exact rfl));simp(disch:=omega)only[go_sem,hs,upd_ne,cal78,ctS_78,c78o,rdD_dsl,hl,hV,hR,hC,hN,cal21,ctS_21,ctR_21,c21,hh];exact rfl;simp only[sB,sA,putA];exact rfl) |(apply QI;simp only[go_sem]<;>exact rfl;simp only[sB,sA,putA];exact rfl) |(apply QQ;simp only[evA,gB,gA];exact rfl) |((first |apply QX |apply QY);(first |rfl |decide |assumption)))
   (apply QZ;simp(disch:=omega)only[go_sem,Try.results35];exact rfl;simp only[packA];exact rfl)
   exact⟨_,rfl,rfl⟩
 replace hh:0≤h∧h≤2147483647:=Decidable.not_not.1 hh
 have hh2:h≤4294967296:=by omega
 by_cases ho:0≤ofF recs chs (h,x)
 ·have hw:addF l h x=(0,[],6):=by
   rw[addF_ok hV hh]
   rw[←hR,←hC]at ho
   have:=(of_has hV).1 ho
   unfold addR
   rw[if_neg (by simpa using hh),if_pos this]
   rfl
  rw[hw]
  rcases hN with⟨rfl,hN⟩ |⟨h0,hN⟩
  all_goals
   repeat(first |(with_reducible first |apply Q0 |apply Q1 |apply Q2 |apply Q3 |apply Q4 |apply Q5 |apply Q6 |apply Q7 |apply Q8 |apply Q9 |apply QA |apply QB |apply QC |apply QD |apply QE |apply QF) |((first |(with_reducible apply QK rfl) |(apply QT;simp only[go_sem]<;>exact rfl));simp(disch:=omega)only[go_sem,hs,upd_ne,cal78,ctS_78,c78o,rdD_dsl,hl,hV,hR,hC,hN,cal21,ctS_21,ctR_21,c21,hh,cal79,ctS_79,c79,rdT,rdE2,rdC,hct,hcn,het,hel,elsOf_elsA,rdRows_data,hW,hh2,ho,List.drop_zero];exact rfl;simp only[sB,sA,putA];exact rfl) |(apply QI;simp only[go_sem]<;>exact rfl;simp only[sB,sA,putA];exact rfl) |(apply QQ;simp only[evA,gB,gA];exact rfl) |((first |apply QX |apply QY);(first |rfl |decide |assumption)))
   (apply QZ;simp(disch:=omega)only[go_sem,Try.results35];exact rfl;simp only[packA];exact rfl)
   exact⟨_,rfl,rfl⟩
 by_cases h100:100000≤recs.length
 ·have hw:addF l h x=(0,[],3):=by
   rw[addF_ok hV hh]
   rw[←hR,←hC]at ho
   have h1:=mt (of_has hV).2 ho
   unfold addR
   rw[if_neg (by simpa using hh),if_neg h1,if_pos (by omega)]
   rfl
  rw[hw]
  have hge:(100000:Int)≤(recs.length:Int):=by omega
  rcases hN with⟨rfl,hN⟩ |⟨h0,hN⟩
  ·exact absurd h100 (by simp)
  ·repeat(first |(with_reducible first |apply Q0 |apply Q1 |apply Q2 |apply Q3 |apply Q4 |apply Q5 |apply Q6 |apply Q7 |apply Q8 |apply Q9 |apply QA |apply QB |apply QC |apply QD |apply QE |apply QF) |((first |(with_reducible apply QK rfl) |(apply QT;simp only[go_sem]<;>exact rfl));simp(disch:=omega)only[go_sem,hs,upd_ne,cal78,ctS_78,c78o,rdD_dsl,hl,hV,hR,hC,hN,cal21,ctS_21,ctR_21,c21,hh,cal79,ctS_79,c79,rdT,rdE2,rdC,hct,hcn,het,hel,elsOf_elsA,rdRows_data,hW,hh2,ho,List.drop_zero,hge];exact rfl;simp only[sB,sA,putA];exact rfl) |(apply QI;simp only[go_sem]<;>exact rfl;simp only[sB,sA,putA];exact rfl) |(apply QQ;simp only[evA,gB,gA];exact rfl) |((first |apply QX |apply QY);(first |rfl |decide |assumption)))
   (apply QZ;simp(disch:=omega)only[go_sem,Try.results35];exact rfl;simp only[packA];exact rfl)
   exact⟨_,rfl,rfl⟩
 have hge:¬(100000:Int)≤(recs.length:Int):=by omega
 have hAO:=add_ok (l:=l) (h:=h) (x:=x) hV hh (by rw[hR,hC];exact ho) (by omega)
 have hixl:=bkt_lt h.toNat (b:=chs.length) (by omega)
 obtain⟨ix,hix⟩:∃ix,bkt h.toNat chs.length=ix:=⟨_,rfl⟩
 rw[hix]at hixl
 obtain⟨c,hc⟩:∃c,chs[ix]=c:=⟨_,rfl⟩
 have hcx:(rowsN chs)[ix]? =some (.dsl c.length (natsA c)):=by rw[←hc];simp[rowsN,hixl]
 have hri:∀r∈c,r<recs.length:=by rw[←hc];exact hW.r _ (List.getElem_mem hixl)
 have hcl:c.length≤100000:=by rw[←hc];exact hW.l _ (List.getElem_mem hixl)
 have hgd:chs.getD ix []=c:=by rw[←hc];simp[hixl]
 obtain⟨at_,hat⟩:∃at_,ahF recs c h=at_:=⟨_,rfl⟩
 have hatl:at_≤c.length:=by rw[←hat];exact(List.takeWhile_sublist _).length_le
 have hmin:min ((c.length:Nat):Int) (((at_:Nat):Int)+1)=((min c.length (at_+1):Nat):Int):=by omega
 obtain⟨CH1,hCH1⟩:∃CH1,chs1 recs chs h=CH1:=⟨_,rfl⟩
 obtain⟨RE,hRE⟩:∃RE,RE=recs++[(h,x)]:=⟨_,rfl⟩
 have hset0:∀m,m=recs.length→(rowsN chs).set ix (.dsl (insN c at_ m).length (natsA (insN c at_ m)))=rowsN CH1:=fun m hm=>by
  rw[←hCH1,hm];unfold chs1;rw[hix,hgd,hat,rowsN_set]
 have hCl:CH1.length=chs.length:=by rw[←hCH1];unfold chs1;simp
 have hRel:RE.length=recs.length+1:=by rw[hRE];simp
 have tn0:(0:Int).toNat=0:=rfl
 have hadd:addF l h x=raddX recs chs h x:=by rw[←hAO.e,hR,hC]
 have hd0:=hAO.d
 have hw1:=hAO.w1
 have hw2:=hAO.w2
 rw[hR,hC,←hRE,hCH1]at hd0 hw1 hw2
 rw[←hn]at hw1 hw2
 have hTE:(elsA RE).take ((recs.length+1)*2)=elsA RE:=by rw[←hRel];exact elsA_take RE
 by_cases hdv:chs.length<bkts (recs.length+1)
 ·have hWf:=hw1 hdv
  have hDl:(divC RE CH1).length=chs.length+1:=by unfold divC;simp[hCl]
  have hTC:(rowsN (divC RE CH1)).take (chs.length+1)=rowsN (divC RE CH1):=List.take_of_length_le (by rw[rowsN_len,hDl];exact Nat.le_refl _)
  have hw:addF l h x=(((min c.length (at_+1):Nat):Int)+((CH1.getD (divI chs.length) []).length:Nat),wordsF RE (divC RE CH1),0):=by
   rw[hadd];unfold raddX
   rw[if_neg ho,if_neg h100,if_pos hdv,hix,hgd,hat,hCH1,←hRE]
  rw[hw]
  have hap:elsA recs++[.sc (.int .i64 h),.sc (.int .i64 x)]=elsA RE:=by rw[hRE,elsA_append];rfl
  have hdvI:((chs.length:Nat):Int)<((bkts (recs.length+1):Nat):Int):=by omega
  have h18:=((ctS_18 _).trans (ctR_18 _)).trans (c18_at recs.length hn1)
  have hdz:¬0<recs.length→False:=fun h0=>by
   have:recs.length=0:=by omega
   rw[this]at hb hdv
   have e1:bkts 0=8:=rfl
   have e2:bkts (0+1)=8:=rfl
   omega
  have hlk:(CH1.getD (divI chs.length) []).length≤100000:=by
   rcases Nat.lt_or_ge (divI chs.length) CH1.length with hlt |hge
   ·have:CH1.getD (divI chs.length) []=CH1[divI chs.length]:=by simp[hlt]
    rw[this];exact hd0.l _ (List.getElem_mem hlt)
   ·simp[hge]
  replace hdv:=hdvI
  have hbk:bkts 1=8:=rfl
  rcases hN with⟨rfl,hN⟩ |⟨h0,hN⟩
  ·exact(hdz (by simp)).elim
  ·have hset:=hset0 _ rfl
   repeat(first |(with_reducible first |apply Q0 |apply Q1 |apply QG |apply Q2 |apply Q3 |apply Q4 |apply Q5 |apply Q6 |apply Q7 |apply Q8 |apply Q9 |apply QA |apply QB |apply QC |apply QD |apply QE |apply QF) |((first |(with_reducible apply QK rfl) |(apply QT;simp only[go_sem]<;>exact rfl));simp(disch:=omega)only[go_sem,hs,upd_ne,cal78,ctS_78,c78o,rdD_dsl,hl,hV,hR,hC,hN,cal21,ctS_21,ctR_21,c21,hh,cal79,ctS_79,c79,rdT,rdE2,rdC,hct,hcn,het,hel,elsOf_elsA,rdRows_data,hW,hh2,ho,List.drop_zero,hge,cal22,ctS_22,ctR_22,c22r,hix,hcx,cal80,ctS_80,c80,rdN_dsl,hn1,hri,hcl,hat,min33,hmin,cal81,ctS_81,c81,Int.toNat_natCast,tn0,tn1,hset,cal18,h18,hbk,hdv,cal51,ctS_51,c51o,hTE,hTC,hRel,hCl,hWf,rowsN_len,hap,cal82,ctS_82,c82,bxK,eK_ok,cK_ok,hd0,hDl];exact rfl;simp only[sB,sA,putA];exact rfl) |((first |(with_reducible apply QL rfl) |(apply QM;simp only[go_sem]<;>exact rfl));simp(disch:=omega)only[go_sem,hs,upd_ne,cal78,ctS_78,c78o,rdD_dsl,hl,hV,hR,hC,hN,cal21,ctS_21,ctR_21,c21,hh,cal79,ctS_79,c79,rdT,rdE2,rdC,hct,hcn,het,hel,elsOf_elsA,rdRows_data,hW,hh2,ho,List.drop_zero,hge,cal22,ctS_22,ctR_22,c22r,hix,hcx,cal80,ctS_80,c80,rdN_dsl,hn1,hri,hcl,hat,min33,hmin,cal81,ctS_81,c81,Int.toNat_natCast,tn0,tn1,hset,cal18,h18,hbk,hdv,cal51,ctS_51,c51o,hTE,hTC,hRel,hCl,hWf,rowsN_len,hap,cal82,ctS_82,c82,bxK,eK_ok,cK_ok,hd0,hDl];exact rfl;simp only[sB,sA,putA];exact rfl;simp only[logT_none,logT_rd,logT_wr,List.cons_append,List.nil_append];exact rfl) |((first |apply QI |apply QN);simp only[go_sem]<;>exact rfl;simp only[sB,sA,putA];exact rfl) |(refine QO ?_ ?_;first |focus(simp only[dyn_nil,dyn_cons,allY_nil,allY_cons,dj_rr,true_or,true_and];done) |focus(simp only[dyn_nil,dyn_cons,allY_nil,allY_cons,Dj,List.mem_cons,List.not_mem_nil,or_false,forall_eq,forall_eq_or_imp,and_true,true_and,false_imp_iff,implies_true];omega) |focus(simp only[dyn_nil,dyn_cons,allY_nil,allY_cons,and_true,true_and];(repeat' refine And.intro ?_ ?_);all_goals first |(left;simp only[Dj,List.mem_cons,List.not_mem_nil,or_false,forall_eq,forall_eq_or_imp,and_true,true_and,false_imp_iff,implies_true];first |done |omega) |(right;kernel_rfl))) |(apply QQ;simp only[evA,gB,gA];exact rfl) |((first |apply QX |apply QY);(first |rfl |decide |assumption)))
   (apply QZ;simp(disch:=omega)only[go_sem,Try.results35];exact rfl;simp only[packA];exact rfl)
   exact⟨_,rfl,_,_,rfl,by simp(disch:=omega)only[upd_same,upd_ne]⟩
 ·have hWf:=hw2 hdv
  have hTC:(rowsN CH1).take chs.length=rowsN CH1:=List.take_of_length_le (by rw[rowsN_len,hCl];exact Nat.le_refl _)
  have hw:addF l h x=(((min c.length (at_+1):Nat):Int),wordsF RE CH1,0):=by
   rw[hadd];unfold raddX
   rw[if_neg ho,if_neg h100,if_neg hdv,hix,hgd,hat,hCH1,←hRE]
  rw[hw]
  have hap:elsA recs++[.sc (.int .i64 h),.sc (.int .i64 x)]=elsA RE:=by rw[hRE,elsA_append];rfl
  have h18:=((ctS_18 _).trans (ctR_18 _)).trans (c18_at recs.length hn1)
  have hdvI:¬((chs.length:Nat):Int)<((bkts (recs.length+1):Nat):Int):=by omega
  replace hdv:=hdvI
  have hbk:bkts 1=8:=rfl
  rcases hN with⟨rfl,hN⟩ |⟨h0,hN⟩
  ·have hset:=hset0 0 rfl
   have h18:ctS 18 [.sc (.int .i64 (((0:Nat):Int)+1))]= .ret (.sc (.int .i64 8)):=((ctS_18 _).trans (ctR_18 _)).trans (c18_at 0 (by omega))
   have hdv:¬((chs.length:Nat):Int)<8:=by omega
   have hri:∀r∈c,r<0:=hri
   have hge:¬(100000:Int)≤0:=by decide
   have hRel:RE.length=1:=hRel
   have he1:elsOf [.sc (.int .i64 h),.sc (.int .i64 x)]=some RE:=by rw[hRE];rfl
   repeat(first |(with_reducible first |apply Q0 |apply Q1 |apply QG |apply Q2 |apply Q3 |apply Q4 |apply Q5 |apply Q6 |apply Q7 |apply Q8 |apply Q9 |apply QA |apply QB |apply QC |apply QD |apply QE |apply QF) |((first |(with_reducible apply QK rfl) |(apply QT;simp only[go_sem]<;>exact rfl));simp(disch:=omega)only[go_sem,hs,upd_ne,cal78,ctS_78,c78o,rdD_dsl,hl,hV,hR,hC,hN,cal21,ctS_21,ctR_21,c21,hh,cal79,ctS_79,c79,rdT,rdE2,rdC,hct,hcn,het,hel,elsOf_elsA,rdRows_data,hW,hh2,ho,List.drop_zero,hge,cal22,ctS_22,ctR_22,c22r,hix,hcx,cal80,ctS_80,c80,rdN_dsl,hn1,hri,hcl,hat,min33,hmin,cal81,ctS_81,c81,Int.toNat_natCast,tn0,tn1,hset,cal18,h18,hbk,hdv,cal51,ctS_51,c51o,hTE,hTC,hRel,hCl,hWf,rowsN_len,hap,he1];exact rfl;simp only[sB,sA,putA];exact rfl) |((first |(with_reducible apply QL rfl) |(apply QM;simp only[go_sem]<;>exact rfl));simp(disch:=omega)only[go_sem,hs,upd_ne,cal78,ctS_78,c78o,rdD_dsl,hl,hV,hR,hC,hN,cal21,ctS_21,ctR_21,c21,hh,cal79,ctS_79,c79,rdT,rdE2,rdC,hct,hcn,het,hel,elsOf_elsA,rdRows_data,hW,hh2,ho,List.drop_zero,hge,cal22,ctS_22,ctR_22,c22r,hix,hcx,cal80,ctS_80,c80,rdN_dsl,hn1,hri,hcl,hat,min33,hmin,cal81,ctS_81,c81,Int.toNat_natCast,tn0,tn1,hset,cal18,h18,hbk,hdv,cal51,ctS_51,c51o,hTE,hTC,hRel,hCl,hWf,rowsN_len,hap,he1];exact rfl;simp only[sB,sA,putA];exact rfl;simp only[logT_none,logT_rd,logT_wr,List.cons_append,List.nil_append];exact rfl) |((first |apply QI |apply QN);simp only[go_sem]<;>exact rfl;simp only[sB,sA,putA];exact rfl) |(refine QO ?_ ?_;first |focus(simp only[dyn_nil,dyn_cons,allY_nil,allY_cons,dj_rr,true_or,true_and];done) |focus(simp only[dyn_nil,dyn_cons,allY_nil,allY_cons,Dj,List.mem_cons,List.not_mem_nil,or_false,forall_eq,forall_eq_or_imp,and_true,true_and,false_imp_iff,implies_true];omega) |focus(simp only[dyn_nil,dyn_cons,allY_nil,allY_cons,and_true,true_and];(repeat' refine And.intro ?_ ?_);all_goals first |(left;simp only[Dj,List.mem_cons,List.not_mem_nil,or_false,forall_eq,forall_eq_or_imp,and_true,true_and,false_imp_iff,implies_true];first |done |omega) |(right;kernel_rfl))) |(apply QQ;simp only[evA,gB,gA];exact rfl) |((first |apply QX |apply QY);(first |rfl |decide |assumption)))
   (apply QZ;simp(disch:=omega)only[go_sem,Try.results35];exact rfl;simp only[packA];exact rfl)
   exact⟨_,rfl,_,_,rfl,by simp(disch:=omega)only[upd_same,upd_ne]⟩
  ·have hset:=hset0 _ rfl
   repeat(first |(with_reducible first |apply Q0 |apply Q1 |apply QG |apply Q2 |apply Q3 |apply Q4 |apply Q5 |apply Q6 |apply Q7 |apply Q8 |apply Q9 |apply QA |apply QB |apply QC |apply QD |apply QE |apply QF) |((first |(with_reducible apply QK rfl) |(apply QT;simp only[go_sem]<;>exact rfl));simp(disch:=omega)only[go_sem,hs,upd_ne,cal78,ctS_78,c78o,rdD_dsl,hl,hV,hR,hC,hN,cal21,ctS_21,ctR_21,c21,hh,cal79,ctS_79,c79,rdT,rdE2,rdC,hct,hcn,het,hel,elsOf_elsA,rdRows_data,hW,hh2,ho,List.drop_zero,hge,cal22,ctS_22,ctR_22,c22r,hix,hcx,cal80,ctS_80,c80,rdN_dsl,hn1,hri,hcl,hat,min33,hmin,cal81,ctS_81,c81,Int.toNat_natCast,tn0,tn1,hset,cal18,h18,hbk,hdv,cal51,ctS_51,c51o,hTE,hTC,hRel,hCl,hWf,rowsN_len,hap];exact rfl;simp only[sB,sA,putA];exact rfl) |((first |(with_reducible apply QL rfl) |(apply QM;simp only[go_sem]<;>exact rfl));simp(disch:=omega)only[go_sem,hs,upd_ne,cal78,ctS_78,c78o,rdD_dsl,hl,hV,hR,hC,hN,cal21,ctS_21,ctR_21,c21,hh,cal79,ctS_79,c79,rdT,rdE2,rdC,hct,hcn,het,hel,elsOf_elsA,rdRows_data,hW,hh2,ho,List.drop_zero,hge,cal22,ctS_22,ctR_22,c22r,hix,hcx,cal80,ctS_80,c80,rdN_dsl,hn1,hri,hcl,hat,min33,hmin,cal81,ctS_81,c81,Int.toNat_natCast,tn0,tn1,hset,cal18,h18,hbk,hdv,cal51,ctS_51,c51o,hTE,hTC,hRel,hCl,hWf,rowsN_len,hap];exact rfl;simp only[sB,sA,putA];exact rfl;simp only[logT_none,logT_rd,logT_wr,List.cons_append,List.nil_append];exact rfl) |((first |apply QI |apply QN);simp only[go_sem]<;>exact rfl;simp only[sB,sA,putA];exact rfl) |(refine QO ?_ ?_;first |focus(simp only[dyn_nil,dyn_cons,allY_nil,allY_cons,dj_rr,true_or,true_and];done) |focus(simp only[dyn_nil,dyn_cons,allY_nil,allY_cons,Dj,List.mem_cons,List.not_mem_nil,or_false,forall_eq,forall_eq_or_imp,and_true,true_and,false_imp_iff,implies_true];omega) |focus(simp only[dyn_nil,dyn_cons,allY_nil,allY_cons,and_true,true_and];(repeat' refine And.intro ?_ ?_);all_goals first |(left;simp only[Dj,List.mem_cons,List.not_mem_nil,or_false,forall_eq,forall_eq_or_imp,and_true,true_and,false_imp_iff,implies_true];first |done |omega) |(right;kernel_rfl))) |(apply QQ;simp only[evA,gB,gA];exact rfl) |((first |apply QX |apply QY);(first |rfl |decide |assumption)))
   (apply QZ;simp(disch:=omega)only[go_sem,Try.results35];exact rfl;simp only[packA];exact rfl)
   exact⟨_,rfl,_,_,rfl,by simp(disch:=omega)only[upd_same,upd_ne]⟩
end Go.Proofs.Ytdcomhdadnhpnaa
