import Derived.Test.YtdcomhdadnhpnaaYA9
import Derived.Test.YtdcomhdadnhpnaaYP17
import Derived.Test.YtdcomhdadnhpnaaYB28
import Derived.Test.YtdcomhdadnhpnaaYB29
set_option linter.all false
namespace Go.Proofs.Ytdcomhdadnhpnaa
open Go Go.Am Go.RowKit
attribute [local irreducible] wA opsQ opsLQ thenA blockA EndA
set_option maxRecDepth 100000 in
set_option maxHeartbeats 8000000 in
theorem rdrop_A (l:List Int) (h x:Int) (hl:l.length≤1000000000) (hV:ValidL l) (hh:0≤h∧h≤2147483647) (ho0:0≤ofF (recsT l) (chsT l) (h,x)) (r0:Nat) (hr0:ofF (recsT l) (chsT l) (h,x)=(r0:Int)) (hrl0:r0=(recsT l).length-1)
  (E:Ent) (s:Nat) (hs:∀q,E.H q=none):
  AWp Try.prog E Try.f37.body.get! (begA Try.f37 [.dsl l.length (ints l),.sc (.int .i64 h),.sc (.int .i64 x)]) E.H s (EndA Try.prog Try.f37 (OwnT (ansX (dropF l h x).2.2 (dropF l h x).2.1) [.int .i64 (dropF l h x).1,.int .i64 (dropF l h x).2.2])):=by
 simp(maxSteps:=300000)only[begA,Try.ntmps37,List.replicate_succ,List.replicate_zero,List.length_cons,List.length_nil,List.cons_append,List.nil_append]
 simp only[Try.f37,Option.get!_some]
 have hW:=wok_valid hV
 have hn1:=hW.n
 have hb:=hW.b
 have hb8:=bkts8 (recsT l).length
 have hbl:=bkts_le (recsT l).length (by omega)
 have hdok:=fun hh h0 r hr=>drop_ok (h:=h) (x:=x) hV hh h0 (r:=r) hr
 have hor:=of_rec (h:=h) (x:=x) hV
 have how:=of_wds (h:=h) (x:=x) hV
 obtain⟨recs,hR⟩:∃recs,recs=recsT l:=⟨_,rfl⟩
 obtain⟨chs,hC⟩:∃chs,chs=chsT l:=⟨_,rfl⟩
 rw[←hR,←hC]at hW hb hdok hor how
 rw[←hR]at hn1 hb8 hbl
 replace hR:=hR.symm
 replace hC:=hC.symm
 rw[←hb]at hb8 hbl
 have hcn:(rowsN chs).length=chs.length:=rowsN_len _
 have hct:(rowsN chs).take chs.length=rowsN chs:=List.take_of_length_le (by rw[rowsN_len];exact Nat.le_refl _)
 have het:=elsA_take recs
 have hel:=elsA_len recs
 have hN:(recs=[]∧∀k,newE recs k=k (.sc (.slice none 0 0)))∨(0<recs.length∧∀k,newE recs k= .new (.row 0 2 (elsA recs)) fun n=>k (.sl n 0 0 recs.length)):=by
  by_cases h0:recs.length=0
  ·obtain rfl:=List.length_eq_zero_iff.1 h0
   exact .inl ⟨rfl,fun k=>rfl⟩
  ·exact .inr ⟨by omega,fun k=>if_neg h0⟩
 have ho:0≤ofF recs chs (h,x):=by rw[←hR,←hC];exact ho0
 obtain⟨r,e1,e2,e3,e4⟩:=hor ho
 obtain rfl:r=r0:=by rw[←hR,←hC]at e1;omega
 have hh2:h≤4294967296:=by omega
 have hD:=hdok hh ho r e1
 have hnl:¬((r:Nat):Int)<0:=by omega
 obtain⟨last,hlast⟩:∃last,recs.length=last+1:=⟨recs.length-1,by omega⟩
 have hl1:recs.length-1=last:=by omega
 have hlI:((recs.length:Nat):Int)-1=((last:Nat):Int):=by omega
 obtain⟨hw,_,hrc,hlk,hkh,hw0,hm1,hw1⟩:=hD
 unfold rdropX at hw
 rw[hl1]at hw hlk hkh hw0 hm1 hw1
 have hixl:=bkt_lt h.toNat (b:=chs.length) (by omega)
 obtain⟨ix,hix⟩:∃ix,bkt h.toNat chs.length=ix:=⟨_,rfl⟩
 rw[hix]at hixl hrc
 obtain⟨c,hc⟩:∃c,chs[ix]=c:=⟨_,rfl⟩
 have hcx:(rowsN chs)[ix]? =some (.dsl c.length (natsA c)):=by rw[←hc];simp[rowsN,hixl]
 have hgd:chs.getD ix []=c:=by rw[←hc];simp[hixl]
 rw[hgd]at hrc
 have hcl:c.length≤100000:=by rw[←hc];exact hW.l _ (List.getElem_mem hixl)
 obtain⟨c2,hc2⟩:∃c2,wiN c r=c2:=⟨_,rfl⟩
 have hc2l:c2.length≤100000:=by rw[←hc2];exact Nat.le_trans (wiN_le c r) hcl
 have hA:drpA chs h r=chs.set ix c2:=by unfold drpA;rw[hix,hgd,hc2]
 have hset0:(rowsN chs).set ix (.dsl c2.length (natsA c2))=rowsN (chs.set ix c2):=(rowsN_set _ _ _).symm
 have h18:c18r [.sc (.int .i64 ((last:Nat):Int))]= .ret (.sc (.int .i64 (bkts last:Nat))):=by
  unfold c18r
  simp only
  rw[if_pos (by omega),Int.toNat_natCast]
 have hlT:((last:Nat):Int).toNat=last:=Int.toNat_natCast _
 have hN':∀k,newE recs k= .new (.row 0 2 (elsA recs)) fun n=>k (.sl n 0 0 recs.length):=by
  rcases hN with⟨rfl,hN⟩ |⟨h0,hN⟩
  ·simp at e2
  ·exact hN
 clear hN
 have hrT:((r:Nat):Int).toNat=r:=Int.toNat_natCast _
 have hrlI:((r:Nat):Int)≤100000:=by omega
 have hidx:c.idxOf r<c.length:=List.idxOf_lt_length_of_mem hrc
 have hrl:r=last:=by rw[hR,hl1]at hrl0;exact hrl0
 have hB:drpB recs chs h r=chs.set ix c2:=by unfold drpB;rw[hl1,if_pos hrl,hA]
 have hRR:drpR recs r=recs:=by unfold drpR;rw[hl1,if_pos hrl]
 have hL:drpL recs chs h r=c.idxOf r+1:=by unfold drpL;rw[hl1,if_pos hrl,hix,hgd]
 rw[hB,hRR]at hw hw0 hm1 hw1
 rw[hL]at hw
 obtain⟨CB,hCB⟩:∃CB,CB=chs.set ix c2:=⟨_,rfl⟩
 rw[←hCB]at hset0 hw hw0 hm1 hw1
 have hCBl:CB.length=chs.length:=by rw[hCB];simp
 have hTE:(elsA recs).take (last*2)=elsA (recs.take last):=elsA_takeK _ _
 have hTl:(recs.take last).length=last:=by rw[List.length_take];omega
 subst hrl
 by_cases hdv:bkts r<chs.length
 ·rw[if_pos hdv]at hw
  have hMO:=hm1 hdv
  have hWf:=hw1 hdv
  have hol:=hMO.olen
  have hdvI:((bkts r:Nat):Int)<((chs.length:Nat):Int):=by omega
  obtain⟨j,hj⟩:∃j,chs.length=j+1:=⟨chs.length-1,by omega⟩
  have hjm:chs.length-1=j:=by omega
  rw[hjm]at hw hWf
  have hSl:(mrgS recs CB).length=chs.length:=by unfold mrgS;simp[hCBl]
  have hTC:(rowsN (mrgS recs CB)).take j=rowsN ((mrgS recs CB).take j):=rowsN_take _ _
  have hTCl:((mrgS recs CB).take j).length=j:=by rw[List.length_take,hSl];omega
  have hw':dropF l h x=(((c.idxOf r:Nat):Int)+1+((mrgO recs CB).length:Nat),wordsF (recs.take r) ((mrgS recs CB).take j),0):=by
   rw[hw];simp
  rw[hw']
  refine wA_ok hmix (ctD_ok (A:=c18r) (B:=c78o) (C:=c84d) a18r a78o a84d) _ (by kernel_rfl) ?_
  repeat(first |(with_reducible first |apply Q0 |apply Q1 |apply QG |apply Q2 |apply Q3 |apply Q4 |apply Q5 |apply Q6 |apply Q7 |apply Q8 |apply Q9 |apply QA |apply QB |apply QC |apply QD |apply QE |apply QF) |((first |(with_reducible apply QK rfl) |(apply QT;simp only[go_sem]<;>exact rfl));simp(disch:=omega)only[go_sem,hs,upd_ne,cal78,ctD_78,c78o,rdD_dsl,hl,hV,hR,hC,cal21,ctD_21,ctR_21,c21,hh,cal79,ctD_79,c79,rdT,rdE2,rdC,hcn,het,hel,elsOf_elsA,hW,hh2,e1,hnl,List.drop_zero,cal22,ctD_22,ctR_22,c22r,hix,cal83,ctD_83,c83,rdN_dsl,hrc,hcl,hrT,cal84,ctD_84,hc2,hlI,hlT,Nat.sub_zero,cal18,ctD_18,h18,hN',hct,rdRows_data,hcx,hset0,c84d,hdvI,cal85,ctD_85,c85,bxK,eK_ok,cK_ok,hMO,hCBl,hjm,cal51,ctD_51,c51o,hTE,hTl,hTC,hTCl,hWf,rowsN_len,rdRows_data];exact rfl;simp only[sB,sA,putA];exact rfl) |((first |(with_reducible apply QL rfl) |(apply QM;simp only[go_sem]<;>exact rfl));simp(disch:=omega)only[go_sem,hs,upd_ne,cal78,ctD_78,c78o,rdD_dsl,hl,hV,hR,hC,cal21,ctD_21,ctR_21,c21,hh,cal79,ctD_79,c79,rdT,rdE2,rdC,hcn,het,hel,elsOf_elsA,hW,hh2,e1,hnl,List.drop_zero,cal22,ctD_22,ctR_22,c22r,hix,cal83,ctD_83,c83,rdN_dsl,hrc,hcl,hrT,cal84,ctD_84,hc2,hlI,hlT,Nat.sub_zero,cal18,ctD_18,h18,hN',hct,rdRows_data,hcx,hset0,c84d,hdvI,cal85,ctD_85,c85,bxK,eK_ok,cK_ok,hMO,hCBl,hjm,cal51,ctD_51,c51o,hTE,hTl,hTC,hTCl,hWf,rowsN_len,rdRows_data];exact rfl;simp only[sB,sA,putA];exact rfl;simp only[logT_none,logT_rd,logT_wr,List.cons_append,List.nil_append];exact rfl) |((first |apply QI |apply QN);simp only[go_sem]<;>exact rfl;simp only[sB,sA,putA];exact rfl) |(refine QO ?_ ?_;first |focus(simp only[dyn_nil,dyn_cons,allY_nil,allY_cons,dj_rr,true_or,true_and];done) |focus(simp only[dyn_nil,dyn_cons,allY_nil,allY_cons,Dj,List.mem_cons,List.not_mem_nil,or_false,forall_eq,forall_eq_or_imp,and_true,true_and,false_imp_iff,implies_true];omega) |focus(simp only[dyn_nil,dyn_cons,allY_nil,allY_cons,and_true,true_and];(repeat' refine And.intro ?_ ?_);all_goals first |(left;simp only[Dj,List.mem_cons,List.not_mem_nil,or_false,forall_eq,forall_eq_or_imp,and_true,true_and,false_imp_iff,implies_true];first |done |omega) |(right;kernel_rfl))) |(apply QQ;simp only[evA,gB,gA];exact rfl) |((first |apply QX |apply QY);(first |rfl |decide |assumption)))
  (apply QZ;simp(disch:=omega)only[go_sem,Try.results37];exact rfl;simp only[packA];exact rfl)
  exact⟨_,rfl,_,_,rfl,by simp(disch:=omega)only[upd_same,upd_ne]⟩
 ·rw[if_neg hdv]at hw
  have hWf:=hw0 hdv
  have hdvI:¬((bkts r:Nat):Int)<((chs.length:Nat):Int):=by omega
  have hTC:(rowsN CB).take chs.length=rowsN CB:=List.take_of_length_le (by rw[rowsN_len,hCBl];exact Nat.le_refl _)
  have hw':dropF l h x=(((c.idxOf r:Nat):Int)+1,wordsF (recs.take r) CB,0):=by
   rw[hw];simp
  rw[hw']
  refine wA_ok hmix (ctD_ok (A:=c18r) (B:=c78o) (C:=c84d) a18r a78o a84d) _ (by kernel_rfl) ?_
  repeat(first |(with_reducible first |apply Q0 |apply Q1 |apply QG |apply Q2 |apply Q3 |apply Q4 |apply Q5 |apply Q6 |apply Q7 |apply Q8 |apply Q9 |apply QA |apply QB |apply QC |apply QD |apply QE |apply QF) |((first |(with_reducible apply QK rfl) |(apply QT;simp only[go_sem]<;>exact rfl));simp(disch:=omega)only[go_sem,hs,upd_ne,cal78,ctD_78,c78o,rdD_dsl,hl,hV,hR,hC,cal21,ctD_21,ctR_21,c21,hh,cal79,ctD_79,c79,rdT,rdE2,rdC,hcn,het,hel,elsOf_elsA,hW,hh2,e1,hnl,List.drop_zero,cal22,ctD_22,ctR_22,c22r,hix,cal83,ctD_83,c83,rdN_dsl,hrc,hcl,hrT,cal84,ctD_84,hc2,hlI,hlT,Nat.sub_zero,cal18,ctD_18,h18,hN',hct,rdRows_data,hcx,hset0,c84d,hdvI,cal51,ctD_51,c51o,hTE,hTl,hTC,hCBl,hWf,rowsN_len,rdRows_data];exact rfl;simp only[sB,sA,putA];exact rfl) |((first |(with_reducible apply QL rfl) |(apply QM;simp only[go_sem]<;>exact rfl));simp(disch:=omega)only[go_sem,hs,upd_ne,cal78,ctD_78,c78o,rdD_dsl,hl,hV,hR,hC,cal21,ctD_21,ctR_21,c21,hh,cal79,ctD_79,c79,rdT,rdE2,rdC,hcn,het,hel,elsOf_elsA,hW,hh2,e1,hnl,List.drop_zero,cal22,ctD_22,ctR_22,c22r,hix,cal83,ctD_83,c83,rdN_dsl,hrc,hcl,hrT,cal84,ctD_84,hc2,hlI,hlT,Nat.sub_zero,cal18,ctD_18,h18,hN',hct,rdRows_data,hcx,hset0,c84d,hdvI,cal51,ctD_51,c51o,hTE,hTl,hTC,hCBl,hWf,rowsN_len,rdRows_data];exact rfl;simp only[sB,sA,putA];exact rfl;simp only[logT_none,logT_rd,logT_wr,List.cons_append,List.nil_append];exact rfl) |((first |apply QI |apply QN);simp only[go_sem]<;>exact rfl;simp only[sB,sA,putA];exact rfl) |(refine QO ?_ ?_;first |focus(simp only[dyn_nil,dyn_cons,allY_nil,allY_cons,dj_rr,true_or,true_and];done) |focus(simp only[dyn_nil,dyn_cons,allY_nil,allY_cons,Dj,List.mem_cons,List.not_mem_nil,or_false,forall_eq,forall_eq_or_imp,and_true,true_and,false_imp_iff,implies_true];omega) |focus(simp only[dyn_nil,dyn_cons,allY_nil,allY_cons,and_true,true_and];(repeat' refine And.intro ?_ ?_);all_goals first |(left;simp only[Dj,List.mem_cons,List.not_mem_nil,or_false,forall_eq,forall_eq_or_imp,and_true,true_and,false_imp_iff,implies_true];first |done |omega) |(right;kernel_rfl))) |(apply QQ;simp only[evA,gB,gA];exact rfl) |((first |apply QX |apply QY);(first |rfl |decide |assumption)))
  (apply QZ;simp(disch:=omega)only[go_sem,Try.results37];exact rfl;simp only[packA];exact rfl)
  exact⟨_,rfl,_,_,rfl,by simp(disch:=omega)only[upd_same,upd_ne]⟩
set_option maxRecDepth 100000 in
set_option maxHeartbeats 8000000 in
theorem rdrop_ro (l:List Int) (h x:Int) (hl:l.length≤1000000000):
  RO Try.prog 37 [.dsl l.length (ints l),.sc (.int .i64 h),.sc (.int .i64 x)] (OwnT (ansX (dropF l h x).2.2 (dropF l h x).2.1) [.int .i64 (dropF l h x).1,.int .i64 (dropF l h x).2.2]):=by
 refine ro_of Try.func37 rfl (fun E s hs=>?_)
 simp(maxSteps:=300000)only[begA,Try.ntmps37,List.replicate_succ,List.replicate_zero,List.length_cons,List.length_nil,List.cons_append,List.nil_append]
 by_cases hV:ValidL l
 rotate_left
 ·rw[dropF_600 hV]
  refine wA_ok hmix ctS_ok _ (by kernel_rfl) ?_
  repeat(first |(with_reducible first |apply Q0 |apply Q1 |apply Q2 |apply Q3 |apply Q4 |apply Q5 |apply Q6 |apply Q7 |apply Q8 |apply Q9 |apply QA |apply QB |apply QC |apply QD |apply QE |apply QF) |((first |(with_reducible apply QK rfl) |(apply QT;simp only[go_sem]<;>exact rfl));simp(disch:=omega)only[go_sem,hs,upd_ne,cal78,ctS_78,c78o,rdD_dsl,hl,hV];exact rfl;simp only[sB,sA,putA];exact rfl) |(apply QI;simp only[go_sem]<;>exact rfl;simp only[sB,sA,putA];exact rfl) |(apply QQ;simp only[evA,gB,gA];exact rfl) |((first |apply QX |apply QY);(first |rfl |decide |assumption)))
  (apply QZ;simp(disch:=omega)only[go_sem,Try.results37];exact rfl;simp only[packA];exact rfl)
  exact⟨_,rfl,rfl⟩
 have hW:=wok_valid hV
 have hn1:=hW.n
 have hb:=hW.b
 have hb8:=bkts8 (recsT l).length
 have hbl:=bkts_le (recsT l).length (by omega)
 have hdok:=fun hh h0 r hr=>drop_ok (h:=h) (x:=x) hV hh h0 (r:=r) hr
 have hor:=of_rec (h:=h) (x:=x) hV
 have how:=of_wds (h:=h) (x:=x) hV
 obtain⟨recs,hR⟩:∃recs,recs=recsT l:=⟨_,rfl⟩
 obtain⟨chs,hC⟩:∃chs,chs=chsT l:=⟨_,rfl⟩
 rw[←hR,←hC]at hW hb hdok hor how
 rw[←hR]at hn1 hb8 hbl
 replace hR:=hR.symm
 replace hC:=hC.symm
 rw[←hb]at hb8 hbl
 have hcn:(rowsN chs).length=chs.length:=rowsN_len _
 have hct:(rowsN chs).take chs.length=rowsN chs:=List.take_of_length_le (by rw[rowsN_len];exact Nat.le_refl _)
 have het:=elsA_take recs
 have hel:=elsA_len recs
 have hN:(recs=[]∧∀k,newE recs k=k (.sc (.slice none 0 0)))∨(0<recs.length∧∀k,newE recs k= .new (.row 0 2 (elsA recs)) fun n=>k (.sl n 0 0 recs.length)):=by
  by_cases h0:recs.length=0
  ·obtain rfl:=List.length_eq_zero_iff.1 h0
   exact .inl ⟨rfl,fun k=>rfl⟩
  ·exact .inr ⟨by omega,fun k=>if_neg h0⟩
 by_cases hh:¬(0≤h∧h≤2147483647)
 ·rw[dropF_bad hV hh]
  refine wA_ok hmix ctS_ok _ (by kernel_rfl) ?_
  rcases hN with⟨rfl,hN⟩ |⟨h0,hN⟩
  all_goals
   repeat(first |(with_reducible first |apply Q0 |apply Q1 |apply Q2 |apply Q3 |apply Q4 |apply Q5 |apply Q6 |apply Q7 |apply Q8 |apply Q9 |apply QA |apply QB |apply QC |apply QD |apply QE |apply QF) |((first |(with_reducible apply QK rfl) |(apply QT;simp only[go_sem]<;>exact rfl));simp(disch:=omega)only[go_sem,hs,upd_ne,cal78,ctS_78,c78o,rdD_dsl,hl,hV,hR,hC,hN,cal21,ctS_21,ctR_21,c21,hh];exact rfl;simp only[sB,sA,putA];exact rfl) |(apply QI;simp only[go_sem]<;>exact rfl;simp only[sB,sA,putA];exact rfl) |(apply QQ;simp only[evA,gB,gA];exact rfl) |((first |apply QX |apply QY);(first |rfl |decide |assumption)))
   (apply QZ;simp(disch:=omega)only[go_sem,Try.results37];exact rfl;simp only[packA];exact rfl)
   exact⟨_,rfl,rfl⟩
 replace hh:0≤h∧h≤2147483647:=Decidable.not_not.1 hh
 have hh2:h≤4294967296:=by omega
 by_cases ho:0≤ofF recs chs (h,x)
 rotate_left
 ·have hol:ofF recs chs (h,x)<0:=by omega
  rw[dropF_none hV hh (mt how.2 ho)]
  refine wA_ok hmix ctS_ok _ (by kernel_rfl) ?_
  rcases hN with⟨rfl,hN⟩ |⟨h0,hN⟩
  all_goals
   repeat(first |(with_reducible first |apply Q0 |apply Q1 |apply Q2 |apply Q3 |apply Q4 |apply Q5 |apply Q6 |apply Q7 |apply Q8 |apply Q9 |apply QA |apply QB |apply QC |apply QD |apply QE |apply QF) |((first |(with_reducible apply QK rfl) |(apply QT;simp only[go_sem]<;>exact rfl));simp(disch:=omega)only[go_sem,hs,upd_ne,cal78,ctS_78,c78o,rdD_dsl,hl,hV,hR,hC,hN,cal21,ctS_21,ctR_21,c21,hh,cal79,ctS_79,c79,rdT,rdE2,rdC,hct,hcn,het,hel,elsOf_elsA,rdRows_data,hW,hh2,hol,List.drop_zero];exact rfl;simp only[sB,sA,putA];exact rfl) |(apply QI;simp only[go_sem]<;>exact rfl;simp only[sB,sA,putA];exact rfl) |(apply QQ;simp only[evA,gB,gA];exact rfl) |((first |apply QX |apply QY);(first |rfl |decide |assumption)))
   (apply QZ;simp(disch:=omega)only[go_sem,Try.results37];exact rfl;simp only[packA];exact rfl)
   exact⟨_,rfl,rfl⟩
 obtain⟨r,e1,_⟩:=hor ho
 rw[←hR,←hC]at ho e1
 by_cases hrl:r=(recsT l).length-1
 ·exact rdrop_A l h x hl hV hh ho r e1 hrl E s hs
 by_cases hk:drpK (recsT l) (chsT l).length=bkt h.toNat (chsT l).length
 ·exact rdrop_C l h x hl hV hh ho r e1 hrl hk E s hs
 ·exact rdrop_B l h x hl hV hh ho r e1 hrl hk E s hs
end Go.Proofs.Ytdcomhdadnhpnaa
