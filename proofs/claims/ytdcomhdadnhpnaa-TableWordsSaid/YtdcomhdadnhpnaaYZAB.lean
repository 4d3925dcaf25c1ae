import Derived.Test.YtdcomhdadnhpnaaYZA9
import Derived.Test.YtdcomhdadnhpnaaYZP15
import Derived.Test.YtdcomhdadnhpnaaYZB28
import Derived.Test.YtdcomhdadnhpnaaYZB29
set_option linter.all false
section
namespace Go.Proofs.Ytdcomhdadnhpnaa
open Go Go.Am Go.RowKit
attribute [local irreducible] wA opsQ opsLQ thenA blockA EndA
set_option maxRecDepth 100000 in
set_option maxHeartbeats 8000000 in
theorem rdrop_A (l:List Int) (h x:Int) (hl:l.length≤1000000000) (hV:ValidL l) (hh:0≤h∧h≤2147483647) (ho0:0≤ofF (recsT l) (chsT l) (h,x)) (r0:Nat) (hr0:ofF (recsT l) (chsT l) (h,x)=(r0:Int)) (hrl0:r0=(recsT l).length-1)
  (E:Ent) (s:Nat) (hs:∀q,E.H q=none):
  AWp Try.prog E Try.f37.body.get! (begA Try.f37 [.dsl l.length (ints l),.sc (.int .i64 h),.sc (.int .i64 x)]) E.H s (EndA Try.prog Try.f37 (OwnT (ansX (dropF l h x).2.2 (dropF l h x).2.1) [.int .i64 (dropF l h x).1,.int .i64 (dropF l h x).2.2])):=by
 simp(maxSteps:=300000)only[begA,Try.ntmps37,List.replicate_succ,List.replicate_zero,List.length_cons,List.length_nil,List.cons_append,List.nil_append]
 simp only[Try.f37,Option.get!_some]
 have hW:=wok_valid hV
 have hn1:=hW.n
 have hb:=hW.b
 have hb8:=bkts8 (recsT l).length
 have hbl:=bkts_le (recsT l).length (by omega)
 have hdok:=fun hh h0 r hr=>drop_ok (h:=h) (x:=x) hV hh h0 (r:=r) hr
 have hor:=of_rec (h:=h) (x:=x) hV
 have how:=of_wds (h:=h) (x:=x) hV
 obtain⟨recs,hR⟩:∃recs,recs=recsT l:=⟨_,rfl⟩
 obtain⟨chs,hC⟩:∃chs,chs=chsT l:=⟨_,rfl⟩
 rw[←hR,←hC]at hW hb hdok hor how
 rw[←hR]at hn1 hb8 hbl
 replace hR:=hR.symm
 replace hC:=hC.symm
 rw[←hb]at hb8 hbl
 have hcn:(rowsN chs).length=chs.length:=rowsN_len _
 have hct:(rowsN chs).take chs.length=rowsN chs:=List.take_of_length_le (by rw[rowsN_len];exact Nat.le_refl _)
 have het:=elsA_take recs
 have hel:=elsA_len recs
 have hN:(recs=[]∧∀k,newE recs k=k (.sc (.slice none 0 0)))∨(0<recs.length∧∀k,newE recs k= .new (.row 0 2 (elsA recs)) fun n=>k (.sl n 0 0 recs.length)):=by
  by_cases h0:recs.length=0
  ·obtain rfl:=List.length_eq_zero_iff.1 h0
   exact .inl ⟨rfl,fun k=>rfl⟩
  ·exact .inr ⟨by omega,fun k=>if_neg h0⟩
 have ho:0≤ofF recs chs (h,x):=by rw[←hR,←hC];exact ho0
 obtain⟨r,e1,e2,e3,e4⟩:=hor ho
 obtain rfl:r=r0:=by rw[←hR,←hC]at e1;omega
 have hh2:h≤4294967296:=by omega
 have hD:=hdok hh ho r e1
 have hnl:¬((r:Nat):Int)<0:=by omega
 obtain⟨last,hlast⟩:∃last,recs.length=last+1:=⟨recs.length-1,by omega⟩
 have hl1:recs.length-1=last:=by omega
 have hlI:((recs.length:Nat):Int)-1=((last:Nat):Int):=by omega
 obtain⟨hw,_,hrc,hlk,hkh,hw0,hm1,hw1⟩:=hD
 unfold rdropX at hw
 rw[hl1]at hw hlk hkh hw0 hm1 hw1
 have hixl:=bkt_lt h.toNat (b:=chs.length) (by omega)
 obtain⟨ix,hix⟩:∃ix,bkt h.toNat chs.length=ix:=⟨_,rfl⟩
 rw[hix]at hixl hrc
 obtain⟨c,hc⟩:∃c,chs[ix]=c:=⟨_,rfl⟩
 have hcx:(rowsN chs)[ix]? =some (.dsl c.length (natsA c)):=by rw[←hc];simp[rowsN,hixl]
 have hgd:chs.getD ix []=c:=by rw[←hc];simp[hixl]
 rw[hgd]at hrc
 have hcl:c.length≤100000:=by rw[←hc];exact hW.l _ (List.getElem_mem hixl)
 obtain⟨c2,hc2⟩:∃c2,wiN c r=c2:=⟨_,rfl⟩
 have hc2l:c2.length≤100000:=by rw[←hc2];exact Nat.le_trans (wiN_le c r) hcl
 have hA:drpA chs h r=chs.set ix c2:=by unfold drpA;rw[hix,hgd,hc2]
 have hset0:(rowsN chs).set ix (.dsl c2.length (natsA c2))=rowsN (chs.set ix c2):=(rowsN_set _ _ _).symm
 have h18:c18r [.sc (.int .i64 ((last:Nat):Int))]= .ret (.sc (.int .i64 (bkts last:Nat))):=by
  unfold c18r
  simp only
  rw[if_pos (by omega),Int.toNat_natCast]
 have hlT:((last:Nat):Int).toNat=last:=Int.toNat_natCast _
 have hN':∀k,newE recs k= .new (.row 0 2 (elsA recs)) fun n=>k (.sl n 0 0 recs.length):=by
  rcases hN with⟨rfl,hN⟩ |⟨h0,hN⟩
  ·simp at e2
  ·exact hN
 clear hN
 have hrT:((r:Nat):Int).toNat=r:=Int.toNat_natCast _
 have hrlI:((r:Nat):Int)≤100000:=by omega
 have hidx:c.idxOf r<c.length:=List.idxOf_lt_length_of_mem hrc
 have hrl:r=last:=by rw[hR,hl1]at hrl0;exact hrl0
 have hB:drpB recs chs h r=chs.set ix c2:=by unfold drpB;rw[hl1,if_pos hrl,hA]
 have hRR:drpR recs r=recs:=by unfold drpR;rw[hl1,if_pos hrl]
 have hL:drpL recs chs h r=c.idxOf r+1:=by unfold drpL;rw[hl1,if_pos hrl,hix,hgd]
 rw[hB,hRR]at hw hw0 hm1 hw1
 rw[hL]at hw
 obtain⟨CB,hCB⟩:∃CB,CB=chs.set ix c2:=⟨_,rfl⟩
 rw[←hCB]at hset0 hw hw0 hm1 hw1
 have hCBl:CB.length=chs.length:=by rw[hCB];simp
 have hTE:(elsA recs).take (last*2)=elsA (recs.take last):=elsA_takeK _ _
 have hTl:(recs.take last).length=last:=by rw[List.length_take];omega
 subst hrl
 by_cases hdv:bkts r<chs.length
 ·rw[if_pos hdv]at hw
  have hMO:=hm1 hdv
  have hWf:=hw1 hdv
  have hol:=hMO.olen
  have hdvI:((bkts r:Nat):Int)<((chs.length:Nat):Int):=by omega
  obtain⟨j,hj⟩:∃j,chs.length=j+1:=⟨chs.length-1,by omega⟩
  have hjm:chs.length-1=j:=by omega
  rw[hjm]at hw hWf
  have hSl:(mrgS recs CB).length=chs.length:=by unfold mrgS;simp[hCBl]
  have hTC:(rowsN (mrgS recs CB)).take j=rowsN ((mrgS recs CB).take j):=rowsN_take _ _
  have hTCl:((mrgS recs CB).take j).length=j:=by rw[List.length_take,hSl];omega
  have hw':dropF l h x=(((c.idxOf r:Nat):Int)+1+((mrgO recs CB).length:Nat),wordsF (recs.take r) ((mrgS recs CB).take j),0):=by
   rw[hw];simp
  rw[hw']
  refine wA_ok hmix (ctD_ok (A:=c18r) (B:=c78o) (C:=c84d) a18r a78o a84d) _ (by kernel_rfl) ?_
  repeat(first |(with_reducible first |apply Q0 |apply Q1 |apply QG |apply Q2 |apply Q3 |apply Q4 |apply Q5 |apply Q6 |apply Q7 |apply Q8 |apply Q9 |apply QA |apply QB |apply QC |apply QD |apply QE |apply QF) |((first |(with_reducible apply QK rfl) |(apply QT;simp only[go_sem]<;>exact rfl));simp(disch:=omega)only[go_sem,hs,upd_ne,cal78,ctD_78,c78o,rdD_dsl,hl,hV,hR,hC,cal21,ctD_21,ctR_21,c21,hh,cal79,ctD_79,c79,rdT,rdE2,rdC,hcn,het,hel,elsOf_elsA,hW,hh2,e1,hnl,List.drop_zero,cal22,ctD_22,ctR_22,c22r,hix,cal83,ctD_83,c83,rdN_dsl,hrc,hcl,hrT,cal84,ctD_84,hc2,hlI,hlT,Nat.sub_zero,cal18,ctD_18,h18,hN',hct,rdRows_data,hcx,hset0,c84d,hdvI,cal85,ctD_85,c85,bxK,eK_ok,cK_ok,hMO,hCBl,hjm,cal51,ctD_51,c51o,hTE,hTl,hTC,hTCl,hWf,rowsN_len,rdRows_data];exact rfl;simp only[sB,sA,putA];exact rfl) |((first |(with_reducible apply QL rfl) |(apply QM;simp only[go_sem]<;>exact rfl));simp(disch:=omega)only[go_sem,hs,upd_ne,cal78,ctD_78,c78o,rdD_dsl,hl,hV,hR,hC,cal21,ctD_21,ctR_21,c21,hh,cal79,ctD_79,c79,rdT,rdE2,rdC,hcn,het,hel,elsOf_elsA,hW,hh2,e1,hnl,List.drop_zero,cal22,ctD_22,ctR_22,c22r,hix,cal83,ctD_83,c83,rdN_dsl,hrc,hcl,hrT,cal84,ctD_84,hc2,hlI,hlT,Nat.sub_zero,cal18,ctD_18,h18,hN',hct,rdRows_data,hcx,hset0,c84d,hdvI,cal85,ctD_85,c85,bxK,eK_ok,cK_ok,hMO,hCBl,hjm,cal51,ctD_51,c51o,hTE,hTl,hTC,hTCl,hWf,rowsN_len,rdRows_data];exact rfl;simp only[sB,sA,putA];exact rfl;simp only[logT_none,logT_rd,logT_wr,List.cons_append,List.nil_append];exact rfl) |((first |apply QI |apply QN);simp only[go_sem]<;>exact rfl;simp only[sB,sA,putA];exact rfl) |(refine QO ?_ ?_;first |focus(simp only[dyn_nil,dyn_cons,allY_nil,allY_cons,dj_rr,true_or,true_and];done) |focus(simp only[dyn_nil,dyn_cons,allY_nil,allY_cons,Dj,List.mem_cons,List.not_mem_nil,or_false,forall_eq,forall_eq_or_imp,and_true,true_and,false_imp_iff,implies_true];omega) |focus(simp only[dyn_nil,dyn_cons,allY_nil,allY_cons,and_true,true_and];(repeat' refine And.intro ?_ ?_);all_goals first |(left;simp only[Dj,List.mem_cons,List.not_mem_nil,or_false,forall_eq,forall_eq_or_imp,and_true,true_and,false_imp_iff,implies_true];first |done |omega) |(right;kernel_rfl))) |(apply QQ;simp only[evA,gB,gA];exact rfl) |((first |apply QX |apply QY);(first |rfl |decide |assumption)))
  (apply QZ;simp(disch:=omega)only[go_sem,Try.results37];exact rfl;simp only[packA];exact rfl)
  exact⟨_,rfl,_,_,rfl,by simp(disch:=omega)only[upd_same,upd_ne]⟩
 ·rw[if_neg hdv]at hw
  have hWf:=hw0 hdv
  have hdvI:¬((bkts r:Nat):Int)<((chs.length:Nat):Int):=by omega
  have hTC:(rowsN CB).take chs.length=rowsN CB:=List.take_of_length_le (by rw[rowsN_len,hCBl];exact Nat.le_refl _)
  have hw':dropF l h x=(((c.idxOf r:Nat):Int)+1,wordsF (recs.take r) CB,0):=by
   rw[hw];simp
  rw[hw']
  refine wA_ok hmix (ctD_ok (A:=c18r) (B:=c78o) (C:=c84d) a18r a78o a84d) _ (by kernel_rfl) ?_
  repeat(first |(with_reducible first |apply Q0 |apply Q1 |apply QG |apply Q2 |apply Q3 |apply Q4 |apply Q5 |apply Q6 |apply Q7 |apply Q8 |apply Q9 |apply QA |apply QB |apply QC |apply QD |apply QE |apply QF) |((first |(with_reducible apply QK rfl) |(apply QT;simp only[go_sem]<;>exact rfl));simp(disch:=omega)only[go_sem,hs,upd_ne,cal78,ctD_78,c78o,rdD_dsl,hl,hV,hR,hC,cal21,ctD_21,ctR_21,c21,hh,cal79,ctD_79,c79,rdT,rdE2,rdC,hcn,het,hel,elsOf_elsA,hW,hh2,e1,hnl,List.drop_zero,cal22,ctD_22,ctR_22,c22r,hix,cal83,ctD_83,c83,rdN_dsl,hrc,hcl,hrT,cal84,ctD_84,hc2,hlI,hlT,Nat.sub_zero,cal18,ctD_18,h18,hN',hct,rdRows_data,hcx,hset0,c84d,hdvI,cal51,ctD_51,c51o,hTE,hTl,hTC,hCBl,hWf,rowsN_len,rdRows_data];exact rfl;simp only[sB,sA,putA];exact rfl) |((first |(with_reducible apply QL rfl) |(apply QM;simp only[go_sem]<;>exact rfl));simp(disch:=omega)only[go_sem,hs,upd_ne,cal78,ctD_78,c78o,rdD_dsl,hl,hV,hR,hC,cal21,ctD_21,ctR_21,c21,hh,cal79,ctD_79,c79,rdT,rdE2,rdC,hcn,het,hel,elsOf_elsA,hW,hh2,e1,hnl,List.drop_zero,cal22,ctD_22,ctR_22,c22r,hix,cal83,ctD_83,c83,rdN_dsl,hrc,hcl,hrT,cal84,ctD_84,hc2,hlI,hlT,Nat.sub_zero,cal18,ctD_18,h18,hN',hct,rdRows_data,hcx,hset0,c84d,hdvI,cal51,ctD_51,c51o,hTE,hTl,hTC,hCBl,hWf,rowsN_len,rdRows_data];exact rfl;simp only[sB,sA,putA];exact rfl;simp only[logT_none,logT_rd,logT_wr,List.cons_append,List.nil_append];exact rfl) |((first |apply QI |apply QN);simp only[go_sem]<;>exact rfl;simp only[sB,sA,putA];exact rfl) |(refine QO ?_ ?_;first |focus(simp only[dyn_nil,dyn_cons,allY_nil,allY_cons,dj_rr,true_or,true_and];done) |focus(simp only[dyn_nil,dyn_cons,allY_nil,allY_cons,Dj,List.mem_cons,List.not_mem_nil,or_false,forall_eq,forall_eq_or_imp,and_true,true_and,false_imp_iff,implies_true];omega) |focus(simp only[dyn_nil,dyn_cons,allY_nil,allY_cons,and_true,true_and];(repeat' refine And.intro ?_ ?_);all_goals first |(left;simp only[Dj,List.mem_cons,List.not_mem_nil,or_false,forall_eq,forall_eq_or_imp,and_true,true_and,false_imp_iff,implies_true];first |done |omega) |(right;kernel_rfl))) |(apply QQ;simp only[evA,gB,gA];exact rfl) |((first |apply QX |apply QY);(first |rfl |decide |assumption)))
  (apply QZ;simp(disch:=omega)only[go_sem,Try.results37];exact rfl;simp only[packA];exact rfl)
  exact⟨_,rfl,_,_,rfl,by simp(disch:=omega)only[upd_same,upd_ne]⟩
set_option maxRecDepth 100000 in
set_option maxHeartbeats 8000000 in
theorem rdrop_ro (l:List Int) (h x:Int) (hl:l.length≤1000000000):
  RO Try.prog 37 [.dsl l.length (ints l),.sc (.int .i64 h),.sc (.int .i64 x)] (OwnT (ansX (dropF l h x).2.2 (dropF l h x).2.1) [.int .i64 (dropF l h x).1,.int .i64 (dropF l h x).2.2]):=by
 refine ro_of Try.func37 rfl (fun E s hs=>?_)
 simp(maxSteps:=300000)only[begA,Try.ntmps37,List.replicate_succ,List.replicate_zero,List.length_cons,List.length_nil,List.cons_append,List.nil_append]
 by_cases hV:ValidL l
 rotate_left
 ·rw[dropF_600 hV]
  refine wA_ok hmix ctS_ok _ (by kernel_rfl) ?_
  repeat(first |(with_reducible first |apply Q0 |apply Q1 |apply Q2 |apply Q3 |apply Q4 |apply Q5 |apply Q6 |apply Q7 |apply Q8 |apply Q9 |apply QA |apply QB |apply QC |apply QD |apply QE |apply QF) |((first |(with_reducible apply QK rfl) |(apply QT;simp only[go_sem]<;>exact rfl));simp(disch:=omega)only[go_sem,hs,upd_ne,cal78,ctS_78,c78o,rdD_dsl,hl,hV];exact rfl;simp only[sB,sA,putA];exact rfl) |(apply QI;simp only[go_sem]<;>exact rfl;simp only[sB,sA,putA];exact rfl) |(apply QQ;simp only[evA,gB,gA];exact rfl) |((first |apply QX |apply QY);(first |rfl |decide |assumption)))
  (apply QZ;simp(disch:=omega)only[go_sem,Try.results37];exact rfl;simp only[packA];exact rfl)
  exact⟨_,rfl,rfl⟩
 have hW:=wok_valid hV
 have hn1:=hW.n
 have hb:=hW.b
 have hb8:=bkts8 (recsT l).length
 have hbl:=bkts_le (recsT l).length (by omega)
 have hdok:=fun hh h0 r hr=>drop_ok (h:=h) (x:=x) hV hh h0 (r:=r) hr
 have hor:=of_rec (h:=h) (x:=x) hV
 have how:=of_wds (h:=h) (x:=x) hV
 obtain⟨recs,hR⟩:∃recs,recs=recsT l:=⟨_,rfl⟩
 obtain⟨chs,hC⟩:∃chs,chs=chsT l:=⟨_,rfl⟩
 rw[←hR,←hC]at hW hb hdok hor how
 rw[←hR]at hn1 hb8 hbl
 replace hR:=hR.symm
 replace hC:=hC.symm
 rw[←hb]at hb8 hbl
 have hcn:(rowsN chs).length=chs.length:=rowsN_len _
 have hct:(rowsN chs).take chs.length=rowsN chs:=List.take_of_length_le (by rw[rowsN_len];exact Nat.le_refl _)
 have het:=elsA_take recs
 have hel:=elsA_len recs
 have hN:(recs=[]∧∀k,newE recs k=k (.sc (.slice none 0 0)))∨(0<recs.length∧∀k,newE recs k= .new (.row 0 2 (elsA recs)) fun n=>k (.sl n 0 0 recs.length)):=by
  by_cases h0:recs.length=0
  ·obtain rfl:=List.length_eq_zero_iff.1 h0
   exact .inl ⟨rfl,fun k=>rfl⟩
  ·exact .inr ⟨by omega,fun k=>if_neg h0⟩
 by_cases hh:¬(0≤h∧h≤2147483647)
 ·rw[dropF_bad hV hh]
  refine wA_ok hmix ctS_ok _ (by kernel_rfl) ?_
  rcases hN with⟨rfl,hN⟩ |⟨h0,hN⟩
  all_goals
   repeat(first |(with_reducible first |apply Q0 |apply Q1 |apply Q2 |apply Q3 |apply Q4 |apply Q5 |apply Q6 |apply Q7 |apply Q8 |apply Q9 |apply QA |apply QB |apply QC |apply QD |apply QE |apply QF) |((first |(with_reducible apply QK rfl) |(apply QT;simp only[go_sem]<;>exact rfl));simp(disch:=omega)only[go_sem,hs,upd_ne,cal78,ctS_78,c78o,rdD_dsl,hl,hV,hR,hC,hN,cal21,ctS_21,ctR_21,c21,hh];exact rfl;simp only[sB,sA,putA];exact rfl) |(apply QI;simp only[go_sem]<;>exact rfl;simp only[sB,sA,putA];exact rfl) |(apply QQ;simp only[evA,gB,gA];exact rfl) |((first |apply QX |apply QY);(first |rfl |decide |assumption)))
   (apply QZ;simp(disch:=omega)only[go_sem,Try.results37];exact rfl;simp only[packA];exact rfl)
   exact⟨_,rfl,rfl⟩
 replace hh:0≤h∧h≤2147483647:=Decidable.not_not.1 hh
 have hh2:h≤4294967296:=by omega
 by_cases ho:0≤ofF recs chs (h,x)
 rotate_left
 ·have hol:ofF recs chs (h,x)<0:=by omega
  rw[dropF_none hV hh (mt how.2 ho)]
  refine wA_ok hmix ctS_ok _ (by kernel_rfl) ?_
  rcases hN with⟨rfl,hN⟩ |⟨h0,hN⟩
  all_goals
   repeat(first |(with_reducible first |apply Q0 |apply Q1 |apply Q2 |apply Q3 |apply Q4 |apply Q5 |apply Q6 |apply Q7 |apply Q8 |apply Q9 |apply QA |apply QB |apply QC |apply QD |apply QE |apply QF) |((first |(with_reducible apply QK rfl) |(apply QT;simp only[go_sem]<;>exact rfl));simp(disch:=omega)only[go_sem,hs,upd_ne,cal78,ctS_78,c78o,rdD_dsl,hl,hV,hR,hC,hN,cal21,ctS_21,ctR_21,c21,hh,cal79,ctS_79,c79,rdT,rdE2,rdC,hct,hcn,het,hel,elsOf_elsA,rdRows_data,hW,hh2,hol,List.drop_zero];exact rfl;simp only[sB,sA,putA];exact rfl) |(apply QI;simp only[go_sem]<;>exact rfl;simp only[sB,sA,putA];exact rfl) |(apply QQ;simp only[evA,gB,gA];exact rfl) |((first |apply QX |apply QY);(first |rfl |decide |assumption)))
   (apply QZ;simp(disch:=omega)only[go_sem,Try.results37];exact rfl;simp only[packA];exact rfl)
   exact⟨_,rfl,rfl⟩
 obtain⟨r,e1,_⟩:=hor ho
 rw[←hR,←hC]at ho e1
 by_cases hrl:r=(recsT l).length-1
 ·exact rdrop_A l h x hl hV hh ho r e1 hrl E s hs
 by_cases hk:drpK (recsT l) (chsT l).length=bkt h.toNat (chsT l).length
 ·exact rdrop_C l h x hl hV hh ho r e1 hrl hk E s hs
 ·exact rdrop_B l h x hl hV hh ho r e1 hrl hk E s hs
end Go.Proofs.Ytdcomhdadnhpnaa
end
section
section
namespace Go.Proofs.Ytdcomhdadnhpnaa
open Go Go.Am Go.RowKit
attribute [local irreducible] wA opsQ opsLQ thenA blockA EndA
open Classical in
/-- the elements that Read finds -/
noncomputable def recsX (l:List Int):List (Int×Int):=if ValidL l then recsT l else(badR l).1
theorem recsX_len (l:List Int):(recsX l).length≤100000:=by
 unfold recsX
 split
 ·rename_i hV;exact(wok_valid hV).n
 ·unfold badR readX
  split
  ·split
   ·simp
   ·split
    ·rename_i h _ _ _ _
     simp only[Option.getD_some,recsF_len]
     omega
    ·simp
  ·simp
noncomputable def chosenF (l:List Int) (n:Int):Int×Int:=(recsX l).getD ((n.tmod (recsX l).length+(recsX l).length).tmod (recsX l).length).toNat (0,0)
noncomputable def ctE:CT:=fun f args=>if f=78 then c78 args else ctQ f args
theorem ctE_ok:CTok Try.prog ctE:=fun f args=>by
 unfold ctE
 split
 ·rename_i e;subst e;exact a78 args
 ·exact ctQ_ok f args
theorem ctE_78 (a:List AV):ctE 78 a=c78 a:=rfl
set_option maxRecDepth 100000 in
set_option maxHeartbeats 4000000 in
theorem chosen_rc (l:List Int) (n:Int) (hl:l.length≤1000000000):
  RC Try.prog 34 [.dsl l.length (ints l),.sc (.int .i64 n)] (.agg [.sc (.int .i64 (chosenF l n).1),.sc (.int .i64 (chosenF l n).2)]):=by
 refine rc_of hmix ctE_ok Try.func34 rfl (by kernel_rfl) (fun E s hs=>?_)
 simp(maxSteps:=300000)only[begA,Try.ntmps34,List.replicate_succ,List.replicate_zero,List.length_cons,List.length_nil,List.cons_append,List.nil_append]
 have hlen:=recsX_len l
 obtain⟨chs,b,hc⟩:∃chs b,c78 [.dsl l.length (ints l)]= .ret (.tup [tabG (recsX l) chs,.sc (.bool b)]):=by
  unfold c78
  simp only[rdD_dsl]
  rw[if_pos hl]
  unfold recsX
  by_cases hV:ValidL l
  ·rw[if_pos hV,if_pos hV];exact⟨_,_,rfl⟩
  ·rw[if_neg hV,if_neg hV];exact⟨_,_,rfl⟩
 unfold chosenF
 generalize recsX l=recs at*
 by_cases h0:recs.length=0
 ·obtain rfl:=List.length_eq_zero_iff.1 h0
  repeat(first |(with_reducible first |apply Q0 |apply Q1 |apply QG |apply Q2 |apply Q3 |apply Q4 |apply Q5 |apply Q6 |apply Q7 |apply Q8 |apply Q9 |apply QA |apply QB |apply QC |apply QD |apply QE |apply QF) |((first |(with_reducible apply QK rfl) |(apply QT;simp only[go_sem]<;>exact rfl));simp(disch:=omega)only[go_sem,hs,upd_ne,cal78,ctE_78,hc];exact rfl;simp only[sB,sA,putA];exact rfl) |((first |(with_reducible apply QL rfl) |(apply QM;simp only[go_sem]<;>exact rfl));simp(disch:=omega)only[go_sem,hs,upd_ne,cal78,ctE_78,hc];exact rfl;simp only[sB,sA,putA];exact rfl;simp only[logT_none,logT_rd,logT_wr,List.cons_append,List.nil_append];exact rfl) |((first |apply QI |apply QN);simp only[go_sem]<;>exact rfl;simp only[sB,sA,putA];exact rfl) |(refine QO ?_ ?_;first |focus(simp only[dyn_nil,dyn_cons,allY_nil,allY_cons,dj_rr,true_or,true_and];done) |focus(simp only[dyn_nil,dyn_cons,allY_nil,allY_cons,Dj,List.mem_cons,List.not_mem_nil,or_false,forall_eq,forall_eq_or_imp,and_true,true_and,false_imp_iff,implies_true];omega) |focus(simp only[dyn_nil,dyn_cons,allY_nil,allY_cons,and_true,true_and];(repeat' refine And.intro ?_ ?_);all_goals first |(left;simp only[Dj,List.mem_cons,List.not_mem_nil,or_false,forall_eq,forall_eq_or_imp,and_true,true_and,false_imp_iff,implies_true];first |done |omega) |(right;kernel_rfl))) |(apply QQ;simp only[evA,gB,gA];exact rfl) |((first |apply QX |apply QY);(first |rfl |decide |assumption)))
  (apply QZ;simp(disch:=omega)only[go_sem,Try.results34];exact rfl;simp only[packA];exact rfl)
  exact .agg rfl (fun i a b ha hb=>by
   match i with
   |0=>simp at ha hb;subst ha;subst hb;exact .sc _
   |1=>simp at ha hb;subst ha;subst hb;exact .sc _
   |i+2=>simp at ha)
 ·have hL0:(0:Int)<(recs.length:Int):=by omega
  have hne:((recs.length:Nat):Int)≠0:=by omega
  have hne2:¬((recs.length:Nat):Int)=0:=hne
  have h1:=Int.lt_tmod_of_pos n hL0
  have h1':=Int.tmod_lt_of_pos n hL0
  have h2:=Int.tmod_lt_of_pos (n.tmod recs.length+recs.length) hL0
  have h3:0≤(n.tmod recs.length+recs.length).tmod recs.length:=Int.tmod_nonneg _ (by omega)
  obtain⟨kk,hkk⟩:∃kk:Nat,(n.tmod recs.length+recs.length).tmod recs.length=(kk:Int):=⟨((n.tmod recs.length+recs.length).tmod recs.length).toNat,by omega⟩
  have hk2:kk<recs.length:=by omega
  rw[hkk,Int.toNat_natCast,show recs.getD kk (0,0)=recs[kk]by simp[hk2]]
  repeat(first |(with_reducible first |apply Q0 |apply Q1 |apply QG |apply Q2 |apply Q3 |apply Q4 |apply Q5 |apply Q6 |apply Q7 |apply Q8 |apply Q9 |apply QA |apply QB |apply QC |apply QD |apply QE |apply QF) |((first |(with_reducible apply QK rfl) |(apply QT;simp only[go_sem]<;>exact rfl));simp(disch:=omega)only[go_sem,hs,upd_ne,cal78,ctE_78,hc,hne2,bin_remT hne,hkk,elsA_len,elsA_drop];exact rfl;simp only[sB,sA,putA];exact rfl) |((first |(with_reducible apply QL rfl) |(apply QM;simp only[go_sem]<;>exact rfl));simp(disch:=omega)only[go_sem,hs,upd_ne,cal78,ctE_78,hc,hne2,bin_remT hne,hkk,elsA_len,elsA_drop];exact rfl;simp only[sB,sA,putA];exact rfl;simp only[logT_none,logT_rd,logT_wr,List.cons_append,List.nil_append];exact rfl) |((first |apply QI |apply QN);simp only[go_sem]<;>exact rfl;simp only[sB,sA,putA];exact rfl) |(refine QO ?_ ?_;first |focus(simp only[dyn_nil,dyn_cons,allY_nil,allY_cons,dj_rr,true_or,true_and];done) |focus(simp only[dyn_nil,dyn_cons,allY_nil,allY_cons,Dj,List.mem_cons,List.not_mem_nil,or_false,forall_eq,forall_eq_or_imp,and_true,true_and,false_imp_iff,implies_true];omega) |focus(simp only[dyn_nil,dyn_cons,allY_nil,allY_cons,and_true,true_and];(repeat' refine And.intro ?_ ?_);all_goals first |(left;simp only[Dj,List.mem_cons,List.not_mem_nil,or_false,forall_eq,forall_eq_or_imp,and_true,true_and,false_imp_iff,implies_true];first |done |omega) |(right;kernel_rfl))) |(apply QQ;simp only[evA,gB,gA];exact rfl) |((first |apply QX |apply QY);(first |rfl |decide |assumption)))
  (apply QZ;simp(disch:=omega)only[go_sem,Try.results34];exact rfl;simp only[packA];exact rfl)
  exact .agg rfl (fun i a b ha hb=>by
   match i with
   |0=>simp at ha hb;subst ha;subst hb;exact .sc _
   |1=>simp at ha hb;subst ha;subst hb;exact .sc _
   |i+2=>simp at ha)
noncomputable def c34:List AV→AP AV
 | [t,.sc (.int .i64 n)]=>rdK t fun l=>if l.length≤1000000000 then .ret (.agg [.sc (.int .i64 (chosenF l n).1),.sc (.int .i64 (chosenF l n).2)])else .fail
 |_=>.fail
noncomputable def c35o:List AV→AP AV
 | [t,.sc (.int .i64 h),.sc (.int .i64 x)]=>rdK t fun l=>if l.length≤1000000000 then outX (ansX (addF l h x).2.2 (addF l h x).2.1) [.int .i64 (addF l h x).1,.int .i64 (addF l h x).2.2]else .fail
 |_=>.fail
noncomputable def c37o:List AV→AP AV
 | [t,.sc (.int .i64 h),.sc (.int .i64 x)]=>rdK t fun l=>if l.length≤1000000000 then outX (ansX (dropF l h x).2.2 (dropF l h x).2.1) [.int .i64 (dropF l h x).1,.int .i64 (dropF l h x).2.2]else .fail
 |_=>.fail
noncomputable def c39o:List AV→AP AV
 | [t,.sc (.int .i64 h),.sc (.int .i64 x),.sc (.int .i64 v)]=>rdK t fun l=>if l.length≤1000000000 then outX (ansX (putF l h x v).2 (putF l h x v).1) [.int .i64 (putF l h x v).2]else .fail
 |_=>.fail
noncomputable def c57o:List AV→AP AV
 | [t,A]=>rdK t fun l=>rdE2 A fun mv=>if l.length≤1000000000∧mv.length≤1000000000 then outX (ansX (rmoveF l mv).2 (rmoveF l mv).1) [.int .i64 (rmoveF l mv).2]else .fail
 |_=>.fail
theorem arg3 {ρ:Inj} {O:Nat→Prop} {w:World} {a b c:AV} {vs:List Value} (h:Reps ρ O w [a,b,c] vs):∃x y z,vs=[x,y,z]∧Rep ρ O w a x∧Rep ρ O w b y∧Rep ρ O w c z:=by
 obtain⟨x,t,rfl,h1,h2⟩:=Reps.uncons h
 obtain⟨y,z,rfl,h3,h4⟩:=arg2 h2
 exact⟨x,y,z,rfl,h1,h3,h4⟩
theorem arg4 {ρ:Inj} {O:Nat→Prop} {w:World} {a b c d:AV} {vs:List Value} (h:Reps ρ O w [a,b,c,d] vs):∃x y z u,vs=[x,y,z,u]∧Rep ρ O w a x∧Rep ρ O w b y∧Rep ρ O w c z∧Rep ρ O w d u:=by
 obtain⟨x,t,rfl,h1,h2⟩:=Reps.uncons h
 obtain⟨y,z,u,rfl,h3,h4,h5⟩:=arg3 h2
 exact⟨x,y,z,u,rfl,h1,h3,h4,h5⟩
theorem a34 (args:List AV):ACall Try.prog 34 args (c34 args):=by
 intro ρ H w vs hR hA s r H' s' hm
 unfold c34 at hm
 split at hm
 ·obtain⟨v0,v1,rfl,hv0,hv1⟩:=arg2 hA
  obtain⟨l,hr,hm⟩:=rdK_data hR hv0 hm
  split at hm
  ·rename_i hc
   obtain rfl:=Rep.sc_iff.1 hv1
   simp only[AP.run,Option.some.injEq,Prod.mk.injEq]at hm
   obtain⟨rfl,rfl,rfl⟩:=hm
   exact(chosen_rc l _ hc).acall hR (.cons hr (.cons (.sc _) .nil))
  ·simp[AP.run]at hm
 ·simp[AP.run]at hm
theorem a35o (args:List AV):ACall Try.prog 35 args (c35o args):=by
 intro ρ H w vs hR hA s r H' s' hm
 unfold c35o at hm
 split at hm
 ·obtain⟨v0,v1,v2,rfl,hv0,hv1,hv2⟩:=arg3 hA
  obtain⟨l,hr,hm⟩:=rdK_data hR hv0 hm
  split at hm
  ·rename_i hc
   obtain rfl:=Rep.sc_iff.1 hv1
   obtain rfl:=Rep.sc_iff.1 hv2
   exact(radd_ro l _ _ hc).ownT hR (.cons hr (.cons (.sc _) (.cons (.sc _) .nil))) hm
  ·simp[AP.run]at hm
 ·simp[AP.run]at hm
theorem a37o (args:List AV):ACall Try.prog 37 args (c37o args):=by
 intro ρ H w vs hR hA s r H' s' hm
 unfold c37o at hm
 split at hm
 ·obtain⟨v0,v1,v2,rfl,hv0,hv1,hv2⟩:=arg3 hA
  obtain⟨l,hr,hm⟩:=rdK_data hR hv0 hm
  split at hm
  ·rename_i hc
   obtain rfl:=Rep.sc_iff.1 hv1
   obtain rfl:=Rep.sc_iff.1 hv2
   exact(rdrop_ro l _ _ hc).ownT hR (.cons hr (.cons (.sc _) (.cons (.sc _) .nil))) hm
  ·simp[AP.run]at hm
 ·simp[AP.run]at hm
theorem a39o (args:List AV):ACall Try.prog 39 args (c39o args):=by
 intro ρ H w vs hR hA s r H' s' hm
 unfold c39o at hm
 split at hm
 ·obtain⟨v0,v1,v2,v3,rfl,hv0,hv1,hv2,hv3⟩:=arg4 hA
  obtain⟨l,hr,hm⟩:=rdK_data hR hv0 hm
  split at hm
  ·rename_i hc
   obtain rfl:=Rep.sc_iff.1 hv1
   obtain rfl:=Rep.sc_iff.1 hv2
   obtain rfl:=Rep.sc_iff.1 hv3
   exact(rput_ro l _ _ _ hc).ownT hR (.cons hr (.cons (.sc _) (.cons (.sc _) (.cons (.sc _) .nil)))) hm
  ·simp[AP.run]at hm
 ·simp[AP.run]at hm
theorem a57o (args:List AV):ACall Try.prog 57 args (c57o args):=by
 intro ρ H w vs hR hA s r H' s' hm
 unfold c57o at hm
 split at hm
 ·obtain⟨v0,v1,rfl,hv0,hv1⟩:=arg2 hA
  obtain⟨l,hr,hm⟩:=rdK_data hR hv0 hm
  obtain⟨mv,hr1,hm⟩:=rdE2_data hR hv1 hm
  split at hm
  ·rename_i hc
   exact(rmove_ro l mv hc.1 hc.2).ownT hR (.cons hr (.cons hr1 .nil)) hm
  ·simp[AP.run]at hm
 ·simp[AP.run]at hm
noncomputable def ctF:CT:=fun f args=>if f=34 then c34 args else if f=35 then c35o args else if f=37 then c37o args else if f=39 then c39o args else if f=57 then c57o args else if f=51 then c51o args else ctQ f args
theorem ctF_ok:CTok Try.prog ctF:=fun f args=>by
 unfold ctF
 split
 ·rename_i e;subst e;exact a34 args
 split
 ·rename_i e;subst e;exact a35o args
 split
 ·rename_i e;subst e;exact a37o args
 split
 ·rename_i e;subst e;exact a39o args
 split
 ·rename_i e;subst e;exact a57o args
 split
 ·rename_i e;subst e;exact a51o args
 ·exact ctQ_ok f args
theorem ctF_34 (a:List AV):ctF 34 a=c34 a:=rfl
theorem ctF_35 (a:List AV):ctF 35 a=c35o a:=rfl
theorem ctF_37 (a:List AV):ctF 37 a=c37o a:=rfl
theorem ctF_39 (a:List AV):ctF 39 a=c39o a:=rfl
theorem ctF_57 (a:List AV):ctF 57 a=c57o a:=rfl
theorem cal34:callable Try.prog 34=true:=by kernel_rfl
theorem cal35:callable Try.prog 35=true:=by kernel_rfl
theorem cal37:callable Try.prog 37=true:=by kernel_rfl
theorem cal39:callable Try.prog 39=true:=by kernel_rfl
theorem cal57:callable Try.prog 57=true:=by kernel_rfl
end Go.Proofs.Ytdcomhdadnhpnaa
end
section
namespace Go.Proofs.Ytdcomhdadnhpnaa
open Go Go.Am Go.RowKit
attribute [local irreducible] wA opsQ opsLQ thenA blockA EndA
theorem put4 (a b c d e f g h:AV):putCells [a,b,c,d] 0 [e,f,g,h]=[e,f,g,h]:=rfl
attribute [local go_sem] put4
structure OpT where
 k:Int
 h:Int
 w:Int
 v:Int
abbrev opG (o:OpT):AV:=.agg [.sc (.int .i64 o.k),.sc (.int .i64 o.h),.sc (.int .i64 o.w),.sc (.int .i64 o.v)]
def opsA (L:List OpT):List AV:=L.flatMap fun o=>[.sc (.int .i64 o.k),.sc (.int .i64 o.h),.sc (.int .i64 o.w),.sc (.int .i64 o.v)]
theorem opsA_cons (o:OpT) (L:List OpT):opsA (o::L)= .sc (.int .i64 o.k):: .sc (.int .i64 o.h):: .sc (.int .i64 o.w):: .sc (.int .i64 o.v)::opsA L:=rfl
theorem opsA_len (L:List OpT):(opsA L).length=L.length*4:=by
 induction L with
 |nil=>rfl
 |cons o L ih=>rw[opsA_cons];simp only[List.length_cons,ih];omega
theorem opsA_drop:∀ {L:List OpT} {k:Nat} (h:k<L.length),(opsA L).drop (k*4)= .sc (.int .i64 L[k].k):: .sc (.int .i64 L[k].h):: .sc (.int .i64 L[k].w):: .sc (.int .i64 L[k].v)::opsA (L.drop (k+1))
 |o::L,0,h=>by simp[opsA_cons]
 |o::L,k+1,h=>by
  have:=opsA_drop (L:=L) (k:=k) (by simpa using h)
  rw[opsA_cons,show(k+1)*4=k*4+1+1+1+1 by omega,List.drop_succ_cons,List.drop_succ_cons,List.drop_succ_cons,List.drop_succ_cons,this]
  rfl
noncomputable def stepE (l:List Int) (o:OpT):Int×List Int:=
 if o.k=0 then((addF l o.h o.w).2.2,(addF l o.h o.w).2.1)
 else if o.k=1 then((dropF l (chosenF l o.w).1 (chosenF l o.w).2).2.2,(dropF l (chosenF l o.w).1 (chosenF l o.w).2).2.1)
 else if o.k=2 then((putF l (chosenF l o.w).1 (chosenF l o.w).2 o.v).2,(putF l (chosenF l o.w).1 (chosenF l o.w).2 o.v).1)
 else if o.k=3 then((rmoveF l [(o.w,o.v)]).2,(rmoveF l [(o.w,o.v)]).1)
 else(1,l)
noncomputable def stepF (l:List Int) (o:OpT):List Int:=if(stepE l o).1=0 then(stepE l o).2 else l
noncomputable def stepA (nm ver:Nat) (l:List Int) (o:OpT):AP AV:=
 if(stepE l o).1=0 then .new (.row 0 1 (ints (stepF l o))) fun n=>.ret (.sl n 0 0 (stepF l o).length)else .ret (.sl nm ver 0 l.length)
open Classical in
noncomputable def iK (ver:Nat) (k:List Int→AP AV) (o:AO):AP AV:=if h:∃l,o= .row ver 1 (ints l)then k h.choose else .fail
theorem ints_inj {a b:List Int} (h:ints a=ints b):a=b:=by
 have:=congrArg intsOf h
 rw[intsOf_ints,intsOf_ints]at this
 exact Option.some.inj this
theorem iK_ok {ver:Nat} {k:List Int→AP AV} {l:List Int}:iK ver k (.row ver 1 (ints l))=k l:=by
 have h:∃m,AO.row ver 1 (ints l)= .row ver 1 (ints m):=⟨l,rfl⟩
 unfold iK;rw[dif_pos h]
 have:=h.choose_spec
 injection this with _ _ h3
 rw[←ints_inj h3]
theorem iK_some {ver s:Nat} {k:List Int→AP AV} {o:AO} {H:AHp} {x:AV×AHp×Nat} (h:(iK ver k o).run H s=some x):∃l,o= .row ver 1 (ints l)∧(k l).run H s=some x:=by
 unfold iK at h
 split at h
 ·rename_i hh;exact⟨_,hh.choose_spec,h⟩
 ·simp[AP.run]at h
noncomputable def c90:List AV→AP AV
 | [.sl nm ver 0 len,.agg [.sc (.int .i64 k),.sc (.int .i64 h),.sc (.int .i64 w),.sc (.int .i64 v)]]=>.get nm (iK ver fun l=>if l.length≤1000000000∧len=l.length then stepA nm ver l ⟨k,h,w,v⟩else .fail)
 |_=>.fail
theorem end_keep {E:Ent} {s nm ver len:Nat} {H1:AHp} (hs:∀q,s≤q→E.H q=none) (hE:∀q,q<s→H1 q=E.H q) (hn:E.H nm≠none):
  ∃(H2:AHp) (r2:AV) (N:Nat→Option (Nat×Nat)),WkH H1 H2∧Wk r2 (.sl nm ver 0 len)∧Fin E.H H2 N E.H∧Pub H2 (fun n=>E.H n≠none∧N n=none) N (.sl nm ver 0 len) r2:=by
 refine⟨H1,_,fun _=>none,WkH.refl _,Wk.rfl',⟨fun n hn=>⟨hn,rfl⟩,fun n o' hn=>.inl ⟨rfl,.inl ⟨hn,?_⟩⟩,fun a b n o o' h=>by simp at h,fun q n o h=>by simp at h,⟨s,hs⟩⟩,.same ?_⟩
 ·rw[hE n (Nat.lt_of_not_le fun k=>by rw[hs n k]at hn;cases hn)];exact hn
 ·exact⟨hn,rfl⟩
theorem end_new {E:Ent} {s s0 q ver:Nat} {u:List Int} {H1:AHp} (hs:∀n,s≤n→E.H n=none∧upd E.H s0 (.row 0 1 (ints u)) n=none) (h0:E.H s0=none) (hE:∀q,q<s→H1 q=E.H q) (hq:H1 q=some (.row ver 1 (ints u))) (hqs:s≤q):
  ∃(H2:AHp) (r2:AV) (N:Nat→Option (Nat×Nat)),WkH H1 H2∧Wk r2 (.sl s0 0 0 u.length)∧Fin E.H H2 N (upd E.H s0 (.row 0 1 (ints u)))∧Pub H2 (fun n=>upd E.H s0 (.row 0 1 (ints u)) n≠none∧N n=none) N (.sl q ver 0 u.length) r2:=by
 have hs0:s0<s:=Nat.lt_of_not_le fun h=>by have:=(hs s0 h).2;rw[upd_same]at this;cases this
 have hF:=fin_rows (H0:=E.H) (H1:=H1) (s:=s) (lo:=s0) [(q,ver,1,ints u)] (fun n hn=>(hs n hn).1) (by simp;omega) (fun i hi=>by
   have:i=0:=by simpa using hi
   subst this;exact h0) hE (fun i x hx=>by
   cases i with
   |zero=>
    simp at hx;subst hx
    exact⟨hqs,hq,fun a ha K=>by obtain⟨x,_,rfl⟩:=List.mem_map.1 ha;trivial⟩
   |succ i=>simp at hx) (fun i j x y hx hy e=>by
   cases i with
   |succ i=>simp at hx
   |zero=>cases j with
    |zero=>rfl
    |succ j=>simp at hy) (upd E.H s0 (.row 0 1 (ints u))) (fun n=>by
   by_cases e:n=s0
   ·subst e;rw[upd_same,if_pos (by simp)];simp
   ·rw[upd_ne _ _ e,if_neg (by simp;omega)])
 refine⟨H1,_,_,WkH.refl _,Wk.rfl',hF,Pub.ren (s:=s0) hq (by rw[if_pos (by simp)];simp) ?_⟩
 rintro⟨k1,_⟩
 exact k1 (hs q hqs).2
theorem elsOf_one (x y:Int):elsOf [.sc (.int .i64 x),.sc (.int .i64 y)]=some [(x,y)]:=rfl
theorem bs83 (x y:Int):aBuildSlice Try.prog 83 1 [(0,.agg [.sc (.int .i64 x),.sc (.int .i64 y)])]= .new (.row 0 2 [.sc (.int .i64 x),.sc (.int .i64 y)]) fun n=>.ret (.sl n 0 0 1):=by
 have hz:aZeros (.agg #[.int .i64 0,.int .i64 0]) 2=[.sc (.int .i64 0),.sc (.int .i64 0)]:=by
  simp[aZeros,Value.cells,List.range_succ]
 simp[aBuildSlice,Try.underlying83,sz84,ze84,hz,aFill,aCells,AV.one,Value.oneCell',putCells]
set_option maxRecDepth 100000 in
set_option maxHeartbeats 4000000 in
theorem step_walk (l:List Int) (o:OpT) (hl:l.length≤1000000000) (E:Ent) (s nm ver:Nat) (hs:∀q,s≤q→E.H q=none) (hn:E.H nm=some (.row ver 1 (ints l))) (R:AV→AHp→Prop)
  (hR1:∀H1 q,(stepE l o).1=0→(∀q,q<s→H1 q=E.H q)→H1 q=some (.row 0 1 (ints (stepE l o).2))→s≤q→R (.sl q 0 0 (stepE l o).2.length) H1)
  (hR2:∀H1,(∀q,q<s→H1 q=E.H q)→(stepE l o).1≠0→R (.sl nm ver 0 l.length) H1):
  wA Try.prog E ctF Try.f90.body.get! (begA Try.f90 [.sl nm ver 0 l.length,opG o]) E.H s (EndA Try.prog Try.f90 R):=by
 simp(maxSteps:=300000)only[begA,Try.ntmps90,List.replicate_succ,List.replicate_zero,List.length_cons,List.length_nil,List.cons_append,List.nil_append]
 simp only[Try.f90,Option.get!_some]
 have hnl:nm<s:=Nat.lt_of_not_le fun h=>by rw[hs nm h]at hn;cases hn
 have hit:=ints_take l
 have hil:=ints_len l
 obtain⟨k,h,w,v⟩:=o
 obtain⟨xh,hxh⟩:∃xh,(chosenF l w).1=xh:=⟨_,rfl⟩
 obtain⟨xw,hxw⟩:∃xw,(chosenF l w).2=xw:=⟨_,rfl⟩
 by_cases k0:k=0
 ·subst k0
  obtain⟨a,u,c,hA⟩:∃a u c,addF l h w=(a,u,c):=⟨_,_,_,rfl⟩
  have e:stepE l ⟨0,h,w,v⟩=(c,u):=by unfold stepE;simp[hA,hxh,hxw]
  rw[e]at hR1 hR2
  by_cases hc:c=0
  ·subst hc
   have hX:outX (ansX 0 u) [.int .i64 a,.int .i64 0]= .new (.row 0 1 (ints u)) fun n=>.ret (.tup [.sl n 0 0 u.length,.sc (.int .i64 a),.sc (.int .i64 0)]):=rfl
   repeat(first |(with_reducible first |apply Q0 |apply Q1 |apply Q2 |apply Q3 |apply Q4 |apply Q5 |apply Q6 |apply Q7 |apply Q8 |apply Q9 |apply QA |apply QB |apply QC |apply QD |apply QE |apply QF) |((with_reducible apply QK rfl);simp(disch:=omega)only[go_sem,hs,upd_ne,hn,cal34,ctF_34,c34,rdK,hit,hil,intsOf_ints,hl,hxh,hxw,cal35,ctF_35,c35o,hA,hX];exact rfl;simp only[sB,sA,putA];exact rfl) |(apply QQ;simp only[evA,gB,gA];exact rfl) |((first |apply QX |apply QY);(first |rfl |decide |assumption)))
   (apply QZ;simp(disch:=omega)only[go_sem,Try.results90];exact rfl;simp only[packA];exact rfl)
   exact hR1 _ _ rfl (fun q hq=>by simp(disch:=omega)only[upd_ne]) (by simp(disch:=omega)only[upd_same,upd_ne]) (by omega)
  ·have hX:outX (ansX c u) [.int .i64 a,.int .i64 c]= .ret (.tup [.sc (.slice none 0 0),.sc (.int .i64 a),.sc (.int .i64 c)]):=by unfold ansX;rw[if_neg hc];rfl
   repeat(first |(with_reducible first |apply Q0 |apply Q1 |apply Q2 |apply Q3 |apply Q4 |apply Q5 |apply Q6 |apply Q7 |apply Q8 |apply Q9 |apply QA |apply QB |apply QC |apply QD |apply QE |apply QF) |((with_reducible apply QK rfl);simp(disch:=omega)only[go_sem,hs,upd_ne,hn,cal34,ctF_34,c34,rdK,hit,hil,intsOf_ints,hl,hxh,hxw,cal35,ctF_35,c35o,hA,hX,hc];exact rfl;simp only[sB,sA,putA];exact rfl) |(apply QQ;simp only[evA,gB,gA];exact rfl) |((first |apply QX |apply QY);(first |rfl |decide |assumption)))
   (apply QZ;simp(disch:=omega)only[go_sem,Try.results90];exact rfl;simp only[packA];exact rfl)
   exact hR2 _ (fun q hq=>by simp(disch:=omega)only[upd_ne]) hc
 by_cases k1:k=1
 ·subst k1
  obtain⟨a,u,c,hA⟩:∃a u c,dropF l xh xw=(a,u,c):=⟨_,_,_,rfl⟩
  have e:stepE l ⟨1,h,w,v⟩=(c,u):=by unfold stepE;simp[hA,hxh,hxw]
  rw[e]at hR1 hR2
  by_cases hc:c=0
  ·subst hc
   have hX:outX (ansX 0 u) [.int .i64 a,.int .i64 0]= .new (.row 0 1 (ints u)) fun n=>.ret (.tup [.sl n 0 0 u.length,.sc (.int .i64 a),.sc (.int .i64 0)]):=rfl
   repeat(first |(with_reducible first |apply Q0 |apply Q1 |apply Q2 |apply Q3 |apply Q4 |apply Q5 |apply Q6 |apply Q7 |apply Q8 |apply Q9 |apply QA |apply QB |apply QC |apply QD |apply QE |apply QF) |((with_reducible apply QK rfl);simp(disch:=omega)only[go_sem,hs,upd_ne,hn,cal34,ctF_34,c34,rdK,hit,hil,intsOf_ints,hl,hxh,hxw,k0,cal37,ctF_37,c37o,hA,hX];exact rfl;simp only[sB,sA,putA];exact rfl) |(apply QQ;simp only[evA,gB,gA];exact rfl) |((first |apply QX |apply QY);(first |rfl |decide |assumption)))
   (apply QZ;simp(disch:=omega)only[go_sem,Try.results90];exact rfl;simp only[packA];exact rfl)
   exact hR1 _ _ rfl (fun q hq=>by simp(disch:=omega)only[upd_ne]) (by simp(disch:=omega)only[upd_same,upd_ne]) (by omega)
  ·have hX:outX (ansX c u) [.int .i64 a,.int .i64 c]= .ret (.tup [.sc (.slice none 0 0),.sc (.int .i64 a),.sc (.int .i64 c)]):=by unfold ansX;rw[if_neg hc];rfl
   repeat(first |(with_reducible first |apply Q0 |apply Q1 |apply Q2 |apply Q3 |apply Q4 |apply Q5 |apply Q6 |apply Q7 |apply Q8 |apply Q9 |apply QA |apply QB |apply QC |apply QD |apply QE |apply QF) |((with_reducible apply QK rfl);simp(disch:=omega)only[go_sem,hs,upd_ne,hn,cal34,ctF_34,c34,rdK,hit,hil,intsOf_ints,hl,hxh,hxw,k0,cal37,ctF_37,c37o,hA,hX,hc];exact rfl;simp only[sB,sA,putA];exact rfl) |(apply QQ;simp only[evA,gB,gA];exact rfl) |((first |apply QX |apply QY);(first |rfl |decide |assumption)))
   (apply QZ;simp(disch:=omega)only[go_sem,Try.results90];exact rfl;simp only[packA];exact rfl)
   exact hR2 _ (fun q hq=>by simp(disch:=omega)only[upd_ne]) hc
 by_cases k2:k=2
 ·subst k2
  obtain⟨u,c,hA⟩:∃u c,putF l xh xw v=(u,c):=⟨_,_,rfl⟩
  have e:stepE l ⟨2,h,w,v⟩=(c,u):=by unfold stepE;simp[hA,hxh,hxw]
  rw[e]at hR1 hR2
  by_cases hc:c=0
  ·subst hc
   have hX:outX (ansX 0 u) [.int .i64 0]= .new (.row 0 1 (ints u)) fun n=>.ret (.tup [.sl n 0 0 u.length,.sc (.int .i64 0)]):=rfl
   repeat(first |(with_reducible first |apply Q0 |apply Q1 |apply Q2 |apply Q3 |apply Q4 |apply Q5 |apply Q6 |apply Q7 |apply Q8 |apply Q9 |apply QA |apply QB |apply QC |apply QD |apply QE |apply QF) |((with_reducible apply QK rfl);simp(disch:=omega)only[go_sem,hs,upd_ne,hn,cal34,ctF_34,c34,rdK,hit,hil,intsOf_ints,hl,hxh,hxw,k0,k1,cal39,ctF_39,c39o,hA,hX];exact rfl;simp only[sB,sA,putA];exact rfl) |(apply QQ;simp only[evA,gB,gA];exact rfl) |((first |apply QX |apply QY);(first |rfl |decide |assumption)))
   (apply QZ;simp(disch:=omega)only[go_sem,Try.results90];exact rfl;simp only[packA];exact rfl)
   exact hR1 _ _ rfl (fun q hq=>by simp(disch:=omega)only[upd_ne]) (by simp(disch:=omega)only[upd_same,upd_ne]) (by omega)
  ·have hX:outX (ansX c u) [.int .i64 c]= .ret (.tup [.sc (.slice none 0 0),.sc (.int .i64 c)]):=by unfold ansX;rw[if_neg hc];rfl
   repeat(first |(with_reducible first |apply Q0 |apply Q1 |apply Q2 |apply Q3 |apply Q4 |apply Q5 |apply Q6 |apply Q7 |apply Q8 |apply Q9 |apply QA |apply QB |apply QC |apply QD |apply QE |apply QF) |((with_reducible apply QK rfl);simp(disch:=omega)only[go_sem,hs,upd_ne,hn,cal34,ctF_34,c34,rdK,hit,hil,intsOf_ints,hl,hxh,hxw,k0,k1,cal39,ctF_39,c39o,hA,hX,hc];exact rfl;simp only[sB,sA,putA];exact rfl) |(apply QQ;simp only[evA,gB,gA];exact rfl) |((first |apply QX |apply QY);(first |rfl |decide |assumption)))
   (apply QZ;simp(disch:=omega)only[go_sem,Try.results90];exact rfl;simp only[packA];exact rfl)
   exact hR2 _ (fun q hq=>by simp(disch:=omega)only[upd_ne]) hc
 by_cases k3:k=3
 ·subst k3
  obtain⟨u,c,hA⟩:∃u c,rmoveF l [(w,v)]=(u,c):=⟨_,_,rfl⟩
  have e:stepE l ⟨3,h,w,v⟩=(c,u):=by unfold stepE;simp[hA,hxh,hxw]
  rw[e]at hR1 hR2
  by_cases hc:c=0
  ·subst hc
   have hX:outX (ansX 0 u) [.int .i64 0]= .new (.row 0 1 (ints u)) fun n=>.ret (.tup [.sl n 0 0 u.length,.sc (.int .i64 0)]):=rfl
   repeat(first |(with_reducible first |apply Q0 |apply Q1 |apply Q2 |apply Q3 |apply Q4 |apply Q5 |apply Q6 |apply Q7 |apply Q8 |apply Q9 |apply QA |apply QB |apply QC |apply QD |apply QE |apply QF) |((with_reducible apply QK rfl);simp(disch:=omega)only[go_sem,hs,upd_ne,hn,cal34,ctF_34,c34,rdK,hit,hil,intsOf_ints,hl,hxh,hxw,k0,k1,k2,cal57,ctF_57,c57o,bs83,rdE2,elsOf,elsOf_one,hA,hX];exact rfl;simp only[sB,sA,putA];exact rfl) |(apply QQ;simp only[evA,gB,gA];exact rfl) |((first |apply QX |apply QY);(first |rfl |decide |assumption)))
   (apply QZ;simp(disch:=omega)only[go_sem,Try.results90];exact rfl;simp only[packA];exact rfl)
   exact hR1 _ _ rfl (fun q hq=>by simp(disch:=omega)only[upd_ne]) (by simp(disch:=omega)only[upd_same,upd_ne]) (by omega)
  ·have hX:outX (ansX c u) [.int .i64 c]= .ret (.tup [.sc (.slice none 0 0),.sc (.int .i64 c)]):=by unfold ansX;rw[if_neg hc];rfl
   repeat(first |(with_reducible first |apply Q0 |apply Q1 |apply Q2 |apply Q3 |apply Q4 |apply Q5 |apply Q6 |apply Q7 |apply Q8 |apply Q9 |apply QA |apply QB |apply QC |apply QD |apply QE |apply QF) |((with_reducible apply QK rfl);simp(disch:=omega)only[go_sem,hs,upd_ne,hn,cal34,ctF_34,c34,rdK,hit,hil,intsOf_ints,hl,hxh,hxw,k0,k1,k2,cal57,ctF_57,c57o,bs83,rdE2,elsOf,elsOf_one,hA,hX,hc];exact rfl;simp only[sB,sA,putA];exact rfl) |(apply QQ;simp only[evA,gB,gA];exact rfl) |((first |apply QX |apply QY);(first |rfl |decide |assumption)))
   (apply QZ;simp(disch:=omega)only[go_sem,Try.results90];exact rfl;simp only[packA];exact rfl)
   exact hR2 _ (fun q hq=>by simp(disch:=omega)only[upd_ne]) hc
 have e:stepE l ⟨k,h,w,v⟩=(1,l):=by unfold stepE;simp[k0,k1,k2,k3]
 rw[e]at hR1 hR2
 repeat(first |(with_reducible first |apply Q0 |apply Q1 |apply Q2 |apply Q3 |apply Q4 |apply Q5 |apply Q6 |apply Q7 |apply Q8 |apply Q9 |apply QA |apply QB |apply QC |apply QD |apply QE |apply QF) |((with_reducible apply QK rfl);simp(disch:=omega)only[go_sem,hs,upd_ne,hn,cal34,ctF_34,c34,rdK,hit,hil,intsOf_ints,hl,hxh,hxw,k0,k1,k2,k3];exact rfl;simp only[sB,sA,putA];exact rfl) |(apply QQ;simp only[evA,gB,gA];exact rfl) |((first |apply QX |apply QY);(first |rfl |decide |assumption)))
 (apply QZ;simp(disch:=omega)only[go_sem,Try.results90];exact rfl;simp only[packA];exact rfl)
 exact hR2 _ (fun q hq=>by simp(disch:=omega)only[upd_ne]) (by simp)
theorem a90 (args:List AV):ACall Try.prog 90 args (c90 args):=by
 intro ρ H w vs hR hA s r H' s' hm
 unfold c90 at hm
 split at hm
 ·rename_i nm ver len k h w0 v
  refine acall_genW (args:=[.sl nm ver 0 len,.agg [.sc (.int .i64 k),.sc (.int .i64 h),.sc (.int .i64 w0),.sc (.int .i64 v)]]) Try.func90 rfl (fun E s0 s r H' s' hr hs=>?_) ρ H w _ hR hA s r H' s' hm
  obtain⟨o,h1,q1⟩:=get_some hr
  obtain⟨l,rfl,q2⟩:=iK_some q1
  clear hr q1
  have hr:=q2
  clear q2
  split at hr
  ·rename_i hc
   obtain⟨hl,rfl⟩:=hc
   have hs0:∀q,s≤q→E.H q=none:=fun q hq=>(hs q hq).1
   unfold stepA at hr
   split at hr
   ·rename_i he
    simp only[AP.run]at hr
    split at hr
    ·rename_i hf
     simp only[Option.some.injEq,Prod.mk.injEq]at hr
     obtain⟨rfl,rfl,rfl⟩:=hr
     have hF:stepF l ⟨k,h,w0,v⟩=(stepE l ⟨k,h,w0,v⟩).2:=by unfold stepF;rw[if_pos he]
     rw[hF]at hs ⊢
     exact wA_ok hmix ctF_ok _ (by kernel_rfl) (step_walk l ⟨k,h,w0,v⟩ hl E s nm ver hs0 h1 _ (fun H1 q _ k1 k2 k3=>end_new hs hf k1 k2 k3) (fun H1 _ k2=>absurd he k2))
    ·cases hr
   ·rename_i he
    simp only[AP.run,Option.some.injEq,Prod.mk.injEq]at hr
    obtain⟨rfl,rfl,rfl⟩:=hr
    exact wA_ok hmix ctF_ok _ (by kernel_rfl) (step_walk l ⟨k,h,w0,v⟩ hl E s nm ver hs0 h1 _ (fun H1 q k0 _ _ _=>absurd k0 he) (fun H1 k1 _=>end_keep hs0 k1 (by rw[h1];simp)))
  ·simp[AP.run]at hr
 ·simp[AP.run]at hm
theorem cal90:callable Try.prog 90=true:=by kernel_rfl
end Go.Proofs.Ytdcomhdadnhpnaa
end
end
section
namespace Go.Proofs.Ytdcomhdadnhpnaa
open Go Go.Am Go.RowKit
theorem wordsF_len (recs:List (Int×Int)) (chs:List (List Nat)):(wordsF recs chs).length=wlen recs.length:=by
 unfold wordsF;rw[wC_len,wR_len,headL_len]
theorem wordsF_le {recs:List (Int×Int)} (chs:List (List Nat)) (h:recs.length≤1000000):(wordsF recs chs).length≤1000000000:=by
 rw[wordsF_len];have:=wlen_le recs.length h;omega
theorem addF_le (l:List Int) (h x:Int):(addF l h x).2.1.length≤1000000000:=by
 by_cases hV:ValidL l
 rotate_left
 ·have hw:addF l h x=(0,[],600):=by unfold addF;rw[if_pos hV]
  rw[hw];simp
 have hn:=(wok_valid hV).n
 by_cases hh:¬(0≤h∧h≤2147483647)
 ·rw[addF_bad hV hh];simp
 replace hh:0≤h∧h≤2147483647:=Decidable.not_not.1 hh
 have hrl:(recsT l).length=tabN l:=recsF_len l _
 by_cases ho:0≤ofF (recsT l) (chsT l) (h,x)
 ·have hw:addF l h x=(0,[],6):=by
   rw[addF_ok hV hh]
   have:=(of_has hV).1 ho
   unfold addR
   rw[if_neg (by simpa using hh),if_pos this]
   rfl
  rw[hw];simp
 by_cases h1:100000≤(recsT l).length
 ·have hw:addF l h x=(0,[],3):=by
   rw[addF_ok hV hh]
   have h2:=mt (of_has hV).2 ho
   unfold addR
   rw[if_neg (by simpa using hh),if_neg h2,if_pos (by omega)]
   rfl
  rw[hw];simp
 have hA:=add_ok (x:=x) hV hh ho (by omega)
 rw[←hA.e]
 have hle:(recsT l++[(h,x)]).length≤1000000:=by simp;omega
 unfold raddX
 rw[if_neg ho,if_neg h1]
 split
 ·exact wordsF_le _ hle
 ·exact wordsF_le _ hle
theorem dropF_le (l:List Int) (h x:Int):(dropF l h x).2.1.length≤1000000000:=by
 by_cases hV:ValidL l
 rotate_left
 ·rw[dropF_600 hV];simp
 have hn:=(wok_valid hV).n
 by_cases hh:¬(0≤h∧h≤2147483647)
 ·rw[dropF_bad hV hh];simp
 replace hh:0≤h∧h≤2147483647:=Decidable.not_not.1 hh
 by_cases ho:0≤ofF (recsT l) (chsT l) (h,x)
 rotate_left
 ·rw[dropF_none hV hh (mt (of_wds hV).2 ho)];simp
 obtain⟨r,e1,_⟩:=of_rec hV ho
 rw[(drop_ok hV hh ho e1).e]
 have hle:((drpR (recsT l) r).take ((recsT l).length-1)).length≤1000000:=by rw[List.length_take];omega
 unfold rdropX
 split
 ·exact wordsF_le _ hle
 ·exact wordsF_le _ hle
theorem putF_le (l:List Int) (h x v:Int):(putF l h x v).1.length≤1000000000:=by
 by_cases hV:ValidL l
 rotate_left
 ·rw[putF_600 hV];simp
 have hn:=(wok_valid hV).n
 by_cases hh:¬(0≤h∧h≤2147483647)
 ·rw[putF_bad hV hh];simp
 replace hh:0≤h∧h≤2147483647:=Decidable.not_not.1 hh
 by_cases ho:0≤ofF (recsT l) (chsT l) (h,x)
 rotate_left
 ·rw[putF_none hV hh (mt (of_wds hV).2 ho)];simp
 by_cases hb:v≠x∧0≤ofF (recsT l) (chsT l) (h,v)
 ·rw[putF_twice hV hh ((of_wds hV).1 ho) hb.1 ((of_wds hV).1 hb.2)];simp
 obtain⟨r,e1,_⟩:=of_rec hV ho
 rw[(put_of hV hh ho (by
  rcases Decidable.em (v=x)with e |e
  ·exact .inl e
  ·exact .inr (fun k=>hb ⟨e,k⟩)) e1).1]
 exact wordsF_le _ (by rw[List.length_set];omega)
theorem rmoveF_le (l:List Int) (mv:List (Int×Int)):(rmoveF l mv).1.length≤1000000000:=by
 unfold rmoveF
 split
 ·simp
 ·rename_i hV
  have hn:=(wok_valid (by simpa using hV)).n
  unfold rmoveX
  split
  ·simp
  ·split
   ·exact wordsF_le _ (by rw[List.length_map];omega)
   ·simp
theorem stepF_le {l:List Int} (o:OpT) (h:l.length≤1000000000):(stepF l o).length≤1000000000:=by
 unfold stepF
 split
 ·unfold stepE
  split
  ·exact addF_le _ _ _
  ·split
   ·exact dropF_le _ _ _
   ·split
    ·exact putF_le _ _ _ _
    ·split
     ·exact rmoveF_le _ _
     ·exact h
 ·exact h
end Go.Proofs.Ytdcomhdadnhpnaa
end
section
section
namespace Go.Proofs.Ytdcomhdadnhpnaa
open Go Go.Am Go.RowKit
attribute [local irreducible] wA opsQ opsLQ thenA blockA EndA
theorem put5 (a b c d e f g h i j:AV):putCells [a,b,c,d,e] 0 [f,g,h,i,j]=[f,g,h,i,j]:=rfl
attribute [local go_sem] put5
def emptyR:List (Int×Int):=[]
def emptyC:List (List Nat):=List.replicate 8 []
theorem emptyC_mem {c:List Nat} (h:c∈emptyC):c=[]:=(List.mem_replicate.1 h).2
def emptyL:List Int:=wordsF emptyR emptyC
set_option maxRecDepth 100000 in
set_option maxHeartbeats 4000000 in
theorem empty_rc:RC Try.prog 52 [] (tabG emptyR emptyC):=by
 refine rc_of hmix ctF_ok Try.func52 rfl (by kernel_rfl) (fun E s hs=>?_)
 simp(maxSteps:=300000)only[begA,Try.ntmps52,List.replicate_succ,List.replicate_zero,List.length_cons,List.length_nil,List.cons_append,List.nil_append]
 repeat(first |(with_reducible first |apply Q0 |apply Q1 |apply QG |apply Q2 |apply Q3 |apply Q4 |apply Q5 |apply Q6 |apply Q7 |apply Q8 |apply Q9 |apply QA |apply QB |apply QC |apply QD |apply QE |apply QF) |((first |(with_reducible apply QK rfl) |(apply QT;simp only[go_sem]<;>exact rfl));simp(disch:=omega)only[go_sem,hs,upd_ne];exact rfl;simp only[sB,sA,putA];exact rfl) |((first |(with_reducible apply QL rfl) |(apply QM;simp only[go_sem]<;>exact rfl));simp(disch:=omega)only[go_sem,hs,upd_ne];exact rfl;simp only[sB,sA,putA];exact rfl;simp only[logT_none,logT_rd,logT_wr,List.cons_append,List.nil_append];exact rfl) |((first |apply QI |apply QN);simp only[go_sem]<;>exact rfl;simp only[sB,sA,putA];exact rfl) |(refine QO ?_ ?_;first |focus(simp only[dyn_nil,dyn_cons,allY_nil,allY_cons,dj_rr,true_or,true_and];done) |focus(simp only[dyn_nil,dyn_cons,allY_nil,allY_cons,Dj,List.mem_cons,List.not_mem_nil,or_false,forall_eq,forall_eq_or_imp,and_true,true_and,false_imp_iff,implies_true];omega) |focus(simp only[dyn_nil,dyn_cons,allY_nil,allY_cons,and_true,true_and];(repeat' refine And.intro ?_ ?_);all_goals first |(left;simp only[Dj,List.mem_cons,List.not_mem_nil,or_false,forall_eq,forall_eq_or_imp,and_true,true_and,false_imp_iff,implies_true];first |done |omega) |(right;kernel_rfl))) |(apply QQ;simp only[evA,gB,gA];exact rfl) |((first |apply QX |apply QY);(first |rfl |decide |assumption)))
 (apply QZ;simp(disch:=omega)only[go_sem,Try.results52];exact rfl;simp only[packA];exact rfl)
 refine .agg rfl (fun i a b ha hb=>?_)
 match i with
 |0=>
  simp at ha hb;subst ha;subst hb
  exact .nil
 |1=>
  simp at ha hb;subst ha;subst hb
  refine .sl (by rw[upd_ne _ _ (by omega),upd_same]) (by simp[rowsN,emptyC]) (fun i a b ha hb=>?_)
  have e1:=(List.mem_replicate.1 (List.mem_of_mem_drop (List.mem_of_getElem? ha))).2
  obtain⟨c,hc,rfl⟩:=List.mem_map.1 (List.mem_of_getElem? hb)
  rw[e1,emptyC_mem hc]
  exact .nil
 |i+2=>simp at ha
theorem wok_empty:WOK emptyR emptyC:=⟨by simp[emptyR],rfl,fun c hc r hr=>(by rw[emptyC_mem hc]at hr;cases hr),fun c hc=>(by rw[emptyC_mem hc];simp)⟩
noncomputable def c52:List AV→AP AV
 | []=>.ret (tabG emptyR emptyC)
 |_=>.fail
theorem a52 (args:List AV):ACall Try.prog 52 args (c52 args):=by
 intro ρ H w vs hR hA s r H' s' hm
 unfold c52 at hm
 split at hm
 ·simp only[AP.run,Option.some.injEq,Prod.mk.injEq]at hm
  obtain⟨rfl,rfl,rfl⟩:=hm
  have:vs=[]:=by simpa using hA.len
  subst this
  exact empty_rc.acall hR .nil
 ·simp[AP.run]at hm
noncomputable def ctG:CT:=fun f args=>if f=52 then c52 args else if f=90 then c90 args else ctF f args
theorem ctG_ok:CTok Try.prog ctG:=fun f args=>by
 unfold ctG
 split
 ·rename_i e;subst e;exact a52 args
 split
 ·rename_i e;subst e;exact a90 args
 ·exact ctF_ok f args
theorem ctG_51 (a:List AV):ctG 51 a=c51o a:=rfl
theorem ctG_52 (a:List AV):ctG 52 a=c52 a:=rfl
theorem ctG_90 (a:List AV):ctG 90 a=c90 a:=rfl
theorem cal52:callable Try.prog 52=true:=by kernel_rfl
abbrev playG (L:List (Int×Int)) (ops:List OpT) (b:Bool) (x y:Int):AV:=.agg [.dsl L.length (elsA L),.dsl ops.length (opsA ops),.sc (.bool b),.sc (.int .i64 x),.sc (.int .i64 y)]
noncomputable def addsF (L:List (Int×Int)):List Int:=L.foldl (fun t e=>stepF t ⟨0,e.1,e.2,0⟩) emptyL
noncomputable def madeF (L:List (Int×Int)) (ops:List OpT):List Int:=ops.foldl stepF (addsF L)
theorem foldl_take {α β:Type} (f:α→β→α) (a:α) {l:List β} {k:Nat} (h:k<l.length):(l.take (k+1)).foldl f a=f ((l.take k).foldl f a) l[k]:=by
 rw[List.take_succ_eq_append_getElem h,List.foldl_append];rfl
set_option maxRecDepth 100000 in
set_option maxHeartbeats 4000000 in
theorem made_ro (L:List (Int×Int)) (ops:List OpT) (b:Bool) (x y:Int) (hL:L.length≤9223372036854775806) (ho:ops.length≤9223372036854775806):
  RO Try.prog 47 [playG L ops b x y] (fun a H=>OwnX (some (madeF L ops)) a H∧(madeF L ops).length≤1000000000):=by
 refine ro_of Try.func47 rfl (fun E s hs=>?_)
 refine wA_ok hmix ctG_ok _ (by kernel_rfl) ?_
 simp(maxSteps:=300000)only[begA,Try.ntmps47,List.replicate_succ,List.replicate_zero,List.length_cons,List.length_nil,List.cons_append,List.nil_append]
 have hWE:=wok_empty
 have hrd:∀k,rdT (tabG emptyR emptyC) k=k emptyR emptyC:=fun k=>by simp only[rdT,rdE2_dsl,rdC_dsl]
 repeat(first |(with_reducible first |apply Q0 |apply Q1 |apply QG |apply Q2 |apply Q3 |apply Q4 |apply Q5 |apply Q6 |apply Q7 |apply Q8 |apply Q9 |apply QA |apply QB |apply QC |apply QD |apply QE |apply QF) |((first |(with_reducible apply QK rfl) |(apply QT;simp only[go_sem]<;>exact rfl));simp(disch:=omega)only[go_sem,hs,upd_ne,cal52,ctG_52,c52,cal51,ctG_51,c51o,hrd,hWE];exact rfl;simp only[sB,sA,putA];exact rfl) |((first |(with_reducible apply QL rfl) |(apply QM;simp only[go_sem]<;>exact rfl));simp(disch:=omega)only[go_sem,hs,upd_ne,cal52,ctG_52,c52,cal51,ctG_51,c51o,hrd,hWE];exact rfl;simp only[sB,sA,putA];exact rfl;simp only[logT_none,logT_rd,logT_wr,List.cons_append,List.nil_append];exact rfl) |((first |apply QI |apply QN);simp only[go_sem]<;>exact rfl;simp only[sB,sA,putA];exact rfl) |(refine QO ?_ ?_;first |focus(simp only[dyn_nil,dyn_cons,allY_nil,allY_cons,dj_rr,true_or,true_and];done) |focus(simp only[dyn_nil,dyn_cons,allY_nil,allY_cons,Dj,List.mem_cons,List.not_mem_nil,or_false,forall_eq,forall_eq_or_imp,and_true,true_and,false_imp_iff,implies_true];omega) |focus(simp only[dyn_nil,dyn_cons,allY_nil,allY_cons,and_true,true_and];(repeat' refine And.intro ?_ ?_);all_goals first |(left;simp only[Dj,List.mem_cons,List.not_mem_nil,or_false,forall_eq,forall_eq_or_imp,and_true,true_and,false_imp_iff,implies_true];first |done |omega) |(right;kernel_rfl))) |(apply QQ;simp only[evA,gB,gA];exact rfl) |((first |apply QX |apply QY);(first |rfl |decide |assumption)))
 refine AWp.loop [1,3,4] (fun Γ H s' m=>∃(i q ver:Nat) (t:List Int),i≤L.length∧m=L.length-i∧t=(L.take i).foldl (fun t e=>stepF t ⟨0,e.1,e.2,0⟩) emptyL∧t.length≤1000000000∧Γ=(List.replicate 1 .junk)++[.ptr s 0 0]++(List.replicate 1 .junk)++[.sl q ver 0 t.length,.sc (.int .i64 (i:Nat))]++(List.replicate 40 .junk)∧H s=some (.row 0 1 [.dsl L.length (elsA L),.dsl ops.length (opsA ops),.sc (.bool b),.sc (.int .i64 x),.sc (.int .i64 y)])∧H q=some (.row ver 1 (ints t))∧s<q∧q<s'∧(∀q,s'≤q→H q=none)) L.length ?_ ?_
 ·exact⟨0,s+1,0,emptyL,Nat.zero_le _,rfl,rfl,by unfold emptyL;exact wordsF_le _ (by simp[emptyR]),rfl,by simp(disch:=omega)only[upd_ne,upd_same],upd_same _ _ _,by omega,by omega,fun q hq=>by(simp(disch:=omega)only[upd_ne];exact hs q)⟩
 rintro Γ H s1 m ⟨i,q,ver,t,hi,rfl,ht,ht9,rfl,hHs,hHq,hsq,hq1,hf⟩
 refine wA_ok hmix ctG_ok _ (by kernel_rfl) ?_
 simp(maxSteps:=1000000)only[List.replicate_succ,List.replicate_zero,List.cons_append,List.nil_append,List.append_nil]
 by_cases hlt:i<L.length
 ·have hft:(L.take (i+1)).foldl (fun t e=>stepF t ⟨0,e.1,e.2,0⟩) emptyL=stepF t ⟨0,L[i].1,L[i].2,0⟩:=by rw[foldl_take _ _ hlt,←ht]
  obtain⟨o,hoo⟩:∃o:OpT,o=⟨0,L[i].1,L[i].2,0⟩:=⟨_,rfl⟩
  have hoe:=hoo
  rw[←hoo]at hft
  have hsl:=stepF_le o ht9
  by_cases he:(stepE t o).1=0
  ·have hA:stepA q ver t o= .new (.row 0 1 (ints (stepF t o))) fun n=>.ret (.sl n 0 0 (stepF t o).length):=if_pos he
   repeat(first |(with_reducible first |apply Q0 |apply Q1 |apply QG |apply Q2 |apply Q3 |apply Q4 |apply Q5 |apply Q6 |apply Q7 |apply Q8 |apply Q9 |apply QA |apply QB |apply QC |apply QD |apply QE |apply QF) |((first |(with_reducible apply QK rfl) |(apply QT;simp only[go_sem]<;>exact rfl));simp(disch:=omega)only[go_sem,hf,upd_ne,hHs,hHq,cal90,ctG_90,c90,iK_ok,ht9,elsA_len,elsA_drop,←hoo,hA];exact rfl;simp only[sB,sA,putA];exact rfl) |((first |(with_reducible apply QL rfl) |(apply QM;simp only[go_sem]<;>exact rfl));simp(disch:=omega)only[go_sem,hf,upd_ne,hHs,hHq,cal90,ctG_90,c90,iK_ok,ht9,elsA_len,elsA_drop,←hoo,hA];exact rfl;simp only[sB,sA,putA];exact rfl;simp only[logT_none,logT_rd,logT_wr,List.cons_append,List.nil_append];exact rfl) |((first |apply QI |apply QN);simp only[go_sem]<;>exact rfl;simp only[sB,sA,putA];exact rfl) |(refine QO ?_ ?_;first |focus(simp only[dyn_nil,dyn_cons,allY_nil,allY_cons,dj_rr,true_or,true_and];done) |focus(simp only[dyn_nil,dyn_cons,allY_nil,allY_cons,Dj,List.mem_cons,List.not_mem_nil,or_false,forall_eq,forall_eq_or_imp,and_true,true_and,false_imp_iff,implies_true];omega) |focus(simp only[dyn_nil,dyn_cons,allY_nil,allY_cons,and_true,true_and];(repeat' refine And.intro ?_ ?_);all_goals first |(left;simp only[Dj,List.mem_cons,List.not_mem_nil,or_false,forall_eq,forall_eq_or_imp,and_true,true_and,false_imp_iff,implies_true];first |done |omega) |(right;kernel_rfl))) |(apply QQ;simp only[evA,gB,gA];exact rfl) |((first |apply QX |apply QY);(first |rfl |decide |assumption)))
   exact⟨L.length-(i+1),by omega,i+1,_,0,stepF t o,by omega,rfl,hft.symm,hsl,rfl,by(simp(disch:=omega)only[upd_ne];exact hHs),upd_same _ _ _,by omega,by omega,fun q hq=>by(simp(disch:=omega)only[upd_ne];exact hf q (by omega))⟩
  ·have hA:stepA q ver t o= .ret (.sl q ver 0 t.length):=if_neg he
   have hF:stepF t o=t:=if_neg he
   rw[hF]at hft
   repeat(first |(with_reducible first |apply Q0 |apply Q1 |apply QG |apply Q2 |apply Q3 |apply Q4 |apply Q5 |apply Q6 |apply Q7 |apply Q8 |apply Q9 |apply QA |apply QB |apply QC |apply QD |apply QE |apply QF) |((first |(with_reducible apply QK rfl) |(apply QT;simp only[go_sem]<;>exact rfl));simp(disch:=omega)only[go_sem,hf,upd_ne,hHs,hHq,cal90,ctG_90,c90,iK_ok,ht9,elsA_len,elsA_drop,←hoo,hA];exact rfl;simp only[sB,sA,putA];exact rfl) |((first |(with_reducible apply QL rfl) |(apply QM;simp only[go_sem]<;>exact rfl));simp(disch:=omega)only[go_sem,hf,upd_ne,hHs,hHq,cal90,ctG_90,c90,iK_ok,ht9,elsA_len,elsA_drop,←hoo,hA];exact rfl;simp only[sB,sA,putA];exact rfl;simp only[logT_none,logT_rd,logT_wr,List.cons_append,List.nil_append];exact rfl) |((first |apply QI |apply QN);simp only[go_sem]<;>exact rfl;simp only[sB,sA,putA];exact rfl) |(refine QO ?_ ?_;first |focus(simp only[dyn_nil,dyn_cons,allY_nil,allY_cons,dj_rr,true_or,true_and];done) |focus(simp only[dyn_nil,dyn_cons,allY_nil,allY_cons,Dj,List.mem_cons,List.not_mem_nil,or_false,forall_eq,forall_eq_or_imp,and_true,true_and,false_imp_iff,implies_true];omega) |focus(simp only[dyn_nil,dyn_cons,allY_nil,allY_cons,and_true,true_and];(repeat' refine And.intro ?_ ?_);all_goals first |(left;simp only[Dj,List.mem_cons,List.not_mem_nil,or_false,forall_eq,forall_eq_or_imp,and_true,true_and,false_imp_iff,implies_true];first |done |omega) |(right;kernel_rfl))) |(apply QQ;simp only[evA,gB,gA];exact rfl) |((first |apply QX |apply QY);(first |rfl |decide |assumption)))
   exact⟨L.length-(i+1),by omega,i+1,q,ver,t,by omega,rfl,hft.symm,ht9,rfl,hHs,hHq,hsq,hq1,hf⟩
 ·obtain rfl:i=L.length:=by omega
  rw[List.take_length]at ht
  repeat(first |(with_reducible first |apply Q0 |apply Q1 |apply QG |apply Q2 |apply Q3 |apply Q4 |apply Q5 |apply Q6 |apply Q7 |apply Q8 |apply Q9 |apply QA |apply QB |apply QC |apply QD |apply QE |apply QF) |((first |(with_reducible apply QK rfl) |(apply QT;simp only[go_sem]<;>exact rfl));simp(disch:=omega)only[go_sem,hf,upd_ne,hHs];exact rfl;simp only[sB,sA,putA];exact rfl) |((first |(with_reducible apply QL rfl) |(apply QM;simp only[go_sem]<;>exact rfl));simp(disch:=omega)only[go_sem,hf,upd_ne,hHs];exact rfl;simp only[sB,sA,putA];exact rfl;simp only[logT_none,logT_rd,logT_wr,List.cons_append,List.nil_append];exact rfl) |((first |apply QI |apply QN);simp only[go_sem]<;>exact rfl;simp only[sB,sA,putA];exact rfl) |(refine QO ?_ ?_;first |focus(simp only[dyn_nil,dyn_cons,allY_nil,allY_cons,dj_rr,true_or,true_and];done) |focus(simp only[dyn_nil,dyn_cons,allY_nil,allY_cons,Dj,List.mem_cons,List.not_mem_nil,or_false,forall_eq,forall_eq_or_imp,and_true,true_and,false_imp_iff,implies_true];omega) |focus(simp only[dyn_nil,dyn_cons,allY_nil,allY_cons,and_true,true_and];(repeat' refine And.intro ?_ ?_);all_goals first |(left;simp only[Dj,List.mem_cons,List.not_mem_nil,or_false,forall_eq,forall_eq_or_imp,and_true,true_and,false_imp_iff,implies_true];first |done |omega) |(right;kernel_rfl))) |(apply QQ;simp only[evA,gB,gA];exact rfl) |((first |apply QX |apply QY);(first |rfl |decide |assumption)))
  refine AWp.loop [1,3,5] (fun Γ H s' m=>∃(i q ver:Nat) (t:List Int),i≤ops.length∧m=ops.length-i∧t=(ops.take i).foldl stepF (addsF L)∧t.length≤1000000000∧Γ=(List.replicate 1 .junk)++[.ptr s 0 0]++(List.replicate 1 .junk)++[.sl q ver 0 t.length]++(List.replicate 1 .junk)++[.sc (.int .i64 (i:Nat))]++(List.replicate 39 .junk)∧H s=some (.row 0 1 [.dsl L.length (elsA L),.dsl ops.length (opsA ops),.sc (.bool b),.sc (.int .i64 x),.sc (.int .i64 y)])∧H q=some (.row ver 1 (ints t))∧s<q∧q<s'∧(∀q,s'≤q→H q=none)) ops.length ?_ ?_
  ·exact⟨0,q,ver,t,Nat.zero_le _,rfl,ht,ht9,rfl,hHs,hHq,hsq,hq1,hf⟩
  clear hHs hHq hsq hq1 hf ht ht9
  clear hlt
  rintro Γ H s2 m ⟨i,q,ver,t,hi,rfl,ht,ht9,rfl,hHs,hHq,hsq,hq1,hf⟩
  refine wA_ok hmix ctG_ok _ (by kernel_rfl) ?_
  simp(maxSteps:=1000000)only[List.replicate_succ,List.replicate_zero,List.cons_append,List.nil_append,List.append_nil]
  by_cases hlt:i<ops.length
  ·have hft:(ops.take (i+1)).foldl stepF (addsF L)=stepF t ops[i]:=by rw[foldl_take _ _ hlt,←ht]
   obtain⟨o,hoo⟩:∃o:OpT,o=ops[i]:=⟨_,rfl⟩
   have heta:(⟨ops[i].k,ops[i].h,ops[i].w,ops[i].v⟩:OpT)=o:=by rw[hoo]
   rw[←hoo]at hft
   have hsl:=stepF_le o ht9
   by_cases he:(stepE t o).1=0
   ·have hA:stepA q ver t o= .new (.row 0 1 (ints (stepF t o))) fun n=>.ret (.sl n 0 0 (stepF t o).length):=if_pos he
    repeat(first |(with_reducible first |apply Q0 |apply Q1 |apply QG |apply Q2 |apply Q3 |apply Q4 |apply Q5 |apply Q6 |apply Q7 |apply Q8 |apply Q9 |apply QA |apply QB |apply QC |apply QD |apply QE |apply QF) |((first |(with_reducible apply QK rfl) |(apply QT;simp only[go_sem]<;>exact rfl));simp(disch:=omega)only[go_sem,hf,upd_ne,hHs,hHq,cal90,ctG_90,c90,iK_ok,ht9,opsA_len,opsA_drop,heta,hA];exact rfl;simp only[sB,sA,putA];exact rfl) |((first |(with_reducible apply QL rfl) |(apply QM;simp only[go_sem]<;>exact rfl));simp(disch:=omega)only[go_sem,hf,upd_ne,hHs,hHq,cal90,ctG_90,c90,iK_ok,ht9,opsA_len,opsA_drop,heta,hA];exact rfl;simp only[sB,sA,putA];exact rfl;simp only[logT_none,logT_rd,logT_wr,List.cons_append,List.nil_append];exact rfl) |((first |apply QI |apply QN);simp only[go_sem]<;>exact rfl;simp only[sB,sA,putA];exact rfl) |(refine QO ?_ ?_;first |focus(simp only[dyn_nil,dyn_cons,allY_nil,allY_cons,dj_rr,true_or,true_and];done) |focus(simp only[dyn_nil,dyn_cons,allY_nil,allY_cons,Dj,List.mem_cons,List.not_mem_nil,or_false,forall_eq,forall_eq_or_imp,and_true,true_and,false_imp_iff,implies_true];omega) |focus(simp only[dyn_nil,dyn_cons,allY_nil,allY_cons,and_true,true_and];(repeat' refine And.intro ?_ ?_);all_goals first |(left;simp only[Dj,List.mem_cons,List.not_mem_nil,or_false,forall_eq,forall_eq_or_imp,and_true,true_and,false_imp_iff,implies_true];first |done |omega) |(right;kernel_rfl))) |(apply QQ;simp only[evA,gB,gA];exact rfl) |((first |apply QX |apply QY);(first |rfl |decide |assumption)))
    exact⟨ops.length-(i+1),by omega,i+1,_,0,stepF t o,by omega,rfl,hft.symm,hsl,rfl,by(simp(disch:=omega)only[upd_ne];exact hHs),upd_same _ _ _,by omega,by omega,fun q hq=>by(simp(disch:=omega)only[upd_ne];exact hf q (by omega))⟩
   ·have hA:stepA q ver t o= .ret (.sl q ver 0 t.length):=if_neg he
    have hF:stepF t o=t:=if_neg he
    rw[hF]at hft
    repeat(first |(with_reducible first |apply Q0 |apply Q1 |apply QG |apply Q2 |apply Q3 |apply Q4 |apply Q5 |apply Q6 |apply Q7 |apply Q8 |apply Q9 |apply QA |apply QB |apply QC |apply QD |apply QE |apply QF) |((first |(with_reducible apply QK rfl) |(apply QT;simp only[go_sem]<;>exact rfl));simp(disch:=omega)only[go_sem,hf,upd_ne,hHs,hHq,cal90,ctG_90,c90,iK_ok,ht9,opsA_len,opsA_drop,heta,hA];exact rfl;simp only[sB,sA,putA];exact rfl) |((first |(with_reducible apply QL rfl) |(apply QM;simp only[go_sem]<;>exact rfl));simp(disch:=omega)only[go_sem,hf,upd_ne,hHs,hHq,cal90,ctG_90,c90,iK_ok,ht9,opsA_len,opsA_drop,heta,hA];exact rfl;simp only[sB,sA,putA];exact rfl;simp only[logT_none,logT_rd,logT_wr,List.cons_append,List.nil_append];exact rfl) |((first |apply QI |apply QN);simp only[go_sem]<;>exact rfl;simp only[sB,sA,putA];exact rfl) |(refine QO ?_ ?_;first |focus(simp only[dyn_nil,dyn_cons,allY_nil,allY_cons,dj_rr,true_or,true_and];done) |focus(simp only[dyn_nil,dyn_cons,allY_nil,allY_cons,Dj,List.mem_cons,List.not_mem_nil,or_false,forall_eq,forall_eq_or_imp,and_true,true_and,false_imp_iff,implies_true];omega) |focus(simp only[dyn_nil,dyn_cons,allY_nil,allY_cons,and_true,true_and];(repeat' refine And.intro ?_ ?_);all_goals first |(left;simp only[Dj,List.mem_cons,List.not_mem_nil,or_false,forall_eq,forall_eq_or_imp,and_true,true_and,false_imp_iff,implies_true];first |done |omega) |(right;kernel_rfl))) |(apply QQ;simp only[evA,gB,gA];exact rfl) |((first |apply QX |apply QY);(first |rfl |decide |assumption)))
    exact⟨ops.length-(i+1),by omega,i+1,q,ver,t,by omega,rfl,hft.symm,ht9,rfl,hHs,hHq,hsq,hq1,hf⟩
  ·obtain rfl:i=ops.length:=by omega
   rw[List.take_length]at ht
   repeat(first |(with_reducible first |apply Q0 |apply Q1 |apply QG |apply Q2 |apply Q3 |apply Q4 |apply Q5 |apply Q6 |apply Q7 |apply Q8 |apply Q9 |apply QA |apply QB |apply QC |apply QD |apply QE |apply QF) |((first |(with_reducible apply QK rfl) |(apply QT;simp only[go_sem]<;>exact rfl));simp(disch:=omega)only[go_sem,hf,upd_ne,hHs];exact rfl;simp only[sB,sA,putA];exact rfl) |((first |(with_reducible apply QL rfl) |(apply QM;simp only[go_sem]<;>exact rfl));simp(disch:=omega)only[go_sem,hf,upd_ne,hHs];exact rfl;simp only[sB,sA,putA];exact rfl;simp only[logT_none,logT_rd,logT_wr,List.cons_append,List.nil_append];exact rfl) |((first |apply QI |apply QN);simp only[go_sem]<;>exact rfl;simp only[sB,sA,putA];exact rfl) |(refine QO ?_ ?_;first |focus(simp only[dyn_nil,dyn_cons,allY_nil,allY_cons,dj_rr,true_or,true_and];done) |focus(simp only[dyn_nil,dyn_cons,allY_nil,allY_cons,Dj,List.mem_cons,List.not_mem_nil,or_false,forall_eq,forall_eq_or_imp,and_true,true_and,false_imp_iff,implies_true];omega) |focus(simp only[dyn_nil,dyn_cons,allY_nil,allY_cons,and_true,true_and];(repeat' refine And.intro ?_ ?_);all_goals first |(left;simp only[Dj,List.mem_cons,List.not_mem_nil,or_false,forall_eq,forall_eq_or_imp,and_true,true_and,false_imp_iff,implies_true];first |done |omega) |(right;kernel_rfl))) |(apply QQ;simp only[evA,gB,gA];exact rfl) |((first |apply QX |apply QY);(first |rfl |decide |assumption)))
   (apply QZ;simp(disch:=omega)only[go_sem,Try.results47];exact rfl;simp only[packA];exact rfl)
   have e:madeF L ops=t:=ht.symm
   rw[e]
   exact⟨⟨q,ver,rfl,hHq⟩,ht9⟩
end Go.Proofs.Ytdcomhdadnhpnaa
end
section
namespace Go.Proofs.Ytdcomhdadnhpnaa
open Go Go.Am Go.RowKit
attribute [local irreducible] wA opsQ opsLQ thenA blockA EndA
attribute [local go_sem] put5
theorem foldl_le {β:Type} {f:List Int→β→List Int} (hf:∀t b,t.length≤1000000000→(f t b).length≤1000000000):∀(l:List β) (t:List Int),t.length≤1000000000→(l.foldl f t).length≤1000000000
 | [],t,h=>h
 |b::l,t,h=>foldl_le hf l (f t b) (hf t b h)
theorem madeF_le (L:List (Int×Int)) (ops:List OpT):(madeF L ops).length≤1000000000:=
 foldl_le (fun t o h=>stepF_le o h) ops _ (foldl_le (fun t e h=>stepF_le _ h) L _ (by unfold emptyL;exact wordsF_le _ (by simp[emptyR])))
theorem RO.mono {P:Program} {f:FuncId} {args:List AV} {R R':AV→AHp→Prop} (h:RO P f args R) (hr:∀a H,R a H→R' a H):RO P f args R':=fun w vs ha=>
 (h w vs ha).mono fun e w' ⟨v,r1,H1,ρ1,a,b,c,d⟩=>⟨v,r1,H1,ρ1,a,b,c,hr _ _ d⟩
theorem made_own (L:List (Int×Int)) (ops:List OpT) (b:Bool) (x y:Int) (hL:L.length≤9223372036854775806) (ho:ops.length≤9223372036854775806):RO Try.prog 47 [playG L ops b x y] (OwnX (some (madeF L ops))):=
 (made_ro L ops b x y hL ho).mono fun _ _ h=>h.1
theorem play_data {ρ:Inj} {H:AHp} {w:World} {L:List (Int×Int)} {ops:List OpT} {b:Bool} {x y:Int} {v:Value} (h:Rep ρ (own ρ H) w (playG L ops b x y) v):Rep ρ0 (own ρ0 H0) w (playG L ops b x y) v:=by
 have key:∀ {n:Nat} {cs:List AV} {u:Value},(∀a∈cs,∃z,a= .sc z)→Rep ρ (own ρ H) w (.dsl n cs) u→Rep ρ0 (own ρ0 H0) w (.dsl n cs) u:=by
  intro n cs u hx hu
  cases hu with
  |dnil hl=>exact .dnil hl
  |dsl h1 h2 h3 h4 h5 h6=>
   refine .dsl h1 (own0 _) h3 h4 h5 (fun i a z ha hz=>?_)
   have h7:=h6 i a z ha hz
   obtain⟨z',rfl⟩:=hx a (List.mem_of_getElem? ha)
   cases h7
   exact .sc _
 obtain⟨us,rfl,hu⟩:=Rep.agg_iff.1 h
 obtain⟨v0,t,e0,k0,hu⟩:=Reps.uncons hu
 obtain⟨v1,t1,e1,k1,hu⟩:=Reps.uncons hu
 refine Rep.agg_iff.2 ⟨us,rfl,?_⟩
 rw[e0,e1]
 refine .cons (key (fun a ha=>elsA_sc ha) k0) (.cons (key (fun a ha=>?_) k1) (reps_sc (T:=[.bool b,.int .i64 x,.int .i64 y]) hu))
 obtain⟨o,_,ha⟩:=List.mem_flatMap.1 ha
 simp at ha
 rcases ha with rfl |rfl |rfl |rfl<;>exact⟨_,rfl⟩
open Classical in
noncomputable def c47p (L:List (Int×Int)) (ops:List OpT) (b:Bool) (x y:Int) (args:List AV):AP AV:=
 if args=[playG L ops b x y]∧L.length≤9223372036854775806∧ops.length≤9223372036854775806 then .new (.row 0 1 (ints (madeF L ops))) fun n=>.ret (.sl n 0 0 (madeF L ops).length)else .fail
theorem a47p (L:List (Int×Int)) (ops:List OpT) (b:Bool) (x y:Int) (args:List AV):ACall Try.prog 47 args (c47p L ops b x y args):=by
 intro ρ H w vs hR hA s r H' s' hm
 unfold c47p at hm
 split at hm
 ·rename_i h
  obtain⟨rfl,hL,ho⟩:=h
  obtain⟨v0,rfl,hv0⟩:=reps1 hA
  exact(made_own L ops b x y hL ho).own1 hR (.cons (play_data hv0) .nil) hm
 ·simp[AP.run]at hm
noncomputable def ctH (L:List (Int×Int)) (ops:List OpT) (b:Bool) (x y:Int):CT:=fun f args=>if f=47 then c47p L ops b x y args else ctG f args
theorem ctH_ok (L:List (Int×Int)) (ops:List OpT) (b:Bool) (x y:Int):CTok Try.prog (ctH L ops b x y):=fun f args=>by
 unfold ctH
 split
 ·rename_i e;subst e;exact a47p L ops b x y args
 ·exact ctG_ok f args
theorem ctH_47 (L:List (Int×Int)) (ops:List OpT) (b:Bool) (x y:Int) (a:List AV):ctH L ops b x y 47 a=c47p L ops b x y a:=rfl
theorem cal47:callable Try.prog 47=true:=by kernel_rfl
noncomputable def bentF (L:List (Int×Int)) (ops:List OpT) (b:Bool) (x y:Int):List Int:=
 if b=true∧0≤x∧x<((madeF L ops).length:Nat)then(madeF L ops).set x.toNat y else madeF L ops
theorem bentF_le (L:List (Int×Int)) (ops:List OpT) (b:Bool) (x y:Int):(bentF L ops b x y).length≤1000000000:=by
 unfold bentF
 split
 ·rw[List.length_set];exact madeF_le L ops
 ·exact madeF_le L ops
set_option maxRecDepth 100000 in
set_option maxHeartbeats 4000000 in
theorem bent_rc (L:List (Int×Int)) (ops:List OpT) (b:Bool) (x y:Int) (hL:L.length≤9223372036854775806) (ho:ops.length≤9223372036854775806):
  RC Try.prog 33 [playG L ops b x y] (.dsl (bentF L ops b x y).length (ints (bentF L ops b x y))):=by
 refine rc_of hmix (ctH_ok L ops b x y) Try.func33 rfl (by kernel_rfl) (fun E s hs=>?_)
 simp(maxSteps:=300000)only[begA,Try.ntmps33,List.replicate_succ,List.replicate_zero,List.length_cons,List.length_nil,List.cons_append,List.nil_append]
 have hm:=madeF_le L ops
 have hc:c47p L ops b x y [playG L ops b x y]= .new (.row 0 1 (ints (madeF L ops))) fun n=>.ret (.sl n 0 0 (madeF L ops).length):=if_pos ⟨rfl,hL,ho⟩
 unfold bentF
 generalize madeF L ops=t at*
 have hil:=ints_len t
 cases b with
 |false=>
  rw[if_neg (by simp)]
  repeat(first |(with_reducible first |apply Q0 |apply Q1 |apply Q2 |apply Q3 |apply Q4 |apply Q5 |apply Q6 |apply Q7 |apply Q8 |apply Q9 |apply QA |apply QB |apply QC |apply QD |apply QE |apply QF) |((first |(with_reducible apply QK rfl) |(apply QT;simp only[go_sem]<;>exact rfl));simp(disch:=omega)only[go_sem,hs,upd_ne,cal47,ctH_47,hc];exact rfl;simp only[sB,sA,putA];exact rfl) |(apply QI;simp only[go_sem]<;>exact rfl;simp only[sB,sA,putA];exact rfl) |(apply QQ;simp only[evA,gB,gA];exact rfl) |((first |apply QX |apply QY);(first |rfl |decide |assumption)))
  (apply QZ;simp(disch:=omega)only[go_sem,Try.results33];exact rfl;simp only[packA];exact rfl)
  exact Exp.ints (by simp(disch:=omega)only[upd_same,upd_ne])
 |true=>
  by_cases h0:0≤x
  ·by_cases h1:x<(t.length:Nat)
   ·rw[if_pos ⟨rfl,h0,h1⟩]
    obtain⟨i,hi⟩:∃i:Nat,x=(i:Int):=⟨x.toNat,by omega⟩
    subst hi
    have hit:i<t.length:=by omega
    rw[Int.toNat_natCast,List.length_set]
    repeat(first |(with_reducible first |apply Q0 |apply Q1 |apply Q2 |apply Q3 |apply Q4 |apply Q5 |apply Q6 |apply Q7 |apply Q8 |apply Q9 |apply QA |apply QB |apply QC |apply QD |apply QE |apply QF) |((first |(with_reducible apply QK rfl) |(apply QT;simp only[go_sem]<;>exact rfl));simp(disch:=omega)only[go_sem,hs,upd_ne,cal47,ctH_47,hc,hil,ints_set];exact rfl;simp only[sB,sA,putA];exact rfl) |(apply QI;simp only[go_sem]<;>exact rfl;simp only[sB,sA,putA];exact rfl) |(apply QQ;simp only[evA,gB,gA];exact rfl) |((first |apply QX |apply QY);(first |rfl |decide |assumption)))
    (apply QZ;simp(disch:=omega)only[go_sem,Try.results33];exact rfl;simp only[packA];exact rfl)
    exact Exp.ints (by simp(disch:=omega)only[upd_same,upd_ne])
   ·rw[if_neg (fun h=>h1 h.2.2)]
    repeat(first |(with_reducible first |apply Q0 |apply Q1 |apply Q2 |apply Q3 |apply Q4 |apply Q5 |apply Q6 |apply Q7 |apply Q8 |apply Q9 |apply QA |apply QB |apply QC |apply QD |apply QE |apply QF) |((first |(with_reducible apply QK rfl) |(apply QT;simp only[go_sem]<;>exact rfl));simp(disch:=omega)only[go_sem,hs,upd_ne,cal47,ctH_47,hc,h0,h1];exact rfl;simp only[sB,sA,putA];exact rfl) |(apply QI;simp only[go_sem]<;>exact rfl;simp only[sB,sA,putA];exact rfl) |(apply QQ;simp only[evA,gB,gA];exact rfl) |((first |apply QX |apply QY);(first |rfl |decide |assumption)))
    (apply QZ;simp(disch:=omega)only[go_sem,Try.results33];exact rfl;simp only[packA];exact rfl)
    exact Exp.ints (by simp(disch:=omega)only[upd_same,upd_ne])
  ·rw[if_neg (fun h=>h0 h.2.1)]
   repeat(first |(with_reducible first |apply Q0 |apply Q1 |apply Q2 |apply Q3 |apply Q4 |apply Q5 |apply Q6 |apply Q7 |apply Q8 |apply Q9 |apply QA |apply QB |apply QC |apply QD |apply QE |apply QF) |((first |(with_reducible apply QK rfl) |(apply QT;simp only[go_sem]<;>exact rfl));simp(disch:=omega)only[go_sem,hs,upd_ne,cal47,ctH_47,hc,h0];exact rfl;simp only[sB,sA,putA];exact rfl) |(apply QI;simp only[go_sem]<;>exact rfl;simp only[sB,sA,putA];exact rfl) |(apply QQ;simp only[evA,gB,gA];exact rfl) |((first |apply QX |apply QY);(first |rfl |decide |assumption)))
   (apply QZ;simp(disch:=omega)only[go_sem,Try.results33];exact rfl;simp only[packA];exact rfl)
   exact Exp.ints (by simp(disch:=omega)only[upd_same,upd_ne])
set_option maxRecDepth 100000 in
set_option maxHeartbeats 4000000 in
theorem small_rc (L:List (Int×Int)) (ops:List OpT) (b:Bool) (x y:Int):
  RC Try.prog 32 [playG L ops b x y] (.sc (.bool (decide (L.length≤300∧ops.length≤300)))):=by
 refine rc_of hmix ctG_ok Try.func32 rfl (by kernel_rfl) (fun E s hs=>?_)
 simp(maxSteps:=300000)only[begA,Try.ntmps32,List.replicate_succ,List.replicate_zero,List.length_cons,List.length_nil,List.cons_append,List.nil_append]
 by_cases h1:L.length≤300
 ·by_cases h2:ops.length≤300
  ·rw[decide_eq_true (show L.length≤300∧ops.length≤300 from⟨h1,h2⟩)]
   repeat(first |(with_reducible first |apply Q0 |apply Q1 |apply Q2 |apply Q3 |apply Q4 |apply Q5 |apply Q6 |apply Q7 |apply Q8 |apply Q9 |apply QA |apply QB |apply QC |apply QD |apply QE |apply QF) |((first |(with_reducible apply QK rfl) |(apply QT;simp only[go_sem]<;>exact rfl));simp(disch:=omega)only[go_sem,hs,upd_ne];exact rfl;simp only[sB,sA,putA];exact rfl) |(apply QI;simp only[go_sem]<;>exact rfl;simp only[sB,sA,putA];exact rfl) |(apply QQ;simp only[evA,gB,gA];exact rfl) |((first |apply QX |apply QY);(first |rfl |decide |assumption)))
   (apply QZ;simp(disch:=omega)only[go_sem,Try.results32];exact rfl;simp only[packA];exact rfl)
   exact .sc _
  ·rw[decide_eq_false (fun h=>h2 h.2)]
   repeat(first |(with_reducible first |apply Q0 |apply Q1 |apply Q2 |apply Q3 |apply Q4 |apply Q5 |apply Q6 |apply Q7 |apply Q8 |apply Q9 |apply QA |apply QB |apply QC |apply QD |apply QE |apply QF) |((first |(with_reducible apply QK rfl) |(apply QT;simp only[go_sem]<;>exact rfl));simp(disch:=omega)only[go_sem,hs,upd_ne];exact rfl;simp only[sB,sA,putA];exact rfl) |(apply QI;simp only[go_sem]<;>exact rfl;simp only[sB,sA,putA];exact rfl) |(apply QQ;simp only[evA,gB,gA];exact rfl) |((first |apply QX |apply QY);(first |rfl |decide |assumption)))
   (apply QZ;simp(disch:=omega)only[go_sem,Try.results32];exact rfl;simp only[packA];exact rfl)
   exact .sc _
 ·rw[decide_eq_false (fun h=>h1 h.1)]
  repeat(first |(with_reducible first |apply Q0 |apply Q1 |apply Q2 |apply Q3 |apply Q4 |apply Q5 |apply Q6 |apply Q7 |apply Q8 |apply Q9 |apply QA |apply QB |apply QC |apply QD |apply QE |apply QF) |((first |(with_reducible apply QK rfl) |(apply QT;simp only[go_sem]<;>exact rfl));simp(disch:=omega)only[go_sem,hs,upd_ne];exact rfl;simp only[sB,sA,putA];exact rfl) |(apply QI;simp only[go_sem]<;>exact rfl;simp only[sB,sA,putA];exact rfl) |(apply QQ;simp only[evA,gB,gA];exact rfl) |((first |apply QX |apply QY);(first |rfl |decide |assumption)))
  (apply QZ;simp(disch:=omega)only[go_sem,Try.results32];exact rfl;simp only[packA];exact rfl)
  exact .sc _
end Go.Proofs.Ytdcomhdadnhpnaa
end
end
