import Derived.Test.YtdcomhdadnhpnaaYZA9
import Derived.Test.YtdcomhdadnhpnaaYZP15
set_option linter.all false
namespace Go.Proofs.Ytdcomhdadnhpnaa
open Go Go.Am Go.RowKit
attribute [local irreducible] wA opsQ opsLQ thenA blockA EndA
set_option maxRecDepth 100000 in
set_option maxHeartbeats 8000000 in
theorem rdrop_B (l:List Int) (h x:Int) (hl:l.length≤1000000000) (hV:ValidL l) (hh:0≤h∧h≤2147483647) (ho0:0≤ofF (recsT l) (chsT l) (h,x)) (r0:Nat) (hr0:ofF (recsT l) (chsT l) (h,x)=(r0:Int)) (hrl0:r0≠(recsT l).length-1) (hk0:drpK (recsT l) (chsT l).length≠bkt h.toNat (chsT l).length)
  (E:Ent) (s:Nat) (hs:∀q,E.H q=none):
  AWp Try.prog E Try.f37.body.get! (begA Try.f37 [.dsl l.length (ints l),.sc (.int .i64 h),.sc (.int .i64 x)]) E.H s (EndA Try.prog Try.f37 (OwnT (ansX (dropF l h x).2.2 (dropF l h x).2.1) [.int .i64 (dropF l h x).1,.int .i64 (dropF l h x).2.2])):=by
 simp(maxSteps:=300000)only[begA,Try.ntmps37,List.replicate_succ,List.replicate_zero,List.length_cons,List.length_nil,List.cons_append,List.nil_append]
 simp only[Try.f37,Option.get!_some]
 have hW:=wok_valid hV
 have hn1:=hW.n
 have hb:=hW.b
 have hb8:=bkts8 (recsT l).length
 have hbl:=bkts_le (recsT l).length (by omega)
 have hdok:=fun hh h0 r hr=>drop_ok (h:=h) (x:=x) hV hh h0 (r:=r) hr
 have hor:=of_rec (h:=h) (x:=x) hV
 have how:=of_wds (h:=h) (x:=x) hV
 obtain⟨recs,hR⟩:∃recs,recs=recsT l:=⟨_,rfl⟩
 obtain⟨chs,hC⟩:∃chs,chs=chsT l:=⟨_,rfl⟩
 rw[←hR,←hC]at hW hb hdok hor how
 rw[←hR]at hn1 hb8 hbl
 replace hR:=hR.symm
 replace hC:=hC.symm
 rw[←hb]at hb8 hbl
 have hcn:(rowsN chs).length=chs.length:=rowsN_len _
 have hct:(rowsN chs).take chs.length=rowsN chs:=List.take_of_length_le (by rw[rowsN_len];exact Nat.le_refl _)
 have het:=elsA_take recs
 have hel:=elsA_len recs
 have hN:(recs=[]∧∀k,newE recs k=k (.sc (.slice none 0 0)))∨(0<recs.length∧∀k,newE recs k= .new (.row 0 2 (elsA recs)) fun n=>k (.sl n 0 0 recs.length)):=by
  by_cases h0:recs.length=0
  ·obtain rfl:=List.length_eq_zero_iff.1 h0
   exact .inl ⟨rfl,fun k=>rfl⟩
  ·exact .inr ⟨by omega,fun k=>if_neg h0⟩
 have ho:0≤ofF recs chs (h,x):=by rw[←hR,←hC];exact ho0
 obtain⟨r,e1,e2,e3,e4⟩:=hor ho
 obtain rfl:r=r0:=by rw[←hR,←hC]at e1;omega
 have hh2:h≤4294967296:=by omega
 have hD:=hdok hh ho r e1
 have hnl:¬((r:Nat):Int)<0:=by omega
 obtain⟨last,hlast⟩:∃last,recs.length=last+1:=⟨recs.length-1,by omega⟩
 have hl1:recs.length-1=last:=by omega
 have hlI:((recs.length:Nat):Int)-1=((last:Nat):Int):=by omega
 obtain⟨hw,_,hrc,hlk,hkh,hw0,hm1,hw1⟩:=hD
 unfold rdropX at hw
 rw[hl1]at hw hlk hkh hw0 hm1 hw1
 have hixl:=bkt_lt h.toNat (b:=chs.length) (by omega)
 obtain⟨ix,hix⟩:∃ix,bkt h.toNat chs.length=ix:=⟨_,rfl⟩
 rw[hix]at hixl hrc
 obtain⟨c,hc⟩:∃c,chs[ix]=c:=⟨_,rfl⟩
 have hcx:(rowsN chs)[ix]? =some (.dsl c.length (natsA c)):=by rw[←hc];simp[rowsN,hixl]
 have hgd:chs.getD ix []=c:=by rw[←hc];simp[hixl]
 rw[hgd]at hrc
 have hcl:c.length≤100000:=by rw[←hc];exact hW.l _ (List.getElem_mem hixl)
 obtain⟨c2,hc2⟩:∃c2,wiN c r=c2:=⟨_,rfl⟩
 have hc2l:c2.length≤100000:=by rw[←hc2];exact Nat.le_trans (wiN_le c r) hcl
 have hA:drpA chs h r=chs.set ix c2:=by unfold drpA;rw[hix,hgd,hc2]
 have hset0:(rowsN chs).set ix (.dsl c2.length (natsA c2))=rowsN (chs.set ix c2):=(rowsN_set _ _ _).symm
 have h18:c18r [.sc (.int .i64 ((last:Nat):Int))]= .ret (.sc (.int .i64 (bkts last:Nat))):=by
  unfold c18r
  simp only
  rw[if_pos (by omega),Int.toNat_natCast]
 have hlT:((last:Nat):Int).toNat=last:=Int.toNat_natCast _
 have hN':∀k,newE recs k= .new (.row 0 2 (elsA recs)) fun n=>k (.sl n 0 0 recs.length):=by
  rcases hN with⟨rfl,hN⟩ |⟨h0,hN⟩
  ·simp at e2
  ·exact hN
 clear hN
 have hrT:((r:Nat):Int).toNat=r:=Int.toNat_natCast _
 have hrlI:((r:Nat):Int)≤100000:=by omega
 have hidx:c.idxOf r<c.length:=List.idxOf_lt_length_of_mem hrc
 have hrl:¬r=last:=by rw[hR,hl1]at hrl0;exact hrl0
 have hrne:¬((r:Nat):Int)=((last:Nat):Int):=by omega
 have hla:last<recs.length:=by omega
 have hgl:recs.getD last (0,0)=recs[last]:=by simp[hla]
 have hlk:=hlk hrl
 have hkh:=hkh hrl
 rw[hgl]at hkh
 have hkh1:=hkh.1
 have hkh2:recs[last].1≤4294967296:=by omega
 obtain⟨kk,hkk⟩:∃kk,bkt recs[last].1.toNat chs.length=kk:=⟨_,rfl⟩
 have hkkl:=bkt_lt recs[last].1.toNat (b:=chs.length) (by omega)
 rw[hkk]at hkkl
 have hK:drpK recs chs.length=kk:=by unfold drpK;rw[hl1,hgl,hkk]
 obtain⟨ck,hck⟩:∃ck,(chs.set ix c2).getD kk []=ck:=⟨_,rfl⟩
 have hdC:drpC recs chs h r=ck:=by unfold drpC;rw[hA,hK,hck]
 rw[hdC]at hlk
 have hckl:ck.length≤100000:=by
  have e:(chs.set ix c2).getD kk []=if ix=kk then c2 else chs[kk]:=by
   rw[List.getD_eq_getElem?_getD,List.getElem?_set]
   by_cases e:ix=kk
   ·simp[e,hkkl]
   ·simp[e,hkkl]
  rw[←hck,e]
  split
  ·exact hc2l
  ·exact hW.l _ (List.getElem_mem hkkl)
 have hidk:ck.idxOf last<ck.length:=List.idxOf_lt_length_of_mem hlk
 obtain⟨at_,hat⟩:∃at_,ck.idxOf last=at_:=⟨_,rfl⟩
 rw[hat]at hidk
 obtain⟨c3,hc3⟩:∃c3,ck.set at_ r=c3:=⟨_,rfl⟩
 have hc3l:c3.length=ck.length:=by rw[←hc3];simp
 have hw3:(natsA ck).set at_ (.sc (.int .i64 (r:Nat)))=natsA c3:=by rw[←hc3];simp
 have hB:drpB recs chs h r=(chs.set ix c2).set kk c3:=by unfold drpB;rw[hl1,if_neg hrl,hK,hdC,hA,hat,hc3]
 obtain⟨RB,hRB⟩:∃RB,RB=recs.set r recs[last]:=⟨_,rfl⟩
 have hRR:drpR recs r=RB:=by unfold drpR;rw[hl1,if_neg hrl,hgl,hRB]
 have hL:drpL recs chs h r=c.idxOf r+1+(at_+1):=by unfold drpL;rw[hl1,if_neg hrl,hix,hgd,hdC,hat]
 rw[hB,hRR]at hw hw0 hm1 hw1
 rw[hL]at hw
 obtain⟨CB,hCB⟩:∃CB,CB=(chs.set ix c2).set kk c3:=⟨_,rfl⟩
 rw[←hCB]at hw hw0 hm1 hw1
 have hCBl:CB.length=chs.length:=by rw[hCB];simp
 have hRBl:RB.length=recs.length:=by rw[hRB];simp
 have hTE:(elsA RB).take (last*2)=elsA (RB.take last):=elsA_takeK _ _
 have hTl:(RB.take last).length=last:=by rw[List.length_take];omega
 have hexl:=elsA_at0 hla
 have hexl1:=elsA_at1 hla
 have hdrl:=elsA_drop hla
 have hst:putCells (elsA recs) (r*2) [.sc (.int .i64 recs[last].1),.sc (.int .i64 recs[last].2)]=elsA RB:=by rw[hRB];exact elsA_putE _ e2
 have hcnt:(natsA ck).take ck.length=natsA ck:=natsA_take _
 have hcnl:(natsA ck).length=ck.length:=natsA_len _
 have hkx:¬kk=ix:=by rw[hR,hC,hK,hix]at hk0;exact hk0
 have hck2:chs.getD kk []=ck:=by rw[←hck];simp only[List.getD_eq_getElem?_getD];rw[List.getElem?_set_ne (Ne.symm hkx)]
 have hckn:ck≠[]:=fun e=>by rw[e]at hlk;cases hlk
 have hckn':(ck=[])=False:=by simp[hckn]
 have hck3:chs[kk]? =some ck:=by rw[←hck2];simp[hkkl]
 have hVc:((rowsN chs).set kk (.sl (s+1) 0 0 ck.length))[ix]? =some (.dsl c.length (natsA c)):=by rw[List.getElem?_set_ne hkx];exact hcx
 have hVl:((rowsN chs).set kk (.sl (s+1) 0 0 ck.length)).length=chs.length:=by rw[List.length_set,rowsN_len]
 have hVt:((rowsN chs).set kk (.sl (s+1) 0 0 ck.length)).take chs.length=(rowsN chs).set kk (.sl (s+1) 0 0 ck.length):=List.take_of_length_le (by omega)
 have hrr:∀(H0:AHp) (A B D D2:AO) (k:List (List Nat)→AP AV) (s':Nat),(rdRows ((rowsN chs).set kk (.sl (s+1) 0 0 ck.length)) k).run (upd (upd (upd (upd (upd H0 s A) (s+1) (.row 0 1 (natsA ck))) (s+1+1) B) (s+1+1+1) D) (s+1+1+1) D2) s'=(k chs).run (upd (upd (upd (upd (upd H0 s A) (s+1) (.row 0 1 (natsA ck))) (s+1+1) B) (s+1+1+1) D) (s+1+1+1) D2) s':=fun H0 A B D D2 k s'=>
  ((Tells.rowsN _ chs).set hck3 (.inr ⟨s+1,rfl,by simp(disch:=omega)only[upd_ne,upd_same]⟩)).rows k s'
 obtain⟨cells,hcells⟩:∃cells,((rowsN chs).set kk (.sl (s+1) 0 0 ck.length)).set ix (.dsl c2.length (natsA c2))=cells:=⟨_,rfl⟩
 have hcellen:cells.length=chs.length:=by rw[←hcells,List.length_set,hVl]
 have hgx:cells[kk]? =some (.sl (s+1) 0 0 ck.length):=by
  rw[←hcells,List.getElem?_set_ne (Ne.symm hkx),List.getElem?_set_self (by rw[rowsN_len];exact hkkl)]
 have hset:cells.set kk (.dsl ck.length (natsA c3))=rowsN CB:=by
  rw[←hcells,hCB,rowsN_set,rowsN_set,hc3l,List.set_comm _ _ hkx,List.set_set,List.set_comm _ _ (Ne.symm hkx)]
 have hq1:((s+1)≠(s+1+1))=True:=eq_true (by omega)
 by_cases hdv:bkts last<chs.length
 ·rw[if_pos hdv]at hw
  have hMO:=hm1 hdv
  have hWf:=hw1 hdv
  have hol:=hMO.olen
  have hdvI:((bkts last:Nat):Int)<((chs.length:Nat):Int):=by omega
  obtain⟨j,hj⟩:∃j,chs.length=j+1:=⟨chs.length-1,by omega⟩
  have hjm:chs.length-1=j:=by omega
  rw[hjm]at hw hWf
  have hSl:(mrgS RB CB).length=chs.length:=by unfold mrgS;simp[hCBl]
  have hTC:(rowsN (mrgS RB CB)).take j=rowsN ((mrgS RB CB).take j):=rowsN_take _ _
  have hTCl:((mrgS RB CB).take j).length=j:=by rw[List.length_take,hSl];omega
  have hw':dropF l h x=(((c.idxOf r:Nat):Int)+1+(((at_:Nat):Int)+1)+((mrgO RB CB).length:Nat),wordsF (RB.take last) ((mrgS RB CB).take j),0):=by
   rw[hw];simp
  rw[hw']
  refine wA_ok hmix (ctD_ok (A:=c18f (s+1) (s+1+1) kk c3 cells) (B:=c78k kk) (C:=c84d) (a18f _ _ _ _ _) (a78k kk) a84d) _ (by kernel_rfl) ?_
  repeat(first |(with_reducible first |apply Q0 |apply Q1 |apply QG |apply Q2 |apply Q3 |apply Q4 |apply Q5 |apply Q6 |apply Q7 |apply Q8 |apply Q9 |apply QA |apply QB |apply QC |apply QD |apply QE |apply QF) |((first |(with_reducible apply QK rfl) |(apply QT;simp only[go_sem]<;>exact rfl));simp(disch:=omega)only[go_sem,hs,upd_ne,cal78,ctD_78,c78k,rdD_dsl,hl,hV,hR,hC,cal21,ctD_21,ctR_21,c21,hh,cal79,ctD_79,c79,rdT,rdE2,rdC,hcn,het,hel,elsOf_elsA,hW,hh2,e1,hnl,List.drop_zero,cal22,ctD_22,ctR_22,c22r,hix,cal83,ctD_83,c83,rdN_dsl,hrc,hcl,hrT,cal84,ctD_84,hc2,hlI,hlT,Nat.sub_zero,cal18,ctD_18,h18,hkkl,hck2,hckn',hVc,hVl,hVt,hrr,hcells,c84d,hcellen,hgx,hrne,hexl,hexl1,hdrl,hkk,hkh1,hkh2,rdN,rdK,hcnt,hcnl,intsOf_ints,toN_cast,hlk,hckl,hat,hw3,hst,c18f,hc3l,hset,hq1,hRBl,↓reduceIte,not_false_eq_true,ne_eq,hdvI,cal85,ctD_85,c85,bxK,eK_ok,cK_ok,hMO,hCBl,hjm,cal51,ctD_51,c51o,hTE,hTl,hTC,hTCl,hWf,rowsN_len,rdRows_data];exact rfl;simp only[sB,sA,putA];exact rfl) |((first |(with_reducible apply QL rfl) |(apply QM;simp only[go_sem]<;>exact rfl));simp(disch:=omega)only[go_sem,hs,upd_ne,cal78,ctD_78,c78k,rdD_dsl,hl,hV,hR,hC,cal21,ctD_21,ctR_21,c21,hh,cal79,ctD_79,c79,rdT,rdE2,rdC,hcn,het,hel,elsOf_elsA,hW,hh2,e1,hnl,List.drop_zero,cal22,ctD_22,ctR_22,c22r,hix,cal83,ctD_83,c83,rdN_dsl,hrc,hcl,hrT,cal84,ctD_84,hc2,hlI,hlT,Nat.sub_zero,cal18,ctD_18,h18,hkkl,hck2,hckn',hVc,hVl,hVt,hrr,hcells,c84d,hcellen,hgx,hrne,hexl,hexl1,hdrl,hkk,hkh1,hkh2,rdN,rdK,hcnt,hcnl,intsOf_ints,toN_cast,hlk,hckl,hat,hw3,hst,c18f,hc3l,hset,hq1,hRBl,↓reduceIte,not_false_eq_true,ne_eq,hdvI,cal85,ctD_85,c85,bxK,eK_ok,cK_ok,hMO,hCBl,hjm,cal51,ctD_51,c51o,hTE,hTl,hTC,hTCl,hWf,rowsN_len,rdRows_data];exact rfl;simp only[sB,sA,putA];exact rfl;simp only[logT_none,logT_rd,logT_wr,List.cons_append,List.nil_append];exact rfl) |((first |apply QI |apply QN);simp only[go_sem]<;>exact rfl;simp only[sB,sA,putA];exact rfl) |(refine QO ?_ ?_;first |focus(simp only[dyn_nil,dyn_cons,allY_nil,allY_cons,dj_rr,true_or,true_and];done) |focus(simp only[dyn_nil,dyn_cons,allY_nil,allY_cons,Dj,List.mem_cons,List.not_mem_nil,or_false,forall_eq,forall_eq_or_imp,and_true,true_and,false_imp_iff,implies_true];omega) |focus(simp only[dyn_nil,dyn_cons,allY_nil,allY_cons,and_true,true_and];(repeat' refine And.intro ?_ ?_);all_goals first |(left;simp only[Dj,List.mem_cons,List.not_mem_nil,or_false,forall_eq,forall_eq_or_imp,and_true,true_and,false_imp_iff,implies_true];first |done |omega) |(right;kernel_rfl))) |(apply QQ;simp only[evA,gB,gA];exact rfl) |((first |apply QX |apply QY);(first |rfl |decide |assumption)))
  (apply QZ;simp(disch:=omega)only[go_sem,Try.results37];exact rfl;simp only[packA];exact rfl)
  exact⟨_,rfl,_,_,rfl,by simp(disch:=omega)only[upd_same,upd_ne]⟩
 ·rw[if_neg hdv]at hw
  have hWf:=hw0 hdv
  have hdvI:¬((bkts last:Nat):Int)<((chs.length:Nat):Int):=by omega
  have hTC:(rowsN CB).take chs.length=rowsN CB:=List.take_of_length_le (by rw[rowsN_len,hCBl];exact Nat.le_refl _)
  have hw':dropF l h x=(((c.idxOf r:Nat):Int)+1+(((at_:Nat):Int)+1),wordsF (RB.take last) CB,0):=by
   rw[hw];simp
  rw[hw']
  refine wA_ok hmix (ctD_ok (A:=c18f (s+1) (s+1+1) kk c3 cells) (B:=c78k kk) (C:=c84d) (a18f _ _ _ _ _) (a78k kk) a84d) _ (by kernel_rfl) ?_
  repeat(first |(with_reducible first |apply Q0 |apply Q1 |apply QG |apply Q2 |apply Q3 |apply Q4 |apply Q5 |apply Q6 |apply Q7 |apply Q8 |apply Q9 |apply QA |apply QB |apply QC |apply QD |apply QE |apply QF) |((first |(with_reducible apply QK rfl) |(apply QT;simp only[go_sem]<;>exact rfl));simp(disch:=omega)only[go_sem,hs,upd_ne,cal78,ctD_78,c78k,rdD_dsl,hl,hV,hR,hC,cal21,ctD_21,ctR_21,c21,hh,cal79,ctD_79,c79,rdT,rdE2,rdC,hcn,het,hel,elsOf_elsA,hW,hh2,e1,hnl,List.drop_zero,cal22,ctD_22,ctR_22,c22r,hix,cal83,ctD_83,c83,rdN_dsl,hrc,hcl,hrT,cal84,ctD_84,hc2,hlI,hlT,Nat.sub_zero,cal18,ctD_18,h18,hkkl,hck2,hckn',hVc,hVl,hVt,hrr,hcells,c84d,hcellen,hgx,hrne,hexl,hexl1,hdrl,hkk,hkh1,hkh2,rdN,rdK,hcnt,hcnl,intsOf_ints,toN_cast,hlk,hckl,hat,hw3,hst,c18f,hc3l,hset,hq1,hRBl,↓reduceIte,not_false_eq_true,ne_eq,hdvI,cal51,ctD_51,c51o,hTE,hTl,hTC,hCBl,hWf,rowsN_len,rdRows_data];exact rfl;simp only[sB,sA,putA];exact rfl) |((first |(with_reducible apply QL rfl) |(apply QM;simp only[go_sem]<;>exact rfl));simp(disch:=omega)only[go_sem,hs,upd_ne,cal78,ctD_78,c78k,rdD_dsl,hl,hV,hR,hC,cal21,ctD_21,ctR_21,c21,hh,cal79,ctD_79,c79,rdT,rdE2,rdC,hcn,het,hel,elsOf_elsA,hW,hh2,e1,hnl,List.drop_zero,cal22,ctD_22,ctR_22,c22r,hix,cal83,ctD_83,c83,rdN_dsl,hrc,hcl,hrT,cal84,ctD_84,hc2,hlI,hlT,Nat.sub_zero,cal18,ctD_18,h18,hkkl,hck2,hckn',hVc,hVl,hVt,hrr,hcells,c84d,hcellen,hgx,hrne,hexl,hexl1,hdrl,hkk,hkh1,hkh2,rdN,rdK,hcnt,hcnl,intsOf_ints,toN_cast,hlk,hckl,hat,hw3,hst,c18f,hc3l,hset,hq1,hRBl,↓reduceIte,not_false_eq_true,ne_eq,hdvI,cal51,ctD_51,c51o,hTE,hTl,hTC,hCBl,hWf,rowsN_len,rdRows_data];exact rfl;simp only[sB,sA,putA];exact rfl;simp only[logT_none,logT_rd,logT_wr,List.cons_append,List.nil_append];exact rfl) |((first |apply QI |apply QN);simp only[go_sem]<;>exact rfl;simp only[sB,sA,putA];exact rfl) |(refine QO ?_ ?_;first |focus(simp only[dyn_nil,dyn_cons,allY_nil,allY_cons,dj_rr,true_or,true_and];done) |focus(simp only[dyn_nil,dyn_cons,allY_nil,allY_cons,Dj,List.mem_cons,List.not_mem_nil,or_false,forall_eq,forall_eq_or_imp,and_true,true_and,false_imp_iff,implies_true];omega) |focus(simp only[dyn_nil,dyn_cons,allY_nil,allY_cons,and_true,true_and];(repeat' refine And.intro ?_ ?_);all_goals first |(left;simp only[Dj,List.mem_cons,List.not_mem_nil,or_false,forall_eq,forall_eq_or_imp,and_true,true_and,false_imp_iff,implies_true];first |done |omega) |(right;kernel_rfl))) |(apply QQ;simp only[evA,gB,gA];exact rfl) |((first |apply QX |apply QY);(first |rfl |decide |assumption)))
  (apply QZ;simp(disch:=omega)only[go_sem,Try.results37];exact rfl;simp only[packA];exact rfl)
  exact⟨_,rfl,_,_,rfl,by simp(disch:=omega)only[upd_same,upd_ne]⟩
end Go.Proofs.Ytdcomhdadnhpnaa
