import Derived.Test.YtdcomhdadnhpnaaYB19
import Derived.Test.YtdcomhdadnhpnaaYP1
set_option linter.all false
namespace Go.Proofs.Ytdcomhdadnhpnaa
open Go Go.Am Go.RowKit
attribute [local irreducible] wA opsQ opsLQ thenA blockA EndA
theorem putF_600 {l:List Int} {h x v:Int} (hV:¬ValidL l):putF l h x v=([],600):=putF_eq (.inl ⟨hV,rfl,rfl⟩)
set_option maxRecDepth 100000 in
set_option maxHeartbeats 4000000 in
theorem rput_ro (l:List Int) (h x v:Int) (hl:l.length≤1000000000):
  RO Try.prog 39 [.dsl l.length (ints l),.sc (.int .i64 h),.sc (.int .i64 x),.sc (.int .i64 v)] (OwnT (ansX (putF l h x v).2 (putF l h x v).1) [.int .i64 (putF l h x v).2]):=by
 refine ro_of Try.func39 rfl (fun E s hs=>?_)
 refine wA_ok hmix ctS_ok _ (by kernel_rfl) ?_
 simp(maxSteps:=300000)only[begA,Try.ntmps39,List.replicate_succ,List.replicate_zero,List.length_cons,List.length_nil,List.cons_append,List.nil_append]
 by_cases hV:ValidL l
 rotate_left
 ·rw[putF_600 hV]
  repeat(first |(with_reducible first |apply Q0 |apply Q1 |apply Q2 |apply Q3 |apply Q4 |apply Q5 |apply Q6 |apply Q7 |apply Q8 |apply Q9 |apply QA |apply QB |apply QC |apply QD |apply QE |apply QF) |((first |(with_reducible apply QK rfl) |(apply QT;simp only[go_sem]<;>exact rfl));simp(disch:=omega)only[go_sem,hs,upd_ne,cal78,ctS_78,c78o,rdD_dsl,hl,hV];exact rfl;simp only[sB,sA,putA];exact rfl) |(apply QI;simp only[go_sem]<;>exact rfl;simp only[sB,sA,putA];exact rfl) |(apply QQ;simp only[evA,gB,gA];exact rfl) |((first |apply QX |apply QY);(first |rfl |decide |assumption)))
  (apply QZ;simp(disch:=omega)only[go_sem,Try.results39];exact rfl;simp only[packA];exact rfl)
  exact⟨_,rfl,rfl⟩
 have hW:=wok_valid hV
 have hn1:=hW.n
 have hcr:=fun hh:okH h=>(put_of (v:=v) (x:=x) hV hh)
 have hor:=of_rec (h:=h) (x:=x) hV
 have how:=of_wds (h:=h) (x:=x) hV
 have hov:=of_wds (h:=h) (x:=v) hV
 obtain⟨recs,hR⟩:∃recs,recs=recsT l:=⟨_,rfl⟩
 obtain⟨chs,hC⟩:∃chs,chs=chsT l:=⟨_,rfl⟩
 rw[←hR,←hC]at hW hcr hor how hov
 rw[←hR]at hn1
 replace hR:=hR.symm
 replace hC:=hC.symm
 have hcn:(rowsN chs).length=chs.length:=rowsN_len _
 have hct:(rowsN chs).take chs.length=rowsN chs:=List.take_of_length_le (by rw[rowsN_len];exact Nat.le_refl _)
 have het:=elsA_take recs
 have hel:=elsA_len recs
 have hN:(recs=[]∧∀k,newE recs k=k (.sc (.slice none 0 0)))∨(0<recs.length∧∀k,newE recs k= .new (.row 0 2 (elsA recs)) fun n=>k (.sl n 0 0 recs.length)):=by
  by_cases h0:recs.length=0
  ·obtain rfl:=List.length_eq_zero_iff.1 h0
   exact .inl ⟨rfl,fun k=>rfl⟩
  ·exact .inr ⟨by omega,fun k=>if_neg h0⟩
 by_cases hh:¬(0≤h∧h≤2147483647)
 ·rw[putF_bad hV hh]
  rcases hN with⟨rfl,hN⟩ |⟨h0,hN⟩
  all_goals
   repeat(first |(with_reducible first |apply Q0 |apply Q1 |apply Q2 |apply Q3 |apply Q4 |apply Q5 |apply Q6 |apply Q7 |apply Q8 |apply Q9 |apply QA |apply QB |apply QC |apply QD |apply QE |apply QF) |((first |(with_reducible apply QK rfl) |(apply QT;simp only[go_sem]<;>exact rfl));simp(disch:=omega)only[go_sem,hs,upd_ne,cal78,ctS_78,c78o,rdD_dsl,hl,hV,hR,hC,hN,cal21,ctS_21,ctR_21,c21,hh];exact rfl;simp only[sB,sA,putA];exact rfl) |(apply QI;simp only[go_sem]<;>exact rfl;simp only[sB,sA,putA];exact rfl) |(apply QQ;simp only[evA,gB,gA];exact rfl) |((first |apply QX |apply QY);(first |rfl |decide |assumption)))
   (apply QZ;simp(disch:=omega)only[go_sem,Try.results39];exact rfl;simp only[packA];exact rfl)
   exact⟨_,rfl,rfl⟩
 replace hh:0≤h∧h≤2147483647:=Decidable.not_not.1 hh
 have hh2:h≤4294967296:=by omega
 by_cases ho:0≤ofF recs chs (h,x)
 rotate_left
 ·have hol:ofF recs chs (h,x)<0:=by omega
  rw[putF_none hV hh (mt how.2 ho)]
  rcases hN with⟨rfl,hN⟩ |⟨h0,hN⟩
  all_goals
   repeat(first |(with_reducible first |apply Q0 |apply Q1 |apply Q2 |apply Q3 |apply Q4 |apply Q5 |apply Q6 |apply Q7 |apply Q8 |apply Q9 |apply QA |apply QB |apply QC |apply QD |apply QE |apply QF) |((first |(with_reducible apply QK rfl) |(apply QT;simp only[go_sem]<;>exact rfl));simp(disch:=omega)only[go_sem,hs,upd_ne,cal78,ctS_78,c78o,rdD_dsl,hl,hV,hR,hC,hN,cal21,ctS_21,ctR_21,c21,hh,cal79,ctS_79,c79,rdT,rdE2,rdC,hct,hcn,het,hel,elsOf_elsA,rdRows_data,hW,hh2,hol,List.drop_zero];exact rfl;simp only[sB,sA,putA];exact rfl) |(apply QI;simp only[go_sem]<;>exact rfl;simp only[sB,sA,putA];exact rfl) |(apply QQ;simp only[evA,gB,gA];exact rfl) |((first |apply QX |apply QY);(first |rfl |decide |assumption)))
   (apply QZ;simp(disch:=omega)only[go_sem,Try.results39];exact rfl;simp only[packA];exact rfl)
   exact⟨_,rfl,rfl⟩
 obtain⟨r,e1,e2,e3,e4⟩:=hor ho
 have hnl:¬((r:Nat):Int)<0:=by omega
 have e5:recs[r]=(h,x):=by rw[←e3];simp[e2]
 rcases hN with⟨rfl,hN⟩ |⟨h0,hN⟩
 ·simp at e2
 by_cases hb:v≠x∧0≤ofF recs chs (h,v)
 ·rw[putF_twice hV hh (how.1 ho) hb.1 (hov.1 hb.2)]
  have hb1:=hb.1
  have hb2:=hb.2
  repeat(first |(with_reducible first |apply Q0 |apply Q1 |apply Q2 |apply Q3 |apply Q4 |apply Q5 |apply Q6 |apply Q7 |apply Q8 |apply Q9 |apply QA |apply QB |apply QC |apply QD |apply QE |apply QF) |((first |(with_reducible apply QK rfl) |(apply QT;simp only[go_sem]<;>exact rfl));simp(disch:=omega)only[go_sem,hs,upd_ne,cal78,ctS_78,c78o,rdD_dsl,hl,hV,hR,hC,hN,cal21,ctS_21,ctR_21,c21,hh,cal79,ctS_79,c79,rdT,rdE2,rdC,hct,hcn,het,hel,elsOf_elsA,rdRows_data,hW,hh2,e1,hnl,List.drop_zero,hb1,hb2];exact rfl;simp only[sB,sA,putA];exact rfl) |(apply QI;simp only[go_sem]<;>exact rfl;simp only[sB,sA,putA];exact rfl) |(apply QQ;simp only[evA,gB,gA];exact rfl) |((first |apply QX |apply QY);(first |rfl |decide |assumption)))
  (apply QZ;simp(disch:=omega)only[go_sem,Try.results39];exact rfl;simp only[packA];exact rfl)
  exact⟨_,rfl,rfl⟩
 have hbo:v=x∨¬0≤ofF recs chs (h,v):=by
  rcases Decidable.em (v=x)with e |e
  ·exact .inl e
  ·exact .inr (fun k=>hb ⟨e,k⟩)
 obtain⟨hw,hWf⟩:=hcr hh ho hbo e1
 rw[hw]
 have hset:(elsA recs).set (r*2+1) (.sc (.int .i64 v))=elsA (recs.set r (h,v)):=by rw[elsA_set1 v e2,e5]
 obtain⟨RE,hRE⟩:∃RE,RE=recs.set r (h,v):=⟨_,rfl⟩
 rw[←hRE]at hset hWf
 rw[←hRE]
 have hRel:RE.length=recs.length:=by rw[hRE];simp
 have hTE:(elsA RE).take (recs.length*2)=elsA RE:=by rw[←hRel];exact elsA_take RE
 by_cases hb1:v=x
 ·subst hb1
  repeat(first |(with_reducible first |apply Q0 |apply Q1 |apply Q2 |apply Q3 |apply Q4 |apply Q5 |apply Q6 |apply Q7 |apply Q8 |apply Q9 |apply QA |apply QB |apply QC |apply QD |apply QE |apply QF) |((first |(with_reducible apply QK rfl) |(apply QT;simp only[go_sem]<;>exact rfl));simp(disch:=omega)only[go_sem,hs,upd_ne,cal78,ctS_78,c78o,rdD_dsl,hl,hV,hR,hC,hN,cal21,ctS_21,ctR_21,c21,hh,cal79,ctS_79,c79,rdT,rdE2,rdC,hct,hcn,het,hel,elsOf_elsA,rdRows_data,hW,hh2,e1,hnl,List.drop_zero,hset,cal51,ctS_51,c51o,hTE,hRel,hWf];exact rfl;simp only[sB,sA,putA];exact rfl) |(apply QI;simp only[go_sem]<;>exact rfl;simp only[sB,sA,putA];exact rfl) |(apply QQ;simp only[evA,gB,gA];exact rfl) |((first |apply QX |apply QY);(first |rfl |decide |assumption)))
  (apply QZ;simp(disch:=omega)only[go_sem,Try.results39];exact rfl;simp only[packA];exact rfl)
  exact⟨_,rfl,_,_,rfl,by simp(disch:=omega)only[upd_same,upd_ne]⟩
 ·have hb2:¬0≤ofF recs chs (h,v):=hbo.resolve_left hb1
  repeat(first |(with_reducible first |apply Q0 |apply Q1 |apply Q2 |apply Q3 |apply Q4 |apply Q5 |apply Q6 |apply Q7 |apply Q8 |apply Q9 |apply QA |apply QB |apply QC |apply QD |apply QE |apply QF) |((first |(with_reducible apply QK rfl) |(apply QT;simp only[go_sem]<;>exact rfl));simp(disch:=omega)only[go_sem,hs,upd_ne,cal78,ctS_78,c78o,rdD_dsl,hl,hV,hR,hC,hN,cal21,ctS_21,ctR_21,c21,hh,cal79,ctS_79,c79,rdT,rdE2,rdC,hct,hcn,het,hel,elsOf_elsA,rdRows_data,hW,hh2,e1,hnl,List.drop_zero,hb1,hb2,hset,cal51,ctS_51,c51o,hTE,hRel,hWf];exact rfl;simp only[sB,sA,putA];exact rfl) |(apply QI;simp only[go_sem]<;>exact rfl;simp only[sB,sA,putA];exact rfl) |(apply QQ;simp only[evA,gB,gA];exact rfl) |((first |apply QX |apply QY);(first |rfl |decide |assumption)))
  (apply QZ;simp(disch:=omega)only[go_sem,Try.results39];exact rfl;simp only[packA];exact rfl)
  exact⟨_,rfl,_,_,rfl,by simp(disch:=omega)only[upd_same,upd_ne]⟩
end Go.Proofs.Ytdcomhdadnhpnaa
