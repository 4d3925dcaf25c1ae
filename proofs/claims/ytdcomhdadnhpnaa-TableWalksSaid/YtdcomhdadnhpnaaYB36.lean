import Derived.Test.YtdcomhdadnhpnaaYAB
set_option linter.all false
namespace Go.Proofs.Ytdcomhdadnhpnaa
open Go Go.Am Go.RowKit
attribute [local irreducible] wA opsQ opsLQ thenA blockA EndA
def outF (recs:List (Int×Int)) (h:Int) (c:List Nat):List Int:=(c.filter fun r=>decide ((recs.getD r (0,0)).1=h)).map fun r=>(recs.getD r (0,0)).2
theorem outF_take {recs:List (Int×Int)} {h:Int} {c:List Nat} {k:Nat} (hk:k<c.length):outF recs h (c.take (k+1))=if(recs.getD c[k] (0,0)).1=h then outF recs h (c.take k)++[(recs.getD c[k] (0,0)).2]else outF recs h (c.take k):=by
 unfold outF
 rw[List.take_succ_eq_append_getElem hk,List.filter_append,List.map_append]
 by_cases e:(recs.getD c[k] (0,0)).1=h
 ·rw[if_pos e,List.filter_cons_of_pos (by simpa using e)];rfl
 ·rw[if_neg e,List.filter_cons_of_neg (by simpa using e)];simp
theorem outF_len (recs:List (Int×Int)) (h:Int) (c:List Nat):(outF recs h c).length≤c.length:=by
 unfold outF;rw[List.length_map];exact List.length_filter_le _ _
theorem outF_eq {l:List Int} {recs:List (Int×Int)} {c:List Nat} {h:Int} (hr:∀r∈c,recs.getD r (0,0)=elm l r):outF recs h c=outL l h c:=by
 unfold outF outL
 rw[List.filter_congr (q:=fun r=>decide (ati l (recAt r)=h)) (fun r hrc=>by rw[hr r hrc];rfl)]
 refine List.map_congr_left (fun r hrc=>?_)
 rw[hr r (List.mem_filter.1 hrc).1];rfl
theorem findF_600 {l:List Int} {h:Int} (hV:¬ValidL l):findF l h=([],0,600):=by unfold findF;rw[if_pos (by simpa using hV)]
theorem findF_bad {l:List Int} {h:Int} (hV:ValidL l) (hh:¬(0≤h∧h≤2147483647)):findF l h=([],0,1):=by unfold findF;rw[if_neg (by simpa using hV),if_pos hh]
theorem RowE.expI {lo s' len:Nat} {v:AV} {H:AHp} {u:List Int} (h:RowE lo 1 v H s' (ints u) len) (hl:len=u.length):Exp H v (.dsl u.length (ints u)):=by
 rcases h with⟨h0,h1,rfl⟩ |⟨nm,ver,h0,rfl,hH,_,_⟩
 ·have:u=[]:=List.length_eq_zero_iff.1 (by omega)
  subst this
  exact .nil
 ·rw[hl];exact Exp.ints hH
theorem Exp.tup3 {H:AHp} {a a' b b' c c':AV} (h:Exp H a a') (k:Exp H b b') (m:Exp H c c'):Exp H (.tup [a,b,c]) (.tup [a',b',c']):=by
 refine .tup rfl (fun i x y hx hy=>?_)
 match i with
 |0=>simp at hx hy;subst hx;subst hy;exact h
 |1=>simp at hx hy;subst hx;subst hy;exact k
 |2=>simp at hx hy;subst hx;subst hy;exact m
 |i+3=>simp at hx
set_option maxRecDepth 100000 in
set_option maxHeartbeats 4000000 in
theorem rfind_rc (l:List Int) (h:Int) (hl:l.length≤1000000000):
  RC Try.prog 40 [.dsl l.length (ints l),.sc (.int .i64 h)] (.tup [.dsl (findF l h).1.length (ints (findF l h).1),.sc (.int .i64 (findF l h).2.1),.sc (.int .i64 (findF l h).2.2)]):=by
 refine rc_of hmix ctS_ok Try.func40 rfl (by kernel_rfl) (fun E s hs=>?_)
 simp(maxSteps:=300000)only[begA,Try.ntmps40,List.replicate_succ,List.replicate_zero,List.length_cons,List.length_nil,List.cons_append,List.nil_append]
 by_cases hV:ValidL l
 rotate_left
 ·rw[findF_600 hV]
  repeat(first |(with_reducible first |apply Q0 |apply Q1 |apply Q2 |apply Q3 |apply Q4 |apply Q5 |apply Q6 |apply Q7 |apply Q8 |apply Q9 |apply QA |apply QB |apply QC |apply QD |apply QE |apply QF) |((first |(with_reducible apply QK rfl) |(apply QT;simp only[go_sem]<;>exact rfl));simp(disch:=omega)only[go_sem,hs,upd_ne,cal78,ctS_78,c78o,rdD_dsl,hl,hV];exact rfl;simp only[sB,sA,putA];exact rfl) |(apply QI;simp only[go_sem]<;>exact rfl;simp only[sB,sA,putA];exact rfl) |(apply QQ;simp only[evA,gB,gA];exact rfl) |((first |apply QX |apply QY);(first |rfl |decide |assumption)))
  (apply QZ;simp(disch:=omega)only[go_sem,Try.results40];exact rfl;simp only[packA];exact rfl)
  exact .tup3 .nil (.sc _) (.sc _)
 have hW:=wok_valid hV
 have g:=tab_g hV
 have hn1:=hW.n
 have hb:=hW.b
 have hb8:=bkts8 (recsT l).length
 have hbl:=bkts_le (recsT l).length (by omega)
 have hcl0:=chsT_len l
 have hrg:∀r,r<tabN l→(recsT l).getD r (0,0)=elm l r:=fun r hr=>recsT_get hr
 have hi:=bkt_lt h.toNat (b:=bkts (tabN l)) (by have:=bkts8 (tabN l);omega)
 have hgd:=chsT_getD hi
 have hO:outF (recsT l) h (tabC l (bkt h.toNat (bkts (tabN l))))=outL l h (tabC l (bkt h.toNat (bkts (tabN l)))):=outF_eq (fun r hr=>hrg r (g.lt hi hr))
 have hA:ahF (recsT l) (tabC l (bkt h.toNat (bkts (tabN l)))) h=(preR l h (tabC l (bkt h.toNat (bkts (tabN l))))).length:=ah_pre (l:=l) (fun r hr=>hrg r (g.lt hi hr))
 have hF:0≤h∧h≤2147483647→findF l h=(outF (recsT l) h ((chsT l).getD (bkt h.toNat (chsT l).length) []),((min ((chsT l).getD (bkt h.toNat (chsT l).length) []).length (ahF (recsT l) ((chsT l).getD (bkt h.toNat (chsT l).length) []) h+1):Nat):Int),0):=fun hh=>by
  unfold findF
  rw[if_neg (by simpa using hV),if_neg (by simpa using hh),hcl0,hgd,hO,hA]
 clear hO hA hgd hrg g hi hcl0
 obtain⟨recs,hR⟩:∃recs,recs=recsT l:=⟨_,rfl⟩
 obtain⟨chs,hC⟩:∃chs,chs=chsT l:=⟨_,rfl⟩
 rw[←hR,←hC]at hW hb hF
 rw[←hR]at hn1 hb8 hbl
 replace hR:=hR.symm
 replace hC:=hC.symm
 rw[←hb]at hb8 hbl
 have hN:(recs=[]∧∀k,newE recs k=k (.sc (.slice none 0 0)))∨(0<recs.length∧∀k,newE recs k= .new (.row 0 2 (elsA recs)) fun n=>k (.sl n 0 0 recs.length)):=by
  by_cases h0:recs.length=0
  ·obtain rfl:=List.length_eq_zero_iff.1 h0
   exact .inl ⟨rfl,fun k=>rfl⟩
  ·exact .inr ⟨by omega,fun k=>if_neg h0⟩
 by_cases hh:¬(0≤h∧h≤2147483647)
 ·rw[findF_bad hV hh]
  rcases hN with⟨rfl,hN⟩ |⟨h0,hN⟩
  all_goals
   repeat(first |(with_reducible first |apply Q0 |apply Q1 |apply Q2 |apply Q3 |apply Q4 |apply Q5 |apply Q6 |apply Q7 |apply Q8 |apply Q9 |apply QA |apply QB |apply QC |apply QD |apply QE |apply QF) |((first |(with_reducible apply QK rfl) |(apply QT;simp only[go_sem]<;>exact rfl));simp(disch:=omega)only[go_sem,hs,upd_ne,cal78,ctS_78,c78o,rdD_dsl,hl,hV,hR,hC,hN,cal21,ctS_21,ctR_21,c21,hh];exact rfl;simp only[sB,sA,putA];exact rfl) |(apply QI;simp only[go_sem]<;>exact rfl;simp only[sB,sA,putA];exact rfl) |(apply QQ;simp only[evA,gB,gA];exact rfl) |((first |apply QX |apply QY);(first |rfl |decide |assumption)))
   (apply QZ;simp(disch:=omega)only[go_sem,Try.results40];exact rfl;simp only[packA];exact rfl)
   exact .tup3 .nil (.sc _) (.sc _)
 replace hh:0≤h∧h≤2147483647:=Decidable.not_not.1 hh
 have hh2:h≤4294967296:=by omega
 rw[hF hh]
 clear hF
 have hcn:(rowsN chs).length=chs.length:=rowsN_len _
 have hixl:=bkt_lt h.toNat (b:=chs.length) (by omega)
 obtain⟨ix,hix⟩:∃ix,bkt h.toNat chs.length=ix:=⟨_,rfl⟩
 rw[hix]at hixl ⊢
 obtain⟨c,hc⟩:∃c,chs[ix]=c:=⟨_,rfl⟩
 have hcx:(rowsN chs)[ix]? =some (.dsl c.length (natsA c)):=by rw[←hc];simp[rowsN,hixl]
 have hgd:chs.getD ix []=c:=by rw[←hc];simp[hixl]
 rw[hgd]
 have hri:∀r∈c,r<recs.length:=by rw[←hc];exact hW.r _ (List.getElem_mem hixl)
 have hcl:c.length≤100000:=by rw[←hc];exact hW.l _ (List.getElem_mem hixl)
 obtain⟨at_,hat⟩:∃at_,ahF recs c h=at_:=⟨_,rfl⟩
 have hatl:at_≤c.length:=by rw[←hat];exact(List.takeWhile_sublist _).length_le
 have hmin:min ((c.length:Nat):Int) (((at_:Nat):Int)+1)=((min c.length (at_+1):Nat):Int):=by omega
 rw[hat]
 let I1:List AV→AHp→Nat→Nat→Prop:=fun Γ H s' m=>∃(k p n2 lo:Nat) (v1 vO:AV),k≤c.length∧m=c.length-k∧Γ=(List.replicate 1 .junk)++[.sc (.int .i64 h)]++(List.replicate 5 .junk)++[.ptr p 0 0]++(List.replicate 1 .junk)++[.dsl c.length (natsA c),vO,.sc (.int .i64 (k:Nat))]++(List.replicate 57 .junk)∧
  H p=some (.row 0 1 [v1,.sl n2 0 0 chs.length])∧H n2=some (.row 0 1 (rowsN chs))∧RowE s 2 v1 H lo (elsA recs) recs.length∧RowE lo 1 vO H s' (ints (outF recs h (c.take k))) (outF recs h (c.take k)).length∧p<lo∧n2<lo∧s≤n2∧lo≤s'∧∀q,s'≤q→H q=none
 rcases hN with⟨hr0,hN⟩ |⟨h0,hN⟩
 case' inl=>
  repeat(first |(with_reducible first |apply Q0 |apply Q1 |apply QG |apply Q2 |apply Q3 |apply Q4 |apply Q5 |apply Q6 |apply Q7 |apply Q8 |apply Q9 |apply QA |apply QB |apply QC |apply QD |apply QE |apply QF) |((first |(with_reducible apply QK rfl) |(apply QT;simp only[go_sem]<;>exact rfl));simp(disch:=omega)only[go_sem,hs,upd_ne,cal78,ctS_78,c78o,rdD_dsl,hl,hV,hR,hC,hN,cal21,ctS_21,ctR_21,c21,hh,cal22,ctS_22,ctR_22,c22r,hix,hcx,hcn];exact rfl;simp only[sB,sA,putA];exact rfl) |((first |(with_reducible apply QL rfl) |(apply QM;simp only[go_sem]<;>exact rfl));simp(disch:=omega)only[go_sem,hs,upd_ne,cal78,ctS_78,c78o,rdD_dsl,hl,hV,hR,hC,hN,cal21,ctS_21,ctR_21,c21,hh,cal22,ctS_22,ctR_22,c22r,hix,hcx,hcn];exact rfl;simp only[sB,sA,putA];exact rfl;simp only[logT_none,logT_rd,logT_wr,List.cons_append,List.nil_append];exact rfl) |((first |apply QI |apply QN);simp only[go_sem]<;>exact rfl;simp only[sB,sA,putA];exact rfl) |(refine QO ?_ ?_;first |focus(simp only[dyn_nil,dyn_cons,allY_nil,allY_cons,dj_rr,true_or,true_and];done) |focus(simp only[dyn_nil,dyn_cons,allY_nil,allY_cons,Dj,List.mem_cons,List.not_mem_nil,or_false,forall_eq,forall_eq_or_imp,and_true,true_and,false_imp_iff,implies_true];omega) |focus(simp only[dyn_nil,dyn_cons,allY_nil,allY_cons,and_true,true_and];(repeat' refine And.intro ?_ ?_);all_goals first |(left;simp only[Dj,List.mem_cons,List.not_mem_nil,or_false,forall_eq,forall_eq_or_imp,and_true,true_and,false_imp_iff,implies_true];first |done |omega) |(right;kernel_rfl))) |(apply QQ;simp only[evA,gB,gA];exact rfl) |((first |apply QX |apply QY);(first |rfl |decide |assumption)))
  refine AWp.loop [1,7,9,10,11] I1 c.length ?_ ?_
  ·refine⟨0,s+1,s,s+1+1,_,_,Nat.zero_le _,rfl,rfl,?_,?_,.inl ⟨by rw[hr0];rfl,by rw[hr0];rfl,rfl⟩,.inl ⟨rfl,rfl,rfl⟩,by omega,by omega,by omega,by omega,fun q hq=>?_⟩
   ·simp(disch:=omega)only[upd_ne,upd_same]
   ·simp(disch:=omega)only[upd_ne,upd_same]
   ·simp(disch:=omega)only[upd_ne];exact hs q
 case' inr=>
  repeat(first |(with_reducible first |apply Q0 |apply Q1 |apply QG |apply Q2 |apply Q3 |apply Q4 |apply Q5 |apply Q6 |apply Q7 |apply Q8 |apply Q9 |apply QA |apply QB |apply QC |apply QD |apply QE |apply QF) |((first |(with_reducible apply QK rfl) |(apply QT;simp only[go_sem]<;>exact rfl));simp(disch:=omega)only[go_sem,hs,upd_ne,cal78,ctS_78,c78o,rdD_dsl,hl,hV,hR,hC,hN,cal21,ctS_21,ctR_21,c21,hh,cal22,ctS_22,ctR_22,c22r,hix,hcx,hcn];exact rfl;simp only[sB,sA,putA];exact rfl) |((first |(with_reducible apply QL rfl) |(apply QM;simp only[go_sem]<;>exact rfl));simp(disch:=omega)only[go_sem,hs,upd_ne,cal78,ctS_78,c78o,rdD_dsl,hl,hV,hR,hC,hN,cal21,ctS_21,ctR_21,c21,hh,cal22,ctS_22,ctR_22,c22r,hix,hcx,hcn];exact rfl;simp only[sB,sA,putA];exact rfl;simp only[logT_none,logT_rd,logT_wr,List.cons_append,List.nil_append];exact rfl) |((first |apply QI |apply QN);simp only[go_sem]<;>exact rfl;simp only[sB,sA,putA];exact rfl) |(refine QO ?_ ?_;first |focus(simp only[dyn_nil,dyn_cons,allY_nil,allY_cons,dj_rr,true_or,true_and];done) |focus(simp only[dyn_nil,dyn_cons,allY_nil,allY_cons,Dj,List.mem_cons,List.not_mem_nil,or_false,forall_eq,forall_eq_or_imp,and_true,true_and,false_imp_iff,implies_true];omega) |focus(simp only[dyn_nil,dyn_cons,allY_nil,allY_cons,and_true,true_and];(repeat' refine And.intro ?_ ?_);all_goals first |(left;simp only[Dj,List.mem_cons,List.not_mem_nil,or_false,forall_eq,forall_eq_or_imp,and_true,true_and,false_imp_iff,implies_true];first |done |omega) |(right;kernel_rfl))) |(apply QQ;simp only[evA,gB,gA];exact rfl) |((first |apply QX |apply QY);(first |rfl |decide |assumption)))
  refine AWp.loop [1,7,9,10,11] I1 c.length ?_ ?_
  ·refine⟨0,s+1+1,s+1,s+1+1+1,_,_,Nat.zero_le _,rfl,rfl,?_,?_,.inr ⟨s,0,h0,rfl,?_,by omega,by omega⟩,.inl ⟨rfl,rfl,rfl⟩,by omega,by omega,by omega,by omega,fun q hq=>?_⟩
   ·simp(disch:=omega)only[upd_ne,upd_same]
   ·simp(disch:=omega)only[upd_ne,upd_same]
   ·simp(disch:=omega)only[upd_ne,upd_same]
   ·simp(disch:=omega)only[upd_ne];exact hs q
 all_goals
  rintro Γ H s1 m ⟨k,p,n2,lo,v1,vO,hk,rfl,rfl,hHp,hH2,hv1,hvO,hpl,hnl,hn0,hlo,hf⟩
  refine wA_ok hmix ctS_ok _ (by kernel_rfl) ?_
  simp(maxSteps:=1000000)only[List.replicate_succ,List.replicate_zero,List.cons_append,List.nil_append,List.append_nil]
  by_cases hlt:k<c.length
  ·have hrk:=hri _ (List.getElem_mem hlt)
   obtain⟨hx,_,_⟩ |⟨nm1,ver1,h0,rfl,hH1,hn1a,hn1b⟩:=hv1
   ·omega
   have hgk:recs.getD c[k] (0,0)=recs[c[k]]:=by simp[hrk]
   have tk:=outF_take (recs:=recs) (h:=h) hlt
   rw[hgk]at tk
   have hat0:=elsA_at0 hrk
   have hat1:=elsA_at1 hrk
   have hlen:=elsA_len recs
   have hol:=outF_len recs h (c.take k)
   rw[List.length_take]at hol
   by_cases he:recs[c[k]].1=h
   ·rw[if_pos he]at tk
    generalize hu:outF recs h (c.take k)=u at*
    have hap:ints (u++[recs[c[k]].2])=ints u++[.sc (.int .i64 recs[c[k]].2)]:=by simp
    have hul:=ints_len u
    have hut:=ints_take u
    have huo:=ints_all u
    rcases hvO with⟨h0',hcs,rfl⟩ |⟨nO,vrO,h0',rfl,hHO,hOl,hOs⟩
    ·repeat(first |(with_reducible first |apply Q0 |apply Q1 |apply QG |apply Q2 |apply Q3 |apply Q4 |apply Q5 |apply Q6 |apply Q7 |apply Q8 |apply Q9 |apply QA |apply QB |apply QC |apply QD |apply QE |apply QF) |((first |(with_reducible apply QK rfl) |(apply QT;simp only[go_sem]<;>exact rfl));simp(disch:=omega)only[go_sem,hf,upd_ne,hHp,hH1,hat0,hat1,hlen,elsA_drop,he,tn1];exact rfl;simp only[sB,sA,putA];exact rfl) |((first |(with_reducible apply QL rfl) |(apply QM;simp only[go_sem]<;>exact rfl));simp(disch:=omega)only[go_sem,hf,upd_ne,hHp,hH1,hat0,hat1,hlen,elsA_drop,he,tn1];exact rfl;simp only[sB,sA,putA];exact rfl;simp only[logT_none,logT_rd,logT_wr,List.cons_append,List.nil_append];exact rfl) |((first |apply QI |apply QN);simp only[go_sem]<;>exact rfl;simp only[sB,sA,putA];exact rfl) |(refine QO ?_ ?_;first |focus(simp only[dyn_nil,dyn_cons,allY_nil,allY_cons,dj_rr,true_or,true_and];done) |focus(simp only[dyn_nil,dyn_cons,allY_nil,allY_cons,Dj,List.mem_cons,List.not_mem_nil,or_false,forall_eq,forall_eq_or_imp,and_true,true_and,false_imp_iff,implies_true];omega) |focus(simp only[dyn_nil,dyn_cons,allY_nil,allY_cons,and_true,true_and];(repeat' refine And.intro ?_ ?_);all_goals first |(left;simp only[Dj,List.mem_cons,List.not_mem_nil,or_false,forall_eq,forall_eq_or_imp,and_true,true_and,false_imp_iff,implies_true];first |done |omega) |(right;kernel_rfl))) |(apply QQ;simp only[evA,gB,gA];exact rfl) |((first |apply QX |apply QY);(first |rfl |decide |assumption)))
     refine⟨c.length-(k+1),by omega,k+1,p,n2,lo,_,_,by omega,rfl,rfl,?_,?_,.inr ⟨nm1,ver1,h0,rfl,?_,hn1a,hn1b⟩,?_,hpl,hnl,hn0,by omega,fun q hq=>by(simp(disch:=omega)only[upd_ne];exact hf q (by omega))⟩
     ·simp(disch:=omega)only[upd_ne];exact hHp
     ·simp(disch:=omega)only[upd_ne];exact hH2
     ·simp(disch:=omega)only[upd_ne];exact hH1
     ·have hnil:u=[]:=List.length_eq_zero_iff.1 h0'
      rw[tk,hap,hnil]
      exact .inr ⟨_,_,app_pos _ _,rfl,upd_same _ _ _,by omega,by omega⟩
    ·repeat(first |(with_reducible first |apply Q0 |apply Q1 |apply QG |apply Q2 |apply Q3 |apply Q4 |apply Q5 |apply Q6 |apply Q7 |apply Q8 |apply Q9 |apply QA |apply QB |apply QC |apply QD |apply QE |apply QF) |((first |(with_reducible apply QK rfl) |(apply QT;simp only[go_sem]<;>exact rfl));simp(disch:=omega)only[go_sem,hf,upd_ne,hHp,hH1,hHO,hat0,hat1,hlen,elsA_drop,he,tn1,hul,hut,huo];exact rfl;simp only[sB,sA,putA];exact rfl) |((first |(with_reducible apply QL rfl) |(apply QM;simp only[go_sem]<;>exact rfl));simp(disch:=omega)only[go_sem,hf,upd_ne,hHp,hH1,hHO,hat0,hat1,hlen,elsA_drop,he,tn1,hul,hut,huo];exact rfl;simp only[sB,sA,putA];exact rfl;simp only[logT_none,logT_rd,logT_wr,List.cons_append,List.nil_append];exact rfl) |((first |apply QI |apply QN);simp only[go_sem]<;>exact rfl;simp only[sB,sA,putA];exact rfl) |(refine QO ?_ ?_;first |focus(simp only[dyn_nil,dyn_cons,allY_nil,allY_cons,dj_rr,true_or,true_and];done) |focus(simp only[dyn_nil,dyn_cons,allY_nil,allY_cons,Dj,List.mem_cons,List.not_mem_nil,or_false,forall_eq,forall_eq_or_imp,and_true,true_and,false_imp_iff,implies_true];omega) |focus(simp only[dyn_nil,dyn_cons,allY_nil,allY_cons,and_true,true_and];(repeat' refine And.intro ?_ ?_);all_goals first |(left;simp only[Dj,List.mem_cons,List.not_mem_nil,or_false,forall_eq,forall_eq_or_imp,and_true,true_and,false_imp_iff,implies_true];first |done |omega) |(right;kernel_rfl))) |(apply QQ;simp only[evA,gB,gA];exact rfl) |((first |apply QX |apply QY);(first |rfl |decide |assumption)))
     refine⟨c.length-(k+1),by omega,k+1,p,n2,lo,_,_,by omega,rfl,rfl,?_,?_,.inr ⟨nm1,ver1,h0,rfl,?_,hn1a,hn1b⟩,?_,hpl,hnl,hn0,by omega,fun q hq=>by(simp(disch:=omega)only[upd_ne];exact hf q (by omega))⟩
     ·simp(disch:=omega)only[upd_ne];exact hHp
     ·simp(disch:=omega)only[upd_ne];exact hH2
     ·simp(disch:=omega)only[upd_ne];exact hH1
     ·rw[tk,hap]
      exact .inr ⟨nO,vrO+1,app_pos _ _,by rw[List.length_append];rfl,upd_same _ _ _,by omega,hOs⟩
   ·rw[if_neg he]at tk
    repeat(first |(with_reducible first |apply Q0 |apply Q1 |apply QG |apply Q2 |apply Q3 |apply Q4 |apply Q5 |apply Q6 |apply Q7 |apply Q8 |apply Q9 |apply QA |apply QB |apply QC |apply QD |apply QE |apply QF) |((first |(with_reducible apply QK rfl) |(apply QT;simp only[go_sem]<;>exact rfl));simp(disch:=omega)only[go_sem,hf,upd_ne,hHp,hH1,hat0,hat1,hlen,elsA_drop,he,tn1];exact rfl;simp only[sB,sA,putA];exact rfl) |((first |(with_reducible apply QL rfl) |(apply QM;simp only[go_sem]<;>exact rfl));simp(disch:=omega)only[go_sem,hf,upd_ne,hHp,hH1,hat0,hat1,hlen,elsA_drop,he,tn1];exact rfl;simp only[sB,sA,putA];exact rfl;simp only[logT_none,logT_rd,logT_wr,List.cons_append,List.nil_append];exact rfl) |((first |apply QI |apply QN);simp only[go_sem]<;>exact rfl;simp only[sB,sA,putA];exact rfl) |(refine QO ?_ ?_;first |focus(simp only[dyn_nil,dyn_cons,allY_nil,allY_cons,dj_rr,true_or,true_and];done) |focus(simp only[dyn_nil,dyn_cons,allY_nil,allY_cons,Dj,List.mem_cons,List.not_mem_nil,or_false,forall_eq,forall_eq_or_imp,and_true,true_and,false_imp_iff,implies_true];omega) |focus(simp only[dyn_nil,dyn_cons,allY_nil,allY_cons,and_true,true_and];(repeat' refine And.intro ?_ ?_);all_goals first |(left;simp only[Dj,List.mem_cons,List.not_mem_nil,or_false,forall_eq,forall_eq_or_imp,and_true,true_and,false_imp_iff,implies_true];first |done |omega) |(right;kernel_rfl))) |(apply QQ;simp only[evA,gB,gA];exact rfl) |((first |apply QX |apply QY);(first |rfl |decide |assumption)))
    exact⟨c.length-(k+1),by omega,k+1,p,n2,lo,_,_,by omega,rfl,rfl,hHp,hH2,.inr ⟨nm1,ver1,h0,rfl,hH1,hn1a,hn1b⟩,by rw[tk];exact hvO,hpl,hnl,hn0,hlo,hf⟩
  ·obtain rfl:k=c.length:=by omega
   rw[List.take_length]at hvO
   have hc2:RowE s 1 (.sl n2 0 0 chs.length) H lo (rowsN chs) chs.length:=.inr ⟨n2,0,by omega,rfl,hH2,hnl,hn0⟩
   have hrd:=(rdT_rows hv1 hc2).1
   repeat(first |(with_reducible first |apply Q0 |apply Q1 |apply QG |apply Q2 |apply Q3 |apply Q4 |apply Q5 |apply Q6 |apply Q7 |apply Q8 |apply Q9 |apply QA |apply QB |apply QC |apply QD |apply QE |apply QF) |((first |(with_reducible apply QK rfl) |(apply QT;simp only[go_sem]<;>exact rfl));simp(disch:=omega)only[go_sem,hf,upd_ne,hHp,cal80,ctS_80,c80,hrd,rdN_dsl,hn1,hri,hcl,hat,min33,hmin];exact rfl;simp only[sB,sA,putA];exact rfl) |((first |(with_reducible apply QL rfl) |(apply QM;simp only[go_sem]<;>exact rfl));simp(disch:=omega)only[go_sem,hf,upd_ne,hHp,cal80,ctS_80,c80,hrd,rdN_dsl,hn1,hri,hcl,hat,min33,hmin];exact rfl;simp only[sB,sA,putA];exact rfl;simp only[logT_none,logT_rd,logT_wr,List.cons_append,List.nil_append];exact rfl) |((first |apply QI |apply QN);simp only[go_sem]<;>exact rfl;simp only[sB,sA,putA];exact rfl) |(refine QO ?_ ?_;first |focus(simp only[dyn_nil,dyn_cons,allY_nil,allY_cons,dj_rr,true_or,true_and];done) |focus(simp only[dyn_nil,dyn_cons,allY_nil,allY_cons,Dj,List.mem_cons,List.not_mem_nil,or_false,forall_eq,forall_eq_or_imp,and_true,true_and,false_imp_iff,implies_true];omega) |focus(simp only[dyn_nil,dyn_cons,allY_nil,allY_cons,and_true,true_and];(repeat' refine And.intro ?_ ?_);all_goals first |(left;simp only[Dj,List.mem_cons,List.not_mem_nil,or_false,forall_eq,forall_eq_or_imp,and_true,true_and,false_imp_iff,implies_true];first |done |omega) |(right;kernel_rfl))) |(apply QQ;simp only[evA,gB,gA];exact rfl) |((first |apply QX |apply QY);(first |rfl |decide |assumption)))
   (apply QZ;simp(disch:=omega)only[go_sem,Try.results40];exact rfl;simp only[packA];exact rfl)
   exact .tup3 (hvO.expI rfl) (.sc _) (.sc _)
end Go.Proofs.Ytdcomhdadnhpnaa
