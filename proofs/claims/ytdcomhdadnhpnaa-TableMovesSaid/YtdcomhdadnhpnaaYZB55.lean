import Derived.Test.YtdcomhdadnhpnaaYZB42
set_option linter.all false
namespace Go.Proofs.Ytdcomhdadnhpnaa
open Go Go.Am Go.RowKit
attribute [local irreducible] wA opsQ opsLQ thenA blockA EndA
noncomputable def ctJ:CT:=fun f args=>if f=78 then c78 args else if f=79 then c79 args else ctQ f args
theorem ctJ_ok:CTok Try.prog ctJ:=fun f args=>by
 unfold ctJ
 split
 ·rename_i e;subst e;exact a78 args
 split
 ·rename_i e;subst e;exact a79 args
 ·exact ctQ_ok f args
theorem ctJ_78 (a:List AV):ctJ 78 a=c78 a:=rfl
theorem ctJ_91 (a:List AV):ctJ 91 a=c91r a:=rfl
theorem RowE.expE {lo s' len:Nat} {v:AV} {H:AHp} {u:List (Int×Int)} (h:RowE lo 2 v H s' (elsA u) len) (hl:len=u.length):Exp H v (.dsl u.length (elsA u)):=by
 rcases h with⟨h0,h1,rfl⟩ |⟨nm,ver,h0,rfl,hH,_,_⟩
 ·have:u=[]:=List.length_eq_zero_iff.1 (by omega)
  subst this
  exact .nil
 ·rw[hl];exact Exp.els hH
set_option maxRecDepth 100000 in
set_option maxHeartbeats 4000000 in
theorem rcheck_rc (l:List Int) (hl:l.length≤1000000000):
  RC Try.prog 61 [.dsl l.length (ints l)] (.sc (.int .i64 (slotsF l).2)):=by
 refine rc_of hmix ctJ_ok Try.func61 rfl (by kernel_rfl) (fun E s hs=>?_)
 simp(maxSteps:=300000)only[begA,Try.ntmps61,List.replicate_succ,List.replicate_zero,List.length_cons,List.length_nil,List.cons_append,List.nil_append]
 by_cases hV:ValidL l
 ·rw[slotsF_ok hV]
  repeat(first |(with_reducible first |apply Q0 |apply Q1 |apply Q2 |apply Q3 |apply Q4 |apply Q5 |apply Q6 |apply Q7 |apply Q8 |apply Q9 |apply QA |apply QB |apply QC |apply QD |apply QE |apply QF) |((first |(with_reducible apply QK rfl) |(apply QT;simp only[go_sem]<;>exact rfl));simp(disch:=omega)only[go_sem,hs,upd_ne,cal78,ctJ_78,c78,rdD_dsl,hl,hV,tabG];exact rfl;simp only[sB,sA,putA];exact rfl) |(apply QI;simp only[go_sem]<;>exact rfl;simp only[sB,sA,putA];exact rfl) |(apply QQ;simp only[evA,gB,gA];exact rfl) |((first |apply QX |apply QY);(first |rfl |decide |assumption)))
  (apply QZ;simp(disch:=omega)only[go_sem,Try.results61];exact rfl;simp only[packA];exact rfl)
  exact .sc _
 ·rw[slotsF_bad hV]
  repeat(first |(with_reducible first |apply Q0 |apply Q1 |apply Q2 |apply Q3 |apply Q4 |apply Q5 |apply Q6 |apply Q7 |apply Q8 |apply Q9 |apply QA |apply QB |apply QC |apply QD |apply QE |apply QF) |((first |(with_reducible apply QK rfl) |(apply QT;simp only[go_sem]<;>exact rfl));simp(disch:=omega)only[go_sem,hs,upd_ne,cal78,ctJ_78,c78,rdD_dsl,hl,hV,tabG];exact rfl;simp only[sB,sA,putA];exact rfl) |(apply QI;simp only[go_sem]<;>exact rfl;simp only[sB,sA,putA];exact rfl) |(apply QQ;simp only[evA,gB,gA];exact rfl) |((first |apply QX |apply QY);(first |rfl |decide |assumption)))
  (apply QZ;simp(disch:=omega)only[go_sem,Try.results61];exact rfl;simp only[packA];exact rfl)
  exact .sc _
set_option maxRecDepth 100000 in
set_option maxHeartbeats 4000000 in
theorem rslots_rc (l:List Int) (hl:l.length≤1000000000):
  RC Try.prog 93 [.dsl l.length (ints l)] (.tup [.dsl (slotsF l).1.length (ints (slotsF l).1),.sc (.int .i64 (slotsF l).2)]):=by
 refine rc_of hmix ctJ_ok Try.func93 rfl (by kernel_rfl) (fun E s hs=>?_)
 simp(maxSteps:=300000)only[begA,Try.ntmps93,List.replicate_succ,List.replicate_zero,List.length_cons,List.length_nil,List.cons_append,List.nil_append]
 by_cases hV:ValidL l
 rotate_left
 ·rw[slotsF_bad hV]
  repeat(first |(with_reducible first |apply Q0 |apply Q1 |apply Q2 |apply Q3 |apply Q4 |apply Q5 |apply Q6 |apply Q7 |apply Q8 |apply Q9 |apply QA |apply QB |apply QC |apply QD |apply QE |apply QF) |((first |(with_reducible apply QK rfl) |(apply QT;simp only[go_sem]<;>exact rfl));simp(disch:=omega)only[go_sem,hs,upd_ne,cal78,ctJ_78,c78,rdD_dsl,hl,hV,tabG];exact rfl;simp only[sB,sA,putA];exact rfl) |(apply QI;simp only[go_sem]<;>exact rfl;simp only[sB,sA,putA];exact rfl) |(apply QQ;simp only[evA,gB,gA];exact rfl) |((first |apply QX |apply QY);(first |rfl |decide |assumption)))
  (apply QZ;simp(disch:=omega)only[go_sem,Try.results93];exact rfl;simp only[packA];exact rfl)
  exact .tup2 .nil (.sc _)
 have hn1:=(wok_valid hV).n
 have hn2:(recsT l).length=tabN l:=recsF_len l _
 rw[slotsF_ok hV,←hn2]
 obtain⟨recs,hR⟩:∃recs,recsT l=recs:=⟨_,rfl⟩
 obtain⟨chs,hC⟩:∃chs,chsT l=chs:=⟨_,rfl⟩
 rw[hR]at hn1 hn2 ⊢
 repeat(first |(with_reducible first |apply Q0 |apply Q1 |apply Q2 |apply Q3 |apply Q4 |apply Q5 |apply Q6 |apply Q7 |apply Q8 |apply Q9 |apply QA |apply QB |apply QC |apply QD |apply QE |apply QF) |((first |(with_reducible apply QK rfl) |(apply QT;simp only[go_sem]<;>exact rfl));simp(disch:=omega)only[go_sem,hs,upd_ne,cal78,ctJ_78,c78,rdD_dsl,hl,hV,hR,hC,tabG];exact rfl;simp only[sB,sA,putA];exact rfl) |(apply QI;simp only[go_sem]<;>exact rfl;simp only[sB,sA,putA];exact rfl) |(apply QQ;simp only[evA,gB,gA];exact rfl) |((first |apply QX |apply QY);(first |rfl |decide |assumption)))
 refine AWp.loop [4,6,7] (fun Γ H s' m=>∃(k:Nat) (vO:AV),k≤recs.length∧m=recs.length-k∧Γ=(List.replicate 4 .junk)++[.ptr s 0 0]++(List.replicate 1 .junk)++[vO,.sc (.int .i64 (k:Nat))]++(List.replicate 21 .junk)∧
  H s=some (.row 0 1 [.dsl recs.length (elsA recs),.dsl chs.length (rowsN chs)])∧RowE (s+1) 1 vO H s' (ints (slotsL k)) k∧s+1≤s'∧∀q,s'≤q→H q=none) recs.length ?_ ?_
 ·exact⟨0,_,Nat.zero_le _,rfl,rfl,by simp(disch:=omega)only[upd_ne,upd_same],.inl ⟨rfl,rfl,rfl⟩,by omega,fun q hq=>by(simp(disch:=omega)only[upd_ne];exact hs q)⟩
 rintro Γ H s1 m ⟨k,vO,hk,rfl,rfl,hHp,hvO,hs1,hf⟩
 refine wA_ok hmix ctJ_ok _ (by kernel_rfl) ?_
 simp(maxSteps:=1000000)only[List.replicate_succ,List.replicate_zero,List.cons_append,List.nil_append,List.append_nil]
 by_cases hlt:k<recs.length
 ·have hap:ints (slotsL (k+1))=ints (slotsL k)++[.sc (.int .i64 (((recAt k:Nat):Int)+1))]:=by rw[slotsL_succ];simp
  have hul:(ints (slotsL k)).length=k:=by rw[ints_len,slotsL_len]
  have hut:(ints (slotsL k)).take k=ints (slotsL k):=List.take_of_length_le (by omega)
  have huo:=ints_all (slotsL k)
  have hrl:recAt k≤1000000:=by unfold recAt;omega
  rcases hvO with⟨h0',hcs,rfl⟩ |⟨nO,vrO,h0',rfl,hHO,hOl,hOs⟩
  ·subst h0'
   repeat(first |(with_reducible first |apply Q0 |apply Q1 |apply Q2 |apply Q3 |apply Q4 |apply Q5 |apply Q6 |apply Q7 |apply Q8 |apply Q9 |apply QA |apply QB |apply QC |apply QD |apply QE |apply QF) |((first |(with_reducible apply QK rfl) |(apply QT;simp only[go_sem]<;>exact rfl));simp(disch:=omega)only[go_sem,hf,upd_ne,hHp,cal91,ctJ_91,c91r];exact rfl;simp only[sB,sA,putA];exact rfl) |(apply QI;simp only[go_sem]<;>exact rfl;simp only[sB,sA,putA];exact rfl) |(apply QQ;simp only[evA,gB,gA];exact rfl) |((first |apply QX |apply QY);(first |rfl |decide |assumption)))
   refine⟨recs.length-1,by omega,1,_,by omega,rfl,rfl,?_,?_,by omega,fun q hq=>by(simp(disch:=omega)only[upd_ne];exact hf q (by omega))⟩
   ·simp(disch:=omega)only[upd_ne];exact hHp
   ·rw[hap]
    exact .inr ⟨_,_,by omega,rfl,upd_same _ _ _,by omega,by omega⟩
  ·repeat(first |(with_reducible first |apply Q0 |apply Q1 |apply Q2 |apply Q3 |apply Q4 |apply Q5 |apply Q6 |apply Q7 |apply Q8 |apply Q9 |apply QA |apply QB |apply QC |apply QD |apply QE |apply QF) |((first |(with_reducible apply QK rfl) |(apply QT;simp only[go_sem]<;>exact rfl));simp(disch:=omega)only[go_sem,hf,upd_ne,hHp,hHO,cal91,ctJ_91,c91r,hul,hut,huo];exact rfl;simp only[sB,sA,putA];exact rfl) |(apply QI;simp only[go_sem]<;>exact rfl;simp only[sB,sA,putA];exact rfl) |(apply QQ;simp only[evA,gB,gA];exact rfl) |((first |apply QX |apply QY);(first |rfl |decide |assumption)))
   refine⟨recs.length-(k+1),by omega,k+1,_,by omega,rfl,rfl,?_,?_,by omega,fun q hq=>by(simp(disch:=omega)only[upd_ne];exact hf q (by omega))⟩
   ·simp(disch:=omega)only[upd_ne];exact hHp
   ·rw[hap]
    exact .inr ⟨nO,vrO+1,by omega,rfl,upd_same _ _ _,by omega,hOs⟩
 ·obtain rfl:k=recs.length:=by omega
  repeat(first |(with_reducible first |apply Q0 |apply Q1 |apply Q2 |apply Q3 |apply Q4 |apply Q5 |apply Q6 |apply Q7 |apply Q8 |apply Q9 |apply QA |apply QB |apply QC |apply QD |apply QE |apply QF) |((first |(with_reducible apply QK rfl) |(apply QT;simp only[go_sem]<;>exact rfl));simp(disch:=omega)only[go_sem,hf,upd_ne,hHp];exact rfl;simp only[sB,sA,putA];exact rfl) |(apply QI;simp only[go_sem]<;>exact rfl;simp only[sB,sA,putA];exact rfl) |(apply QQ;simp only[evA,gB,gA];exact rfl) |((first |apply QX |apply QY);(first |rfl |decide |assumption)))
  (apply QZ;simp(disch:=omega)only[go_sem,Try.results93];exact rfl;simp only[packA];exact rfl)
  exact .tup2 (hvO.expI (slotsL_len _).symm) (.sc _)
def ordX (recs:List (Int×Int)) (chs:List (List Nat)):List (Int×Int):=chs.flatten.map fun r=>recs.getD r (0,0)
theorem ordX_take {recs:List (Int×Int)} {chs:List (List Nat)} {i:Nat} (h:i<chs.length):ordX recs (chs.take (i+1))=ordX recs (chs.take i)++(chs[i]).map fun r=>recs.getD r (0,0):=by
 unfold ordX
 rw[List.take_succ_eq_append_getElem h,List.flatten_append,List.map_append];simp
theorem ordX_len {recs:List (Int×Int)} {chs:List (List Nat)} {i:Nat} (h:∀c∈chs,c.length≤100000):(ordX recs (chs.take i)).length≤i*100000:=by
 induction i with
 |zero=>simp[ordX]
 |succ i ih=>
  by_cases hi:i<chs.length
  ·rw[ordX_take hi,List.length_append,List.length_map]
   rw[Nat.succ_mul]
   exact Nat.add_le_add ih (h _ (List.getElem_mem hi))
  ·rw[List.take_of_length_le (by omega)]at ih ⊢
   exact Nat.le_trans ih (Nat.mul_le_mul_right _ (Nat.le_succ i))
set_option maxRecDepth 100000 in
set_option maxHeartbeats 4000000 in
theorem rord_rc (recs:List (Int×Int)) (chs:List (List Nat)) (hW:WOK recs chs):
  RC Try.prog 95 [tabG recs chs] (.dsl (ordX recs chs).length (elsA (ordX recs chs))):=by
 refine rc_of hmix ctJ_ok Try.func95 rfl (by kernel_rfl) (fun E s hs=>?_)
 simp(maxSteps:=300000)only[begA,Try.ntmps95,List.replicate_succ,List.replicate_zero,List.length_cons,List.length_nil,List.cons_append,List.nil_append]
 have hn1:=hW.n
 have hb:=hW.b
 have hbl:=bkts_le recs.length (by omega)
 rw[←hb]at hbl
 have hcn:(rowsN chs).length=chs.length:=rowsN_len _
 have hlen:=elsA_len recs
 repeat(first |(with_reducible first |apply Q0 |apply Q1 |apply Q2 |apply Q3 |apply Q4 |apply Q5 |apply Q6 |apply Q7 |apply Q8 |apply Q9 |apply QA |apply QB |apply QC |apply QD |apply QE |apply QF) |((first |(with_reducible apply QK rfl) |(apply QT;simp only[go_sem]<;>exact rfl));simp(disch:=omega)only[go_sem,hs,upd_ne,tabG];exact rfl;simp only[sB,sA,putA];exact rfl) |(apply QI;simp only[go_sem]<;>exact rfl;simp only[sB,sA,putA];exact rfl) |(apply QQ;simp only[evA,gB,gA];exact rfl) |((first |apply QX |apply QY);(first |rfl |decide |assumption)))
 refine AWp.loop [1,3,4] (fun Γ H s' m=>∃(i:Nat) (vO:AV),i≤chs.length∧m=chs.length-i∧Γ=(List.replicate 1 .junk)++[.ptr s 0 0]++(List.replicate 1 .junk)++[vO,.sc (.int .i64 (i:Nat))]++(List.replicate 34 .junk)∧
  H s=some (.row 0 1 [.dsl recs.length (elsA recs),.dsl chs.length (rowsN chs)])∧RowE (s+1) 2 vO H s' (elsA (ordX recs (chs.take i))) (ordX recs (chs.take i)).length∧s+1≤s'∧∀q,s'≤q→H q=none) chs.length ?_ ?_
 ·exact⟨0,_,Nat.zero_le _,rfl,rfl,by simp(disch:=omega)only[upd_ne,upd_same],.inl ⟨rfl,rfl,rfl⟩,by omega,fun q hq=>by(simp(disch:=omega)only[upd_ne];exact hs q)⟩
 rintro Γ H s1 m ⟨i,vO,hi,rfl,rfl,hHp,hvO,hs1,hf⟩
 refine wA_ok hmix ctJ_ok _ (by kernel_rfl) ?_
 simp(maxSteps:=1000000)only[List.replicate_succ,List.replicate_zero,List.cons_append,List.nil_append,List.append_nil]
 by_cases hil:i<chs.length
 ·obtain⟨c,hc⟩:∃c,chs[i]=c:=⟨_,rfl⟩
  have hcx:(rowsN chs)[i]? =some (.dsl c.length (natsA c)):=by rw[←hc];simp[rowsN,hil]
  have hri:∀r∈c,r<recs.length:=by rw[←hc];exact hW.r _ (List.getElem_mem hil)
  have hcl:c.length≤100000:=by rw[←hc];exact hW.l _ (List.getElem_mem hil)
  have htk:=ordX_take (recs:=recs) hil
  rw[hc]at htk
  have hol:=ordX_len (recs:=recs) (chs:=chs) (i:=i) hW.l
  generalize ordX recs (chs.take i)=u0 at*
  repeat(first |(with_reducible first |apply Q0 |apply Q1 |apply Q2 |apply Q3 |apply Q4 |apply Q5 |apply Q6 |apply Q7 |apply Q8 |apply Q9 |apply QA |apply QB |apply QC |apply QD |apply QE |apply QF) |((first |(with_reducible apply QK rfl) |(apply QT;simp only[go_sem]<;>exact rfl));simp(disch:=omega)only[go_sem,hf,upd_ne,hHp,hcx,hcn];exact rfl;simp only[sB,sA,putA];exact rfl) |(apply QI;simp only[go_sem]<;>exact rfl;simp only[sB,sA,putA];exact rfl) |(apply QQ;simp only[evA,gB,gA];exact rfl) |((first |apply QX |apply QY);(first |rfl |decide |assumption)))
  refine AWp.loop [1,3,4,5] (fun Γ H s' m=>∃(k:Nat) (vO:AV),k≤c.length∧m=c.length-k∧Γ=(List.replicate 1 .junk)++[.ptr s 0 0]++(List.replicate 1 .junk)++[vO,.sc (.int .i64 (i:Nat)),.sc (.int .i64 (k:Nat))]++(List.replicate 33 .junk)∧
   H s=some (.row 0 1 [.dsl recs.length (elsA recs),.dsl chs.length (rowsN chs)])∧RowE (s+1) 2 vO H s' (elsA (u0++(c.take k).map fun r=>recs.getD r (0,0))) (u0++(c.take k).map fun r=>recs.getD r (0,0)).length∧s+1≤s'∧∀q,s'≤q→H q=none) c.length ?_ ?_
  ·exact⟨0,vO,Nat.zero_le _,rfl,rfl,hHp,by simpa using hvO,hs1,hf⟩
  clear hHp hvO hs1 hf
  rintro Γ H s2 m ⟨k,vO,hk,rfl,rfl,hHp,hvO,hs2,hf⟩
  refine wA_ok hmix ctJ_ok _ (by kernel_rfl) ?_
  simp(maxSteps:=1000000)only[List.replicate_succ,List.replicate_zero,List.cons_append,List.nil_append,List.append_nil]
  by_cases hlt:k<c.length
  ·have hrk:=hri _ (List.getElem_mem hlt)
   have hat:=elsA_drop hrk
   have hap:(u0++(c.take (k+1)).map fun r=>recs.getD r (0,0))=(u0++(c.take k).map fun r=>recs.getD r (0,0))++[recs[c[k]]]:=by
    rw[List.take_succ_eq_append_getElem hlt,List.map_append,List.append_assoc];simp[hrk]
   have hul2:(u0++(c.take k).map fun r=>recs.getD r (0,0)).length≤100000000000:=by
    rw[List.length_append,List.length_map,List.length_take];omega
   generalize (u0++(c.take k).map fun r=>recs.getD r (0,0))=u at*
   have hae:elsA (u++[recs[c[k]]])=elsA u++[.sc (.int .i64 recs[c[k]].1),.sc (.int .i64 recs[c[k]].2)]:=by rw[elsA_append];rfl
   have hul:=elsA_len u
   have hut:=elsA_take u
   have huo:=elsA_one u
   rcases hvO with⟨h0',hcs,rfl⟩ |⟨nO,vrO,h0',rfl,hHO,hOl,hOs⟩
   ·repeat(first |(with_reducible first |apply Q0 |apply Q1 |apply QG |apply Q2 |apply Q3 |apply Q4 |apply Q5 |apply Q6 |apply Q7 |apply Q8 |apply Q9 |apply QA |apply QB |apply QC |apply QD |apply QE |apply QF) |((first |(with_reducible apply QK rfl) |(apply QT;simp only[go_sem]<;>exact rfl));simp(disch:=omega)only[go_sem,hf,upd_ne,hHp,hcx,hcn,hat,hlen];exact rfl;simp only[sB,sA,putA];exact rfl) |((first |(with_reducible apply QL rfl) |(apply QM;simp only[go_sem]<;>exact rfl));simp(disch:=omega)only[go_sem,hf,upd_ne,hHp,hcx,hcn,hat,hlen];exact rfl;simp only[sB,sA,putA];exact rfl;simp only[logT_none,logT_rd,logT_wr,List.cons_append,List.nil_append];exact rfl) |((first |apply QI |apply QN);simp only[go_sem]<;>exact rfl;simp only[sB,sA,putA];exact rfl) |(refine QO ?_ ?_;first |focus(simp only[dyn_nil,dyn_cons,allY_nil,allY_cons,dj_rr,true_or,true_and];done) |focus(simp only[dyn_nil,dyn_cons,allY_nil,allY_cons,Dj,List.mem_cons,List.not_mem_nil,or_false,forall_eq,forall_eq_or_imp,and_true,true_and,false_imp_iff,implies_true];omega) |focus(simp only[dyn_nil,dyn_cons,allY_nil,allY_cons,and_true,true_and];(repeat' refine And.intro ?_ ?_);all_goals first |(left;simp only[Dj,List.mem_cons,List.not_mem_nil,or_false,forall_eq,forall_eq_or_imp,and_true,true_and,false_imp_iff,implies_true];first |done |omega) |(right;kernel_rfl))) |(apply QQ;simp only[evA,gB,gA];exact rfl) |((first |apply QX |apply QY);(first |rfl |decide |assumption)))
    refine⟨c.length-(k+1),by omega,k+1,_,by omega,rfl,rfl,?_,?_,by omega,fun q hq=>by(simp(disch:=omega)only[upd_ne];exact hf q (by omega))⟩
    ·simp(disch:=omega)only[upd_ne];exact hHp
    ·have hnil:u=[]:=List.length_eq_zero_iff.1 h0'
     rw[hap,hae,hnil]
     exact .inr ⟨_,_,app_pos _ _,rfl,upd_same _ _ _,by omega,by omega⟩
   ·repeat(first |(with_reducible first |apply Q0 |apply Q1 |apply QG |apply Q2 |apply Q3 |apply Q4 |apply Q5 |apply Q6 |apply Q7 |apply Q8 |apply Q9 |apply QA |apply QB |apply QC |apply QD |apply QE |apply QF) |((first |(with_reducible apply QK rfl) |(apply QT;simp only[go_sem]<;>exact rfl));simp(disch:=omega)only[go_sem,hf,upd_ne,hHp,hHO,hcx,hcn,hat,hlen,hul,hut,huo];exact rfl;simp only[sB,sA,putA];exact rfl) |((first |(with_reducible apply QL rfl) |(apply QM;simp only[go_sem]<;>exact rfl));simp(disch:=omega)only[go_sem,hf,upd_ne,hHp,hHO,hcx,hcn,hat,hlen,hul,hut,huo];exact rfl;simp only[sB,sA,putA];exact rfl;simp only[logT_none,logT_rd,logT_wr,List.cons_append,List.nil_append];exact rfl) |((first |apply QI |apply QN);simp only[go_sem]<;>exact rfl;simp only[sB,sA,putA];exact rfl) |(refine QO ?_ ?_;first |focus(simp only[dyn_nil,dyn_cons,allY_nil,allY_cons,dj_rr,true_or,true_and];done) |focus(simp only[dyn_nil,dyn_cons,allY_nil,allY_cons,Dj,List.mem_cons,List.not_mem_nil,or_false,forall_eq,forall_eq_or_imp,and_true,true_and,false_imp_iff,implies_true];omega) |focus(simp only[dyn_nil,dyn_cons,allY_nil,allY_cons,and_true,true_and];(repeat' refine And.intro ?_ ?_);all_goals first |(left;simp only[Dj,List.mem_cons,List.not_mem_nil,or_false,forall_eq,forall_eq_or_imp,and_true,true_and,false_imp_iff,implies_true];first |done |omega) |(right;kernel_rfl))) |(apply QQ;simp only[evA,gB,gA];exact rfl) |((first |apply QX |apply QY);(first |rfl |decide |assumption)))
    refine⟨c.length-(k+1),by omega,k+1,_,by omega,rfl,rfl,?_,?_,by omega,fun q hq=>by(simp(disch:=omega)only[upd_ne];exact hf q (by omega))⟩
    ·simp(disch:=omega)only[upd_ne];exact hHp
    ·rw[hap,hae]
     exact .inr ⟨nO,vrO+1,app_pos _ _,by rw[List.length_append];rfl,upd_same _ _ _,by omega,hOs⟩
  ·obtain rfl:k=c.length:=by omega
   rw[List.take_length,←htk]at hvO
   repeat(first |(with_reducible first |apply Q0 |apply Q1 |apply QG |apply Q2 |apply Q3 |apply Q4 |apply Q5 |apply Q6 |apply Q7 |apply Q8 |apply Q9 |apply QA |apply QB |apply QC |apply QD |apply QE |apply QF) |((first |(with_reducible apply QK rfl) |(apply QT;simp only[go_sem]<;>exact rfl));simp(disch:=omega)only[go_sem,hf,upd_ne,hHp,hcx,hcn];exact rfl;simp only[sB,sA,putA];exact rfl) |((first |(with_reducible apply QL rfl) |(apply QM;simp only[go_sem]<;>exact rfl));simp(disch:=omega)only[go_sem,hf,upd_ne,hHp,hcx,hcn];exact rfl;simp only[sB,sA,putA];exact rfl;simp only[logT_none,logT_rd,logT_wr,List.cons_append,List.nil_append];exact rfl) |((first |apply QI |apply QN);simp only[go_sem]<;>exact rfl;simp only[sB,sA,putA];exact rfl) |(refine QO ?_ ?_;first |focus(simp only[dyn_nil,dyn_cons,allY_nil,allY_cons,dj_rr,true_or,true_and];done) |focus(simp only[dyn_nil,dyn_cons,allY_nil,allY_cons,Dj,List.mem_cons,List.not_mem_nil,or_false,forall_eq,forall_eq_or_imp,and_true,true_and,false_imp_iff,implies_true];omega) |focus(simp only[dyn_nil,dyn_cons,allY_nil,allY_cons,and_true,true_and];(repeat' refine And.intro ?_ ?_);all_goals first |(left;simp only[Dj,List.mem_cons,List.not_mem_nil,or_false,forall_eq,forall_eq_or_imp,and_true,true_and,false_imp_iff,implies_true];first |done |omega) |(right;kernel_rfl))) |(apply QQ;simp only[evA,gB,gA];exact rfl) |((first |apply QX |apply QY);(first |rfl |decide |assumption)))
   exact⟨chs.length-(i+1),by omega,i+1,vO,by omega,rfl,rfl,hHp,hvO,hs2,hf⟩
 ·obtain rfl:i=chs.length:=by omega
  rw[List.take_length]at hvO
  repeat(first |(with_reducible first |apply Q0 |apply Q1 |apply Q2 |apply Q3 |apply Q4 |apply Q5 |apply Q6 |apply Q7 |apply Q8 |apply Q9 |apply QA |apply QB |apply QC |apply QD |apply QE |apply QF) |((first |(with_reducible apply QK rfl) |(apply QT;simp only[go_sem]<;>exact rfl));simp(disch:=omega)only[go_sem,hf,upd_ne,hHp,hcn];exact rfl;simp only[sB,sA,putA];exact rfl) |(apply QI;simp only[go_sem]<;>exact rfl;simp only[sB,sA,putA];exact rfl) |(apply QQ;simp only[evA,gB,gA];exact rfl) |((first |apply QX |apply QY);(first |rfl |decide |assumption)))
  (apply QZ;simp(disch:=omega)only[go_sem,Try.results95];exact rfl;simp only[packA];exact rfl)
  exact hvO.expE rfl
end Go.Proofs.Ytdcomhdadnhpnaa
