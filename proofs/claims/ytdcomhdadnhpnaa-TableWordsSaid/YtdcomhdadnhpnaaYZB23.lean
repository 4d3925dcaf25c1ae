import Derived.Test.YtdcomhdadnhpnaaYZA26
set_option linter.all false
namespace Go.Proofs.Ytdcomhdadnhpnaa
open Go Go.Am Go.RowKit
attribute [local irreducible] wA opsQ opsLQ thenA blockA EndA
def mrgR (recs:List (Int×Int)):List Nat→List Nat→List Nat
 | [],l=>l
 |x::a,[]=>x::a
 |x::a,y::l=>if(recs.getD x (0,0)).1<(recs.getD y (0,0)).1 then x::mrgR recs a (y::l)else y::mrgR recs (x::a) l
termination_by a l=>a.length+l.length
theorem mrgR_nilr (recs:List (Int×Int)) (a:List Nat):mrgR recs a []=a:=by cases a<;>simp[mrgR]
theorem mrgR_nill (recs:List (Int×Int)) (l:List Nat):mrgR recs [] l=l:=by cases l<;>simp[mrgR]
theorem mrgR_lt {recs:List (Int×Int)} {x y:Nat} {a l:List Nat} (h:(recs.getD x (0,0)).1<(recs.getD y (0,0)).1):mrgR recs (x::a) (y::l)=x::mrgR recs a (y::l):=by
 rw[mrgR,if_pos h]
theorem mrgR_ge {recs:List (Int×Int)} {x y:Nat} {a l:List Nat} (h:¬(recs.getD x (0,0)).1<(recs.getD y (0,0)).1):mrgR recs (x::a) (y::l)=y::mrgR recs (x::a) l:=by
 rw[mrgR,if_neg h]
def mrgI (b:Nat):Nat:=b-1-pow2 (b-1)
def mrgO (recs:List (Int×Int)) (chs:List (List Nat)):List Nat:=mrgR recs (chs.getD (mrgI chs.length) []) (chs.getD (chs.length-1) [])
def mrgS (recs:List (Int×Int)) (chs:List (List Nat)):List (List Nat):=chs.set (mrgI chs.length) (mrgO recs chs)
structure MOK (recs:List (Int×Int)) (n:Nat) (chs:List (List Nat)):Prop where
 k:n≤recs.length∧recs.length≤100000
 b:2≤chs.length∧chs.length≤100000
 r:∀c∈chs,∀r∈c,r<n
 l:∀c∈chs,c.length≤100000
open Classical in
noncomputable def c85:List AV→AP AV
 | [.ptr p 0 0]=>.get p (bxK fun nm1 ver1 n nm ver b=>.get nm1 (eK ver1 fun recs=>.get nm (cK ver fun chs=>
   if MOK recs n chs∧b=chs.length then
    .set nm (.row ver 1 (rowsN (mrgS recs chs))) (.set p (.row 0 1 [.sl nm1 ver1 0 n,.sl nm ver 0 (chs.length-1)]) (.ret (.sc (.int .i64 ((mrgO recs chs).length:Nat)))))
   else .fail)))
 |_=>.fail
set_option maxRecDepth 100000 in
set_option maxHeartbeats 4000000 in
theorem mrg_walk {recs:List (Int×Int)} {n:Nat} {chs:List (List Nat)} (hW:MOK recs n chs) (E:Ent) (s p nm1 ver1 nm ver:Nat) (hs:∀q,s≤q→E.H q=none) (hp:E.H p=some (.row 0 1 [.sl nm1 ver1 0 n,.sl nm ver 0 chs.length]))
  (h1:E.H nm1=some (.row ver1 2 (elsA recs))) (h2:E.H nm=some (.row ver 1 (rowsN chs))) (hpn:p≠nm) (R:AV→AHp→Prop)
  (hR:∀(H1:AHp) (vO:AV) (s':Nat),(∀q,q<s→q≠p→q≠nm→H1 q=E.H q)→H1 p=some (.row 0 1 [.sl nm1 ver1 0 n,.sl nm ver 0 (chs.length-1)])→
   H1 nm=some (.row ver 1 ((rowsN chs).set (mrgI chs.length) vO))→RowE s 1 vO H1 s' (natsA (mrgO recs chs)) (mrgO recs chs).length→
   R (.sc (.int .i64 ((mrgO recs chs).length:Nat))) H1):
  wA Try.prog E ctQ Try.f85.body.get! (begA Try.f85 [.ptr p 0 0]) E.H s (EndA Try.prog Try.f85 R):=by
 simp(maxSteps:=300000)only[begA,Try.ntmps85,List.replicate_succ,List.replicate_zero,List.length_cons,List.length_nil,List.cons_append,List.nil_append]
 simp only[Try.f85,Option.get!_some]
 obtain⟨hn,hb,hr,hl⟩:=hW
 have hp2:=pow2_le1 (b:=chs.length-1) (by omega)
 have hpl:p<s:=Nat.lt_of_not_le fun h=>by rw[hs p h]at hp;cases hp
 have hnl:nm<s:=Nat.lt_of_not_le fun h=>by rw[hs nm h]at h2;cases h2
 have hn1l:nm1<s:=Nat.lt_of_not_le fun h=>by rw[hs nm1 h]at h1;cases h1
 obtain⟨j,hj⟩:∃j,chs.length=j+1:=⟨chs.length-1,by omega⟩
 have hi:mrgI chs.length<j:=by unfold mrgI;omega
 obtain⟨i,hix⟩:∃i,i=mrgI chs.length:=⟨_,rfl⟩
 have hjl:j<chs.length:=by omega
 have hil:i<chs.length:=by omega
 obtain⟨a,ha⟩:∃a,a=chs[i]:=⟨_,rfl⟩
 obtain⟨l,hla⟩:∃l,l=chs[j]:=⟨_,rfl⟩
 have hO:mrgO recs chs=mrgR recs a l:=by
  unfold mrgO
  rw[←hix,hj,Nat.add_sub_cancel,ha,hla]
  simp[hil,hjl]
 rw[hO]at hR
 rw[←hix]at hR hi
 have hii:((j:Nat):Int)-((pow2 j:Nat):Int)=((i:Nat):Int):=by
  rw[hix];unfold mrgI
  rw[hj,Nat.add_sub_cancel]at hp2 ⊢
  omega
 have hra:∀r∈a,r<n:=by rw[ha];exact hr _ (List.getElem_mem hil)
 have hrl:∀r∈l,r<n:=by rw[hla];exact hr _ (List.getElem_mem hjl)
 have hal:a.length≤100000:=by rw[ha];exact hl _ (List.getElem_mem hil)
 have hll:l.length≤100000:=by rw[hla];exact hl _ (List.getElem_mem hjl)
 have hia:(rowsN chs)[i]? =some (.dsl a.length (natsA a)):=by rw[ha];simp[rowsN,hil]
 have hja:(rowsN chs)[j]? =some (.dsl l.length (natsA l)):=by rw[hla];simp[rowsN,hjl]
 have hrlen:(rowsN chs).length=chs.length:=rowsN_len _
 have hjI:((chs.length:Nat):Int)-1=((j:Nat):Int):=by omega
 have hjT:((j:Nat):Int).toNat=j:=Int.toNat_natCast _
 have hjm:chs.length-1=j:=by omega
 rw[hjm]at hR
 rw[hjm]at hp2
 repeat(first |(with_reducible first |apply Q0 |apply Q1 |apply Q2 |apply Q3 |apply Q4 |apply Q5 |apply Q6 |apply Q7 |apply Q8 |apply Q9 |apply QA |apply QB |apply QC |apply QD |apply QE |apply QF) |((with_reducible apply QK rfl);simp(disch:=omega)only[go_sem,hp,h2,cal67,ctQ_67,c67r,hjI,hjT,hii,hia,hja,hrlen];exact rfl;simp only[sB,sA,putA];exact rfl) |(apply QQ;simp only[evA,gB,gA];exact rfl) |((first |apply QX |apply QY);(first |rfl |decide |assumption)))
 refine AWp.loop [0,3,4,5,6,7,8,9] (fun Γ H s' m=>∃(k q:Nat) (out:List Nat) (vO:AV),k≤a.length∧q≤l.length∧m=(a.length-k)+(l.length-q)∧out.length=k+q∧out++mrgR recs (a.drop k) (l.drop q)=mrgR recs a l∧Γ=[.ptr p 0 0]++(List.replicate 2 .junk)++[.sc (.int .i64 (j:Nat)),.sc (.int .i64 (i:Nat)),.dsl a.length (natsA a),.dsl l.length (natsA l),vO,.sc (.int .i64 (k:Nat)),.sc (.int .i64 (q:Nat))]++(List.replicate 105 .junk)∧
  s≤s'∧(∀q,s'≤q→H q=none)∧(∀q,q<s→H q=E.H q)∧RowE s 1 vO H s' (natsA out) out.length) (a.length+l.length) ?_ ?_
 ·exact⟨0,0,[],_,Nat.zero_le _,Nat.zero_le _,rfl,rfl,rfl,rfl,Nat.le_refl _,hs,fun _ _=>rfl,.inl ⟨rfl,rfl,rfl⟩⟩
 rintro Γ H s1 m ⟨k,q,out,vO,hk,hq,rfl,hol,hM,rfl,hss,hf,hE,hRo⟩
 refine wA_ok hmix ctQ_ok _ (by kernel_rfl) ?_
 simp(maxSteps:=1000000)only[List.replicate_succ,List.replicate_zero,List.cons_append,List.nil_append,List.append_nil]
 have hHp:H p=some (.row 0 1 [.sl nm1 ver1 0 n,.sl nm ver 0 chs.length]):=by rw[hE p hpl];exact hp
 have hH1:H nm1=some (.row ver1 2 (elsA recs)):=by rw[hE nm1 hn1l];exact h1
 have hH2:H nm=some (.row ver 1 (rowsN chs)):=by rw[hE nm hnl];exact h2
 have hcl:out.length≤200000:=by omega
 have hal2:(natsA out).length=out.length:=natsA_len _
 have hat2:(natsA out).take out.length=natsA out:=natsA_take _
 have hao2:(natsA out).all AV.one=true:=ints_all _
 have hexn:∀r (hr:r<n),(elsA recs)[r*2]? =some (.sc (.int .i64 (recs.getD r (0,0)).1)):=fun r hr=>by
  have h0:r<recs.length:=by omega
  have h:=elsA_drop h0
  rw[←List.head?_drop,h,show recs.getD r (0,0)=recs[r]by simp[h0]];rfl
 by_cases hka:k<a.length
 ·have hrk:=hra _ (List.getElem_mem hka)
  have hexa:=hexn _ hrk
  have hdk:a.drop k=a[k]::a.drop (k+1):=List.drop_eq_getElem_cons hka
  by_cases hql:q<l.length
  ·have hrq:=hrl _ (List.getElem_mem hql)
   have hexl:=hexn _ hrq
   have hdq:l.drop q=l[q]::l.drop (q+1):=List.drop_eq_getElem_cons hql
   have hqn:¬((q:Nat):Int)=((l.length:Nat):Int):=by omega
   by_cases hlt:(recs.getD a[k] (0,0)).1<(recs.getD l[q] (0,0)).1
   ·have hM2:(out++[a[k]])++mrgR recs (a.drop (k+1)) (l.drop q)=mrgR recs a l:=by
     rw[←hM,hdk,hdq,mrgR_lt hlt,List.append_assoc];rfl
    have hap:natsA (out++[a[k]])=natsA out++[.sc (.int .i64 (a[k]:Nat))]:=natsA_app _ _
    rcases hRo with⟨h0,hcs,rfl⟩ |⟨nO,vrO,h0,rfl,hHO,hOl,hOs⟩
    ·repeat(first |(with_reducible first |apply Q0 |apply Q1 |apply QG |apply Q2 |apply Q3 |apply Q4 |apply Q5 |apply Q6 |apply Q7 |apply Q8 |apply Q9 |apply QA |apply QB |apply QC |apply QD |apply QE |apply QF) |((first |(with_reducible apply QK rfl) |(apply QT;simp only[go_sem]<;>exact rfl));simp(disch:=omega)only[go_sem,hf,upd_ne,hHp,hH1,hH2,elsA_len,elsA_drop,hexa,hexl,List.getElem_map,hqn,hlt];exact rfl;simp only[sB,sA,putA];exact rfl) |((first |(with_reducible apply QL rfl) |(apply QM;simp only[go_sem]<;>exact rfl));simp(disch:=omega)only[go_sem,hf,upd_ne,hHp,hH1,hH2,elsA_len,elsA_drop,hexa,hexl,List.getElem_map,hqn,hlt];exact rfl;simp only[sB,sA,putA];exact rfl;simp only[logT_none,logT_rd,logT_wr,List.cons_append,List.nil_append];exact rfl) |((first |apply QI |apply QN);simp only[go_sem]<;>exact rfl;simp only[sB,sA,putA];exact rfl) |(refine QO ?_ ?_;first |focus(simp only[dyn_nil,dyn_cons,allY_nil,allY_cons,dj_rr,true_or,true_and];done) |focus(simp only[dyn_nil,dyn_cons,allY_nil,allY_cons,Dj,List.mem_cons,List.not_mem_nil,or_false,forall_eq,forall_eq_or_imp,and_true,true_and,false_imp_iff,implies_true];omega) |focus(simp only[dyn_nil,dyn_cons,allY_nil,allY_cons,and_true,true_and];(repeat' refine And.intro ?_ ?_);all_goals first |(left;simp only[Dj,List.mem_cons,List.not_mem_nil,or_false,forall_eq,forall_eq_or_imp,and_true,true_and,false_imp_iff,implies_true];first |done |omega) |(right;kernel_rfl))) |(apply QQ;simp only[evA,gB,gA];exact rfl) |((first |apply QX |apply QY);(first |rfl |decide |assumption)))
     refine⟨(a.length-(k+1))+(l.length-q),by omega,k+1,q,_,_,by omega,hq,rfl,by rw[List.length_append];simp;omega,hM2,rfl,by omega,fun q hq=>by(simp(disch:=omega)only[upd_ne];exact hf q (by omega)),fun q hq=>by(simp(disch:=omega)only[upd_ne];exact hE q hq),?_⟩
     have hnil:out=[]:=List.length_eq_zero_iff.1 h0
     rw[hap,hnil]
     exact .inr ⟨_,_,app_pos _ _,rfl,upd_same _ _ _,by omega,by omega⟩
    ·repeat(first |(with_reducible first |apply Q0 |apply Q1 |apply QG |apply Q2 |apply Q3 |apply Q4 |apply Q5 |apply Q6 |apply Q7 |apply Q8 |apply Q9 |apply QA |apply QB |apply QC |apply QD |apply QE |apply QF) |((first |(with_reducible apply QK rfl) |(apply QT;simp only[go_sem]<;>exact rfl));simp(disch:=omega)only[go_sem,hf,upd_ne,hHp,hH1,hH2,hHO,elsA_len,elsA_drop,hexa,hexl,List.getElem_map,hqn,hlt,hal2,hat2,hao2];exact rfl;simp only[sB,sA,putA];exact rfl) |((first |(with_reducible apply QL rfl) |(apply QM;simp only[go_sem]<;>exact rfl));simp(disch:=omega)only[go_sem,hf,upd_ne,hHp,hH1,hH2,hHO,elsA_len,elsA_drop,hexa,hexl,List.getElem_map,hqn,hlt,hal2,hat2,hao2];exact rfl;simp only[sB,sA,putA];exact rfl;simp only[logT_none,logT_rd,logT_wr,List.cons_append,List.nil_append];exact rfl) |((first |apply QI |apply QN);simp only[go_sem]<;>exact rfl;simp only[sB,sA,putA];exact rfl) |(refine QO ?_ ?_;first |focus(simp only[dyn_nil,dyn_cons,allY_nil,allY_cons,dj_rr,true_or,true_and];done) |focus(simp only[dyn_nil,dyn_cons,allY_nil,allY_cons,Dj,List.mem_cons,List.not_mem_nil,or_false,forall_eq,forall_eq_or_imp,and_true,true_and,false_imp_iff,implies_true];omega) |focus(simp only[dyn_nil,dyn_cons,allY_nil,allY_cons,and_true,true_and];(repeat' refine And.intro ?_ ?_);all_goals first |(left;simp only[Dj,List.mem_cons,List.not_mem_nil,or_false,forall_eq,forall_eq_or_imp,and_true,true_and,false_imp_iff,implies_true];first |done |omega) |(right;kernel_rfl))) |(apply QQ;simp only[evA,gB,gA];exact rfl) |((first |apply QX |apply QY);(first |rfl |decide |assumption)))
     refine⟨(a.length-(k+1))+(l.length-q),by omega,k+1,q,_,_,by omega,hq,rfl,by rw[List.length_append];simp;omega,hM2,rfl,by omega,fun q hq=>by(simp(disch:=omega)only[upd_ne];exact hf q (by omega)),fun q hq=>by(simp(disch:=omega)only[upd_ne];exact hE q hq),?_⟩
     rw[hap]
     exact .inr ⟨nO,vrO+1,app_pos _ _,by rw[List.length_append];rfl,upd_same _ _ _,by omega,hOs⟩
   ·have hM2:(out++[l[q]])++mrgR recs (a.drop k) (l.drop (q+1))=mrgR recs a l:=by
     rw[←hM,hdk,hdq,mrgR_ge hlt,List.append_assoc];rfl
    have hap:natsA (out++[l[q]])=natsA out++[.sc (.int .i64 (l[q]:Nat))]:=natsA_app _ _
    rcases hRo with⟨h0,hcs,rfl⟩ |⟨nO,vrO,h0,rfl,hHO,hOl,hOs⟩
    ·repeat(first |(with_reducible first |apply Q0 |apply Q1 |apply QG |apply Q2 |apply Q3 |apply Q4 |apply Q5 |apply Q6 |apply Q7 |apply Q8 |apply Q9 |apply QA |apply QB |apply QC |apply QD |apply QE |apply QF) |((first |(with_reducible apply QK rfl) |(apply QT;simp only[go_sem]<;>exact rfl));simp(disch:=omega)only[go_sem,hf,upd_ne,hHp,hH1,hH2,elsA_len,elsA_drop,hexa,hexl,List.getElem_map,hqn,hlt];exact rfl;simp only[sB,sA,putA];exact rfl) |((first |(with_reducible apply QL rfl) |(apply QM;simp only[go_sem]<;>exact rfl));simp(disch:=omega)only[go_sem,hf,upd_ne,hHp,hH1,hH2,elsA_len,elsA_drop,hexa,hexl,List.getElem_map,hqn,hlt];exact rfl;simp only[sB,sA,putA];exact rfl;simp only[logT_none,logT_rd,logT_wr,List.cons_append,List.nil_append];exact rfl) |((first |apply QI |apply QN);simp only[go_sem]<;>exact rfl;simp only[sB,sA,putA];exact rfl) |(refine QO ?_ ?_;first |focus(simp only[dyn_nil,dyn_cons,allY_nil,allY_cons,dj_rr,true_or,true_and];done) |focus(simp only[dyn_nil,dyn_cons,allY_nil,allY_cons,Dj,List.mem_cons,List.not_mem_nil,or_false,forall_eq,forall_eq_or_imp,and_true,true_and,false_imp_iff,implies_true];omega) |focus(simp only[dyn_nil,dyn_cons,allY_nil,allY_cons,and_true,true_and];(repeat' refine And.intro ?_ ?_);all_goals first |(left;simp only[Dj,List.mem_cons,List.not_mem_nil,or_false,forall_eq,forall_eq_or_imp,and_true,true_and,false_imp_iff,implies_true];first |done |omega) |(right;kernel_rfl))) |(apply QQ;simp only[evA,gB,gA];exact rfl) |((first |apply QX |apply QY);(first |rfl |decide |assumption)))
     refine⟨(a.length-k)+(l.length-(q+1)),by omega,k,q+1,_,_,by omega,by omega,rfl,by rw[List.length_append];simp;omega,hM2,rfl,by omega,fun q hq=>by(simp(disch:=omega)only[upd_ne];exact hf q (by omega)),fun q hq=>by(simp(disch:=omega)only[upd_ne];exact hE q hq),?_⟩
     have hnil:out=[]:=List.length_eq_zero_iff.1 h0
     rw[hap,hnil]
     exact .inr ⟨_,_,app_pos _ _,rfl,upd_same _ _ _,by omega,by omega⟩
    ·repeat(first |(with_reducible first |apply Q0 |apply Q1 |apply QG |apply Q2 |apply Q3 |apply Q4 |apply Q5 |apply Q6 |apply Q7 |apply Q8 |apply Q9 |apply QA |apply QB |apply QC |apply QD |apply QE |apply QF) |((first |(with_reducible apply QK rfl) |(apply QT;simp only[go_sem]<;>exact rfl));simp(disch:=omega)only[go_sem,hf,upd_ne,hHp,hH1,hH2,hHO,elsA_len,elsA_drop,hexa,hexl,List.getElem_map,hqn,hlt,hal2,hat2,hao2];exact rfl;simp only[sB,sA,putA];exact rfl) |((first |(with_reducible apply QL rfl) |(apply QM;simp only[go_sem]<;>exact rfl));simp(disch:=omega)only[go_sem,hf,upd_ne,hHp,hH1,hH2,hHO,elsA_len,elsA_drop,hexa,hexl,List.getElem_map,hqn,hlt,hal2,hat2,hao2];exact rfl;simp only[sB,sA,putA];exact rfl;simp only[logT_none,logT_rd,logT_wr,List.cons_append,List.nil_append];exact rfl) |((first |apply QI |apply QN);simp only[go_sem]<;>exact rfl;simp only[sB,sA,putA];exact rfl) |(refine QO ?_ ?_;first |focus(simp only[dyn_nil,dyn_cons,allY_nil,allY_cons,dj_rr,true_or,true_and];done) |focus(simp only[dyn_nil,dyn_cons,allY_nil,allY_cons,Dj,List.mem_cons,List.not_mem_nil,or_false,forall_eq,forall_eq_or_imp,and_true,true_and,false_imp_iff,implies_true];omega) |focus(simp only[dyn_nil,dyn_cons,allY_nil,allY_cons,and_true,true_and];(repeat' refine And.intro ?_ ?_);all_goals first |(left;simp only[Dj,List.mem_cons,List.not_mem_nil,or_false,forall_eq,forall_eq_or_imp,and_true,true_and,false_imp_iff,implies_true];first |done |omega) |(right;kernel_rfl))) |(apply QQ;simp only[evA,gB,gA];exact rfl) |((first |apply QX |apply QY);(first |rfl |decide |assumption)))
     refine⟨(a.length-k)+(l.length-(q+1)),by omega,k,q+1,_,_,by omega,by omega,rfl,by rw[List.length_append];simp;omega,hM2,rfl,by omega,fun q hq=>by(simp(disch:=omega)only[upd_ne];exact hf q (by omega)),fun q hq=>by(simp(disch:=omega)only[upd_ne];exact hE q hq),?_⟩
     rw[hap]
     exact .inr ⟨nO,vrO+1,app_pos _ _,by rw[List.length_append];rfl,upd_same _ _ _,by omega,hOs⟩
  ·obtain rfl:q=l.length:=by omega
   have hM2:(out++[a[k]])++mrgR recs (a.drop (k+1)) (l.drop l.length)=mrgR recs a l:=by
    rw[←hM,List.drop_length,mrgR_nilr,mrgR_nilr,hdk,List.append_assoc];rfl
   have hap:natsA (out++[a[k]])=natsA out++[.sc (.int .i64 (a[k]:Nat))]:=natsA_app _ _
   rcases hRo with⟨h0,hcs,rfl⟩ |⟨nO,vrO,h0,rfl,hHO,hOl,hOs⟩
   ·repeat(first |(with_reducible first |apply Q0 |apply Q1 |apply QG |apply Q2 |apply Q3 |apply Q4 |apply Q5 |apply Q6 |apply Q7 |apply Q8 |apply Q9 |apply QA |apply QB |apply QC |apply QD |apply QE |apply QF) |((first |(with_reducible apply QK rfl) |(apply QT;simp only[go_sem]<;>exact rfl));simp(disch:=omega)only[go_sem,hf,upd_ne,hHp,hH1,hH2,elsA_len,elsA_drop,hexa,List.getElem_map];exact rfl;simp only[sB,sA,putA];exact rfl) |((first |(with_reducible apply QL rfl) |(apply QM;simp only[go_sem]<;>exact rfl));simp(disch:=omega)only[go_sem,hf,upd_ne,hHp,hH1,hH2,elsA_len,elsA_drop,hexa,List.getElem_map];exact rfl;simp only[sB,sA,putA];exact rfl;simp only[logT_none,logT_rd,logT_wr,List.cons_append,List.nil_append];exact rfl) |((first |apply QI |apply QN);simp only[go_sem]<;>exact rfl;simp only[sB,sA,putA];exact rfl) |(refine QO ?_ ?_;first |focus(simp only[dyn_nil,dyn_cons,allY_nil,allY_cons,dj_rr,true_or,true_and];done) |focus(simp only[dyn_nil,dyn_cons,allY_nil,allY_cons,Dj,List.mem_cons,List.not_mem_nil,or_false,forall_eq,forall_eq_or_imp,and_true,true_and,false_imp_iff,implies_true];omega) |focus(simp only[dyn_nil,dyn_cons,allY_nil,allY_cons,and_true,true_and];(repeat' refine And.intro ?_ ?_);all_goals first |(left;simp only[Dj,List.mem_cons,List.not_mem_nil,or_false,forall_eq,forall_eq_or_imp,and_true,true_and,false_imp_iff,implies_true];first |done |omega) |(right;kernel_rfl))) |(apply QQ;simp only[evA,gB,gA];exact rfl) |((first |apply QX |apply QY);(first |rfl |decide |assumption)))
    refine⟨(a.length-(k+1))+(l.length-l.length),by omega,k+1,l.length,_,_,by omega,hq,rfl,by rw[List.length_append];simp;omega,hM2,rfl,by omega,fun q hq=>by(simp(disch:=omega)only[upd_ne];exact hf q (by omega)),fun q hq=>by(simp(disch:=omega)only[upd_ne];exact hE q hq),?_⟩
    have hnil:out=[]:=List.length_eq_zero_iff.1 h0
    rw[hap,hnil]
    exact .inr ⟨_,_,app_pos _ _,rfl,upd_same _ _ _,by omega,by omega⟩
   ·repeat(first |(with_reducible first |apply Q0 |apply Q1 |apply QG |apply Q2 |apply Q3 |apply Q4 |apply Q5 |apply Q6 |apply Q7 |apply Q8 |apply Q9 |apply QA |apply QB |apply QC |apply QD |apply QE |apply QF) |((first |(with_reducible apply QK rfl) |(apply QT;simp only[go_sem]<;>exact rfl));simp(disch:=omega)only[go_sem,hf,upd_ne,hHp,hH1,hH2,hHO,elsA_len,elsA_drop,hexa,List.getElem_map,hal2,hat2,hao2];exact rfl;simp only[sB,sA,putA];exact rfl) |((first |(with_reducible apply QL rfl) |(apply QM;simp only[go_sem]<;>exact rfl));simp(disch:=omega)only[go_sem,hf,upd_ne,hHp,hH1,hH2,hHO,elsA_len,elsA_drop,hexa,List.getElem_map,hal2,hat2,hao2];exact rfl;simp only[sB,sA,putA];exact rfl;simp only[logT_none,logT_rd,logT_wr,List.cons_append,List.nil_append];exact rfl) |((first |apply QI |apply QN);simp only[go_sem]<;>exact rfl;simp only[sB,sA,putA];exact rfl) |(refine QO ?_ ?_;first |focus(simp only[dyn_nil,dyn_cons,allY_nil,allY_cons,dj_rr,true_or,true_and];done) |focus(simp only[dyn_nil,dyn_cons,allY_nil,allY_cons,Dj,List.mem_cons,List.not_mem_nil,or_false,forall_eq,forall_eq_or_imp,and_true,true_and,false_imp_iff,implies_true];omega) |focus(simp only[dyn_nil,dyn_cons,allY_nil,allY_cons,and_true,true_and];(repeat' refine And.intro ?_ ?_);all_goals first |(left;simp only[Dj,List.mem_cons,List.not_mem_nil,or_false,forall_eq,forall_eq_or_imp,and_true,true_and,false_imp_iff,implies_true];first |done |omega) |(right;kernel_rfl))) |(apply QQ;simp only[evA,gB,gA];exact rfl) |((first |apply QX |apply QY);(first |rfl |decide |assumption)))
    refine⟨(a.length-(k+1))+(l.length-l.length),by omega,k+1,l.length,_,_,by omega,hq,rfl,by rw[List.length_append];simp;omega,hM2,rfl,by omega,fun q hq=>by(simp(disch:=omega)only[upd_ne];exact hf q (by omega)),fun q hq=>by(simp(disch:=omega)only[upd_ne];exact hE q hq),?_⟩
    rw[hap]
    exact .inr ⟨nO,vrO+1,app_pos _ _,by rw[List.length_append];rfl,upd_same _ _ _,by omega,hOs⟩
 ·obtain rfl:k=a.length:=by omega
  by_cases hql:q<l.length
  ·have hrq:=hrl _ (List.getElem_mem hql)
   have hexl:=hexn _ hrq
   have hdq:l.drop q=l[q]::l.drop (q+1):=List.drop_eq_getElem_cons hql
   have hqn:¬((q:Nat):Int)=((l.length:Nat):Int):=by omega
   have hM2:(out++[l[q]])++mrgR recs (a.drop a.length) (l.drop (q+1))=mrgR recs a l:=by
    rw[←hM,List.drop_length,mrgR_nill,mrgR_nill,hdq,List.append_assoc];rfl
   have hap:natsA (out++[l[q]])=natsA out++[.sc (.int .i64 (l[q]:Nat))]:=natsA_app _ _
   rcases hRo with⟨h0,hcs,rfl⟩ |⟨nO,vrO,h0,rfl,hHO,hOl,hOs⟩
   ·repeat(first |(with_reducible first |apply Q0 |apply Q1 |apply QG |apply Q2 |apply Q3 |apply Q4 |apply Q5 |apply Q6 |apply Q7 |apply Q8 |apply Q9 |apply QA |apply QB |apply QC |apply QD |apply QE |apply QF) |((first |(with_reducible apply QK rfl) |(apply QT;simp only[go_sem]<;>exact rfl));simp(disch:=omega)only[go_sem,hf,upd_ne,hHp,hH1,hH2,elsA_len,elsA_drop,hexl,List.getElem_map,hqn];exact rfl;simp only[sB,sA,putA];exact rfl) |((first |(with_reducible apply QL rfl) |(apply QM;simp only[go_sem]<;>exact rfl));simp(disch:=omega)only[go_sem,hf,upd_ne,hHp,hH1,hH2,elsA_len,elsA_drop,hexl,List.getElem_map,hqn];exact rfl;simp only[sB,sA,putA];exact rfl;simp only[logT_none,logT_rd,logT_wr,List.cons_append,List.nil_append];exact rfl) |((first |apply QI |apply QN);simp only[go_sem]<;>exact rfl;simp only[sB,sA,putA];exact rfl) |(refine QO ?_ ?_;first |focus(simp only[dyn_nil,dyn_cons,allY_nil,allY_cons,dj_rr,true_or,true_and];done) |focus(simp only[dyn_nil,dyn_cons,allY_nil,allY_cons,Dj,List.mem_cons,List.not_mem_nil,or_false,forall_eq,forall_eq_or_imp,and_true,true_and,false_imp_iff,implies_true];omega) |focus(simp only[dyn_nil,dyn_cons,allY_nil,allY_cons,and_true,true_and];(repeat' refine And.intro ?_ ?_);all_goals first |(left;simp only[Dj,List.mem_cons,List.not_mem_nil,or_false,forall_eq,forall_eq_or_imp,and_true,true_and,false_imp_iff,implies_true];first |done |omega) |(right;kernel_rfl))) |(apply QQ;simp only[evA,gB,gA];exact rfl) |((first |apply QX |apply QY);(first |rfl |decide |assumption)))
    refine⟨(a.length-a.length)+(l.length-(q+1)),by omega,a.length,q+1,_,_,by omega,by omega,rfl,by rw[List.length_append];simp;omega,hM2,rfl,by omega,fun q hq=>by(simp(disch:=omega)only[upd_ne];exact hf q (by omega)),fun q hq=>by(simp(disch:=omega)only[upd_ne];exact hE q hq),?_⟩
    have hnil:out=[]:=List.length_eq_zero_iff.1 h0
    rw[hap,hnil]
    exact .inr ⟨_,_,app_pos _ _,rfl,upd_same _ _ _,by omega,by omega⟩
   ·repeat(first |(with_reducible first |apply Q0 |apply Q1 |apply QG |apply Q2 |apply Q3 |apply Q4 |apply Q5 |apply Q6 |apply Q7 |apply Q8 |apply Q9 |apply QA |apply QB |apply QC |apply QD |apply QE |apply QF) |((first |(with_reducible apply QK rfl) |(apply QT;simp only[go_sem]<;>exact rfl));simp(disch:=omega)only[go_sem,hf,upd_ne,hHp,hH1,hH2,hHO,elsA_len,elsA_drop,hexl,List.getElem_map,hqn,hal2,hat2,hao2];exact rfl;simp only[sB,sA,putA];exact rfl) |((first |(with_reducible apply QL rfl) |(apply QM;simp only[go_sem]<;>exact rfl));simp(disch:=omega)only[go_sem,hf,upd_ne,hHp,hH1,hH2,hHO,elsA_len,elsA_drop,hexl,List.getElem_map,hqn,hal2,hat2,hao2];exact rfl;simp only[sB,sA,putA];exact rfl;simp only[logT_none,logT_rd,logT_wr,List.cons_append,List.nil_append];exact rfl) |((first |apply QI |apply QN);simp only[go_sem]<;>exact rfl;simp only[sB,sA,putA];exact rfl) |(refine QO ?_ ?_;first |focus(simp only[dyn_nil,dyn_cons,allY_nil,allY_cons,dj_rr,true_or,true_and];done) |focus(simp only[dyn_nil,dyn_cons,allY_nil,allY_cons,Dj,List.mem_cons,List.not_mem_nil,or_false,forall_eq,forall_eq_or_imp,and_true,true_and,false_imp_iff,implies_true];omega) |focus(simp only[dyn_nil,dyn_cons,allY_nil,allY_cons,and_true,true_and];(repeat' refine And.intro ?_ ?_);all_goals first |(left;simp only[Dj,List.mem_cons,List.not_mem_nil,or_false,forall_eq,forall_eq_or_imp,and_true,true_and,false_imp_iff,implies_true];first |done |omega) |(right;kernel_rfl))) |(apply QQ;simp only[evA,gB,gA];exact rfl) |((first |apply QX |apply QY);(first |rfl |decide |assumption)))
    refine⟨(a.length-a.length)+(l.length-(q+1)),by omega,a.length,q+1,_,_,by omega,by omega,rfl,by rw[List.length_append];simp;omega,hM2,rfl,by omega,fun q hq=>by(simp(disch:=omega)only[upd_ne];exact hf q (by omega)),fun q hq=>by(simp(disch:=omega)only[upd_ne];exact hE q hq),?_⟩
    rw[hap]
    exact .inr ⟨nO,vrO+1,app_pos _ _,by rw[List.length_append];rfl,upd_same _ _ _,by omega,hOs⟩
  ·obtain rfl:q=l.length:=by omega
   rw[List.drop_length,List.drop_length,mrgR_nilr,List.append_nil]at hM
   subst hM
   have ho1:∀v:AV,v.one=true→((rowsN chs).set i v).all AV.one=true:=rowsN_put chs i
   have hso:∀v:AV,((rowsN chs).set i v).length=chs.length:=fun v=>by rw[List.length_set,rowsN_len]
   have kO:∀(H1:AHp),(∀q,s≤q→q<s1→H1 q=H q)→RowE s 1 vO H1 s1 (natsA (mrgR recs a l)) (mrgR recs a l).length:=fun H1 hh=>by
    rcases hRo with h |⟨a,b,h0,h,k1,k2,k3⟩
    ·exact .inl h
    ·exact .inr ⟨a,b,h0,h,by rw[hh a k3 k2];exact k1,k2,k3⟩
   obtain⟨hOv,hOn⟩:((vO= .sc (.slice none 0 0)∧(mrgR recs a l).length=0)∨∃a1 b,vO= .sl a1 b 0 (mrgR recs a l).length∧s≤a1∧a1<s1)∧True:=⟨by
    rcases hRo with⟨h0,_,h⟩ |⟨a1,b,_,h,_,h1,h2⟩
    ·exact .inl ⟨h,h0⟩
    ·exact .inr ⟨a1,b,h,h2,h1⟩,trivial⟩
   have hone1:=ho1 vO (by rcases hOv with⟨rfl,_⟩ |⟨a,b,rfl,_⟩<;>rfl)
   rcases hOv with⟨rfl,hz⟩ |⟨a1,b1,rfl,hO1,hO2⟩
   all_goals
    repeat(first |(with_reducible first |apply Q0 |apply Q1 |apply QG |apply Q2 |apply Q3 |apply Q4 |apply Q5 |apply Q6 |apply Q7 |apply Q8 |apply Q9 |apply QA |apply QB |apply QC |apply QD |apply QE |apply QF) |((first |(with_reducible apply QK rfl) |(apply QT;simp only[go_sem]<;>exact rfl));simp(disch:=omega)only[go_sem,hf,upd_ne,hHp,hH1,hH2,hone1,hso,hrlen,hjT,Nat.sub_zero];exact rfl;simp only[sB,sA,putA];exact rfl) |((first |(with_reducible apply QL rfl) |(apply QM;simp only[go_sem]<;>exact rfl));simp(disch:=omega)only[go_sem,hf,upd_ne,hHp,hH1,hH2,hone1,hso,hrlen,hjT,Nat.sub_zero];exact rfl;simp only[sB,sA,putA];exact rfl;simp only[logT_none,logT_rd,logT_wr,List.cons_append,List.nil_append];exact rfl) |((first |apply QI |apply QN);simp only[go_sem]<;>exact rfl;simp only[sB,sA,putA];exact rfl) |(refine QO ?_ ?_;first |focus(simp only[dyn_nil,dyn_cons,allY_nil,allY_cons,dj_rr,true_or,true_and];done) |focus(simp only[dyn_nil,dyn_cons,allY_nil,allY_cons,Dj,List.mem_cons,List.not_mem_nil,or_false,forall_eq,forall_eq_or_imp,and_true,true_and,false_imp_iff,implies_true];omega) |focus(simp only[dyn_nil,dyn_cons,allY_nil,allY_cons,and_true,true_and];(repeat' refine And.intro ?_ ?_);all_goals first |(left;simp only[Dj,List.mem_cons,List.not_mem_nil,or_false,forall_eq,forall_eq_or_imp,and_true,true_and,false_imp_iff,implies_true];first |done |omega) |(right;kernel_rfl))) |(apply QQ;simp only[evA,gB,gA];exact rfl) |((first |apply QX |apply QY);(first |rfl |decide |assumption)))
    (apply QZ;simp(disch:=omega)only[go_sem,Try.results85];exact rfl;simp only[packA];exact rfl)
    first
     |refine hR _ _ s1 (fun q a b c=>by(simp(disch:=omega)only[upd_ne];exact hE q a)) ?_ ?_ (kO _ (fun q a b=>by simp(disch:=omega)only[upd_ne]))
     |(have hz:(mrgR recs a l).length=0:=hz
       have e0:((0:Nat):Int)=(((mrgR recs a l).length:Nat):Int):=by rw[hz]
       rw[e0]
       refine hR _ _ s1 (fun q a b c=>by(simp(disch:=omega)only[upd_ne];exact hE q a)) ?_ ?_ (kO _ (fun q a b=>by simp(disch:=omega)only[upd_ne])))
    ·simp(disch:=omega)only[upd_ne,upd_same]
    ·simp(disch:=omega)only[upd_ne,upd_same]
end Go.Proofs.Ytdcomhdadnhpnaa
