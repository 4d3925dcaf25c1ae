import Derived.Test.YtdcomhdadnhpnaaYZB42
import Derived.Test.YtdcomhdadnhpnaaYZA28
import Derived.Test.YtdcomhdadnhpnaaYZP26
set_option linter.all false
namespace Go.Proofs.Ytdcomhdadnhpnaa
open Go Go.Am Go.RowKit
attribute [local irreducible] wA opsQ opsLQ thenA blockA EndA
attribute [local go_sem] sz91 ze91 by91 ag91 fo91_0 bu91 Try.underlying91 sz92 ze92 by92 ag92 Try.underlying92 Try.underlying94 sz102 ze102 by102 ag102 fo102_0 fo102_1 bu102 Try.underlying102 sz117 ze117 by117 ag117 Try.underlying117
theorem recsT_take {l:List Int} {k:Nat} (h:k<(recsT l).length):(recsT l).take (k+1)=(recsT l).take k++[(ati l (recAt k),ati l (recAt k+1))]:=by
 rw[List.take_succ_eq_append_getElem h,recsT_at h];rfl
theorem nodup_not_take {α:Type} {l:List α} (h:l.Nodup) {i k:Nat} (hi:i≤k) (hk:k<l.length):l[k]∉l.take i:=fun hm=>by
 obtain⟨j,hj,e⟩:=List.mem_iff_getElem.1 hm
 rw[List.length_take]at hj
 rw[List.getElem_take]at e
 unfold List.Nodup at h
 exact List.pairwise_iff_getElem.1 h j k (by omega) hk (by omega) e
theorem nodup_notin {l:List Int} (hV:ValidL l) {k:Nat} (h:k<(recsT l).length):(ati l (recAt k),ati l (recAt k+1))∉(recsT l).take k:=by
 have:=nodup_not_take (recsT_nodup hV) (Nat.le_refl k) h
 rwa[recsT_at h]at this
set_option maxRecDepth 100000 in
set_option maxHeartbeats 8000000 in
theorem tsame_rc (t u:List Int):RC Try.prog 50 [.dsl t.length (ints t),.dsl u.length (ints u)] (.tup [.sc (.bool (sameF t u).1),.sc (.int .i64 (sameF t u).2)]):=by
 refine rc_of hmix ctY_ok Try.func50 rfl (by kernel_rfl) (fun E s hs=>?_)
 simp(maxSteps:=300000)only[begA,Try.ntmps50,List.replicate_succ,List.replicate_zero,List.length_cons,List.length_nil,List.cons_append,List.nil_append]
 have h00:(0:Int)≤0∧(0:Int)≤2147483647:=by decide
 by_cases hT:ValidL t
 rotate_left
 ·rw[sameF_bad (.inl hT)]
  repeat(first |(with_reducible first |apply Q0 |apply Q1 |apply Q2 |apply Q3 |apply Q4 |apply Q5 |apply Q6 |apply Q7 |apply Q8 |apply Q9 |apply QA |apply QB |apply QC |apply QD |apply QE |apply QF) |((first |(with_reducible apply QK rfl) |(apply QT;simp only[go_sem]<;>exact rfl));simp(disch:=omega)only[go_sem,hs,upd_ne,cal69,ctY_69,c69,rdK_dsl,hT];exact rfl;simp only[sB,sA,putA];exact rfl) |(apply QI;simp only[go_sem]<;>exact rfl;simp only[sB,sA,putA];exact rfl) |(apply QQ;simp only[evA,gB,gA];exact rfl) |((first |apply QX |apply QY);(first |rfl |decide |assumption)))
  (apply QZ;simp(disch:=omega)only[go_sem,Try.results50];exact rfl;simp only[packA];exact rfl)
  exact .tup2 (.sc _) (.sc _)
 by_cases hU:ValidL u
 rotate_left
 ·rw[sameF_bad (.inr hU)]
  repeat(first |(with_reducible first |apply Q0 |apply Q1 |apply Q2 |apply Q3 |apply Q4 |apply Q5 |apply Q6 |apply Q7 |apply Q8 |apply Q9 |apply QA |apply QB |apply QC |apply QD |apply QE |apply QF) |((first |(with_reducible apply QK rfl) |(apply QT;simp only[go_sem]<;>exact rfl));simp(disch:=omega)only[go_sem,hs,upd_ne,cal69,ctY_69,c69,rdK_dsl,hT,hU,h00];exact rfl;simp only[sB,sA,putA];exact rfl) |(apply QI;simp only[go_sem]<;>exact rfl;simp only[sB,sA,putA];exact rfl) |(apply QQ;simp only[evA,gB,gA];exact rfl) |((first |apply QX |apply QY);(first |rfl |decide |assumption)))
  (apply QZ;simp(disch:=omega)only[go_sem,Try.results50];exact rfl;simp only[packA];exact rfl)
  exact .tup2 (.sc _) (.sc _)
 have nT:ati t 0=(((recsT t).length:Nat):Int):=by rw[show(recsT t).length=tabN t from recsF_len t _];exact(tab_h hT).n0
 have nU:ati u 0=(((recsT u).length:Nat):Int):=by rw[show(recsT u).length=tabN u from recsF_len u _];exact(tab_h hU).n0
 have n1T:(recsT t).length≤100000:=(wok_valid hT).n
 have n1U:(recsT u).length≤100000:=(wok_valid hU).n
 have rlT:∀r,r<(recsT t).length→recAt r+2<t.length:=fun r hr=>(tab_g hT).rl r (by rw[←show(recsT t).length=tabN t from recsF_len t _];exact hr)
 have rlU:∀r,r<(recsT u).length→recAt r+2<u.length:=fun r hr=>(tab_g hU).rl r (by rw[←show(recsT u).length=tabN u from recsF_len u _];exact hr)
 have tlT:∀k,k<(recsT t).length→_:=fun k hk=>recsT_take (l:=t) hk
 have niT:∀k,k<(recsT t).length→_:=fun k hk=>nodup_notin hT hk
 have atU:∀k (hk:k<(recsT u).length),(recsT u)[k]=(ati u (recAt k),ati u (recAt k+1)):=fun k hk=>recsT_at hk
 have yes:((recsT t).length=(recsT u).length∧∀e∈recsT u,e∈recsT t)→sameF t u=(true,0):=sameF_yes hT hU
 have no:¬((recsT t).length=(recsT u).length∧∀e∈recsT u,e∈recsT t)→sameF t u=(false,0):=sameF_no hT hU
 have hlT:60≤t.length:=hT.len60
 have hlU:60≤u.length:=hU.len60
 have hl3T:=hT.le
 have hl3U:=hU.le
 have hl0T:0<t.length:=by omega
 have hl0U:0<u.length:=by omega
 have hilT:=ints_len t
 have hitT:=ints_take t
 have hilU:=ints_len u
 have hitU:=ints_take u
 generalize recsT t=T at*
 generalize recsT u=U at*
 by_cases hn:T.length=U.length
 rotate_left
 ·have hnI:¬((T.length:Nat):Int)=((U.length:Nat):Int):=by omega
  rw[no (fun h=>hn h.1)]
  repeat(first |(with_reducible first |apply Q0 |apply Q1 |apply Q2 |apply Q3 |apply Q4 |apply Q5 |apply Q6 |apply Q7 |apply Q8 |apply Q9 |apply QA |apply QB |apply QC |apply QD |apply QE |apply QF) |((first |(with_reducible apply QK rfl) |(apply QT;simp only[go_sem]<;>exact rfl));simp(disch:=omega)only[go_sem,hs,upd_ne,cal69,ctY_69,c69,rdK_dsl,hT,hU,h00,cal88,ctY_88,c88,rdW,wK,iK_ok,nT,nU,hilT,hitT,hilU,hitU,hl0T,hl0U,hnI];exact rfl;simp only[sB,sA,putA];exact rfl) |(apply QI;simp only[go_sem]<;>exact rfl;simp only[sB,sA,putA];exact rfl) |(apply QQ;simp only[evA,gB,gA];exact rfl) |((first |apply QX |apply QY);(first |rfl |decide |assumption)))
  (apply QZ;simp(disch:=omega)only[go_sem,Try.results50];exact rfl;simp only[packA];exact rfl)
  exact .tup2 (.sc _) (.sc _)
 rw[←hn]at nU
 repeat(first |(with_reducible first |apply Q0 |apply Q1 |apply Q2 |apply Q3 |apply Q4 |apply Q5 |apply Q6 |apply Q7 |apply Q8 |apply Q9 |apply QA |apply QB |apply QC |apply QD |apply QE |apply QF) |((first |(with_reducible apply QK rfl) |(apply QT;simp only[go_sem]<;>exact rfl));simp(disch:=omega)only[go_sem,hs,upd_ne,cal69,ctY_69,c69,rdK_dsl,hT,hU,h00,cal88,ctY_88,c88,rdW,wK,iK_ok,nT,nU,hilT,hitT,hilU,hitU,hl0T,hl0U,aMakeMap];exact rfl;simp only[sB,sA,putA];exact rfl) |(apply QI;simp only[go_sem]<;>exact rfl;simp only[sB,sA,putA];exact rfl) |(apply QQ;simp only[evA,gB,gA];exact rfl) |((first |apply QX |apply QY);(first |rfl |decide |assumption)))
 refine AWp.loop [6,8,9,35,36] (fun Γ H s' m=>∃k:Nat,k≤T.length∧m=T.length-k∧Γ=(List.replicate 6 .junk)++[.ptr (s+1) 0 0]++(List.replicate 1 .junk)++[.ptr (s+1+1+1) 0 0,.mp (s+1+1+1+1) 0]++(List.replicate 25 .junk)++[.sc (.int .i64 (T.length:Nat)),.sc (.int .i64 (k:Nat))]++(List.replicate 21 .junk)∧
  H s=some (.row 0 1 (ints t))∧H (s+1)=some (.row 0 1 [.sl s 0 0 t.length])∧H (s+1+1)=some (.row 0 1 (ints u))∧H (s+1+1+1)=some (.row 0 1 [.sl (s+1+1) 0 0 u.length])∧
  H (s+1+1+1+1)=some (.mapo 0 (entE (T.take k)) k)∧s+4<s'∧∀q,s'≤q→H q=none) T.length ?_ ?_
 ·refine⟨0,Nat.zero_le _,rfl,rfl,?_,?_,?_,?_,?_,by omega,fun q hq=>?_⟩
  ·simp(disch:=omega)only[upd_ne,upd_same]
  ·simp(disch:=omega)only[upd_ne,upd_same]
  ·simp(disch:=omega)only[upd_ne,upd_same]
  ·simp(disch:=omega)only[upd_ne,upd_same]
  ·simp(disch:=omega)only[upd_ne,upd_same];rfl
  ·simp(disch:=omega)only[upd_ne];exact hs q
 rintro Γ H s1 m ⟨k,hk,rfl,rfl,hH0,hH1,hH2,hH3,hHm,hs1,hf⟩
 refine wA_ok hmix ctY_ok _ (by kernel_rfl) ?_
 simp(maxSteps:=1000000)only[List.replicate_succ,List.replicate_zero,List.cons_append,List.nil_append,List.append_nil]
 by_cases hlt:k<T.length
 ·obtain⟨M,hM⟩:∃M,M=entE (T.take k):=⟨_,rfl⟩
  have hkl:(T.take k).length=k:=by rw[List.length_take];omega
  have hup:upE (s+1+1+1+1) (ati t (recAt k),ati t (recAt k+1)) (.sc (.bool true)) (.mapo 0 M k)= .set (s+1+1+1+1) (.mapo 0 (entE (T.take (k+1))) (k+1)) (.ret (.sc undef)):=by
   have h:=upE_new (n:=s+1+1+1+1) (niT k hlt)
   rw[←tlT k hlt,hkl]at h
   rw[hM,h,List.length_take,Nat.min_eq_left (by omega)]
  rw[←hM]at hHm
  have hrl:=rlT k hlt
  have hkI:(0:Int)≤((k:Nat):Int)∧((k:Nat):Int)≤1000000:=by omega
  have hslt:((recAt k:Nat):Int)+1<((t.length:Nat):Int):=by omega
  have hsl2:(0:Int)≤((recAt k:Nat):Int)∧((recAt k:Nat):Int)+1<((t.length:Nat):Int)∧((recAt k:Nat):Int)<1000000000:=by omega
  repeat(first |(with_reducible first |apply Q0 |apply Q1 |apply Q2 |apply Q3 |apply Q4 |apply Q5 |apply Q6 |apply Q7 |apply Q8 |apply Q9 |apply QA |apply QB |apply QC |apply QD |apply QE |apply QF) |((first |(with_reducible apply QK rfl) |(apply QT;simp only[go_sem]<;>exact rfl));simp(disch:=omega)only[go_sem,hf,upd_ne,hH0,hH1,hHm,hilT,hitT,tn1,cal73,ctY_73,c73,cal77,ctY_77,c77,rdW,wK,iK_ok,hkI,hsl2,up117,hup];exact rfl;simp only[sB,sA,putA];exact rfl) |(apply QI;simp only[go_sem]<;>exact rfl;simp only[sB,sA,putA];exact rfl) |(apply QQ;simp only[evA,gB,gA];exact rfl) |((first |apply QX |apply QY);(first |rfl |decide |assumption)))
  exact⟨T.length-(k+1),by omega,k+1,by omega,rfl,rfl,by(simp(disch:=omega)only[upd_ne];exact hH0),by(simp(disch:=omega)only[upd_ne];exact hH1),by(simp(disch:=omega)only[upd_ne];exact hH2),by(simp(disch:=omega)only[upd_ne];exact hH3),upd_same _ _ _,hs1,fun q hq=>by(simp(disch:=omega)only[upd_ne];exact hf q hq)⟩
 ·obtain rfl:k=T.length:=by omega
  rw[List.take_length]at hHm
  repeat(first |(with_reducible first |apply Q0 |apply Q1 |apply Q2 |apply Q3 |apply Q4 |apply Q5 |apply Q6 |apply Q7 |apply Q8 |apply Q9 |apply QA |apply QB |apply QC |apply QD |apply QE |apply QF) |((first |(with_reducible apply QK rfl) |(apply QT;simp only[go_sem]<;>exact rfl));simp(disch:=omega)only[go_sem,hf,upd_ne,hH2,hH3,hilU,hitU,cal88,ctY_88,c88,rdW,wK,iK_ok,nU,hl0U];exact rfl;simp only[sB,sA,putA];exact rfl) |(apply QI;simp only[go_sem]<;>exact rfl;simp only[sB,sA,putA];exact rfl) |(apply QQ;simp only[evA,gB,gA];exact rfl) |((first |apply QX |apply QY);(first |rfl |decide |assumption)))
  refine AWp.loop [8,9,46,47] (fun Γ H1 s' m=>∃k:Nat,k≤U.length∧m=U.length-k∧Γ=(List.replicate 8 .junk)++[.ptr (s+1+1+1) 0 0,.mp (s+1+1+1+1) 0]++(List.replicate 36 .junk)++[.sc (.int .i64 (T.length:Nat)),.sc (.int .i64 (k:Nat))]++(List.replicate 10 .junk)∧
   H1=H∧s'=s1∧∀j (hj:j<U.length),j<k→U[j]∈T) U.length ?_ ?_
  ·exact⟨0,Nat.zero_le _,rfl,rfl,rfl,rfl,fun j _ hj=>absurd hj (by omega)⟩
  rintro Γ H1 s2 m ⟨k,hk,rfl,rfl,rfl,rfl,hin⟩
  refine wA_ok hmix ctY_ok _ (by kernel_rfl) ?_
  simp(maxSteps:=1000000)only[List.replicate_succ,List.replicate_zero,List.cons_append,List.nil_append,List.append_nil]
  by_cases hlt:k<U.length
  ·have hrl:=rlU k hlt
   have hltI:((k:Nat):Int)<((T.length:Nat):Int):=by omega
   have hkI:(0:Int)≤((k:Nat):Int)∧((k:Nat):Int)≤1000000:=by omega
   have hsl2:(0:Int)≤((recAt k:Nat):Int)∧((recAt k:Nat):Int)+1<((u.length:Nat):Int)∧((recAt k:Nat):Int)<1000000000:=by omega
   have hlk:=lkE_ent (ati u (recAt k),ati u (recAt k+1)) T T.length
   by_cases hmem:(ati u (recAt k),ati u (recAt k+1))∈T
   ·rw[decide_eq_true hmem]at hlk
    repeat(first |(with_reducible first |apply Q0 |apply Q1 |apply Q2 |apply Q3 |apply Q4 |apply Q5 |apply Q6 |apply Q7 |apply Q8 |apply Q9 |apply QA |apply QB |apply QC |apply QD |apply QE |apply QF) |((first |(with_reducible apply QK rfl) |(apply QT;simp only[go_sem]<;>exact rfl));simp(disch:=omega)only[go_sem,hf,upd_ne,hH2,hH3,hHm,hilU,hitU,tn1,cal73,ctY_73,c73,cal77,ctY_77,c77,rdW,wK,iK_ok,hltI,hkI,hsl2,lk117,hlk];exact rfl;simp only[sB,sA,putA];exact rfl) |(apply QI;simp only[go_sem]<;>exact rfl;simp only[sB,sA,putA];exact rfl) |(apply QQ;simp only[evA,gB,gA];exact rfl) |((first |apply QX |apply QY);(first |rfl |decide |assumption)))
    refine⟨U.length-(k+1),by omega,k+1,by omega,rfl,rfl,rfl,rfl,fun j hj hjk=>?_⟩
    by_cases e:j=k
    ·subst e;rw[atU j hj];exact hmem
    ·exact hin j hj (by omega)
   ·rw[decide_eq_false hmem]at hlk
    rw[no (fun h=>hmem (by rw[←atU k hlt];exact h.2 _ (List.getElem_mem hlt)))]
    repeat(first |(with_reducible first |apply Q0 |apply Q1 |apply Q2 |apply Q3 |apply Q4 |apply Q5 |apply Q6 |apply Q7 |apply Q8 |apply Q9 |apply QA |apply QB |apply QC |apply QD |apply QE |apply QF) |((first |(with_reducible apply QK rfl) |(apply QT;simp only[go_sem]<;>exact rfl));simp(disch:=omega)only[go_sem,hf,upd_ne,hH2,hH3,hHm,hilU,hitU,tn1,cal73,ctY_73,c73,cal77,ctY_77,c77,rdW,wK,iK_ok,hltI,hkI,hsl2,lk117,hlk];exact rfl;simp only[sB,sA,putA];exact rfl) |(apply QI;simp only[go_sem]<;>exact rfl;simp only[sB,sA,putA];exact rfl) |(apply QQ;simp only[evA,gB,gA];exact rfl) |((first |apply QX |apply QY);(first |rfl |decide |assumption)))
    (apply QZ;simp(disch:=omega)only[go_sem,Try.results50];exact rfl;simp only[packA];exact rfl)
    exact .tup2 (.sc _) (.sc _)
  ·obtain rfl:k=U.length:=by omega
   rw[yes ⟨hn,fun e he=>by
    obtain⟨j,hj,rfl⟩:=List.mem_iff_getElem.1 he
    exact hin j hj hj⟩]
   have hnlt:¬((U.length:Nat):Int)<((T.length:Nat):Int):=by omega
   repeat(first |(with_reducible first |apply Q0 |apply Q1 |apply Q2 |apply Q3 |apply Q4 |apply Q5 |apply Q6 |apply Q7 |apply Q8 |apply Q9 |apply QA |apply QB |apply QC |apply QD |apply QE |apply QF) |((first |(with_reducible apply QK rfl) |(apply QT;simp only[go_sem]<;>exact rfl));simp(disch:=omega)only[go_sem,hf,upd_ne,hnlt];exact rfl;simp only[sB,sA,putA];exact rfl) |(apply QI;simp only[go_sem]<;>exact rfl;simp only[sB,sA,putA];exact rfl) |(apply QQ;simp only[evA,gB,gA];exact rfl) |((first |apply QX |apply QY);(first |rfl |decide |assumption)))
   (apply QZ;simp(disch:=omega)only[go_sem,Try.results50];exact rfl;simp only[packA];exact rfl)
   exact .tup2 (.sc _) (.sc _)
noncomputable def c50:List AV→AP AV
 | [a,b]=>rdK a fun t=>rdK b fun u=>.ret (.tup [.sc (.bool (sameF t u).1),.sc (.int .i64 (sameF t u).2)])
 |_=>.fail
theorem a50 (args:List AV):ACall Try.prog 50 args (c50 args):=by
 intro ρ H w vs hR hA s r H' s' hm
 unfold c50 at hm
 split at hm
 ·obtain⟨v0,v1,rfl,hv0,hv1⟩:=reps2 hA
  obtain⟨t,hr,hm⟩:=rdK_data hR hv0 hm
  obtain⟨u,hr2,hm⟩:=rdK_data hR hv1 hm
  simp only[AP.run,Option.some.injEq,Prod.mk.injEq]at hm
  obtain⟨rfl,rfl,rfl⟩:=hm
  exact(tsame_rc t u).acall hR (.cons hr (.cons hr2 .nil))
 ·simp[AP.run]at hm
end Go.Proofs.Ytdcomhdadnhpnaa
