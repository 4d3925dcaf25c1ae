import Derived.Test.YtdcomhdadnhpnaaYZAB
import Derived.Test.YtdcomhdadnhpnaaYZP32
set_option linter.all false
namespace Go.Proofs.Ytdcomhdadnhpnaa
open Go Go.Am Go.RowKit
attribute [local irreducible] wA opsQ opsLQ thenA blockA EndA
theorem insW_no {W:List Int} {n:Int} {k:Nat} (hk:atW W n=k) (h:W[k]? ≠some n):insW W n=W.take k++n::W.drop k:=by
 unfold insW;rw[hk,if_neg h]
set_option maxRecDepth 100000 in
set_option maxHeartbeats 8000000 in
theorem ins_walk (W:List Int) (n:Int) (h0:0<W.length) (hl:W.length≤1000000000) (E:Ent) (s nm ver:Nat) (hs:∀q,s≤q→E.H q=none) (hn:E.H nm=some (.row ver 1 (ints W))) (R:AV→AHp→Prop)
  (hR1:∀H1 q v,W[atW W n]? ≠some n→(∀q,q<s→H1 q=E.H q)→H1 q=some (.row v 1 (ints (insW W n)))→s≤q→R (.sl q v 0 (insW W n).length) H1)
  (hR2:∀H1,W[atW W n]? =some n→(∀q,q<s→H1 q=E.H q)→R (.sl nm ver 0 W.length) H1):
  wA Try.prog E noCT Try.f55.body.get! (begA Try.f55 [.sl nm ver 0 W.length,.sc (.int .i64 n)]) E.H s (EndA Try.prog Try.f55 R):=by
 simp(maxSteps:=300000)only[begA,Try.ntmps55,List.replicate_succ,List.replicate_zero,List.length_cons,List.length_nil,List.cons_append,List.nil_append]
 simp only[Try.f55,Option.get!_some]
 have hnl:nm<s:=Nat.lt_of_not_le fun h=>by rw[hs nm h]at hn;cases hn
 have hil:=ints_len W
 have hit:=ints_take W
 repeat(first |(with_reducible first |apply Q0 |apply Q1 |apply Q2 |apply Q3 |apply Q4 |apply Q5 |apply Q6 |apply Q7 |apply Q8 |apply Q9 |apply QA |apply QB |apply QC |apply QD |apply QE |apply QF) |((first |(with_reducible apply QK rfl) |(apply QT;simp only[go_sem]<;>exact rfl));simp(disch:=omega)only[go_sem,hs,upd_ne];exact rfl;simp only[sB,sA,putA];exact rfl) |(apply QI;simp only[go_sem]<;>exact rfl;simp only[sB,sA,putA];exact rfl) |(apply QQ;simp only[evA,gB,gA];exact rfl) |((first |apply QX |apply QY);(first |rfl |decide |assumption)))
 refine AWp.loop [0,1,5] (fun Γ H s' m=>∃k:Nat,k≤W.length∧m=W.length-k∧Γ=[.sl nm ver 0 W.length,.sc (.int .i64 n)]++(List.replicate 3 .junk)++[.sc (.int .i64 (k:Nat))]++(List.replicate 43 .junk)∧(∀x∈W.take k,x<n)∧H=E.H∧s'=s) W.length ?_ ?_
 ·exact⟨0,Nat.zero_le _,rfl,rfl,by simp,rfl,rfl⟩
 rintro Γ H s1 m ⟨k,hk,rfl,rfl,hlt,rfl,rfl⟩
 refine wA_ok hmix noCT_ok _ (by kernel_rfl) ?_
 simp(maxSteps:=1000000)only[List.replicate_succ,List.replicate_zero,List.cons_append,List.nil_append,List.append_nil]
 have hkT:((k:Nat):Int).toNat=k:=Int.toNat_natCast _
 by_cases hkl:k<W.length
 ·have hklI:((k:Nat):Int)<((W.length:Nat):Int):=by omega
  have hat:=ints_at_ hkl
  rw[←ati_some hkl]at hat
  by_cases hx:W[k]<n
  ·repeat(first |(with_reducible first |apply Q0 |apply Q1 |apply Q2 |apply Q3 |apply Q4 |apply Q5 |apply Q6 |apply Q7 |apply Q8 |apply Q9 |apply QA |apply QB |apply QC |apply QD |apply QE |apply QF) |((first |(with_reducible apply QK rfl) |(apply QT;simp only[go_sem]<;>exact rfl));simp(disch:=omega)only[go_sem,hs,upd_ne,hn,hil,hit,hkT,hklI,hat,hx];exact rfl;simp only[sB,sA,putA];exact rfl) |(apply QI;simp only[go_sem]<;>exact rfl;simp only[sB,sA,putA];exact rfl) |(apply QQ;simp only[evA,gB,gA];exact rfl) |((first |apply QX |apply QY);(first |rfl |decide |assumption)))
   refine⟨W.length-(k+1),by omega,k+1,by omega,rfl,rfl,fun x hx2=>?_,rfl,rfl⟩
   rw[List.take_succ_eq_append_getElem hkl]at hx2
   rcases List.mem_append.1 hx2 with h |h
   ·exact hlt x h
   ·simp at h;rw[h];exact hx
  ·have hka:k=atW W n:=atW_uni hk hlt (fun _=>hx)
   rw[←hka]at hR1 hR2
   by_cases he:W[k]=n
   ·repeat(first |(with_reducible first |apply Q0 |apply Q1 |apply Q2 |apply Q3 |apply Q4 |apply Q5 |apply Q6 |apply Q7 |apply Q8 |apply Q9 |apply QA |apply QB |apply QC |apply QD |apply QE |apply QF) |((first |(with_reducible apply QK rfl) |(apply QT;simp only[go_sem]<;>exact rfl));simp(disch:=omega)only[go_sem,hs,upd_ne,hn,hil,hit,hkT,hklI,hat,hx,he];exact rfl;simp only[sB,sA,putA];exact rfl) |(apply QI;simp only[go_sem]<;>exact rfl;simp only[sB,sA,putA];exact rfl) |(apply QQ;simp only[evA,gB,gA];exact rfl) |((first |apply QX |apply QY);(first |rfl |decide |assumption)))
    (apply QZ;simp(disch:=omega)only[go_sem,Try.results55];exact rfl;simp only[packA];exact rfl)
    exact hR2 _ (by rw[List.getElem?_eq_getElem hkl,he]) (fun q hq=>rfl)
   ·have hno:W[k]? ≠some n:=by rw[List.getElem?_eq_getElem hkl];exact fun e=>he (Option.some.inj e)
    have hins:=insW_no hka.symm hno
    have hdl:(ints W).drop k=ints (W.drop k):=by simp[ints,List.map_drop]
    have htl:(ints W).take k=ints (W.take k):=by simp[ints,List.map_take]
    have hdll:(ints (W.drop k)).length=W.length-k:=by simp
    have htll:(ints (W.take k)).length=k:=by simp;omega
    have hdt:(ints (W.drop k)).take (W.length-k)=ints (W.drop k):=List.take_of_length_le (by omega)
    have htt:(ints (W.take k)).take k=ints (W.take k):=List.take_of_length_le (by omega)
    have hdo:=ints_all (W.drop k)
    have hto:=ints_all (W.take k)
    have hkW:¬W.length≤k:=by omega
    have hap2:(ints (W.take k)++[AV.sc (.int .i64 n)]).take (k+1)=ints (W.take k)++[AV.sc (.int .i64 n)]:=List.take_of_length_le (by rw[List.length_append,htll];simp)
    have hapl:(ints (W.take k)++[AV.sc (.int .i64 n)]).length=k+1:=by rw[List.length_append,htll];simp
    have hfin:ints (W.take k)++[AV.sc (.int .i64 n)]++ints (W.drop k)=ints (insW W n):=by rw[hins];simp
    have hfil:(insW W n).length=W.length+1:=by rw[hins,List.length_append,List.length_cons,List.length_take,List.length_drop];omega
    have hkLe:((k:Nat):Int)≤((W.length:Nat):Int):=by omega
    by_cases hk0:k=0
    ·repeat(first |(with_reducible first |apply Q0 |apply Q1 |apply Q2 |apply Q3 |apply Q4 |apply Q5 |apply Q6 |apply Q7 |apply Q8 |apply Q9 |apply QA |apply QB |apply QC |apply QD |apply QE |apply QF) |((first |(with_reducible apply QK rfl) |(apply QT;simp only[go_sem]<;>exact rfl));simp(disch:=omega)only[go_sem,hs,upd_ne,hn,hil,hit,hkT,hklI,hat,hx,he,Nat.sub_zero,hdl,htl,hdll,htll,hdt,htt,hdo,hto];exact rfl;simp only[sB,sA,putA];exact rfl) |(apply QI;simp only[go_sem]<;>exact rfl;simp only[sB,sA,putA];exact rfl) |(apply QQ;simp only[evA,gB,gA];exact rfl) |((first |apply QX |apply QY);(first |rfl |decide |assumption)))
     (apply QZ;simp(disch:=omega)only[go_sem,Try.results55];exact rfl;simp only[packA];exact rfl)
     have hf0:AV.sc (.int .i64 n)::ints (W.drop k)=ints (insW W n):=by rw[hins];simp[hk0]
     have e1:1+(W.length-k)=(insW W n).length:=by omega
     rw[e1]
     exact hR1 _ _ _ hno (fun q hq=>by simp(disch:=omega)only[upd_ne]) (by rw[upd_same,hf0]) (by omega)
    ·repeat(first |(with_reducible first |apply Q0 |apply Q1 |apply Q2 |apply Q3 |apply Q4 |apply Q5 |apply Q6 |apply Q7 |apply Q8 |apply Q9 |apply QA |apply QB |apply QC |apply QD |apply QE |apply QF) |((first |(with_reducible apply QK rfl) |(apply QT;simp only[go_sem]<;>exact rfl));simp(disch:=omega)only[go_sem,hs,upd_ne,hn,hil,hit,hkT,hklI,hat,hx,he,Nat.sub_zero,hdl,htl,hdll,htll,hdt,htt,hdo,hto,hapl,hap2,hk0];exact rfl;simp only[sB,sA,putA];exact rfl) |(apply QI;simp only[go_sem]<;>exact rfl;simp only[sB,sA,putA];exact rfl) |(apply QQ;simp only[evA,gB,gA];exact rfl) |((first |apply QX |apply QY);(first |rfl |decide |assumption)))
     (apply QZ;simp(disch:=omega)only[go_sem,Try.results55];exact rfl;simp only[packA];exact rfl)
     have e1:k+1+(W.length-k)=(insW W n).length:=by omega
     rw[e1]
     exact hR1 _ _ _ hno (fun q hq=>by simp(disch:=omega)only[upd_ne]) (by rw[upd_same,hfin]) (by omega)
 ·obtain rfl:k=W.length:=by omega
  have hka:W.length=atW W n:=atW_uni hk hlt (fun h=>absurd h (by omega))
  rw[←hka]at hR1 hR2
  have hklI:¬((W.length:Nat):Int)<((W.length:Nat):Int):=by omega
  have hno:W[W.length]? ≠some n:=by rw[List.getElem?_eq_none (Nat.le_refl _)];simp
  have hins:=insW_no hka.symm hno
  have hap2:(ints W++[AV.sc (.int .i64 n)]).take (W.length+1)=ints W++[AV.sc (.int .i64 n)]:=List.take_of_length_le (by rw[List.length_append,hil];simp)
  have hapl:(ints W++[AV.sc (.int .i64 n)]).length=W.length+1:=by rw[List.length_append,hil];simp
  have hfin:ints W++[AV.sc (.int .i64 n)]=ints (insW W n):=by rw[hins];simp
  have hfil:(insW W n).length=W.length+1:=by rw[hins,List.length_append,List.length_cons,List.length_take,List.length_drop];omega
  have hto:=ints_all W
  repeat(first |(with_reducible first |apply Q0 |apply Q1 |apply Q2 |apply Q3 |apply Q4 |apply Q5 |apply Q6 |apply Q7 |apply Q8 |apply Q9 |apply QA |apply QB |apply QC |apply QD |apply QE |apply QF) |((first |(with_reducible apply QK rfl) |(apply QT;simp only[go_sem]<;>exact rfl));simp(disch:=omega)only[go_sem,hs,upd_ne,hn,hil,hit,hklI,Nat.sub_zero,Nat.sub_self,List.append_nil,hap2,hapl,hto];exact rfl;simp only[sB,sA,putA];exact rfl) |(apply QI;simp only[go_sem]<;>exact rfl;simp only[sB,sA,putA];exact rfl) |(apply QQ;simp only[evA,gB,gA];exact rfl) |((first |apply QX |apply QY);(first |rfl |decide |assumption)))
  (apply QZ;simp(disch:=omega)only[go_sem,Try.results55];exact rfl;simp only[packA];exact rfl)
  rw[←hfil]
  exact hR1 _ _ _ hno (fun q hq=>by simp(disch:=omega)only[upd_ne]) (by rw[upd_same,hfin]) (by omega)
set_option maxRecDepth 100000 in
set_option maxHeartbeats 4000000 in
theorem ins_nil (n:Int):RO Try.prog 55 [.dsl 0 [],.sc (.int .i64 n)] (OwnX (some [n])):=by
 refine ro_of Try.func55 rfl (fun E s hs=>?_)
 refine wA_ok hmix noCT_ok _ (by kernel_rfl) ?_
 simp(maxSteps:=300000)only[begA,Try.ntmps55,List.replicate_succ,List.replicate_zero,List.length_cons,List.length_nil,List.cons_append,List.nil_append]
 repeat(first |(with_reducible first |apply Q0 |apply Q1 |apply Q2 |apply Q3 |apply Q4 |apply Q5 |apply Q6 |apply Q7 |apply Q8 |apply Q9 |apply QA |apply QB |apply QC |apply QD |apply QE |apply QF) |((first |(with_reducible apply QK rfl) |(apply QT;simp only[go_sem]<;>exact rfl));simp(disch:=omega)only[go_sem,hs,upd_ne];exact rfl;simp only[sB,sA,putA];exact rfl) |(apply QI;simp only[go_sem]<;>exact rfl;simp only[sB,sA,putA];exact rfl) |(apply QQ;simp only[evA,gB,gA];exact rfl) |((first |apply QX |apply QY);(first |rfl |decide |assumption)))
 refine AWp.loop [0,1,5] (fun Γ H s' m=>m=0∧Γ=[.dsl 0 [],.sc (.int .i64 n)]++(List.replicate 3 .junk)++[.sc (.int .i64 0)]++(List.replicate 43 .junk)∧H=E.H∧s'=s) 0 ?_ ?_
 ·exact⟨rfl,rfl,rfl,rfl⟩
 rintro Γ H s1 m ⟨rfl,rfl,rfl,rfl⟩
 refine wA_ok hmix noCT_ok _ (by kernel_rfl) ?_
 simp(maxSteps:=1000000)only[List.replicate_succ,List.replicate_zero,List.cons_append,List.nil_append,List.append_nil]
 have h00:¬(0:Int)<0:=by decide
 repeat(first |(with_reducible first |apply Q0 |apply Q1 |apply Q2 |apply Q3 |apply Q4 |apply Q5 |apply Q6 |apply Q7 |apply Q8 |apply Q9 |apply QA |apply QB |apply QC |apply QD |apply QE |apply QF) |((first |(with_reducible apply QK rfl) |(apply QT;simp only[go_sem]<;>exact rfl));simp(disch:=omega)only[go_sem,hs,upd_ne,h00,Nat.sub_zero,Nat.sub_self,List.append_nil];exact rfl;simp only[sB,sA,putA];exact rfl) |(apply QI;simp only[go_sem]<;>exact rfl;simp only[sB,sA,putA];exact rfl) |(apply QQ;simp only[evA,gB,gA];exact rfl) |((first |apply QX |apply QY);(first |rfl |decide |assumption)))
 (apply QZ;simp(disch:=omega)only[go_sem,Try.results55];exact rfl;simp only[packA];exact rfl)
 exact⟨_,_,rfl,upd_same _ _ _⟩
noncomputable def insA (nm ver:Nat) (W:List Int) (n:Int):AP AV:=if W[atW W n]? =some n then .ret (.sl nm ver 0 W.length)else .new (.row 0 1 (ints (insW W n))) fun q=>.ret (.sl q 0 0 (insW W n).length)
noncomputable def c55:List AV→AP AV
 | [.sc (.slice none 0 0),.sc (.int .i64 n)]=>.new (.row 0 1 (ints [n])) fun q=>.ret (.sl q 0 0 1)
 | [.sl nm ver 0 len,.sc (.int .i64 n)]=>.get nm (iK ver fun W=>if W.length≤1000000000∧0<W.length∧len=W.length then insA nm ver W n else .fail)
 |_=>.fail
theorem a55 (args:List AV):ACall Try.prog 55 args (c55 args):=by
 intro ρ H w vs hR hA s r H' s' hm
 unfold c55 at hm
 split at hm
 ·rename_i n
  obtain⟨v0,v1,rfl,hv0,hv1⟩:=reps2 hA
  obtain rfl:=Rep.sc_iff.1 hv0
  obtain rfl:=Rep.sc_iff.1 hv1
  exact(ins_nil n).own1 hR (.cons (.dnil (Nat.le_refl _)) (.cons (.sc _) .nil)) hm
 ·rename_i nm ver len n
  refine acall_genW (args:=[.sl nm ver 0 len,.sc (.int .i64 n)]) Try.func55 rfl (fun E s0 s r H' s' hr hs=>?_) ρ H w _ hR hA s r H' s' hm
  obtain⟨o,h1,q1⟩:=get_some hr
  obtain⟨W,rfl,q2⟩:=iK_some q1
  clear hr q1
  have hr:=q2
  clear q2
  split at hr
  ·rename_i hc
   obtain⟨hl,h0,rfl⟩:=hc
   have hs0:∀q,s≤q→E.H q=none:=fun q hq=>(hs q hq).1
   unfold insA at hr
   split at hr
   ·rename_i he
    simp only[AP.run,Option.some.injEq,Prod.mk.injEq]at hr
    obtain⟨rfl,rfl,rfl⟩:=hr
    exact wA_ok hmix noCT_ok _ (by kernel_rfl) (ins_walk W n h0 hl E s nm ver hs0 h1 _ (fun H1 q v k0 _ _ _=>absurd he k0) (fun H1 _ k1=>end_keep hs0 k1 (by rw[h1];simp)))
   ·rename_i he
    simp only[AP.run]at hr
    split at hr
    ·rename_i hf
     simp only[Option.some.injEq,Prod.mk.injEq]at hr
     obtain⟨rfl,rfl,rfl⟩:=hr
     exact wA_ok hmix noCT_ok _ (by kernel_rfl) (ins_walk W n h0 hl E s nm ver hs0 h1 _ (fun H1 q v _ k1 k2 k3=>end_new hs hf k1 k2 k3) (fun H1 k0 _=>absurd k0 he))
    ·cases hr
  ·simp[AP.run]at hr
 ·simp[AP.run]at hm
end Go.Proofs.Ytdcomhdadnhpnaa
