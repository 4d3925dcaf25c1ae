import Derived.Test.YtdcomhdadnhpnaaYZA7
set_option linter.all false
namespace Go.Proofs.Ytdcomhdadnhpnaa
open Go Go.Am Go.RowKit
attribute [local irreducible] wA opsQ opsLQ thenA blockA EndA
theorem OwnE.pubN {E:Ent} {v:AV} {H:AHp} {s s' len:Nat} {c:List Nat} (h:OwnE E s 1 v H s' (natsA c) len):Exp H v (.dsl len (natsA c)):=by
 obtain⟨_,_,_,⟨h0,h1,rfl⟩ |⟨nm,ver,_,rfl,hH,_,_⟩⟩:=h
 ·rw[h1,h0];exact .nil
 ·exact Exp.ints hH
theorem natsA_app (a:List Nat) (x:Nat):natsA (a++[x])=natsA a++[.sc (.int .i64 (x:Nat))]:=by simp
theorem natsA_len (a:List Nat):(natsA a).length=a.length:=by simp
theorem natsA_take (a:List Nat):(natsA a).take a.length=natsA a:=List.take_of_length_le (by simp)
theorem app_pos {α:Type} (a:List α) (x:α):0<(a++[x]).length:=by simp
def insN (c:List Nat) (at_ n:Nat):List Nat:=c.take at_++n::c.drop at_
set_option maxRecDepth 100000 in
set_option maxHeartbeats 2000000 in
theorem insert_call (c:List Nat) (p n:Nat) (hp:p≤c.length) (hc:c.length≤100000) (hn:n≤100000):
  RC Try.prog 81 [.dsl c.length (natsA c),.sc (.int .i64 (p:Nat)),.sc (.int .i64 (n:Nat))] (.dsl (insN c p n).length (natsA (insN c p n))):=by
 refine rc_of hmix ctQ_ok Try.func81 rfl (by kernel_rfl) (fun E s hs=>?_)
 simp(maxSteps:=300000)only[begA,Try.ntmps81,List.replicate_succ,List.replicate_zero,List.length_cons,List.length_nil,List.cons_append,List.nil_append]
 repeat(first |(with_reducible first |apply Q0 |apply Q1 |apply Q2 |apply Q3 |apply Q4 |apply Q5 |apply Q6 |apply Q7 |apply Q8 |apply Q9 |apply QA |apply QB |apply QC |apply QD |apply QE |apply QF) |((with_reducible apply QK rfl);simp(disch:=omega)only[go_sem];exact rfl;simp only[sB,sA,putA];exact rfl) |(apply QQ;simp only[evA,gB,gA];exact rfl) |((first |apply QX |apply QY);(first |rfl |decide |assumption)))
 refine AWp.loop [0,1,2,7,8] (fun Γ H s' m=>∃(k:Nat) (v:AV),k≤p∧m=p-k∧Γ=[.dsl c.length (natsA c),.sc (.int .i64 (p:Nat)),.sc (.int .i64 (n:Nat))]++(List.replicate 4 .junk)++[v,.sc (.int .i64 (k:Nat))]++(List.replicate 32 .junk)∧OwnE E s 1 v H s' (natsA (c.take k)) (c.take k).length) p ?_ ?_
 ·exact⟨0,_,Nat.zero_le _,rfl,rfl,OwnE.start (fun q _=>hs q)⟩
 rintro Γ H s1 m ⟨k,v,hk,rfl,rfl,hO⟩
 refine wA_ok hmix ctQ_ok _ (by kernel_rfl) ?_
 simp(maxSteps:=1000000)only[List.replicate_succ,List.replicate_zero,List.cons_append,List.nil_append,List.append_nil]
 by_cases hlt:k<p
 ·have hkc:k<c.length:=by omega
  have htk:c.take (k+1)=c.take k++[c[k]]:=List.take_succ_eq_append_getElem hkc
  have hkl:(c.take k).length=k:=by rw[List.length_take];omega
  have hap:natsA (c.take k++[c[k]])=natsA (c.take k)++[.sc (.int .i64 (c[k]:Nat))]:=natsA_app _ _
  have hal:(natsA (c.take k)).length=(c.take k).length:=natsA_len _
  have hat:(natsA (c.take k)).take (c.take k).length=natsA (c.take k):=natsA_take _
  have hao:(natsA (c.take k)).all AV.one=true:=ints_all _
  have hacl:(c.take k).length≤200000:=by omega
  obtain⟨hss,hfr,hE,⟨h0,hcs,rfl⟩ |⟨nm,ver,h0,rfl,hH,hlt2,hEn⟩⟩:=hO
  ·repeat(first |(with_reducible first |apply Q0 |apply Q1 |apply Q2 |apply Q3 |apply Q4 |apply Q5 |apply Q6 |apply Q7 |apply Q8 |apply Q9 |apply QA |apply QB |apply QC |apply QD |apply QE |apply QF) |((with_reducible apply QK rfl);simp(disch:=omega)only[go_sem,hfr,upd_ne,List.getElem_map];exact rfl;simp only[sB,sA,putA];exact rfl) |(apply QQ;simp only[evA,gB,gA];exact rfl) |((first |apply QX |apply QY);(first |rfl |decide |assumption)))
   refine⟨p-(k+1),by omega,k+1,_,by omega,rfl,rfl,?_⟩
   have hnil:c.take k=[]:=List.length_eq_zero_iff.1 h0
   rw[htk,hap,hnil]
   refine⟨by omega,fun q hq=>by(simp(disch:=omega)only[upd_ne];exact hfr q (by omega)),fun q hq=>by(simp(disch:=omega)only[upd_ne];exact hE q hq),.inr ⟨_,_,app_pos _ _,rfl,upd_same _ _ _,by omega,by omega⟩⟩
  ·repeat(first |(with_reducible first |apply Q0 |apply Q1 |apply Q2 |apply Q3 |apply Q4 |apply Q5 |apply Q6 |apply Q7 |apply Q8 |apply Q9 |apply QA |apply QB |apply QC |apply QD |apply QE |apply QF) |((with_reducible apply QK rfl);simp(disch:=omega)only[go_sem,hfr,hH,upd_ne,hal,hat,hao,List.getElem_map];exact rfl;simp only[sB,sA,putA];exact rfl) |(apply QQ;simp only[evA,gB,gA];exact rfl) |((first |apply QX |apply QY);(first |rfl |decide |assumption)))
   refine⟨p-(k+1),by omega,k+1,_,by omega,rfl,rfl,?_⟩
   rw[htk,hap]
   refine⟨by omega,fun q hq=>by(simp(disch:=omega)only[upd_ne];exact hfr q (by omega)),fun q hq=>by(simp(disch:=omega)only[upd_ne];exact hE q hq),.inr ⟨nm,ver+1,app_pos _ _,by rw[List.length_append];rfl,upd_same _ _ _,by omega,hEn⟩⟩
 ·obtain rfl:k=p:=by omega
  have hkl:(c.take k).length=k:=by rw[List.length_take];omega
  have hap:natsA (c.take k++[n]++(c.drop k).take 0)=natsA (c.take k)++[.sc (.int .i64 (n:Nat))]:=by rw[List.take_zero,List.append_nil];exact natsA_app _ _
  have hal:(natsA (c.take k)).length=(c.take k).length:=natsA_len _
  have hat:(natsA (c.take k)).take (c.take k).length=natsA (c.take k):=natsA_take _
  have hao:(natsA (c.take k)).all AV.one=true:=ints_all _
  have hl1:(c.take k++[n]++(c.drop k).take 0).length=(c.take k).length+1:=by simp
  obtain⟨hss,hfr,hE,⟨h0,hcs,rfl⟩ |⟨nm,ver,h0,rfl,hH,hlt2,hEn⟩⟩:=hO
  case' inl=>
   repeat(first |(with_reducible first |apply Q0 |apply Q1 |apply Q2 |apply Q3 |apply Q4 |apply Q5 |apply Q6 |apply Q7 |apply Q8 |apply Q9 |apply QA |apply QB |apply QC |apply QD |apply QE |apply QF) |((with_reducible apply QK rfl);simp(disch:=omega)only[go_sem,hfr,upd_ne];exact rfl;simp only[sB,sA,putA];exact rfl) |(apply QQ;simp only[evA,gB,gA];exact rfl) |((first |apply QX |apply QY);(first |rfl |decide |assumption)))
   refine AWp.loop [0,7,9] (fun Γ H s' m=>∃(j:Nat) (v:AV),j≤c.length-k∧m=c.length-k-j∧Γ=[.dsl c.length (natsA c)]++(List.replicate 6 .junk)++[v]++(List.replicate 1 .junk)++[.sc (.int .i64 ((k+j:Nat):Int))]++(List.replicate 31 .junk)∧OwnE E s 1 v H s' (natsA (c.take k++[n]++(c.drop k).take j)) (c.take k++[n]++(c.drop k).take j).length) (c.length-k) ?_ ?_
   ·refine⟨0,_,Nat.zero_le _,by omega,rfl,?_⟩
    rw[hap,hl1,h0,hcs]
    exact⟨by omega,fun q hq=>by(simp(disch:=omega)only[upd_ne];exact hfr q (by omega)),fun q hq=>by(simp(disch:=omega)only[upd_ne];exact hE q hq),.inr ⟨_,_,by omega,rfl,upd_same _ _ _,by omega,by omega⟩⟩
  case' inr=>
   repeat(first |(with_reducible first |apply Q0 |apply Q1 |apply Q2 |apply Q3 |apply Q4 |apply Q5 |apply Q6 |apply Q7 |apply Q8 |apply Q9 |apply QA |apply QB |apply QC |apply QD |apply QE |apply QF) |((with_reducible apply QK rfl);simp(disch:=omega)only[go_sem,hfr,hH,upd_ne,hal,hat,hao];exact rfl;simp only[sB,sA,putA];exact rfl) |(apply QQ;simp only[evA,gB,gA];exact rfl) |((first |apply QX |apply QY);(first |rfl |decide |assumption)))
   refine AWp.loop [0,7,9] (fun Γ H s' m=>∃(j:Nat) (v:AV),j≤c.length-k∧m=c.length-k-j∧Γ=[.dsl c.length (natsA c)]++(List.replicate 6 .junk)++[v]++(List.replicate 1 .junk)++[.sc (.int .i64 ((k+j:Nat):Int))]++(List.replicate 31 .junk)∧OwnE E s 1 v H s' (natsA (c.take k++[n]++(c.drop k).take j)) (c.take k++[n]++(c.drop k).take j).length) (c.length-k) ?_ ?_
   ·refine⟨0,_,Nat.zero_le _,by omega,rfl,?_⟩
    rw[hap,hl1]
    exact⟨by omega,fun q hq=>by(simp(disch:=omega)only[upd_ne];exact hfr q (by omega)),fun q hq=>by(simp(disch:=omega)only[upd_ne];exact hE q hq),.inr ⟨nm,ver+1,by omega,rfl,upd_same _ _ _,by omega,hEn⟩⟩
  all_goals
   rintro Γ H s1 m ⟨j,v,hj,rfl,rfl,hO⟩
   refine wA_ok hmix ctQ_ok _ (by kernel_rfl) ?_
   simp(maxSteps:=1000000)only[List.replicate_succ,List.replicate_zero,List.cons_append,List.nil_append,List.append_nil]
   by_cases hlt:k+j<c.length
   ·have htk:c.take k++[n]++(c.drop k).take (j+1)=(c.take k++[n]++(c.drop k).take j)++[c[k+j]]:=by
     rw[List.take_succ_eq_append_getElem (by rw[List.length_drop];omega),List.getElem_drop,←List.append_assoc]
    have hll:(c.take k++[n]++(c.drop k).take j).length=k+1+j:=by
     rw[List.length_append,List.length_append,hkl,List.length_take,List.length_drop];simp;omega
    obtain⟨acc,hacc⟩:∃acc,acc=c.take k++[n]++(c.drop k).take j:=⟨_,rfl⟩
    rw[←hacc]at htk hO hll
    have hkj:((k+(j+1):Nat):Int)=((k+j:Nat):Int)+1:=by omega
    have hap:natsA (acc++[c[k+j]])=natsA (acc)++[.sc (.int .i64 (c[k+j]:Nat))]:=natsA_app _ _
    have hal:(natsA (acc)).length=(acc).length:=natsA_len _
    have hat:(natsA (acc)).take (acc).length=natsA (acc):=natsA_take _
    have hao:(natsA (acc)).all AV.one=true:=ints_all _
    have hacl:(acc).length≤200000:=by omega
    obtain⟨hss,hfr,hE,⟨h0,hcs,rfl⟩ |⟨nm,ver,h0,rfl,hH,hlt2,hEn⟩⟩:=hO
    ·omega
    ·repeat(first |(with_reducible first |apply Q0 |apply Q1 |apply Q2 |apply Q3 |apply Q4 |apply Q5 |apply Q6 |apply Q7 |apply Q8 |apply Q9 |apply QA |apply QB |apply QC |apply QD |apply QE |apply QF) |((with_reducible apply QK rfl);simp(disch:=omega)only[go_sem,hfr,hH,upd_ne,hal,hat,hao,List.getElem_map];exact rfl;simp only[sB,sA,putA];exact rfl) |(apply QQ;simp only[evA,gB,gA];exact rfl) |((first |apply QX |apply QY);(first |rfl |decide |assumption)))
     refine⟨c.length-k-(j+1),by omega,j+1,_,by omega,rfl,by rw[hkj];rfl,?_⟩
     rw[htk,hap]
     refine⟨by omega,fun q hq=>by(simp(disch:=omega)only[upd_ne];exact hfr q (by omega)),fun q hq=>by(simp(disch:=omega)only[upd_ne];exact hE q hq),.inr ⟨nm,ver+1,app_pos _ _,by rw[List.length_append];rfl,upd_same _ _ _,by omega,hEn⟩⟩
   ·have hje:j=c.length-k:=by omega
    have hfin:c.take k++[n]++(c.drop k).take j=insN c k n:=by
     rw[hje,←List.length_drop,List.take_length];simp[insN]
    rw[hfin]at hO
    repeat(first |(with_reducible first |apply Q0 |apply Q1 |apply Q2 |apply Q3 |apply Q4 |apply Q5 |apply Q6 |apply Q7 |apply Q8 |apply Q9 |apply QA |apply QB |apply QC |apply QD |apply QE |apply QF) |((with_reducible apply QK rfl);simp(disch:=omega)only[go_sem];exact rfl;simp only[sB,sA,putA];exact rfl) |(apply QQ;simp only[evA,gB,gA];exact rfl) |((first |apply QX |apply QY);(first |rfl |decide |assumption)))
    (apply QZ;simp only[aRes,Try.results81,List.toList_toArray,List.getD_cons_succ,List.getD_cons_zero];exact rfl;simp only[packA];exact rfl)
    exact hO.pubN
def wiN (c:List Nat) (n:Nat):List Nat:=c.filter (fun r=>!decide (r=n))
theorem wiN_take {c:List Nat} {n k:Nat} (hk:k<c.length):wiN (c.take (k+1)) n=if c[k]=n then wiN (c.take k) n else wiN (c.take k) n++[c[k]]:=by
 unfold wiN
 rw[List.take_succ_eq_append_getElem hk,List.filter_append]
 by_cases e:c[k]=n<;>simp[e]
theorem wiN_le (c:List Nat) (n:Nat):(wiN c n).length≤c.length:=List.length_filter_le _ _
set_option maxRecDepth 100000 in
set_option maxHeartbeats 2000000 in
theorem rwithout_walk (c:List Nat) (n:Nat) (hc:c.length≤100000) (E:Ent) (s:Nat) (hs:∀q,s≤q→E.H q=none) (R:AV→AHp→Prop) (hR:∀v H s',OwnE E s 1 v H s' (natsA (wiN c n)) (wiN c n).length→R v H):
  wA Try.prog E noCT Try.f84.body.get! (begA Try.f84 [.dsl c.length (natsA c),.sc (.int .i64 (n:Nat))]) E.H s (EndA Try.prog Try.f84 R):=by
 simp(maxSteps:=300000)only[begA,Try.ntmps84,List.replicate_succ,List.replicate_zero,List.length_cons,List.length_nil,List.cons_append,List.nil_append]
 simp only[Try.f84,Option.get!_some]
 repeat(first |(with_reducible first |apply Q0 |apply Q1 |apply Q2 |apply Q3 |apply Q4 |apply Q5 |apply Q6 |apply Q7 |apply Q8 |apply Q9 |apply QA |apply QB |apply QC |apply QD |apply QE |apply QF) |((with_reducible apply QK rfl);simp(disch:=omega)only[go_sem];exact rfl;simp only[sB,sA,putA];exact rfl) |(apply QQ;simp only[evA,gB,gA];exact rfl) |((first |apply QX |apply QY);(first |rfl |decide |assumption)))
 refine AWp.loop [0,1,5,6] (fun Γ H s' m=>∃(k:Nat) (v:AV),k≤c.length∧m=c.length-k∧Γ=[.dsl c.length (natsA c),.sc (.int .i64 (n:Nat))]++(List.replicate 3 .junk)++[v,.sc (.int .i64 (k:Nat))]++(List.replicate 20 .junk)∧OwnE E s 1 v H s' (natsA (wiN (c.take k) n)) (wiN (c.take k) n).length) c.length ?_ ?_
 ·exact⟨0,_,Nat.zero_le _,rfl,rfl,OwnE.start hs⟩
 rintro Γ H s1 m ⟨k,v,hk,rfl,rfl,hO⟩
 refine wA_ok hmix noCT_ok _ (by kernel_rfl) ?_
 simp(maxSteps:=1000000)only[List.replicate_succ,List.replicate_zero,List.cons_append,List.nil_append,List.append_nil]
 by_cases hlt:k<c.length
 ·have htk:=wiN_take (n:=n) hlt
  have hwl:=wiN_le (c.take k) n
  have hkl:(c.take k).length=k:=by rw[List.length_take];omega
  by_cases he:c[k]=n
  ·rw[if_pos he]at htk
   have hei:((c[k]:Nat):Int)=(n:Int):=by rw[he]
   repeat(first |(with_reducible first |apply Q0 |apply Q1 |apply Q2 |apply Q3 |apply Q4 |apply Q5 |apply Q6 |apply Q7 |apply Q8 |apply Q9 |apply QA |apply QB |apply QC |apply QD |apply QE |apply QF) |((with_reducible apply QK rfl);simp(disch:=omega)only[go_sem,List.getElem_map,hei];exact rfl;simp only[sB,sA,putA];exact rfl) |(apply QQ;simp only[evA,gB,gA];exact rfl) |((first |apply QX |apply QY);(first |rfl |decide |assumption)))
   exact⟨c.length-(k+1),by omega,k+1,_,by omega,rfl,rfl,by rw[htk];exact hO⟩
  ·rw[if_neg he]at htk
   have hei:¬((c[k]:Nat):Int)=(n:Int):=by omega
   have hap:natsA (wiN (c.take k) n++[c[k]])=natsA (wiN (c.take k) n)++[.sc (.int .i64 (c[k]:Nat))]:=natsA_app _ _
   have hal:(natsA (wiN (c.take k) n)).length=(wiN (c.take k) n).length:=natsA_len _
   have hat:(natsA (wiN (c.take k) n)).take (wiN (c.take k) n).length=natsA (wiN (c.take k) n):=natsA_take _
   have hao:(natsA (wiN (c.take k) n)).all AV.one=true:=ints_all _
   have hacl:(wiN (c.take k) n).length≤200000:=by omega
   obtain⟨hss,hfr,hE,⟨h0,hcs,rfl⟩ |⟨nm,ver,h0,rfl,hH,hlt2,hEn⟩⟩:=hO
   ·repeat(first |(with_reducible first |apply Q0 |apply Q1 |apply Q2 |apply Q3 |apply Q4 |apply Q5 |apply Q6 |apply Q7 |apply Q8 |apply Q9 |apply QA |apply QB |apply QC |apply QD |apply QE |apply QF) |((with_reducible apply QK rfl);simp(disch:=omega)only[go_sem,hfr,upd_ne,List.getElem_map,hei];exact rfl;simp only[sB,sA,putA];exact rfl) |(apply QQ;simp only[evA,gB,gA];exact rfl) |((first |apply QX |apply QY);(first |rfl |decide |assumption)))
    refine⟨c.length-(k+1),by omega,k+1,_,by omega,rfl,rfl,?_⟩
    have hnil:wiN (c.take k) n=[]:=List.length_eq_zero_iff.1 h0
    rw[htk,hap,hnil]
    refine⟨by omega,fun q hq=>by(simp(disch:=omega)only[upd_ne];exact hfr q (by omega)),fun q hq=>by(simp(disch:=omega)only[upd_ne];exact hE q hq),.inr ⟨_,_,app_pos _ _,rfl,upd_same _ _ _,by omega,by omega⟩⟩
   ·repeat(first |(with_reducible first |apply Q0 |apply Q1 |apply Q2 |apply Q3 |apply Q4 |apply Q5 |apply Q6 |apply Q7 |apply Q8 |apply Q9 |apply QA |apply QB |apply QC |apply QD |apply QE |apply QF) |((with_reducible apply QK rfl);simp(disch:=omega)only[go_sem,hfr,hH,upd_ne,hal,hat,hao,List.getElem_map,hei];exact rfl;simp only[sB,sA,putA];exact rfl) |(apply QQ;simp only[evA,gB,gA];exact rfl) |((first |apply QX |apply QY);(first |rfl |decide |assumption)))
    refine⟨c.length-(k+1),by omega,k+1,_,by omega,rfl,rfl,?_⟩
    rw[htk,hap]
    refine⟨by omega,fun q hq=>by(simp(disch:=omega)only[upd_ne];exact hfr q (by omega)),fun q hq=>by(simp(disch:=omega)only[upd_ne];exact hE q hq),.inr ⟨nm,ver+1,app_pos _ _,by rw[List.length_append];rfl,upd_same _ _ _,by omega,hEn⟩⟩
 ·obtain rfl:k=c.length:=by omega
  rw[List.take_length]at hO
  repeat(first |(with_reducible first |apply Q0 |apply Q1 |apply Q2 |apply Q3 |apply Q4 |apply Q5 |apply Q6 |apply Q7 |apply Q8 |apply Q9 |apply QA |apply QB |apply QC |apply QD |apply QE |apply QF) |((with_reducible apply QK rfl);simp(disch:=omega)only[go_sem];exact rfl;simp only[sB,sA,putA];exact rfl) |(apply QQ;simp only[evA,gB,gA];exact rfl) |((first |apply QX |apply QY);(first |rfl |decide |assumption)))
  (apply QZ;simp only[aRes,Try.results84,List.toList_toArray,List.getD_cons_succ,List.getD_cons_zero];exact rfl;simp only[packA];exact rfl)
  exact hR _ _ _ hO
set_option maxRecDepth 100000 in
set_option maxHeartbeats 1000000 in
theorem rindex_call (c:List Nat) (n:Nat) (hc:c.length≤100000) (hm:n∈c):RC Try.prog 83 [.dsl c.length (natsA c),.sc (.int .i64 (n:Nat))] (.sc (.int .i64 (c.idxOf n:Nat))):=by
 have hlt:=List.idxOf_lt_length_iff.2 hm
 refine rc_of hmix (ct:=noCT) noCT_ok Try.func83 rfl (by kernel_rfl) (fun E s hs=>?_)
 simp(maxSteps:=300000)only[begA,Try.ntmps83,List.replicate_succ,List.replicate_zero,List.length_cons,List.length_nil,List.cons_append,List.nil_append]
 repeat(first |(with_reducible first |apply Q0 |apply Q1 |apply Q2 |apply Q3 |apply Q4 |apply Q5 |apply Q6 |apply Q7 |apply Q8 |apply Q9 |apply QA |apply QB |apply QC |apply QD |apply QE |apply QF) |((with_reducible apply QK rfl);simp(disch:=omega)only[go_sem];exact rfl;simp only[sB,sA,putA];exact rfl) |(apply QQ;simp only[evA,gB,gA];exact rfl) |((first |apply QX |apply QY);(first |rfl |decide |assumption)))
 refine AWp.loop [0,1,5] (fun Γ H s' m=>∃k:Nat,k≤c.idxOf n∧m=c.idxOf n-k∧Γ=[.dsl c.length (natsA c),.sc (.int .i64 (n:Nat))]++(List.replicate 3 .junk)++[.sc (.int .i64 (k:Nat))]++(List.replicate 9 .junk)) (c.idxOf n) ?_ ?_
 ·exact⟨0,Nat.zero_le _,rfl,rfl⟩
 rintro Γ H s1 m ⟨k,hk,rfl,rfl⟩
 refine wA_ok hmix noCT_ok _ (by kernel_rfl) ?_
 simp(maxSteps:=1000000)only[List.replicate_succ,List.replicate_zero,List.cons_append,List.nil_append,List.append_nil]
 by_cases hkl:k<c.idxOf n
 ·have hne:c[k]'(by omega)≠n:=fun e=>by have:=List.not_of_lt_findIdx (p:=(· ==n)) (xs:=c) (i:=k) hkl;simp at this;exact this e
  have hei:¬((c[k]'(by omega):Nat):Int)=(n:Int):=by omega
  have hkc:k<c.length:=by omega
  repeat(first |(with_reducible first |apply Q0 |apply Q1 |apply Q2 |apply Q3 |apply Q4 |apply Q5 |apply Q6 |apply Q7 |apply Q8 |apply Q9 |apply QA |apply QB |apply QC |apply QD |apply QE |apply QF) |((with_reducible apply QK rfl);simp(disch:=omega)only[go_sem,List.getElem_map,hei];exact rfl;simp only[sB,sA,putA];exact rfl) |(apply QQ;simp only[evA,gB,gA];exact rfl) |((first |apply QX |apply QY);(first |rfl |decide |assumption)))
  exact⟨c.idxOf n-(k+1),by omega,k+1,by omega,rfl,rfl⟩
 ·obtain rfl:k=c.idxOf n:=by omega
  have hei:((c[c.idxOf n]:Nat):Int)=(n:Int):=by rw[List.getElem_idxOf hlt]
  repeat(first |(with_reducible first |apply Q0 |apply Q1 |apply Q2 |apply Q3 |apply Q4 |apply Q5 |apply Q6 |apply Q7 |apply Q8 |apply Q9 |apply QA |apply QB |apply QC |apply QD |apply QE |apply QF) |((with_reducible apply QK rfl);simp(disch:=omega)only[go_sem,List.getElem_map,hei];exact rfl;simp only[sB,sA,putA];exact rfl) |(apply QQ;simp only[evA,gB,gA];exact rfl) |((first |apply QX |apply QY);(first |rfl |decide |assumption)))
  (apply QZ;simp only[aRes,Try.results83,List.toList_toArray,List.getD_cons_succ,List.getD_cons_zero];exact rfl;simp only[packA];exact rfl)
  exact .sc _
end Go.Proofs.Ytdcomhdadnhpnaa
