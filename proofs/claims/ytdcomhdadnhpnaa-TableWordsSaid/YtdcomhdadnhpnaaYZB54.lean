import Derived.Test.YtdcomhdadnhpnaaYZB42
import Derived.Test.YtdcomhdadnhpnaaYZT1
set_option linter.all false
namespace Go.Proofs.Ytdcomhdadnhpnaa
open Go Go.Am Go.RowKit
attribute [local irreducible] wA opsQ opsLQ thenA blockA EndA
attribute [local go_sem] sz91 ze91 by91 ag91 fo91_0 bu91 Try.underlying91 sz92 ze92 by92 ag92 Try.underlying92 Try.underlying94 sz102 ze102 by102 ag102 fo102_0 fo102_1 bu102 Try.underlying102
set_option maxRecDepth 100000 in
set_option maxHeartbeats 4000000 in
theorem tslots_rc (l:List Int):RC Try.prog 54 [.dsl l.length (ints l)] (.tup [.dsl (slotsF l).1.length (ints (slotsF l).1),.sc (.int .i64 (slotsF l).2)]):=by
 refine rc_of hmix ctY_ok Try.func54 rfl (by kernel_rfl) (fun E s hs=>?_)
 simp(maxSteps:=300000)only[begA,Try.ntmps54,List.replicate_succ,List.replicate_zero,List.length_cons,List.length_nil,List.cons_append,List.nil_append]
 have h00:(0:Int)≤0∧(0:Int)≤2147483647:=by decide
 by_cases hV:ValidL l
 rotate_left
 ·rw[slotsF_bad hV]
  repeat(first |(with_reducible first |apply Q0 |apply Q1 |apply Q2 |apply Q3 |apply Q4 |apply Q5 |apply Q6 |apply Q7 |apply Q8 |apply Q9 |apply QA |apply QB |apply QC |apply QD |apply QE |apply QF) |((first |(with_reducible apply QK rfl) |(apply QT;simp only[go_sem]<;>exact rfl));simp(disch:=omega)only[go_sem,hs,upd_ne,cal69,ctY_69,c69,rdK_dsl,hV];exact rfl;simp only[sB,sA,putA];exact rfl) |(apply QI;simp only[go_sem]<;>exact rfl;simp only[sB,sA,putA];exact rfl) |(apply QQ;simp only[evA,gB,gA];exact rfl) |((first |apply QX |apply QY);(first |rfl |decide |assumption)))
  (apply QZ;simp(disch:=omega)only[go_sem,Try.results54];exact rfl;simp only[packA];exact rfl)
  exact .tup2 .nil (.sc _)
 have hn0:ati l 0=((tabN l:Nat):Int):=(tab_h hV).n0
 have hn1:=(tab_g hV).n1
 have hll:60≤l.length:=hV.len60
 have hl3:=hV.le
 have hil:=ints_len l
 have hit:=ints_take l
 have hl0:0<l.length:=by omega
 rw[slotsF_ok hV]
 generalize tabN l=n at*
 repeat(first |(with_reducible first |apply Q0 |apply Q1 |apply Q2 |apply Q3 |apply Q4 |apply Q5 |apply Q6 |apply Q7 |apply Q8 |apply Q9 |apply QA |apply QB |apply QC |apply QD |apply QE |apply QF) |((first |(with_reducible apply QK rfl) |(apply QT;simp only[go_sem]<;>exact rfl));simp(disch:=omega)only[go_sem,hs,upd_ne,cal69,ctY_69,c69,rdK_dsl,hV,h00,cal88,ctY_88,c88,rdW,wK,iK_ok,hn0,hil,hit,hl0];exact rfl;simp only[sB,sA,putA];exact rfl) |(apply QI;simp only[go_sem]<;>exact rfl;simp only[sB,sA,putA];exact rfl) |(apply QQ;simp only[evA,gB,gA];exact rfl) |((first |apply QX |apply QY);(first |rfl |decide |assumption)))
 refine AWp.loop [6,17,18] (fun Γ H s' m=>∃(k:Nat) (vO:AV),k≤n∧m=n-k∧Γ=(List.replicate 6 .junk)++[vO]++(List.replicate 10 .junk)++[.sc (.int .i64 (n:Nat)),.sc (.int .i64 (k:Nat))]++(List.replicate 10 .junk)∧
  RowE (s+1+1) 1 vO H s' (ints (slotsL k)) k∧s+1+1≤s'∧∀q,s'≤q→H q=none) n ?_ ?_
 ·exact⟨0,_,Nat.zero_le _,rfl,rfl,.inl ⟨rfl,rfl,rfl⟩,by omega,fun q hq=>by(simp(disch:=omega)only[upd_ne];exact hs q)⟩
 rintro Γ H s1 m ⟨k,vO,hk,rfl,rfl,hvO,hs1,hf⟩
 refine wA_ok hmix ctY_ok _ (by kernel_rfl) ?_
 simp(maxSteps:=1000000)only[List.replicate_succ,List.replicate_zero,List.cons_append,List.nil_append,List.append_nil]
 by_cases hlt:k<n
 ·have hap:ints (slotsL (k+1))=ints (slotsL k)++[.sc (.int .i64 (((recAt k:Nat):Int)+1))]:=by rw[slotsL_succ];simp
  have hul:(ints (slotsL k)).length=k:=by rw[ints_len,slotsL_len]
  have hut:(ints (slotsL k)).take k=ints (slotsL k):=List.take_of_length_le (by omega)
  have huo:=ints_all (slotsL k)
  have hrl:recAt k≤1000000:=by unfold recAt;omega
  have hkI:(0:Int)≤((k:Nat):Int)∧((k:Nat):Int)≤1000000:=by omega
  have hkT:((k:Nat):Int).toNat=k:=Int.toNat_natCast _
  rcases hvO with⟨h0',hcs,rfl⟩ |⟨nO,vrO,h0',rfl,hHO,hOl,hOs⟩
  ·subst h0'
   repeat(first |(with_reducible first |apply Q0 |apply Q1 |apply Q2 |apply Q3 |apply Q4 |apply Q5 |apply Q6 |apply Q7 |apply Q8 |apply Q9 |apply QA |apply QB |apply QC |apply QD |apply QE |apply QF) |((first |(with_reducible apply QK rfl) |(apply QT;simp only[go_sem]<;>exact rfl));simp(disch:=omega)only[go_sem,hf,upd_ne,cal87,ctY_87,c87,hkI,hkT];exact rfl;simp only[sB,sA,putA];exact rfl) |(apply QI;simp only[go_sem]<;>exact rfl;simp only[sB,sA,putA];exact rfl) |(apply QQ;simp only[evA,gB,gA];exact rfl) |((first |apply QX |apply QY);(first |rfl |decide |assumption)))
   refine⟨n-1,by omega,1,_,by omega,rfl,rfl,?_,by omega,fun q hq=>by(simp(disch:=omega)only[upd_ne];exact hf q (by omega))⟩
   rw[hap]
   exact .inr ⟨_,_,by omega,rfl,upd_same _ _ _,by omega,by omega⟩
  ·repeat(first |(with_reducible first |apply Q0 |apply Q1 |apply Q2 |apply Q3 |apply Q4 |apply Q5 |apply Q6 |apply Q7 |apply Q8 |apply Q9 |apply QA |apply QB |apply QC |apply QD |apply QE |apply QF) |((first |(with_reducible apply QK rfl) |(apply QT;simp only[go_sem]<;>exact rfl));simp(disch:=omega)only[go_sem,hf,upd_ne,hHO,cal87,ctY_87,c87,hkI,hkT,hul,hut,huo];exact rfl;simp only[sB,sA,putA];exact rfl) |(apply QI;simp only[go_sem]<;>exact rfl;simp only[sB,sA,putA];exact rfl) |(apply QQ;simp only[evA,gB,gA];exact rfl) |((first |apply QX |apply QY);(first |rfl |decide |assumption)))
   refine⟨n-(k+1),by omega,k+1,_,by omega,rfl,rfl,?_,by omega,fun q hq=>by(simp(disch:=omega)only[upd_ne];exact hf q (by omega))⟩
   rw[hap]
   exact .inr ⟨nO,vrO+1,by omega,rfl,upd_same _ _ _,by omega,hOs⟩
 ·obtain rfl:k=n:=by omega
  repeat(first |(with_reducible first |apply Q0 |apply Q1 |apply Q2 |apply Q3 |apply Q4 |apply Q5 |apply Q6 |apply Q7 |apply Q8 |apply Q9 |apply QA |apply QB |apply QC |apply QD |apply QE |apply QF) |((first |(with_reducible apply QK rfl) |(apply QT;simp only[go_sem]<;>exact rfl));simp(disch:=omega)only[go_sem,hf,upd_ne];exact rfl;simp only[sB,sA,putA];exact rfl) |(apply QI;simp only[go_sem]<;>exact rfl;simp only[sB,sA,putA];exact rfl) |(apply QQ;simp only[evA,gB,gA];exact rfl) |((first |apply QX |apply QY);(first |rfl |decide |assumption)))
  (apply QZ;simp(disch:=omega)only[go_sem,Try.results54];exact rfl;simp only[packA];exact rfl)
  exact .tup2 (hvO.expI (slotsL_len _).symm) (.sc _)
open Classical in
noncomputable def c45:List AV→AP AV
 | [t]=>rdK t fun l=>if ValidL l then .ret (.tup [.sc (.int .i64 (tabN l:Nat)),.sc (.int .i64 0)])else .ret (.tup [.sc (.int .i64 0),.sc (.int .i64 600)])
 |_=>.fail
theorem a45 (args:List AV):ACall Try.prog 45 args (c45 args):=by
 intro ρ H w vs hR hA s r H' s' hm
 unfold c45 at hm
 split at hm
 ·obtain⟨v0,rfl,hv0⟩:=reps1 hA
  obtain⟨l,A,c,rfl,hr,_,hm⟩:=rdK_ok hR hv0 hm
  refine(countX_any A c l w hr).mono ?_
  rintro e w' ⟨(⟨h1,rfl⟩ |⟨h1,rfl⟩),hb⟩
  ·rw[if_neg h1]at hm
   simp only[AP.run,Option.some.injEq,Prod.mk.injEq]at hm
   obtain⟨rfl,rfl,rfl⟩:=hm
   exact⟨_,ρ,rfl,step_of_below hR hb,Rep.tup_iff.2 ⟨_,rfl,.cons (.sc _) (.cons (.sc _) .nil)⟩⟩
  ·rw[if_pos h1]at hm
   simp only[AP.run,Option.some.injEq,Prod.mk.injEq]at hm
   obtain⟨rfl,rfl,rfl⟩:=hm
   have hn:ati l 0=((tabN l:Nat):Int):=(tab_h h1).n0
   rw[hn]
   exact⟨_,ρ,rfl,step_of_below hR hb,Rep.tup_iff.2 ⟨_,rfl,.cons (.sc _) (.cons (.sc _) .nil)⟩⟩
 ·simp[AP.run]at hm
noncomputable def c54:List AV→AP AV
 | [t]=>rdK t fun l=>.ret (.tup [.dsl (slotsF l).1.length (ints (slotsF l).1),.sc (.int .i64 (slotsF l).2)])
 |_=>.fail
theorem a54 (args:List AV):ACall Try.prog 54 args (c54 args):=by
 intro ρ H w vs hR hA s r H' s' hm
 unfold c54 at hm
 split at hm
 ·obtain⟨v0,rfl,hv0⟩:=reps1 hA
  obtain⟨l,hr,hm⟩:=rdK_data hR hv0 hm
  simp only[AP.run,Option.some.injEq,Prod.mk.injEq]at hm
  obtain⟨rfl,rfl,rfl⟩:=hm
  exact(tslots_rc l).acall hR (.cons hr .nil)
 ·simp[AP.run]at hm
theorem hcal45:callable Try.prog 45=true:=by kernel_rfl
theorem hcal54:callable Try.prog 54=true:=by kernel_rfl
theorem hcal62:callable Try.prog 62=true:=by kernel_rfl
end Go.Proofs.Ytdcomhdadnhpnaa
