import Derived.Test.YtdcomhdadnhpnaaYZB45
import Derived.Test.YtdcomhdadnhpnaaYZC4
import Derived.Test.YtdcomhdadnhpnaaYZP5
import Derived.Test.YtdcomhdadnhpnaaYZP29
set_option linter.all false
namespace Go.Proofs.Ytdcomhdadnhpnaa
open Go Go.Am Go.RowKit
attribute [local irreducible] wA opsQ opsLQ thenA blockA EndA
attribute [local go_sem] Try.underlying74
attribute [local go_sem] put5
theorem chosen_or {l:List Int} (hV:ValidL l) (n:Int):(recsT l=[]∧chosenF l n=(0,0))∨chosenF l n∈recsT l:=by
 have hx:recsX l=recsT l:=by unfold recsX;rw[if_pos hV]
 unfold chosenF
 rw[hx]
 by_cases h0:(recsT l).length=0
 ·left
  have:=List.length_eq_zero_iff.1 h0
  rw[this]
  exact⟨rfl,rfl⟩
 ·right
  generalize hN:(recsT l).length=N at*
  have h1:=Int.emod_nonneg
  have hlt:((n.tmod N+N).tmod N).toNat<N:=by
   have hp:(0:Int)<(N:Int):=by omega
   have h1:=Int.lt_tmod_of_pos n hp
   have h2:=Int.tmod_lt_of_pos (n.tmod N+N) hp
   have h3:0≤(n.tmod N+N).tmod N:=Int.tmod_nonneg _ (by omega)
   omega
  rw[List.getD_eq_getElem?_getD,List.getElem?_eq_getElem (by omega),Option.getD_some]
  exact List.getElem_mem _
section
variable (L:List (Int×Int)) (ops:List OpT) (b:Bool) (x y:Int)
noncomputable def ctBk:CT:=fun f args=>if f=47 then c47p L ops b x y args else if f=32 then c32p L ops b x y args else if f=34 then c34 args else if f=50 then c50 args else ctT f args
theorem ctBk_ok:CTok Try.prog (ctBk L ops b x y):=fun f args=>by
 unfold ctBk
 split
 ·rename_i e;subst e;exact a47p L ops b x y args
 split
 ·rename_i e;subst e;exact a32p L ops b x y args
 split
 ·rename_i e;subst e;exact a34 args
 split
 ·rename_i e;subst e;exact a50 args
 ·exact ctT_ok f args
variable (a:List AV)
theorem ctBk_15:ctBk L ops b x y 15 a=c15 a:=rfl
theorem ctBk_24:ctBk L ops b x y 24 a=c24 a:=rfl
theorem ctBk_27:ctBk L ops b x y 27 a=c27 a:=rfl
theorem ctBk_32:ctBk L ops b x y 32 a=c32p L ops b x y a:=rfl
theorem ctBk_34:ctBk L ops b x y 34 a=c34 a:=rfl
theorem ctBk_36:ctBk L ops b x y 36 a=c36 a:=rfl
theorem ctBk_47:ctBk L ops b x y 47 a=c47p L ops b x y a:=rfl
theorem ctBk_50:ctBk L ops b x y 50 a=c50 a:=rfl
end
theorem vcal15:callable Try.prog 15=true:=by kernel_rfl
theorem vcal32:callable Try.prog 32=true:=by kernel_rfl
theorem vcal36:callable Try.prog 36=true:=by kernel_rfl
theorem vcal50:callable Try.prog 50=true:=by kernel_rfl
theorem bcal24:callable Try.prog 24=true:=by kernel_rfl
theorem bcal27:callable Try.prog 27=true:=by kernel_rfl
theorem bcal34:callable Try.prog 34=true:=by kernel_rfl
theorem bcal47:callable Try.prog 47=true:=by kernel_rfl
set_option maxRecDepth 100000 in
set_option maxHeartbeats 16000000 in
theorem tableBack_call (L:List (Int×Int)) (ops:List OpT) (b:Bool) (x y h w:Int):
  ACall Try.prog 10 [playG L ops b x y,.sc (.int .i64 h),.sc (.int .i64 w)] (.ret (.sc (.bool true))):=by
 refine acall_pure' hmix (ctBk_ok L ops b x y) Try.func10 rfl (by kernel_rfl) (fun E s hs=>?_)
 simp(maxSteps:=300000)only[begA,Try.ntmps10,List.replicate_succ,List.replicate_zero,List.length_cons,List.length_nil,List.cons_append,List.nil_append]
 have h32:c32p L ops b x y [playG L ops b x y]= .ret (.sc (.bool (decide (L.length≤300∧ops.length≤300)))):=if_pos rfl
 by_cases hsm:L.length≤300∧ops.length≤300
 rotate_left
 ·rw[decide_eq_false hsm]at h32
  repeat(first |(with_reducible first |apply Q0 |apply Q1 |apply Q2 |apply Q3 |apply Q4 |apply Q5 |apply Q6 |apply Q7 |apply Q8 |apply Q9 |apply QA |apply QB |apply QC |apply QD |apply QE |apply QF) |((first |(with_reducible apply QK rfl) |(apply QT;simp only[go_sem]<;>exact rfl));simp(disch:=omega)only[go_sem,hs,upd_ne,vcal15,ctBk_15,c15,vcal32,ctBk_32,h32];exact rfl;simp only[sB,sA,putA];exact rfl) |(apply QI;simp only[go_sem]<;>exact rfl;simp only[sB,sA,putA];exact rfl) |(apply QQ;simp only[evA,gB,gA];exact rfl) |((first |apply QX |apply QY);(first |rfl |decide |assumption)))
  (apply QZ;simp(disch:=omega)only[go_sem,Try.results10];exact rfl;simp only[packA];exact rfl)
  exact⟨fun q hq=>(by have hq2:q<s:=Nat.lt_of_not_le (fun hle=>hq (hs q hle));simp(disch:=omega)only[upd_ne]),Pub.sc _⟩
 rw[decide_eq_true hsm]at h32
 have h47:c47p L ops b x y [playG L ops b x y]= .new (.row 0 1 (ints (madeF L ops))) fun n=>.ret (.sl n 0 0 (madeF L ops).length):=if_pos ⟨rfl,by omega,by omega⟩
 have hV:=madeF_valid L ops
 generalize madeF L ops=t at*
 have hit:=ints_take t
 have hil:=ints_len t
 have htl:t.length≤1000000000:=Nat.le_trans hV.le (by decide)
 have ht0:0<t.length:=by have:=hV.len60;omega
 have hrl:(recsT t).length=tabN t:=recsF_len t _
 have hn0:ati t 0=((tabN t:Nat):Int):=(tab_h hV).n0
 have hat00:(ints t).head? =some (.sc (.int .i64 ((tabN t:Nat):Int))):=by rw[List.head?_eq_getElem?,ints_at_ ht0,hn0]
 have hat01:(ints t)[0]? =some (.sc (.int .i64 ((tabN t:Nat):Int))):=by rw[ints_at_ ht0,hn0]
 obtain⟨A,hA⟩:∃A,addF t h w=A:=⟨_,rfl⟩
 obtain⟨k1,a1,f1⟩:=A
 obtain⟨⟨e1,e2⟩,he⟩:∃e,chosenF t w=e:=⟨_,rfl⟩
 have hch:=chosen_or hV w
 rw[he]at hch
 have hbk:f1=0→∃k,dropF a1 h w=(k,t,0):=fun h0=>by
  have:=drop_back (l:=t) (h:=h) (x:=w) hV (by rw[hA];exact h0)
  rw[hA]at this;exact this
 rcases hch with⟨hnil,hpair⟩ |hmem
 ·have hN0:tabN t=0:=by rw[←hrl,hnil];rfl
  have hdn:dropF t 0 0=(0,[],5):=dropF_none hV (by decide) (fun hx=>by
   have:=(mem_wds hV).2 hx
   rw[hnil]at this;exact absurd this (by simp))
  have q1:e1=0:=congrArg Prod.fst hpair
  have q2:e2=0:=congrArg Prod.snd hpair
  subst q1
  subst q2
  rw[hN0]at hat00 hat01
  by_cases hf:f1=0
  ·subst hf
   obtain⟨k,hd⟩:=hbk rfl
   repeat(first |(with_reducible first |apply Q0 |apply Q1 |apply Q2 |apply Q3 |apply Q4 |apply Q5 |apply Q6 |apply Q7 |apply Q8 |apply Q9 |apply QA |apply QB |apply QC |apply QD |apply QE |apply QF) |((first |(with_reducible apply QK rfl) |(apply QT;simp only[go_sem]<;>exact rfl));simp(disch:=omega)only[go_sem,hs,upd_ne,vcal15,ctBk_15,c15,vcal32,ctBk_32,h32,bcal47,ctBk_47,h47,bcal24,ctBk_24,c24,rdK,hit,hil,intsOf_ints,hA,bcal27,ctBk_27,c27,hd,vcal36,ctBk_36,c36,htl,bcal34,ctBk_34,c34,he,hdn,ht0,hat00,hat01];exact rfl;simp only[sB,sA,putA];exact rfl) |(apply QI;simp only[go_sem]<;>exact rfl;simp only[sB,sA,putA];exact rfl) |(apply QQ;simp only[evA,gB,gA];exact rfl) |((first |apply QX |apply QY);(first |rfl |decide |assumption)))
   (apply QZ;simp(disch:=omega)only[go_sem,Try.results10];exact rfl;simp only[packA];exact rfl)
   exact⟨fun q hq=>(by have hq2:q<s:=Nat.lt_of_not_le (fun hle=>hq (hs q hle));simp(disch:=omega)only[upd_ne]),Pub.sc _⟩
  ·repeat(first |(with_reducible first |apply Q0 |apply Q1 |apply Q2 |apply Q3 |apply Q4 |apply Q5 |apply Q6 |apply Q7 |apply Q8 |apply Q9 |apply QA |apply QB |apply QC |apply QD |apply QE |apply QF) |((first |(with_reducible apply QK rfl) |(apply QT;simp only[go_sem]<;>exact rfl));simp(disch:=omega)only[go_sem,hs,upd_ne,vcal15,ctBk_15,c15,vcal32,ctBk_32,h32,bcal47,ctBk_47,h47,bcal24,ctBk_24,c24,rdK,hit,hil,intsOf_ints,hA,hf,bcal27,ctBk_27,c27,vcal36,ctBk_36,c36,htl,bcal34,ctBk_34,c34,he,hdn,ht0,hat00,hat01];exact rfl;simp only[sB,sA,putA];exact rfl) |(apply QI;simp only[go_sem]<;>exact rfl;simp only[sB,sA,putA];exact rfl) |(apply QQ;simp only[evA,gB,gA];exact rfl) |((first |apply QX |apply QY);(first |rfl |decide |assumption)))
   (apply QZ;simp(disch:=omega)only[go_sem,Try.results10];exact rfl;simp only[packA];exact rfl)
   exact⟨fun q hq=>(by have hq2:q<s:=Nat.lt_of_not_le (fun hle=>hq (hs q hle));simp(disch:=omega)only[upd_ne]),Pub.sc _⟩
 ·obtain⟨k2,c,hdc,hcl,hac,hs1,hs2⟩:=chosen_back hV hmem
  dsimp only at hdc hac hs1
  obtain⟨⟨k3,d,f3⟩,hD⟩:∃D,addF c e1 e2=D:=⟨_,rfl⟩
  rw[hD]at hac hs1
  dsimp only at hac hs1
  subst hac
  by_cases hf:f1=0
  ·subst hf
   obtain⟨k,hd⟩:=hbk rfl
   repeat(first |(with_reducible first |apply Q0 |apply Q1 |apply Q2 |apply Q3 |apply Q4 |apply Q5 |apply Q6 |apply Q7 |apply Q8 |apply Q9 |apply QA |apply QB |apply QC |apply QD |apply QE |apply QF) |((first |(with_reducible apply QK rfl) |(apply QT;simp only[go_sem]<;>exact rfl));simp(disch:=omega)only[go_sem,hs,upd_ne,vcal15,ctBk_15,c15,vcal32,ctBk_32,h32,bcal47,ctBk_47,h47,bcal24,ctBk_24,c24,rdK,hit,hil,intsOf_ints,hA,bcal27,ctBk_27,c27,hd,vcal36,ctBk_36,c36,htl,bcal34,ctBk_34,c34,he,hdc,hD,vcal50,ctBk_50,c50,hs1,hs2];exact rfl;simp only[sB,sA,putA];exact rfl) |(apply QI;simp only[go_sem]<;>exact rfl;simp only[sB,sA,putA];exact rfl) |(apply QQ;simp only[evA,gB,gA];exact rfl) |((first |apply QX |apply QY);(first |rfl |decide |assumption)))
   (apply QZ;simp(disch:=omega)only[go_sem,Try.results10];exact rfl;simp only[packA];exact rfl)
   exact⟨fun q hq=>(by have hq2:q<s:=Nat.lt_of_not_le (fun hle=>hq (hs q hle));simp(disch:=omega)only[upd_ne]),Pub.sc _⟩
  ·repeat(first |(with_reducible first |apply Q0 |apply Q1 |apply Q2 |apply Q3 |apply Q4 |apply Q5 |apply Q6 |apply Q7 |apply Q8 |apply Q9 |apply QA |apply QB |apply QC |apply QD |apply QE |apply QF) |((first |(with_reducible apply QK rfl) |(apply QT;simp only[go_sem]<;>exact rfl));simp(disch:=omega)only[go_sem,hs,upd_ne,vcal15,ctBk_15,c15,vcal32,ctBk_32,h32,bcal47,ctBk_47,h47,bcal24,ctBk_24,c24,rdK,hit,hil,intsOf_ints,hA,hf,bcal27,ctBk_27,c27,vcal36,ctBk_36,c36,htl,bcal34,ctBk_34,c34,he,hdc,hD,vcal50,ctBk_50,c50,hs1,hs2];exact rfl;simp only[sB,sA,putA];exact rfl) |(apply QI;simp only[go_sem]<;>exact rfl;simp only[sB,sA,putA];exact rfl) |(apply QQ;simp only[evA,gB,gA];exact rfl) |((first |apply QX |apply QY);(first |rfl |decide |assumption)))
   (apply QZ;simp(disch:=omega)only[go_sem,Try.results10];exact rfl;simp only[packA];exact rfl)
   exact⟨fun q hq=>(by have hq2:q<s:=Nat.lt_of_not_le (fun hle=>hq (hs q hle));simp(disch:=omega)only[upd_ne]),Pub.sc _⟩
end Go.Proofs.Ytdcomhdadnhpnaa
