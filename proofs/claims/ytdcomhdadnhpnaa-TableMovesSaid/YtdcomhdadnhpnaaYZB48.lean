import Derived.Test.YtdcomhdadnhpnaaYZB45
import Derived.Test.YtdcomhdadnhpnaaYZB46
import Derived.Test.YtdcomhdadnhpnaaYZB47
import Derived.Test.YtdcomhdadnhpnaaYZT32
import Derived.Test.YtdcomhdadnhpnaaYZP28
set_option linter.all false
namespace Go.Proofs.Ytdcomhdadnhpnaa
open Go Go.Am Go.RowKit
attribute [local irreducible] wA opsQ opsLQ thenA blockA EndA
attribute [local go_sem] put5
theorem rdP_of {ρ:Inj} {O:Nat→Prop} {w:World} {L:List (Int×Int)} {v:Value} (h:Rep ρ O w (.dsl L.length (elsA L)) v):∃A c,v= .slice A L.length c∧RdP w A L:=by
 generalize hE:elsA L=E at h
 cases h with
 |dnil hl=>
  have h0:L.length=0:=by
   have:=elsA_len L
   rw[hE,List.length_nil]at this
   omega
  exact⟨_,_,rfl,fun h=>absurd h (by omega)⟩
 |dsl hcap ho hb hl hc hr=>
  refine⟨_,_,rfl,fun h0=>⟨_,_,rfl,hb,fun i hi=>?_⟩⟩
  have hel:=elsA_len L
  rw[hE]at hel
  rename_i b off cap vs
  have key:∀(j:Nat) (x:Int),E[j]? =some (.sc (.int .i64 x))→w.cell? ⟨b,off+j,none⟩=some (.int .i64 x):=fun j x hj=>by
   have hlt:j<vs.length:=by rw[hl];exact(List.getElem?_eq_some_iff.1 hj).1
   have hv:vs[j]? =some vs[j]:=List.getElem?_eq_getElem hlt
   have h1:=hr j _ _ hj hv
   have h2:=hc j _ hv
   rw[Rep.sc_iff.1 h1]at h2
   exact h2
  have k0:=elsA_at0 hi
  have k1:=elsA_at1 hi
  rw[hE]at k0 k1
  exact⟨key _ _ k0,by rw[Nat.add_assoc];exact key _ _ k1⟩
noncomputable def c60:List AV→AP AV
 | [a,b]=>rdK a fun t=>rdK b fun u=>if t.length≤1000000000∧u.length≤1000000000 then .ret (.tup [.sc (.bool (sameF t u).1),.sc (.int .i64 (sameF t u).2)])else .fail
 |_=>.fail
theorem a60 (args:List AV):ACall Try.prog 60 args (c60 args):=by
 intro ρ H w vs hR hA s r H' s' hm
 unfold c60 at hm
 split at hm
 ·obtain⟨v0,v1,rfl,hv0,hv1⟩:=reps2 hA
  obtain⟨t,hr,hm⟩:=rdK_data hR hv0 hm
  obtain⟨u,hr2,hm⟩:=rdK_data hR hv1 hm
  split at hm
  ·rename_i hc
   simp only[AP.run,Option.some.injEq,Prod.mk.injEq]at hm
   obtain⟨rfl,rfl,rfl⟩:=hm
   exact(rsame_rc t u hc.1 hc.2).acall hR (.cons hr (.cons hr2 .nil))
  ·simp[AP.run]at hm
 ·simp[AP.run]at hm
noncomputable def c61:List AV→AP AV
 | [t]=>rdK t fun l=>if l.length≤1000000000 then .ret (.sc (.int .i64 (slotsF l).2))else .fail
 |_=>.fail
theorem a61 (args:List AV):ACall Try.prog 61 args (c61 args):=by
 intro ρ H w vs hR hA s r H' s' hm
 unfold c61 at hm
 split at hm
 ·obtain⟨v0,rfl,hv0⟩:=reps1 hA
  obtain⟨l,hr,hm⟩:=rdK_data hR hv0 hm
  split at hm
  ·rename_i hc
   simp only[AP.run,Option.some.injEq,Prod.mk.injEq]at hm
   obtain⟨rfl,rfl,rfl⟩:=hm
   exact(rcheck_rc l hc).acall hR (.cons hr .nil)
  ·simp[AP.run]at hm
 ·simp[AP.run]at hm
noncomputable def c58:List AV→AP AV
 | [A]=>rdE2 A fun L=>if L.length≤1000000000 then .ret (.tup [.dsl (ofL freshL L).1.length (ints (ofL freshL L).1),.sc (.int .i64 (ofL freshL L).2)])else .fail
 |_=>.fail
theorem a58 (args:List AV):ACall Try.prog 58 args (c58 args):=by
 intro ρ H w vs hR hA s r H' s' hm
 unfold c58 at hm
 split at hm
 ·obtain⟨v0,rfl,hv0⟩:=reps1 hA
  obtain⟨L,hr,hm⟩:=rdE2_data hR hv0 hm
  split at hm
  ·rename_i hc
   simp only[AP.run,Option.some.injEq,Prod.mk.injEq]at hm
   obtain⟨rfl,rfl,rfl⟩:=hm
   obtain⟨A,c,rfl,hP⟩:=rdP_of hr
   refine(of_any A c L w hP hc (fun l h x hV h0=>addF_valid hV h0) fresh_v).mono ?_
   rintro e w' ⟨(⟨c',hc',rfl,hq⟩ |⟨B,cap,l',rfl,hw,hq⟩),hb⟩
   ·rw[hq]
    exact⟨_,ρ,rfl,step_of_below hR hb,Rep.tup_iff.2 ⟨_,rfl,.cons (.dnil (Nat.le_refl _)) (.cons (.sc _) .nil)⟩⟩
   ·rw[hq]
    exact⟨_,ρ,rfl,step_of_below hR hb,Rep.tup_iff.2 ⟨_,rfl,.cons (rep_rw hw (fun b hb=>hR.own_lt hb)) (.cons (.sc _) .nil)⟩⟩
  ·simp[AP.run]at hm
 ·simp[AP.run]at hm
noncomputable def c59:List AV→AP AV
 | [A]=>rdE2 A fun L=>if L.length≤1000000000 then .ret (.tup [.dsl (ofL freshL L).1.length (ints (ofL freshL L).1),.sc (.int .i64 (ofL freshL L).2)])else .fail
 |_=>.fail
theorem a59 (args:List AV):ACall Try.prog 59 args (c59 args):=by
 intro ρ H w vs hR hA s r H' s' hm
 unfold c59 at hm
 split at hm
 ·obtain⟨v0,rfl,hv0⟩:=reps1 hA
  obtain⟨L,hr,hm⟩:=rdE2_data hR hv0 hm
  split at hm
  ·rename_i hc
   simp only[AP.run,Option.some.injEq,Prod.mk.injEq]at hm
   obtain⟨rfl,rfl,rfl⟩:=hm
   exact(rmade_rc L hc).acall hR (.cons hr .nil)
  ·simp[AP.run]at hm
 ·simp[AP.run]at hm
noncomputable def c57d:List AV→AP AV
 | [t,A]=>rdK t fun l=>rdE2 A fun mv=>if l.length≤1000000000∧mv.length≤1000000000 then .ret (.tup [.dsl (rmoveF l mv).1.length (ints (rmoveF l mv).1),.sc (.int .i64 (rmoveF l mv).2)])else .fail
 |_=>.fail
theorem rmoveF_nil {l:List Int} {mv:List (Int×Int)} (hc:(rmoveF l mv).2≠0):(rmoveF l mv).1=[]:=by
 unfold rmoveF at hc ⊢
 split
 ·rfl
 ·rename_i h1
  rw[if_neg h1]at hc
  unfold rmoveX at hc ⊢
  split
  ·rfl
  ·rename_i h2
   rw[if_neg h2]at hc
   split
   ·rename_i h3
    rw[if_pos h3]at hc
    exact absurd rfl hc
   ·rfl
theorem a57d (args:List AV):ACall Try.prog 57 args (c57d args):=by
 intro ρ H w vs hR hA s r H' s' hm
 unfold c57d at hm
 split at hm
 ·obtain⟨v0,v1,rfl,hv0,hv1⟩:=reps2 hA
  obtain⟨l,hr,hm⟩:=rdK_data hR hv0 hm
  obtain⟨mv,hr2,hm⟩:=rdE2_data hR hv1 hm
  split at hm
  ·rename_i hc
   simp only[AP.run,Option.some.injEq,Prod.mk.injEq]at hm
   obtain⟨rfl,rfl,rfl⟩:=hm
   exact((rmove_ro l mv hc.1 hc.2).rc fun a H h=>h.exp rmoveF_nil).acall hR (.cons hr (.cons hr2 .nil))
  ·simp[AP.run]at hm
 ·simp[AP.run]at hm
section
variable (L:List (Int×Int)) (ops:List OpT) (b:Bool) (x y:Int) (L2:List (Int×Int)) (ops2:List OpT) (b2:Bool) (x2 y2:Int)
open Classical in
noncomputable def c32q (args:List AV):AP AV:=if args=[playG L ops b x y]then c32p L ops b x y args else c32p L2 ops2 b2 x2 y2 args
open Classical in
noncomputable def c33q (args:List AV):AP AV:=if args=[playG L ops b x y]then c33p L ops b x y args else c33p L2 ops2 b2 x2 y2 args
theorem a32q (args:List AV):ACall Try.prog 32 args (c32q L ops b x y L2 ops2 b2 x2 y2 args):=by
 unfold c32q
 split
 ·exact a32p L ops b x y args
 ·exact a32p L2 ops2 b2 x2 y2 args
theorem a33q (args:List AV):ACall Try.prog 33 args (c33q L ops b x y L2 ops2 b2 x2 y2 args):=by
 unfold c33q
 split
 ·exact a33p L ops b x y args
 ·exact a33p L2 ops2 b2 x2 y2 args
theorem q32:c32q L ops b x y L2 ops2 b2 x2 y2 [playG L ops b x y]= .ret (.sc (.bool (decide (L.length≤300∧ops.length≤300)))):=by
 unfold c32q;rw[if_pos rfl];exact if_pos rfl
theorem playG_inj {L L2:List (Int×Int)} {ops ops2:List OpT} {b b2:Bool} {x y x2 y2:Int} (h:[playG L2 ops2 b2 x2 y2]=[playG L ops b x y]):L2.length=L.length∧ops2.length=ops.length:=by
 have h1:=List.cons.inj h
 have h2:[AV.dsl L2.length (elsA L2),.dsl ops2.length (opsA ops2),.sc (.bool b2),.sc (.int .i64 x2),.sc (.int .i64 y2)]=[.dsl L.length (elsA L),.dsl ops.length (opsA ops),.sc (.bool b),.sc (.int .i64 x),.sc (.int .i64 y)]:=AV.agg.inj h1.1
 injection h2 with h3 h4
 injection h4 with h5 _
 injection h3 with h6 _
 injection h5 with h7 _
 exact⟨h6,h7⟩
theorem q32':c32q L ops b x y L2 ops2 b2 x2 y2 [playG L2 ops2 b2 x2 y2]= .ret (.sc (.bool (decide (L2.length≤300∧ops2.length≤300)))):=by
 unfold c32q
 split
 ·rename_i e
  obtain⟨e1,e2⟩:=playG_inj e
  rw[e1,e2,e]
  exact if_pos rfl
 ·exact if_pos rfl
theorem q33 (hL:L.length≤300) (ho:ops.length≤300):c33q L ops b x y L2 ops2 b2 x2 y2 [playG L ops b x y]= .ret (.dsl (bentF L ops b x y).length (ints (bentF L ops b x y))):=by
 unfold c33q;rw[if_pos rfl];exact if_pos ⟨rfl,by omega,by omega⟩
theorem q33' (hL:L2.length≤300) (ho:ops2.length≤300):∃u:List Int,u.length≤1000000000∧c33q L ops b x y L2 ops2 b2 x2 y2 [playG L2 ops2 b2 x2 y2]= .ret (.dsl u.length (ints u)):=by
 unfold c33q
 split
 ·rename_i e
  obtain⟨e1,e2⟩:=playG_inj e
  exact⟨bentF L ops b x y,bentF_le _ _ _ _ _,by rw[e];exact if_pos ⟨rfl,by omega,by omega⟩⟩
 ·exact⟨bentF L2 ops2 b2 x2 y2,bentF_le _ _ _ _ _,if_pos ⟨rfl,by omega,by omega⟩⟩
noncomputable def ctMv:CT:=fun f args=>if f=32 then c32q L ops b x y L2 ops2 b2 x2 y2 args else if f=33 then c33q L ops b x y L2 ops2 b2 x2 y2 args else if f=50 then c50 args else if f=56 then c56 args else if f=57 then c57d args else if f=58 then c58 args else if f=59 then c59 args else if f=60 then c60 args else if f=61 then c61 args else ctT f args
theorem ctMv_ok:CTok Try.prog (ctMv L ops b x y L2 ops2 b2 x2 y2):=fun f args=>by
 unfold ctMv
 split
 ·rename_i e;subst e;exact a32q L ops b x y L2 ops2 b2 x2 y2 args
 split
 ·rename_i e;subst e;exact a33q L ops b x y L2 ops2 b2 x2 y2 args
 split
 ·rename_i e;subst e;exact a50 args
 split
 ·rename_i e;subst e;exact a56 args
 split
 ·rename_i e;subst e;exact a57d args
 split
 ·rename_i e;subst e;exact a58 args
 split
 ·rename_i e;subst e;exact a59 args
 split
 ·rename_i e;subst e;exact a60 args
 split
 ·rename_i e;subst e;exact a61 args
 ·exact ctT_ok f args
variable (a:List AV)
theorem ctMv_15:ctMv L ops b x y L2 ops2 b2 x2 y2 15 a=c15 a:=rfl
theorem ctMv_32:ctMv L ops b x y L2 ops2 b2 x2 y2 32 a=c32q L ops b x y L2 ops2 b2 x2 y2 a:=rfl
theorem ctMv_33:ctMv L ops b x y L2 ops2 b2 x2 y2 33 a=c33q L ops b x y L2 ops2 b2 x2 y2 a:=rfl
theorem ctMv_36:ctMv L ops b x y L2 ops2 b2 x2 y2 36 a=c36 a:=rfl
theorem ctMv_50:ctMv L ops b x y L2 ops2 b2 x2 y2 50 a=c50 a:=rfl
theorem ctMv_56:ctMv L ops b x y L2 ops2 b2 x2 y2 56 a=c56 a:=rfl
theorem ctMv_57:ctMv L ops b x y L2 ops2 b2 x2 y2 57 a=c57d a:=rfl
theorem ctMv_58:ctMv L ops b x y L2 ops2 b2 x2 y2 58 a=c58 a:=rfl
theorem ctMv_59:ctMv L ops b x y L2 ops2 b2 x2 y2 59 a=c59 a:=rfl
theorem ctMv_60:ctMv L ops b x y L2 ops2 b2 x2 y2 60 a=c60 a:=rfl
theorem ctMv_61:ctMv L ops b x y L2 ops2 b2 x2 y2 61 a=c61 a:=rfl
end
theorem vcal15:callable Try.prog 15=true:=by kernel_rfl
theorem vcal32:callable Try.prog 32=true:=by kernel_rfl
theorem vcal33:callable Try.prog 33=true:=by kernel_rfl
theorem vcal36:callable Try.prog 36=true:=by kernel_rfl
theorem vcal50:callable Try.prog 50=true:=by kernel_rfl
theorem vcal56:callable Try.prog 56=true:=by kernel_rfl
theorem vcal57:callable Try.prog 57=true:=by kernel_rfl
theorem vcal58:callable Try.prog 58=true:=by kernel_rfl
theorem vcal59:callable Try.prog 59=true:=by kernel_rfl
theorem vcal60:callable Try.prog 60=true:=by kernel_rfl
theorem vcal61:callable Try.prog 61=true:=by kernel_rfl
theorem ofL_le:∀(L:List (Int×Int)) (l:List Int),l.length≤1000000000→(ofL l L).1.length≤1000000000
 | [],l,h=>h
 |e::L,l,h=>by
  unfold ofL
  split
  ·exact ofL_le L _ (addF_le _ _ _)
  ·simp
set_option maxRecDepth 100000 in
set_option maxHeartbeats 16000000 in
theorem tableMoves_call (L:List (Int×Int)) (ops:List OpT) (b:Bool) (x y:Int) (L2:List (Int×Int)) (ops2:List OpT) (b2:Bool) (x2 y2:Int) (mv more:List (Int×Int)):
  ACall Try.prog 14 [playG L ops b x y,playG L2 ops2 b2 x2 y2,.dsl mv.length (elsA mv),.dsl more.length (elsA more)] (.ret (.sc (.bool true))):=by
 refine acall_pure' hmix (ctMv_ok L ops b x y L2 ops2 b2 x2 y2) Try.func14 rfl (by kernel_rfl) (fun E s hs=>?_)
 simp(maxSteps:=300000)only[begA,Try.ntmps14,List.replicate_succ,List.replicate_zero,List.length_cons,List.length_nil,List.cons_append,List.nil_append]
 have h32:=q32 L ops b x y L2 ops2 b2 x2 y2
 have h32':=q32' L ops b x y L2 ops2 b2 x2 y2
 by_cases hsm:L.length≤300∧ops.length≤300
 rotate_left
 ·rw[decide_eq_false hsm]at h32
  repeat(first |(with_reducible first |apply Q0 |apply Q1 |apply Q2 |apply Q3 |apply Q4 |apply Q5 |apply Q6 |apply Q7 |apply Q8 |apply Q9 |apply QA |apply QB |apply QC |apply QD |apply QE |apply QF) |((first |(with_reducible apply QK rfl) |(apply QT;simp only[go_sem]<;>exact rfl));simp(disch:=omega)only[go_sem,hs,upd_ne,vcal15,ctMv_15,c15,vcal32,ctMv_32,h32];exact rfl;simp only[sB,sA,putA];exact rfl) |(apply QI;simp only[go_sem]<;>exact rfl;simp only[sB,sA,putA];exact rfl) |(apply QQ;simp only[evA,gB,gA];exact rfl) |((first |apply QX |apply QY);(first |rfl |decide |assumption)))
  (apply QZ;simp(disch:=omega)only[go_sem,Try.results14];exact rfl;simp only[packA];exact rfl)
  exact⟨fun q hq=>(by have hq2:q<s:=Nat.lt_of_not_le (fun hle=>hq (hs q hle));simp(disch:=omega)only[upd_ne]),Pub.sc _⟩
 rw[decide_eq_true hsm]at h32
 by_cases hsm2:L2.length≤300∧ops2.length≤300
 rotate_left
 ·rw[decide_eq_false hsm2]at h32'
  repeat(first |(with_reducible first |apply Q0 |apply Q1 |apply Q2 |apply Q3 |apply Q4 |apply Q5 |apply Q6 |apply Q7 |apply Q8 |apply Q9 |apply QA |apply QB |apply QC |apply QD |apply QE |apply QF) |((first |(with_reducible apply QK rfl) |(apply QT;simp only[go_sem]<;>exact rfl));simp(disch:=omega)only[go_sem,hs,upd_ne,vcal15,ctMv_15,c15,vcal32,ctMv_32,h32,h32'];exact rfl;simp only[sB,sA,putA];exact rfl) |(apply QI;simp only[go_sem]<;>exact rfl;simp only[sB,sA,putA];exact rfl) |(apply QQ;simp only[evA,gB,gA];exact rfl) |((first |apply QX |apply QY);(first |rfl |decide |assumption)))
  (apply QZ;simp(disch:=omega)only[go_sem,Try.results14];exact rfl;simp only[packA];exact rfl)
  exact⟨fun q hq=>(by have hq2:q<s:=Nat.lt_of_not_le (fun hle=>hq (hs q hle));simp(disch:=omega)only[upd_ne]),Pub.sc _⟩
 rw[decide_eq_true hsm2]at h32'
 by_cases hm1:(300:Int)<((mv.length:Nat):Int)
 ·repeat(first |(with_reducible first |apply Q0 |apply Q1 |apply Q2 |apply Q3 |apply Q4 |apply Q5 |apply Q6 |apply Q7 |apply Q8 |apply Q9 |apply QA |apply QB |apply QC |apply QD |apply QE |apply QF) |((first |(with_reducible apply QK rfl) |(apply QT;simp only[go_sem]<;>exact rfl));simp(disch:=omega)only[go_sem,hs,upd_ne,vcal15,ctMv_15,c15,vcal32,ctMv_32,h32,h32',hm1];exact rfl;simp only[sB,sA,putA];exact rfl) |(apply QI;simp only[go_sem]<;>exact rfl;simp only[sB,sA,putA];exact rfl) |(apply QQ;simp only[evA,gB,gA];exact rfl) |((first |apply QX |apply QY);(first |rfl |decide |assumption)))
  (apply QZ;simp(disch:=omega)only[go_sem,Try.results14];exact rfl;simp only[packA];exact rfl)
  exact⟨fun q hq=>(by have hq2:q<s:=Nat.lt_of_not_le (fun hle=>hq (hs q hle));simp(disch:=omega)only[upd_ne]),Pub.sc _⟩
 by_cases hm2:(300:Int)<((more.length:Nat):Int)
 ·repeat(first |(with_reducible first |apply Q0 |apply Q1 |apply Q2 |apply Q3 |apply Q4 |apply Q5 |apply Q6 |apply Q7 |apply Q8 |apply Q9 |apply QA |apply QB |apply QC |apply QD |apply QE |apply QF) |((first |(with_reducible apply QK rfl) |(apply QT;simp only[go_sem]<;>exact rfl));simp(disch:=omega)only[go_sem,hs,upd_ne,vcal15,ctMv_15,c15,vcal32,ctMv_32,h32,h32',hm1,hm2];exact rfl;simp only[sB,sA,putA];exact rfl) |(apply QI;simp only[go_sem]<;>exact rfl;simp only[sB,sA,putA];exact rfl) |(apply QQ;simp only[evA,gB,gA];exact rfl) |((first |apply QX |apply QY);(first |rfl |decide |assumption)))
  (apply QZ;simp(disch:=omega)only[go_sem,Try.results14];exact rfl;simp only[packA];exact rfl)
  exact⟨fun q hq=>(by have hq2:q<s:=Nat.lt_of_not_le (fun hle=>hq (hs q hle));simp(disch:=omega)only[upd_ne]),Pub.sc _⟩
 have h33:=q33 L ops b x y L2 ops2 b2 x2 y2 hsm.1 hsm.2
 obtain⟨u,hul,h33'⟩:=q33' L ops b x y L2 ops2 b2 x2 y2 hsm2.1 hsm2.2
 have htl:=bentF_le L ops b x y
 generalize bentF L ops b x y=t at*
 have hmvl:mv.length≤1000000000:=by omega
 have hmol:more.length≤1000000000:=by omega
 have hol:=ofL_le more freshL freshL_le
 have hml:=rmoveF_le t mv
 have hrd1:∀k,rdE2 (.dsl mv.length (elsA mv)) k=k mv:=fun k=>rdE2_dsl mv k
 have hrd2:∀k,rdE2 (.dsl more.length (elsA more)) k=k more:=fun k=>rdE2_dsl more k
 by_cases hV:ValidL t
 ·have hst:sameF t t=(true,0):=sameF_yes hV hV ⟨rfl,fun e he=>he⟩
  have hsl:(slotsF t).2=0:=by rw[slotsF_ok hV]
  repeat(first |(with_reducible first |apply Q0 |apply Q1 |apply Q2 |apply Q3 |apply Q4 |apply Q5 |apply Q6 |apply Q7 |apply Q8 |apply Q9 |apply QA |apply QB |apply QC |apply QD |apply QE |apply QF) |((first |(with_reducible apply QK rfl) |(apply QT;simp only[go_sem]<;>exact rfl));simp(disch:=omega)only[go_sem,hs,upd_ne,vcal15,ctMv_15,c15,vcal32,ctMv_32,h32,h32',hm1,hm2,vcal33,ctMv_33,h33,h33',vcal56,ctMv_56,c56,rdK_dsl,hrd1,hrd2,hmvl,vcal57,ctMv_57,c57d,htl,vcal36,ctMv_36,c36,hml,vcal58,ctMv_58,c58,hmol,vcal59,ctMv_59,c59,hol,vcal50,ctMv_50,c50,vcal60,ctMv_60,c60,hul,vcal61,ctMv_61,c61,hst,hsl];exact rfl;simp only[sB,sA,putA];exact rfl) |(apply QI;simp only[go_sem]<;>exact rfl;simp only[sB,sA,putA];exact rfl) |(apply QQ;simp only[evA,gB,gA];exact rfl) |((first |apply QX |apply QY);(first |rfl |decide |assumption)))
  (apply QZ;simp(disch:=omega)only[go_sem,Try.results14];exact rfl;simp only[packA];exact rfl)
  exact⟨fun q hq=>(by have hq2:q<s:=Nat.lt_of_not_le (fun hle=>hq (hs q hle));simp(disch:=omega)only[upd_ne]),Pub.sc _⟩
 ·have hst:sameF t t=(false,600):=sameF_bad (.inl hV)
  have hsl:(slotsF t).2=600:=by rw[slotsF_bad hV]
  repeat(first |(with_reducible first |apply Q0 |apply Q1 |apply Q2 |apply Q3 |apply Q4 |apply Q5 |apply Q6 |apply Q7 |apply Q8 |apply Q9 |apply QA |apply QB |apply QC |apply QD |apply QE |apply QF) |((first |(with_reducible apply QK rfl) |(apply QT;simp only[go_sem]<;>exact rfl));simp(disch:=omega)only[go_sem,hs,upd_ne,vcal15,ctMv_15,c15,vcal32,ctMv_32,h32,h32',hm1,hm2,vcal33,ctMv_33,h33,h33',vcal56,ctMv_56,c56,rdK_dsl,hrd1,hrd2,hmvl,vcal57,ctMv_57,c57d,htl,vcal36,ctMv_36,c36,hml,vcal58,ctMv_58,c58,hmol,vcal59,ctMv_59,c59,hol,vcal50,ctMv_50,c50,vcal60,ctMv_60,c60,hul,vcal61,ctMv_61,c61,hst,hsl];exact rfl;simp only[sB,sA,putA];exact rfl) |(apply QI;simp only[go_sem]<;>exact rfl;simp only[sB,sA,putA];exact rfl) |(apply QQ;simp only[evA,gB,gA];exact rfl) |((first |apply QX |apply QY);(first |rfl |decide |assumption)))
  (apply QZ;simp(disch:=omega)only[go_sem,Try.results14];exact rfl;simp only[packA];exact rfl)
  exact⟨fun q hq=>(by have hq2:q<s:=Nat.lt_of_not_le (fun hle=>hq (hs q hle));simp(disch:=omega)only[upd_ne]),Pub.sc _⟩
end Go.Proofs.Ytdcomhdadnhpnaa
