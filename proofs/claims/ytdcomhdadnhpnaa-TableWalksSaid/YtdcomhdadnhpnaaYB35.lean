import Derived.Test.YtdcomhdadnhpnaaYAB
set_option linter.all false
namespace Go.Proofs.Ytdcomhdadnhpnaa
open Go Go.Am Go.RowKit
attribute [local irreducible] wA opsQ opsLQ thenA blockA EndA
attribute [local go_sem] put5
theorem addF_nil {l:List Int} {h x:Int} (hc:(addF l h x).2.2≠0):(addF l h x).2.1=[]:=by
 unfold addF at hc ⊢
 split
 ·rfl
 ·split
  ·rfl
  ·rename_i h1 h2
   rw[if_neg h1,if_neg h2]at hc
   exact if_neg hc
theorem dropF_nil {l:List Int} {h x:Int} (hc:(dropF l h x).2.2≠0):(dropF l h x).2.1=[]:=by
 by_cases hV:ValidL l
 rotate_left
 ·rw[dropF_600 hV]
 by_cases hh:¬(0≤h∧h≤2147483647)
 ·rw[dropF_bad hV hh]
 replace hh:0≤h∧h≤2147483647:=Decidable.not_not.1 hh
 by_cases hx:x∈wds l h
 ·obtain⟨k,l',C',_,e⟩:=dropF_ok hV hh (hasR_wds.2 hx)
  rw[e]at hc
  exact absurd rfl hc
 ·rw[dropF_none hV hh hx]
theorem putF_nil {l:List Int} {h x v:Int} (hc:(putF l h x v).2≠0):(putF l h x v).1=[]:=by
 by_cases hV:ValidL l
 rotate_left
 ·rw[putF_600 hV]
 by_cases hh:¬(0≤h∧h≤2147483647)
 ·rw[putF_bad hV hh]
 replace hh:0≤h∧h≤2147483647:=Decidable.not_not.1 hh
 by_cases ho:0≤ofF (recsT l) (chsT l) (h,x)
 rotate_left
 ·rw[putF_none hV hh (mt (of_wds hV).2 ho)]
 by_cases hb:v≠x∧0≤ofF (recsT l) (chsT l) (h,v)
 ·rw[putF_twice hV hh ((of_wds hV).1 ho) hb.1 ((of_wds hV).1 hb.2)]
 obtain⟨r,e1,_⟩:=of_rec hV ho
 have e:=(put_of hV hh ho (by
  rcases Decidable.em (v=x)with e |e
  ·exact .inl e
  ·exact .inr (fun k=>hb ⟨e,k⟩)) e1).1
 rw[e]at hc
 exact absurd rfl hc
theorem OwnT.exp {c:Int} {u:List Int} {T:List Value} {a:AV} {H:AHp} (h:OwnT (ansX c u) T a H) (hn:c≠0→u=[]):Exp H a (.tup (.dsl u.length (ints u)::T.map .sc)):=by
 obtain⟨x,rfl,hx⟩:=h
 have h0:Exp H x (.dsl u.length (ints u)):=by
  unfold ansX at hx
  split at hx
  ·obtain⟨nm,ver,rfl,hH⟩:=hx
   exact Exp.ints hH
  ·rename_i hc
   have hx:x= .sc (.slice none 0 0):=hx
   rw[hx,hn hc]
   exact .nil
 refine .tup (by simp) (fun i p q hp hq=>?_)
 cases i with
 |zero=>simp at hp hq;subst hp;subst hq;exact h0
 |succ i=>
  simp only[List.getElem?_cons_succ]at hp hq
  rw[hp]at hq;cases hq
  obtain⟨v,_,rfl⟩:=List.mem_map.1 (List.mem_of_getElem? hp)
  exact .sc _
noncomputable def c35d:List AV→AP AV
 | [t,.sc (.int .i64 h),.sc (.int .i64 x)]=>rdK t fun l=>if l.length≤1000000000 then .ret (.tup [.dsl (addF l h x).2.1.length (ints (addF l h x).2.1),.sc (.int .i64 (addF l h x).1),.sc (.int .i64 (addF l h x).2.2)])else .fail
 |_=>.fail
noncomputable def c37d:List AV→AP AV
 | [t,.sc (.int .i64 h),.sc (.int .i64 x)]=>rdK t fun l=>if l.length≤1000000000 then .ret (.tup [.dsl (dropF l h x).2.1.length (ints (dropF l h x).2.1),.sc (.int .i64 (dropF l h x).1),.sc (.int .i64 (dropF l h x).2.2)])else .fail
 |_=>.fail
noncomputable def c39d:List AV→AP AV
 | [t,.sc (.int .i64 h),.sc (.int .i64 x),.sc (.int .i64 v)]=>rdK t fun l=>if l.length≤1000000000 then .ret (.tup [.dsl (putF l h x v).1.length (ints (putF l h x v).1),.sc (.int .i64 (putF l h x v).2)])else .fail
 |_=>.fail
theorem a35d (args:List AV):ACall Try.prog 35 args (c35d args):=by
 intro ρ H w vs hR hA s r H' s' hm
 unfold c35d at hm
 split at hm
 ·obtain⟨v0,v1,v2,rfl,hv0,hv1,hv2⟩:=arg3 hA
  obtain⟨l,hr,hm⟩:=rdK_data hR hv0 hm
  split at hm
  ·rename_i hc
   obtain rfl:=Rep.sc_iff.1 hv1
   obtain rfl:=Rep.sc_iff.1 hv2
   simp only[AP.run,Option.some.injEq,Prod.mk.injEq]at hm
   obtain⟨rfl,rfl,rfl⟩:=hm
   exact((radd_ro l _ _ hc).rc fun a H h=>h.exp addF_nil).acall hR (.cons hr (.cons (.sc _) (.cons (.sc _) .nil)))
  ·simp[AP.run]at hm
 ·simp[AP.run]at hm
theorem a37d (args:List AV):ACall Try.prog 37 args (c37d args):=by
 intro ρ H w vs hR hA s r H' s' hm
 unfold c37d at hm
 split at hm
 ·obtain⟨v0,v1,v2,rfl,hv0,hv1,hv2⟩:=arg3 hA
  obtain⟨l,hr,hm⟩:=rdK_data hR hv0 hm
  split at hm
  ·rename_i hc
   obtain rfl:=Rep.sc_iff.1 hv1
   obtain rfl:=Rep.sc_iff.1 hv2
   simp only[AP.run,Option.some.injEq,Prod.mk.injEq]at hm
   obtain⟨rfl,rfl,rfl⟩:=hm
   exact((rdrop_ro l _ _ hc).rc fun a H h=>h.exp dropF_nil).acall hR (.cons hr (.cons (.sc _) (.cons (.sc _) .nil)))
  ·simp[AP.run]at hm
 ·simp[AP.run]at hm
theorem a39d (args:List AV):ACall Try.prog 39 args (c39d args):=by
 intro ρ H w vs hR hA s r H' s' hm
 unfold c39d at hm
 split at hm
 ·obtain⟨v0,v1,v2,v3,rfl,hv0,hv1,hv2,hv3⟩:=arg4 hA
  obtain⟨l,hr,hm⟩:=rdK_data hR hv0 hm
  split at hm
  ·rename_i hc
   obtain rfl:=Rep.sc_iff.1 hv1
   obtain rfl:=Rep.sc_iff.1 hv2
   obtain rfl:=Rep.sc_iff.1 hv3
   simp only[AP.run,Option.some.injEq,Prod.mk.injEq]at hm
   obtain⟨rfl,rfl,rfl⟩:=hm
   exact((rput_ro l _ _ _ hc).rc fun a H h=>h.exp putF_nil).acall hR (.cons hr (.cons (.sc _) (.cons (.sc _) (.cons (.sc _) .nil))))
  ·simp[AP.run]at hm
 ·simp[AP.run]at hm
noncomputable def c38:List AV→AP AV
 | [t,.sc (.int .i64 h),.sc (.int .i64 x),.sc (.int .i64 v)]=>rdK t fun l=>.ret (.tup [.dsl (putF l h x v).1.length (ints (putF l h x v).1),.sc (.int .i64 (putF l h x v).2)])
 |_=>.fail
theorem a38 (args:List AV):ACall Try.prog 38 args (c38 args):=by
 intro ρ H w vs hR hA s r H' s' hm
 unfold c38 at hm
 split at hm
 ·rename_i t h x v
  obtain⟨v0,tl,rfl,hv0,hA1⟩:=Reps.uncons hA
  obtain⟨v1,tl1,rfl,hv1,hA2⟩:=Reps.uncons hA1
  obtain⟨v2,tl2,rfl,hv2,hA3⟩:=Reps.uncons hA2
  obtain⟨v3,tl3,rfl,hv3,hA4⟩:=Reps.uncons hA3
  obtain rfl:=reps0 hA4
  obtain rfl:=Rep.sc_iff.1 hv1
  obtain rfl:=Rep.sc_iff.1 hv2
  obtain rfl:=Rep.sc_iff.1 hv3
  obtain⟨l,A,c,rfl,hr,_,hm⟩:=rdK_ok hR hv0 hm
  simp only[AP.run,Option.some.injEq,Prod.mk.injEq]at hm
  obtain⟨rfl,rfl,rfl⟩:=hm
  refine(putX_any A c l h x v w hr).mono ?_
  rintro e w' ⟨(⟨c,hc,rfl,hq⟩ |⟨B,cap,l',rfl,hw,hq⟩),hb⟩
  ·rw[putF_eq hq]
   exact⟨_,ρ,rfl,step_of_below hR hb,Rep.tup_iff.2 ⟨_,rfl,.cons (.dnil (Nat.le_refl _)) (.cons (.sc _) .nil)⟩⟩
  ·rw[putF_eq hq]
   exact⟨_,ρ,rfl,step_of_below hR hb,Rep.tup_iff.2 ⟨_,rfl,.cons (rep_rw hw (fun b hb=>hR.own_lt hb)) (.cons (.sc _) .nil)⟩⟩
 ·simp[AP.run]at hm
open Classical in
noncomputable def c32p (L:List (Int×Int)) (ops:List OpT) (b:Bool) (x y:Int) (args:List AV):AP AV:=
 if args=[playG L ops b x y]then .ret (.sc (.bool (decide (L.length≤300∧ops.length≤300))))else .fail
open Classical in
noncomputable def c33p (L:List (Int×Int)) (ops:List OpT) (b:Bool) (x y:Int) (args:List AV):AP AV:=
 if args=[playG L ops b x y]∧L.length≤9223372036854775806∧ops.length≤9223372036854775806 then .ret (.dsl (bentF L ops b x y).length (ints (bentF L ops b x y)))else .fail
section
variable (L:List (Int×Int)) (ops:List OpT) (b:Bool) (x y:Int)
theorem a32p (args:List AV):ACall Try.prog 32 args (c32p L ops b x y args):=by
 intro ρ H w vs hR hA s r H' s' hm
 unfold c32p at hm
 split at hm
 ·rename_i h
  subst h
  obtain⟨v0,rfl,hv0⟩:=reps1 hA
  simp only[AP.run,Option.some.injEq,Prod.mk.injEq]at hm
  obtain⟨rfl,rfl,rfl⟩:=hm
  exact(small_rc L ops b x y).acall hR (.cons (play_data hv0) .nil)
 ·simp[AP.run]at hm
theorem a33p (args:List AV):ACall Try.prog 33 args (c33p L ops b x y args):=by
 intro ρ H w vs hR hA s r H' s' hm
 unfold c33p at hm
 split at hm
 ·rename_i h
  obtain⟨rfl,hL,ho⟩:=h
  obtain⟨v0,rfl,hv0⟩:=reps1 hA
  simp only[AP.run,Option.some.injEq,Prod.mk.injEq]at hm
  obtain⟨rfl,rfl,rfl⟩:=hm
  exact(bent_rc L ops b x y hL ho).acall hR (.cons (play_data hv0) .nil)
 ·simp[AP.run]at hm
noncomputable def ctU:CT:=fun f args=>if f=32 then c32p L ops b x y args else if f=33 then c33p L ops b x y args else if f=34 then c34 args else if f=35 then c35d args else if f=37 then c37d args else if f=38 then c38 args else if f=39 then c39d args else ctT f args
theorem ctU_ok:CTok Try.prog (ctU L ops b x y):=fun f args=>by
 unfold ctU
 split
 ·rename_i e;subst e;exact a32p L ops b x y args
 split
 ·rename_i e;subst e;exact a33p L ops b x y args
 split
 ·rename_i e;subst e;exact a34 args
 split
 ·rename_i e;subst e;exact a35d args
 split
 ·rename_i e;subst e;exact a37d args
 split
 ·rename_i e;subst e;exact a38 args
 split
 ·rename_i e;subst e;exact a39d args
 ·exact ctT_ok f args
variable (a:List AV)
theorem ctU_15:ctU L ops b x y 15 a=c15 a:=rfl
theorem ctU_24:ctU L ops b x y 24 a=c24 a:=rfl
theorem ctU_27:ctU L ops b x y 27 a=c27 a:=rfl
theorem ctU_32:ctU L ops b x y 32 a=c32p L ops b x y a:=rfl
theorem ctU_33:ctU L ops b x y 33 a=c33p L ops b x y a:=rfl
theorem ctU_34:ctU L ops b x y 34 a=c34 a:=rfl
theorem ctU_35:ctU L ops b x y 35 a=c35d a:=rfl
theorem ctU_36:ctU L ops b x y 36 a=c36 a:=rfl
theorem ctU_37:ctU L ops b x y 37 a=c37d a:=rfl
theorem ctU_38:ctU L ops b x y 38 a=c38 a:=rfl
theorem ctU_39:ctU L ops b x y 39 a=c39d a:=rfl
end
theorem cal15:callable Try.prog 15=true:=by kernel_rfl
theorem cal24:callable Try.prog 24=true:=by kernel_rfl
theorem cal27:callable Try.prog 27=true:=by kernel_rfl
theorem cal32:callable Try.prog 32=true:=by kernel_rfl
theorem cal33:callable Try.prog 33=true:=by kernel_rfl
theorem cal36:callable Try.prog 36=true:=by kernel_rfl
theorem cal38:callable Try.prog 38=true:=by kernel_rfl
set_option maxRecDepth 100000 in
set_option maxHeartbeats 8000000 in
theorem tableAdds_call (L:List (Int×Int)) (ops:List OpT) (b:Bool) (x y h w v:Int) (near:Bool):
  ACall Try.prog 6 [playG L ops b x y,.sc (.int .i64 h),.sc (.int .i64 w),.sc (.int .i64 v),.sc (.bool near)] (.ret (.sc (.bool true))):=by
 refine acall_pure' hmix (ctU_ok L ops b x y) Try.func6 rfl (by kernel_rfl) (fun E s hs=>?_)
 simp(maxSteps:=300000)only[begA,Try.ntmps6,List.replicate_succ,List.replicate_zero,List.length_cons,List.length_nil,List.cons_append,List.nil_append]
 have h32:c32p L ops b x y [playG L ops b x y]= .ret (.sc (.bool (decide (L.length≤300∧ops.length≤300)))):=if_pos rfl
 by_cases hsm:L.length≤300∧ops.length≤300
 rotate_left
 ·rw[decide_eq_false hsm]at h32
  repeat(first |(with_reducible first |apply Q0 |apply Q1 |apply Q2 |apply Q3 |apply Q4 |apply Q5 |apply Q6 |apply Q7 |apply Q8 |apply Q9 |apply QA |apply QB |apply QC |apply QD |apply QE |apply QF) |((first |(with_reducible apply QK rfl) |(apply QT;simp only[go_sem]<;>exact rfl));simp(disch:=omega)only[go_sem,hs,upd_ne,cal15,ctU_15,c15,cal32,ctU_32,h32];exact rfl;simp only[sB,sA,putA];exact rfl) |(apply QI;simp only[go_sem]<;>exact rfl;simp only[sB,sA,putA];exact rfl) |(apply QQ;simp only[evA,gB,gA];exact rfl) |((first |apply QX |apply QY);(first |rfl |decide |assumption)))
  (apply QZ;simp(disch:=omega)only[go_sem,Try.results6];exact rfl;simp only[packA];exact rfl)
  exact⟨fun q hq=>(by have hq2:q<s:=Nat.lt_of_not_le (fun hle=>hq (hs q hle));simp(disch:=omega)only[upd_ne]),Pub.sc _⟩
 rw[decide_eq_true hsm]at h32
 have h33:c33p L ops b x y [playG L ops b x y]= .ret (.dsl (bentF L ops b x y).length (ints (bentF L ops b x y))):=if_pos ⟨rfl,by omega,by omega⟩
 have hl:=bentF_le L ops b x y
 generalize bentF L ops b x y=t at*
 cases near with
 |true=>
  obtain⟨h1,hh1⟩:∃h1,(chosenF t w).1=h1:=⟨_,rfl⟩
  obtain⟨w1,hw1⟩:∃w1,(chosenF t w).2=w1:=⟨_,rfl⟩
  have hA:=addF_le t h1 w1
  have hD:=dropF_le t h1 w1
  have hP:=putF_le t h1 w1 v
  repeat(first |(with_reducible first |apply Q0 |apply Q1 |apply Q2 |apply Q3 |apply Q4 |apply Q5 |apply Q6 |apply Q7 |apply Q8 |apply Q9 |apply QA |apply QB |apply QC |apply QD |apply QE |apply QF) |((first |(with_reducible apply QK rfl) |(apply QT;simp only[go_sem]<;>exact rfl));simp(disch:=omega)only[go_sem,hs,upd_ne,cal15,ctU_15,c15,cal32,ctU_32,h32,cal33,ctU_33,h33,cal24,ctU_24,c24,rdK_dsl,cal35,ctU_35,c35d,hl,cal36,ctU_36,c36,hA,hD,hP,cal27,ctU_27,c27,cal37,ctU_37,c37d,cal38,ctU_38,c38,cal39,ctU_39,c39d,cal34,ctU_34,c34,hh1,hw1];exact rfl;simp only[sB,sA,putA];exact rfl) |(apply QI;simp only[go_sem]<;>exact rfl;simp only[sB,sA,putA];exact rfl) |(apply QQ;simp only[evA,gB,gA];exact rfl) |((first |apply QX |apply QY);(first |rfl |decide |assumption)))
  (apply QZ;simp(disch:=omega)only[go_sem,Try.results6];exact rfl;simp only[packA];exact rfl)
  exact⟨fun q hq=>(by have hq2:q<s:=Nat.lt_of_not_le (fun hle=>hq (hs q hle));simp(disch:=omega)only[upd_ne]),Pub.sc _⟩
 |false=>
  have hA:=addF_le t h w
  have hD:=dropF_le t h w
  have hP:=putF_le t h w v
  repeat(first |(with_reducible first |apply Q0 |apply Q1 |apply Q2 |apply Q3 |apply Q4 |apply Q5 |apply Q6 |apply Q7 |apply Q8 |apply Q9 |apply QA |apply QB |apply QC |apply QD |apply QE |apply QF) |((first |(with_reducible apply QK rfl) |(apply QT;simp only[go_sem]<;>exact rfl));simp(disch:=omega)only[go_sem,hs,upd_ne,cal15,ctU_15,c15,cal32,ctU_32,h32,cal33,ctU_33,h33,cal24,ctU_24,c24,rdK_dsl,cal35,ctU_35,c35d,hl,cal36,ctU_36,c36,hA,hD,hP,cal27,ctU_27,c27,cal37,ctU_37,c37d,cal38,ctU_38,c38,cal39,ctU_39,c39d];exact rfl;simp only[sB,sA,putA];exact rfl) |(apply QI;simp only[go_sem]<;>exact rfl;simp only[sB,sA,putA];exact rfl) |(apply QQ;simp only[evA,gB,gA];exact rfl) |((first |apply QX |apply QY);(first |rfl |decide |assumption)))
  (apply QZ;simp(disch:=omega)only[go_sem,Try.results6];exact rfl;simp only[packA];exact rfl)
  exact⟨fun q hq=>(by have hq2:q<s:=Nat.lt_of_not_le (fun hle=>hq (hs q hle));simp(disch:=omega)only[upd_ne]),Pub.sc _⟩
end Go.Proofs.Ytdcomhdadnhpnaa
