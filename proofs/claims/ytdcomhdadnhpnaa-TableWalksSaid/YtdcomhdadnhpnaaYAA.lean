import Derived.Test.YtdcomhdadnhpnaaYB30
set_option linter.all false
section
namespace Go.Proofs.Ytdcomhdadnhpnaa
open Go Go.Am Go.RowKit
attribute [local irreducible] wA opsQ opsLQ thenA blockA EndA
open Classical in
/-- the elements that Read finds -/
noncomputable def recsX (l:List Int):List (Int×Int):=if ValidL l then recsT l else(badR l).1
theorem recsX_len (l:List Int):(recsX l).length≤100000:=by
 unfold recsX
 split
 ·rename_i hV;exact(wok_valid hV).n
 ·unfold badR readX
  split
  ·split
   ·simp
   ·split
    ·rename_i h _ _ _ _
     simp only[Option.getD_some,recsF_len]
     omega
    ·simp
  ·simp
noncomputable def chosenF (l:List Int) (n:Int):Int×Int:=(recsX l).getD ((n.tmod (recsX l).length+(recsX l).length).tmod (recsX l).length).toNat (0,0)
noncomputable def ctE:CT:=fun f args=>if f=78 then c78 args else ctQ f args
theorem ctE_ok:CTok Try.prog ctE:=fun f args=>by
 unfold ctE
 split
 ·rename_i e;subst e;exact a78 args
 ·exact ctQ_ok f args
theorem ctE_78 (a:List AV):ctE 78 a=c78 a:=rfl
set_option maxRecDepth 100000 in
set_option maxHeartbeats 4000000 in
theorem chosen_rc (l:List Int) (n:Int) (hl:l.length≤1000000000):
  RC Try.prog 34 [.dsl l.length (ints l),.sc (.int .i64 n)] (.agg [.sc (.int .i64 (chosenF l n).1),.sc (.int .i64 (chosenF l n).2)]):=by
 refine rc_of hmix ctE_ok Try.func34 rfl (by kernel_rfl) (fun E s hs=>?_)
 simp(maxSteps:=300000)only[begA,Try.ntmps34,List.replicate_succ,List.replicate_zero,List.length_cons,List.length_nil,List.cons_append,List.nil_append]
 have hlen:=recsX_len l
 obtain⟨chs,b,hc⟩:∃chs b,c78 [.dsl l.length (ints l)]= .ret (.tup [tabG (recsX l) chs,.sc (.bool b)]):=by
  unfold c78
  simp only[rdD_dsl]
  rw[if_pos hl]
  unfold recsX
  by_cases hV:ValidL l
  ·rw[if_pos hV,if_pos hV];exact⟨_,_,rfl⟩
  ·rw[if_neg hV,if_neg hV];exact⟨_,_,rfl⟩
 unfold chosenF
 generalize recsX l=recs at*
 by_cases h0:recs.length=0
 ·obtain rfl:=List.length_eq_zero_iff.1 h0
  repeat(first |(with_reducible first |apply Q0 |apply Q1 |apply QG |apply Q2 |apply Q3 |apply Q4 |apply Q5 |apply Q6 |apply Q7 |apply Q8 |apply Q9 |apply QA |apply QB |apply QC |apply QD |apply QE |apply QF) |((first |(with_reducible apply QK rfl) |(apply QT;simp only[go_sem]<;>exact rfl));simp(disch:=omega)only[go_sem,hs,upd_ne,cal78,ctE_78,hc];exact rfl;simp only[sB,sA,putA];exact rfl) |((first |(with_reducible apply QL rfl) |(apply QM;simp only[go_sem]<;>exact rfl));simp(disch:=omega)only[go_sem,hs,upd_ne,cal78,ctE_78,hc];exact rfl;simp only[sB,sA,putA];exact rfl;simp only[logT_none,logT_rd,logT_wr,List.cons_append,List.nil_append];exact rfl) |((first |apply QI |apply QN);simp only[go_sem]<;>exact rfl;simp only[sB,sA,putA];exact rfl) |(refine QO ?_ ?_;first |focus(simp only[dyn_nil,dyn_cons,allY_nil,allY_cons,dj_rr,true_or,true_and];done) |focus(simp only[dyn_nil,dyn_cons,allY_nil,allY_cons,Dj,List.mem_cons,List.not_mem_nil,or_false,forall_eq,forall_eq_or_imp,and_true,true_and,false_imp_iff,implies_true];omega) |focus(simp only[dyn_nil,dyn_cons,allY_nil,allY_cons,and_true,true_and];(repeat' refine And.intro ?_ ?_);all_goals first |(left;simp only[Dj,List.mem_cons,List.not_mem_nil,or_false,forall_eq,forall_eq_or_imp,and_true,true_and,false_imp_iff,implies_true];first |done |omega) |(right;kernel_rfl))) |(apply QQ;simp only[evA,gB,gA];exact rfl) |((first |apply QX |apply QY);(first |rfl |decide |assumption)))
  (apply QZ;simp(disch:=omega)only[go_sem,Try.results34];exact rfl;simp only[packA];exact rfl)
  exact .agg rfl (fun i a b ha hb=>by
   match i with
   |0=>simp at ha hb;subst ha;subst hb;exact .sc _
   |1=>simp at ha hb;subst ha;subst hb;exact .sc _
   |i+2=>simp at ha)
 ·have hL0:(0:Int)<(recs.length:Int):=by omega
  have hne:((recs.length:Nat):Int)≠0:=by omega
  have hne2:¬((recs.length:Nat):Int)=0:=hne
  have h1:=Int.lt_tmod_of_pos n hL0
  have h1':=Int.tmod_lt_of_pos n hL0
  have h2:=Int.tmod_lt_of_pos (n.tmod recs.length+recs.length) hL0
  have h3:0≤(n.tmod recs.length+recs.length).tmod recs.length:=Int.tmod_nonneg _ (by omega)
  obtain⟨kk,hkk⟩:∃kk:Nat,(n.tmod recs.length+recs.length).tmod recs.length=(kk:Int):=⟨((n.tmod recs.length+recs.length).tmod recs.length).toNat,by omega⟩
  have hk2:kk<recs.length:=by omega
  rw[hkk,Int.toNat_natCast,show recs.getD kk (0,0)=recs[kk]by simp[hk2]]
  repeat(first |(with_reducible first |apply Q0 |apply Q1 |apply QG |apply Q2 |apply Q3 |apply Q4 |apply Q5 |apply Q6 |apply Q7 |apply Q8 |apply Q9 |apply QA |apply QB |apply QC |apply QD |apply QE |apply QF) |((first |(with_reducible apply QK rfl) |(apply QT;simp only[go_sem]<;>exact rfl));simp(disch:=omega)only[go_sem,hs,upd_ne,cal78,ctE_78,hc,hne2,bin_remT hne,hkk,elsA_len,elsA_drop];exact rfl;simp only[sB,sA,putA];exact rfl) |((first |(with_reducible apply QL rfl) |(apply QM;simp only[go_sem]<;>exact rfl));simp(disch:=omega)only[go_sem,hs,upd_ne,cal78,ctE_78,hc,hne2,bin_remT hne,hkk,elsA_len,elsA_drop];exact rfl;simp only[sB,sA,putA];exact rfl;simp only[logT_none,logT_rd,logT_wr,List.cons_append,List.nil_append];exact rfl) |((first |apply QI |apply QN);simp only[go_sem]<;>exact rfl;simp only[sB,sA,putA];exact rfl) |(refine QO ?_ ?_;first |focus(simp only[dyn_nil,dyn_cons,allY_nil,allY_cons,dj_rr,true_or,true_and];done) |focus(simp only[dyn_nil,dyn_cons,allY_nil,allY_cons,Dj,List.mem_cons,List.not_mem_nil,or_false,forall_eq,forall_eq_or_imp,and_true,true_and,false_imp_iff,implies_true];omega) |focus(simp only[dyn_nil,dyn_cons,allY_nil,allY_cons,and_true,true_and];(repeat' refine And.intro ?_ ?_);all_goals first |(left;simp only[Dj,List.mem_cons,List.not_mem_nil,or_false,forall_eq,forall_eq_or_imp,and_true,true_and,false_imp_iff,implies_true];first |done |omega) |(right;kernel_rfl))) |(apply QQ;simp only[evA,gB,gA];exact rfl) |((first |apply QX |apply QY);(first |rfl |decide |assumption)))
  (apply QZ;simp(disch:=omega)only[go_sem,Try.results34];exact rfl;simp only[packA];exact rfl)
  exact .agg rfl (fun i a b ha hb=>by
   match i with
   |0=>simp at ha hb;subst ha;subst hb;exact .sc _
   |1=>simp at ha hb;subst ha;subst hb;exact .sc _
   |i+2=>simp at ha)
noncomputable def c34:List AV→AP AV
 | [t,.sc (.int .i64 n)]=>rdK t fun l=>if l.length≤1000000000 then .ret (.agg [.sc (.int .i64 (chosenF l n).1),.sc (.int .i64 (chosenF l n).2)])else .fail
 |_=>.fail
noncomputable def c35o:List AV→AP AV
 | [t,.sc (.int .i64 h),.sc (.int .i64 x)]=>rdK t fun l=>if l.length≤1000000000 then outX (ansX (addF l h x).2.2 (addF l h x).2.1) [.int .i64 (addF l h x).1,.int .i64 (addF l h x).2.2]else .fail
 |_=>.fail
noncomputable def c37o:List AV→AP AV
 | [t,.sc (.int .i64 h),.sc (.int .i64 x)]=>rdK t fun l=>if l.length≤1000000000 then outX (ansX (dropF l h x).2.2 (dropF l h x).2.1) [.int .i64 (dropF l h x).1,.int .i64 (dropF l h x).2.2]else .fail
 |_=>.fail
noncomputable def c39o:List AV→AP AV
 | [t,.sc (.int .i64 h),.sc (.int .i64 x),.sc (.int .i64 v)]=>rdK t fun l=>if l.length≤1000000000 then outX (ansX (putF l h x v).2 (putF l h x v).1) [.int .i64 (putF l h x v).2]else .fail
 |_=>.fail
noncomputable def c57o:List AV→AP AV
 | [t,A]=>rdK t fun l=>rdE2 A fun mv=>if l.length≤1000000000∧mv.length≤1000000000 then outX (ansX (rmoveF l mv).2 (rmoveF l mv).1) [.int .i64 (rmoveF l mv).2]else .fail
 |_=>.fail
theorem arg3 {ρ:Inj} {O:Nat→Prop} {w:World} {a b c:AV} {vs:List Value} (h:Reps ρ O w [a,b,c] vs):∃x y z,vs=[x,y,z]∧Rep ρ O w a x∧Rep ρ O w b y∧Rep ρ O w c z:=by
 obtain⟨x,t,rfl,h1,h2⟩:=Reps.uncons h
 obtain⟨y,z,rfl,h3,h4⟩:=arg2 h2
 exact⟨x,y,z,rfl,h1,h3,h4⟩
theorem arg4 {ρ:Inj} {O:Nat→Prop} {w:World} {a b c d:AV} {vs:List Value} (h:Reps ρ O w [a,b,c,d] vs):∃x y z u,vs=[x,y,z,u]∧Rep ρ O w a x∧Rep ρ O w b y∧Rep ρ O w c z∧Rep ρ O w d u:=by
 obtain⟨x,t,rfl,h1,h2⟩:=Reps.uncons h
 obtain⟨y,z,u,rfl,h3,h4,h5⟩:=arg3 h2
 exact⟨x,y,z,u,rfl,h1,h3,h4,h5⟩
theorem a34 (args:List AV):ACall Try.prog 34 args (c34 args):=by
 intro ρ H w vs hR hA s r H' s' hm
 unfold c34 at hm
 split at hm
 ·obtain⟨v0,v1,rfl,hv0,hv1⟩:=arg2 hA
  obtain⟨l,hr,hm⟩:=rdK_data hR hv0 hm
  split at hm
  ·rename_i hc
   obtain rfl:=Rep.sc_iff.1 hv1
   simp only[AP.run,Option.some.injEq,Prod.mk.injEq]at hm
   obtain⟨rfl,rfl,rfl⟩:=hm
   exact(chosen_rc l _ hc).acall hR (.cons hr (.cons (.sc _) .nil))
  ·simp[AP.run]at hm
 ·simp[AP.run]at hm
theorem a35o (args:List AV):ACall Try.prog 35 args (c35o args):=by
 intro ρ H w vs hR hA s r H' s' hm
 unfold c35o at hm
 split at hm
 ·obtain⟨v0,v1,v2,rfl,hv0,hv1,hv2⟩:=arg3 hA
  obtain⟨l,hr,hm⟩:=rdK_data hR hv0 hm
  split at hm
  ·rename_i hc
   obtain rfl:=Rep.sc_iff.1 hv1
   obtain rfl:=Rep.sc_iff.1 hv2
   exact(radd_ro l _ _ hc).ownT hR (.cons hr (.cons (.sc _) (.cons (.sc _) .nil))) hm
  ·simp[AP.run]at hm
 ·simp[AP.run]at hm
theorem a37o (args:List AV):ACall Try.prog 37 args (c37o args):=by
 intro ρ H w vs hR hA s r H' s' hm
 unfold c37o at hm
 split at hm
 ·obtain⟨v0,v1,v2,rfl,hv0,hv1,hv2⟩:=arg3 hA
  obtain⟨l,hr,hm⟩:=rdK_data hR hv0 hm
  split at hm
  ·rename_i hc
   obtain rfl:=Rep.sc_iff.1 hv1
   obtain rfl:=Rep.sc_iff.1 hv2
   exact(rdrop_ro l _ _ hc).ownT hR (.cons hr (.cons (.sc _) (.cons (.sc _) .nil))) hm
  ·simp[AP.run]at hm
 ·simp[AP.run]at hm
theorem a39o (args:List AV):ACall Try.prog 39 args (c39o args):=by
 intro ρ H w vs hR hA s r H' s' hm
 unfold c39o at hm
 split at hm
 ·obtain⟨v0,v1,v2,v3,rfl,hv0,hv1,hv2,hv3⟩:=arg4 hA
  obtain⟨l,hr,hm⟩:=rdK_data hR hv0 hm
  split at hm
  ·rename_i hc
   obtain rfl:=Rep.sc_iff.1 hv1
   obtain rfl:=Rep.sc_iff.1 hv2
   obtain rfl:=Rep.sc_iff.1 hv3
   exact(rput_ro l _ _ _ hc).ownT hR (.cons hr (.cons (.sc _) (.cons (.sc _) (.cons (.sc _) .nil)))) hm
  ·simp[AP.run]at hm
 ·simp[AP.run]at hm
theorem a57o (args:List AV):ACall Try.prog 57 args (c57o args):=by
 intro ρ H w vs hR hA s r H' s' hm
 unfold c57o at hm
 split at hm
 ·obtain⟨v0,v1,rfl,hv0,hv1⟩:=arg2 hA
  obtain⟨l,hr,hm⟩:=rdK_data hR hv0 hm
  obtain⟨mv,hr1,hm⟩:=rdE2_data hR hv1 hm
  split at hm
  ·rename_i hc
   exact(rmove_ro l mv hc.1 hc.2).ownT hR (.cons hr (.cons hr1 .nil)) hm
  ·simp[AP.run]at hm
 ·simp[AP.run]at hm
noncomputable def ctF:CT:=fun f args=>if f=34 then c34 args else if f=35 then c35o args else if f=37 then c37o args else if f=39 then c39o args else if f=57 then c57o args else if f=51 then c51o args else ctQ f args
theorem ctF_ok:CTok Try.prog ctF:=fun f args=>by
 unfold ctF
 split
 ·rename_i e;subst e;exact a34 args
 split
 ·rename_i e;subst e;exact a35o args
 split
 ·rename_i e;subst e;exact a37o args
 split
 ·rename_i e;subst e;exact a39o args
 split
 ·rename_i e;subst e;exact a57o args
 split
 ·rename_i e;subst e;exact a51o args
 ·exact ctQ_ok f args
theorem ctF_34 (a:List AV):ctF 34 a=c34 a:=rfl
theorem ctF_35 (a:List AV):ctF 35 a=c35o a:=rfl
theorem ctF_37 (a:List AV):ctF 37 a=c37o a:=rfl
theorem ctF_39 (a:List AV):ctF 39 a=c39o a:=rfl
theorem ctF_57 (a:List AV):ctF 57 a=c57o a:=rfl
theorem cal34:callable Try.prog 34=true:=by kernel_rfl
theorem cal35:callable Try.prog 35=true:=by kernel_rfl
theorem cal37:callable Try.prog 37=true:=by kernel_rfl
theorem cal39:callable Try.prog 39=true:=by kernel_rfl
theorem cal57:callable Try.prog 57=true:=by kernel_rfl
end Go.Proofs.Ytdcomhdadnhpnaa
end
section
namespace Go.Proofs.Ytdcomhdadnhpnaa
open Go Go.Am Go.RowKit
attribute [local irreducible] wA opsQ opsLQ thenA blockA EndA
theorem put4 (a b c d e f g h:AV):putCells [a,b,c,d] 0 [e,f,g,h]=[e,f,g,h]:=rfl
attribute [local go_sem] put4
structure OpT where
 k:Int
 h:Int
 w:Int
 v:Int
abbrev opG (o:OpT):AV:=.agg [.sc (.int .i64 o.k),.sc (.int .i64 o.h),.sc (.int .i64 o.w),.sc (.int .i64 o.v)]
def opsA (L:List OpT):List AV:=L.flatMap fun o=>[.sc (.int .i64 o.k),.sc (.int .i64 o.h),.sc (.int .i64 o.w),.sc (.int .i64 o.v)]
theorem opsA_cons (o:OpT) (L:List OpT):opsA (o::L)= .sc (.int .i64 o.k):: .sc (.int .i64 o.h):: .sc (.int .i64 o.w):: .sc (.int .i64 o.v)::opsA L:=rfl
theorem opsA_len (L:List OpT):(opsA L).length=L.length*4:=by
 induction L with
 |nil=>rfl
 |cons o L ih=>rw[opsA_cons];simp only[List.length_cons,ih];omega
theorem opsA_drop:∀ {L:List OpT} {k:Nat} (h:k<L.length),(opsA L).drop (k*4)= .sc (.int .i64 L[k].k):: .sc (.int .i64 L[k].h):: .sc (.int .i64 L[k].w):: .sc (.int .i64 L[k].v)::opsA (L.drop (k+1))
 |o::L,0,h=>by simp[opsA_cons]
 |o::L,k+1,h=>by
  have:=opsA_drop (L:=L) (k:=k) (by simpa using h)
  rw[opsA_cons,show(k+1)*4=k*4+1+1+1+1 by omega,List.drop_succ_cons,List.drop_succ_cons,List.drop_succ_cons,List.drop_succ_cons,this]
  rfl
noncomputable def stepE (l:List Int) (o:OpT):Int×List Int:=
 if o.k=0 then((addF l o.h o.w).2.2,(addF l o.h o.w).2.1)
 else if o.k=1 then((dropF l (chosenF l o.w).1 (chosenF l o.w).2).2.2,(dropF l (chosenF l o.w).1 (chosenF l o.w).2).2.1)
 else if o.k=2 then((putF l (chosenF l o.w).1 (chosenF l o.w).2 o.v).2,(putF l (chosenF l o.w).1 (chosenF l o.w).2 o.v).1)
 else if o.k=3 then((rmoveF l [(o.w,o.v)]).2,(rmoveF l [(o.w,o.v)]).1)
 else(1,l)
noncomputable def stepF (l:List Int) (o:OpT):List Int:=if(stepE l o).1=0 then(stepE l o).2 else l
noncomputable def stepA (nm ver:Nat) (l:List Int) (o:OpT):AP AV:=
 if(stepE l o).1=0 then .new (.row 0 1 (ints (stepF l o))) fun n=>.ret (.sl n 0 0 (stepF l o).length)else .ret (.sl nm ver 0 l.length)
open Classical in
noncomputable def iK (ver:Nat) (k:List Int→AP AV) (o:AO):AP AV:=if h:∃l,o= .row ver 1 (ints l)then k h.choose else .fail
theorem ints_inj {a b:List Int} (h:ints a=ints b):a=b:=by
 have:=congrArg intsOf h
 rw[intsOf_ints,intsOf_ints]at this
 exact Option.some.inj this
theorem iK_ok {ver:Nat} {k:List Int→AP AV} {l:List Int}:iK ver k (.row ver 1 (ints l))=k l:=by
 have h:∃m,AO.row ver 1 (ints l)= .row ver 1 (ints m):=⟨l,rfl⟩
 unfold iK;rw[dif_pos h]
 have:=h.choose_spec
 injection this with _ _ h3
 rw[←ints_inj h3]
theorem iK_some {ver s:Nat} {k:List Int→AP AV} {o:AO} {H:AHp} {x:AV×AHp×Nat} (h:(iK ver k o).run H s=some x):∃l,o= .row ver 1 (ints l)∧(k l).run H s=some x:=by
 unfold iK at h
 split at h
 ·rename_i hh;exact⟨_,hh.choose_spec,h⟩
 ·simp[AP.run]at h
noncomputable def c90:List AV→AP AV
 | [.sl nm ver 0 len,.agg [.sc (.int .i64 k),.sc (.int .i64 h),.sc (.int .i64 w),.sc (.int .i64 v)]]=>.get nm (iK ver fun l=>if l.length≤1000000000∧len=l.length then stepA nm ver l ⟨k,h,w,v⟩else .fail)
 |_=>.fail
theorem end_keep {E:Ent} {s nm ver len:Nat} {H1:AHp} (hs:∀q,s≤q→E.H q=none) (hE:∀q,q<s→H1 q=E.H q) (hn:E.H nm≠none):
  ∃(H2:AHp) (r2:AV) (N:Nat→Option (Nat×Nat)),WkH H1 H2∧Wk r2 (.sl nm ver 0 len)∧Fin E.H H2 N E.H∧Pub H2 (fun n=>E.H n≠none∧N n=none) N (.sl nm ver 0 len) r2:=by
 refine⟨H1,_,fun _=>none,WkH.refl _,Wk.rfl',⟨fun n hn=>⟨hn,rfl⟩,fun n o' hn=>.inl ⟨rfl,.inl ⟨hn,?_⟩⟩,fun a b n o o' h=>by simp at h,fun q n o h=>by simp at h,⟨s,hs⟩⟩,.same ?_⟩
 ·rw[hE n (Nat.lt_of_not_le fun k=>by rw[hs n k]at hn;cases hn)];exact hn
 ·exact⟨hn,rfl⟩
theorem end_new {E:Ent} {s s0 q ver:Nat} {u:List Int} {H1:AHp} (hs:∀n,s≤n→E.H n=none∧upd E.H s0 (.row 0 1 (ints u)) n=none) (h0:E.H s0=none) (hE:∀q,q<s→H1 q=E.H q) (hq:H1 q=some (.row ver 1 (ints u))) (hqs:s≤q):
  ∃(H2:AHp) (r2:AV) (N:Nat→Option (Nat×Nat)),WkH H1 H2∧Wk r2 (.sl s0 0 0 u.length)∧Fin E.H H2 N (upd E.H s0 (.row 0 1 (ints u)))∧Pub H2 (fun n=>upd E.H s0 (.row 0 1 (ints u)) n≠none∧N n=none) N (.sl q ver 0 u.length) r2:=by
 have hs0:s0<s:=Nat.lt_of_not_le fun h=>by have:=(hs s0 h).2;rw[upd_same]at this;cases this
 have hF:=fin_rows (H0:=E.H) (H1:=H1) (s:=s) (lo:=s0) [(q,ver,1,ints u)] (fun n hn=>(hs n hn).1) (by simp;omega) (fun i hi=>by
   have:i=0:=by simpa using hi
   subst this;exact h0) hE (fun i x hx=>by
   cases i with
   |zero=>
    simp at hx;subst hx
    exact⟨hqs,hq,fun a ha K=>by obtain⟨x,_,rfl⟩:=List.mem_map.1 ha;trivial⟩
   |succ i=>simp at hx) (fun i j x y hx hy e=>by
   cases i with
   |succ i=>simp at hx
   |zero=>cases j with
    |zero=>rfl
    |succ j=>simp at hy) (upd E.H s0 (.row 0 1 (ints u))) (fun n=>by
   by_cases e:n=s0
   ·subst e;rw[upd_same,if_pos (by simp)];simp
   ·rw[upd_ne _ _ e,if_neg (by simp;omega)])
 refine⟨H1,_,_,WkH.refl _,Wk.rfl',hF,Pub.ren (s:=s0) hq (by rw[if_pos (by simp)];simp) ?_⟩
 rintro⟨k1,_⟩
 exact k1 (hs q hqs).2
theorem elsOf_one (x y:Int):elsOf [.sc (.int .i64 x),.sc (.int .i64 y)]=some [(x,y)]:=rfl
theorem bs83 (x y:Int):aBuildSlice Try.prog 83 1 [(0,.agg [.sc (.int .i64 x),.sc (.int .i64 y)])]= .new (.row 0 2 [.sc (.int .i64 x),.sc (.int .i64 y)]) fun n=>.ret (.sl n 0 0 1):=by
 have hz:aZeros (.agg #[.int .i64 0,.int .i64 0]) 2=[.sc (.int .i64 0),.sc (.int .i64 0)]:=by
  simp[aZeros,Value.cells,List.range_succ]
 simp[aBuildSlice,Try.underlying83,sz84,ze84,hz,aFill,aCells,AV.one,Value.oneCell',putCells]
set_option maxRecDepth 100000 in
set_option maxHeartbeats 4000000 in
theorem step_walk (l:List Int) (o:OpT) (hl:l.length≤1000000000) (E:Ent) (s nm ver:Nat) (hs:∀q,s≤q→E.H q=none) (hn:E.H nm=some (.row ver 1 (ints l))) (R:AV→AHp→Prop)
  (hR1:∀H1 q,(stepE l o).1=0→(∀q,q<s→H1 q=E.H q)→H1 q=some (.row 0 1 (ints (stepE l o).2))→s≤q→R (.sl q 0 0 (stepE l o).2.length) H1)
  (hR2:∀H1,(∀q,q<s→H1 q=E.H q)→(stepE l o).1≠0→R (.sl nm ver 0 l.length) H1):
  wA Try.prog E ctF Try.f90.body.get! (begA Try.f90 [.sl nm ver 0 l.length,opG o]) E.H s (EndA Try.prog Try.f90 R):=by
 simp(maxSteps:=300000)only[begA,Try.ntmps90,List.replicate_succ,List.replicate_zero,List.length_cons,List.length_nil,List.cons_append,List.nil_append]
 simp only[Try.f90,Option.get!_some]
 have hnl:nm<s:=Nat.lt_of_not_le fun h=>by rw[hs nm h]at hn;cases hn
 have hit:=ints_take l
 have hil:=ints_len l
 obtain⟨k,h,w,v⟩:=o
 obtain⟨xh,hxh⟩:∃xh,(chosenF l w).1=xh:=⟨_,rfl⟩
 obtain⟨xw,hxw⟩:∃xw,(chosenF l w).2=xw:=⟨_,rfl⟩
 by_cases k0:k=0
 ·subst k0
  obtain⟨a,u,c,hA⟩:∃a u c,addF l h w=(a,u,c):=⟨_,_,_,rfl⟩
  have e:stepE l ⟨0,h,w,v⟩=(c,u):=by unfold stepE;simp[hA,hxh,hxw]
  rw[e]at hR1 hR2
  by_cases hc:c=0
  ·subst hc
   have hX:outX (ansX 0 u) [.int .i64 a,.int .i64 0]= .new (.row 0 1 (ints u)) fun n=>.ret (.tup [.sl n 0 0 u.length,.sc (.int .i64 a),.sc (.int .i64 0)]):=rfl
   repeat(first |(with_reducible first |apply Q0 |apply Q1 |apply Q2 |apply Q3 |apply Q4 |apply Q5 |apply Q6 |apply Q7 |apply Q8 |apply Q9 |apply QA |apply QB |apply QC |apply QD |apply QE |apply QF) |((with_reducible apply QK rfl);simp(disch:=omega)only[go_sem,hs,upd_ne,hn,cal34,ctF_34,c34,rdK,hit,hil,intsOf_ints,hl,hxh,hxw,cal35,ctF_35,c35o,hA,hX];exact rfl;simp only[sB,sA,putA];exact rfl) |(apply QQ;simp only[evA,gB,gA];exact rfl) |((first |apply QX |apply QY);(first |rfl |decide |assumption)))
   (apply QZ;simp(disch:=omega)only[go_sem,Try.results90];exact rfl;simp only[packA];exact rfl)
   exact hR1 _ _ rfl (fun q hq=>by simp(disch:=omega)only[upd_ne]) (by simp(disch:=omega)only[upd_same,upd_ne]) (by omega)
  ·have hX:outX (ansX c u) [.int .i64 a,.int .i64 c]= .ret (.tup [.sc (.slice none 0 0),.sc (.int .i64 a),.sc (.int .i64 c)]):=by unfold ansX;rw[if_neg hc];rfl
   repeat(first |(with_reducible first |apply Q0 |apply Q1 |apply Q2 |apply Q3 |apply Q4 |apply Q5 |apply Q6 |apply Q7 |apply Q8 |apply Q9 |apply QA |apply QB |apply QC |apply QD |apply QE |apply QF) |((with_reducible apply QK rfl);simp(disch:=omega)only[go_sem,hs,upd_ne,hn,cal34,ctF_34,c34,rdK,hit,hil,intsOf_ints,hl,hxh,hxw,cal35,ctF_35,c35o,hA,hX,hc];exact rfl;simp only[sB,sA,putA];exact rfl) |(apply QQ;simp only[evA,gB,gA];exact rfl) |((first |apply QX |apply QY);(first |rfl |decide |assumption)))
   (apply QZ;simp(disch:=omega)only[go_sem,Try.results90];exact rfl;simp only[packA];exact rfl)
   exact hR2 _ (fun q hq=>by simp(disch:=omega)only[upd_ne]) hc
 by_cases k1:k=1
 ·subst k1
  obtain⟨a,u,c,hA⟩:∃a u c,dropF l xh xw=(a,u,c):=⟨_,_,_,rfl⟩
  have e:stepE l ⟨1,h,w,v⟩=(c,u):=by unfold stepE;simp[hA,hxh,hxw]
  rw[e]at hR1 hR2
  by_cases hc:c=0
  ·subst hc
   have hX:outX (ansX 0 u) [.int .i64 a,.int .i64 0]= .new (.row 0 1 (ints u)) fun n=>.ret (.tup [.sl n 0 0 u.length,.sc (.int .i64 a),.sc (.int .i64 0)]):=rfl
   repeat(first |(with_reducible first |apply Q0 |apply Q1 |apply Q2 |apply Q3 |apply Q4 |apply Q5 |apply Q6 |apply Q7 |apply Q8 |apply Q9 |apply QA |apply QB |apply QC |apply QD |apply QE |apply QF) |((with_reducible apply QK rfl);simp(disch:=omega)only[go_sem,hs,upd_ne,hn,cal34,ctF_34,c34,rdK,hit,hil,intsOf_ints,hl,hxh,hxw,k0,cal37,ctF_37,c37o,hA,hX];exact rfl;simp only[sB,sA,putA];exact rfl) |(apply QQ;simp only[evA,gB,gA];exact rfl) |((first |apply QX |apply QY);(first |rfl |decide |assumption)))
   (apply QZ;simp(disch:=omega)only[go_sem,Try.results90];exact rfl;simp only[packA];exact rfl)
   exact hR1 _ _ rfl (fun q hq=>by simp(disch:=omega)only[upd_ne]) (by simp(disch:=omega)only[upd_same,upd_ne]) (by omega)
  ·have hX:outX (ansX c u) [.int .i64 a,.int .i64 c]= .ret (.tup [.sc (.slice none 0 0),.sc (.int .i64 a),.sc (.int .i64 c)]):=by unfold ansX;rw[if_neg hc];rfl
   repeat(first |(with_reducible first |apply Q0 |apply Q1 |apply Q2 |apply Q3 |apply Q4 |apply Q5 |apply Q6 |apply Q7 |apply Q8 |apply Q9 |apply QA |apply QB |apply QC |apply QD |apply QE |apply QF) |((with_reducible apply QK rfl);simp(disch:=omega)only[go_sem,hs,upd_ne,hn,cal34,ctF_34,c34,rdK,hit,hil,intsOf_ints,hl,hxh,hxw,k0,cal37,ctF_37,c37o,hA,hX,hc];exact rfl;simp only[sB,sA,putA];exact rfl) |(apply QQ;simp only[evA,gB,gA];exact rfl) |((first |apply QX |apply QY);(first |rfl |decide |assumption)))
   (apply QZ;simp(disch:=omega)only[go_sem,Try.results90];exact rfl;simp only[packA];exact rfl)
   exact hR2 _ (fun q hq=>by simp(disch:=omega)only[upd_ne]) hc
 by_cases k2:k=2
 ·subst k2
  obtain⟨u,c,hA⟩:∃u c,putF l xh xw v=(u,c):=⟨_,_,rfl⟩
  have e:stepE l ⟨2,h,w,v⟩=(c,u):=by unfold stepE;simp[hA,hxh,hxw]
  rw[e]at hR1 hR2
  by_cases hc:c=0
  ·subst hc
   have hX:outX (ansX 0 u) [.int .i64 0]= .new (.row 0 1 (ints u)) fun n=>.ret (.tup [.sl n 0 0 u.length,.sc (.int .i64 0)]):=rfl
   repeat(first |(with_reducible first |apply Q0 |apply Q1 |apply Q2 |apply Q3 |apply Q4 |apply Q5 |apply Q6 |apply Q7 |apply Q8 |apply Q9 |apply QA |apply QB |apply QC |apply QD |apply QE |apply QF) |((with_reducible apply QK rfl);simp(disch:=omega)only[go_sem,hs,upd_ne,hn,cal34,ctF_34,c34,rdK,hit,hil,intsOf_ints,hl,hxh,hxw,k0,k1,cal39,ctF_39,c39o,hA,hX];exact rfl;simp only[sB,sA,putA];exact rfl) |(apply QQ;simp only[evA,gB,gA];exact rfl) |((first |apply QX |apply QY);(first |rfl |decide |assumption)))
   (apply QZ;simp(disch:=omega)only[go_sem,Try.results90];exact rfl;simp only[packA];exact rfl)
   exact hR1 _ _ rfl (fun q hq=>by simp(disch:=omega)only[upd_ne]) (by simp(disch:=omega)only[upd_same,upd_ne]) (by omega)
  ·have hX:outX (ansX c u) [.int .i64 c]= .ret (.tup [.sc (.slice none 0 0),.sc (.int .i64 c)]):=by unfold ansX;rw[if_neg hc];rfl
   repeat(first |(with_reducible first |apply Q0 |apply Q1 |apply Q2 |apply Q3 |apply Q4 |apply Q5 |apply Q6 |apply Q7 |apply Q8 |apply Q9 |apply QA |apply QB |apply QC |apply QD |apply QE |apply QF) |((with_reducible apply QK rfl);simp(disch:=omega)only[go_sem,hs,upd_ne,hn,cal34,ctF_34,c34,rdK,hit,hil,intsOf_ints,hl,hxh,hxw,k0,k1,cal39,ctF_39,c39o,hA,hX,hc];exact rfl;simp only[sB,sA,putA];exact rfl) |(apply QQ;simp only[evA,gB,gA];exact rfl) |((first |apply QX |apply QY);(first |rfl |decide |assumption)))
   (apply QZ;simp(disch:=omega)only[go_sem,Try.results90];exact rfl;simp only[packA];exact rfl)
   exact hR2 _ (fun q hq=>by simp(disch:=omega)only[upd_ne]) hc
 by_cases k3:k=3
 ·subst k3
  obtain⟨u,c,hA⟩:∃u c,rmoveF l [(w,v)]=(u,c):=⟨_,_,rfl⟩
  have e:stepE l ⟨3,h,w,v⟩=(c,u):=by unfold stepE;simp[hA,hxh,hxw]
  rw[e]at hR1 hR2
  by_cases hc:c=0
  ·subst hc
   have hX:outX (ansX 0 u) [.int .i64 0]= .new (.row 0 1 (ints u)) fun n=>.ret (.tup [.sl n 0 0 u.length,.sc (.int .i64 0)]):=rfl
   repeat(first |(with_reducible first |apply Q0 |apply Q1 |apply Q2 |apply Q3 |apply Q4 |apply Q5 |apply Q6 |apply Q7 |apply Q8 |apply Q9 |apply QA |apply QB |apply QC |apply QD |apply QE |apply QF) |((with_reducible apply QK rfl);simp(disch:=omega)only[go_sem,hs,upd_ne,hn,cal34,ctF_34,c34,rdK,hit,hil,intsOf_ints,hl,hxh,hxw,k0,k1,k2,cal57,ctF_57,c57o,bs83,rdE2,elsOf,elsOf_one,hA,hX];exact rfl;simp only[sB,sA,putA];exact rfl) |(apply QQ;simp only[evA,gB,gA];exact rfl) |((first |apply QX |apply QY);(first |rfl |decide |assumption)))
   (apply QZ;simp(disch:=omega)only[go_sem,Try.results90];exact rfl;simp only[packA];exact rfl)
   exact hR1 _ _ rfl (fun q hq=>by simp(disch:=omega)only[upd_ne]) (by simp(disch:=omega)only[upd_same,upd_ne]) (by omega)
  ·have hX:outX (ansX c u) [.int .i64 c]= .ret (.tup [.sc (.slice none 0 0),.sc (.int .i64 c)]):=by unfold ansX;rw[if_neg hc];rfl
   repeat(first |(with_reducible first |apply Q0 |apply Q1 |apply Q2 |apply Q3 |apply Q4 |apply Q5 |apply Q6 |apply Q7 |apply Q8 |apply Q9 |apply QA |apply QB |apply QC |apply QD |apply QE |apply QF) |((with_reducible apply QK rfl);simp(disch:=omega)only[go_sem,hs,upd_ne,hn,cal34,ctF_34,c34,rdK,hit,hil,intsOf_ints,hl,hxh,hxw,k0,k1,k2,cal57,ctF_57,c57o,bs83,rdE2,elsOf,elsOf_one,hA,hX,hc];exact rfl;simp only[sB,sA,putA];exact rfl) |(apply QQ;simp only[evA,gB,gA];exact rfl) |((first |apply QX |apply QY);(first |rfl |decide |assumption)))
   (apply QZ;simp(disch:=omega)only[go_sem,Try.results90];exact rfl;simp only[packA];exact rfl)
   exact hR2 _ (fun q hq=>by simp(disch:=omega)only[upd_ne]) hc
 have e:stepE l ⟨k,h,w,v⟩=(1,l):=by unfold stepE;simp[k0,k1,k2,k3]
 rw[e]at hR1 hR2
 repeat(first |(with_reducible first |apply Q0 |apply Q1 |apply Q2 |apply Q3 |apply Q4 |apply Q5 |apply Q6 |apply Q7 |apply Q8 |apply Q9 |apply QA |apply QB |apply QC |apply QD |apply QE |apply QF) |((with_reducible apply QK rfl);simp(disch:=omega)only[go_sem,hs,upd_ne,hn,cal34,ctF_34,c34,rdK,hit,hil,intsOf_ints,hl,hxh,hxw,k0,k1,k2,k3];exact rfl;simp only[sB,sA,putA];exact rfl) |(apply QQ;simp only[evA,gB,gA];exact rfl) |((first |apply QX |apply QY);(first |rfl |decide |assumption)))
 (apply QZ;simp(disch:=omega)only[go_sem,Try.results90];exact rfl;simp only[packA];exact rfl)
 exact hR2 _ (fun q hq=>by simp(disch:=omega)only[upd_ne]) (by simp)
theorem a90 (args:List AV):ACall Try.prog 90 args (c90 args):=by
 intro ρ H w vs hR hA s r H' s' hm
 unfold c90 at hm
 split at hm
 ·rename_i nm ver len k h w0 v
  refine acall_genW (args:=[.sl nm ver 0 len,.agg [.sc (.int .i64 k),.sc (.int .i64 h),.sc (.int .i64 w0),.sc (.int .i64 v)]]) Try.func90 rfl (fun E s0 s r H' s' hr hs=>?_) ρ H w _ hR hA s r H' s' hm
  obtain⟨o,h1,q1⟩:=get_some hr
  obtain⟨l,rfl,q2⟩:=iK_some q1
  clear hr q1
  have hr:=q2
  clear q2
  split at hr
  ·rename_i hc
   obtain⟨hl,rfl⟩:=hc
   have hs0:∀q,s≤q→E.H q=none:=fun q hq=>(hs q hq).1
   unfold stepA at hr
   split at hr
   ·rename_i he
    simp only[AP.run]at hr
    split at hr
    ·rename_i hf
     simp only[Option.some.injEq,Prod.mk.injEq]at hr
     obtain⟨rfl,rfl,rfl⟩:=hr
     have hF:stepF l ⟨k,h,w0,v⟩=(stepE l ⟨k,h,w0,v⟩).2:=by unfold stepF;rw[if_pos he]
     rw[hF]at hs ⊢
     exact wA_ok hmix ctF_ok _ (by kernel_rfl) (step_walk l ⟨k,h,w0,v⟩ hl E s nm ver hs0 h1 _ (fun H1 q _ k1 k2 k3=>end_new hs hf k1 k2 k3) (fun H1 _ k2=>absurd he k2))
    ·cases hr
   ·rename_i he
    simp only[AP.run,Option.some.injEq,Prod.mk.injEq]at hr
    obtain⟨rfl,rfl,rfl⟩:=hr
    exact wA_ok hmix ctF_ok _ (by kernel_rfl) (step_walk l ⟨k,h,w0,v⟩ hl E s nm ver hs0 h1 _ (fun H1 q k0 _ _ _=>absurd k0 he) (fun H1 k1 _=>end_keep hs0 k1 (by rw[h1];simp)))
  ·simp[AP.run]at hr
 ·simp[AP.run]at hm
theorem cal90:callable Try.prog 90=true:=by kernel_rfl
end Go.Proofs.Ytdcomhdadnhpnaa
end
