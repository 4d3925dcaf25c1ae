import Derived.Test.YtdcomhdadnhpnaaYZAB
set_option linter.all false
section
namespace Go.Proofs.Ytdcomhdadnhpnaa
open Go Go.Am Go.RowKit
attribute [local irreducible] wA opsQ opsLQ thenA blockA EndA
theorem RowE.expI {lo s' len:Nat} {v:AV} {H:AHp} {u:List Int} (h:RowE lo 1 v H s' (ints u) len) (hl:len=u.length):Exp H v (.dsl u.length (ints u)):=by
 rcases h with⟨h0,h1,rfl⟩ |⟨nm,ver,h0,rfl,hH,_,_⟩
 ·have:u=[]:=List.length_eq_zero_iff.1 (by omega)
  subst this
  exact .nil
 ·rw[hl];exact Exp.ints hH
end Go.Proofs.Ytdcomhdadnhpnaa
end
section
namespace Go.Proofs.Ytdcomhdadnhpnaa
open Go Go.Am Go.RowKit
theorem Step.two {ρ:Inj} {H:AHp} {w w1:World} {s:Nat} {L1 L2:Am.Loc} {o1 o2:AO} (hR:Rel ρ H w) (h1:H s=none) (h2:H (s+1)=none) (hb:Below w.heap.size w w1)
  (v1:o1.ver=0) (v2:o2.ver=0) (b1:w.heap.size≤L1.block) (b2:w.heap.size≤L2.block) (hne:L1.block≠L2.block)
  (k1:∀(ρ':Inj) (O:Nat→Prop),ρ' s 0=some L1→ObjAt ρ' O w1 L1 o1) (k2:∀(ρ':Inj) (O:Nat→Prop),ρ' s 0=some L1→ObjAt ρ' O w1 L2 o2):
  Step ρ H w (updR (updR ρ s 0 L1) (s+1) 0 L2) (upd (upd H s o1) (s+1) o2) w1:=by
 let ρ2:Inj:=updR (updR ρ s 0 L1) (s+1) 0 L2
 let H2:AHp:=upd (upd H s o1) (s+1) o2
 have r1:ρ2 s 0=some L1:=by show updR _ _ _ _ _ _=_;unfold updR;rw[if_neg (by omega),if_pos ⟨rfl,rfl⟩]
 have r2:ρ2 (s+1) 0=some L2:=updR_same _ _ _
 have r3:∀n k,n≠s→n≠s+1→ρ2 n k=ρ n k:=fun n k a b=>by show updR _ _ _ _ _ _=_;unfold updR;rw[if_neg (fun h=>b h.1),if_neg (fun h=>a h.1)]
 have r4:∀k L,ρ2 s k=some L→k=0∧L=L1:=fun k L h=>by
  change updR (updR ρ s 0 L1) (s+1) 0 L2 s k=some L at h
  unfold updR at h
  rw[if_neg (by omega)]at h
  split at h
  ·rename_i e;cases h;exact⟨e.2,rfl⟩
  ·rw[hR.none h1 k]at h;cases h
 have r5:∀k L,ρ2 (s+1) k=some L→k=0∧L=L2:=fun k L h=>by
  change updR (updR ρ s 0 L1) (s+1) 0 L2 (s+1) k=some L at h
  unfold updR at h
  split at h
  ·rename_i e;cases h;exact⟨e.2,rfl⟩
  ·rw[if_neg (by omega),hR.none h2 k]at h;cases h
 have e1:H2 s=some o1:=by show upd _ _ _ _=_;rw[upd_ne _ _ (by omega),upd_same]
 have e2:H2 (s+1)=some o2:=upd_same _ _ _
 have e3:∀n,n≠s→n≠s+1→H2 n=H n:=fun n a b=>by show upd _ _ _ _=_;rw[upd_ne _ _ b,upd_ne _ _ a]
 have hm:∀n k L,ρ n k=some L→ρ2 n k=some L:=fun n k L h=>by
  have a:n≠s:=fun e=>by subst e;rw[hR.none h1 k]at h;cases h
  have b:n≠s+1:=fun e=>by subst e;rw[hR.none h2 k]at h;cases h
  rw[r3 n k a b];exact h
 have hown:∀b,own ρ2 H2 b→own ρ H b∨w.heap.size≤b:=by
  rintro b ⟨n,o,L,a1,a2,a3,a4⟩
  by_cases c1:n=s
  ·subst c1
   obtain⟨_,rfl⟩:=r4 _ _ a3
   exact .inr (by omega)
  ·by_cases c2:n=s+1
   ·subst c2
    obtain⟨_,rfl⟩:=r5 _ _ a3
    exact .inr (by omega)
   ·rw[e3 n c1 c2]at a1
    rw[r3 n _ c1 c2]at a3
    exact .inl ⟨n,o,L,a1,a2,a3,a4⟩
 have hf:∀b,b<w.heap.size→w1.heap[b]? =w.heap[b]? :=fun b h=>hb.block b h
 have key:∀n o L,H2 n=some o→o.live=true→ρ2 n o.ver=some L→(n=s∧L=L1)∨(n=s+1∧L=L2)∨(n≠s∧n≠s+1∧H n=some o∧ρ n o.ver=some L∧L.block<w.heap.size):=fun n o L a1 a2 a3=>by
  by_cases c1:n=s
  ·subst c1;exact .inl ⟨rfl,(r4 _ _ a3).2⟩
  ·by_cases c2:n=s+1
   ·subst c2;exact .inr (.inl ⟨rfl,(r5 _ _ a3).2⟩)
   ·rw[e3 n c1 c2]at a1
    rw[r3 n _ c1 c2]at a3
    exact .inr (.inr ⟨c1,c2,a1,a3,hR.block_lt a1 a2 a3⟩)
 refine⟨hm,hb.size,hown,fun b h _=>hf b h,hb.os,hb.tape,hb.output,⟨fun n o a1 a2=>?_,fun n k L a1=>?_,fun n m o o' L L' a1 a2 l1 l2 q1 q2 e=>?_,?_⟩⟩
 ·by_cases c1:n=s
  ·subst c1
   have a1:H2 n=some o:=a1
   rw[e1]at a1;cases a1
   exact⟨L1,by rw[v1];exact r1,k1 _ _ r1⟩
  ·by_cases c2:n=s+1
   ·subst c2
    have a1:H2 (s+1)=some o:=a1
    rw[e2]at a1;cases a1
    exact⟨L2,by rw[v2];exact r2,k2 _ _ r1⟩
   ·have a1:H2 n=some o:=a1
    rw[e3 n c1 c2]at a1
    obtain⟨L,q1,q2⟩:=hR.live n o a1 a2
    exact⟨L,hm _ _ _ q1,q2.last hm hb.size hown (fun b h _=>hf b h) (hf _ (hR.block_lt a1 a2 q1))⟩
 ·by_cases c1:n=s
  ·subst c1
   exact⟨o1,e1,by rw[(r4 _ _ a1).1];exact Nat.zero_le _⟩
  ·by_cases c2:n=s+1
   ·subst c2
    exact⟨o2,e2,by rw[(r5 _ _ a1).1];exact Nat.zero_le _⟩
   ·have a1:ρ2 n k=some L:=a1
    rw[r3 n k c1 c2]at a1
    obtain⟨o,q1,q2⟩:=hR.dom n k L a1
    exact⟨o,(e3 n c1 c2).trans q1,q2⟩
 ·rcases key n o L a1 l1 q1 with⟨rfl,rfl⟩ |⟨rfl,rfl⟩ |⟨_,_,g1,g2,g3⟩<;>rcases key m o' L' a2 l2 q2 with⟨rfl,rfl⟩ |⟨rfl,rfl⟩ |⟨_,_,g4,g5,g6⟩
  ·rfl
  ·exact absurd e hne
  ·omega
  ·exact absurd e.symm hne
  ·rfl
  ·omega
  ·omega
  ·omega
  ·exact hR.inj n m o o' L L' g1 g4 l1 l2 g2 g5 e
 ·obtain⟨N,hN⟩:=hR.fin
  refine⟨max N (s+2),fun n hn=>?_⟩
  exact(e3 n (by omega) (by omega)).trans (hN n (by omega))
open Classical in
/-- opened: the words,copied -/
noncomputable def c69:List AV→AP AV
 | [t,.sc (.int .i64 h)]=>rdK t fun l=>if ¬ValidL l then .ret (.tup [.sc (.pointer none),.sc (.int .i64 600)])else if ¬(0≤h∧h≤2147483647)then .ret (.tup [.sc (.pointer none),.sc (.int .i64 1)])else
   .new (.row 0 1 (ints l)) fun n=>.new (.row 0 1 [.sl n 0 0 l.length]) fun p=>.ret (.tup [.ptr p 0 0,.sc (.int .i64 0)])
 |_=>.fail
theorem a69 (args:List AV):ACall Try.prog 69 args (c69 args):=by
 intro ρ H w vs hR hA s r H' s' hm
 unfold c69 at hm
 split at hm
 ·rename_i t h
  obtain⟨v0,v1,rfl,hv0,hv1⟩:=arg2 hA
  obtain rfl:=Rep.sc_iff.1 hv1
  obtain⟨l,A,c,rfl,hr,_,hm⟩:=rdK_ok hR hv0 hm
  refine(opened_any A c l h w hr).mono ?_
  rintro e w' ⟨(⟨h1,rfl⟩ |⟨h1,h2,rfl⟩ |⟨h1,h2,p,B,cap,rfl,hT⟩),hb⟩
  ·rw[if_pos h1]at hm
   simp only[AP.run,Option.some.injEq,Prod.mk.injEq]at hm
   obtain⟨rfl,rfl,rfl⟩:=hm
   exact⟨_,ρ,rfl,step_of_below hR hb,Rep.tup_iff.2 ⟨_,rfl,.cons (.sc _) (.cons (.sc _) .nil)⟩⟩
  ·rw[if_neg (by simpa using h1),if_pos h2]at hm
   simp only[AP.run,Option.some.injEq,Prod.mk.injEq]at hm
   obtain⟨rfl,rfl,rfl⟩:=hm
   exact⟨_,ρ,rfl,step_of_below hR hb,Rep.tup_iff.2 ⟨_,rfl,.cons (.sc _) (.cons (.sc _) .nil)⟩⟩
  ·rw[if_neg (by simpa using h1),if_neg (by simpa using h2)]at hm
   simp only[AP.run]at hm
   split at hm
   ·rename_i f1
    split at hm
    ·rename_i f2
     simp only[Option.some.injEq,Prod.mk.injEq]at hm
     obtain⟨rfl,rfl,rfl⟩:=hm
     rw[upd_ne _ _ (by omega)]at f2
     obtain⟨cur,hc1,hc2,hc3⟩:=hT.row
     have hil:(ints l).length=l.length:=ints_len l
     refine⟨_,_,rfl,Step.two (L1:=⟨B,0,cap,1⟩) (L2:=⟨p,0,1,1⟩) hR f1 f2 hb rfl rfl hT.bb hT.pb (Ne.symm hT.ne) (fun ρ' O _=>?_) (fun ρ' O hρ=>?_),Rep.tup_iff.2 ⟨_,rfl,.cons (.ptr (updR_same _ _ _)) (.cons (.sc _) .nil)⟩⟩
     ·refine⟨rfl,cur,3,hc1,by rw[hc2];exact(Nat.zero_add _).symm,by rw[hil];exact hT.le,?_⟩
      rw[hil,List.drop_zero,hc3]
      exact⟨by simp,rep_int l⟩
     ·refine⟨rfl,_,91,hT.hp,rfl,Nat.le_refl _,?_⟩
      exact .cons (.sl (L:=⟨B,0,cap,1⟩) hρ (by simp) hT.le hT.capm) .nil
    ·cases hm
   ·cases hm
 ·simp[AP.run]at hm
end Go.Proofs.Ytdcomhdadnhpnaa
end
section
namespace Go.Proofs.Ytdcomhdadnhpnaa
open Go Go.Am Go.RowKit
attribute [local irreducible] wA opsQ opsLQ thenA blockA EndA
attribute [local go_sem] sz91 ze91 by91 ag91 fo91_0 bu91 Try.underlying91 sz92 ze92 by92 ag92 Try.underlying92 sz102 ze102 by102 ag102 fo102_0 fo102_1 bu102 Try.underlying102
def wK (k:Nat→Nat→Nat→AP AV) (o:AO):AP AV:=match o with
 | .row 0 1 [.sl n ver 0 len]=>k n ver len
 |_=>.fail
theorem wK_some {s:Nat} {k:Nat→Nat→Nat→AP AV} {o:AO} {H:AHp} {x:AV×AHp×Nat} (h:(wK k o).run H s=some x):∃n ver len,o= .row 0 1 [.sl n ver 0 len]∧(k n ver len).run H s=some x:=by
 unfold wK at h
 split at h
 ·exact⟨_,_,_,rfl,h⟩
 ·simp[AP.run]at h
noncomputable def rdW (p:Nat) (k:List Int→AP AV):AP AV:=.get p (wK fun n ver len=>.get n (iK ver fun l=>if len=l.length then k l else .fail))
theorem rdW_some {p s:Nat} {k:List Int→AP AV} {H:AHp} {x:AV×AHp×Nat} (h:(rdW p k).run H s=some x):∃n ver l,H p=some (.row 0 1 [.sl n ver 0 l.length])∧H n=some (.row ver 1 (ints l))∧(k l).run H s=some x:=by
 unfold rdW at h
 obtain⟨o,h1,q1⟩:=get_some h
 obtain⟨n,ver,len,rfl,q2⟩:=wK_some q1
 obtain⟨o,h2,q3⟩:=get_some q2
 obtain⟨l,rfl,q4⟩:=iK_some q3
 clear h q1 q2 q3
 have h:=q4
 clear q4
 split at h
 ·rename_i e
  subst e
  exact⟨n,ver,l,h1,h2,h⟩
 ·simp[AP.run]at h
noncomputable def c74:List AV→AP AV
 | [.agg [.ptr p 0 0,.sc (.int .i64 a)]]=>rdW p fun l=>if 0≤a∧a<(l.length:Nat)then .ret (.sc (.int .i64 (ati l a.toNat)))else .fail
 |_=>.fail
noncomputable def c75:List AV→AP AV
 | [.agg [.ptr p 0 0,.sc (.int .i64 a)]]=>rdW p fun l=>if 0≤a∧a+1<(l.length:Nat)∧a<1000000000 then .ret (.sc (.int .i64 (ati l (a.toNat+1))))else .fail
 |_=>.fail
noncomputable def c77:List AV→AP AV
 | [.agg [.ptr p 0 0,.sc (.int .i64 a)]]=>rdW p fun l=>if 0≤a∧a+1<(l.length:Nat)∧a<1000000000 then .ret (.agg [.sc (.int .i64 (ati l a.toNat)),.sc (.int .i64 (ati l (a.toNat+1)))])else .fail
 |_=>.fail
noncomputable def c88:List AV→AP AV
 | [.ptr p 0 0]=>rdW p fun l=>if 0<l.length then .ret (.sc (.int .i64 (ati l 0)))else .fail
 |_=>.fail
def c73:List AV→AP AV
 | [.ptr p 0 0,.sc (.int .i64 r)]=>.get p fun _=>if 0≤r∧r≤1000000 then .ret (.agg [.ptr p 0 0,.sc (.int .i64 (recAt r.toNat:Nat))])else .fail
 |_=>.fail
def c87:List AV→AP AV
 | [.sc (.int .i64 r)]=>if 0≤r∧r≤1000000 then .ret (.sc (.int .i64 (recAt r.toNat:Nat)))else .fail
 |_=>.fail
def c89:List AV→AP AV
 | [.sc (.int .i64 r)]=>if 0≤r∧r≤1000000 then .ret (.sc (.int .i64 (headAt r.toNat:Nat)))else .fail
 |_=>.fail
def c66:List AV→AP AV
 | [.sc (.int .i64 h),.sc (.int .i64 b)]=>if 0≤h∧h≤4294967296∧1≤b∧b≤1000000 then .ret (.sc (.int .i64 (bkt h.toNat b.toNat:Nat)))else .fail
 |_=>.fail
theorem fin_pure {H0 H2:AHp} {s:Nat} (hs:∀n,s≤n→H0 n=none) (hE:∀q,q<s→H2 q=H0 q):Fin H0 H2 (fun _=>none) H0:=
 ⟨fun n hn=>⟨hn,rfl⟩,fun n o' hn=>.inl ⟨rfl,.inl ⟨hn,by rw[hE n (Nat.lt_of_not_le fun k=>by rw[hs n k]at hn;cases hn)];exact hn⟩⟩,fun a b n o o' h=>by simp at h,fun q n o h=>by simp at h,⟨s,hs⟩⟩
theorem end_sc {E:Ent} {s:Nat} {H1:AHp} {x y:AV} (hs:∀q,s≤q→E.H q=none) (hE:∀q,q<s→H1 q=E.H q) (hx:Pub H1 (fun n=>E.H n≠none∧(none:Option (Nat×Nat))=none) (fun _=>none) x y):
  ∃(H2:AHp) (r2:AV) (N:Nat→Option (Nat×Nat)),WkH H1 H2∧Wk r2 y∧Fin E.H H2 N E.H∧Pub H2 (fun n=>E.H n≠none∧N n=none) N x r2:=
 ⟨H1,y,fun _=>none,WkH.refl _,Wk.rfl',fin_pure hs hE,hx⟩
theorem a74 (args:List AV):ACall Try.prog 74 args (c74 args):=by
 intro ρ H w vs hR hA s r H' s' hm
 unfold c74 at hm
 split at hm
 ·rename_i p a
  refine acall_genW (args:=[.agg [.ptr p 0 0,.sc (.int .i64 a)]]) Try.func74 rfl (fun E s0 s r H' s' hr hs=>?_) ρ H w _ hR hA s r H' s' hm
  obtain⟨n,ver,l,h1,h2,hr⟩:=rdW_some hr
  split at hr
  ·rename_i hc
   obtain⟨c1,c2⟩:=hc
   simp only[AP.run,Option.some.injEq,Prod.mk.injEq]at hr
   obtain⟨rfl,rfl,rfl⟩:=hr
   have hs0:∀q,s≤q→E.H q=none:=fun q hq=>(hs q hq).1
   have hpl:p<s:=Nat.lt_of_not_le fun h=>by rw[hs0 p h]at h1;cases h1
   have hnl:n<s:=Nat.lt_of_not_le fun h=>by rw[hs0 n h]at h2;cases h2
   refine wA_ok hmix noCT_ok _ (by kernel_rfl) ?_
   simp(maxSteps:=300000)only[begA,Try.ntmps74,List.replicate_succ,List.replicate_zero,List.length_cons,List.length_nil,List.cons_append,List.nil_append]
   have hil:=ints_len l
   have hit:=ints_take l
   obtain⟨i,rfl⟩:∃i:Nat,a=(i:Int):=⟨a.toNat,by omega⟩
   have hi:i<l.length:=by omega
   have hat:=ints_at_ hi
   rw[Int.toNat_natCast]
   repeat(first |(with_reducible first |apply Q0 |apply Q1 |apply QG |apply Q2 |apply Q3 |apply Q4 |apply Q5 |apply Q6 |apply Q7 |apply Q8 |apply Q9 |apply QA |apply QB |apply QC |apply QD |apply QE |apply QF) |((first |(with_reducible apply QK rfl) |(apply QT;simp only[go_sem]<;>exact rfl));simp(disch:=omega)only[go_sem,hs0,upd_ne,h1,h2,hil,hit,hat];exact rfl;simp only[sB,sA,putA];exact rfl) |((first |(with_reducible apply QL rfl) |(apply QM;simp only[go_sem]<;>exact rfl));simp(disch:=omega)only[go_sem,hs0,upd_ne,h1,h2,hil,hit,hat];exact rfl;simp only[sB,sA,putA];exact rfl;simp only[logT_none,logT_rd,logT_wr,List.cons_append,List.nil_append];exact rfl) |((first |apply QI |apply QN);simp only[go_sem]<;>exact rfl;simp only[sB,sA,putA];exact rfl) |(refine QO ?_ ?_;first |focus(simp only[dyn_nil,dyn_cons,allY_nil,allY_cons,dj_rr,true_or,true_and];done) |focus(simp only[dyn_nil,dyn_cons,allY_nil,allY_cons,Dj,List.mem_cons,List.not_mem_nil,or_false,forall_eq,forall_eq_or_imp,and_true,true_and,false_imp_iff,implies_true];omega) |focus(simp only[dyn_nil,dyn_cons,allY_nil,allY_cons,and_true,true_and];(repeat' refine And.intro ?_ ?_);all_goals first |(left;simp only[Dj,List.mem_cons,List.not_mem_nil,or_false,forall_eq,forall_eq_or_imp,and_true,true_and,false_imp_iff,implies_true];first |done |omega) |(right;kernel_rfl))) |(apply QQ;simp only[evA,gB,gA];exact rfl) |((first |apply QX |apply QY);(first |rfl |decide |assumption)))
   (apply QZ;simp(disch:=omega)only[go_sem,Try.results74];exact rfl;simp only[packA];exact rfl)
   exact end_sc hs0 (fun q hq=>by simp(disch:=omega)only[upd_ne]) (Pub.sc _)
  ·simp[AP.run]at hr
 ·simp[AP.run]at hm
theorem a75 (args:List AV):ACall Try.prog 75 args (c75 args):=by
 intro ρ H w vs hR hA s r H' s' hm
 unfold c75 at hm
 split at hm
 ·rename_i p a
  refine acall_genW (args:=[.agg [.ptr p 0 0,.sc (.int .i64 a)]]) Try.func75 rfl (fun E s0 s r H' s' hr hs=>?_) ρ H w _ hR hA s r H' s' hm
  obtain⟨n,ver,l,h1,h2,hr⟩:=rdW_some hr
  split at hr
  ·rename_i hc
   obtain⟨c1,c2,c3⟩:=hc
   simp only[AP.run,Option.some.injEq,Prod.mk.injEq]at hr
   obtain⟨rfl,rfl,rfl⟩:=hr
   have hs0:∀q,s≤q→E.H q=none:=fun q hq=>(hs q hq).1
   have hpl:p<s:=Nat.lt_of_not_le fun h=>by rw[hs0 p h]at h1;cases h1
   have hnl:n<s:=Nat.lt_of_not_le fun h=>by rw[hs0 n h]at h2;cases h2
   refine wA_ok hmix noCT_ok _ (by kernel_rfl) ?_
   simp(maxSteps:=300000)only[begA,Try.ntmps75,List.replicate_succ,List.replicate_zero,List.length_cons,List.length_nil,List.cons_append,List.nil_append]
   have hil:=ints_len l
   have hit:=ints_take l
   obtain⟨i,rfl⟩:∃i:Nat,a=(i:Int):=⟨a.toNat,by omega⟩
   have hi:i+1<l.length:=by omega
   have hat:=ints_at_ hi
   have hi1:(((i:Nat):Int)+1).toNat=i+1:=by omega
   rw[Int.toNat_natCast]
   repeat(first |(with_reducible first |apply Q0 |apply Q1 |apply QG |apply Q2 |apply Q3 |apply Q4 |apply Q5 |apply Q6 |apply Q7 |apply Q8 |apply Q9 |apply QA |apply QB |apply QC |apply QD |apply QE |apply QF) |((first |(with_reducible apply QK rfl) |(apply QT;simp only[go_sem]<;>exact rfl));simp(disch:=omega)only[go_sem,hs0,upd_ne,h1,h2,hil,hit,hat,hi1,tn1];exact rfl;simp only[sB,sA,putA];exact rfl) |((first |(with_reducible apply QL rfl) |(apply QM;simp only[go_sem]<;>exact rfl));simp(disch:=omega)only[go_sem,hs0,upd_ne,h1,h2,hil,hit,hat,hi1,tn1];exact rfl;simp only[sB,sA,putA];exact rfl;simp only[logT_none,logT_rd,logT_wr,List.cons_append,List.nil_append];exact rfl) |((first |apply QI |apply QN);simp only[go_sem]<;>exact rfl;simp only[sB,sA,putA];exact rfl) |(refine QO ?_ ?_;first |focus(simp only[dyn_nil,dyn_cons,allY_nil,allY_cons,dj_rr,true_or,true_and];done) |focus(simp only[dyn_nil,dyn_cons,allY_nil,allY_cons,Dj,List.mem_cons,List.not_mem_nil,or_false,forall_eq,forall_eq_or_imp,and_true,true_and,false_imp_iff,implies_true];omega) |focus(simp only[dyn_nil,dyn_cons,allY_nil,allY_cons,and_true,true_and];(repeat' refine And.intro ?_ ?_);all_goals first |(left;simp only[Dj,List.mem_cons,List.not_mem_nil,or_false,forall_eq,forall_eq_or_imp,and_true,true_and,false_imp_iff,implies_true];first |done |omega) |(right;kernel_rfl))) |(apply QQ;simp only[evA,gB,gA];exact rfl) |((first |apply QX |apply QY);(first |rfl |decide |assumption)))
   (apply QZ;simp(disch:=omega)only[go_sem,Try.results75];exact rfl;simp only[packA];exact rfl)
   exact end_sc hs0 (fun q hq=>by simp(disch:=omega)only[upd_ne]) (Pub.sc _)
  ·simp[AP.run]at hr
 ·simp[AP.run]at hm
noncomputable def ctV:CT:=fun f args=>if f=74 then c74 args else if f=75 then c75 args else noCT f args
theorem ctV_ok:CTok Try.prog ctV:=fun f args=>by
 unfold ctV
 split
 ·rename_i e;subst e;exact a74 args
 split
 ·rename_i e;subst e;exact a75 args
 ·exact noCT_ok f args
theorem ctV_74 (a:List AV):ctV 74 a=c74 a:=rfl
theorem ctV_75 (a:List AV):ctV 75 a=c75 a:=rfl
theorem cal74:callable Try.prog 74=true:=by kernel_rfl
theorem cal75:callable Try.prog 75=true:=by kernel_rfl
theorem a77 (args:List AV):ACall Try.prog 77 args (c77 args):=by
 intro ρ H w vs hR hA s r H' s' hm
 unfold c77 at hm
 split at hm
 ·rename_i p a
  refine acall_genW (args:=[.agg [.ptr p 0 0,.sc (.int .i64 a)]]) Try.func77 rfl (fun E s0 s r H' s' hr hs=>?_) ρ H w _ hR hA s r H' s' hm
  obtain⟨n,ver,l,h1,h2,hr⟩:=rdW_some hr
  split at hr
  ·rename_i hc
   obtain⟨c1,c2,c3⟩:=hc
   simp only[AP.run,Option.some.injEq,Prod.mk.injEq]at hr
   obtain⟨rfl,rfl,rfl⟩:=hr
   have hs0:∀q,s≤q→E.H q=none:=fun q hq=>(hs q hq).1
   have hpl:p<s:=Nat.lt_of_not_le fun h=>by rw[hs0 p h]at h1;cases h1
   have hnl:n<s:=Nat.lt_of_not_le fun h=>by rw[hs0 n h]at h2;cases h2
   refine wA_ok hmix ctV_ok _ (by kernel_rfl) ?_
   simp(maxSteps:=300000)only[begA,Try.ntmps77,List.replicate_succ,List.replicate_zero,List.length_cons,List.length_nil,List.cons_append,List.nil_append]
   have hil:=ints_len l
   have hit:=ints_take l
   obtain⟨i,rfl⟩:∃i:Nat,a=(i:Int):=⟨a.toNat,by omega⟩
   have hi:i+1<l.length:=by omega
   have hi0:((i:Nat):Int)<((l.length:Nat):Int):=by omega
   have hi2:((i:Nat):Int)+1<((l.length:Nat):Int):=by omega
   rw[Int.toNat_natCast]
   repeat(first |(with_reducible first |apply Q0 |apply Q1 |apply QG |apply Q2 |apply Q3 |apply Q4 |apply Q5 |apply Q6 |apply Q7 |apply Q8 |apply Q9 |apply QA |apply QB |apply QC |apply QD |apply QE |apply QF) |((first |(with_reducible apply QK rfl) |(apply QT;simp only[go_sem]<;>exact rfl));simp(disch:=omega)only[go_sem,hs0,upd_ne,h1,h2,hil,hit,cal74,ctV_74,c74,cal75,ctV_75,c75,rdW,wK,iK_ok,hi0,hi2,c3];exact rfl;simp only[sB,sA,putA];exact rfl) |((first |(with_reducible apply QL rfl) |(apply QM;simp only[go_sem]<;>exact rfl));simp(disch:=omega)only[go_sem,hs0,upd_ne,h1,h2,hil,hit,cal74,ctV_74,c74,cal75,ctV_75,c75,rdW,wK,iK_ok,hi0,hi2,c3];exact rfl;simp only[sB,sA,putA];exact rfl;simp only[logT_none,logT_rd,logT_wr,List.cons_append,List.nil_append];exact rfl) |((first |apply QI |apply QN);simp only[go_sem]<;>exact rfl;simp only[sB,sA,putA];exact rfl) |(refine QO ?_ ?_;first |focus(simp only[dyn_nil,dyn_cons,allY_nil,allY_cons,dj_rr,true_or,true_and];done) |focus(simp only[dyn_nil,dyn_cons,allY_nil,allY_cons,Dj,List.mem_cons,List.not_mem_nil,or_false,forall_eq,forall_eq_or_imp,and_true,true_and,false_imp_iff,implies_true];omega) |focus(simp only[dyn_nil,dyn_cons,allY_nil,allY_cons,and_true,true_and];(repeat' refine And.intro ?_ ?_);all_goals first |(left;simp only[Dj,List.mem_cons,List.not_mem_nil,or_false,forall_eq,forall_eq_or_imp,and_true,true_and,false_imp_iff,implies_true];first |done |omega) |(right;kernel_rfl))) |(apply QQ;simp only[evA,gB,gA];exact rfl) |((first |apply QX |apply QY);(first |rfl |decide |assumption)))
   (apply QZ;simp(disch:=omega)only[go_sem,Try.results77];exact rfl;simp only[packA];exact rfl)
   exact end_sc hs0 (fun q hq=>by simp(disch:=omega)only[upd_ne]) (.agg rfl (fun i x y hx hy=>by
    match i with
    |0=>simp at hx hy;subst hx;subst hy;exact Pub.sc _
    |1=>simp at hx hy;subst hx;subst hy;exact Pub.sc _
    |i+2=>simp at hx))
  ·simp[AP.run]at hr
 ·simp[AP.run]at hm
theorem a88 (args:List AV):ACall Try.prog 88 args (c88 args):=by
 intro ρ H w vs hR hA s r H' s' hm
 unfold c88 at hm
 split at hm
 ·rename_i p
  refine acall_genW (args:=[.ptr p 0 0]) Try.func88 rfl (fun E s0 s r H' s' hr hs=>?_) ρ H w _ hR hA s r H' s' hm
  obtain⟨n,ver,l,h1,h2,hr⟩:=rdW_some hr
  split at hr
  ·rename_i hc
   have c1:=hc
   simp only[AP.run,Option.some.injEq,Prod.mk.injEq]at hr
   obtain⟨rfl,rfl,rfl⟩:=hr
   have hs0:∀q,s≤q→E.H q=none:=fun q hq=>(hs q hq).1
   have hpl:p<s:=Nat.lt_of_not_le fun h=>by rw[hs0 p h]at h1;cases h1
   have hnl:n<s:=Nat.lt_of_not_le fun h=>by rw[hs0 n h]at h2;cases h2
   refine wA_ok hmix noCT_ok _ (by kernel_rfl) ?_
   simp(maxSteps:=300000)only[begA,Try.ntmps88,List.replicate_succ,List.replicate_zero,List.length_cons,List.length_nil,List.cons_append,List.nil_append]
   have hil:=ints_len l
   have hit:=ints_take l
   have hat:=ints_at_ c1
   have hat0:(ints l).head? =some (.sc (.int .i64 (ati l 0))):=by rw[List.head?_eq_getElem?];exact hat
   repeat(first |(with_reducible first |apply Q0 |apply Q1 |apply QG |apply Q2 |apply Q3 |apply Q4 |apply Q5 |apply Q6 |apply Q7 |apply Q8 |apply Q9 |apply QA |apply QB |apply QC |apply QD |apply QE |apply QF) |((first |(with_reducible apply QK rfl) |(apply QT;simp only[go_sem]<;>exact rfl));simp(disch:=omega)only[go_sem,hs0,upd_ne,h1,h2,hil,hit,hat,hat0];exact rfl;simp only[sB,sA,putA];exact rfl) |((first |(with_reducible apply QL rfl) |(apply QM;simp only[go_sem]<;>exact rfl));simp(disch:=omega)only[go_sem,hs0,upd_ne,h1,h2,hil,hit,hat,hat0];exact rfl;simp only[sB,sA,putA];exact rfl;simp only[logT_none,logT_rd,logT_wr,List.cons_append,List.nil_append];exact rfl) |((first |apply QI |apply QN);simp only[go_sem]<;>exact rfl;simp only[sB,sA,putA];exact rfl) |(refine QO ?_ ?_;first |focus(simp only[dyn_nil,dyn_cons,allY_nil,allY_cons,dj_rr,true_or,true_and];done) |focus(simp only[dyn_nil,dyn_cons,allY_nil,allY_cons,Dj,List.mem_cons,List.not_mem_nil,or_false,forall_eq,forall_eq_or_imp,and_true,true_and,false_imp_iff,implies_true];omega) |focus(simp only[dyn_nil,dyn_cons,allY_nil,allY_cons,and_true,true_and];(repeat' refine And.intro ?_ ?_);all_goals first |(left;simp only[Dj,List.mem_cons,List.not_mem_nil,or_false,forall_eq,forall_eq_or_imp,and_true,true_and,false_imp_iff,implies_true];first |done |omega) |(right;kernel_rfl))) |(apply QQ;simp only[evA,gB,gA];exact rfl) |((first |apply QX |apply QY);(first |rfl |decide |assumption)))
   (apply QZ;simp(disch:=omega)only[go_sem,Try.results88];exact rfl;simp only[packA];exact rfl)
   exact end_sc hs0 (fun q hq=>by simp(disch:=omega)only[upd_ne]) (Pub.sc _)
  ·simp[AP.run]at hr
 ·simp[AP.run]at hm
theorem a87 (args:List AV):ACall Try.prog 87 args (c87 args):=by
 intro ρ H w vs hR hA s r H' s' hm
 unfold c87 at hm
 split at hm
 ·split at hm
  ·rename_i n hn
   exact num1 (fun w=>recordAt_any n w hn.1 hn.2) hR hA hm
  ·simp[AP.run]at hm
 ·simp[AP.run]at hm
theorem a89 (args:List AV):ACall Try.prog 89 args (c89 args):=by
 intro ρ H w vs hR hA s r H' s' hm
 unfold c89 at hm
 split at hm
 ·split at hm
  ·rename_i n hn
   exact num1 (fun w=>headAt_any n w hn.1 hn.2) hR hA hm
  ·simp[AP.run]at hm
 ·simp[AP.run]at hm
theorem a66 (args:List AV):ACall Try.prog 66 args (c66 args):=by
 intro ρ H w vs hR hA s r H' s' hm
 unfold c66 at hm
 split at hm
 ·split at hm
  ·rename_i h b hh
   obtain⟨v0,v1,rfl,hv0,hv1⟩:=reps2 hA
   obtain rfl:=Rep.sc_iff.1 hv0
   obtain rfl:=Rep.sc_iff.1 hv1
   simp only[AP.run,Option.some.injEq,Prod.mk.injEq]at hm
   obtain⟨rfl,rfl,rfl⟩:=hm
   refine(bucket_any h b w hh.1 hh.2.1 hh.2.2.1 hh.2.2.2).mono ?_
   rintro e w' ⟨rfl,rfl⟩
   exact⟨_,ρ,rfl,.refl hR,.sc _⟩
  ·simp[AP.run]at hm
 ·simp[AP.run]at hm
noncomputable def ctV1:CT:=fun f args=>if f=87 then c87 args else ctV f args
theorem ctV1_ok:CTok Try.prog ctV1:=fun f args=>by
 unfold ctV1
 split
 ·rename_i e;subst e;exact a87 args
 ·exact ctV_ok f args
theorem ctV1_87 (a:List AV):ctV1 87 a=c87 a:=rfl
theorem cal87:callable Try.prog 87=true:=by kernel_rfl
theorem a73 (args:List AV):ACall Try.prog 73 args (c73 args):=by
 intro ρ H w vs hR hA s r H' s' hm
 unfold c73 at hm
 split at hm
 ·rename_i p a
  refine acall_genW (args:=[.ptr p 0 0,.sc (.int .i64 a)]) Try.func73 rfl (fun E s0 s r H' s' hr hs=>?_) ρ H w _ hR hA s r H' s' hm
  obtain⟨o,h1,hr⟩:=get_some hr
  split at hr
  ·rename_i hc
   simp only[AP.run,Option.some.injEq,Prod.mk.injEq]at hr
   obtain⟨rfl,rfl,rfl⟩:=hr
   have hs0:∀q,s≤q→E.H q=none:=fun q hq=>(hs q hq).1
   refine wA_ok hmix ctV1_ok _ (by kernel_rfl) ?_
   simp(maxSteps:=300000)only[begA,Try.ntmps73,List.replicate_succ,List.replicate_zero,List.length_cons,List.length_nil,List.cons_append,List.nil_append]
   repeat(first |(with_reducible first |apply Q0 |apply Q1 |apply QG |apply Q2 |apply Q3 |apply Q4 |apply Q5 |apply Q6 |apply Q7 |apply Q8 |apply Q9 |apply QA |apply QB |apply QC |apply QD |apply QE |apply QF) |((first |(with_reducible apply QK rfl) |(apply QT;simp only[go_sem]<;>exact rfl));simp(disch:=omega)only[go_sem,hs0,upd_ne,cal87,ctV1_87,c87,hc];exact rfl;simp only[sB,sA,putA];exact rfl) |((first |(with_reducible apply QL rfl) |(apply QM;simp only[go_sem]<;>exact rfl));simp(disch:=omega)only[go_sem,hs0,upd_ne,cal87,ctV1_87,c87,hc];exact rfl;simp only[sB,sA,putA];exact rfl;simp only[logT_none,logT_rd,logT_wr,List.cons_append,List.nil_append];exact rfl) |((first |apply QI |apply QN);simp only[go_sem]<;>exact rfl;simp only[sB,sA,putA];exact rfl) |(refine QO ?_ ?_;first |focus(simp only[dyn_nil,dyn_cons,allY_nil,allY_cons,dj_rr,true_or,true_and];done) |focus(simp only[dyn_nil,dyn_cons,allY_nil,allY_cons,Dj,List.mem_cons,List.not_mem_nil,or_false,forall_eq,forall_eq_or_imp,and_true,true_and,false_imp_iff,implies_true];omega) |focus(simp only[dyn_nil,dyn_cons,allY_nil,allY_cons,and_true,true_and];(repeat' refine And.intro ?_ ?_);all_goals first |(left;simp only[Dj,List.mem_cons,List.not_mem_nil,or_false,forall_eq,forall_eq_or_imp,and_true,true_and,false_imp_iff,implies_true];first |done |omega) |(right;kernel_rfl))) |(apply QQ;simp only[evA,gB,gA];exact rfl) |((first |apply QX |apply QY);(first |rfl |decide |assumption)))
   (apply QZ;simp(disch:=omega)only[go_sem,Try.results73];exact rfl;simp only[packA];exact rfl)
   refine end_sc hs0 (fun q hq=>by simp(disch:=omega)only[upd_ne]) (.agg rfl (fun i x y hx hy=>?_))
   match i with
   |0=>simp at hx hy;subst hx;subst hy;exact .same ⟨by rw[h1];simp,rfl⟩
   |1=>simp at hx hy;subst hx;subst hy;exact Pub.sc _
   |i+2=>simp at hx
  ·simp[AP.run]at hr
 ·simp[AP.run]at hm
noncomputable def ctY:CT:=fun f args=>if f=69 then c69 args else if f=73 then c73 args else if f=77 then c77 args else if f=88 then c88 args else if f=89 then c89 args else if f=66 then c66 args else ctV1 f args
theorem ctY_ok:CTok Try.prog ctY:=fun f args=>by
 unfold ctY
 split
 ·rename_i e;subst e;exact a69 args
 split
 ·rename_i e;subst e;exact a73 args
 split
 ·rename_i e;subst e;exact a77 args
 split
 ·rename_i e;subst e;exact a88 args
 split
 ·rename_i e;subst e;exact a89 args
 split
 ·rename_i e;subst e;exact a66 args
 ·exact ctV1_ok f args
theorem cal69:callable Try.prog 69=true:=by kernel_rfl
theorem cal73:callable Try.prog 73=true:=by kernel_rfl
theorem cal77:callable Try.prog 77=true:=by kernel_rfl
theorem cal88:callable Try.prog 88=true:=by kernel_rfl
theorem ctY_69 (a:List AV):ctY 69 a=c69 a:=rfl
theorem ctY_73 (a:List AV):ctY 73 a=c73 a:=rfl
theorem ctY_77 (a:List AV):ctY 77 a=c77 a:=rfl
theorem ctY_87 (a:List AV):ctY 87 a=c87 a:=rfl
theorem ctY_88 (a:List AV):ctY 88 a=c88 a:=rfl
end Go.Proofs.Ytdcomhdadnhpnaa
end
section
namespace Go.Proofs.Ytdcomhdadnhpnaa
open Go Go.Am Go.RowKit
attribute [local irreducible] wA opsQ opsLQ thenA blockA EndA
end Go.Proofs.Ytdcomhdadnhpnaa
end
section
namespace Go.Proofs.Ytdcomhdadnhpnaa
open Go Go.Am Go.RowKit
attribute [local irreducible] wA opsQ opsLQ thenA blockA EndA
def slotsL (n:Nat):List Int:=(List.range n).map fun r=>((recAt r:Nat):Int)+1
theorem slotsL_len (n:Nat):(slotsL n).length=n:=by simp[slotsL]
theorem slotsL_succ (n:Nat):slotsL (n+1)=slotsL n++[((recAt n:Nat):Int)+1]:=by simp[slotsL,List.range_succ]
open Classical in
/-- what Slots answers -/
noncomputable def slotsF (l:List Int):List Int×Int:=if ValidL l then(slotsL (tabN l),0)else([],600)
theorem slotsF_bad {l:List Int} (h:¬ValidL l):slotsF l=([],600):=if_neg h
theorem slotsF_ok {l:List Int} (h:ValidL l):slotsF l=(slotsL (tabN l),0):=if_pos h
theorem rdT_tab (recs:List (Int×Int)) (chs:List (List Nat)) (k:List (Int×Int)→List (List Nat)→AP AV):rdT (tabG recs chs) k=k recs chs:=by
 unfold tabG rdT rdE2
 simp only[elsOf_elsA,if_true,elsA_len,rdC_dsl]
end Go.Proofs.Ytdcomhdadnhpnaa
end
