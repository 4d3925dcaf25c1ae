import Derived.Test.YtdcomhdadnhpnaaYAB
set_option linter.all false
namespace Go.Proofs.Ytdcomhdadnhpnaa
open Go Go.Am Go.RowKit
theorem Step.two {ρ:Inj} {H:AHp} {w w1:World} {s:Nat} {L1 L2:Am.Loc} {o1 o2:AO} (hR:Rel ρ H w) (h1:H s=none) (h2:H (s+1)=none) (hb:Below w.heap.size w w1)
  (v1:o1.ver=0) (v2:o2.ver=0) (b1:w.heap.size≤L1.block) (b2:w.heap.size≤L2.block) (hne:L1.block≠L2.block)
  (k1:∀(ρ':Inj) (O:Nat→Prop),ρ' s 0=some L1→ObjAt ρ' O w1 L1 o1) (k2:∀(ρ':Inj) (O:Nat→Prop),ρ' s 0=some L1→ObjAt ρ' O w1 L2 o2):
  Step ρ H w (updR (updR ρ s 0 L1) (s+1) 0 L2) (upd (upd H s o1) (s+1) o2) w1:=by
 let ρ2:Inj:=updR (updR ρ s 0 L1) (s+1) 0 L2
 let H2:AHp:=upd (upd H s o1) (s+1) o2
 have r1:ρ2 s 0=some L1:=by show updR _ _ _ _ _ _=_;unfold updR;rw[if_neg (by omega),if_pos ⟨rfl,rfl⟩]
 have r2:ρ2 (s+1) 0=some L2:=updR_same _ _ _
 have r3:∀n k,n≠s→n≠s+1→ρ2 n k=ρ n k:=fun n k a b=>by show updR _ _ _ _ _ _=_;unfold updR;rw[if_neg (fun h=>b h.1),if_neg (fun h=>a h.1)]
 have r4:∀k L,ρ2 s k=some L→k=0∧L=L1:=fun k L h=>by
  change updR (updR ρ s 0 L1) (s+1) 0 L2 s k=some L at h
  unfold updR at h
  rw[if_neg (by omega)]at h
  split at h
  ·rename_i e;cases h;exact⟨e.2,rfl⟩
  ·rw[hR.none h1 k]at h;cases h
 have r5:∀k L,ρ2 (s+1) k=some L→k=0∧L=L2:=fun k L h=>by
  change updR (updR ρ s 0 L1) (s+1) 0 L2 (s+1) k=some L at h
  unfold updR at h
  split at h
  ·rename_i e;cases h;exact⟨e.2,rfl⟩
  ·rw[if_neg (by omega),hR.none h2 k]at h;cases h
 have e1:H2 s=some o1:=by show upd _ _ _ _=_;rw[upd_ne _ _ (by omega),upd_same]
 have e2:H2 (s+1)=some o2:=upd_same _ _ _
 have e3:∀n,n≠s→n≠s+1→H2 n=H n:=fun n a b=>by show upd _ _ _ _=_;rw[upd_ne _ _ b,upd_ne _ _ a]
 have hm:∀n k L,ρ n k=some L→ρ2 n k=some L:=fun n k L h=>by
  have a:n≠s:=fun e=>by subst e;rw[hR.none h1 k]at h;cases h
  have b:n≠s+1:=fun e=>by subst e;rw[hR.none h2 k]at h;cases h
  rw[r3 n k a b];exact h
 have hown:∀b,own ρ2 H2 b→own ρ H b∨w.heap.size≤b:=by
  rintro b ⟨n,o,L,a1,a2,a3,a4⟩
  by_cases c1:n=s
  ·subst c1
   obtain⟨_,rfl⟩:=r4 _ _ a3
   exact .inr (by omega)
  ·by_cases c2:n=s+1
   ·subst c2
    obtain⟨_,rfl⟩:=r5 _ _ a3
    exact .inr (by omega)
   ·rw[e3 n c1 c2]at a1
    rw[r3 n _ c1 c2]at a3
    exact .inl ⟨n,o,L,a1,a2,a3,a4⟩
 have hf:∀b,b<w.heap.size→w1.heap[b]? =w.heap[b]? :=fun b h=>hb.block b h
 have key:∀n o L,H2 n=some o→o.live=true→ρ2 n o.ver=some L→(n=s∧L=L1)∨(n=s+1∧L=L2)∨(n≠s∧n≠s+1∧H n=some o∧ρ n o.ver=some L∧L.block<w.heap.size):=fun n o L a1 a2 a3=>by
  by_cases c1:n=s
  ·subst c1;exact .inl ⟨rfl,(r4 _ _ a3).2⟩
  ·by_cases c2:n=s+1
   ·subst c2;exact .inr (.inl ⟨rfl,(r5 _ _ a3).2⟩)
   ·rw[e3 n c1 c2]at a1
    rw[r3 n _ c1 c2]at a3
    exact .inr (.inr ⟨c1,c2,a1,a3,hR.block_lt a1 a2 a3⟩)
 refine⟨hm,hb.size,hown,fun b h _=>hf b h,hb.os,hb.tape,hb.output,⟨fun n o a1 a2=>?_,fun n k L a1=>?_,fun n m o o' L L' a1 a2 l1 l2 q1 q2 e=>?_,?_⟩⟩
 ·by_cases c1:n=s
  ·subst c1
   have a1:H2 n=some o:=a1
   rw[e1]at a1;cases a1
   exact⟨L1,by rw[v1];exact r1,k1 _ _ r1⟩
  ·by_cases c2:n=s+1
   ·subst c2
    have a1:H2 (s+1)=some o:=a1
    rw[e2]at a1;cases a1
    exact⟨L2,by rw[v2];exact r2,k2 _ _ r1⟩
   ·have a1:H2 n=some o:=a1
    rw[e3 n c1 c2]at a1
    obtain⟨L,q1,q2⟩:=hR.live n o a1 a2
    exact⟨L,hm _ _ _ q1,q2.last hm hb.size hown (fun b h _=>hf b h) (hf _ (hR.block_lt a1 a2 q1))⟩
 ·by_cases c1:n=s
  ·subst c1
   exact⟨o1,e1,by rw[(r4 _ _ a1).1];exact Nat.zero_le _⟩
  ·by_cases c2:n=s+1
   ·subst c2
    exact⟨o2,e2,by rw[(r5 _ _ a1).1];exact Nat.zero_le _⟩
   ·have a1:ρ2 n k=some L:=a1
    rw[r3 n k c1 c2]at a1
    obtain⟨o,q1,q2⟩:=hR.dom n k L a1
    exact⟨o,(e3 n c1 c2).trans q1,q2⟩
 ·rcases key n o L a1 l1 q1 with⟨rfl,rfl⟩ |⟨rfl,rfl⟩ |⟨_,_,g1,g2,g3⟩<;>rcases key m o' L' a2 l2 q2 with⟨rfl,rfl⟩ |⟨rfl,rfl⟩ |⟨_,_,g4,g5,g6⟩
  ·rfl
  ·exact absurd e hne
  ·omega
  ·exact absurd e.symm hne
  ·rfl
  ·omega
  ·omega
  ·omega
  ·exact hR.inj n m o o' L L' g1 g4 l1 l2 g2 g5 e
 ·obtain⟨N,hN⟩:=hR.fin
  refine⟨max N (s+2),fun n hn=>?_⟩
  exact(e3 n (by omega) (by omega)).trans (hN n (by omega))
open Classical in
/-- opened: the words,copied -/
noncomputable def c69:List AV→AP AV
 | [t,.sc (.int .i64 h)]=>rdK t fun l=>if ¬ValidL l then .ret (.tup [.sc (.pointer none),.sc (.int .i64 600)])else if ¬(0≤h∧h≤2147483647)then .ret (.tup [.sc (.pointer none),.sc (.int .i64 1)])else
   .new (.row 0 1 (ints l)) fun n=>.new (.row 0 1 [.sl n 0 0 l.length]) fun p=>.ret (.tup [.ptr p 0 0,.sc (.int .i64 0)])
 |_=>.fail
theorem a69 (args:List AV):ACall Try.prog 69 args (c69 args):=by
 intro ρ H w vs hR hA s r H' s' hm
 unfold c69 at hm
 split at hm
 ·rename_i t h
  obtain⟨v0,v1,rfl,hv0,hv1⟩:=arg2 hA
  obtain rfl:=Rep.sc_iff.1 hv1
  obtain⟨l,A,c,rfl,hr,_,hm⟩:=rdK_ok hR hv0 hm
  refine(opened_any A c l h w hr).mono ?_
  rintro e w' ⟨(⟨h1,rfl⟩ |⟨h1,h2,rfl⟩ |⟨h1,h2,p,B,cap,rfl,hT⟩),hb⟩
  ·rw[if_pos h1]at hm
   simp only[AP.run,Option.some.injEq,Prod.mk.injEq]at hm
   obtain⟨rfl,rfl,rfl⟩:=hm
   exact⟨_,ρ,rfl,step_of_below hR hb,Rep.tup_iff.2 ⟨_,rfl,.cons (.sc _) (.cons (.sc _) .nil)⟩⟩
  ·rw[if_neg (by simpa using h1),if_pos h2]at hm
   simp only[AP.run,Option.some.injEq,Prod.mk.injEq]at hm
   obtain⟨rfl,rfl,rfl⟩:=hm
   exact⟨_,ρ,rfl,step_of_below hR hb,Rep.tup_iff.2 ⟨_,rfl,.cons (.sc _) (.cons (.sc _) .nil)⟩⟩
  ·rw[if_neg (by simpa using h1),if_neg (by simpa using h2)]at hm
   simp only[AP.run]at hm
   split at hm
   ·rename_i f1
    split at hm
    ·rename_i f2
     simp only[Option.some.injEq,Prod.mk.injEq]at hm
     obtain⟨rfl,rfl,rfl⟩:=hm
     rw[upd_ne _ _ (by omega)]at f2
     obtain⟨cur,hc1,hc2,hc3⟩:=hT.row
     have hil:(ints l).length=l.length:=ints_len l
     refine⟨_,_,rfl,Step.two (L1:=⟨B,0,cap,1⟩) (L2:=⟨p,0,1,1⟩) hR f1 f2 hb rfl rfl hT.bb hT.pb (Ne.symm hT.ne) (fun ρ' O _=>?_) (fun ρ' O hρ=>?_),Rep.tup_iff.2 ⟨_,rfl,.cons (.ptr (updR_same _ _ _)) (.cons (.sc _) .nil)⟩⟩
     ·refine⟨rfl,cur,3,hc1,by rw[hc2];exact(Nat.zero_add _).symm,by rw[hil];exact hT.le,?_⟩
      rw[hil,List.drop_zero,hc3]
      exact⟨by simp,rep_int l⟩
     ·refine⟨rfl,_,91,hT.hp,rfl,Nat.le_refl _,?_⟩
      exact .cons (.sl (L:=⟨B,0,cap,1⟩) hρ (by simp) hT.le hT.capm) .nil
    ·cases hm
   ·cases hm
 ·simp[AP.run]at hm
end Go.Proofs.Ytdcomhdadnhpnaa
