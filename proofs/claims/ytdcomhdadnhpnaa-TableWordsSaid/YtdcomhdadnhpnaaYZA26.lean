import Derived.Test.YtdcomhdadnhpnaaYZA8
set_option linter.all false
namespace Go.Proofs.Ytdcomhdadnhpnaa
open Go Go.Am Go.RowKit
theorem Step.freeze {ρ:Inj} {H:AHp} {w:World} {q v nm ver k:Nat} {c:List Nat} {cs:List AV} (h:Rel ρ H w) (hq:H q=some (.row v 1 (natsA c))) (hn:H nm=some (.row ver 1 cs)) (hk:cs[k]? =some (.sl q v 0 c.length)) (hne:q≠nm):
  Step ρ H w ρ (upd (upd H q (.dead v)) nm (.row ver 1 (cs.set k (.dsl c.length (natsA c))))) w:=by
 let H':AHp:=upd (upd H q (.dead v)) nm (.row ver 1 (cs.set k (.dsl c.length (natsA c))))
 have e1:H' q=some (.dead v):=by show upd _ _ _ _=_;rw[upd_ne _ _ hne,upd_same]
 have e2:H' nm=some (.row ver 1 (cs.set k (.dsl c.length (natsA c)))):=upd_same _ _ _
 have e3:∀m,m≠q→m≠nm→H' m=H m:=fun m a b=>by show upd _ _ _ _=_;rw[upd_ne _ _ b,upd_ne _ _ a]
 have back:∀m o,H' m=some o→o.live=true→m≠q∧∃o',H m=some o'∧o'.live=true∧o'.ver=o.ver∧(m≠nm→o'=o):=by
  intro m o h1 h2
  have hmq:m≠q:=by rintro rfl;rw[e1]at h1;cases h1;cases h2
  refine⟨hmq,?_⟩
  by_cases e:m=nm
  ·subst e
   rw[e2]at h1;cases h1
   exact⟨_,hn,rfl,rfl,fun h=>absurd rfl h⟩
  ·rw[e3 m hmq e]at h1
   exact⟨o,h1,h2,rfl,fun _=>rfl⟩
 have hown:∀b,own ρ H' b→own ρ H b:=by
  rintro b ⟨m,o,L,h1,h2,h3,h4⟩
  obtain⟨hmq,o',k1,k2,k3,_⟩:=back m o h1 h2
  exact⟨m,o',L,k1,k2,by rw[k3];exact h3,h4⟩
 have hrep:∀ {a:AV} {x:Value},Rep ρ (own ρ H) w a x→Rep ρ (own ρ H') w a x:=fun hr=>hr.last (fun _ _ _ h=>h) (Nat.le_refl _) (fun b hb=>.inl (hown b hb)) (fun _ _ _=>rfl)
 obtain⟨Lq,hLq,heq,cq,tq,hcq,hszq,hlenq,hrepq⟩:=h.live q _ hq rfl
 have hLq':ρ q v=some Lq:=hLq
 have hnown:¬own ρ H' Lq.block:=by
  rintro⟨m,o,L,h1,h2,h3,h4⟩
  obtain⟨hmq,o',k1,k2,k3,_⟩:=back m o h1 h2
  exact hmq (h.inj m q o' _ L Lq k1 hq k2 rfl (by rw[k3];exact h3) hLq h4)
 refine⟨fun _ _ _ h=>h,Nat.le_refl _,fun b hb=>.inl (hown b hb),fun _ _ _=>rfl,rfl,rfl,rfl,⟨fun m o h1 h2=>?_,fun m u L h1=>?_,fun m m' o o' L L' h1 h2 l1 l2 r1 r2 e=>?_,?_⟩⟩
 ·change H' m=some o at h1
  obtain⟨hmq,o',k1,k2,k3,k4⟩:=back m o h1 h2
  obtain⟨L,a1,a2⟩:=h.live m o' k1 k2
  refine⟨L,by rw[←k3];exact a1,?_⟩
  by_cases e:m=nm
  ·subst e
   have h1:=h1.symm.trans e2;cases h1
   rw[hn]at k1;cases k1
   obtain⟨b0,c0,t0,b1,b2,b3,b4⟩:=a2
   refine⟨b0,c0,t0,b1,b2,by rw[List.length_set];exact b3,⟨by rw[List.length_set];exact b4.len,fun i a x ha hx=>?_⟩⟩
   rw[List.length_set]at hx
   by_cases ei:k=i
   ·subst ei
    have hkl:=(List.getElem?_eq_some_iff.1 hk).1
    rw[List.getElem?_set_self hkl]at ha
    cases ha
    have hx2:=b4.at_ k _ x hk hx
    cases hx2 with
    |sl g1 g2 g3 g4=>
     have g1':ρ q v=some _:=g1
     rw[hLq']at g1';cases g1'
     refine .dsl (vs:=(cq.toList.drop Lq.base).take (natsA c).length) g3 hnown (Array.getElem?_eq_some_iff.1 hcq).1 hrepq.len (fun j y hy=>?_) (fun j a' y ha' hy=>?_)
     ·rw[List.getElem?_take]at hy
      split at hy
      ·rw[List.getElem?_drop]at hy
       rw[cell_of_heap hcq,←Array.getElem?_toList,←hy];rfl
      ·cases hy
     ·obtain⟨u,_,rfl⟩:=List.mem_map.1 (List.mem_of_getElem? ha')
      cases hrepq.at_ j _ y ha' hy
      exact .sc _
   ·rw[List.getElem?_set_ne ei]at ha
    exact hrep (b4.at_ i a x ha hx)
  ·rw[←k4 e]
   exact ObjAt.last (w:=w) (w':=w) (fun _ _ _ h=>h) (Nat.le_refl w.heap.size) (fun b hb=>.inl (hown b hb)) (fun _ _ _=>rfl) rfl a2
 ·obtain⟨o,a1,a2⟩:=h.dom m u L h1
  by_cases eq:m=q
  ·subst eq
   rw[hq]at a1;cases a1
   exact⟨_,e1,a2⟩
  ·by_cases en:m=nm
   ·subst en
    rw[hn]at a1;cases a1
    exact⟨_,e2,a2⟩
   ·exact⟨o,(e3 m eq en).trans a1,a2⟩
 ·obtain⟨_,p,k1,k2,k3,_⟩:=back m o h1 l1
  obtain⟨_,p',q1,q2,q3,_⟩:=back m' o' h2 l2
  exact h.inj m m' p p' L L' k1 q1 k2 q2 (by rw[k3];exact r1) (by rw[q3];exact r2) e
 ·obtain⟨N,hN⟩:=h.fin
  refine⟨N,fun m hm=>?_⟩
  have h0:=hN m hm
  have a:m≠q:=by rintro rfl;rw[hq]at h0;cases h0
  have b:m≠nm:=by rintro rfl;rw[hn]at h0;cases h0
  exact(e3 m a b).trans h0
end Go.Proofs.Ytdcomhdadnhpnaa
