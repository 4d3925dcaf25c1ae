import Derived.Test.YtdcomhdadnhpnaaYZP26
import Derived.Test.YtdcomhdadnhpnaaYZT1
set_option linter.all false
namespace Go.Proofs.Ytdcomhdadnhpnaa
open Go.RowKit Go.Shelf
/-- the table to which elements are added one after the other -/
noncomputable def ofL:List Int→List (Int×Int)→List Int×Int
 |l,[]=>(l,0)
 |l,e::es=>if(addF l e.1 e.2).2.2=0 then ofL (addF l e.1 e.2).2.1 es else([],(addF l e.1 e.2).2.2)
/-- elements that are read -/
def RdP (w:World) (A:Option Addr) (L:List (Int×Int)):Prop:=
 0<L.length→∃b off,A=some ⟨b,off,none⟩∧b<w.heap.size∧∀i,(hi:i<L.length)→w.cell? ⟨b,off+i*2,none⟩=some (.int .i64 L[i].1)∧w.cell? ⟨b,off+i*2+1,none⟩=some (.int .i64 L[i].2)
theorem RdP.below {w w':World} {A:Option Addr} {L:List (Int×Int)} (h:RdP w A L) (hb:Below w.heap.size w w'):RdP w' A L:=fun h0=>by
 obtain⟨b,off,e,hl,hc⟩:=h h0
 exact⟨b,off,e,Nat.lt_of_lt_of_le hl hb.size,fun i hi=>⟨(hb.cell (p:=⟨b,off+i*2,none⟩) hl).trans (hc i hi).1,(hb.cell (p:=⟨b,off+i*2+1,none⟩) hl).trans (hc i hi).2⟩⟩
set_option maxRecDepth 100000 in
set_option maxHeartbeats 4000000 in
theorem of_any (A:Option Addr) (c:Nat) (L:List (Int×Int)) (w:World) (hA:RdP w A L) (hL:L.length≤1000000000) (hval:∀l h x,ValidL l→(addF l h x).2.2=0→ValidL (addF l h x).2.1) (hfr:ValidL freshL):
  Calls Try.prog 58 #[.slice A L.length c] w fun e W'=>MadeE2 w.heap.size e W' (fun l' c'=>ofL freshL L=(l',c'))∧Below w.heap.size w W':=by
 go_enter Try.func58,Try.ntmps58
 go_wp2_with (go_at_call 68;refine(fresh_any w).mono ?_;rintro e w1 ⟨⟨p,B,cap,rfl,hT⟩,hB1⟩)
 go_loopw [12] (fun k wr=>∃(kk B cap:Nat) (l:List Int),kk≤L.length∧k= .int .i64 (kk:Nat)∧Hid (ofL freshL L=ofL l (L.drop kk))∧Hid (ValidL l)∧Tb w.heap.size wr p B cap l∧Below w.heap.size w wr)
  (fun k _=>L.length-(intOf k).toNat)
 case atStart=>exact⟨0,B,cap,freshL,Nat.zero_le _,rfl,rfl,hfr,hT,hB1⟩
 case round=>
  obtain⟨kk,B,cap,l,hk,rfl,HI,HV,hTr,hBr⟩:=hrel
  by_cases hlt:kk<L.length
  ·obtain⟨b,off,rfl,hbl,hcell⟩:=(hA.below hBr) (by omega)
   have hc0:=(hcell kk hlt).1
   have hc1:=(hcell kk hlt).2
   have hx:=hTr.head
   clear hcell
   have hbase:w.heap.size≤wr.heap.size:=hBr.size
   have hkL:ofL freshL L=if(addF l L[kk].1 L[kk].2).2.2=0 then ofL (addF l L[kk].1 L[kk].2).2.1 (L.drop (kk+1))else([],(addF l L[kk].1 L[kk].2).2.2):=by
    rw[HI.out,List.drop_eq_getElem_cons hlt,ofL]
   obtain⟨q1,q2⟩:=addF_tab (h:=L[kk].1) (x:=L[kk].2) HV.out
   have hv2:=hval l L[kk].1 L[kk].2 HV.out
   have HA:=fun W hW hb=>add_any w.heap.size W p B cap l (tabN l) (tabC l) L[kk].1 L[kk].2 hW (tab_h HV.out) (tab_g HV.out) hb
   clear hA hval hfr hT HI
   generalize addR l (tabN l) (tabC l) L[kk].1 L[kk].2=R at*
   obtain⟨k1,c2,l'⟩:=R
   generalize addF l L[kk].1 L[kk].2=F at*
   obtain⟨f1,f2,f3⟩:=F
   dsimp only at*
   subst q1
   have HKL:=Lib.hid hkL
   have HV2:=Lib.hid hv2
   have HQ2:=Lib.hid q2
   have HBr:=Lib.hid hBr
   have HTr:=Lib.hid hTr
   clear hkL hv2 q2 hBr hTr HV
   go_wp2_with fail
   refine(HA _ (HTr.out.alloc _) (by rw[World.size_alloc];omega)).mono ?_
   rintro e w2 ⟨rfl,B',cap',hT2,hF2,hB2⟩
   have hB3:Below w.heap.size w w2:=(HBr.out.trans ((Below.refl _ _).alloc hbase _)).trans (hF2.below (by rw[World.size_alloc];omega) HTr.out.pb HTr.out.bb)
   have HT2:=Lib.hid hT2
   have HB3:=Lib.hid hB3
   clear hT2 hB3 hF2 hB2 HA
   by_cases hc:f3=0
   ·subst hc
    have e1:ofL freshL L=ofL l' (L.drop (kk+1)):=by rw[HKL.out,if_pos rfl,HQ2.out rfl]
    have e2:ValidL l':=by rw[←HQ2.out rfl];exact HV2.out rfl
    have E1:=Lib.hid e1
    have E2:=Lib.hid e2
    clear e1 e2 HKL HV2 HQ2
    go_wp2
    go_roundw
    case rel=>exact⟨kk+1,B',cap',l',by omega,by go_num,E1,E2,HT2.out,HB3.out⟩
    case measure=>simp[intOf];omega
   ·have hne':(f3 != 0)=true:=by simpa using hc
    have e1:ofL freshL L=([],f3):=by rw[HKL.out,if_neg hc]
    have E1:=Lib.hid e1
    clear e1 HKL HV2 HQ2
    go_wp2
    refine bodyPost_ret (v:=.tuple #[.slice none 0 0,.int .i64 f3]) (by simp[results,Try.results58,go_sem]) rfl ?_
    exact⟨.inl ⟨f3,hc,rfl,E1.out⟩,HB3.out⟩
  ·have hkk:kk=L.length:=by omega
   have hp:=hTr.head
   have HT:=Lib.hid hTr
   have HB:=Lib.hid hBr
   have HK:=Lib.hid hkk
   clear hTr hBr hkk
   go_wp2
   refine bodyPost_ret (v:=.tuple #[.slice (some ⟨B,0,none⟩) l.length cap,.int .i64 0]) (by simp[results,Try.results58,go_sem]) rfl ?_
   have h1:=HI.out
   rw[HK.out,List.drop_length,ofL]at h1
   exact⟨.inr ⟨B,cap,l,rfl,HT.out.rw_,h1⟩,HB.out⟩
end Go.Proofs.Ytdcomhdadnhpnaa
