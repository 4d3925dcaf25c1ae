import Derived.Test.YtdcomhdadnhpnaaYZM4
import Derived.Test.YtdcomhdadnhpnaaYZM3
import Derived.Deep.Cut
import Derived.Test.YtdcomhdadnhpnaaYZM2
set_option linter.all false
section
namespace Go.Proofs.Ytdcomhdadnhpnaa
open Go.RowKit Go.Shelf
open Go.Proofs.YtdcomhdadnhpnaaW.PrintWords (ReadsOf encs own_reads_of own_reads_of' own_reads_of_le own_move)
attribute [local irreducible] wpStill
def DropE (base:Nat) (w:World) (p B cap:Nat) (l:List Int) (n:Nat) (C:Nat→List Nat) (h x:Int) (e:Ending) (W':World):Prop:=
 (hasR l h x (C (bkt h.toNat (bkts n)))=false∧e= .returned (.tuple #[.int .i64 0,.int .i64 5])∧Tb base W' p B cap l∧Fr p B w W')∨
 (∃k l' C',DropS l n C h x k l' C'∧e= .returned (.tuple #[.int .i64 (k:Nat),.int .i64 0])∧∃B' cap',Tb base W' p B' cap' l'∧Fr p B w W'∧(B'=B∨w.heap.size≤B'))
theorem addr_add (b o j:Nat):(⟨b,o,none⟩:Addr).add j=⟨b,o+j,none⟩:=by unfold Addr.add;split<;>simp_all
theorem own_mono {w:World} {base base' size n:Nat} {e:TypeId} {v:Value} {xs:List Value} (h:w.ownsRow base e size v n xs) (hb:base'≤base):w.ownsRow base' e size v n xs:=
 ⟨h.1,h.2.imp id (fun⟨g,c,cur,e1,e2,r⟩=>⟨g,c,cur,e1,Nat.le_trans hb e2,r⟩)⟩
theorem info3s:(Try.prog.info? 3).map (·.size)=some 1:=by kernel_rfl
theorem find_last {l0:List Int} {n b:Nat} {S:Nat→Prop} {C0:Nat→List Nat} (g0:GS l0 n S b C0) (hS:S (n-1)) (h1:ati l0 1=(b:Int)) (hb:b≤1000000) (hlen:l0.length≤100000000) (h4:4≤l0.length):
  ∃pre post,C0 (bkt (ati l0 (recAt (n-1))).toNat b)=pre++(n-1)::post∧pre.length≤100000∧endp (headAt (bkt (ati l0 (recAt (n-1))).toNat b)) pre<l0.length∧4≤endp (headAt (bkt (ati l0 (recAt (n-1))).toNat b)) pre∧
   ∀(p B cap:Nat) (W:World),TblR W p B 0 cap l0→
   Calls Try.prog 86 #[.pointer (some ⟨p,0,none⟩),.agg #[.int .i64 (ati l0 (recAt (n-1))),.int .i64 (ati l0 (recAt (n-1)+1))]] W fun e W'=>
    e= .returned (.tuple #[.int .i64 ((n-1:Nat):Int),.int .i64 (endp (headAt (bkt (ati l0 (recAt (n-1))).toNat b)) pre:Nat),.int .i64 ((pre.length:Nat)+1)])∧Below W.heap.size W W':=by
 have hj:=bkt_lt (ati l0 (recAt (n-1))).toNat g0.bpos
 have hm:=(g0.mem _ hj (n-1)).2 ⟨hS,rfl⟩
 have hh:=g0.hash _ hS
 have hnd:=g0.nd _ hj
 have hcl:=g0.chn _ hj
 have hcmem:∀r,r∈C0 (bkt (ati l0 (recAt (n-1))).toNat b)→S r:=fun r hr=>((g0.mem _ hj r).1 hr).1
 generalize hjj:bkt (ati l0 (recAt (n-1))).toNat b=j at*
 have hn:=g0.n1
 have hclen:=nodup_len n _ hnd (fun r hr=>g0.sn r (hcmem r hr))
 have hhas:hasR l0 (ati l0 (recAt (n-1))) (ati l0 (recAt (n-1)+1)) (C0 j)=true:=by
  unfold hasR
  rw[List.any_eq_true]
  exact⟨n-1,hm,by simp⟩
 obtain⟨pre,r,post,hC,_,hhit,hf⟩:=findC_wf_yes (f:=headAt j) hhas
 obtain rfl:r=n-1:=g0.dif _ (hcmem r (by rw[hC];simp)) _ hS hhit.1 hhit.2
 have hend:=hcl
 rw[hC]at hend
 refine⟨pre,post,hC,?_,hend.split.endlt,?_,fun p B cap W hT=>?_⟩
 ·rw[hC]at hclen
  simp only[List.length_append,List.length_cons]at hclen
  omega
 ·rcases endp_cases (headAt j) pre with⟨_,e⟩ |⟨t,_,e⟩
  ·rw[e];exact headAt_ge _
  ·rw[e];have:=recAt_ge t;omega
 ·have:=find_any p B 0 cap (ati l0 (recAt (n-1))) (ati l0 (recAt (n-1)+1)) l0 (wf (headAt j) (C0 j)) hlen h4 W hh.1 (by omega) hT (by have:=g0.b8;omega) (by omega)
   (by rw[h1,Int.toNat_natCast,hjj];exact hcl.chn)
   (fun q hq=>by
    have hm:q.1∈C0 j:=by rw[←wf_map (headAt j) (C0 j)];exact List.mem_map_of_mem hq
    have:=g0.sn _ (hcmem _ hm)
    exact⟨g0.rl _ this,by omega⟩)
   (by rw[wf_len];omega)
  rw[hf]at this
  exact this
set_option maxRecDepth 100000 in
set_option maxHeartbeats 8000000 in
theorem drop_any (base:Nat) (w:World) (p B cap:Nat) (l:List Int) (n:Nat) (C:Nat→List Nat) (h x:Int) (hT:Tb base w p B cap l) (hH:HeadOk l n) (g:G l n (bkts n) C) (hbase:base≤w.heap.size) (hh0:0≤h) (hh1:h≤2147483647):
  Calls Try.prog 76 #[.pointer (some ⟨p,0,none⟩),.agg #[.int .i64 h,.int .i64 x]] w (DropE base w p B cap l n C h x):=by
 have hb0:=bkts_pos n
 have hnn:=g.n1
 have hb1:=bkts_le n (by omega)
 have hlen:=hH.len
 have hl60:=wlen_ge n
 have hll:=wlen_le n (by omega)
 have hi:=bkt_lt h.toNat (b:=bkts n) (by omega)
 have ha1:=hH.b1
 have hfind:∀W:World,TblR W p B 0 cap l→Calls Try.prog 86 #[.pointer (some ⟨p,0,none⟩),.agg #[.int .i64 h,.int .i64 x]] W fun e W'=>
   e= .returned (.tuple #[.int .i64 (findC l h x (wf (headAt (bkt h.toNat (bkts n))) (C (bkt h.toNat (bkts n)))) 0).1,.int .i64 (findC l h x (wf (headAt (bkt h.toNat (bkts n))) (C (bkt h.toNat (bkts n)))) 0).2.1,.int .i64 (findC l h x (wf (headAt (bkt h.toNat (bkts n))) (C (bkt h.toNat (bkts n)))) 0).2.2])∧Below W.heap.size W W':=fun W hTW=>
  find_any p B 0 cap h x l _ (by omega) (by omega) W hh0 (by omega) hTW (by omega) (by omega) (by rw[hH.b1'];exact(g.chn _ hi).chn)
   (fun q hq=>by
    have hm:q.1∈C (bkt h.toNat (bkts n)):=by rw[←wf_map (headAt (bkt h.toNat (bkts n))) (C (bkt h.toNat (bkts n)))];exact List.mem_map_of_mem hq
    have:=g.lt hi hm
    exact⟨g.rl _ this,by omega⟩)
   (by rw[wf_len];have:=g.clen hi;omega)
 have hT2:=(hT.alloc (Obj.cells #[Value.pointer (some { block:=p,off:=0 })] 92)).alloc (Obj.cells #[Value.int IntKind.i64 h,Value.int IntKind.i64 x] 43)
 have hF2:Fr p B w ((w.alloc (.cells #[.pointer (some ⟨p,0,none⟩)] 92)).alloc (Obj.cells #[Value.int IntKind.i64 h,Value.int IntKind.i64 x] 43)):=((Fr.refl _ _ _).alloc _).alloc _
 by_cases hhas:hasR l h x (C (bkt h.toNat (bkts n)))=false
 ·have hf:=findC_wf_no (f:=headAt (bkt h.toNat (bkts n))) hhas
  rw[hf]at hfind
  have HF:=Lib.hid hfind
  have HAS:=Lib.hid hhas
  clear hf hfind g hH hhas
  go_enter Try.func76,Try.ntmps76
  go_wp2_with (go_at_call 86;refine(HF.out _ hT2.r).mono ?_;rintro e w8 ⟨rfl,hb8⟩)
  refine bodyPost_ret (v:=.tuple #[.int .i64 0,.int .i64 5]) (by simp[results,Try.results76,go_sem]) rfl ?_
  exact .inl ⟨HAS.out,rfl,hT2.below hb8,hF2.trans (Fr.of_below hb8)⟩
 ·have hhas:hasR l h x (C (bkt h.toNat (bkts n)))=true:=by simpa using hhas
  obtain⟨pre,r,post,hC,hpre,hhit,hf⟩:=findC_wf_yes (f:=headAt (bkt h.toNat (bkts n))) hhas
  rw[hf]at hfind
  have hrn:r<n:=g.lt hi (by rw[hC];simp)
  have hc0:ati l 0=(n:Int):=hH.n0
  have hbt:=(Boxed.new w 92 (.pointer (some ⟨p,0,none⟩))).alloc (Obj.cells #[Value.int IntKind.i64 h,Value.int IntKind.i64 x] 43)
  have hs0:((w.alloc (.cells #[.pointer (some ⟨p,0,none⟩)] 92)).alloc (Obj.cells #[Value.int IntKind.i64 h,Value.int IntKind.i64 x] 43)).heap.size=w.heap.size+2:=by simp
  have hfr4:4≤endp (headAt (bkt h.toNat (bkts n))) pre∧endp (headAt (bkt h.toNat (bkts n))) pre<l.length:=by
   have hcl:=g.chn _ hi
   rw[hC]at hcl
   refine⟨?_,hcl.split.endlt⟩
   rcases endp_cases (headAt (bkt h.toNat (bkts n))) pre with⟨_,e⟩ |⟨t,_,e⟩
   ·rw[e];exact headAt_ge _
   ·rw[e];have:=recAt_ge t;omega
  have hpl:pre.length≤100000:=by
   have h1:=g.clen hi
   rw[hC]at h1
   simp only[List.length_append,List.length_cons]at h1
   omega
  have hrl:=g.rl r hrn
  have HF:=Lib.hid hfind
  have HG:=Lib.hid g
  have HH:=Lib.hid hH
  have HC:=Lib.hid hC
  have HI:=Lib.hid hhit
  have HP:=Lib.hid hpre
  clear hf hfind g hH hhas hC hhit hpre
  generalize hfre:endp (headAt (bkt h.toNat (bkts n))) pre=fr at*
  have HFR:=Lib.hid hfre
  clear hfre
  have hneg:decide (((r:Nat):Int)<0)=false:=decide_eq_false (by omega)
  go_enter Try.func76,Try.ntmps76
  go_wp2_with (go_at_call 86;refine(HF.out _ hT2.r).mono ?_;rintro e w8 ⟨rfl,hb8⟩;have hT3:=hT2.below hb8)
  refine region_still (by kernel_rfl) (by kernel_rfl) (fun w7 hw7=>?_)
  have hb7:=hb8.drew
  rw[←hw7]at hb7
  have hT7:=hT2.below hb7
  have bt:=boxed_below hbt hb7
  have hF7:=hF2.trans (Fr.of_below hb7)
  have hs7:=hb7.size
  rw[hs0]at hs7
  clear hw7 hT3 hbt hT2 hb7 hb8 hs0 hF2
  have ct:=bt.cell
  have hp7:=hT7.head
  have hc1:=hT7.cell 1 (by omega)
  have i1:(1:Int)<(l.length:Int):=by omega
  have hz:0<l.length:=by omega
  have HL:=Lib.hid hlen
  clear hlen
  repeat still_step
  still_call (count_any w7 p B 0 cap l hT7.r hz)
  repeat still_step
  refine wpStill_nil ?_
  clear i1 hp7 hc1
  go_wp2
  have hT7':=hT7
  refine region_still_tail 14 (by kernel_rfl) (by kernel_rfl) (fun wa hwa=>?_)
  have hTa:Tb base wa p B cap l:=by rw[hwa];exact hT7.drew
  have hFa:Fr p B w wa:=by rw[hwa];exact hF7.drew
  have ba:Boxed wa w.heap.size 92 (.pointer (some ⟨p,0,none⟩)):=by rw[hwa];exact bt
  have hsa:w.heap.size+2≤wa.heap.size:=by rw[hwa];exact hs7
  clear hwa hT7 hT7' hF7 bt hs7 ct
  have ct:=ba.cell
  have hpa:=hTa.head
  obtain⟨q2,hq2⟩:∃q,q=recAt r+2:=⟨_,rfl⟩
  have c2:=hTa.cell q2 (by omega)
  have cf:=hTa.cell fr (by omega)
  have ff:=hTa.frz fr
  have hlb:=HL.out
  have i2:(q2:Int)<(l.length:Int):=by omega
  have i3:(fr:Int)<(l.length:Int):=by omega
  have e2:IntKind.i64.wrap (((recAt r:Nat):Int)+2)=(q2:Int):=by rw[IntWalk.i64_in _ (by omega)];omega
  have HQ2:=Lib.hid hq2
  clear hq2 hrl hlb
  simp only[List.take_succ_cons,List.take_zero,List.drop_succ_cons,List.drop_zero]
  repeat still_step
  still_call (by simpa using recordAt_any (r:Int) _ (by omega) (by omega))
  repeat still_step
  refine wpStill_nil ?_
  have e1:IntKind.i64.wrap ((n:Int)-1)=((n-1:Nat):Int):=by rw[IntWalk.i64_in _ (by omega)];omega
  go_upto_if 57 with(go_at_call 87;refine(recordAt_any _ _ (by omega) (by omega)).mono ?_;rintro e wb ⟨rfl,rfl⟩)
  have hTc0:Tb base (wa.setCell ⟨B,fr,none⟩ (.int .i64 (ati l q2))) p B cap (remL l fr r):=by unfold remL;rw[←HQ2.out];exact hTa.set fr _
  have hFc0:Fr p B w (wa.setCell ⟨B,fr,none⟩ (.int .i64 (ati l q2))):=hFa.setCell (.inr (.inl rfl)) _
  have hpn:=hT.ltp
  have hBn:=hT.ltB
  have bc0:Boxed (wa.setCell ⟨B,fr,none⟩ (.int .i64 (ati l q2))) w.heap.size 92 (.pointer (some ⟨p,0,none⟩)):=(Below.heap_setCell _ _ _ _ (by simp;omega)).trans ba
  have hsc0:w.heap.size+2≤(wa.setCell ⟨B,fr,none⟩ (.int .i64 (ati l q2))).heap.size:=by simpa[World.setCell]using hsa
  have g0:=HG.out.gs.rem hi HC.out
  rw[HFR.out]at g0
  have hl0:(remL l fr r).length=wlen n:=by rw[show(remL l fr r).length=l.length by simp[remL],HL.out]
  have ha0:ati (remL l fr r) 1=(bkts n:Int):=(ati_set_ne (by omega)).trans ha1
  clear c2 cf ff hTa hFa hpa i2 i3 e2 ct ba hsa hz
  generalize wa.setCell ⟨B,fr,none⟩ (.int .i64 (ati l q2))=wd at*
  generalize hrml:remL l fr r=l0 at*
  have HRL:=Lib.hid hrml
  clear hrml
  generalize hC0:(fun k=>if k=bkt h.toNat (bkts n)then pre++post else C k)=C0 at*
  have HCC:=Lib.hid hC0
  have HG0:=Lib.hid g0
  have HL0:=Lib.hid hl0
  clear g0 hl0
  go_cut [8]from 19 (fun v8 W=>∃k1 l1 C1,v8= .int .i64 ((pre.length+1+k1:Nat):Int)∧Hid (MoveS l0 n (bkts n) C0 r k1 l1 C1)∧k1≤200000∧Tb base W p B cap l1∧Fr p B w W∧Boxed W w.heap.size 92 (.pointer (some ⟨p,0,none⟩))∧w.heap.size+2≤W.heap.size)
  case first=>
   by_cases hr:r=n-1
   ·have hr':(((r:Nat):Int) != ((n-1:Nat):Int))=false:=by rw[hr];simp
    go_wp2
    go_meet
    case rel=>exact⟨0,l0,C0,by go_num,.inl ⟨hr,rfl,rfl,rfl⟩,by omega,hTc0,hFc0,bc0,hsc0⟩
   ·have hr':(((r:Nat):Int) != ((n-1:Nat):Int))=true:=by simpa using(show ¬((r:Nat):Int)=((n-1:Nat):Int)by omega)
    obtain⟨pre',post',hC',hpl',hlt',h4',hfl⟩:=find_last HG0.out (show n-1<n∧n-1≠r by omega) ha0 hb1 (by have:=HL0.out;omega) (by have:=HL0.out;omega)
    generalize hjj:bkt (ati l0 (recAt (n-1))).toNat (bkts n)=j at*
    generalize hlead:endp (headAt j) pre'=lead at*
    have HFL:=Lib.hid hfl
    have HC':=Lib.hid hC'
    have HR:=Lib.hid hr
    have HLE:=Lib.hid hlead
    have HJJ:=Lib.hid hjj
    clear hfl hC' hr hlead hjj hC0
    have ct:=bc0.cell
    have hrb:recAt (n-1)+2<l0.length:=HG0.out.rl (n-1) (by omega)
    have hrb2:recAt (n-1)<100000000:=by have:=HL0.out;omega
    go_wp2
    go_cut [13,14]from 19 (fun v13 v14 V=>v13= .int .i64 (lead:Nat)∧v14= .int .i64 ((pre'.length:Nat)+1)∧Below wd.heap.size wd V)
    case first=>
     rename_i J K' hJ hK'
     go_region_held3 (fun w'=>w'.cell? ⟨w.heap.size,0,none⟩=some (.pointer (some ⟨p,0,none⟩))) (first |assumption |simp[*]) (first
      |(go_at_call 73;refine(record_any p ((n-1:Nat):Int) _ (by omega) (by omega)).mono ?_;rintro e V1 ⟨rfl,hb1⟩;have hT1:=hTc0.drew.below hb1;have ct1:=(boxed_below (show Boxed wd.drew w.heap.size 92 _ from bc0) hb1).cell;rw[Int.toNat_natCast])
      |(go_at_call 77;refine(elem_any _ p B 0 cap l0 hT1.r ((recAt (n-1):Nat):Int) (by omega) (by omega) (by omega)).mono ?_;rintro e V2 ⟨rfl,hb2⟩;have hT2:=hT1.below hb2;have ct2:=cell_below hb2 ct1;rw[Int.toNat_natCast])
      |(go_at_call 86;refine(HFL.out p B cap _ hT2.r).mono ?_;rintro e V3 ⟨rfl,hb3⟩;have ct3:=cell_below hb3 ct2))
     all_goals
      refine hK' _ _ (Met.intro (hJ _ _ ?_))
      (repeat apply Exists.intro)
      refine⟨?rel,rfl⟩
      case rel=>exact⟨rfl,rfl,((Below.refl _ _).drew.trans hb1).trans ((hb2.mono hb1.size).trans (hb3.mono (Nat.le_trans hb1.size hb2.size)))⟩
    case rest=>
    obtain⟨rfl,rfl,hb8⟩:=hcut
    have hTe:=hTc0.below hb8
    have hFe:=hFc0.trans (Fr.of_below hb8)
    have be:=boxed_below bc0 hb8
    have hse:=Nat.le_trans hsc0 hb8.size
    clear hb8 ct bc0 hTc0 hFc0 hsc0
    have e9:IntKind.i64.wrap (((pre.length:Nat):Int)+1+(((pre'.length:Nat):Int)+1))=((pre.length+1+(pre'.length+1):Nat):Int):=by rw[IntWalk.i64_in _ (by omega)];omega
    go_wp2
    refine region_still_tail 18 (by kernel_rfl) (by kernel_rfl) (fun wg hwg=>?_)
    have hTg:Tb base wg p B cap l0:=by rw[hwg];exact hTe.drew
    have hFg:Fr p B w wg:=by rw[hwg];exact hFe.drew
    have bg:Boxed wg w.heap.size 92 (.pointer (some ⟨p,0,none⟩)):=by rw[hwg];exact be
    have hsg:w.heap.size+2≤wg.heap.size:=by rw[hwg];exact hse
    clear hwg hTe hFe be hse
    have ct:=bg.cell
    have hpg:=hTg.head
    have hrl0:=HG0.out.rl r hrn
    have hcap:=hTg.le
    have hl0':=HL0.out
    obtain⟨u3,hu3⟩:∃q,q=recAt r+3:=⟨_,rfl⟩
    obtain⟨m3,hm3⟩:∃q,q=recAt (n-1)+3:=⟨_,rfl⟩
    have s1:IntKind.i64.wrap (((recAt r:Nat):Int)+3)=((u3:Nat):Int):=by rw[IntWalk.i64_in _ (by omega)];omega
    have s2:IntKind.i64.wrap (((recAt (n-1):Nat):Int)+3)=((m3:Nat):Int):=by rw[IntWalk.i64_in _ (by omega)];omega
    have s3:((u3:Nat):Int)≤(cap:Int):=by omega
    have s3':u3≤cap:=by omega
    have s4:((m3:Nat):Int)≤(cap:Int):=by omega
    have s4':m3≤cap:=by omega
    have s5:((recAt r:Nat):Int)≤((u3:Nat):Int):=by omega
    have s5':recAt r≤u3:=by omega
    have s6:((recAt (n-1):Nat):Int)≤((m3:Nat):Int):=by omega
    have s6':recAt (n-1)≤m3:=by omega
    have s7:u3-recAt r=3:=by omega
    have s8:m3-recAt (n-1)=3:=by omega
    have HU:=Lib.hid hu3
    have HM3:=Lib.hid hm3
    have s9:¬cap=recAt r:=by omega
    have s10:¬cap=recAt (n-1):=by omega
    clear hu3 hm3
    have hcopy:(Builtin.copy_ #[31,31] 3 #[.slice (some ⟨B,recAt r,none⟩) 3 (cap-recAt r),.slice (some ⟨B,recAt (n-1),none⟩) 3 (cap-recAt (n-1))]).run Try.prog wg=
      .ok (goInt 3) (wg.setCells B (recAt r) [.int .i64 (ati l0 (recAt (n-1))),.int .i64 (ati l0 (recAt (n-1)+1)),.int .i64 (ati l0 (recAt (n-1)+2))]):=by
     refine run_copy_cells (P:=Try.prog) wg 31 31 3 3 B (recAt r) 3 (cap-recAt r) ⟨B,recAt (n-1),none⟩ 3 (cap-recAt (n-1)) [.int .i64 (ati l0 (recAt (n-1))),.int .i64 (ati l0 (recAt (n-1)+1)),.int .i64 (ati l0 (recAt (n-1)+2))] Try.underlying31 info3s rfl
      (fun j v hv=>?_) (fun j hj=>?_) (fun j hj=>hTg.frz _) (fun v hv=>?_)
     ·have ha:(⟨B,recAt (n-1),none⟩:Addr).add j=⟨B,recAt (n-1)+j,none⟩:=addr_add _ _ _
      have hj:j<3:=by have:=(List.getElem?_eq_some_iff.1 hv).1;simpa using this
      rw[ha,hTg.cell _ (by omega)]
      rcases(by omega:j=0∨j=1∨j=2)with rfl |rfl |rfl
      ·simpa using hv
      ·simpa using hv
      ·simpa using hv
     ·simp only[List.length_cons,List.length_nil]at hj
      rw[hTg.cell _ (by omega)];rfl
     ·simp only[List.mem_cons,List.not_mem_nil,or_false]at hv
      rcases hv with rfl |rfl |rfl<;>rfl
    have hTh:Tb base (wg.setCells B (recAt r) [.int .i64 (ati l0 (recAt (n-1))),.int .i64 (ati l0 (recAt (n-1)+1)),.int .i64 (ati l0 (recAt (n-1)+2))]) p B cap
      (((l0.set (recAt r) (ati l0 (recAt (n-1)))).set (recAt r+1) (ati l0 (recAt (n-1)+1))).set (recAt r+2) (ati l0 (recAt (n-1)+2))):=((hTg.set _ _).set _ _).set _ _
    have hFh:Fr p B w (wg.setCells B (recAt r) [.int .i64 (ati l0 (recAt (n-1))),.int .i64 (ati l0 (recAt (n-1)+1)),.int .i64 (ati l0 (recAt (n-1)+2))]):=((hFg.setCell (.inr (.inl rfl)) _).setCell (.inr (.inl rfl)) _).setCell (.inr (.inl rfl)) _
    have bh:Boxed (wg.setCells B (recAt r) [.int .i64 (ati l0 (recAt (n-1))),.int .i64 (ati l0 (recAt (n-1)+1)),.int .i64 (ati l0 (recAt (n-1)+2))]) w.heap.size 92 (.pointer (some ⟨p,0,none⟩)):=
     (Below.heap_setCell _ _ _ _ (by simp;omega)).trans ((Below.heap_setCell _ _ _ _ (by simp;omega)).trans ((Below.heap_setCell _ _ _ _ (by simp;omega)).trans bg))
    have hsh:w.heap.size+2≤(wg.setCells B (recAt r) [.int .i64 (ati l0 (recAt (n-1))),.int .i64 (ati l0 (recAt (n-1)+1)),.int .i64 (ati l0 (recAt (n-1)+2))]).heap.size:=by simpa[World.setCells,World.setCell]using hsg
    have HT3:=Lib.hid hTh
    have HB3:=Lib.hid bh
    have HF3:=Lib.hid hFh
    have HS3:=Lib.hid hsh
    have HCP:=Lib.hid hcopy
    clear hTh bh hFh hsh hcopy
    clear hl0'
    simp only[List.take_succ_cons,List.take_zero,List.drop_succ_cons,List.drop_zero]
    repeat still_step
    still_call (by simpa using recordAt_any (r:Int) _ (by omega) (by omega))
    repeat still_step
    still_call (by simpa using recordAt_any (r:Int) _ (by omega) (by omega))
    repeat still_step
    refine wpStill_nil ?_
    go_wp2
    rw[HCP.out]
    have hTh:=HT3.out
    have bh:=HB3.out
    have hFh:=HF3.out
    have hsh:=HS3.out
    have hll3:(((l0.set (recAt r) (ati l0 (recAt (n-1)))).set (recAt r+1) (ati l0 (recAt (n-1)+1))).set (recAt r+2) (ati l0 (recAt (n-1)+2))).length=l0.length:=by simp
    clear HT3 HB3 HF3 HS3 HCP ct hpg bg hTg hFg hsg
    have HMV:Hid (movL l0 r (n-1) lead=(((l0.set (recAt r) (ati l0 (recAt (n-1)))).set (recAt r+1) (ati l0 (recAt (n-1)+1))).set (recAt r+2) (ati l0 (recAt (n-1)+2))).set lead ((r:Int)+1)):=rfl
    generalize ((l0.set (recAt r) (ati l0 (recAt (n-1)))).set (recAt r+1) (ati l0 (recAt (n-1)+1))).set (recAt r+2) (ati l0 (recAt (n-1)+2))=l3 at*
    generalize wg.setCells B (recAt r) [.int .i64 (ati l0 (recAt (n-1))),.int .i64 (ati l0 (recAt (n-1)+1)),.int .i64 (ati l0 (recAt (n-1)+2))]=wh at*
    have ct:=bh.cell
    have hph:=hTh.head
    have cl:=hTh.cell lead (by omega)
    have fl:=hTh.frz lead
    have i4:((lead:Nat):Int)<(l3.length:Int):=by omega
    have e3:IntKind.i64.wrap (((r:Nat):Int)+1)=((r:Nat):Int)+1:=IntWalk.i64_in _ (by omega)
    have HLL3:=Lib.hid hll3
    clear hll3
    go_wp2
    go_meet
    case rel=>exact⟨_,_,_,by go_num,.inr ⟨HR.out,pre',post',by rw[HJJ.out];exact HC'.out,rfl,rfl,rfl⟩,by omega,by rw[HJJ.out,HLE.out,HMV.out];exact hTh.set lead _,hFh.setCell (.inr (.inl rfl)) _,(Below.heap_setCell _ _ _ _ (by simp;omega)).trans bh,by simpa[World.setCell]using hsh⟩
  case rest=>
   obtain⟨k1,l1,C1,rfl,HM,hk1,hTj,hFj,bj,hsj⟩:=hcut
   obtain⟨g1,hl1,h13⟩:=HG0.out.move hrn HM.out
   have hl1n:l1.length=wlen n:=hl1.trans HL0.out
   have hmb:recAt (n-1)+2<l1.length:=g1.rl (n-1) (by omega)
   have HG1:=Lib.hid g1
   have HL1:=Lib.hid hl1n
   have HA0:=Lib.hid ha0
   have H13:=Lib.hid h13
   clear g1 hl1 hl1n hC0 ha0 h13
   have ct:=bj.cell
   have hpj:=hTj.head
   obtain⟨q0,hq0⟩:∃q,q=recAt (n-1):=⟨_,rfl⟩
   obtain⟨q1,hq1⟩:∃q,q=recAt (n-1)+1:=⟨_,rfl⟩
   obtain⟨q2,hq2⟩:∃q,q=recAt (n-1)+2:=⟨_,rfl⟩
   have c0:=hTj.cell q0 (by omega)
   have c1:=hTj.cell q1 (by omega)
   have c2:=hTj.cell q2 (by omega)
   have f0:=hTj.frz q0
   have f1:=hTj.frz q1
   have f2:=hTj.frz q2
   have i0:(q0:Int)<(l1.length:Int):=by omega
   have i1:(q1:Int)<(l1.length:Int):=by omega
   have i2:(q2:Int)<(l1.length:Int):=by omega
   have hq2b:q2<100000010:=by have:=HL1.out;omega
   have e1:IntKind.i64.wrap ((q0:Int)+1)=(q1:Int):=by rw[IntWalk.i64_in _ (by omega)];omega
   have e2:IntKind.i64.wrap ((q0:Int)+2)=(q2:Int):=by rw[IntWalk.i64_in _ (by omega)];omega
   have b1:¬B=w.heap.size:=by omega
   have b2:¬B=p:=fun e=>hT.ne e.symm
   have r3:¬q0=q1:=by omega
   have r4:¬q0=q2:=by omega
   have r5:¬q1=q2:=by omega
   have r3':¬q1=q0:=by omega
   have r4':¬q2=q0:=by omega
   have r5':¬q2=q1:=by omega
   have HZ:Hid (zerL l1 (n-1)=((l1.set q0 0).set q1 0).set q2 0):=by show _=_;rw[hq0,hq1,hq2];rfl
   rw[←hq0]
   have HQ0:=Lib.hid hq0
   clear hq0 hq1 hq2 hmb
   go_wp2
   go_region_held3 (fun w'=>w'.cell? ⟨w.heap.size,0,none⟩=some (.pointer (some ⟨p,0,none⟩))∧w'.cell? ⟨p,0,none⟩=some (.slice (some ⟨B,0,none⟩) l1.length cap)) (simp[*,World.cell?_alloc_some,World.cell?_setCell_far,cell_set_off]) (fail)
   have hTz:Tb base (((wc.setCell ⟨B,q0,none⟩ (.int .i64 0)).setCell ⟨B,q1,none⟩ (.int .i64 0)).setCell ⟨B,q2,none⟩ (.int .i64 0)).drew p B cap (zerL l1 (n-1)):=by rw[HZ.out];exact(((hTj.set q0 0).set q1 0).set q2 0).drew
   have hFz:Fr p B w (((wc.setCell ⟨B,q0,none⟩ (.int .i64 0)).setCell ⟨B,q1,none⟩ (.int .i64 0)).setCell ⟨B,q2,none⟩ (.int .i64 0)).drew:=(((hFj.setCell (.inr (.inl rfl)) _).setCell (.inr (.inl rfl)) _).setCell (.inr (.inl rfl)) _).drew
   have bz:Boxed (((wc.setCell ⟨B,q0,none⟩ (.int .i64 0)).setCell ⟨B,q1,none⟩ (.int .i64 0)).setCell ⟨B,q2,none⟩ (.int .i64 0)).drew w.heap.size 92 (.pointer (some ⟨p,0,none⟩)):=
    (Below.heap_setCell _ _ _ _ (by simp;omega)).trans ((Below.heap_setCell _ _ _ _ (by simp;omega)).trans ((Below.heap_setCell _ _ _ _ (by simp;omega)).trans bj))
   have hsz:w.heap.size+2≤(((wc.setCell ⟨B,q0,none⟩ (.int .i64 0)).setCell ⟨B,q1,none⟩ (.int .i64 0)).setCell ⟨B,q2,none⟩ (.int .i64 0)).drew.heap.size:=by simpa[World.setCell]using hsj
   generalize (((wc.setCell ⟨B,q0,none⟩ (.int .i64 0)).setCell ⟨B,q1,none⟩ (.int .i64 0)).setCell ⟨B,q2,none⟩ (.int .i64 0)).drew=wz at*
   have hgz:=HG1.out.zer (m:=n-1) (by omega) (by omega)
   have g3:=hgz.1.g hgz.2
   have hlz:(zerL l1 (n-1)).length=wlen n:=zerL_len.trans HL1.out
   have hb8:=HG1.out.b8
   rw[HQ0.out]
   clear hgz HZ c0 c1 c2 f0 f1 f2 i0 i1 i2 hq2b e1 e2 b1 b2 r3 r4 r5 r3' r4' r5' hTj hFj bj hsj ct hpj
   generalize hzz:zerL l1 (n-1)=lz at*
   have HZZ:=Lib.hid hzz
   clear hzz
   have HG3:=Lib.hid g3
   have HLZ:=Lib.hid hlz
   clear g3 hlz
   have e10:IntKind.i64.wrap (((bkts n:Nat):Int)-1)=((bkts n-1:Nat):Int):=by rw[IntWalk.i64_in _ (by omega)];omega
   go_upto_if 125 with(go_at_call 63;refine(buckets_any ((n-1:Nat):Int) _ (by omega) (by omega)).mono ?_;rintro e wb ⟨rfl,hwb⟩;rw[Int.toNat_natCast,hwb];clear hwb wb)
   go_cut [8,15]from 19 (fun v8 _ W=>∃k2 l2 C2,v8= .int .i64 ((pre.length+1+k1+k2:Nat):Int)∧Hid (JoinS lz (n-1) (bkts n) C1 k2 l2 C2)∧l2.length=wlen n∧k2≤200000∧Tb base W p B cap l2∧Fr p B w W∧Boxed W w.heap.size 92 (.pointer (some ⟨p,0,none⟩))∧w.heap.size+2≤W.heap.size)
   case first=>
    by_cases hb:bkts (n-1)=bkts n-1
    ·have hb':(((bkts (n-1):Nat):Int)==((bkts n-1:Nat):Int))=true:=by rw[hb];simp
     have HB:=Lib.hid hb
     clear hb
     have ct:=bz.cell
     have h81:=bkts8 (n-1)
     have hp2:=pow2_pos (bkts n-1)
     have hp3:=pow2_le (b:=bkts n-1) (by omega)
     have e11:IntKind.i64.wrap (((bkts n-1:Nat):Int)-((pow2 (bkts n-1):Nat):Int))=((bkts n-1-pow2 (bkts n-1):Nat):Int):=by rw[IntWalk.i64_in _ (by omega)];omega
     go_wp2_with (go_at_call 98;refine(power_any ((bkts n-1:Nat):Int) _ (by omega) (by omega)).mono ?_;rintro e wb ⟨rfl,hwb⟩;rw[Int.toNat_natCast,hwb];clear hwb wb)
     obtain⟨j,hj⟩:∃j,j=bkts n-1:=⟨_,rfl⟩
     obtain⟨i,hi2⟩:∃i,i=bkts n-1-pow2 (bkts n-1):=⟨_,rfl⟩
     have hjn:j<bkts n:=by omega
     have hin:i<bkts n:=by omega
     have hij:i<j:=by omega
     rw[←hi2,←hj]
     have HJ0:=Lib.hid hj
     have HI0:=Lib.hid hi2
     clear hj hi2 e10 e11 hb' hp2 hp3 h81
     have hlz1:lz.length≤100000000:=by have:=HLZ.out;omega
     have hlz4:4≤lz.length:=by have:=HLZ.out;omega
     have hall:∀k,k<bkts n→∀W:World,TblR W p B 0 cap lz→Calls Try.prog 71 #[.pointer (some ⟨p,0,none⟩),.int .i64 (k:Nat)] W fun e W'=>
       ∃v,e= .returned v∧W'.ownsRow W.heap.size 3 1 v (C1 k).length ((C1 k).map encN)∧Below W.heap.size W W':=fun k hk W hTW=>by
      have h:=all_any p B 0 cap k lz (wf (headAt k) (C1 k)) (by omega) hlz1 hlz4 W hTW (HG3.out.chn k hk).chn (by rw[wf_len];have:=HG3.out.clen hk;omega)
      have hm:(wf (headAt k) (C1 k)).map encR=(C1 k).map encN:=by
       have:(wf (headAt k) (C1 k)).map encR=((wf (headAt k) (C1 k)).map (·.1)).map encN:=by rw[List.map_map];rfl
       rw[this,wf_map]
      rw[wf_len,hm]at h
      exact h
     have hXi:=hall i hin
     have hXj:=hall j hjn
     have hci:=HG3.out.clen hin
     have hcj:=HG3.out.clen hjn
     clear hall
     go_cut [17,18]from 19 (fun v17 v18 V=>V.ownsRow wz.heap.size 3 1 v17 (C1 i).length ((C1 i).map encN)∧V.ownsRow wz.heap.size 3 1 v18 (C1 j).length ((C1 j).map encN)∧Below wz.heap.size wz V)
     case first=>
      rename_i J K' hJ hK'
      have HXI:=Lib.hid hXi
      have HXJ:=Lib.hid hXj
      clear hXi hXj
      go_region_held3 (fun w'=>w'.cell? ⟨w.heap.size,0,none⟩=some (.pointer (some ⟨p,0,none⟩))) (first |assumption |simp[*]) (first
       |(go_at_call 71;refine(HXJ.out _ hT1.r).mono ?_;rintro e V2 ⟨v2,rfl,hv2,hb2⟩;have ct2:=cell_below hb2 ct1;have HV2:=Lib.hid hv2;clear hv2)
       |(go_at_call 71;refine(HXI.out _ hTz.drew.r).mono ?_;rintro e V1 ⟨v1,rfl,hv1,hb1⟩;have hT1:=hTz.drew.below hb1;have ct1:=(boxed_below (show Boxed wz.drew w.heap.size 92 _ from bz) hb1).cell;have HV1:=Lib.hid hv1;clear hv1))
      all_goals
       refine hK' _ _ (Met.intro (hJ _ _ ?_))
       (repeat apply Exists.intro)
       refine⟨?rel,rfl⟩
       case rel=>exact⟨own_move (w1:=V2) HV1.out (fun k hk=>hb2.block k (HV1.out.lt k hk).2),own_mono HV2.out hb1.size,((Below.refl _ _).drew.trans hb1).trans (hb2.mono hb1.size)⟩
     case rest=>
     obtain⟨hv17,hv18,hbV⟩:=hcut
     obtain⟨A,c,rfl,hcX,hRX⟩:=own_reads_of_le (enc:=encN) (d:=0) (xs:=C1 i) (by rw[encs_eq];exact hv17)
     obtain⟨A',c',rfl,hcY,hRY⟩:=own_reads_of_le (enc:=encN) (d:=0) (xs:=C1 j) (by rw[encs_eq];exact hv18)
     have hTV:=hTz.below hbV
     have hFV:=hFz.trans (Fr.of_below hbV)
     have bV:=boxed_below bz hbV
     have hsV:=Nat.le_trans hsz hbV.size
     have hzV:=hbV.size
     have hpz:=hTz.ltp
     have hBz:=hTz.ltB
     have hne:∀(V:World) (u:Value) (xs:List Value) (m k:Nat),V.ownsRow wz.heap.size 3 1 u m xs→k<wz.heap.size→some k≠u.ownBlock:=fun V u xs m k h hk e=>by have:=(h.lt k e.symm).1;omega
     have hX1:=hne _ _ _ _ p hv17 hpz
     have hX2:=hne _ _ _ _ B hv17 hBz
     have hY1:=hne _ _ _ _ p hv18 hpz
     have hY2:=hne _ _ _ _ B hv18 hBz
     have HRX:=Lib.hid hRX
     have HRY:=Lib.hid hRY
     have HVX:=Lib.hid hv17
     have HVY:=Lib.hid hv18
     have hmf:∀(fn:Fn) (first cap:Array Value) (w:World),(Instr.makeFunc fn first cap).run Try.prog w= .ok (.func fn first cap) w:=fun _ _ _ _=>rfl
     have e13:IntKind.i64.wrap (((C1 i).length:Int)+((C1 j).length:Int))=(((C1 i).length+(C1 j).length:Nat):Int):=by rw[IntWalk.i64_in _ (by omega)];omega
     have e14:IntKind.i64.wrap (((pre.length:Nat):Int)+1+(k1:Int)+(((C1 i).length+(C1 j).length:Nat):Int))=((pre.length+1+k1+((C1 i).length+(C1 j).length):Nat):Int):=by rw[IntWalk.i64_in _ (by omega)];omega
     clear hne hRX hRY hv17 hv18 hXi hXj hTz hFz bz hsz hbV ct
     have ct:=bV.cell
     go_wp2_with fail
     refine(link_none base wc p B cap lz j (by omega) hTV (HG3.out.hl j hjn)).mono ?_
     rintro e V4 ⟨rfl,hT4,hF4⟩
     have b4:=hF4.boxed bV (by omega) (by omega)
     have hFw4:=hFV.trans hF4
     have hs4:=Nat.le_trans hsV hF4.size
     have HX4:=Lib.hid (own_move (w1:=V4) HVX.out (fun k hk=>hF4.block k (HVX.out.lt k hk).2 (fun e=>hX1 (by rw[hk,e])) (fun e=>hX2 (by rw[hk,e]))))
     have HY4:=Lib.hid (own_move (w1:=V4) HVY.out (fun k hk=>hF4.block k (HVY.out.lt k hk).2 (fun e=>hY1 (by rw[hk,e])) (fun e=>hY2 (by rw[hk,e]))))
     have hl4:(linkL lz (headAt j) []).length=lz.length:=linkL_len _ _ _
     have hmc:mergedL (linkL lz (headAt j) []) (C1 i) (C1 j)=mergedL lz (C1 i) (C1 j):=mergedL_congr (fun r=>linkL_ati _ _ _ _ (fun e=>head_rec (a:=0) e.symm (by omega)) (by simp)) _ _ _ (Nat.le_refl _)
     have hJL:joiL lz j (C1 i) (C1 j)=linkL (linkL lz (headAt j) []) (headAt i) (mergedL lz (C1 i) (C1 j)):=by unfold joiL;rw[HI0.out,←HJ0.out]
     have hMb:∀r∈mergedL lz (C1 i) (C1 j),recAt r+2<lz.length∧r≤1000000:=fun r hr=>by
      have hrn:r<n-1:=by
       rcases mergedL_mem.1 hr with h |h
       ·exact HG3.out.lt hin h
       ·exact HG3.out.lt hjn h
      exact⟨HG3.out.rl r hrn,by omega⟩
     have hML:(mergedL lz (C1 i) (C1 j)).length≤1000000:=by
      have:=(mergedL_perm lz _ (C1 i) (C1 j) (Nat.le_refl _)).length_eq
      rw[this,List.length_append];omega
     have hXb:∀k,k<bkts n→∀r∈C1 k,recAt r<(linkL lz (headAt j) []).length∧r≤100000:=fun k hk r hr=>by
      have h1:=HG3.out.lt hk hr
      have h2:=HG3.out.rl r h1
      rw[hl4];exact⟨by omega,by omega⟩
     have hhi:headAt i<(linkL lz (headAt j) []).length:=by rw[hl4];exact HG3.out.hl i hin
     have hmg:∀W:World,TblR W p B 0 cap (linkL lz (headAt j) [])→ReadsOf encN 0 W A (C1 i).length (C1 i)→ReadsOf encN 0 W A' (C1 j).length (C1 j)→W.cell? ⟨w.heap.size,0,none⟩=some (.pointer (some ⟨p,0,none⟩))→
       Calls Try.prog 104 #[.slice A (C1 i).length c,.slice A' (C1 j).length c',.func (.func 105) #[] #[.pointer (some ⟨w.heap.size,0,none⟩)]] W fun e W'=>
        ∃v,e= .returned v∧W'.ownsRow W.heap.size 3 1 v (mergedL lz (C1 i) (C1 j)).length ((mergedL lz (C1 i) (C1 j)).map encN)∧Below W.heap.size W W':=fun W h1 h2 h3 h4=>by
      have h:=merged_any W p B 0 cap w.heap.size _ h1 (C1 i) (C1 j) A A' c c' h2 hcX h3 hcY (by omega) (by omega) (hXb i hin) (hXb j hjn) h4
      rw[hmc]at h
      exact h
     have hlk:∀(W:World) (b2:Nat) (v:Value),Tb base W p B cap (linkL lz (headAt j) [])→W.ownsRow b2 3 1 v (mergedL lz (C1 i) (C1 j)).length ((mergedL lz (C1 i) (C1 j)).map encN)→some p≠v.ownBlock→some B≠v.ownBlock→
       Calls Try.prog 103 #[.pointer (some ⟨p,0,none⟩),.int .i64 (i:Nat),v] W fun e W'=>e= .returned (.tuple #[])∧Tb base W' p B cap (joiL lz j (C1 i) (C1 j))∧Fr p B W W':=fun W b2 v h1 h2 h3 h4=>by
      have h:=link_any base W p B cap _ i (by omega) (mergedL lz (C1 i) (C1 j)) b2 v h1 (by omega) hhi (by rw[hl4];exact hMb) hML h2 h3 h4
      rw[←hJL]at h
      exact h
     have HMG:=Lib.hid hmg
     have HLK:=Lib.hid hlk
     have hpV4:=hT4.ltp
     have hBV4:=hT4.ltB
     have HT4:=Lib.hid hT4
     have ct4:=b4.cell
     clear hmg hlk hJL hmc hMb hML hXb hhi hl4 hT4 hTV hFV bV hsV ct hF4 HRX HRY HVX HVY hX1 hX2 hY1 hY2
     go_wp2
     go_region_held3 (fun w'=>w'.cell? ⟨w.heap.size,0,none⟩=some (.pointer (some ⟨p,0,none⟩))) (first |assumption |simp[*]) (first
      |(go_at_call 103;refine(HLK.out _ _ _ HT5.out HV5.out (fun e=>by have:=(HV5.out.lt p e.symm).1;have h8:V4.drew.heap.size=V4.heap.size:=rfl;omega) (fun e=>by have:=(HV5.out.lt B e.symm).1;have h8:V4.drew.heap.size=V4.heap.size:=rfl;omega)).mono ?_;rintro e V6 ⟨rfl,hT6,hF6⟩;have b6:=hF6.boxed b5 (by omega) (by omega);have ct6:=b6.cell;have HT6:=Lib.hid hT6;clear hT6)
      |(go_at_call 104;refine(HMG.out _ HT4.out.drew.r (own_reads_of' (enc:=encN) HX4.out) (own_reads_of' (enc:=encN) HY4.out) ct4).mono ?_;rintro e V5 ⟨v5,rfl,hv5,hb5⟩;have HT5:=Lib.hid (HT4.out.drew.below hb5);have b5:=boxed_below (show Boxed V4.drew w.heap.size 92 _ from b4) hb5;have ct5:=b5.cell;have HV5:=Lib.hid hv5;clear hv5))
     all_goals
      go_wp2
      go_meet
      case rel=>
       refine⟨(C1 i).length+(C1 j).length,joiL lz j (C1 i) (C1 j),fun k=>if k=i then mergedL lz (C1 i) (C1 j)else C1 k,by go_num,?_,?_,by omega,HT6.out,(hFw4.drew.trans (Fr.of_below hb5)).trans hF6,b6,?_⟩
       ·refine .inr ?_
        rw[←HI0.out,←HJ0.out]
        exact⟨HB.out.trans HJ0.out.symm,rfl,rfl,rfl⟩
       ·exact(joiL_len _ _ _ _).trans HLZ.out
       ·exact Nat.le_trans hs4 (Nat.le_trans hb5.size hF6.size)
    ·have hb':(((bkts (n-1):Nat):Int)==((bkts n-1:Nat):Int))=false:=by simpa using(show ¬((bkts (n-1):Nat):Int)=((bkts n-1:Nat):Int)by omega)
     have HB:=Lib.hid hb
     clear hb
     go_wp2
     go_meet
     case rel=>exact⟨0,lz,C1,by go_num,.inl ⟨HB.out,rfl,rfl,rfl⟩,HLZ.out,by omega,hTz,hFz,bz,hsz⟩
   case rest=>
    obtain⟨k2,l2,C2,rfl,HJ,hl2,hk2,hTk,hFk,bk,hsk⟩:=hcut
    have ct:=bk.cell
    have hl6:l2.length≤100000000:=by omega
    have hl7:60≤l2.length:=by omega
    have hsz2:=sized_any base wc p B cap l2 (n-1) (by omega) hTk hl6 hl7 (by omega)
    have hFB:=hFk.size
    have HTK:=Lib.hid hTk
    clear hTk hl2 hl6 hl7
    go_wp2_with fail
    refine hsz2.mono ?_
    rintro e wl ⟨rfl,B',cap',hTl,hFl,hBl⟩
    have HTL:=Lib.hid hTl
    clear hTl hsz2
    go_wp2
    refine bodyPost_ret (v:=.tuple #[.int .i64 ((pre.length+1+k1+k2:Nat):Int),.int .i64 0]) (by simp[results,Try.results76,go_sem]) rfl ?_
    exact .inr ⟨pre.length+1+k1+k2,sizedL l2 (n-1),C2,⟨pre,r,post,k1,l1,C1,k2,l2,HC.out,HI.out,HP.out,by rw[HFR.out,HRL.out,HCC.out];exact HM.out,by rw[HZZ.out];exact HJ.out,rfl,rfl⟩,rfl,B',cap',HTL.out,hFk.trans hFl,hBl.imp id (fun e=>Nat.le_trans hFB e)⟩
end Go.Proofs.Ytdcomhdadnhpnaa
end
section
namespace Go.Proofs.Ytdcomhdadnhpnaa
open Go.RowKit Go.Shelf
def MadeE (base:Nat) (e:Ending) (W':World) (R:Int→List Int→Int→Prop):Prop:=
 (∃c,c≠0∧e= .returned (.tuple #[.slice none 0 0,.int .i64 0,.int .i64 c])∧R 0 [] c)∨
 (∃B cap k l',e= .returned (.tuple #[.slice (some ⟨B,0,none⟩) l'.length cap,.int .i64 k,.int .i64 0])∧Rw base W' B cap l'∧R k l' 0)
def AddQ (l:List Int) (h x:Int) (k:Int) (l':List Int) (c:Int):Prop:=
 (¬ValidL l∧k=0∧l'=[]∧c=600)∨
 (ValidL l∧¬(0≤h∧h≤2147483647)∧k=0∧l'=[]∧c=1)∨
 (ValidL l∧(0≤h∧h≤2147483647)∧∃n C,HeadOk l n∧G l n (bkts n) C∧c=(addR l n C h x).2.1∧k=(addR l n C h x).1∧(c=0→l'=(addR l n C h x).2.2)∧(c≠0→l'=[]))
theorem addR_cases (l:List Int) (n:Nat) (C:Nat→List Nat) (h x:Int):((addR l n C h x).2.1=0)∨((addR l n C h x).2.1≠0∧(addR l n C h x).1=0):=by
 unfold addR
 split
 ·right;simp
 ·split
  ·right;simp
  ·split
   ·right;simp
   ·split<;>(left;rfl)
set_option maxRecDepth 100000 in
set_option maxHeartbeats 2000000 in
theorem addX_any (A:Option Addr) (c:Nat) (l:List Int) (h x:Int) (w:World) (hR:RdL w A l):
  Calls Try.prog 24 #[.slice A l.length c,.int .i64 h,.int .i64 x] w fun e W'=>MadeE w.heap.size e W' (AddQ l h x)∧Below w.heap.size w W':=by
 go_enter Try.func24,Try.ntmps24
 go_wp2_with fail
 refine(opened_any A c l h w hR).mono ?_
 rintro e w1 ⟨(⟨hV,rfl⟩ |⟨hV,hh,rfl⟩ |⟨hV,hh,p,B,cap,rfl,hT⟩),hB1⟩
 ·go_wp2
  refine bodyPost_ret (v:=.tuple #[.slice none 0 0,.int .i64 0,.int .i64 600]) (by simp[results,Try.results24,go_sem]) rfl ?_
  exact⟨.inl ⟨600,by decide,rfl,.inl ⟨hV,rfl,rfl,rfl⟩⟩,hB1⟩
 ·have HH:=Lib.hid hh
  clear hh
  go_wp2
  refine bodyPost_ret (v:=.tuple #[.slice none 0 0,.int .i64 0,.int .i64 1]) (by simp[results,Try.results24,go_sem]) rfl ?_
  exact⟨.inl ⟨1,by decide,rfl,.inr (.inl ⟨hV,HH.out,rfl,rfl,rfl⟩)⟩,hB1⟩
 ·obtain⟨C,hH,g⟩:=validL_iff.1 hV
  generalize (ati l 0).toNat=n at hH g
  have hbld:∀W:World,(Instr.build 43 #[(0,.int .i64 h),(1,.int .i64 x)]).run Try.prog W= .ok (.agg #[.int .i64 h,.int .i64 x]) W:=fun _=>by kernel_rfl
  have HA:=add_any w.heap.size w1 p B cap l n C h x hT hH g hB1.size
  have hs1:=hB1.size
  have hQ:∀k l' c,c=(addR l n C h x).2.1→k=(addR l n C h x).1→(c=0→l'=(addR l n C h x).2.2)→(c≠0→l'=[])→AddQ l h x k l' c:=fun k l' c h1 h2 h3 h4=>.inr (.inr ⟨hV,hh,n,C,hH,g,h1,h2,h3,h4⟩)
  have hBl:∀W,Fr p B w1 W→Below w.heap.size w W:=fun W hF=>hB1.trans (hF.below hs1 hT.pb hT.bb)
  have HQ:=Lib.hid hQ
  have HBl:=Lib.hid hBl
  have hcs:=addR_cases l n C h x
  generalize addR l n C h x=R at*
  obtain⟨k,c2,l'⟩:=R
  dsimp only at*
  clear hQ hBl hV hh hH g hT
  go_wp2_with fail
  refine HA.mono ?_
  rintro e w2 ⟨rfl,B',cap',hT2,hF2,hB2⟩
  rcases hcs with rfl |⟨hne,rfl⟩
  ·have hp:=hT2.head
   have HT:=Lib.hid hT2
   clear hT2
   go_wp2
   refine bodyPost_ret (v:=.tuple #[.slice (some ⟨B',0,none⟩) l'.length cap',.int .i64 k,.int .i64 0]) (by simp[results,Try.results24,go_sem]) rfl ?_
   exact⟨.inr ⟨B',cap',k,l',rfl,HT.out.rw_,HQ.out _ _ _ rfl rfl (fun _=>rfl) (fun h=>absurd rfl h)⟩,HBl.out _ hF2⟩
  ·have hne':(c2 != 0)=true:=by simpa using hne
   go_wp2
   refine bodyPost_ret (v:=.tuple #[.slice none 0 0,.int .i64 0,.int .i64 c2]) (by simp[results,Try.results24,go_sem]) rfl ?_
   exact⟨.inl ⟨c2,hne,rfl,HQ.out _ _ _ rfl rfl (fun h=>absurd h hne) (fun _=>rfl)⟩,HBl.out _ hF2⟩
def DropQ (l:List Int) (h x:Int) (k:Int) (l':List Int) (c:Int):Prop:=
 (¬ValidL l∧k=0∧l'=[]∧c=600)∨
 (ValidL l∧¬(0≤h∧h≤2147483647)∧k=0∧l'=[]∧c=1)∨
 (ValidL l∧(0≤h∧h≤2147483647)∧∃n C,HeadOk l n∧G l n (bkts n) C∧
  ((hasR l h x (C (bkt h.toNat (bkts n)))=false∧k=0∧l'=[]∧c=5)∨(c=0∧∃(m:Nat) (C':Nat→List Nat),k=(m:Int)∧DropS l n C h x m l' C')))
set_option maxRecDepth 100000 in
set_option maxHeartbeats 2000000 in
theorem dropX_any (A:Option Addr) (c:Nat) (l:List Int) (h x:Int) (w:World) (hR:RdL w A l):
  Calls Try.prog 27 #[.slice A l.length c,.int .i64 h,.int .i64 x] w fun e W'=>MadeE w.heap.size e W' (DropQ l h x)∧Below w.heap.size w W':=by
 go_enter Try.func27,Try.ntmps27
 go_wp2_with fail
 refine(opened_any A c l h w hR).mono ?_
 rintro e w1 ⟨(⟨hV,rfl⟩ |⟨hV,hh,rfl⟩ |⟨hV,hh,p,B,cap,rfl,hT⟩),hB1⟩
 ·go_wp2
  refine bodyPost_ret (v:=.tuple #[.slice none 0 0,.int .i64 0,.int .i64 600]) (by simp[results,Try.results27,go_sem]) rfl ?_
  exact⟨.inl ⟨600,by decide,rfl,.inl ⟨hV,rfl,rfl,rfl⟩⟩,hB1⟩
 ·have HH:=Lib.hid hh
  clear hh
  go_wp2
  refine bodyPost_ret (v:=.tuple #[.slice none 0 0,.int .i64 0,.int .i64 1]) (by simp[results,Try.results27,go_sem]) rfl ?_
  exact⟨.inl ⟨1,by decide,rfl,.inr (.inl ⟨hV,HH.out,rfl,rfl,rfl⟩)⟩,hB1⟩
 ·obtain⟨C,hH,g⟩:=validL_iff.1 hV
  generalize (ati l 0).toNat=n at hH g
  have hbld:∀W:World,(Instr.build 43 #[(0,.int .i64 h),(1,.int .i64 x)]).run Try.prog W= .ok (.agg #[.int .i64 h,.int .i64 x]) W:=fun _=>by kernel_rfl
  have HA:=drop_any w.heap.size w1 p B cap l n C h x hT hH g hB1.size hh.1 hh.2
  have hs1:=hB1.size
  have hQ0:hasR l h x (C (bkt h.toNat (bkts n)))=false→DropQ l h x 0 [] 5:=fun h1=>.inr (.inr ⟨hV,hh,n,C,hH,g,.inl ⟨h1,rfl,rfl,rfl⟩⟩)
  have hQ1:∀m l' C',DropS l n C h x m l' C'→DropQ l h x (m:Nat) l' 0:=fun m l' C' h1=>.inr (.inr ⟨hV,hh,n,C,hH,g,.inr ⟨rfl,m,C',rfl,h1⟩⟩)
  have hBl:∀W,Fr p B w1 W→Below w.heap.size w W:=fun W hF=>hB1.trans (hF.below hs1 hT.pb hT.bb)
  have HQ0:=Lib.hid hQ0
  have HQ1:=Lib.hid hQ1
  have HBl:=Lib.hid hBl
  clear hQ0 hQ1 hBl hV hh hH g hT
  go_wp2_with fail
  refine HA.mono ?_
  rintro e w2 (⟨hno,rfl,hT2,hF2⟩ |⟨k,l',C',hD,rfl,B',cap',hT2,hF2,hB2⟩)
  ·have HT:=Lib.hid hT2
   have HN:=Lib.hid hno
   clear hT2 hno
   go_wp2
   refine bodyPost_ret (v:=.tuple #[.slice none 0 0,.int .i64 0,.int .i64 5]) (by simp[results,Try.results27,go_sem]) rfl ?_
   exact⟨.inl ⟨5,by decide,rfl,HQ0.out HN.out⟩,HBl.out _ hF2⟩
  ·have hp:=hT2.head
   have HT:=Lib.hid hT2
   have HD:=Lib.hid hD
   clear hT2 hD
   go_wp2
   refine bodyPost_ret (v:=.tuple #[.slice (some ⟨B',0,none⟩) l'.length cap',.int .i64 k,.int .i64 0]) (by simp[results,Try.results27,go_sem]) rfl ?_
   exact⟨.inr ⟨B',cap',k,l',rfl,HT.out.rw_,HQ1.out _ _ _ HD.out⟩,HBl.out _ hF2⟩
end Go.Proofs.Ytdcomhdadnhpnaa
end
section
namespace Go.Proofs.Ytdcomhdadnhpnaa
open Go.RowKit Go.Shelf
open Go.Proofs.YtdcomhdadnhpnaaW.PrintWords (own_move)
attribute [local irreducible] wpStill
attribute [local go_sem] Oper.semAt_some
def outL (l:List Int) (h:Int) (rs:List Nat):List Int:=(rs.filter (fun r=>decide (ati l (recAt r)=h))).map (fun r=>ati l (recAt r+1))
def FindE (base:Nat) (l:List Int) (h:Int) (e:Ending) (W':World):Prop:=
 (¬ValidL l∧e= .returned (.tuple #[.slice none 0 0,.int .i64 0,.int .i64 600]))∨
 (ValidL l∧¬(0≤h∧h≤2147483647)∧e= .returned (.tuple #[.slice none 0 0,.int .i64 0,.int .i64 1]))∨
 (ValidL l∧(0≤h∧h≤2147483647)∧∃n C v,HeadOk l n∧G l n (bkts n) C∧
  e= .returned (.tuple #[v,.int .i64 (min (C (bkt h.toNat (bkts n))).length ((preR l h (C (bkt h.toNat (bkts n)))).length+1):Nat),.int .i64 0])∧
  W'.ownsRow base 3 1 v (outL l h (C (bkt h.toNat (bkts n)))).length ((outL l h (C (bkt h.toNat (bkts n)))).map (Value.int .i64)))
theorem own_keep {W W':World} {base n:Nat} {e:TypeId} {v:Value} {xs:List Value} (h:W.ownsRow base e 1 v n xs) (hk:Keep (fun _=>True) W W'):W'.ownsRow base e 1 v n xs:=
 ⟨h.1,h.2.imp id (fun⟨g,c,cur,e1,e2,hg,r⟩=>⟨g,c,cur,e1,e2,hk g _ trivial hg rfl,r⟩)⟩
noncomputable def appS (ats:Array TypeId) (ty:TypeId) (args:Array Value):Sem Value:=Builtin.append_ ats ty args
theorem append_fold (ats:Array TypeId) (ty:TypeId) (args:Array Value):Builtin.append_ ats ty args=appS ats ty args:=rfl
theorem app_fact {V:World} {base k:Nat} {v:Value} {xs:List Value} (h:V.ownsRow base 3 1 v k xs) (hb:base≤V.heap.size) (hk:k≤1000000) (x:Int):
  ∃g cap V6,(appS #[31,31] 31 #[v,.slice (some ⟨V.heap.size,0,none⟩) 1 1]).run Try.prog (V.alloc (.cells #[.int .i64 x] 3))= .ok (.slice (some ⟨g,0,none⟩) (k+1) cap) V6∧
   V6.ownsRow base 3 1 (.slice (some ⟨g,0,none⟩) (k+1) cap) (k+1) (xs++[.int .i64 x])∧(V.alloc (.cells #[.int .i64 x] 3)).grownBy V6 v.ownBlock:=by
 obtain⟨i0,hinf,hz0,hz1,hz2⟩:=info_parts info3
 obtain⟨v',w',hrun,hown,hg,_,_⟩:=run_append_own_at (P:=Try.prog) (w:=V.alloc (.cells #[.int .i64 x] 3)) base 31 31 3 i0 (.int .i64 0) 1 8 Try.underlying31 hinf hz0 hz1 hz2 rfl (by decide) v k xs (h.alloc _) ⟨V.heap.size,0,none⟩ 1 1 [.int .i64 x] rfl (cell_one_new _ _ _) (by simp[Value.oneCell']) (by unfold maxLen;omega) (by omega) (by simp;omega)
 obtain⟨g,cap,rfl⟩:=ownsRow_succ hown
 exact⟨g,cap,w',hrun,hown,hg⟩
theorem own_form {W:World} {base n:Nat} {e:TypeId} {size:Nat} {v:Value} {xs:List Value} (h:W.ownsRow base e size v n xs):∃A c,v= .slice A n c:=by
 rcases h.2 with⟨rfl,rfl⟩ |⟨g,c,cur,rfl,_⟩
 ·exact⟨_,_,rfl⟩
 ·exact⟨_,_,rfl⟩
theorem outL_snoc (l:List Int) (h:Int) (rs:List Nat) (r:Nat):outL l h (rs++[r])=outL l h rs++(if ati l (recAt r)=h then [ati l (recAt r+1)]else []):=by
 unfold outL
 rw[List.filter_append,List.map_append]
 congr 1
 by_cases e:ati l (recAt r)=h<;>simp[e]
theorem outL_stop {l:List Int} {h:Int} {a b:List Nat} {r:Nat} (hr:h<ati l (recAt r)) (hs:(a++r::b).Pairwise (fun r s=>ati l (recAt r)≤ati l (recAt s))):outL l h (a++r::b)=outL l h a:=by
 unfold outL
 rw[List.filter_append]
 have:(r::b).filter (fun r=>decide (ati l (recAt r)=h))=[]:=by
  rw[List.filter_eq_nil_iff]
  intro q hq
  have h2:=List.pairwise_cons.1 (List.pairwise_append.1 hs).2.1
  have:ati l (recAt r)≤ati l (recAt q):=by
   rcases List.mem_cons.1 hq with rfl |hq
   ·omega
   ·exact h2.1 q hq
  simp;omega
 rw[this,List.append_nil]
theorem outL_len (l:List Int) (h:Int) (rs:List Nat):(outL l h rs).length≤rs.length:=by unfold outL;rw[List.length_map];exact List.length_filter_le _ _
attribute [local go_sem ↓ high] append_fold
set_option maxRecDepth 100000 in
set_option maxHeartbeats 8000000 in
theorem findX_any (A:Option Addr) (c:Nat) (l:List Int) (h:Int) (w:World) (hR:RdL w A l):
  Calls Try.prog 26 #[.slice A l.length c,.int .i64 h] w fun e W'=>FindE w.heap.size l h e W'∧Below w.heap.size w W':=by
 have hB0:Below w.heap.size w (w.alloc (.cells #[.int .i64 h] 3)):=(Below.refl _ _).alloc (Nat.le_refl _) _
 have hb0:Boxed (w.alloc (.cells #[.int .i64 h] 3)) w.heap.size 3 (.int .i64 h):=Boxed.new _ _ _
 have hz0:(w.alloc (.cells #[.int .i64 h] 3)).heap.size=w.heap.size+1:=by simp
 have hop:=opened_any A c l h _ (hR.below hB0)
 by_cases hV:ValidL l∧(0≤h∧h≤2147483647)
 ·obtain⟨hV,hh⟩:=hV
  obtain⟨C,hH,g⟩:=validL_iff.1 hV
  generalize (ati l 0).toNat=n at hH g
  have hop2:Calls Try.prog 69 #[.slice A l.length c,.int .i64 h] (w.alloc (.cells #[.int .i64 h] 3)) fun e W'=>(∃p B cap,e= .returned (.tuple #[.pointer (some ⟨p,0,none⟩),.int .i64 0])∧Tb (w.heap.size+1) W' p B cap l)∧Below (w.heap.size+1) (w.alloc (.cells #[.int .i64 h] 3)) W':=by
   rw[←hz0]
   refine hop.mono ?_
   rintro e W' ⟨(⟨h1,_⟩ |⟨_,h1,_⟩ |⟨_,_,h1⟩),h2⟩
   ·exact absurd hV h1
   ·exact absurd hh h1
   ·exact⟨h1,h2⟩
  have hlen:=hH.len
  have hl60:=wlen_ge n
  have hnn:=g.n1
  have hll:=wlen_le n (by omega)
  have hb1:=bkts_le n (by omega)
  have hbp:=bkts_pos n
  have ha1:=hH.b1
  have HG:=Lib.hid g
  have HH:=Lib.hid hH
  have HV:=Lib.hid (And.intro hV hh)
  have hh1:=hh.1
  have hh2:=hh.2
  have HOP:=Lib.hid hop2
  have HL:=Lib.hid hlen
  clear hop hop2 g hH hV hh hlen
  refine(callsIn_wide (n:=8)).1 ?_
  refine callsIn_of_wp_marks Try.func26 rfl trivial ?_ rfl
  simp only[Try.ntmps26,List.size_toArray,List.length_cons,List.length_nil,Nat.reduceAdd,Nat.reduceSub,Array.replicate_succ,Array.replicate_zero,List.push_toArray,List.append_toArray,List.nil_append,List.cons_append]
  refine wpIn_wide.2 ?_
  have ct0:=hb0.cell
  go_wp2_with (go_at_call 69;refine HOP.out.mono ?_;rintro e w1 ⟨⟨p,B,cap,rfl,hT⟩,hB1⟩)
  obtain⟨n₀,hn0⟩:∃n₀,n₀=w.heap.size:=⟨_,rfl⟩
  obtain⟨s,hs⟩:∃s,s=w1.heap.size:=⟨_,rfl⟩
  have hs1:=hB1.size
  rw[hz0]at hs1
  rw[←hn0,←hs]
  have hi:=bkt_lt h.toNat (b:=bkts n) (by omega)
  obtain⟨w2,hw2⟩:∃w2,w2=((w1.alloc (.cells #[.pointer (some ⟨p,0,none⟩)] 92)).alloc (.cells #[.slice none 0 0] 31)).alloc (.cells #[.int .i64 0] 3):=⟨_,rfl⟩
  have bx:Boxed w2 s 92 (.pointer (some ⟨p,0,none⟩)):=by rw[hw2,hs];exact((Boxed.new _ _ _).alloc _).alloc _
  have bo:Boxed w2 (s+1) 31 (.slice none 0 0):=by
   have h:=(Boxed.new (w1.alloc (.cells #[.pointer (some ⟨p,0,none⟩)] 92)) 31 (.slice none 0 0)).alloc (.cells #[.int .i64 0] 3)
   rw[World.size_alloc,←hs]at h;rw[hw2];exact h
  have bl:Boxed w2 (s+2) 3 (.int .i64 0):=by
   have h:=Boxed.new ((w1.alloc (.cells #[.pointer (some ⟨p,0,none⟩)] 92)).alloc (.cells #[.slice none 0 0] 31)) 3 (.int .i64 0)
   rw[World.size_alloc,World.size_alloc,←hs]at h;rw[hw2];exact h
  have hB2:Below s w1 w2:=by rw[hw2,hs];exact(((Below.refl _ _).alloc (Nat.le_refl _) _).alloc (by simp) _).alloc (by simp;omega) _
  have hz2:w2.heap.size=s+3:=by rw[hw2,hs];simp
  have hT2:=hT.below (by rw[←hs];exact hB2)
  obtain⟨wx,hwx⟩:∃wx,wx=w1.alloc (.cells #[.pointer (some ⟨p,0,none⟩)] 92):=⟨_,rfl⟩
  have hzx:wx.heap.size=s+1:=by rw[hwx,hs];simp
  have hTx:Tb (w.heap.size+1) wx p B cap l:=by rw[hwx];exact hT.alloc _
  have bxx:Boxed wx s 92 (.pointer (some ⟨p,0,none⟩)):=by rw[hwx,hs];exact Boxed.new _ _ _
  have hBx1:Below s w1 wx:=by rw[hwx,hs];exact(Below.refl _ _).alloc (Nat.le_refl _) _
  have hB2x:Below (s+1) wx w2:=by rw[hw2,←hwx,←hzx];exact((Below.refl _ _).alloc (Nat.le_refl _) _).alloc (by simp) _
  have hps:p<s:=by rw[hs];exact hT.ltp
  have hBs:B<s:=by rw[hs];exact hT.ltB
  have hBn:Below (n₀+1) (w.alloc (.cells #[.int .i64 h] 3)) w2:=by rw[hn0];exact hB1.trans (hB2.mono (by omega))
  have bh:Boxed w2 n₀ 3 (.int .i64 h):=(hBn.block n₀ (by omega)).trans (by rw[hn0];exact hb0)
  have hB3:Below w.heap.size w w2:=hB0.trans (hBn.mono (by omega))
  have hBnx:Below (n₀+1) (w.alloc (.cells #[.int .i64 h] 3)) wx:=by rw[hn0];exact hB1.trans (hBx1.mono (by omega))
  have bhx:Boxed wx n₀ 3 (.int .i64 h):=(hBnx.block n₀ (by omega)).trans (by rw[hn0];exact hb0)
  have hBwx:Below w.heap.size w wx:=hB0.trans (hBnx.mono (by omega))
  rw[←hw2]
  have HN:=Lib.hid hn0
  have HS:=Lib.hid hs
  have HW2:=Lib.hid hB2
  have hns:n₀<s:=by omega
  clear hwx hBnx hBx1
  clear hw2 hn0 hs hB0 hb0 hz0 hB1 hB2 hBn ct0 hT hR
  have HZ2:=Lib.hid hz2
  clear hz2
  have cx:=bx.cell
  have chh:=bh.cell
  have hp2:=hT2.head
  have c1:=hT2.cell 1 (by have:=HL.out;omega)
  rw[ha1]at c1
  have i1:(1:Int)<(l.length:Int):=by have:=HL.out;omega
  go_cut [31]from 22 (fun v31 V=>v31= .func (.func 102) #[] #[.pointer (some ⟨s+3+1,0,none⟩),.pointer (some ⟨s+3,0,none⟩)]∧
   V.heap.size=s+5∧Below (s+3) w2 V∧V.cell? ⟨s+3,0,none⟩=some (.pointer (some ⟨p,0,none⟩))∧V.cell? ⟨s+3+1,0,none⟩=some (.int .i64 (bkt h.toNat (bkts n):Nat)))
  case first=>
   rename_i J K' hJ hK'
   go_region_held3 (fun w'=>w'.cell? ⟨s,0,none⟩=some (.pointer (some ⟨p,0,none⟩))∧w'.cell? ⟨n₀,0,none⟩=some (.int .i64 h)∧w'.cell? ⟨p,0,none⟩=some (.slice (some ⟨B,0,none⟩) l.length cap)∧w'.cell? ⟨B,1,none⟩=some (.int .i64 (bkts n:Nat))) (simp[*,World.cell?_alloc_some]) (first
    |(go_at_call 66;refine(bucket_any h (bkts n:Int) _ hh1 (by omega) (by omega) (by omega)).mono ?_;rintro e wa ⟨rfl,hwa⟩;rw[show((bkts n:Nat):Int).toNat=bkts n from by omega,hwa];clear hwa wa)
    |(go_at_call 72;refine(chain_any p _ _).mono ?_;rintro e wc ⟨rfl,rfl⟩))
   all_goals
    refine hK' _ _ (Met.intro (hJ _ _ ?_))
    (repeat apply Exists.intro)
    refine⟨?rel,rfl⟩
    case rel=>
     have hz2:=HZ2.out
     refine⟨by rw[←hz2],by simp[hz2],(((Below.refl _ _).alloc (by omega) _).alloc (by simp;omega) _).drew,?_,?_⟩
     ·have h:=((Boxed.new w2 92 (.pointer (some ⟨p,0,none⟩))).alloc (.cells #[.int .i64 (bkt h.toNat (bkts n):Nat)] 3)).cell
      rw[hz2]at h;exact h
     ·have h:=(Boxed.new (w2.alloc (.cells #[.pointer (some ⟨p,0,none⟩)] 92)) 3 (.int .i64 (bkt h.toNat (bkts n):Nat))).cell
      rw[World.size_alloc,hz2]at h;exact h
  case rest=>
   obtain⟨rfl,hz9,hB9,bct,bci⟩:=hcut
   go_wp2
   have hz2:=HZ2.out
   have hB9x:Below (s+1) wx wc:=hB2x.trans (hB9.mono (by omega))
   have bo9:Boxed wc (s+1) 31 (.slice none 0 0):=(hB9.block (s+1) (by omega)).trans bo
   have bl9:Boxed wc (s+1+1) 3 (.int .i64 0):=(hB9.block (s+2) (by omega)).trans bl
   have hTb:∀W,Below (s+1) wx W→Tb (w.heap.size+1) W p B cap l:=fun W hb=>hTx.below (by rw[hzx];exact hb)
   have hbx:∀W,Below (s+1) wx W→Boxed W s 92 (.pointer (some ⟨p,0,none⟩)):=fun W hb=>(hb.block s (by omega)).trans bxx
   have hbh:∀W,Below (s+1) wx W→Boxed W n₀ 3 (.int .i64 h):=fun W hb=>(hb.block n₀ (by omega)).trans bhx
   have hT9:=(hTb wc hB9x).r
   clear hp2 c1 cx chh bx bo bl bh hT2 hz2 hB9 hB2x
   obtain⟨i,hii⟩:∃i,i=bkt h.toNat (bkts n):=⟨_,rfl⟩
   rw[←hii]at bci hi
   have hll1:l.length≤100000000:=by have:=HL.out;omega
   have h41:4≤l.length:=by have:=HL.out;omega
   have hib:i≤1000000:=by omega
   have hrec:∀q∈wf (headAt i) (C i),recAt q.1+2<l.length∧q.1≤100000:=fun q hq=>by
    have hm:q.1∈C i:=by rw[←wf_map (headAt i) (C i)];exact List.mem_map_of_mem hq
    have:=HG.out.lt hi hm
    exact⟨HG.out.rl _ this,by omega⟩
   have hch:=(HG.out.chn i hi).chn
   have hmap:=toRF_map l.length (wf (headAt i) (C i)) hrec
   have hcl:=HG.out.clen hi
   have hsrt:=HG.out.srt i hi
   generalize toRF l.length (wf (headAt i) (C i)) hrec=cr at hmap
   rw[←hmap]at hch
   have hcrl:cr.length=(C i).length:=by have:=congrArg List.length hmap;rw[wf_len,List.length_map]at this;exact this
   have HMAP:=Lib.hid hmap
   have HCRL:=Lib.hid hcrl
   have HCL:=Lib.hid hcl
   have HSRT:=Lib.hid hsrt
   have HII:=Lib.hid hii
   clear hrec hmap hcrl hcl hsrt hii
   have hsw:s+1≤wx.heap.size:=by omega
   have HZ9:=Lib.hid hz9
   clear hz9
   have hfin:∀(D:Nat) (W:World) (v:Value) (lk:Nat),s+5≤D→Below (s+1) wx W→W.ownsRow (s+5) 3 1 v (outL l h (C i)).length ((outL l h (C i)).map (Value.int .i64))→W.heap[D]? =some (.deferred (some []))→
     lk=min (C i).length ((preR l h (C i)).length+1)→FindE w.heap.size l h (.returned (.tuple #[v,.int .i64 (lk:Nat),.int .i64 0])) (W.putObj D (.deferred none))∧Below w.heap.size w (W.putObj D (.deferred none)):=fun D W v lk hD hB hr hK hlk=>by
    have hN:=HN.out
    have hBW:=hBwx.trans (hB.mono (by omega))
    refine⟨.inr (.inr ⟨HV.out.1,HV.out.2,n,C,v,HH.out,HG.out,by rw[←HII.out,hlk],?_⟩),⟨hBW.os,hBW.tape,hBW.output,by have:=hBW.size;simpa[World.putObj]using this,fun k hk=>(World.putObj_heap_other (by omega)).trans (hBW.block k hk)⟩⟩
    rw[←HII.out]
    exact ownsRow_lower (ownsRow_putObj hr _ hK rfl) (by omega)
   refine(wpIn_wide (n:=8)).1 ?_
   refine wpIn_rangeFunc_ownG (n:=8) rfl (by omega) (gf:=102) (lb:=#[.pointer (some ⟨s+3+1,0,none⟩),.pointer (some ⟨s+3,0,none⟩)]) rfl trivial (enters_of Try.func102 (by kernel_rfl) rfl)
    (chain_stops (α:=RF l.length) Subtype.val (8-1) (by omega) p B 0 cap (s+3) (s+3+1) i l cr hib hll1 h41 wc hT9 bct bci hch)
    Keep.trans (fun W l o o' _ h hc _=>Keep.putObj W l o o' h hc) (Below.refl _ _) (fun _=>rfl)
    (fun pr W=>(Boxed W (s+1+1) 3 (.int .i64 (pr.length:Nat))∧(∃v,Boxed W (s+1) 31 v∧W.ownsRow (s+5) 3 1 v (outL l h (pr.map (·.1.1))).length ((outL l h (pr.map (·.1.1))).map (Value.int .i64)))∧s+5≤W.heap.size∧∀q∈pr,ati l (recAt q.1.1)≤h)∧Below (s+1) wx W)
    (fun c pr W=>(c= .exit 0∧∃pr' y,pr=pr'++[y]∧(∀q∈pr',ati l (recAt q.1.1)≤h)∧h<ati l (recAt y.1.1)∧Boxed W (s+1+1) 3 (.int .i64 (pr.length:Nat))∧
     (∃v,Boxed W (s+1) 31 v∧W.ownsRow (s+5) 3 1 v (outL l h (pr'.map (·.1.1))).length ((outL l h (pr'.map (·.1.1))).map (Value.int .i64))))∧Below (s+1) wx W)
    ?hI ?hIx ?h0
    (fun y=>{ tmps:=#[.slice A l.length c,.int .i64 h,undef,.pointer (some ⟨n₀,0,none⟩),.slice none 0 0,.int .i64 0,.int .i64 0,.pointer (some ⟨s,0,none⟩),.int .i64 0,.pointer (some ⟨s+1,0,none⟩),.pointer (some ⟨s+1+1,0,none⟩),.int .i64 (y.1.1:Nat),undef,.tuple #[.pointer (some ⟨p,0,none⟩),.int .i64 0],.slice A l.length c,.int .i64 h,.tuple #[.pointer (some ⟨p,0,none⟩),.int .i64 0],.pointer (some ⟨p,0,none⟩),.int .i64 0,.int .i64 0,.bool false,undef,u22,u23,u24,u25,u26,u27,u28,u29,u30,.func (Fn.func 102) #[] #[.pointer (some ⟨s+3+1,0,none⟩),.pointer (some ⟨s+3,0,none⟩)],.int .i64 (y.1.1:Nat),.int .i64 (y.1.2:Nat),u34,u35,u36,u37,u38,u39,u40,u41,u42,u43,u44,u45,u46,u47,u48,u49,u50,u51,u52,u53],defers:=[] }) ?assign ?body ?done ?stop
   case hI=>
    refine OwnFrom.and (fun pr A B row hs hg hr=>?_) (ownFrom_below hsw (by have:=HZ9.out;omega))
    have hk:=keep_of_own hg hr
    obtain⟨k0,⟨v,k1,k4⟩,k2,k3⟩:=hs
    exact⟨hk _ _ trivial k0 rfl,⟨v,hk _ _ trivial k1 rfl,own_keep k4 hk⟩,Nat.le_trans k2 hg.size,k3⟩
   case hIx=>
    intro c
    refine OwnFrom.and (fun pr A B row hs hg hr=>?_) (ownFrom_below hsw (by have:=HZ9.out;omega))
    have hk:=keep_of_own hg hr
    obtain⟨k0,pr',y,k1,k2,k3,k4,v,k5,k6⟩:=hs
    exact⟨k0,pr',y,k1,k2,k3,hk _ _ trivial k4 rfl,v,hk _ _ trivial k5 rfl,own_keep k6 hk⟩
   case h0=>exact⟨⟨bl9,⟨_,bo9,World.ownsRow_nil _ _ _ _⟩,by have:=HZ9.out;omega,fun q hq=>by cases hq⟩,hB9x⟩
   case assign=>
    intro L y W K hK
    dsimp only[encRF]
    gi_wp2
    exact hK
   case body=>
    rintro L pr y W ⟨⟨k0,⟨v,k1,kr⟩,k2,k3⟩,hB⟩ hlt
    have cl:=k0.cell
    have fl:=k0.frozen
    have hcl9:=HCL.out
    have hcr9:=HCRL.out
    have ex:IntKind.i64.wrap (((pr.length:Nat):Int)+1)=((pr.length:Nat):Int)+1:=IntWalk.i64_in _ (by omega)
    have hy1:=y.2.1
    have hy2:=y.2.2
    have cx:=((hbx W hB).other (B':=s+1+1) (by omega) (.int .i64 (((pr.length:Nat):Int)+1))).cell
    gi_wp2_with (refine⟨trivial,?_⟩;gi_at_call 73;refine(CallsIn.inRound L (callsIn_wide.2 (record_any p (y.1.1:Nat) _ (by omega) (by omega)))).mono ?_;rintro e V1 ⟨rfl,hb1⟩;rw[Int.toNat_natCast])
    have hs1w:(W.setCell ⟨s+1+1,0,none⟩ (.int .i64 (((pr.length:Nat):Int)+1))).heap.size=W.heap.size:=by simp[World.setCell]
    have jl1:Boxed (W.setCell ⟨s+1+1,0,none⟩ (.int .i64 (((pr.length:Nat):Int)+1))) (s+1+1) 3 (.int .i64 (((pr.length:Nat):Int)+1)):=k0.set _
    have jo1:=k1.other (B':=s+1+1) (by omega) (.int .i64 (((pr.length:Nat):Int)+1))
    have jr1:=own_move (w1:=W.setCell ⟨s+1+1,0,none⟩ (.int .i64 (((pr.length:Nat):Int)+1))) kr (fun k hk=>Below.heap_setCell _ _ _ _ (by have:=(kr.lt k hk).1;simp;omega))
    have jB1:Below (s+1) wx (W.setCell ⟨s+1+1,0,none⟩ (.int .i64 (((pr.length:Nat):Int)+1))):=hB.setCell (by simp) _
    have jK1:Keep (fun k=>k<s∨k=s+3∨k=s+3+1) W (W.setCell ⟨s+1+1,0,none⟩ (.int .i64 (((pr.length:Nat):Int)+1))):=keep_of_same (fun k hk=>Below.heap_setCell _ _ _ _ (by simp;omega))
    have jO1:KeepsOthers W (W.setCell ⟨s+1+1,0,none⟩ (.int .i64 (((pr.length:Nat):Int)+1))):=KeepsOthers.setCell _ _ _
    have hb2:=hb1.alloc hb1.size (Obj.cells #[Value.pointer (some { block:=p,off:=0 }),Value.int IntKind.i64 ((recAt y.1.1:Nat):Int)] 102)
    generalize W.setCell ⟨s+1+1,0,none⟩ (.int .i64 (((pr.length:Nat):Int)+1))=W1 at*
    have hd1:s+5≤V1.heap.size:=by have:=hb1.size;omega
    have jd:(V1.alloc (Obj.cells #[Value.pointer (some { block:=p,off:=0 }),Value.int IntKind.i64 ((recAt y.1.1:Nat):Int)] 102)).heap[V1.heap.size]? =some (.cells #[Value.pointer (some { block:=p,off:=0 }),Value.int IntKind.i64 ((recAt y.1.1:Nat):Int)] 102):=World.alloc_heap_new _ _
    have hd2:V1.heap.size<(V1.alloc (Obj.cells #[Value.pointer (some { block:=p,off:=0 }),Value.int IntKind.i64 ((recAt y.1.1:Nat):Int)] 102)).heap.size:=by simp
    generalize V1.alloc (Obj.cells #[Value.pointer (some { block:=p,off:=0 }),Value.int IntKind.i64 ((recAt y.1.1:Nat):Int)] 102)=V2 at*
    have jl:=boxed_below jl1 hb2
    have jo:=boxed_below jo1 hb2
    have jr:=own_move (w1:=V2) jr1 (fun k hk=>hb2.block k (jr1.lt k hk).2)
    have jB:=jB1.trans (hb2.mono (by omega))
    have jK:=jK1.trans (keep_of_same (fun k hk=>hb2.block k (by omega)))
    have jO:=jO1.trans (keepsOthers_of_below hb2)
    have jT:=hTb V2 jB
    have jh:=hbh V2 jB
    have cd0:V2.cell? ⟨V1.heap.size,0,none⟩=some (.pointer (some ⟨p,0,none⟩)):=(cell_of_heap jd).trans rfl
    have cd1:V2.cell? ⟨V1.heap.size,1,none⟩=some (.int .i64 ((recAt y.1.1:Nat):Int)):=(cell_of_heap jd).trans rfl
    have ch:=jh.cell
    generalize hdd:V1.heap.size=d at*
    clear hb1 hb2 jl1 jo1 jr1 jB1 jK1 jO1 hs1w k0 k1 kr k2 hB cl fl cx ex hdd
    by_cases hit:h<ati l (recAt y.1.1)
    ·gi_cut [42]from 39 (fun v V=>v= .bool true∧Below V2.heap.size V2 V)
     case first=>
      rename_i J K' hJ hK'
      gi_region_with (first |(refine⟨trivial,?_⟩;gi_at_call 74;refine(CallsIn.inRound L (callsIn_wide.2 (hash_any V2.drew p B 0 cap l jT.drew.r ((recAt y.1.1:Nat):Int) (by omega) (by omega)))).mono ?_;rintro e V3 ⟨rfl,hb3⟩;have ch3:=cell_below hb3 (show V2.drew.cell? ⟨n₀,0,none⟩=_ from ch);rw[Int.toNat_natCast]))
      all_goals
       refine hK' _ _ (Met.intro (hJ _ _ ?_))
       (repeat apply Exists.intro)
       refine⟨?rel,rfl⟩
       case rel=>exact⟨by simp[hit],(Below.refl _ _).drew.trans hb3⟩
     case rest=>
     obtain⟨rfl,hb23⟩:=hcut
     gi_wp2
     have b0:=boxed_below jl hb23
     have b1:=boxed_below jo hb23
     refine⟨(jO.trans (keepsOthers_of_below hb23)).from _,⟨rfl,pr,y,rfl,k3,hit,by rw[show(((pr++[y]).length:Nat):Int)=(pr.length:Nat)+1 by simp];exact b0,v,b1,own_move jr (fun k hk=>hb23.block k (jr.lt k hk).2)⟩,jB.trans (hb23.mono (by omega))⟩
    ·gi_cut [42]from 39 (fun v V=>v= .bool false∧Below V2.heap.size V2 V)
     case first=>
      rename_i J K' hJ hK'
      gi_region_with (first |(refine⟨trivial,?_⟩;gi_at_call 74;refine(CallsIn.inRound L (callsIn_wide.2 (hash_any V2.drew p B 0 cap l jT.drew.r ((recAt y.1.1:Nat):Int) (by omega) (by omega)))).mono ?_;rintro e V3 ⟨rfl,hb3⟩;have ch3:=cell_below hb3 (show V2.drew.cell? ⟨n₀,0,none⟩=_ from ch);rw[Int.toNat_natCast]))
      all_goals
       refine hK' _ _ (Met.intro (hJ _ _ ?_))
       (repeat apply Exists.intro)
       refine⟨?rel,rfl⟩
       case rel=>exact⟨by simp[hit],(Below.refl _ _).drew.trans hb3⟩
     case rest=>
     obtain⟨rfl,hb23⟩:=hcut
     gi_wp2
     have hz3:=hb23.size
     have ml:=boxed_below jl hb23
     have mo:=boxed_below jo hb23
     have mr:=own_move (w1:=wc) jr (fun k hk=>hb23.block k (jr.lt k hk).2)
     have mB:=jB.trans (hb23.mono (show s+1≤V2.heap.size by omega))
     have mK:=jK.trans (keep_of_same (fun k hk=>hb23.block k (by omega)))
     have mO:=jO.trans (keepsOthers_of_below hb23)
     have mT:=hTb wc mB
     have mh:=hbh wc mB
     have md0:=cell_below hb23 cd0
     have md1:=cell_below hb23 cd1
     have mch:=mh.cell
     have hd3:d<wc.heap.size:=by omega
     clear jl jo jr jB jK jO jT jh cd0 cd1 ch jd hb23
     by_cases heq:ati l (recAt y.1.1)=h
     ·gi_cut [46]from 43 (fun v V=>v= .bool true∧Below wc.heap.size wc V)
      case first=>
       rename_i J K' hJ hK'
       gi_region_with (first |(refine⟨trivial,?_⟩;gi_at_call 74;refine(CallsIn.inRound L (callsIn_wide.2 (hash_any wc.drew p B 0 cap l mT.drew.r ((recAt y.1.1:Nat):Int) (by omega) (by omega)))).mono ?_;rintro e V4 ⟨rfl,hb4⟩;have ch4:=cell_below hb4 (show wc.drew.cell? ⟨n₀,0,none⟩=_ from mch);rw[Int.toNat_natCast]))
       all_goals
        refine hK' _ _ (Met.intro (hJ _ _ ?_))
        (repeat apply Exists.intro)
        refine⟨?rel,rfl⟩
        case rel=>exact⟨by simp[heq],(Below.refl _ _).drew.trans hb4⟩
      case rest=>
      obtain⟨rfl,hb34⟩:=hcut
      have hz4:=hb34.size
      have nl:=boxed_below ml hb34
      have no:=boxed_below mo hb34
      have nr:=own_move (w1:=wc) mr (fun k hk=>hb34.block k (mr.lt k hk).2)
      have nB:=mB.trans (hb34.mono (by omega))
      have nK:=mK.trans (keep_of_same (fun k hk=>hb34.block k (by omega)))
      have nO:=mO.trans (keepsOthers_of_below hb34)
      have nT:=hTb wc nB
      have nd0:=cell_below hb34 md0
      have nd1:=cell_below hb34 md1
      have nz:s+5≤wc.heap.size:=by omega
      have hol:=outL_len l h (pr.map (·.1.1))
      rw[List.length_map]at hol
      have nol:(outL l h (pr.map (·.1.1))).length≤1000000:=by omega
      clear ml mo mr mB mK mO mT mh md0 md1 mch hb34 hol
      have co:=no.cell
      gi_wp2
      have HR4:=Lib.hid nr
      clear nr
      gi_region_with (first |(refine⟨trivial,?_⟩;gi_at_call 75;refine(CallsIn.inRound L (callsIn_wide.2 (word_any wc.drew p B 0 cap l nT.drew.r ((recAt y.1.1:Nat):Int) (by omega) (by omega) (by omega)))).mono ?_;rintro e V5 ⟨rfl,hb5⟩;rw[Int.toNat_natCast];have no5:=boxed_below (show Boxed wc.drew (s+1) 31 v from no) hb5;have co5:=no5.cell;have co6:=(no5.alloc (.cells #[.int .i64 (ati l (recAt y.1.1+1))] 3)).cell;have fo5:=no5.frozen;have nr5:=own_move (w1:=V5) HR4.out (fun k hk=>hb5.block k (HR4.out.lt k hk).2);have nz5:=Nat.le_trans nz hb5.size;obtain⟨g',cap',V6,hrun,hown',hgrow⟩:=app_fact nr5 nz5 nol (ati l (recAt y.1.1+1));obtain⟨hv1,hv2,hr2,hk2,hb6,hsame⟩:=boxed_appended (n₀:=s+1) no5 (by decide) nr5 nz5 (by omega) (Nat.le_refl _) hown' hgrow;have cv1:=hv1.cell;have fv1:=hv1.frozen;have HO6:=Lib.hid hown';have HR5:=Lib.hid nr5;have HR6:=Lib.hid hr2;clear hown' nr5 hr2) |(rw[hrun]))
      all_goals
       gi_wp2
       have hb45:Below wc.heap.size wc V5:=(Below.refl _ _).drew.trans hb5
       have hz5:=hb45.size
       refine⟨((nO.trans (keepsOthers_of_below hb45)).trans hk2).from _,?_,⟨?_,⟨_,hv2,?_⟩,Nat.le_trans nz5 hk2.size,?_⟩,(nB.trans (hb45.mono (by omega))).trans hb6⟩
       ·intro k o hs hk ho
        have h1:=nK k o (by rcases hs with rfl |rfl |rfl |rfl<;>omega) hk ho
        exact(hsame k (by rcases hs with rfl |rfl |rfl |rfl<;>omega) (by rcases hs with rfl |rfl |rfl |rfl<;>omega)).trans ((hb45.block k (lt_heap h1)).trans h1)
       ·rw[show(((pr++[y]).length:Nat):Int)=(pr.length:Nat)+1 by simp]
        exact(hsame (s+1+1) (by omega) (by omega)).trans (boxed_below nl hb45)
       ·rw[show(pr++[y]).map (·.1.1)=pr.map (·.1.1)++[y.1.1]by simp,outL_snoc,if_pos heq,List.length_append,List.map_append]
        exact HR6.out
       ·intro q hq
        rcases List.mem_append.1 hq with hq |hq
        ·exact k3 q hq
        ·obtain rfl:q=y:=by simpa using hq
         omega
     ·gi_cut [46]from 43 (fun v V=>v= .bool false∧Below wc.heap.size wc V)
      case first=>
       rename_i J K' hJ hK'
       gi_region_with (first |(refine⟨trivial,?_⟩;gi_at_call 74;refine(CallsIn.inRound L (callsIn_wide.2 (hash_any wc.drew p B 0 cap l mT.drew.r ((recAt y.1.1:Nat):Int) (by omega) (by omega)))).mono ?_;rintro e V4 ⟨rfl,hb4⟩;have ch4:=cell_below hb4 (show wc.drew.cell? ⟨n₀,0,none⟩=_ from mch);rw[Int.toNat_natCast]))
       all_goals
        refine hK' _ _ (Met.intro (hJ _ _ ?_))
        (repeat apply Exists.intro)
        refine⟨?rel,rfl⟩
        case rel=>exact⟨by simp[heq],(Below.refl _ _).drew.trans hb4⟩
      case rest=>
      obtain⟨rfl,hb34⟩:=hcut
      gi_wp2
      have b0:=boxed_below ml hb34
      have b1:=boxed_below mo hb34
      have hz4:=hb34.size
      refine⟨(mO.trans (keepsOthers_of_below hb34)).from _,?_,⟨by rw[show(((pr++[y]).length:Nat):Int)=(pr.length:Nat)+1 by simp];exact b0,⟨v,b1,?_⟩,by omega,?_⟩,mB.trans (hb34.mono (by omega))⟩
      ·intro k o hs hk ho
       have h1:=mK k o (by rcases hs with rfl |rfl |rfl |rfl<;>omega) hk ho
       exact(hb34.block k (lt_heap h1)).trans h1
      ·rw[show(pr++[y]).map (·.1.1)=pr.map (·.1.1)++[y.1.1]by simp,outL_snoc,if_neg heq,List.append_nil]
       exact own_move mr (fun k hk=>hb34.block k (mr.lt k hk).2)
      ·intro q hq
       rcases List.mem_append.1 hq with hq |hq
       ·exact k3 q hq
       ·obtain rfl:q=y:=by simpa using hq
        omega
   case done=>
    rintro D ys W hD rfl ⟨⟨k0,⟨v,k1,kr⟩,k2,k3⟩,hB⟩ hK
    have hmp:ys.map (·.1.1)=C i:=by
     have:=congrArg (List.map (·.1)) HMAP.out
     rw[wf_map,List.map_map]at this
     exact this
    have hpre:preR l h (C i)=C i:=by
     rw[←hmp]
     unfold preR
     refine takeWhile_all _ _ (fun r hr=>?_)
     obtain⟨q,hq,rfl⟩:=List.mem_map.1 hr
     exact decide_eq_true (k3 q hq)
    have hF:=hfin D W.drew v ys.length (by have:=HZ9.out;omega) hB.drew (by rw[←hmp];exact kr.drew) (show W.heap[D]? =_ from hK) (by rw[hpre,←HCRL.out];omega)
    have HF:=Lib.hid hF
    obtain⟨A',c',rfl⟩:=own_form kr
    clear hfin hF hmp hpre kr
    gi_wp2
    go_wp2
    refine region_still (by kernel_rfl) (by kernel_rfl) (fun w7 hw7=>?_)
    have cl:w7.cell? ⟨s+1+1,0,none⟩=some (.int .i64 (ys.length:Nat)):=by rw[hw7];exact k0.cell
    have co:=(show W.drew.cell? ⟨s+1,0,none⟩=_ from k1.cell)
    rw[←hw7]at co HF
    have hK7:w7.heap[D]? =some (.deferred (some [])):=by rw[hw7];exact hK
    clear hw7
    repeat still_step
    refine wpStill_nil ?_
    go_wp2
    refine⟨by simp,.inl ⟨_,_,rfl,run_takeDeferred hK7,?_⟩⟩
    exact⟨.tuple #[.slice A' (outL l h (ys.map (·.1.1))).length c',.int .i64 (ys.length:Nat),.int .i64 0],by simp[results,Try.results26,go_sem],HF.out⟩
   case stop=>
    rintro D c pr W hD hpr ⟨⟨rfl,pr',y,hp',hn',hit,k2,v,k4,kr⟩,hB⟩ hK
    obtain⟨rest,hrs⟩:=hpr
    have hmp:C i=pr'.map (·.1.1)++y.1.1::rest.map (·.1.1):=by
     have:=congrArg (List.map (·.1)) HMAP.out
     rw[wf_map,List.map_map,←hrs,hp']at this
     rw[←this]
     simp
     rfl
    have hpre:preR l h (C i)=pr'.map (·.1.1):=by
     rw[hmp]
     unfold preR
     refine takeWhile_mid (fun r=>decide (ati l (recAt r)≤h)) y.1.1 _ (decide_eq_false (by omega)) _ (fun r hr=>?_)
     obtain⟨q,hq,rfl⟩:=List.mem_map.1 hr
     exact decide_eq_true (hn' q hq)
    have hlen1:pr.length=min (C i).length ((preR l h (C i)).length+1):=by
     rw[hpre,hmp,hp'];simp
    have hout:outL l h (C i)=outL l h (pr'.map (·.1.1)):=by
     have hsr:=HSRT.out
     rw[hmp]at hsr ⊢
     exact outL_stop hit hsr
    have hF:=hfin D W.drew v pr.length (by have:=HZ9.out;omega) hB.drew (by rw[hout];exact kr.drew) (show W.heap[D]? =_ from hK) hlen1
    have HF:=Lib.hid hF
    obtain⟨A',c',rfl⟩:=own_form kr
    clear hfin hF hmp hpre hlen1 hout kr hp' hrs hn'
    gi_wp2
    go_wp2
    refine region_still (by kernel_rfl) (by kernel_rfl) (fun w7 hw7=>?_)
    have cl:w7.cell? ⟨s+1+1,0,none⟩=some (.int .i64 (pr.length:Nat)):=by rw[hw7];exact k2.cell
    have co:=(show W.drew.cell? ⟨s+1,0,none⟩=_ from k4.cell)
    rw[←hw7]at co HF
    have hK7:w7.heap[D]? =some (.deferred (some [])):=by rw[hw7];exact hK
    clear hw7
    repeat still_step
    refine wpStill_nil ?_
    go_wp2
    refine⟨by simp,.inl ⟨_,_,rfl,run_takeDeferred hK7,?_⟩⟩
    exact⟨.tuple #[.slice A' (outL l h (pr'.map (·.1.1))).length c',.int .i64 (pr.length:Nat),.int .i64 0],by simp[results,Try.results26,go_sem],HF.out⟩
 ·have HOP:=Lib.hid hop
  have hb1:¬(ValidL l∧(0≤h∧h≤2147483647)):=hV
  have ct0:=hb0.cell
  clear hop hV
  go_enter Try.func26,Try.ntmps26
  go_wp2_with fail
  refine HOP.out.mono ?_
  rintro e w1 ⟨(⟨h1,rfl⟩ |⟨h1,h2,rfl⟩ |⟨h1,h2,_⟩),hB1⟩
  ·go_wp2
   refine bodyPost_ret (v:=.tuple #[.slice none 0 0,.int .i64 0,.int .i64 600]) (by simp[results,Try.results26,go_sem]) rfl ?_
   exact⟨.inl ⟨h1,rfl⟩,(hB0.trans (hB1.mono (by simp))).alloc (by have:=hB1.size;simp at this;omega) _⟩
  ·have H2:=Lib.hid h2
   clear h2
   go_wp2
   refine bodyPost_ret (v:=.tuple #[.slice none 0 0,.int .i64 0,.int .i64 1]) (by simp[results,Try.results26,go_sem]) rfl ?_
   exact⟨.inr (.inl ⟨h1,H2.out,rfl⟩),(hB0.trans (hB1.mono (by simp))).alloc (by have:=hB1.size;simp at this;omega) _⟩
  ·exact absurd ⟨h1,h2⟩ hb1
end Go.Proofs.Ytdcomhdadnhpnaa
end
section
namespace Go.Proofs.Ytdcomhdadnhpnaa
variable {l l':List Int} {n b:Nat} {C C':Nat→List Nat}
theorem pos_cases {q:Nat} (h:4≤q):(∃i,q=headAt i)∨∃r a,a<3∧q=recAt r+a:=by
 obtain⟨S,o,ho,e⟩:∃S o,o<56∧q=4+56*S+o:=⟨(q-4)/56,(q-4)%56,Nat.mod_lt _ (by omega),by omega⟩
 by_cases h8:o<8
 ·refine .inl ⟨8*S+o,?_⟩
  unfold headAt
  have h1:(8*S+o)/8=S:=by omega
  have h2:(8*S+o)%8=o:=by omega
  rw[h1,h2];omega
 ·refine .inr ⟨16*S+(o-8)/3,(o-8)%3,Nat.mod_lt _ (by omega),?_⟩
  unfold recAt
  have h0:(o-8)/3<16:=by omega
  have h1:(16*S+(o-8)/3)/16=S:=by omega
  have h2:(16*S+(o-8)/3)%16=(o-8)/3:=by omega
  rw[h1,h2];omega
theorem CL.same:∀ {f:Nat} {rs:List Nat},CL l f rs→CL l' f rs→ati l f=ati l' f∧∀r∈rs,ati l (recAt r+2)=ati l' (recAt r+2)
 |_,[],h,h'=>⟨h.2.trans h'.2.symm,by simp⟩
 |_,r::rs,h,h'=>⟨h.2.1.trans h'.2.1.symm,fun s hs=>by
   have:=h.2.2.2.same h'.2.2.2
   rcases List.mem_cons.1 hs with rfl |hs
   ·exact this.1
   ·exact this.2 s hs⟩
theorem G.ext (hH:HeadOk l n) (hH':HeadOk l' n) (g:G l n (bkts n) C) (g':G l' n (bkts n) C') (hC:∀i,i<bkts n→C i=C' i)
  (hE:∀r,r<n→ati l (recAt r)=ati l' (recAt r)∧ati l (recAt r+1)=ati l' (recAt r+1)):l=l':=by
 refine ext_ati (hH.len.trans hH'.len.symm) (fun q _=>?_)
 by_cases h4:q<4
 ·rcases(by omega:q=0∨q=1∨q=2∨q=3)with rfl |rfl |rfl |rfl
  ·exact hH.n0.trans hH'.n0.symm
  ·exact hH.b1.trans hH'.b1.symm
  ·exact hH.b2.trans hH'.b2.symm
  ·exact hH.b3.trans hH'.b3.symm
 ·rcases pos_cases (q:=q) (by omega)with⟨i,rfl⟩ |⟨r,a,ha,rfl⟩
  ·by_cases hi:i<bkts n
   ·exact((g.chn i hi).same (by rw[hC i hi];exact g'.chn i hi)).1
   ·rw[g.zh i (by omega),g'.zh i (by omega)]
  ·by_cases hr:r<n
   ·rcases(by omega:a=0∨a=1∨a=2)with rfl |rfl |rfl
    ·exact(hE r hr).1
    ·exact(hE r hr).2
    ·have hi:=bkt_lt (ati l (recAt r)).toNat (b:=bkts n) (by have:=bkts8 n;omega)
     exact((g.chn _ hi).same (by rw[hC _ hi];exact g'.chn _ hi)).2 r ((g.mem _ hi r).2 ⟨hr,rfl⟩)
   ·rw[g.zr r (by omega) a ha,g'.zr r (by omega) a ha]
def addCC (l:List Int) (n:Nat) (C:Nat→List Nat) (h:Int) (l1:List Int):Nat→List Nat:=
 if bkts n<bkts (n+1)then fun k=>if k=bkts n-pow2 (bkts n)then stayS l1 (bkts n) (addC l n C h (bkts n-pow2 (bkts n)))else if k=bkts n then goneS l1 (bkts n) (addC l n C h (bkts n-pow2 (bkts n)))else addC l n C h k
 else addC l n C h
theorem addL_head (hH:HeadOk l n) (hn:n<100000) {fr:Nat} {h x:Int} (h4:4≤fr):HeadOk (addL l n fr h x) (n+1):=by
 have h60:=wlen_ge (n+1)
 have hr:=recAt_ge n
 have hA:∀q,q<4→ati (addL l n fr h x) q=ati (sizedL l (n+1)) q:=fun q hq=>by
  unfold addL
  rw[ati_set_ne (by omega),ati_set_ne (by omega),ati_set_ne (by omega),ati_set_ne (by omega)]
 refine⟨by rw[hA 0 (by omega),ati_sizedL,if_pos rfl],by omega,addL_len,by rw[hA 1 (by omega),ati_sizedL,if_neg (by omega),if_pos rfl],by rw[hA 2 (by omega),ati_sizedL,if_neg (by omega),if_neg (by omega),if_pos rfl],?_⟩
 rw[hA 3 (by omega),ati_sizedL,if_neg (by omega),if_neg (by omega),if_neg (by omega),if_pos (by omega)]
 exact hH.b3
theorem G.add (g:G l n (bkts n) C) (hH:HeadOk l n) {h x:Int} (h0:(addR l n C h x).2.1=0):
  (0≤h∧h≤2147483647)∧hasR l h x (C (bkt h.toNat (bkts n)))=false∧n<100000∧
  HeadOk (addR l n C h x).2.2 (n+1)∧G (addR l n C h x).2.2 (n+1) (bkts (n+1)) (addCC l n C h (addL l n (endp (headAt (bkt h.toNat (bkts n))) (preR l h (C (bkt h.toNat (bkts n))))) h x))∧
  (∀r,r<n+1→∀a,a<2→ati (addR l n C h x).2.2 (recAt r+a)=if r=n then(if a=0 then h else x)else ati l (recAt r+a)):=by
 have hi:=bkt_lt h.toNat (b:=bkts n) (by have:=bkts8 n;omega)
 by_cases hh:0≤h∧h≤2147483647
 ·by_cases hhas:hasR l h x (C (bkt h.toNat (bkts n)))=true
  ·unfold addR at h0;rw[if_neg (by simpa using hh),if_pos hhas]at h0;exact absurd h0 (by simp)
  ·by_cases hm:n=100000
   ·unfold addR at h0;rw[if_neg (by simpa using hh),if_neg hhas,if_pos hm]at h0;exact absurd h0 (by simp)
   ·have hhas':hasR l h x (C (bkt h.toNat (bkts n)))=false:=by simpa using hhas
    have hnl:n<100000:=by have:=g.n1;omega
    have g1:=G_addR (x:=x) g hH.len hnl hh.1 hh.2 hhas'
    have hfr:4≤endp (headAt (bkt h.toNat (bkts n))) (preR l h (C (bkt h.toNat (bkts n))))∧endp (headAt (bkt h.toNat (bkts n))) (preR l h (C (bkt h.toNat (bkts n))))<l.length:=by
     rcases endp_cases (headAt (bkt h.toNat (bkts n))) (preR l h (C (bkt h.toNat (bkts n))))with⟨_,e⟩ |⟨r,hr,e⟩
     ·rw[e];exact⟨headAt_ge _,g.headlt hi⟩
     ·rw[e];have:=recAt_ge r;exact⟨by omega,g.rl r (g.lt hi ((List.takeWhile_sublist _).subset hr))⟩
    have hnofr:∀r a,a<2→recAt r+a≠endp (headAt (bkt h.toNat (bkts n))) (preR l h (C (bkt h.toNat (bkts n)))):=fun r a ha e=>endp_no01 _ _ _ _ ha e.symm
    have hHd:=addL_head (x:=x) (h:=h) hH hnl hfr.1
    have hw:=wlen_mono (show n≤n+1 by omega)
    have hA:∀q,3≤q→_:=fun q hq=>ati_addL (h:=h) (x:=x) (show 3≤endp (headAt (bkt h.toNat (bkts n))) (preR l h (C (bkt h.toNat (bkts n))))by omega) (by rw[hH.len]at hfr;omega) q hq hH.len
    have hel:∀r,r<n+1→∀a,a<2→ati (addL l n (endp (headAt (bkt h.toNat (bkts n))) (preR l h (C (bkt h.toNat (bkts n))))) h x) (recAt r+a)=if r=n then(if a=0 then h else x)else ati l (recAt r+a):=fun r hr a ha=>by
     rw[hA _ (by have:=recAt_ge r;omega),if_neg (hnofr r a ha)]
     by_cases e:r=n
     ·subst e
      rcases(by omega:a=0∨a=1)with rfl |rfl
      ·simp
      ·simp
     ·have h3:∀c,c<3→recAt r+a≠recAt n+c:=fun c hc e2=>e (recAt_inj e2 (by omega) hc).1
      rw[if_neg (h3 2 (by omega)),if_neg (h3 1 (by omega)),if_neg (show ¬recAt r+a=recAt n from h3 0 (by omega)),if_neg e]
    refine⟨hh,hhas',hnl,?_⟩
    generalize hl1:addL l n (endp (headAt (bkt h.toNat (bkts n))) (preR l h (C (bkt h.toNat (bkts n))))) h x=l1 at*
    by_cases hb:bkts n<bkts (n+1)
    ·have hR:(addR l n C h x).2.2=divL l1 (bkts n) (addC l n C h (bkts n-pow2 (bkts n))):=by
      unfold addR;rw[if_neg (by simpa using hh),if_neg hhas,if_neg hm,if_pos hb,hl1]
     have hCC:addCC l n C h l1=fun k=>if k=bkts n-pow2 (bkts n)then stayS l1 (bkts n) (addC l n C h (bkts n-pow2 (bkts n)))else if k=bkts n then goneS l1 (bkts n) (addC l n C h (bkts n-pow2 (bkts n)))else addC l n C h k:=by unfold addCC;rw[if_pos hb]
     have hbn:=bkts_nx hb
     have hbh:headAt (bkts n)<l1.length:=by rw[hHd.len];exact headAt_wlen (by omega)
     have g2:=G_divide g1 hbh
     have hD:∀q,(∀i,q≠headAt i)→(∀r,q≠recAt r+2)→ati (divL l1 (bkts n) (addC l n C h (bkts n-pow2 (bkts n)))) q=ati l1 q:=fun q h1 h2=>divL_ati _ _ _ _ (h1 _) (h1 _) (fun r _=>h2 r)
     have hD4:∀q,q<4→ati (divL l1 (bkts n) (addC l n C h (bkts n-pow2 (bkts n)))) q=ati l1 q:=fun q hq=>hD q (fun i e=>by have:=headAt_ge i;omega) (fun r e=>by have:=recAt_ge r;omega)
     rw[hR,hCC,hbn]
     refine⟨⟨(hD4 0 (by omega)).trans hHd.n0,hHd.n1,(divL_len _ _ _).trans hHd.len,(hD4 1 (by omega)).trans hHd.b1,(hD4 2 (by omega)).trans hHd.b2,(hD4 3 (by omega)).trans hHd.b3⟩,g2,fun r hr a ha=>?_⟩
     rw[hD _ (fun i e=>head_rec e.symm (by omega)) (fun s e=>by have:=(recAt_inj e (by omega) (by omega)).2;omega)]
     exact hel r hr a ha
    ·have hR:(addR l n C h x).2.2=l1:=by
      unfold addR;rw[if_neg (by simpa using hh),if_neg hhas,if_neg hm,if_neg hb,hl1]
     have hCC:addCC l n C h l1=addC l n C h:=by unfold addCC;rw[if_neg hb]
     have hbe:bkts (n+1)=bkts n:=by have:=bkts_mono (show n≤n+1 by omega);omega
     rw[hR,hCC,hbe]
     exact⟨hHd,g1,hel⟩
 ·unfold addR at h0;rw[if_pos hh]at h0;exact absurd h0 (by simp)
theorem freshL_ati (q:Nat):ati freshL q=if q=1 then 8 else if q=2 then 8 else 0:=by
 unfold freshL
 rw[ati_sizedL]
 have h:∀q,ati (List.replicate 60 (0:Int)) q=0:=fun q=>by unfold ati;rw[List.getD_eq_getElem?_getD,List.getElem?_replicate];split<;>rfl
 rw[h]
 by_cases e0:q=0
 ·subst e0;decide
 ·rw[if_neg e0]
  by_cases e1:q=1
  ·subst e1;decide
  ·rw[if_neg e1,if_neg e1]
   by_cases e2:q=2
   ·subst e2;decide
   ·rw[if_neg e2,if_neg e2];split<;>rfl
theorem freshL_len:freshL.length=60:=sizedL_len _ _
theorem freshL_head:HeadOk freshL 0:=⟨by rw[freshL_ati];decide,by omega,freshL_len.trans (by decide),by rw[freshL_ati];decide,by rw[freshL_ati];decide,by rw[freshL_ati];decide⟩
theorem freshL_g:G freshL 0 (bkts 0) (fun _=>[]):=by
 have hz:∀q,4≤q→ati freshL q=0:=fun q hq=>by rw[freshL_ati,if_neg (by omega),if_neg (by omega)]
 have hl:∀i,i<bkts 0→headAt i<freshL.length:=fun i hi=>by rw[freshL_head.len];exact headAt_wlen hi
 exact⟨by omega,fun r hr=>absurd hr (by omega),bkts8 0,hl,fun r hr=>absurd hr (by omega),fun i hi=>⟨hl i hi,hz _ (headAt_ge i)⟩,fun _ _=>List.nodup_nil,fun i hi r=>by simp,fun _ _=>List.Pairwise.nil,fun r hr=>absurd hr (by omega),fun i _=>hz _ (headAt_ge i),fun r _ a _=>hz _ (by have:=recAt_ge r;omega)⟩
end Go.Proofs.Ytdcomhdadnhpnaa
end
section
namespace Go.Proofs.Ytdcomhdadnhpnaa
open Go.RowKit Go.Shelf
open Go.Proofs.YtdcomhdadnhpnaaW.PrintWords (own_reads_of ReadsOf encs)
attribute [local irreducible] wpStill
theorem RdL.cell {w:World} {A:Option Addr} {l:List Int} (h:RdL w A l) {b off:Nat} (hA:A=some ⟨b,off,none⟩) {i:Nat} (hi:i<l.length):w.cell? ⟨b,off+i,none⟩=some (.int .i64 (ati l i)):=by
 obtain⟨b',off',e,_,hc⟩:=h.at_ (by omega)
 rw[hA]at e
 injection e with e;injection e with e1 e2
 subst e1;subst e2
 exact hc i hi
theorem rdL_own {w:World} {base:Nat} {v:Value} {l:List Int} (h:w.ownsRow base 3 1 v l.length (l.map (Value.int .i64))):∃A c,v= .slice A l.length c∧RdL w A l:=by
 have hcs:=fun g hg=>h.cells (g:=g) hg
 rcases h.2 with⟨rfl,h0⟩ |⟨g,c,cur,rfl,hb,hg,r⟩
 ·exact⟨none,0,by rw[h0],⟨fun h1=>absurd h1 (by omega)⟩⟩
 ·refine⟨_,c,rfl,⟨fun _=>⟨g,0,rfl,lt_heap hg,fun i hi=>?_⟩⟩⟩
  have:=hcs g rfl i (.int .i64 (ati l i)) (by rw[List.getElem?_map];unfold ati;simp[hi])
  rw[addr_add]at this
  exact this
theorem Rw.rd {base:Nat} {w:World} {B cap:Nat} {l:List Int} (h:Rw base w B cap l):RdL w (some ⟨B,0,none⟩) l:=by
 obtain⟨A,c,e,hr⟩:=rdL_own h.own
 injection e with e1 e2 e3
 rw[e1];exact hr
set_option maxRecDepth 100000 in
set_option maxHeartbeats 2000000 in
theorem same_any (A B:Option Addr) (c d:Nat) (l m:List Int) (w:World) (hA:RdL w A l) (hBm:RdL w B m) (hl:l.length≤1000000000) (hm:m.length≤1000000000):
  Calls Try.prog 36 #[.slice A l.length c,.slice B m.length d] w fun e W'=>e= .returned (.bool (decide (l=m)))∧Below w.heap.size w W':=by
 by_cases hlen:l.length=m.length
 ·have hne:((l.length:Int) != (m.length:Int))=false:=by rw[hlen];simp
  have HLEN:=Lib.hid hlen
  clear hlen
  go_enter Try.func36,Try.ntmps36
  go_wp2
  go_loopw [5] (fun k wr=>∃kk:Nat,k= .int .i64 (kk:Nat)∧kk≤l.length∧Hid (∀i,i<kk→ati l i=ati m i)∧Below w.heap.size w wr) (fun k _=>l.length-(intOf k).toNat)
  case atStart=>exact⟨0,rfl,Nat.zero_le _,fun i hi=>absurd hi (by omega),Below.refl _ _⟩
  case round=>
   obtain⟨k,rfl,hk,HE,hB⟩:=hrel
   by_cases hlt:k<l.length
   ·have i1:(k:Int)<(l.length:Int):=by omega
    have i2:(k:Int)<(m.length:Int):=by have:=HLEN.out;omega
    obtain⟨b,off,rfl,_,hc⟩:=hA.at_ (by omega)
    obtain⟨b',off',rfl,_,hc'⟩:=hBm.at_ (by have:=HLEN.out;omega)
    have c1:=cell_below hB (hc k hlt)
    have c2:=cell_below hB (hc' k (by have:=HLEN.out;omega))
    clear hc hc'
    by_cases he:ati l k=ati m k
    ·have he':(ati l k != ati m k)=false:=by rw[he];simp
     have HEQ:=Lib.hid he
     clear he
     go_wp2
     refine region_still (by kernel_rfl) (by kernel_rfl) (fun w7 hw7=>?_)
     have d1:=(show wr.drew.cell? ⟨b,off+k,none⟩=_ from c1)
     have d2:=(show wr.drew.cell? ⟨b',off'+k,none⟩=_ from c2)
     have hB7:=hB.drew
     rw[←hw7]at d1 d2 hB7
     clear hw7 c1 c2 hB
     repeat still_step
     refine wpStill_nil ?_
     have e1:IntKind.i64.wrap ((k:Int)+1)=(k:Int)+1:=IntWalk.i64_in _ (by omega)
     go_wp2
     go_roundw
     case rel=>
      refine⟨k+1,by go_num,by omega,fun i hi=>?_,hB7⟩
      by_cases e:i=k
      ·rw[e];exact HEQ.out
      ·exact HE.out i (by omega)
     case measure=>simp[intOf];omega
    ·have he':(ati l k != ati m k)=true:=by simpa using he
     have HEQ:=Lib.hid he
     clear he
     go_wp2
     refine region_still (by kernel_rfl) (by kernel_rfl) (fun w7 hw7=>?_)
     have d1:=(show wr.drew.cell? ⟨b,off+k,none⟩=_ from c1)
     have d2:=(show wr.drew.cell? ⟨b',off'+k,none⟩=_ from c2)
     have hB7:=hB.drew
     rw[←hw7]at d1 d2 hB7
     clear hw7 c1 c2 hB
     repeat still_step
     refine wpStill_nil ?_
     go_wp2
     go_ret
     exact⟨by rw[decide_eq_false (fun e=>HEQ.out (by rw[e]))];rfl,hB7⟩
   ·have hk':k=l.length:=by omega
    subst hk'
    go_wp2
    go_ret
    exact⟨by rw[decide_eq_true (ext_ati HLEN.out (fun q hq=>HE.out q hq))];rfl,hB⟩
 ·have hne:((l.length:Int) != (m.length:Int))=true:=by simpa using(show ¬(l.length:Int)=m.length by omega)
  have hlm:decide (l=m)=false:=decide_eq_false (fun e=>hlen (by rw[e]))
  have HLEN:=Lib.hid hlen
  clear hlen
  go_enter Try.func36,Try.ntmps36
  go_wp2
  go_ret
  exact⟨by rw[hlm];rfl,Below.refl _ _⟩
end Go.Proofs.Ytdcomhdadnhpnaa
end
section
namespace Go.Proofs.Ytdcomhdadnhpnaa
def oneL:List Int:=addL freshL 0 (headAt 5) 5 70
theorem oneL_len:oneL.length=60:=by decide
theorem oneL_0:ati oneL 0=1:=by decide
theorem oneL_9:ati oneL 9=1:=by decide
theorem oneL_12:ati oneL 12=5:=by decide
theorem oneL_13:ati oneL 13=70:=by decide
theorem oneL_14:ati oneL 14=0:=by decide
theorem bkts0:bkts 0=8:=by decide
theorem bkts1:bkts 1=8:=by decide
theorem bkt58:bkt (5:Int).toNat 8=5:=by decide
theorem HeadOk.same {l:List Int} {n m:Nat} (h:HeadOk l n) (h':HeadOk l m):n=m:=by have:=h.n0;have:=h'.n0;omega
theorem addR_fresh {C:Nat→List Nat} (h:C 5=[]):addR freshL 0 C 5 70=(0,0,oneL):=by
 unfold addR
 rw[if_neg (by decide),bkts0,bkt58,h,if_neg (by decide),if_neg (by decide),bkts1,if_neg (by decide)]
 rfl
theorem add_one {k:Int} {l':List Int} {c:Int} (h:AddQ freshL 5 70 k l' c):k=0∧l'=oneL∧c=0:=by
 have hV:ValidL freshL:=g_validL freshL_head freshL_g
 rcases h with⟨h,_⟩ |⟨_,h,_⟩ |⟨_,_,n,C,hH,g,h1,h2,h3,_⟩
 ·exact absurd hV h
 ·exact absurd (by decide) h
 ·obtain rfl:n=0:=hH.same freshL_head
  have hC:C 5=[]:=g.det freshL_g (by decide)
  rw[addR_fresh hC]at h1 h2 h3
  exact⟨h2,h3 h1,h1⟩
theorem one_g:∃C,HeadOk oneL 1∧G oneL 1 (bkts 1) C∧C 5=[0]:=by
 have h:=freshL_g.add freshL_head (h:=5) (x:=70) (by rw[addR_fresh rfl])
 rw[addR_fresh rfl]at h
 refine⟨_,h.2.2.2.1,h.2.2.2.2.1,?_⟩
 unfold addCC addC
 rw[bkts0,bkts1,if_neg (by decide),bkt58]
 rfl
theorem one_v:ValidL oneL:=by obtain⟨C,h1,h2,_⟩:=one_g;exact g_validL h1 h2
theorem find_one {base:Nat} {e:Ending} {W:World} (h:FindE base oneL 5 e W):∃v,e= .returned (.tuple #[v,.int .i64 1,.int .i64 0])∧W.ownsRow base 3 1 v [(70:Int)].length ([(70:Int)].map (Value.int .i64)):=by
 rcases h with⟨h,_⟩ |⟨_,h,_⟩ |⟨_,_,n,C,v,hH,g,h1,h2⟩
 ·exact absurd one_v h
 ·exact absurd (by decide) h
 ·obtain⟨C1,hH1,g1,hC1⟩:=one_g
  obtain rfl:n=1:=hH.same hH1
  have hC:C 5=[0]:=(g.det g1 (by decide)).trans hC1
  rw[bkts1,bkt58,hC]at h1 h2
  have e1:outL oneL 5 [0]=[70]:=by decide
  have e2:min [0].length ((preR oneL 5 [0]).length+1)=1:=by decide
  rw[e1]at h2
  rw[e2]at h1
  exact⟨v,h1,h2⟩
theorem drop_one {k:Int} {l':List Int} {c:Int} (h:DropQ oneL 5 70 k l' c):k=1∧l'=freshL∧c=0:=by
 rcases h with⟨h,_⟩ |⟨_,h,_⟩ |⟨_,_,n,C,hH,g,h1⟩
 ·exact absurd one_v h
 ·exact absurd (by decide) h
 ·obtain⟨C1,hH1,g1,hC1⟩:=one_g
  obtain rfl:n=1:=hH.same hH1
  have hC:C 5=[0]:=(g.det g1 (by decide)).trans hC1
  rcases h1 with⟨h1,_⟩ |⟨rfl,m,C',rfl,hD⟩
  ·rw[bkts1,bkt58,hC]at h1
   exact absurd h1 (by decide)
  ·have g2:=g.drop hH hD
   obtain⟨pre,r,post,k1,l1,C2,k2,l2,h1,_,_,hM,hJ,rfl,rfl⟩:=hD
   rw[bkts1,bkt58,hC]at h1
   have hpre:pre=[]∧r=0∧post=[]:=by
    cases pre with
    |nil=>simp at h1;exact⟨rfl,h1.1.symm,h1.2⟩
    |cons a pre=>simp at h1
   obtain⟨rfl,rfl,rfl⟩:=hpre
   have hk1:k1=0:=by
    rcases hM with⟨_,h,_⟩ |⟨h,_⟩
    ·exact h
    ·exact absurd rfl h
   have hk2:k2=0:=by
    rcases hJ with⟨_,h,_⟩ |⟨h,_⟩
    ·exact h
    ·rw[bkts1]at h;exact absurd h (by decide)
   refine⟨by rw[hk1,hk2];rfl,?_,rfl⟩
   refine G.ext g2.2.2 freshL_head g2.2.1 freshL_g (fun i hi=>?_) (fun r hr=>absurd hr (by omega))
   cases hc:C' i with
   |nil=>rfl
   |cons a t=>exact absurd (g2.2.1.lt hi (show a∈C' i by rw[hc];simp)) (by omega)
theorem not_valid1:¬ValidL [1]:=fun h=>by have:=h.l4;simp at this
end Go.Proofs.Ytdcomhdadnhpnaa
end
