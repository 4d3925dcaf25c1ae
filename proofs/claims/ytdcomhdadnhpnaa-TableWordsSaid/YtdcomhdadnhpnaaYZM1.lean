import Derived.Test.YtdcomhdadnhpnaaProg
import Derived.Below
import Derived.WalkKit
import Derived.KernelRfl
import Derived.Handy
import Derived.Deep.LoopGhost
import Derived.Recover
import Derived.Deep.QuietTactic
import Derived.BigQuiet
import Derived.RegionTactic
import Derived.Deep.RegionWith
import Derived.Deep.RegionHeld3
import Derived.Laws.NewBlocks
import Derived.Lib.Hide
import Derived.Outline
import Derived.RangeFuncNested
import Derived.RangeFuncBound
import Derived.RangeFuncCalls
import Derived.RangeFuncLeaves
import Derived.Shelf.Abstract
import Derived.Shelf.RegionOpen
import Derived.OwnWalkIn
import Derived.TacticsInMore
import Derived.LoopNIn
import Derived.LoopIn
import Derived.RangeFuncBox
import Derived.Maps.AppendAt
import Derived.StillTailTactics
import Derived.Sort.CutIn
import Derived.Test.YtdcomhdadnhpnaaYZM0
import Derived.Deep.AppendLies
import Derived.Deep.RegionLaw
set_option linter.all false
section
namespace Go.Proofs.Ytdcomhdadnhpnaa
open Go.RowKit
def ati (l:List Int) (i:Nat):Int:=l.getD i 0
def bkts (n:Nat):Nat:=if n≤16 then 8 else(n+1)/2
def wlen (n:Nat):Nat:=4+56*max 1 ((n+15)/16)
def pow2 (b:Nat):Nat:=2^Nat.log2 b
def bkt (h b:Nat):Nat:=if h%(2*pow2 b)<b then h%(2*pow2 b)else h%pow2 b
def headAt (i:Nat):Nat:=4+56*(i/8)+i%8
def recAt (r:Nat):Nat:=4+56*(r/16)+8+3*(r%16)
theorem ret_int {k:IntKind} {a b:Int} (h:a=b):Ending.returned (.int k a)= .returned (.int k b):=by rw[h]
theorem lt_cell {w:World} {b o:Nat} {v:Value} (h:w.cell? ⟨b,o,none⟩=some v):b<w.heap.size:=World.block_lt_of_cell? w ⟨b,o,none⟩ h
theorem lt_heap {w:World} {b:Nat} {o:Obj} (h:w.heap[b]? =some o):b<w.heap.size:=(Array.getElem?_eq_some_iff.1 h).1
structure TblR (w:World) (p b off cap:Nat) (l:List Int):Prop where
 head:w.cell? ⟨p,0,none⟩=some (.slice (some ⟨b,off,none⟩) l.length cap)
 cells:∀i,i<l.length→w.cell? ⟨b,off+i,none⟩=some (.int .i64 (ati l i))
 lt:b<w.heap.size
theorem TblR.below {w w':World} {p b off cap:Nat} {l:List Int} (h:TblR w p b off cap l) (hb:Below w.heap.size w w'):TblR w' p b off cap l:=
 ⟨(hb.cell (p:=⟨p,0,none⟩) (lt_cell h.head)).trans h.head,fun i hi=>(hb.cell (p:=⟨b,off+i,none⟩) h.lt).trans (h.cells i hi),Nat.lt_of_lt_of_le h.lt hb.size⟩
theorem TblR.alloc {w:World} {p b off cap:Nat} {l:List Int} (h:TblR w p b off cap l) (o:Obj):TblR (w.alloc o) p b off cap l:=h.below ((Below.refl _ _).alloc (Nat.le_refl _) o)
theorem TblR.drew {w:World} {p b off cap:Nat} {l:List Int} (h:TblR w p b off cap l):TblR w.drew p b off cap l:=h.below (Below.refl _ _).drew
theorem bcell {W w1:World} (hb:Below W.heap.size W w1):(∀b o,b<W.heap.size→w1.cell? ⟨b,o,none⟩=W.cell? ⟨b,o,none⟩)∧(∀b o,b<W.heap.size→w1.frozen? ⟨b,o,none⟩=W.frozen? ⟨b,o,none⟩):=
 ⟨fun b o h=>hb.cell (p:=⟨b,o,none⟩) h,fun b o h=>hb.frozen (p:=⟨b,o,none⟩) h⟩
theorem cell_below {W w1:World} (hb:Below W.heap.size W w1) {b o:Nat} {v:Value} (h:W.cell? ⟨b,o,none⟩=some v):w1.cell? ⟨b,o,none⟩=some v:=(hb.cell (p:=⟨b,o,none⟩) (lt_cell h)).trans h
theorem below_drewN {B n:Nat} {a w:World} (h:Below B a w):Below B a (w.drewN n):=⟨h.os,h.tape,h.output,h.size,h.block⟩
structure Fr (p B:Nat) (w w':World):Prop where
 os:w'.os=w.os
 tape:w'.tape=w.tape
 output:w'.output=w.output
 size:w.heap.size≤w'.heap.size
 block:∀k,k<w.heap.size→k≠p→k≠B→w'.heap[k]? =w.heap[k]?
theorem Fr.refl (p B:Nat) (w:World):Fr p B w w:=⟨rfl,rfl,rfl,Nat.le_refl _,fun _ _ _ _=>rfl⟩
theorem Fr.of_below {p B:Nat} {w w':World} (h:Below w.heap.size w w'):Fr p B w w':=⟨h.os,h.tape,h.output,h.size,fun k hk _ _=>h.block k hk⟩
theorem Fr.trans {p B:Nat} {a b c:World} (h:Fr p B a b) (k:Fr p B b c):Fr p B a c:=
 ⟨k.os.trans h.os,k.tape.trans h.tape,k.output.trans h.output,Nat.le_trans h.size k.size,fun i hi h1 h2=>(k.block i (Nat.lt_of_lt_of_le hi h.size) h1 h2).trans (h.block i hi h1 h2)⟩
theorem Fr.trans' {p B B':Nat} {a b c:World} (h:Fr p B a b) (k:Fr p B' b c) (hB:B'=B∨a.heap.size≤B'):Fr p B a c:=
 ⟨k.os.trans h.os,k.tape.trans h.tape,k.output.trans h.output,Nat.le_trans h.size k.size,fun i hi h1 h2=>(k.block i (Nat.lt_of_lt_of_le hi h.size) h1 (by rcases hB with rfl |hB<;>omega)).trans (h.block i hi h1 h2)⟩
theorem Fr.below {p B b:Nat} {w w':World} (h:Fr p B w w') (hw:b≤w.heap.size) (hp:b≤p) (hB:b≤B):Below b w w':=
 ⟨h.os,h.tape,h.output,h.size,fun k hk=>h.block k (by omega) (by omega) (by omega)⟩
theorem Fr.drew {p B:Nat} {a w:World} (h:Fr p B a w):Fr p B a w.drew:=⟨h.os,h.tape,h.output,h.size,h.block⟩
theorem Fr.alloc {p B:Nat} {a w:World} (h:Fr p B a w) (o:Obj):Fr p B a (w.alloc o):=h.trans (Fr.of_below ((Below.refl _ _).alloc (Nat.le_refl _) o))
theorem Fr.setCell {p B:Nat} {a w:World} (h:Fr p B a w) {c:Addr} (hc:c.block=p∨c.block=B∨a.heap.size≤c.block) (u:Value):Fr p B a (w.setCell c u):=
 ⟨h.os,h.tape,h.output,by simpa[World.setCell]using h.size,fun k hk h1 h2=>
  (Below.heap_setCell w c u k (by rintro rfl;rcases hc with hc |hc |hc<;>omega)).trans (h.block k hk h1 h2)⟩
structure Tb (base:Nat) (w:World) (p B cap:Nat) (l:List Int):Prop where
 pb:base≤p
 bb:base≤B
 ne:p≠B
 hp:w.heap[p]? =some (.cells #[.slice (some ⟨B,0,none⟩) l.length cap] 91 (0,0))
 row:∃cur,w.heap[B]? =some (.cells cur 3 (0,0))∧cur.size=cap∧cur.toList.take l.length=l.map (Value.int .i64)
 le:l.length≤cap
 capm:cap≤maxLen
theorem cell_of_heap {w:World} {b i:Nat} {cs:Array Value} {t:TypeId} {f:Nat×Nat} (h:w.heap[b]? =some (.cells cs t f)):w.cell? ⟨b,i,none⟩=cs[i]? :=by
 simp[World.cell?,h]
theorem frozen_of_heap {w:World} {b i:Nat} {cs:Array Value} {t:TypeId} (h:w.heap[b]? =some (.cells cs t (0,0))):w.frozen? ⟨b,i,none⟩=false:=by
 simp[World.frozen?,h]
section
variable {base:Nat} {w w':World} {p B cap:Nat} {l:List Int}
theorem Tb.ltp (h:Tb base w p B cap l):p<w.heap.size:=lt_heap h.hp
theorem Tb.ltB (h:Tb base w p B cap l):B<w.heap.size:=by obtain⟨_,hh,_⟩:=h.row;exact lt_heap hh
theorem Tb.head (h:Tb base w p B cap l):w.cell? ⟨p,0,none⟩=some (.slice (some ⟨B,0,none⟩) l.length cap):=(cell_of_heap h.hp).trans rfl
theorem Tb.frzp (h:Tb base w p B cap l):w.frozen? ⟨p,0,none⟩=false:=frozen_of_heap h.hp
theorem Tb.frz (h:Tb base w p B cap l) (i:Nat):w.frozen? ⟨B,i,none⟩=false:=by obtain⟨_,hh,_⟩:=h.row;exact frozen_of_heap hh
theorem Tb.cell (h:Tb base w p B cap l) (i:Nat) (hi:i<l.length):w.cell? ⟨B,i,none⟩=some (.int .i64 (ati l i)):=by
 obtain⟨cur,hh,hs,ht⟩:=h.row
 rw[cell_of_heap hh]
 have h1:(cur.toList.take l.length)[i]? =(l.map (Value.int .i64))[i]? :=by rw[ht]
 rw[List.getElem?_take,if_pos hi]at h1
 rw[←Array.getElem?_toList,h1,List.getElem?_map,List.getElem?_eq_getElem hi]
 simp[ati,hi]
theorem Tb.r (h:Tb base w p B cap l):TblR w p B 0 cap l:=⟨h.head,fun i hi=>by rw[Nat.zero_add];exact h.cell i hi,h.ltB⟩
theorem Tb.below (h:Tb base w p B cap l) (hb:Below w.heap.size w w'):Tb base w' p B cap l:=
 ⟨h.pb,h.bb,h.ne,(hb.block p h.ltp).trans h.hp,by obtain⟨cur,hh,r⟩:=h.row;exact⟨cur,(hb.block B h.ltB).trans hh,r⟩,h.le,h.capm⟩
theorem Tb.alloc (h:Tb base w p B cap l) (o:Obj):Tb base (w.alloc o) p B cap l:=h.below ((Below.refl _ _).alloc (Nat.le_refl _) o)
theorem Tb.drew (h:Tb base w p B cap l):Tb base w.drew p B cap l:=h.below (Below.refl _ _).drew
theorem Tb.other (h:Tb base w p B cap l) {c:Addr} (u:Value) (h1:c.block≠p) (h2:c.block≠B):Tb base (w.setCell c u) p B cap l:=
 ⟨h.pb,h.bb,h.ne,(Below.heap_setCell _ _ _ _ (by omega)).trans h.hp,by obtain⟨cur,hh,r⟩:=h.row;exact⟨cur,(Below.heap_setCell _ _ _ _ (by omega)).trans hh,r⟩,h.le,h.capm⟩
theorem Tb.set (h:Tb base w p B cap l) (i:Nat) (v:Int):Tb base (w.setCell ⟨B,i,none⟩ (.int .i64 v)) p B cap (l.set i v):=by
 obtain⟨cur,hh,hs,ht⟩:=h.row
 refine⟨h.pb,h.bb,h.ne,?_,⟨cur.setIfInBounds i (.int .i64 v),?_,by simpa using hs,?_⟩,by simpa using h.le,h.capm⟩
 ·rw[Below.heap_setCell _ _ _ _ h.ne,List.length_set];exact h.hp
 ·simp[World.setCell,Array.getElem?_modify,hh]
 ·rw[List.length_set,Array.toList_setIfInBounds,List.take_set,ht,List.map_set]
end
end Go.Proofs.Ytdcomhdadnhpnaa
end
section
namespace Go.Proofs.Ytdcomhdadnhpnaa
open Go.RowKit
theorem buckets_any (n:Int) (w:World) (h0:0≤n) (h1:n≤1000000):
  Calls Try.prog 63 #[.int .i64 n] w fun e w'=>e= .returned (.int .i64 (bkts n.toNat:Nat))∧w'=w:=by
 by_cases h:n≤16
 ·go_enter Try.func63,Try.ntmps63
  go_wp2
  go_ret
  exact⟨ret_int (by unfold bkts;rw[if_pos (by omega)];rfl),rfl⟩
 ·go_enter Try.func63,Try.ntmps63
  go_wp2
  go_ret
  exact⟨ret_int (by unfold bkts;rw[if_neg (by omega)];omega),rfl⟩
theorem length_any (n:Int) (w:World) (h0:0≤n) (h1:n≤1000000):
  Calls Try.prog 64 #[.int .i64 n] w fun e w'=>e= .returned (.int .i64 (wlen n.toNat:Nat))∧w'=w:=by
 go_enter Try.func64,Try.ntmps64
 go_wp2
 all_goals(go_ret;exact⟨ret_int (by unfold wlen;omega),rfl⟩)
theorem right_yes (h:Int) (w:World) (h0:0≤h) (h1:h≤2147483647):
  Calls Try.prog 65 #[.int .i64 h] w fun e w'=>e= .returned (.bool true)∧w'=w:=by
 go_enter Try.func65,Try.ntmps65
 go_wp2
 go_ret
 exact⟨rfl,rfl⟩
theorem right_no (h:Int) (w:World) (h0:¬(0≤h∧h≤2147483647)):
  Calls Try.prog 65 #[.int .i64 h] w fun e w'=>e= .returned (.bool false)∧w'=w:=by
 by_cases h1:0≤h
 ·have h2:2147483647<h:=by omega
  clear h0
  go_enter Try.func65,Try.ntmps65
  go_wp2
  go_ret
  exact⟨by simp;omega,rfl⟩
 ·have h2:h<0:=by omega
  clear h0
  go_enter Try.func65,Try.ntmps65
  go_wp2
  go_ret
  exact⟨rfl,rfl⟩
theorem right_any (h:Int) (w:World):
  Calls Try.prog 65 #[.int .i64 h] w fun e w'=>e= .returned (.bool (decide (0≤h∧h≤2147483647)))∧w'=w:=by
 by_cases h0:0≤h∧h≤2147483647
 ·rw[decide_eq_true h0];exact right_yes h w h0.1 h0.2
 ·rw[decide_eq_false h0];exact right_no h w h0
theorem recordAt_any (r:Int) (w:World) (h0:0≤r) (h1:r≤1000000):
  Calls Try.prog 87 #[.int .i64 r] w fun e w'=>e= .returned (.int .i64 (recAt r.toNat:Nat))∧w'=w:=by
 go_enter Try.func87,Try.ntmps87
 go_wp2
 go_ret
 exact⟨ret_int (by unfold recAt;omega),rfl⟩
theorem headAt_any (r:Int) (w:World) (h0:0≤r) (h1:r≤1000000):
  Calls Try.prog 89 #[.int .i64 r] w fun e w'=>e= .returned (.int .i64 (headAt r.toNat:Nat))∧w'=w:=by
 go_enter Try.func89,Try.ntmps89
 go_wp2
 go_ret
 exact⟨ret_int (by unfold headAt;omega),rfl⟩
theorem log2_le_iff (b k:Nat) (h0:b≠0):2^k≤b↔k≤Nat.log2 b:=(Nat.le_log2 h0).symm
theorem power_any (b:Int) (w:World) (h0:1≤b) (h1:b≤1000000):
  Calls Try.prog 98 #[.int .i64 b] w fun e w'=>e= .returned (.int .i64 (pow2 b.toNat:Nat))∧w'=w:=by
 go_enter Try.func98,Try.ntmps98
 go_wp2
 go_loop [3] (fun p=>∃k:Nat,p= .int .i64 ((2^k:Nat):Int)∧Hid (k≤Nat.log2 b.toNat)) (fun p=>(b-intOf p).toNat)
 case atStart=>exact⟨0,rfl,Nat.zero_le _⟩
 case round=>
  obtain⟨k,rfl,hk⟩:=hrel
  have hb:b.toNat≠0:=by omega
  have h2:2^k≤b.toNat:=(log2_le_iff _ _ hb).2 hk
  have h3:0<2^k:=Nat.two_pow_pos k
  have HS:Hid (2^(k+1)=2*2^k):=by show 2^(k+1)=2*2^k;rw[Nat.pow_succ];omega
  have HK:Hid (2^(k+1)≤b.toNat↔k+1≤Nat.log2 b.toNat):=log2_le_iff _ _ hb
  clear hb
  generalize hp:2^k=p at*
  have HP:Hid (2^k=p):=hp
  clear hp
  have h4:(p:Int)≤1000000:=by omega
  by_cases hc:2*(p:Int)≤b
  ·go_wp2
   go_round
   case rel=>exact⟨k+1,by rw[HS.out];simp,HK.out.1 (by rw[HS.out];omega)⟩
   case measure=>simp[intOf];omega
  ·go_wp2
   go_ret
   refine⟨ret_int ?_,rfl⟩
   unfold pow2
   have:Nat.log2 b.toNat=k:=by
    have a:=hk.out
    by_cases e:k+1≤Nat.log2 b.toNat
    ·have:=HK.out.2 e;rw[HS.out]at this;omega
    ·omega
   rw[this,HP.out]
theorem pow2_pos (b:Nat):0<pow2 b:=Nat.two_pow_pos _
theorem pow2_le {b:Nat} (h:b≠0):pow2 b≤b:=Nat.log2_self_le h
theorem lt_2pow2 (b:Nat):b<2*pow2 b:=by unfold pow2;have:=@Nat.lt_log2_self b;rw[Nat.pow_succ]at this;omega
theorem bucket_any (h b:Int) (w:World) (h0:0≤h) (h1:h≤4294967296) (b0:1≤b) (b1:b≤1000000):
  Calls Try.prog 66 #[.int .i64 h,.int .i64 b] w fun e w'=>e= .returned (.int .i64 (bkt h.toNat b.toNat:Nat))∧w'=w:=by
 have p0:=pow2_pos b.toNat
 have p1:pow2 b.toNat≤b.toNat:=pow2_le (by omega)
 by_cases hc:h.toNat%(2*pow2 b.toNat)<b.toNat
 ·have HB:Hid (bkt h.toNat b.toNat=h.toNat%(2*pow2 b.toNat)):=by show _=_;unfold bkt;rw[if_pos hc]
  have hh:=Nat.mod_lt h.toNat (show 0<2*pow2 b.toNat by omega)
  generalize hp:pow2 b.toNat=p at*
  have HP:Hid (pow2 b.toNat=p):=hp
  clear hp
  have hc':h%(2*(p:Int))<b:=by
   have e:((h.toNat%(2*p):Nat):Int)=h%(2*(p:Int)):=by rw[Int.natCast_emod];congr 1;omega
   omega
  clear hc hh
  go_enter Try.func66,Try.ntmps66
  go_wp2_with (go_at_call 98;refine(power_any b w b0 b1).mono ?_;rintro e w1 ⟨rfl,rfl⟩;rw[HP.out])
  go_ret
  exact⟨ret_int (by rw[HB.out];rw[Int.natCast_emod];congr 1;omega),rfl⟩
 ·have HB:Hid (bkt h.toNat b.toNat=h.toNat%pow2 b.toNat):=by show _=_;unfold bkt;rw[if_neg hc]
  generalize hp:pow2 b.toNat=p at*
  have HP:Hid (pow2 b.toNat=p):=hp
  clear hp
  have hc':b≤h%(2*(p:Int)):=by
   have e:((h.toNat%(2*p):Nat):Int)=h%(2*(p:Int)):=by rw[Int.natCast_emod];congr 1;omega
   omega
  clear hc
  go_enter Try.func66,Try.ntmps66
  go_wp2_with (go_at_call 98;refine(power_any b w b0 b1).mono ?_;rintro e w1 ⟨rfl,rfl⟩;rw[HP.out])
  go_ret
  exact⟨ret_int (by rw[HB.out];rw[Int.natCast_emod];congr 1;omega),rfl⟩
set_option maxHeartbeats 400000 in
theorem hash_any (w:World) (p b off cap:Nat) (l:List Int) (hT:TblR w p b off cap l) (r:Int) (h0:0≤r) (h1:r<l.length):
  Calls Try.prog 74 #[.agg #[.pointer (some ⟨p,0,none⟩),.int .i64 r]] w fun e w'=>e= .returned (.int .i64 (ati l r.toNat))∧Below w.heap.size w w':=by
 have hp:=hT.head
 have hc:=hT.cells r.toNat (by omega)
 have bp:=lt_cell hp
 have bb:=hT.lt
 go_enter Try.func74,Try.ntmps74
 go_wp2
 go_quiet (fail)
 go_wp2
 go_ret
 exact⟨rfl,below_drewN ((Below.refl _ _).alloc (Nat.le_refl _) _)⟩
set_option maxHeartbeats 400000 in
theorem word_any (w:World) (p b off cap:Nat) (l:List Int) (hT:TblR w p b off cap l) (r:Int) (h0:0≤r) (h1:r+1<l.length) (h2:r<100000000):
  Calls Try.prog 75 #[.agg #[.pointer (some ⟨p,0,none⟩),.int .i64 r]] w fun e w'=>e= .returned (.int .i64 (ati l (r.toNat+1)))∧Below w.heap.size w w':=by
 have hp:=hT.head
 have hc:=hT.cells (r.toNat+1) (by omega)
 rw[show off+(r.toNat+1)=off+(r+1).toNat by omega]at hc
 have bp:=lt_cell hp
 have bb:=hT.lt
 have h3:0≤r+1:=by omega
 have hs:IntKind.i64.wrap (r+1)=r+1:=IntWalk.i64_in _ (by omega)
 go_enter Try.func75,Try.ntmps75
 go_wp2
 go_quiet (fail)
 clear hs
 go_wp2
 go_ret
 exact⟨rfl,below_drewN ((Below.refl _ _).alloc (Nat.le_refl _) _)⟩
set_option maxHeartbeats 800000 in
theorem elem_any (w:World) (p b off cap:Nat) (l:List Int) (hT:TblR w p b off cap l) (r:Int) (h0:0≤r) (h1:r+1<l.length) (h2:r<100000000):
  Calls Try.prog 77 #[.agg #[.pointer (some ⟨p,0,none⟩),.int .i64 r]] w fun e w'=>e= .returned (.agg #[.int .i64 (ati l r.toNat),.int .i64 (ati l (r.toNat+1))])∧Below w.heap.size w w':=by
 go_enter Try.func77,Try.ntmps77
 go_wp2
 have hT2:=(hT.alloc (Obj.cells #[Value.pointer (some { block:=p,off:=0 }),Value.int IntKind.i64 r] 102)).alloc (Obj.cells #[Value.int IntKind.i64 0,Value.int IntKind.i64 0] 43) |>.drew
 go_region_with (first |(go_at_call 74;refine(hash_any _ p b off cap l hT2 r h0 (by omega)).mono ?_;rintro e w1 ⟨rfl,hb1⟩;have hT3:=hT2.below hb1;obtain⟨hc1,hf1⟩:=bcell hb1;have hz1:w.heap.size+1<w1.heap.size:=by { have:=hb1.size;simp at this;omega };have hz1':w.heap.size<w1.heap.size:=by omega) |(go_at_call 75;refine(word_any _ p b off cap l hT3 r h0 (by omega) h2).mono ?_;rintro e w2 ⟨rfl,hb2⟩;obtain⟨hc2,hf2⟩:=bcell hb2;have hz2:w.heap.size+1<w2.heap.size:=by { have:=hb2.size;omega }))
 all_goals
  go_wp2
  refine bodyPost_ret (v:=.agg #[.int .i64 (ati l r.toNat),.int .i64 (ati l (r.toNat+1))]) (by have e1:w2.cell? ⟨w.heap.size+1,0,none⟩=some (.int .i64 0):=by { rw[hc2 _ _ hz1,hc1 _ _ (by simp)];simp };have e2:w2.cell? ⟨w.heap.size+1,1,none⟩=some (.int .i64 0):=by { rw[hc2 _ _ hz1,hc1 _ _ (by simp)];simp };simp[results,Try.results77,go_sem,e1,e2]) rfl ⟨rfl,?_⟩
  exact((Below.trans (((Below.refl _ _).alloc (Nat.le_refl _) _).alloc (by simp) _).drew ((hb1.mono (by simp;omega)).trans (hb2.mono (by omega)))).setCell (by simp) _).setCell (by simp) _
set_option maxHeartbeats 400000 in
theorem record_any (p:Nat) (r:Int) (w:World) (h0:0≤r) (h1:r≤1000000):
  Calls Try.prog 73 #[.pointer (some ⟨p,0,none⟩),.int .i64 r] w fun e w'=>e= .returned (.agg #[.pointer (some ⟨p,0,none⟩),.int .i64 (recAt r.toNat:Nat)])∧Below w.heap.size w w':=by
 go_enter Try.func73,Try.ntmps73
 go_wp2_with (go_at_call 87;refine(recordAt_any r _ h0 h1).mono ?_;rintro e w1 ⟨rfl,rfl⟩)
 refine bodyPost_ret (v:=.agg #[.pointer (some ⟨p,0,none⟩),.int .i64 (recAt r.toNat:Nat)]) (by simp[results,Try.results73,go_sem]) rfl ⟨rfl,?_⟩
 go_grown
theorem count_any (w:World) (p b off cap:Nat) (l:List Int) (hT:TblR w p b off cap l) (h1:0<l.length):
  Calls Try.prog 88 #[.pointer (some ⟨p,0,none⟩)] w fun e w'=>e= .returned (.int .i64 (ati l 0))∧w'=w:=by
 have hp:=hT.head
 have hc:=hT.cells 0 h1
 rw[Nat.add_zero]at hc
 go_enter Try.func88,Try.ntmps88
 go_wp2
 go_ret
 exact⟨rfl,rfl⟩
end Go.Proofs.Ytdcomhdadnhpnaa
end
section
namespace Go.Proofs.Ytdcomhdadnhpnaa
open Go.RowKit Go.Shelf
attribute [local go_sem] Oper.semAt_some
def Keep (s:Nat→Prop) (A B:World):Prop:=∀k o,s k→A.heap[k]? =some o→o.isCells=true→B.heap[k]? =some o
theorem Keep.trans {s:Nat→Prop} {A B C:World} (h:Keep s A B) (k:Keep s B C):Keep s A C:=fun i o hs hi ho=>k i o hs (h i o hs hi ho) ho
theorem Keep.putObj {s:Nat→Prop} (W:World) (l:Nat) (o o':Obj) (h:W.heap[l]? =some o) (hc:o.isCells=false):Keep s W (W.putObj l o'):=fun k o1 _ hk ho=>by
 have hne:k≠l:=by rintro rfl;rw[h]at hk;cases hk;rw[hc]at ho;cases ho
 exact(World.putObj_heap_other hne).trans hk
theorem isCells_of_cell {w:World} {b o:Nat} {v:Value} (h:w.cell? ⟨b,o,none⟩=some v):∃c t f,w.heap[b]? =some (.cells c t f):=by
 unfold World.cell? at h
 split at h
 ·rename_i c t f hh;exact⟨c,t,f,hh⟩
 ·cases h
theorem Keep.cell {s:Nat→Prop} {A B:World} (h:Keep s A B) {b o:Nat} {v:Value} (hs:s b) (hc:A.cell? ⟨b,o,none⟩=some v):B.cell? ⟨b,o,none⟩=some v:=by
 obtain⟨c,t,f,hh⟩:=isCells_of_cell hc
 have:=h b _ hs hh rfl
 rw[cell_of_heap this];rw[cell_of_heap hh]at hc;exact hc
theorem TblR.keep {s:Nat→Prop} {A B:World} {p b off cap:Nat} {l:List Int} (h:TblR A p b off cap l) (hk:Keep s A B) (hp:s p) (hb:s b) (h0:0<l.length):TblR B p b off cap l:=by
 refine⟨hk.cell hp h.head,fun i hi=>hk.cell hb (h.cells i hi),lt_cell (hk.cell hb (h.cells 0 h0))⟩
inductive Chn (l:List Int):Nat→List (Nat×Nat)→Prop
 |nil (f:Nat) (hf:f<l.length) (h:ati l f=0):Chn l f []
 |cons (f r:Nat) (rest:List (Nat×Nat)) (hf:f<l.length) (h:ati l f=(r:Int)+1) (hr:r≤100000) (k:Chn l (recAt r+2) rest):Chn l f ((r,f)::rest)
theorem Chn.uniq {l:List Int} {f:Nat} {c d:List (Nat×Nat)} (h:Chn l f c) (k:Chn l f d):c=d:=by
 induction h generalizing d with
 |nil f hf h=>
  cases k with
  |nil=>rfl
  |cons _ r rest _ h' _ _=>omega
 |cons f r rest hf h hr k ih=>
  cases k with
  |nil _ _ h'=>omega
  |cons _ r' rest' _ h' _ k'=>
   obtain rfl:r=r':=by omega
   rw[ih k']
open Classical in
noncomputable def chnLen (l:List Int) (f:Nat):Nat:=if h:∃c,Chn l f c then h.choose.length else 0
theorem Chn.len {l:List Int} {f:Nat} {c:List (Nat×Nat)} (h:Chn l f c):chnLen l f=c.length:=by
 unfold chnLen
 have hx:∃c,Chn l f c:=⟨c,h⟩
 rw[dif_pos hx,Chn.uniq hx.choose_spec h]
def encRF (x:Nat×Nat):Array Value:=#[.int .i64 (x.1:Nat),.int .i64 (x.2:Nat)]
def ownC (p b bt bi:Nat) (k:Nat):Prop:=k=p∨k=b∨k=bt∨k=bi
set_option maxHeartbeats 1600000 in
theorem chain1_in {α:Type} (g:α→Nat×Nat) (n:Nat) (hn:1≤n) (L p b off cap bt bi i:Nat) (l:List Int) (ch:List α) (hi:i≤1000000) (hl:l.length≤100000000) (h4:4≤l.length)
  (J Jx:List α→World→Prop)
  (hY:∀pre x W,J pre W→pre.length<ch.length→YieldAt Fence.wide (n-1) Try.prog L (encRF (g x)) W fun e W'=>
   (e= .returned (.bool true)∧J (pre++[x]) W'∧Keep (ownC p b bt bi) W W')∨(e= .returned (.bool false)∧Jx (pre++[x]) W'))
  (W:World) (hT:TblR W p b off cap l) (hbt:W.cell? ⟨bt,0,none⟩=some (.pointer (some ⟨p,0,none⟩))) (hbi:W.cell? ⟨bi,0,none⟩=some (.int .i64 i)) (hch:Chn l (headAt i) (ch.map g)) (h0:J [] W):
  CallsIn Fence.wide n Try.prog 102 #[.func (.yield L) #[] #[],.pointer (some ⟨bi,0,none⟩),.pointer (some ⟨bt,0,none⟩)] W fun e W'=>(∃v,e= .returned v)∧
   ((∃ ys,ys=ch∧J ys W')∨(∃pre,pre <+: ch∧Jx pre W')):=by
 refine callsIn_of_wp Try.func102 rfl trivial ?_ rfl
 simp only[Try.ntmps102,List.size_toArray,List.length_cons,List.length_nil,Nat.reduceAdd,Nat.reduceSub,Array.replicate_succ,Array.replicate_zero,List.push_toArray,List.append_toArray,List.nil_append,List.cons_append]
 gi_wp2_with fail
 refine⟨trivial,?_⟩
 refine(callsIn_wide.2 (headAt_any i W (by omega) (by omega))).mono ?_
 rintro e w1 ⟨rfl,rfl⟩
 rw[Int.toNat_natCast]
 gi_wp2_with fail
 gi_loopw [4] (fun f wr=>∃(pre rest:List α) (q:Nat),f= .int .i64 (q:Nat)∧Hid (ch=pre++rest)∧Chn l q (rest.map g)∧J pre wr∧TblR wr p b off cap l∧wr.cell? ⟨bt,0,none⟩=some (.pointer (some ⟨p,0,none⟩))∧wr.cell? ⟨bi,0,none⟩=some (.int .i64 i))
  (fun f _=>chnLen l (intOf f).toNat)
 case atStart=>exact⟨[],ch,headAt i,rfl,rfl,hch,h0,hT,hbt,hbi⟩
 case round=>
  obtain⟨pre,rest,q,rfl,hx,hc,hJ,hTr,hbt',hbi'⟩:=hrel
  have hp:=hTr.head
  cases rest with
  |nil=>
   obtain⟨hf,hz⟩:q<l.length∧ati l q=0:=by cases hc with |nil _ hf hz=>exact⟨hf,hz⟩
   have hcq:=hTr.cells q hf
   rw[hz]at hcq
   clear hbt hbi hT hz
   gi_wp2
   go_end0
   exact⟨⟨_,rfl⟩,.inl ⟨pre,by rw[hx.out,List.append_nil],hJ⟩⟩
  |cons y rest'=>
   rw[List.map_cons]at hc
   have hcc:=hc
   obtain⟨r,hgy,hf,hv,hr,hk⟩:∃r,g y=(r,q)∧q<l.length∧ati l q=(r:Int)+1∧r≤100000∧Chn l (recAt r+2) (rest'.map g):=by
    generalize g y=z at hc
    cases hc with |cons _ r _ hf hv hr hk=>exact⟨r,rfl,hf,hv,hr,hk⟩
   have hcq:=hTr.cells q hf
   rw[hv]at hcq
   clear hbt hbi hT hc
   obtain⟨fn,tmps,assign,body,hy,hR⟩:=hY pre y wr hJ (by rw[hx.out];simp)
   rw[hgy]at hy
   have HG:=Lib.hid hgy
   have HV:=Lib.hid hv
   clear hgy hv
   dsimp only[encRF]at hy
   gi_wp2
   refine hR.mono ?_
   rintro e W3 (⟨rfl,hJ3,hk3⟩ |⟨rfl,hJx3⟩)
   ·have hT3:=hTr.keep hk3 (.inl rfl) (.inr (.inl rfl)) (by omega)
    have hp3:=hT3.head
    have hc3:=hT3.cells q hf
    rw[HV.out]at hc3
    have hbt3:=hk3.cell (.inr (.inr (.inl rfl))) hbt'
    have hbi3:=hk3.cell (.inr (.inr (.inr rfl))) hbi'
    clear hp hcq hbt' hbi' hy
    gi_wp2_with fail
    refine⟨trivial,?_⟩
    refine(callsIn_wide.2 (recordAt_any r W3 (by omega) (by omega))).mono ?_
    rintro e w4 ⟨rfl,rfl⟩
    rw[Int.toNat_natCast]
    have hrr:recAt r≤1000000:=by unfold recAt;omega
    gi_wp2
    go_roundw
    case rel=>exact⟨pre++[y],rest',recAt r+2,by go_num,by show _=_;rw[hx.out];simp,hk,hJ3,hT3,hbt3,hbi3⟩
    case measure=>
     have hq:=hcc.len
     simp only[intOf]
     rw[show((recAt r:Nat)+2:Int).toNat=recAt r+2 by omega,Int.toNat_natCast,hk.len,hq]
     simp
   ·gi_wp2
    refine bodyPost_ret (results_none rfl _ _ _) rfl ?_
    exact⟨⟨_,rfl⟩,.inr ⟨pre++[y],⟨rest',by rw[hx.out];simp⟩,hJx3⟩⟩
theorem chain_any (p i:Nat) (w:World):
  Calls Try.prog 72 #[.pointer (some ⟨p,0,none⟩),.int .i64 i] w fun e w'=>e= .returned (.func (.func 102) #[] #[.pointer (some ⟨w.heap.size+1,0,none⟩),.pointer (some ⟨w.heap.size,0,none⟩)])∧w'=(w.alloc (.cells #[.pointer (some ⟨p,0,none⟩)] 92)).alloc (.cells #[.int .i64 i] 3):=by
 have hmf:∀(fn:Fn) (first cap:Array Value) (w:World),(Instr.makeFunc fn first cap).run Try.prog w= .ok (.func fn first cap) w:=fun _ _ _ _=>rfl
 go_enter Try.func72,Try.ntmps72
 go_wp2
 go_ret
 exact⟨rfl,rfl⟩
theorem chain_stops {α:Type} (g:α→Nat×Nat) (n:Nat) (hn:1≤n) (p b off cap bt bi i:Nat) (l:List Int) (ch:List α) (hi:i≤1000000) (hl:l.length≤100000000) (h4:4≤l.length) (w:World)
  (hT:TblR w p b off cap l) (hbt:w.cell? ⟨bt,0,none⟩=some (.pointer (some ⟨p,0,none⟩))) (hbi:w.cell? ⟨bi,0,none⟩=some (.int .i64 i)) (hch:Chn l (headAt i) (ch.map g)):
  SeqStopsK Fence.wide n Try.prog 102 #[.pointer (some ⟨bi,0,none⟩),.pointer (some ⟨bt,0,none⟩)] (fun x=>encRF (g x)) (Keep (ownC p b bt bi)) (fun xs=>xs=ch) (fun pre=>pre <+: ch) ch.length w:=
 fun L J Jx W hW _ _ hY h0=>chain1_in g n hn L p b off cap bt bi i l ch hi hl h4 J Jx hY W (hT.below hW) (cell_below hW hbt) (cell_below hW hbi) hch h0
abbrev RF (n:Nat):={ q:Nat×Nat // recAt q.1+2<n∧q.1≤100000 }
def toRF (n:Nat) (ch:List (Nat×Nat)) (h:∀q∈ch,recAt q.1+2<n∧q.1≤100000):List (RF n):=ch.attach.map fun q=>⟨q.1,h q.1 q.2⟩
theorem toRF_map (n:Nat) (ch:List (Nat×Nat)) (h:∀q∈ch,recAt q.1+2<n∧q.1≤100000):(toRF n ch h).map Subtype.val=ch:=by
 simp only[toRF,List.map_map,Function.comp_def];exact List.attach_map_subtype_val ch
end Go.Proofs.Ytdcomhdadnhpnaa
end
section
namespace Go.Proofs.Ytdcomhdadnhpnaa
open Go.RowKit Go.Shelf
attribute [local go_sem] Oper.semAt_some
theorem info3:(Try.prog.info? 3).map (fun i=>(i.zero,i.size,i.bytes))=some (some (.int .i64 0),1,8):=by kernel_rfl
theorem boxed_appended {W w1:World} {n₀ b0 B:Nat} {t e:TypeId} {size:Nat} {v v':Value} {k m:Nat} {xs ys:List Value} {tmp:Obj}
  (hv:Boxed W B t v) (hte:t≠e) (hrow:W.ownsRow b0 e size v k xs) (hb0:b0≤W.heap.size) (hn₀:n₀≤b0) (hB:n₀≤B)
  (hown':w1.ownsRow b0 e size v' m ys) (hgrow:(W.alloc tmp).grownBy w1 v.ownBlock):
  Boxed w1 B t v∧Boxed (w1.setCell ⟨B,0,none⟩ v') B t v'∧(w1.setCell ⟨B,0,none⟩ v').ownsRow b0 e size v' m ys∧KeepsOthers W (w1.setCell ⟨B,0,none⟩ v')∧Below n₀ W (w1.setCell ⟨B,0,none⟩ v')∧
   (∀k,k<b0→k≠B→(w1.setCell ⟨B,0,none⟩ v').heap[k]? =W.heap[k]?):=by
 have hv1:Boxed w1 B t v:=(hv.alloc tmp).kept hgrow (hv.not_row hte hrow)
 have hj:∀j,v.ownBlock=some j→b0≤j:=fun j ej=>(hrow.lt j ej).1
 refine⟨hv1,hv1.set v',hown'.kept (grownBy_setCell' w1 B v') (.inr (hv1.not_row hte hown').symm),?_,?_,?_⟩
 ·refine((KeepsOthers.alloc W tmp).trans (KeepsOthers.of_grownBy hgrow fun j o ej hj=>?_)).trans (KeepsOthers.setCell _ _ _)
  rcases(hrow.alloc tmp).2 with⟨rfl,_⟩ |⟨g,cap,cur,rfl,_,hgb,_⟩
  ·simp[Value.ownBlock]at ej
  ·obtain rfl:g=j:=by simpa[Value.ownBlock]using ej
   rw[hgb]at hj;cases hj;rfl
 ·exact(((Below.refl n₀ W).alloc (by omega) tmp).grown hgrow (by simp;omega) fun j ej=>by have:=hj j ej;omega).setCell (p:=⟨B,0,none⟩) hB v'
 ·intro k hk hne
  rw[Below.heap_setCell _ _ _ _ hne]
  rw[hgrow.block k (by simp;omega) (fun e=>by have:=hj k e.symm;omega)]
  exact Below.heap_alloc _ _ _ (by omega)
theorem ownsRow_lower {w:World} {b b':Nat} {e:TypeId} {size n:Nat} {v:Value} {xs:List Value} (h:w.ownsRow b e size v n xs) (hb:b'≤b):w.ownsRow b' e size v n xs:=by
 obtain⟨h1,h2⟩:=h
 refine⟨h1,?_⟩
 rcases h2 with h2 |⟨g,cap,cur,hv,hg,r⟩
 ·exact .inl h2
 ·exact .inr ⟨g,cap,cur,hv,by omega,r⟩
theorem ownFrom_size {β:Type} (B m:Nat):OwnFrom B (fun(_:β) (W:World)=>m≤W.heap.size):=fun _ _ _ _ hs hg _=>Nat.le_trans hs hg.size
theorem keep_of_same {s:Nat→Prop} {A B:World} (h:∀k,s k→B.heap[k]? =A.heap[k]?):Keep s A B:=fun k _ hs hk _=>(h k hs).trans hk
def encR (x:Nat×Nat):Value:=.int .i64 (x.1:Nat)
set_option maxRecDepth 100000 in
set_option maxHeartbeats 2000000 in
theorem all_any (p b off cap i:Nat) (l:List Int) (ch:List (Nat×Nat)) (hi:i≤1000000) (hl:l.length≤100000000) (h4:4≤l.length) (w:World)
  (hT:TblR w p b off cap l) (hch:Chn l (headAt i) ch) (hlen:ch.length≤1000000):
  Calls Try.prog 71 #[.pointer (some ⟨p,0,none⟩),.int .i64 i] w fun e W'=>∃v,e= .returned v∧W'.ownsRow w.heap.size 3 1 v ch.length (ch.map encR)∧Below w.heap.size w W':=by
 refine(callsIn_wide (n:=8)).1 ?_
 obtain⟨i0,hinf,hz0,hz1,hz2⟩:=info_parts info3
 have bp:=lt_cell hT.head
 have bb:=hT.lt
 refine callsIn_of_wp_marks Try.func71 rfl trivial ?_ rfl
 simp only[Try.ntmps71,List.size_toArray,List.length_cons,List.length_nil,Nat.reduceAdd,Nat.reduceSub,Array.replicate_succ,Array.replicate_zero,List.push_toArray,List.append_toArray,List.nil_append,List.cons_append]
 gi_wp2_with (refine⟨trivial,?_⟩;gi_at_call 72;refine(callsIn_wide.2 (chain_any p i _)).mono ?_;rintro e w' ⟨rfl,rfl⟩)
 obtain⟨n₀,hn0⟩:∃n₀,n₀=w.heap.size:=⟨_,rfl⟩
 rw[←hn0]
 obtain⟨w3,hw3⟩:∃w3,w3=((w.alloc (.cells #[.slice none 0 0] 31)).alloc (.cells #[.pointer (some ⟨p,0,none⟩)] 92)).alloc (.cells #[.int .i64 i] 3):=⟨_,rfl⟩
 rw[←hw3]
 have hB0:Below w.heap.size w w3:=by rw[hw3];exact(((Below.refl _ w).alloc (Nat.le_refl _) _).alloc (by simp) _).alloc (by simp;omega) _
 have hs3:w3.heap.size=n₀+3:=by rw[hw3,hn0];simp
 have bO:Boxed w3 n₀ 31 (.slice none 0 0):=by rw[hw3,hn0];exact((Boxed.new w 31 (.slice none 0 0)).alloc _).alloc _
 have bt:w3.cell? ⟨n₀+1,0,none⟩=some (.pointer (some ⟨p,0,none⟩)):=by
  have h:=((Boxed.new (w.alloc (.cells #[.slice none 0 0] 31)) 92 (.pointer (some ⟨p,0,none⟩))).alloc (.cells #[.int .i64 i] 3)).cell
  rw[World.size_alloc]at h;rw[hw3,hn0];exact h
 have bi:w3.cell? ⟨n₀+1+1,0,none⟩=some (.int .i64 i):=by
  have h:=(Boxed.new ((w.alloc (.cells #[.slice none 0 0] 31)).alloc (.cells #[.pointer (some ⟨p,0,none⟩)] 92)) 3 (.int .i64 i)).cell
  rw[World.size_alloc,World.size_alloc]at h;rw[hw3,hn0];exact h
 have hT3:=hT.below hB0
 have hBn:Below n₀ w w3:=by rw[hn0];exact hB0
 have bp':p<n₀:=by omega
 have bb':b<n₀:=by omega
 have HN:=Lib.hid hn0
 have hle0:n₀≤w.heap.size:=by omega
 have hle1:w.heap.size≤n₀:=by omega
 clear hw3 hn0 hB0 bp bb hT
 refine wpIn_rangeFunc_ownG (n:=8) rfl (by omega) (gf:=102) (lb:=#[.pointer (some ⟨n₀+1+1,0,none⟩),.pointer (some ⟨n₀+1,0,none⟩)]) rfl trivial (enters_of Try.func102 (by kernel_rfl) rfl)
  (chain_stops (fun x:Nat×Nat=>x) (8-1) (by omega) p b off cap (n₀+1) (n₀+1+1) i l ch hi hl h4 w3 hT3 bt bi (by simpa using hch))
  Keep.trans (fun W l o o' _ h hc _=>Keep.putObj W l o o' h hc) (Below.refl _ _) (fun _=>rfl)
  (fun pre W=>((∃ v,Boxed W n₀ 31 v∧W.ownsRow (n₀+3) 3 1 v pre.length (pre.map encR)∧True)∧Below n₀ w W)∧n₀+3≤W.heap.size)
  (fun _ _ _=>False)
  (OwnFrom.and (OwnFrom.and (Own.from (holdsRow_own (n₀+3) n₀ 31 3 1 (fun(pre:List (Nat×Nat))=>pre.length) (fun pre=>pre.map encR) (fun _ _=>True)) _) (ownFrom_below (by omega) (by omega))) (ownFrom_size _ _))
  (fun _ _ _ _ _ hs _ _=>hs)
  ⟨⟨⟨_,bO,World.ownsRow_nil _ _ _ _,trivial⟩,hBn⟩,by omega⟩
  (fun x=>{ tmps:=#[.pointer (some ⟨p,0,none⟩),.int .i64 i,undef,undef,.slice none 0 0,.pointer (some ⟨n₀,0,none⟩),.int .i64 (x.1:Nat),.pointer (some ⟨p,0,none⟩),.int .i64 i,.func (.func 102) #[] #[.pointer (some ⟨n₀+1+1,0,none⟩),.pointer (some ⟨n₀+1,0,none⟩)],.int .i64 (x.1:Nat),.int .i64 (x.2:Nat),undef,undef,undef,undef,undef],defers:=[] }) ?assign ?body ?done ?stop
 case assign=>
  intro l x W K hK
  dsimp only[encRF]
  gi_wp2
  exact hK
 case body=>
  rintro L pre x W ⟨⟨⟨v,hv,hrow,_⟩,hB⟩,hsz⟩ hlt
  have hc:=hv.cell
  gi_wp2_with (gi_at_builtin;refine wpListIn_append_own _ rfl _ _ 31 rfl (n₀+3) 3 i0 (.int .i64 0) 1 8 Try.underlying31 hinf hz0 hz1 hz2 rfl (by decide) _ _ _ rfl (hrow.alloc _) ⟨W.heap.size,0,none⟩ 1 1 [.int .i64 (x.1:Nat)] rfl rfl (cell_one_new _ _ _) (by simp[Value.oneCell']) (by unfold maxLen;omega) (by omega) (by simp;omega) ?_;intro v' w1 hown' hgrow _;obtain⟨g',cap',rfl⟩:=ownsRow_succ hown';obtain⟨hv1,hv2,hr2,hk2,hb2,hsame⟩:=boxed_appended (n₀:=n₀) hv (by decide) hrow hsz (by omega) (Nat.le_refl _) hown' hgrow;have hc1:=hv1.cell;have hf1:=hv1.frozen)
  exact⟨hk2.from _,keep_of_same (fun k hk=>hsame k (by rcases hk with rfl |rfl |rfl |rfl<;>omega) (by rcases hk with rfl |rfl |rfl |rfl<;>omega)),⟨⟨_,hv2,by simpa[encR]using hr2,trivial⟩,hB.trans hb2⟩,by have:=hb2.size;omega⟩
 case done=>
  rintro D ys W hD rfl ⟨⟨⟨v,hv,hrow,_⟩,hB⟩,hsz⟩ hK
  have hc:=hv.cell
  gi_wp2
  have hle:w.heap.size≤n₀+3:=by have:=HN.out;omega
  refine⟨by simp,.inl ⟨_,_,rfl,run_takeDeferred hK,?_⟩⟩
  exact⟨_,results_tmp rfl _ _ _,v,rfl,ownsRow_lower (ownsRow_putObj hrow _ hK rfl) hle,by rw[←HN.out];exact hB.trans (belowK_b (w:=w3) (by omega) W D _ _ hD hK rfl rfl)⟩
 case stop=>
  rintro D c pre W _ _ h _
  exact h.elim
end Go.Proofs.Ytdcomhdadnhpnaa
end
section
namespace Go.Proofs.Ytdcomhdadnhpnaa
open Go.RowKit Go.Shelf
attribute [local go_sem] Oper.semAt_some
section
open Go.Proofs.YtdcomhdadnhpnaaW.PrintWords
theorem eqA43 (d:Nat) (w:World) (x0 y0:Int) (x1 y1:Int):
  (Op.equalIn (d+2) 43 (.agg #[.int .i64 x0,.int .i64 x1]) (.agg #[.int .i64 y0,.int .i64 y1])).run Try.prog w= .ok (x0==y0&&(x1==y1)) w:=by
 refine eqA_of Try.underlying43 (by kernel_rfl) ?_
 refine eqf_cons (by rfl) (by go_simp;rfl) (by go_simp;rfl) (by go_simp) ?_
 exact eqf_last (by rfl) (by go_simp;rfl) (by go_simp;rfl) (by go_simp)
end
attribute [local go_sem high] eqA43
theorem region_still_tail {P:Program} {id:Nat} {Q:Exit→Act→World→Prop} {a:Act} {w:World} {l:List Oper} (n:Nat) (hm:P.follows .mixedOrders=true) (hB:Region.lexTailB .any l.toArray n=true)
  (h:∀w',w'=w.drew→wpStill P l.toArray w' (fun a'=>wpList P l.toArray Q (l.drop n) a' w') (l.take n) a):(Code.region id l.toArray true).wp P Q a w:=
 wp_region_still_tail n hm hB (h _ rfl)
theorem region_still {P:Program} {id:Nat} {Q:Exit→Act→World→Prop} {a:Act} {w:World} {l:List Oper} (hm:P.follows .mixedOrders=true) (hB:Region.lexB .any l.toArray=true)
  (h:∀w',w'=w.drew→wpStill P l.toArray w' (fun a'=>Q .normal a' w') l a):(Code.region id l.toArray true).wp P Q a w:=
 wp_region_still_lit hm hB (h _ rfl)
structure Fresh (w0:World) (n:Nat) (os:List Obj) (w:World):Prop where
 size:w.heap.size=n+os.length
 blks:∀j o,os[j]? =some o→w.heap[n+j]? =some o
 below:Below n w0 w
theorem Fresh.start (w:World):Fresh w w.heap.size [] w:=⟨by simp,fun j o h=>by simp at h,Below.refl _ _⟩
theorem Fresh.alloc {w0 w:World} {n:Nat} {os:List Obj} (h:Fresh w0 n os w) (o:Obj):Fresh w0 n (os++[o]) (w.alloc o):=by
 refine⟨by rw[World.size_alloc,h.size];simp;omega,fun j o' hj=>?_,h.below.alloc (by rw[h.size];omega) o⟩
 rcases Nat.lt_trichotomy j os.length with hlt |heq |hgt
 ·rw[Below.heap_alloc _ _ _ (by rw[h.size];omega)]
  exact h.blks j o' (by rw[List.getElem?_append_left hlt]at hj;exact hj)
 ·subst heq
  rw[←h.size]
  simp at hj
  subst hj
  exact World.alloc_heap_new w _
 ·rw[List.getElem?_eq_none (by simp;omega)]at hj;cases hj
theorem Fresh.drew {w0 w:World} {n:Nat} {os:List Obj} (h:Fresh w0 n os w):Fresh w0 n os w.drew:=⟨h.size,h.blks,h.below.drew⟩
def findC (l:List Int) (h x:Int):List (Nat×Nat)→Nat→Int×Int×Int
 | [],k=>(-1,0,k)
 |(r,f)::rest,k=>if ati l (recAt r)=h∧ati l (recAt r+1)=x then(r,f,(k:Int)+1)else findC l h x rest (k+1)
def hits (l:List Int) (h x:Int) (r:Nat):Prop:=ati l (recAt r)=h∧ati l (recAt r+1)=x
theorem bkt_lt (h:Nat) {b:Nat} (hb:0<b):bkt h b<b:=by
 unfold bkt
 split
 ·assumption
 ·exact Nat.lt_of_lt_of_le (Nat.mod_lt _ (pow2_pos b)) (pow2_le (by omega))
theorem findC_none {l:List Int} {h x:Int}:∀(ch:List (Nat×Nat)) (k:Nat),(∀q∈ch,¬hits l h x q.1)→findC l h x ch k=(-1,0,((k+ch.length:Nat):Int))
 | [],k,_=>by simp[findC]
 |(r,f)::rest,k,hn=>by
  rw[findC,if_neg (show ¬(_∧_)from hn (r,f) (by simp)),findC_none rest (k+1) (fun q hq=>hn q (by simp[hq]))]
  simp;omega
theorem findC_some {l:List Int} {h x:Int} {r f:Nat} {rest:List (Nat×Nat)} (hr:hits l h x r):∀(pre:List (Nat×Nat)) (k:Nat),(∀q∈pre,¬hits l h x q.1)→findC l h x (pre++(r,f)::rest) k=((r:Int),(f:Int),((k+pre.length+1:Nat):Int))
 | [],k,_=>by rw[List.nil_append,findC,if_pos (show _∧_ from hr)];simp
 |(r',f')::pre,k,hn=>by
  rw[List.cons_append,findC,if_neg (show ¬(_∧_)from hn (r',f') (by simp)),findC_some hr pre (k+1) (fun q hq=>hn q (by simp[hq]))]
  simp;omega
theorem TblR.other {w:World} {p b off cap:Nat} {l:List Int} (h:TblR w p b off cap l) {c:Addr} (u:Value) (h1:p≠c.block) (h2:b≠c.block):TblR (w.setCell c u) p b off cap l:=
 ⟨(World.cell?_of_block (a:=⟨p,0,none⟩) (Below.heap_setCell w c u p h1)).trans h.head,fun i hi=>(World.cell?_of_block (a:=⟨b,off+i,none⟩) (Below.heap_setCell w c u b h2)).trans (h.cells i hi),by simpa[World.setCell]using h.lt⟩
theorem keepsOthers_of_below {W V:World} (h:Below W.heap.size W V):KeepsOthers W V:=⟨h.size,fun k _ hk _=>(h.block k (lt_heap hk)).trans hk⟩
theorem boxed_below {W V:World} {B:Nat} {t:TypeId} {v:Value} (hv:Boxed W B t v) (h:Below W.heap.size W V):Boxed V B t v:=(h.block B hv.lt).trans hv
theorem keep_of_own {W W':World} {row:Option Nat} {B:Nat} (hg:W.grownBy W' row) (hr:∀r,row=some r→B≤r∧∃o:Obj,W.heap[r]? =some o∧o.isCells=false):Keep (fun _=>True) W W':=fun k o _ hk ho=>by
 rw[hg.block k (lt_heap hk) (fun e=>by obtain⟨_,o',h1,h2⟩:=hr k e.symm;rw[hk]at h1;cases h1;rw[ho]at h2;cases h2)]
 exact hk
set_option maxRecDepth 100000 in
set_option maxHeartbeats 2000000 in
theorem find_any (p b off cap:Nat) (h x:Int) (l:List Int) (ch:List (Nat×Nat)) (hl:l.length≤100000000) (h4:4≤l.length) (w:World) (hh0:0≤h) (hh1:h≤4294967296)
  (hT:TblR w p b off cap l) (hb0:1≤ati l 1) (hb1:ati l 1≤1000000) (hch:Chn l (headAt (bkt h.toNat (ati l 1).toNat)) ch) (hrec:∀q∈ch,recAt q.1+2<l.length∧q.1≤100000) (hlen:ch.length≤1000000):
  Calls Try.prog 86 #[.pointer (some ⟨p,0,none⟩),.agg #[.int .i64 h,.int .i64 x]] w fun e W'=>e= .returned (.tuple #[.int .i64 (findC l h x ch 0).1,.int .i64 (findC l h x ch 0).2.1,.int .i64 (findC l h x ch 0).2.2])∧Below w.heap.size w W':=by
 refine(callsIn_wide (n:=8)).1 ?_
 have hp:=hT.head
 have hc1:=hT.cells 1 (by omega)
 have bp:=lt_cell hp
 have bb:=hT.lt
 refine callsIn_of_wp_marks Try.func86 rfl trivial ?_ rfl
 simp only[Try.ntmps86,List.size_toArray,List.length_cons,List.length_nil,Nat.reduceAdd,Nat.reduceSub,Array.replicate_succ,Array.replicate_zero,List.push_toArray,List.append_toArray,List.nil_append,List.cons_append]
 refine wpIn_wide.2 ?_
 go_wp2
 obtain⟨n₀,hn0⟩:∃n₀,n₀=w.heap.size:=⟨_,rfl⟩
 refine region_still_tail 10 (by kernel_rfl) (by kernel_rfl) (fun w7 hw7=>?_)
 rw[←hn0]
 have hF:Fresh w n₀ [.cells #[.pointer (some ⟨p,0,none⟩)] 92,.cells #[.int .i64 h,.int .i64 x] 43,.cells #[.int .i64 0] 3,.cells #[.int .i64 0] 3,.cells #[.int .i64 0] 3,.cells #[.int .i64 0] 3] w7:=by
  rw[hw7,hn0];exact((((((Fresh.start w).alloc _).alloc _).alloc _).alloc _).alloc _).alloc _ |>.drew
 have hs7:w7.heap.size=n₀+6:=hF.size
 have hBn:=hF.below
 have hT7:TblR w7 p b off cap l:=hT.below (by rw[←hn0];exact hBn)
 have bt:Boxed w7 n₀ 92 (.pointer (some ⟨p,0,none⟩)):=hF.blks 0 _ rfl
 have bx:w7.heap[n₀+1]? =some (.cells #[.int .i64 h,.int .i64 x] 43):=hF.blks 1 _ rfl
 have r0:Boxed w7 (n₀+1+1) 3 (.int .i64 0):=hF.blks 2 _ rfl
 have r1:Boxed w7 (n₀+1+1+1) 3 (.int .i64 0):=hF.blks 3 _ rfl
 have r2:Boxed w7 (n₀+1+1+1+1) 3 (.int .i64 0):=hF.blks 4 _ rfl
 have rl:Boxed w7 (n₀+1+1+1+1+1) 3 (.int .i64 0):=hF.blks 5 _ rfl
 have hp7:=hT7.head
 have hc7:=hT7.cells 1 (by omega)
 have ct:=bt.cell
 have cx0:w7.cell? ⟨n₀+1,0,none⟩=some (.int .i64 h):=(cell_of_heap bx).trans rfl
 have i1:(1:Int)<(l.length:Int):=by omega
 have hle0:n₀≤w.heap.size:=by omega
 have hle1:w.heap.size≤n₀:=by omega
 have bp':p<n₀:=by omega
 have bb':b<n₀:=by omega
 have HN:=Lib.hid hn0
 have HS:=Lib.hid hs7
 clear hw7 hn0 bp bb hT hp hc1 hF hs7
 simp only[List.take_succ_cons,List.take_zero,List.drop_succ_cons,List.drop_zero]
 repeat still_step
 still_call (bucket_any h (ati l 1) w7 hh0 hh1 hb0 hb1)
 refine wpStill_nil ?_
 clear i1
 go_wp2_with (go_at_call 72;refine(chain_any p _ _).mono ?_;rintro e w' ⟨rfl,rfl⟩)
 obtain⟨w9,hw9⟩:∃w9,w9=(w7.alloc (.cells #[.pointer (some ⟨p,0,none⟩)] 92)).alloc (.cells #[.int .i64 (bkt h.toNat (ati l 1).toNat:Nat)] 3):=⟨_,rfl⟩
 rw[←hw9,HS.out]
 have h79:Below w7.heap.size w7 w9:=by rw[hw9];exact((Below.refl _ _).alloc (Nat.le_refl _) _).alloc (by simp) _
 have hs9:w9.heap.size=n₀+8:=by rw[hw9];simp[HS.out]
 have bt9:Boxed w9 n₀ 92 (.pointer (some ⟨p,0,none⟩)):=by rw[hw9];exact(bt.alloc _).alloc _
 have bx9:w9.heap[n₀+1]? =some (.cells #[.int .i64 h,.int .i64 x] 43):=(h79.block _ (by have:=HS.out;omega)).trans bx
 have r09:Boxed w9 (n₀+1+1) 3 (.int .i64 0):=by rw[hw9];exact(r0.alloc _).alloc _
 have r19:Boxed w9 (n₀+1+1+1) 3 (.int .i64 0):=by rw[hw9];exact(r1.alloc _).alloc _
 have r29:Boxed w9 (n₀+1+1+1+1) 3 (.int .i64 0):=by rw[hw9];exact(r2.alloc _).alloc _
 have rl9:Boxed w9 (n₀+1+1+1+1+1) 3 (.int .i64 0):=by rw[hw9];exact(rl.alloc _).alloc _
 have bct:w9.cell? ⟨n₀+6,0,none⟩=some (.pointer (some ⟨p,0,none⟩)):=by
  have h:=((Boxed.new w7 92 (.pointer (some ⟨p,0,none⟩))).alloc (.cells #[.int .i64 (bkt h.toNat (ati l 1).toNat:Nat)] 3)).cell
  rw[HS.out]at h;rw[hw9];exact h
 have bci:w9.cell? ⟨n₀+6+1,0,none⟩=some (.int .i64 (bkt h.toNat (ati l 1).toNat:Nat)):=by
  have h:=(Boxed.new (w7.alloc (.cells #[.pointer (some ⟨p,0,none⟩)] 92)) 3 (.int .i64 (bkt h.toNat (ati l 1).toNat:Nat))).cell
  rw[World.size_alloc,HS.out]at h;rw[hw9];exact h
 have hT9:=hT7.below h79
 have hB9:Below n₀ w w9:=hBn.trans (h79.mono (by have:=HS.out;omega))
 clear hw9 h79 bt bx r0 r1 r2 rl ct cx0 hp7 hc7 hT7 hBn
 have hbk:bkt h.toNat (ati l 1).toNat≤1000000:=by have:=bkt_lt h.toNat (b:=(ati l 1).toNat) (by omega);omega
 have HS9:=Lib.hid hs9
 clear hs9
 refine(wpIn_wide (n:=8)).1 ?_
 have hmap:=toRF_map l.length ch hrec
 generalize toRF l.length ch hrec=cr at hmap
 subst hmap
 have HL:=Lib.hid hlen
 have hlen':cr.length≤1000000:=by simpa using hlen
 clear hlen hrec
 refine wpIn_rangeFunc_ownG (n:=8) rfl (by omega) (gf:=102) (lb:=#[.pointer (some ⟨n₀+6+1,0,none⟩),.pointer (some ⟨n₀+6,0,none⟩)]) rfl trivial (enters_of Try.func102 (by kernel_rfl) rfl)
  (chain_stops (α:=RF l.length) Subtype.val (8-1) (by omega) p b off cap (n₀+6) (n₀+6+1) _ l cr hbk hl h4 w9 hT9 bct bci hch)
  Keep.trans (fun W l o o' _ h hc _=>Keep.putObj W l o o' h hc) (Below.refl _ _) (fun _=>rfl)
  (fun pre W=>(Boxed W n₀ 92 (.pointer (some ⟨p,0,none⟩))∧W.heap[n₀+1]? =some (.cells #[.int .i64 h,.int .i64 x] 43)∧Boxed W (n₀+1+1) 3 (.int .i64 0)∧Boxed W (n₀+1+1+1) 3 (.int .i64 0)∧Boxed W (n₀+1+1+1+1) 3 (.int .i64 0)∧Boxed W (n₀+1+1+1+1+1) 3 (.int .i64 (pre.length:Nat))∧TblR W p b off cap l∧n₀+8≤W.heap.size∧∀q∈pre,¬hits l h x q.1.1)∧Below n₀ w W)
  (fun c pre W=>(c= .ret∧∃pre' y,pre=pre'++[y]∧(∀q∈pre',¬hits l h x q.1.1)∧hits l h x y.1.1∧Boxed W (n₀+1+1) 3 (.int .i64 (y.1.1:Nat))∧Boxed W (n₀+1+1+1) 3 (.int .i64 (y.1.2:Nat))∧Boxed W (n₀+1+1+1+1) 3 (.int .i64 (pre.length:Nat)))∧Below n₀ w W)
  ?hI ?hIx ?h0
  (fun y=>{ tmps:=#[.pointer (some ⟨p,0,none⟩),.agg #[.int .i64 h,.int .i64 x],.pointer (some ⟨n₀,0,none⟩),.pointer (some ⟨n₀+1,0,none⟩),.pointer (some ⟨n₀+1+1,0,none⟩),.pointer (some ⟨n₀+1+1+1,0,none⟩),.pointer (some ⟨n₀+1+1+1+1,0,none⟩),.pointer (some ⟨n₀+1+1+1+1+1,0,none⟩),.int .i64 (y.1.1:Nat),.int .i64 (y.1.2:Nat),.pointer (some ⟨p,0,none⟩),.pointer (some ⟨n₀+1,0,none⟩),.int .i64 h,.pointer (some ⟨p,0,none⟩),.pointer (some ⟨p,0,none⟩),.pointer (some ⟨p,0,none⟩),.slice (some ⟨b,off,none⟩) l.length cap,.pointer (some ⟨b,off+1,none⟩),.int .i64 (ati l 1),.int .i64 (bkt h.toNat (ati l 1).toNat:Nat),.func (.func 102) #[] #[.pointer (some ⟨n₀+6+1,0,none⟩),.pointer (some ⟨n₀+6,0,none⟩)],.int .i64 (y.1.1:Nat),.int .i64 (y.1.2:Nat),undef,undef,undef,undef,undef,undef,undef,undef,undef,undef,undef,undef],defers:=[] }) ?assign ?body ?done ?stop
 case hI=>
  refine OwnFrom.and (fun pre A B row hs hg hr=>?_) (ownFrom_below hle0 (by have:=HS9.out;omega))
  have hk:=keep_of_own hg hr
  obtain⟨k0,k1,k2,k3,k4,k5,k6,k7,k8⟩:=hs
  exact⟨hk _ _ trivial k0 rfl,hk _ _ trivial k1 rfl,hk _ _ trivial k2 rfl,hk _ _ trivial k3 rfl,hk _ _ trivial k4 rfl,hk _ _ trivial k5 rfl,k6.keep hk trivial trivial (by omega),Nat.le_trans k7 hg.size,k8⟩
 case hIx=>
  intro c
  refine OwnFrom.and (fun pre A B row hs hg hr=>?_) (ownFrom_below hle0 (by have:=HS9.out;omega))
  have hk:=keep_of_own hg hr
  obtain⟨k0,pre',y,k1,k2,k3,k4,k5,k6⟩:=hs
  exact⟨k0,pre',y,k1,k2,k3,hk _ _ trivial k4 rfl,hk _ _ trivial k5 rfl,hk _ _ trivial k6 rfl⟩
 case h0=>exact⟨⟨bt9,bx9,r09,r19,r29,rl9,hT9,by have:=HS9.out;omega,fun q hq=>by cases hq⟩,hB9⟩
 case assign=>
  intro L y W K hK
  dsimp only[encRF]
  gi_wp2
  exact hK
 case body=>
  rintro L pre y W ⟨⟨k0,k1,k2,k3,k4,k5,k6,k7,k8⟩,hB⟩ hlt
  have ct:=k0.cell
  have cl:=k5.cell
  have fl:=k5.frozen
  gi_wp2
  obtain⟨W1,hW1⟩:∃W1,W1=W.setCell ⟨n₀+1+1+1+1+1,0,none⟩ (.int .i64 ((pre.length:Nat)+1)):=⟨_,rfl⟩
  rw[←hW1]
  have j0:Boxed W1 n₀ 92 (.pointer (some ⟨p,0,none⟩)):=by rw[hW1];exact k0.other (by omega) _
  have j1:W1.heap[n₀+1]? =some (.cells #[.int .i64 h,.int .i64 x] 43):=by rw[hW1,Below.heap_setCell _ _ _ _ (by simp)];exact k1
  have j2:Boxed W1 (n₀+1+1) 3 (.int .i64 0):=by rw[hW1];exact k2.other (by omega) _
  have j3:Boxed W1 (n₀+1+1+1) 3 (.int .i64 0):=by rw[hW1];exact k3.other (by omega) _
  have j4:Boxed W1 (n₀+1+1+1+1) 3 (.int .i64 0):=by rw[hW1];exact k4.other (by omega) _
  have j5:Boxed W1 (n₀+1+1+1+1+1) 3 (.int .i64 ((pre.length:Nat)+1)):=by rw[hW1];exact k5.set _
  have j6:TblR W1 p b off cap l:=by rw[hW1];exact k6.other _ (by simp;omega) (by simp;omega)
  have j7:n₀+8≤W1.heap.size:=by rw[hW1];simpa[World.setCell]using k7
  have jB:Below n₀ W W1:=by rw[hW1];exact(Below.refl _ _).setCell (by simp;omega) _
  have jK:Keep (fun k=>k<n₀∨k=n₀+6∨k=n₀+6+1) W W1:=keep_of_same (fun k hk=>by rw[hW1];exact Below.heap_setCell _ _ _ _ (by simp;omega))
  have jO:KeepsOthers W W1:=by rw[hW1];exact KeepsOthers.setCell _ _ _
  clear hW1 ct cl fl k0 k1 k2 k3 k4 k5 k6
  have ct:=j0.cell
  have cx0:W1.cell? ⟨n₀+1,0,none⟩=some (.int .i64 h):=(cell_of_heap j1).trans rfl
  have cx1:W1.cell? ⟨n₀+1,1,none⟩=some (.int .i64 x):=(cell_of_heap j1).trans rfl
  have z1:n₀+1<W1.heap.size:=by omega
  have hy1:=y.2.1
  have hy2:=y.2.2
  by_cases hit:hits l h x y.1.1
  ·have he:(ati l (recAt y.1.1)==h&&ati l (recAt y.1.1+1)==x)=true:=by simp[hit.1,hit.2]
   gi_cut [30]from 25 (fun v V=>v= .bool true∧Below W1.heap.size W1 V)
   case first=>
    rename_i J K' hJ hK'
    gi_region_with (first |(refine⟨trivial,?_⟩;gi_at_call 73;refine(CallsIn.inRound L (callsIn_wide.2 (record_any p (y.1.1:Nat) _ (by omega) (by omega)))).mono ?_;rintro e V1 ⟨rfl,hb1⟩;have hT1:=j6.drew.below hb1;have cx0a:=cell_below hb1 (show W1.drew.cell? ⟨n₀+1,0,none⟩=_ from cx0);have cx1a:=cell_below hb1 (show W1.drew.cell? ⟨n₀+1,1,none⟩=_ from cx1)) |(refine⟨trivial,?_⟩;gi_at_call 77;refine(CallsIn.inRound L (callsIn_wide.2 (elem_any _ p b off cap l hT1 (recAt y.1.1:Nat) (by omega) (by omega) (by omega)))).mono ?_;rintro e V2 ⟨rfl,hb2⟩;rw[Int.toNat_natCast];have cx0b:=cell_below hb2 cx0a;have cx1b:=cell_below hb2 cx1a))
    all_goals
     refine hK' _ _ (Met.intro (hJ _ _ ?_))
     (repeat apply Exists.intro)
     refine⟨?rel,rfl⟩
     case rel=>exact⟨rfl,(Below.trans (Below.refl _ _).drew hb1).trans (hb2.mono hb1.size)⟩
   case rest=>
   obtain⟨rfl,hb12⟩:=hcut
   clear he cx0 cx1 ct
   have hz:=hb12.size
   have b2:=boxed_below j2 hb12
   have b3:=boxed_below j3 hb12
   have b4:=boxed_below j4 hb12
   have b5:=boxed_below j5 hb12
   have c2:=b2.cell
   have c3:=b3.cell
   have c4:=b4.cell
   have c5:=b5.cell
   have f2:=b2.frozen
   have f3:=b3.frozen
   have f4:=b4.frozen
   gi_wp2
   gi_region
   all_goals gi_wp2
   all_goals
    have d2:Boxed (((wc.setCell ⟨n₀+1+1,0,none⟩ (.int .i64 (y.1.1:Nat))).setCell ⟨n₀+1+1+1,0,none⟩ (.int .i64 (y.1.2:Nat))).setCell ⟨n₀+1+1+1+1,0,none⟩ (.int .i64 ((pre.length:Nat)+1))) (n₀+1+1) 3 (.int .i64 (y.1.1:Nat)):=((b2.set _).other (by omega) _).other (by omega) _
    have d3:Boxed (((wc.setCell ⟨n₀+1+1,0,none⟩ (.int .i64 (y.1.1:Nat))).setCell ⟨n₀+1+1+1,0,none⟩ (.int .i64 (y.1.2:Nat))).setCell ⟨n₀+1+1+1+1,0,none⟩ (.int .i64 ((pre.length:Nat)+1))) (n₀+1+1+1) 3 (.int .i64 (y.1.2:Nat)):=((b3.other (by omega) _).set _).other (by omega) _
    have d4:Boxed (((wc.setCell ⟨n₀+1+1,0,none⟩ (.int .i64 (y.1.1:Nat))).setCell ⟨n₀+1+1+1,0,none⟩ (.int .i64 (y.1.2:Nat))).setCell ⟨n₀+1+1+1+1,0,none⟩ (.int .i64 ((pre.length:Nat)+1))) (n₀+1+1+1+1) 3 (.int .i64 ((pre.length:Nat)+1)):=((b4.other (by omega) _).other (by omega) _).set _
    refine⟨(((((jO.trans (keepsOthers_of_below hb12)).trans (KeepsOthers.setCell _ _ _)).trans (KeepsOthers.setCell _ _ _)).trans (KeepsOthers.setCell _ _ _)).trans (KeepsOthers.drew _)).from _,⟨rfl,pre,y,rfl,k8,hit,d2,d3,by rw[show(((pre++[y]).length:Nat):Int)=(pre.length:Nat)+1 by simp];exact d4⟩,?_⟩
    exact((((((hB.trans jB).trans (hb12.mono (by omega))).setCell (by simp;omega) _).setCell (by simp;omega) _).setCell (by simp;omega) _).drew)
  ·have he:(ati l (recAt y.1.1)==h&&ati l (recAt y.1.1+1)==x)=false:=by
    cases hq:(ati l (recAt y.1.1)==h&&ati l (recAt y.1.1+1)==x)
    ·rfl
    ·exact absurd (show _∧_ by simpa using hq) hit
   gi_cut [30]from 25 (fun v V=>v= .bool false∧Below W1.heap.size W1 V)
   case first=>
    rename_i J K' hJ hK'
    gi_region_with (first |(refine⟨trivial,?_⟩;gi_at_call 73;refine(CallsIn.inRound L (callsIn_wide.2 (record_any p (y.1.1:Nat) _ (by omega) (by omega)))).mono ?_;rintro e V1 ⟨rfl,hb1⟩;have hT1:=j6.drew.below hb1;have cx0a:=cell_below hb1 (show W1.drew.cell? ⟨n₀+1,0,none⟩=_ from cx0);have cx1a:=cell_below hb1 (show W1.drew.cell? ⟨n₀+1,1,none⟩=_ from cx1)) |(refine⟨trivial,?_⟩;gi_at_call 77;refine(CallsIn.inRound L (callsIn_wide.2 (elem_any _ p b off cap l hT1 (recAt y.1.1:Nat) (by omega) (by omega) (by omega)))).mono ?_;rintro e V2 ⟨rfl,hb2⟩;rw[Int.toNat_natCast];have cx0b:=cell_below hb2 cx0a;have cx1b:=cell_below hb2 cx1a))
    all_goals
     refine hK' _ _ (Met.intro (hJ _ _ ?_))
     (repeat apply Exists.intro)
     refine⟨?rel,rfl⟩
     case rel=>exact⟨rfl,(Below.trans (Below.refl _ _).drew hb1).trans (hb2.mono hb1.size)⟩
   case rest=>
   obtain⟨rfl,hb12⟩:=hcut
   clear he cx0 cx1 ct
   have hz:=hb12.size
   gi_wp2
   refine⟨(jO.trans (keepsOthers_of_below hb12)).from _,?_,⟨boxed_below j0 hb12,(hb12.block _ (by omega)).trans j1,boxed_below j2 hb12,boxed_below j3 hb12,boxed_below j4 hb12,by have:=boxed_below j5 hb12;simpa using this,j6.below hb12,by omega,?_⟩,(hB.trans jB).trans (hb12.mono (by omega))⟩
   ·intro k o hs hk ho
    have h1:=jK k o (by rcases hs with rfl |rfl |rfl |rfl<;>omega) hk ho
    exact(hb12.block k (lt_heap h1)).trans h1
   ·intro q hq
    rcases List.mem_append.1 hq with hq |hq
    ·exact k8 q hq
    ·obtain rfl:q=y:=by simpa using hq
     exact hit
 case done=>
  rintro D ys W hD rfl ⟨⟨k0,k1,k2,k3,k4,k5,k6,k7,k8⟩,hB⟩ hK
  have hlD:n₀+8≤D:=by have:=HS9.out;omega
  have c2:=k2.cell
  have c3:=k3.cell
  have c4:=k4.cell
  have c5:=k5.cell
  have f2:=k2.frozen
  have f3:=k3.frozen
  have f4:=k4.frozen
  clear k0 k1
  go_wp2
  go_region
  all_goals go_wp2
  all_goals
   have hfin:findC l h x (ys.map Subtype.val) 0=(-1,0,((ys.length:Nat):Int)):=by
    rw[findC_none _ 0 (fun q hq=>by obtain⟨z,hz,rfl⟩:=List.mem_map.1 hq;exact k8 z hz)]
    simp
   have d2:Boxed (((W.setCell ⟨n₀+1+1,0,none⟩ (.int .i64 (-1))).setCell ⟨n₀+1+1+1,0,none⟩ (.int .i64 0)).setCell ⟨n₀+1+1+1+1,0,none⟩ (.int .i64 (ys.length:Nat))).drew (n₀+1+1) 3 (.int .i64 (-1)):=((k2.set _).other (by omega) _).other (by omega) _
   have d3:Boxed (((W.setCell ⟨n₀+1+1,0,none⟩ (.int .i64 (-1))).setCell ⟨n₀+1+1+1,0,none⟩ (.int .i64 0)).setCell ⟨n₀+1+1+1+1,0,none⟩ (.int .i64 (ys.length:Nat))).drew (n₀+1+1+1) 3 (.int .i64 0):=((k3.other (by omega) _).set _).other (by omega) _
   have d4:Boxed (((W.setCell ⟨n₀+1+1,0,none⟩ (.int .i64 (-1))).setCell ⟨n₀+1+1+1,0,none⟩ (.int .i64 0)).setCell ⟨n₀+1+1+1+1,0,none⟩ (.int .i64 (ys.length:Nat))).drew (n₀+1+1+1+1) 3 (.int .i64 (ys.length:Nat)):=((k4.other (by omega) _).other (by omega) _).set _
   have hK':(((W.setCell ⟨n₀+1+1,0,none⟩ (.int .i64 (-1))).setCell ⟨n₀+1+1+1,0,none⟩ (.int .i64 0)).setCell ⟨n₀+1+1+1+1,0,none⟩ (.int .i64 (ys.length:Nat))).drew.heap[D]? =some (.deferred (some [])):=by
    show(((W.setCell _ _).setCell _ _).setCell _ _).heap[D]? =_
    rw[Below.heap_setCell _ _ _ _ (by simp;omega),Below.heap_setCell _ _ _ _ (by simp;omega),Below.heap_setCell _ _ _ _ (by simp;omega)]
    exact hK
   have hBX:Below n₀ w (((W.setCell ⟨n₀+1+1,0,none⟩ (.int .i64 (-1))).setCell ⟨n₀+1+1+1,0,none⟩ (.int .i64 0)).setCell ⟨n₀+1+1+1+1,0,none⟩ (.int .i64 (ys.length:Nat))).drew:=(((hB.setCell (by simp;omega) _).setCell (by simp;omega) _).setCell (by simp;omega) _).drew
   generalize (((W.setCell ⟨n₀+1+1,0,none⟩ (.int .i64 (-1))).setCell ⟨n₀+1+1+1,0,none⟩ (.int .i64 0)).setCell ⟨n₀+1+1+1+1,0,none⟩ (.int .i64 (ys.length:Nat))).drew=X at*
   refine⟨by simp,.inl ⟨_,_,rfl,run_takeDeferred hK',?_⟩⟩
   have e2:(X.putObj D (.deferred none)).cell? ⟨n₀+1+1,0,none⟩=_:=(Keep.putObj (s:=fun _=>True) X D _ (.deferred none) hK' rfl).cell trivial d2.cell
   have e3:(X.putObj D (.deferred none)).cell? ⟨n₀+1+1+1,0,none⟩=_:=(Keep.putObj (s:=fun _=>True) X D _ (.deferred none) hK' rfl).cell trivial d3.cell
   have e4:(X.putObj D (.deferred none)).cell? ⟨n₀+1+1+1+1,0,none⟩=_:=(Keep.putObj (s:=fun _=>True) X D _ (.deferred none) hK' rfl).cell trivial d4.cell
   refine⟨.tuple #[.int .i64 (-1),.int .i64 0,.int .i64 (ys.length:Nat)],by simp[results,Try.results86,go_sem,e2,e3,e4],by rw[hfin],?_⟩
   rw[←HN.out]
   exact hBX.trans (belowK_b (w:=w9) (by have:=HS9.out;omega) X D _ _ hD hK' rfl rfl)
 case stop=>
  rintro D c pre W hD hpre ⟨⟨rfl,pre',y,hp',hn',hit,k2,k3,k4⟩,hB⟩ hK
  have c2:=k2.cell
  have c3:=k3.cell
  have c4:=k4.cell
  gi_wp2
  have hfin:findC l h x (cr.map Subtype.val) 0=((y.1.1:Int),(y.1.2:Int),((pre.length:Nat):Int)):=by
   obtain⟨rest,hrest⟩:=hpre
   rw[←hrest,hp']
   have:=findC_some (l:=l) (h:=h) (x:=x) (r:=y.1.1) (f:=y.1.2) (rest:=rest.map Subtype.val) hit (pre'.map Subtype.val) 0 (fun q hq=>by obtain⟨z,hz,rfl⟩:=List.mem_map.1 hq;exact hn' z hz)
   simpa using this
  refine⟨by simp,.inl ⟨_,_,rfl,run_takeDeferred hK,?_⟩⟩
  have e2:(W.putObj D (.deferred none)).cell? ⟨n₀+1+1,0,none⟩=_:=(Keep.putObj (s:=fun _=>True) W D _ (.deferred none) hK rfl).cell trivial c2
  have e3:(W.putObj D (.deferred none)).cell? ⟨n₀+1+1+1,0,none⟩=_:=(Keep.putObj (s:=fun _=>True) W D _ (.deferred none) hK rfl).cell trivial c3
  have e4:(W.putObj D (.deferred none)).cell? ⟨n₀+1+1+1+1,0,none⟩=_:=(Keep.putObj (s:=fun _=>True) W D _ (.deferred none) hK rfl).cell trivial c4
  refine⟨.tuple #[.int .i64 (y.1.1:Nat),.int .i64 (y.1.2:Nat),.int .i64 (pre.length:Nat)],by simp[results,Try.results86,go_sem,e2,e3,e4],by rw[hfin],?_⟩
  rw[←HN.out]
  exact hB.trans (belowK_b (w:=w9) (by have:=HS9.out;omega) W D _ _ hD hK rfl rfl)
end Go.Proofs.Ytdcomhdadnhpnaa
end
section
namespace Go.Proofs.Ytdcomhdadnhpnaa
open Go.RowKit Go.Shelf
def lk (s:List Int×Nat) (r:Nat):List Int×Nat:=(s.1.set s.2 ((r:Int)+1),recAt r+2)
def linkL (l:List Int) (f:Nat) (rs:List Nat):List Int:=(rs.foldl lk (l,f)).1.set (rs.foldl lk (l,f)).2 0
theorem lk_len (rs:List Nat) (s:List Int×Nat):(rs.foldl lk s).1.length=s.1.length:=by
 induction rs generalizing s with
 |nil=>rfl
 |cons r rs ih=>rw[List.foldl_cons,ih];simp[lk]
theorem lk_at {n:Nat} (rs:List Nat) (s:List Int×Nat) (hs:s.2<n) (h:∀r∈rs,recAt r+2<n):(rs.foldl lk s).2<n:=by
 induction rs generalizing s with
 |nil=>exact hs
 |cons r rs ih=>rw[List.foldl_cons];exact ih _ (h r (by simp)) (fun q hq=>h q (by simp[hq]))
theorem linkL_len (l:List Int) (f:Nat) (rs:List Nat):(linkL l f rs).length=l.length:=by simp[linkL,lk_len]
theorem take_foldl (rs:List Nat) (s:List Int×Nat) (k:Nat) (hk:k<rs.length):(rs.take (k+1)).foldl lk s=lk ((rs.take k).foldl lk s) (rs.getD k 0):=by
 have e:rs.getD k 0=rs[k]:=by simp[hk]
 rw[List.take_succ_eq_append_getElem hk,List.foldl_append,e];rfl
def encN (r:Nat):Value:=.int .i64 (r:Nat)
def natAt (rs:List Nat) (k:Nat):Nat:=rs.getD k 0
set_option maxRecDepth 100000 in
set_option maxHeartbeats 1000000 in
theorem link_some (base:Nat) (w:World) (p B cap:Nat) (l:List Int) (i:Nat) (hi:i≤1000000) (rs:List Nat) (g c:Nat) (hT:Tb base w p B cap l) (hl:l.length≤100000000)
  (hf:headAt i<l.length) (hrs:∀r∈rs,recAt r+2<l.length∧r≤1000000) (hlen:rs.length≤1000000) (hg1:g≠p) (hg2:g≠B) (hgw:g<w.heap.size) (hc:∀k,k<rs.length→w.cell? ⟨g,k,none⟩=some (.int .i64 (natAt rs k:Nat))):
  Calls Try.prog 103 #[.pointer (some ⟨p,0,none⟩),.int .i64 i,.slice (some ⟨g,0,none⟩) rs.length c] w fun e W'=>e= .returned (.tuple #[])∧Tb base W' p B cap (linkL l (headAt i) rs)∧Fr p B w W':=by
 go_enter Try.func103,Try.ntmps103
 go_wp2_with (go_at_call 89;refine(headAt_any i w (by omega) (by omega)).mono ?_;rintro e w1 ⟨rfl,rfl⟩;rw[Int.toNat_natCast])
 go_loopw [6,13] (fun f k wr=>∃(kk ff:Nat) (ll:List Int),kk≤rs.length∧k= .int .i64 (kk:Nat)∧f= .int .i64 (ff:Nat)∧Hid ((rs.take kk).foldl lk (l,headAt i)=(ll,ff))∧Tb base wr p B cap ll∧Fr p B w1 wr)
  (fun _ k _=>rs.length-(intOf k).toNat)
 case atStart=>exact⟨0,headAt i,l,Nat.zero_le _,rfl,rfl,rfl,hT,Fr.refl _ _ _⟩
 case round=>
  obtain⟨kk,ff,ll,hk,rfl,rfl,HL,hTr,hFr⟩:=hrel
  have hll:ll.length=l.length:=by have:=lk_len (rs.take kk) (l,headAt i);rw[HL.out]at this;exact this
  have hff:ff<ll.length:=by
   rw[hll]
   have:=lk_at (n:=l.length) (rs.take kk) (l,headAt i) hf (fun r hr=>(hrs r (List.mem_of_mem_take hr)).1)
   rw[HL.out]at this;exact this
  have hlb:ll.length≤100000000:=by omega
  have HLL:=Lib.hid hll
  clear hll
  have hp:=hTr.head
  have hcf:=hTr.cell ff hff
  have hfz:=hTr.frz ff
  by_cases hlt:kk<rs.length
  ·have hck:=(World.cell?_of_block (a:=⟨g,kk,none⟩) (hFr.block g hgw hg1 hg2)).trans (hc kk hlt)
   have hr:=hrs (natAt rs kk) (by have e:natAt rs kk=rs[kk]:=by { simp[natAt,hlt] };rw[e];exact List.getElem_mem _)
   have hst:=take_foldl rs (l,headAt i) kk hlt
   rw[HL.out]at hst
   have HST:=Lib.hid hst
   clear hst hc hrs hf
   have hra:=hr.1
   have hrb:=hr.2
   have hrr:recAt (natAt rs kk)≤100000000:=by omega
   go_wp2_with (go_at_call 87;refine(recordAt_any (natAt rs kk:Nat) _ (by omega) (by omega)).mono ?_;rintro e w2 ⟨rfl,rfl⟩;rw[Int.toNat_natCast])
   go_roundw
   case rel=>exact⟨kk+1,recAt (natAt rs kk)+2,ll.set ff ((natAt rs kk:Int)+1),by omega,by go_num,by go_num,HST.out,hTr.set _ _,hFr.setCell (.inr (.inl rfl)) _⟩
   case measure=>simp[intOf];omega
  ·have hkk:kk=rs.length:=by omega
   have HK:=Lib.hid hkk
   clear hkk hc
   go_wp2
   go_end0
   refine⟨rfl,?_,hFr.setCell (.inr (.inl rfl)) _⟩
   have h1:=HL.out
   rw[HK.out,List.take_length]at h1
   unfold linkL
   rw[h1]
   exact hTr.set _ _
set_option maxHeartbeats 1000000 in
theorem link_none (base:Nat) (w:World) (p B cap:Nat) (l:List Int) (i:Nat) (hi:i≤1000000) (hT:Tb base w p B cap l) (hf:headAt i<l.length):
  Calls Try.prog 103 #[.pointer (some ⟨p,0,none⟩),.int .i64 i,.slice none 0 0] w fun e W'=>e= .returned (.tuple #[])∧Tb base W' p B cap (linkL l (headAt i) [])∧Fr p B w W':=by
 go_enter Try.func103,Try.ntmps103
 go_wp2_with (go_at_call 89;refine(headAt_any i w (by omega) (by omega)).mono ?_;rintro e w1 ⟨rfl,rfl⟩;rw[Int.toNat_natCast])
 have hp:=hT.head
 have hcf:=hT.cell (headAt i) hf
 have hfz:=hT.frz (headAt i)
 refine wp_loop_rounds 1 ?_
 rw[rounds_succ]
 go_wp2
 go_end0
 exact⟨rfl,hT.set _ _,(Fr.refl p B w1).setCell (.inr (.inl rfl)) _⟩
theorem link_any (base:Nat) (w:World) (p B cap:Nat) (l:List Int) (i:Nat) (hi:i≤1000000) (rs:List Nat) (b2:Nat) (v:Value) (hT:Tb base w p B cap l) (hl:l.length≤100000000)
  (hf:headAt i<l.length) (hrs:∀r∈rs,recAt r+2<l.length∧r≤1000000) (hlen:rs.length≤1000000) (hv:w.ownsRow b2 3 1 v rs.length (rs.map encN)) (h1:some p≠v.ownBlock) (h2:some B≠v.ownBlock):
  Calls Try.prog 103 #[.pointer (some ⟨p,0,none⟩),.int .i64 i,v] w fun e W'=>e= .returned (.tuple #[])∧Tb base W' p B cap (linkL l (headAt i) rs)∧Fr p B w W':=by
 have hcs:=fun g hg=>hv.cells (g:=g) hg
 rcases hv.2 with⟨rfl,h0⟩ |⟨g,c,cur,rfl,hb,hg,hnc,hcm,hcs',htk⟩
 ·obtain rfl:rs=[]:=List.length_eq_zero_iff.1 h0
  exact link_none base w p B cap l i hi hT hf
 ·refine link_some base w p B cap l i hi rs g c hT hl hf hrs hlen (fun e=>h1 (by rw[e];rfl)) (fun e=>h2 (by rw[e];rfl)) (lt_heap hg) (fun k hk=>?_)
  have:=hcs g rfl k (encN (natAt rs k)) (by rw[List.getElem?_map];simp[natAt,hk])
  have e:(⟨g,0,none⟩:Addr).add k=⟨g,k,none⟩:=by unfold Addr.add;split<;>simp_all
  rwa[e]at this
end Go.Proofs.Ytdcomhdadnhpnaa
end
section
namespace Go.Proofs.Ytdcomhdadnhpnaa
open Go.RowKit Go.Shelf
open Go.Proofs.YtdcomhdadnhpnaaW.PrintWords (Kd)
structure Rw (base:Nat) (w:World) (B cap:Nat) (l:List Int):Prop where
 bb:base≤B
 row:∃cur,w.heap[B]? =some (.cells cur 3 (0,0))∧cur.size=cap∧cur.toList.take l.length=l.map (Value.int .i64)
 le:l.length≤cap
 capm:cap≤maxLen
theorem Tb.rw_ {base:Nat} {w:World} {p B cap:Nat} {l:List Int} (h:Tb base w p B cap l):Rw base w B cap l:=⟨h.bb,h.row,h.le,h.capm⟩
theorem Rw.own {base:Nat} {w:World} {B cap:Nat} {l:List Int} (h:Rw base w B cap l):w.ownsRow base 3 1 (.slice (some ⟨B,0,none⟩) l.length cap) l.length (l.map (Value.int .i64)):=by
 obtain⟨cur,h1,h2,h3⟩:=h.row
 exact⟨by simp,.inr ⟨B,cap,cur,rfl,h.bb,h1,h.le,h.capm,by omega,by rw[Nat.mul_one];exact h3⟩⟩
theorem Rw.kd {base:Nat} {w:World} {B cap:Nat} {l:List Int} (h:Rw base w B cap l) (ok:Nat→Prop) (hok:ok B):(Kd.int .i64).R 3 w base ok (.slice (some ⟨B,0,none⟩) l.length cap) l:=
 Kd.R_of_own h.own (fun k hk=>by cases hk;exact hok)
theorem rw_of_own {base:Nat} {w:World} {v:Value} {l:List Int} (h:w.ownsRow base 3 1 v l.length (l.map (Value.int .i64))) (hl:l≠[]):∃B cap,v= .slice (some ⟨B,0,none⟩) l.length cap∧Rw base w B cap l:=by
 rcases h.2 with⟨_,h0⟩ |⟨g,cap,cur,hv,hb,h1,h2,h3,h4,h5⟩
 ·exact absurd (List.length_eq_zero_iff.1 h0) hl
 ·exact⟨g,cap,hv,hb,⟨cur,h1,by omega,by rw[Nat.mul_one]at h5;exact h5⟩,h2,h3⟩
theorem rw_of_kd {base:Nat} {w:World} {ok:Nat→Prop} {v:Value} {l:List Int} (h:(Kd.int .i64).R 3 w base ok v l) (hl:l≠[]):∃B cap,v= .slice (some ⟨B,0,none⟩) l.length cap∧Rw base w B cap l∧ok B:=by
 obtain⟨B,cap,rfl,hr⟩:=rw_of_own (Kd.own_of_R h) hl
 exact⟨B,cap,rfl,hr,h.1 B rfl⟩
theorem Rw.take {base:Nat} {w:World} {B cap:Nat} {l:List Int} (h:Rw base w B cap l) (m:Nat):Rw base w B cap (l.take m):=by
 obtain⟨cur,h1,h2,h3⟩:=h.row
 refine⟨h.bb,⟨cur,h1,h2,?_⟩,Nat.le_trans (List.length_take_le' ..) h.le,h.capm⟩
 rw[List.length_take,List.map_take,←h3,List.take_take]
theorem Rw.other {base:Nat} {w:World} {B cap:Nat} {l:List Int} (h:Rw base w B cap l) {c:Addr} (u:Value) (h1:B≠c.block):Rw base (w.setCell c u) B cap l:=by
 obtain⟨cur,hh,r⟩:=h.row
 exact⟨h.bb,⟨cur,(Below.heap_setCell _ _ _ _ h1).trans hh,r⟩,h.le,h.capm⟩
theorem Rw.head {base:Nat} {w:World} {p B cap:Nat} {l:List Int} {v:Value} (h:Rw base w B cap l) (hp:w.heap[p]? =some (.cells #[v] 91 (0,0))) (hb:base≤p) (hne:p≠B):
  Tb base (w.setCell ⟨p,0,none⟩ (.slice (some ⟨B,0,none⟩) l.length cap)) p B cap l:=by
 have hr:=h.other (c:=⟨p,0,none⟩) (.slice (some ⟨B,0,none⟩) l.length cap) (fun e=>hne e.symm)
 exact⟨hb,h.bb,hne,Boxed.set (t:=91) _ hp,hr.row,h.le,h.capm⟩
theorem Fr.of_grown {p B:Nat} {w w':World} (h:w.grownBy w' (some B)):Fr p B w w':=⟨h.os,h.tape,h.output,h.size,fun k hk _ h2=>h.block k hk (by intro e;exact h2 (by injection e))⟩
theorem app_zeros {ops:Array Oper} {rest:List Oper} {o:Oper} {a:Act} {Q:Exit→Act→World→Prop} {W:World} (base:Nat) (hgd:o.guard=none) (s x:Operand)
  (ho:o.op= .call { callee:=.builtin .append,args:=#[s,x],argTypes:=#[31,3] }) (B cap:Nat) (l:List Int) (m:Nat) (hs:a.eval s= .slice (some ⟨B,0,none⟩) l.length cap) (hx:a.eval x= .int .i64 (m:Nat))
  (HO:Rw base W B cap l) (hb:base≤W.heap.size) (hl:l.length+m≤1000000000) (hm:0<l.length+m)
  (h:∀B' cap' w1,Rw base w1 B' cap' (l++List.replicate m 0)→W.grownBy w1 (some B)→(B'=B∨W.heap.size≤B')→wpList Try.prog ops Q rest (a.put o.dst (.slice (some ⟨B',0,none⟩) (l.length+m) cap')) w1):
  wpList Try.prog ops Q (o::rest) a W:=by
 refine Go.Proofs.YtdcomhdadnhpnaaW.PrintWords.Kd.R_append_zeros (Kd.int .i64) (w0:=W) base hgd s x 31 3 3 (.int .i64 0) 8 ho Try.underlying31 (k:=.i64) Try.underlying3 info3 rfl (by decide) (by decide) _ l 0 m (fun _=>True) hs hx rfl (fun _ _=>trivial) (HO.kd _ trivial) (by omega) (Below.refl _ _) hb (by omega) ?_
 intro v1 w1 H1 _ hg hb1
 rw[Int.toNat_natCast]at H1
 obtain⟨B',cap',rfl,hr,_⟩:=rw_of_kd H1 (by intro e;have h2:=congrArg List.length e;rw[List.length_append,List.length_replicate,List.length_nil]at h2;omega)
 have hlen:(l++List.replicate m (0:Int)).length=l.length+m:=by simp
 rw[hlen]
 refine h B' cap' w1 hr hg ?_
 rcases hb1 with e |⟨b,e,hb⟩
 ·left;simpa[Value.ownBlock]using e
 ·right;have:B'=b:=by simpa[Value.ownBlock]using e
  omega
def sizedL (l:List Int) (n:Nat):List Int:=(((((l++List.replicate (wlen n-l.length) 0).take (wlen n)).set 0 n).set 1 (bkts n)).set 2 (pow2 (bkts n):Nat))
theorem bkts_pos (n:Nat):1≤bkts n:=by unfold bkts;split<;>omega
theorem bkts_le (n:Nat) (h:n≤1000000):bkts n≤1000000:=by unfold bkts;split<;>omega
theorem wlen_ge (n:Nat):60≤wlen n:=by unfold wlen;omega
theorem wlen_le (n:Nat) (h:n≤1000000):wlen n≤100000000:=by unfold wlen;omega
set_option maxRecDepth 100000 in
set_option maxHeartbeats 2000000 in
theorem sized_any (base:Nat) (w:World) (p B cap:Nat) (l:List Int) (n:Nat) (hn:n≤1000000) (hT:Tb base w p B cap l) (hl:l.length≤100000000) (h60:60≤l.length) (hbase:base≤w.heap.size):
  Calls Try.prog 99 #[.pointer (some ⟨p,0,none⟩),.int .i64 n] w fun e W'=>e= .returned (.tuple #[])∧∃B' cap',Tb base W' p B' cap' (sizedL l n)∧Fr p B w W'∧(B'=B∨w.heap.size≤B'):=by
 have hp:=hT.head
 have hwl:=wlen_le n hn
 by_cases hm:l.length<wlen n
 ·go_enter Try.func99,Try.ntmps99
  go_wp2
  refine region_still (by kernel_rfl) (by kernel_rfl) (fun w7 hw7=>?_)
  have hT7:Tb base w7 p B cap l:=by rw[hw7];exact hT.drew
  have hp7:=hT7.head
  have hF7:Fr p B w w7:=by rw[hw7];exact(Fr.refl p B w).drew
  clear hw7 hp
  repeat still_step
  still_call (by simpa using length_any (n:Int) w7 (by omega) (by omega))
  repeat still_step
  refine wpStill_nil ?_
  have hsub:IntKind.i64.wrap ((wlen n:Int)-(l.length:Int))=((wlen n-l.length:Nat):Int):=by rw[IntWalk.i64_in _ (by omega)];omega
  rw[hsub]
  generalize hm':wlen n-l.length=m at*
  have HM:=Lib.hid hm'
  have hm0:0<m:=by omega
  have hm1:m≤100000000:=by omega
  clear hsub hm'
  have hb7:base≤w7.heap.size:=Nat.le_trans hbase hF7.size
  go_wp2_with (at_builtin;refine app_zeros base rfl _ _ rfl B cap l m rfl rfl hT7.rw_ hb7 (by omega) (by omega) ?_;intro B8 cap8 w8 hR8 hg8 hb8;have hp8:w8.heap[p]? =_:=(hg8.block p hT7.ltp (by intro e;exact hT7.ne (by injection e))).trans hT7.hp;have hp8c:=(cell_of_heap hp8 (i:=0)).trans rfl;have hp8f:=frozen_of_heap (i:=0) hp8)
  have hlen8:(l++List.replicate m (0:Int)).length=l.length+m:=by simp
  have hT9:Tb base (w8.setCell ⟨p,0,none⟩ (.slice (some ⟨B8,0,none⟩) (l.length+m) cap8)) p B8 cap8 (l++List.replicate m 0):=by
   rw[←hlen8]
   exact hR8.head hp8 hT.pb (by rcases hb8 with rfl |hb8;exact hT.ne;have:=hT7.ltp;omega)
  have hF9:Fr p B w (w8.setCell ⟨p,0,none⟩ (.slice (some ⟨B8,0,none⟩) (l.length+m) cap8)):=(hF7.trans (Fr.of_grown hg8)).setCell (.inl rfl) _
  have hBx:B8=B∨w.heap.size≤B8:=hb8.imp id (fun h=>Nat.le_trans hF7.size h)
  have hlx:wlen n≤(l++List.replicate m (0:Int)).length:=by rw[hlen8];have:=HM.out;omega
  have hfin:sizedL l n=(((((l++List.replicate m (0:Int)).take (wlen n)).set 0 n).set 1 (bkts n)).set 2 (pow2 (bkts n):Nat)):=by unfold sizedL;rw[HM.out]
  generalize w8.setCell ⟨p,0,none⟩ (.slice (some ⟨B8,0,none⟩) (l.length+m) cap8)=w9 at hT9 hF9 ⊢
  have HF:=Lib.hid hfin
  clear hfin hlen8 hR8 hp8 hp8c hp8f hT7 hF7 hp7
  generalize l++List.replicate m (0:Int)=lx at hT9 hlx HF ⊢
  generalize B8=Bx at*
  generalize cap8=capx at*
  refine region_still_tail 10 (by kernel_rfl) (by kernel_rfl) (fun wa hwa=>?_)
  have hTa:Tb base wa p Bx capx lx:=by rw[hwa];exact hT9.drew
  have hFa:Fr p B w wa:=by rw[hwa];exact hF9.drew
  have hpa:=hTa.head
  have hpf:=hTa.frzp
  have hcx:=hTa.le
  have i1:(wlen n:Int)≤(capx:Int):=by omega
  have i2:wlen n≤capx:=by omega
  clear hwa hT9 hF9
  simp only[List.take_succ_cons,List.take_zero,List.drop_succ_cons,List.drop_zero]
  repeat still_step
  still_call (by simpa using length_any (n:Int) wa (by omega) (by omega))
  repeat still_step
  refine wpStill_nil ?_
  go_wp2
  have hlt:(lx.take (wlen n)).length=wlen n:=by rw[List.length_take];omega
  have hTb:Tb base (wa.setCell ⟨p,0,none⟩ (.slice (some ⟨Bx,0,none⟩) (wlen n) capx)) p Bx capx (lx.take (wlen n)):=by
   have h:=(hTa.rw_.take (wlen n)).head hTa.hp hTa.pb hTa.ne
   rwa[hlt]at h
  have hFb:Fr p B w (wa.setCell ⟨p,0,none⟩ (.slice (some ⟨Bx,0,none⟩) (wlen n) capx)):=hFa.setCell (.inl rfl) _
  generalize wa.setCell ⟨p,0,none⟩ (.slice (some ⟨Bx,0,none⟩) (wlen n) capx)=wb at hTb hFb ⊢
  refine region_still_tail 18 (by kernel_rfl) (by kernel_rfl) (fun wc hwc=>?_)
  have hTc:Tb base wc p Bx capx (lx.take (wlen n)):=by rw[hwc];exact hTb.drew
  have hFc:Fr p B w wc:=by rw[hwc];exact hFb.drew
  have hpc:=hTc.head
  rw[hlt]at hpc
  have h60':=wlen_ge n
  have c0:=hTc.cell 0 (by omega)
  have c1:=hTc.cell 1 (by omega)
  have c2:=hTc.cell 2 (by omega)
  have f0:=hTc.frz 0
  have f1:=hTc.frz 1
  have f2:=hTc.frz 2
  have i3:(2:Int)<(wlen n:Int):=by omega
  have i4:(1:Int)<(wlen n:Int):=by omega
  have i5:(0:Int)<(wlen n:Int):=by omega
  have hb0:=bkts_pos n
  have hb1:=bkts_le n hn
  clear hpa hpf i1 i2 hTa hFa hTb hFb hwc
  simp only[List.take_succ_cons,List.take_zero,List.drop_succ_cons,List.drop_zero]
  repeat still_step
  still_call (by simpa using buckets_any (n:Int) wc (by omega) (by omega))
  repeat still_step
  still_call (by simpa using buckets_any (n:Int) wc (by omega) (by omega))
  repeat still_step
  still_call (by simpa using power_any (bkts n:Int) wc (by omega) (by omega))
  refine wpStill_nil ?_
  go_wp2
  go_end0
  refine⟨rfl,Bx,capx,?_,?_,hBx⟩
  ·rw[HF.out]
   exact((hTc.set 0 _).set 1 _).set 2 _
  ·exact(((hFc.trans' (B':=Bx) ((Fr.refl p Bx wc).setCell (.inr (.inl rfl)) _) hBx).trans' (B':=Bx) ((Fr.refl p Bx _).setCell (.inr (.inl rfl)) _) hBx).trans' (B':=Bx) ((Fr.refl p Bx _).setCell (.inr (.inl rfl)) _) hBx)
 ·go_enter Try.func99,Try.ntmps99
  go_wp2
  refine region_still (by kernel_rfl) (by kernel_rfl) (fun w7 hw7=>?_)
  have hT7:Tb base w7 p B cap l:=by rw[hw7];exact hT.drew
  have hp7:=hT7.head
  have hF7:Fr p B w w7:=by rw[hw7];exact(Fr.refl p B w).drew
  clear hw7 hp
  repeat still_step
  still_call (by simpa using length_any (n:Int) w7 (by omega) (by omega))
  repeat still_step
  refine wpStill_nil ?_
  have hsub:IntKind.i64.wrap ((wlen n:Int)-(l.length:Int))=(wlen n:Int)-(l.length:Int):=by rw[IntWalk.i64_in _ (by omega)]
  rw[hsub]
  generalize hm':(wlen n:Int)-(l.length:Int)=m at*
  have HM:=Lib.hid hm'
  have hm0:m≤0:=by omega
  clear hsub hm'
  go_wp2
  have HF:Hid (sizedL l n=(((((l).take (wlen n)).set 0 n).set 1 (bkts n)).set 2 (pow2 (bkts n):Nat))):=by
   show _=_
   unfold sizedL
   rw[show wlen n-l.length=0 by omega,List.replicate_zero,List.append_nil]
  have hlx:wlen n≤l.length:=by omega
  have hT9:=hT7
  have hF9:=hF7
  clear hp7 hT7 hF7
  refine region_still_tail 10 (by kernel_rfl) (by kernel_rfl) (fun wa hwa=>?_)
  have hTa:Tb base wa p B cap l:=by rw[hwa];exact hT9.drew
  have hFa:Fr p B w wa:=by rw[hwa];exact hF9.drew
  have hpa:=hTa.head
  have hpf:=hTa.frzp
  have hcx:=hTa.le
  have i1:(wlen n:Int)≤(cap:Int):=by omega
  have i2:wlen n≤cap:=by omega
  clear hwa hT9 hF9
  simp only[List.take_succ_cons,List.take_zero,List.drop_succ_cons,List.drop_zero]
  repeat still_step
  still_call (by simpa using length_any (n:Int) wa (by omega) (by omega))
  repeat still_step
  refine wpStill_nil ?_
  go_wp2
  have hlt:(l.take (wlen n)).length=wlen n:=by rw[List.length_take];omega
  have hTb:Tb base (wa.setCell ⟨p,0,none⟩ (.slice (some ⟨B,0,none⟩) (wlen n) cap)) p B cap (l.take (wlen n)):=by
   have h:=(hTa.rw_.take (wlen n)).head hTa.hp hTa.pb hTa.ne
   rwa[hlt]at h
  have hFb:Fr p B w (wa.setCell ⟨p,0,none⟩ (.slice (some ⟨B,0,none⟩) (wlen n) cap)):=hFa.setCell (.inl rfl) _
  generalize wa.setCell ⟨p,0,none⟩ (.slice (some ⟨B,0,none⟩) (wlen n) cap)=wb at hTb hFb ⊢
  refine region_still_tail 18 (by kernel_rfl) (by kernel_rfl) (fun wc hwc=>?_)
  have hTc:Tb base wc p B cap (l.take (wlen n)):=by rw[hwc];exact hTb.drew
  have hFc:Fr p B w wc:=by rw[hwc];exact hFb.drew
  have hpc:=hTc.head
  rw[hlt]at hpc
  have h60':=wlen_ge n
  have c0:=hTc.cell 0 (by omega)
  have c1:=hTc.cell 1 (by omega)
  have c2:=hTc.cell 2 (by omega)
  have f0:=hTc.frz 0
  have f1:=hTc.frz 1
  have f2:=hTc.frz 2
  have i3:(2:Int)<(wlen n:Int):=by omega
  have i4:(1:Int)<(wlen n:Int):=by omega
  have i5:(0:Int)<(wlen n:Int):=by omega
  have hb0:=bkts_pos n
  have hb1:=bkts_le n hn
  clear hpa hpf i1 i2 hTa hFa hTb hFb hwc
  simp only[List.take_succ_cons,List.take_zero,List.drop_succ_cons,List.drop_zero]
  repeat still_step
  still_call (by simpa using buckets_any (n:Int) wc (by omega) (by omega))
  repeat still_step
  still_call (by simpa using buckets_any (n:Int) wc (by omega) (by omega))
  repeat still_step
  still_call (by simpa using power_any (bkts n:Int) wc (by omega) (by omega))
  refine wpStill_nil ?_
  go_wp2
  go_end0
  refine⟨rfl,B,cap,?_,?_,(.inl rfl)⟩
  ·rw[HF.out]
   exact((hTc.set 0 _).set 1 _).set 2 _
  ·exact(((hFc.trans' (B':=B) ((Fr.refl p B wc).setCell (.inr (.inl rfl)) _) (.inl rfl)).trans' (B':=B) ((Fr.refl p B _).setCell (.inr (.inl rfl)) _) (.inl rfl)).trans' (B':=B) ((Fr.refl p B _).setCell (.inr (.inl rfl)) _) (.inl rfl))
end Go.Proofs.Ytdcomhdadnhpnaa
end
section
namespace Go.Proofs.Ytdcomhdadnhpnaa
open Go.RowKit Go.Shelf
set_option maxRecDepth 100000 in
set_option maxHeartbeats 2000000 in
theorem isNew_any (w:World) (p b off cap bt bb:Nat) (l:List Int) (hT:TblR w p b off cap l) (r n:Nat) (h0:Int) (hr:r≤100000) (hrl:recAt r<l.length)
  (hh:ati l (recAt r)=h0) (hh0:0≤h0) (hh1:h0≤4294967296) (hn:n≤500000)
  (ct:w.cell? ⟨bt,0,none⟩=some (.pointer (some ⟨p,0,none⟩))) (cb:w.cell? ⟨bb,0,none⟩=some (.int .i64 (n:Nat))):
  Calls Try.prog 113 #[.int .i64 r,.pointer (some ⟨bt,0,none⟩),.pointer (some ⟨bb,0,none⟩)] w fun e w'=>e= .returned (.bool (decide (bkt h0.toNat (n+1)=n)))∧Below w.heap.size w w':=by
 have hs:IntKind.i64.wrap ((n:Int)+1)=(n:Int)+1:=IntWalk.i64_in _ (by omega)
 subst hh
 go_enter Try.func113,Try.ntmps113
 go_wp2
 go_region_held3 (fun w'=>w'.cell? ⟨bt,0,none⟩=some (.pointer (some ⟨p,0,none⟩))∧w'.cell? ⟨bb,0,none⟩=some (.int .i64 (n:Nat))∧TblR w' p b off cap l∧Below w.heap.size w w')
  (first |exact⟨ct,cb,hT.drew,(Below.refl _ _).drew⟩ |exact⟨cell_below hb1 k0,cell_below hb1 k1,k2.below hb1,k3.trans (hb1.mono k3.size)⟩ |assumption)
  (first
   |(go_at_call 73;obtain⟨k0,k1,k2,k3⟩:=‹_∧_∧_∧_›;refine(record_any p (r:Nat) _ (by omega) (by omega)).mono ?_;rintro e w1 ⟨rfl,hb1⟩;rw[Int.toNat_natCast])
   |(go_at_call 74;obtain⟨k0,k1,k2,k3⟩:=‹_∧_∧_∧_›;refine(hash_any _ p b off cap l k2 (recAt r:Nat) (by omega) (by omega)).mono ?_;rintro e w1 ⟨rfl,hb1⟩;rw[Int.toNat_natCast])
   |(go_at_call 66;obtain⟨k0,k1,k2,k3⟩:=‹_∧_∧_∧_›;refine(bucket_any (ati l (recAt r)) ((n:Int)+1) _ hh0 hh1 (by omega) (by omega)).mono ?_;rintro e w1 ⟨rfl,rfl⟩))
 have k3:=(‹_∧_∧_∧_› :_∧_∧_∧Below w.heap.size w _).2.2.2
 clear hs
 go_wp2
 go_ret
 exact⟨congrArg (fun x=>Ending.returned (Value.bool x)) (by rw[Bool.eq_iff_iff];simp;constructor<;>intro h<;>omega),k3⟩
set_option maxRecDepth 100000 in
set_option maxHeartbeats 2000000 in
theorem less_any (w:World) (p b off cap bt:Nat) (l:List Int) (hT:TblR w p b off cap l) (r q:Nat) (hr:r≤100000) (hrl:recAt r<l.length) (hq:q≤100000) (hql:recAt q<l.length)
  (ct:w.cell? ⟨bt,0,none⟩=some (.pointer (some ⟨p,0,none⟩))):
  Calls Try.prog 105 #[.int .i64 r,.int .i64 q,.pointer (some ⟨bt,0,none⟩)] w fun e w'=>e= .returned (.bool (decide (ati l (recAt r)<ati l (recAt q))))∧Below w.heap.size w w':=by
 go_enter Try.func105,Try.ntmps105
 go_wp2
 go_region_held3 (fun w'=>w'.cell? ⟨bt,0,none⟩=some (.pointer (some ⟨p,0,none⟩))∧TblR w' p b off cap l∧Below w.heap.size w w')
  (first |exact⟨ct,hT.drew,(Below.refl _ _).drew⟩ |exact⟨cell_below hb1 k0,k2.below hb1,k3.trans (hb1.mono k3.size)⟩ |assumption)
  (first
   |(go_at_call_of 73 (Value.int IntKind.i64 (r:Nat));obtain⟨k0,k2,k3⟩:=‹_∧_∧_›;refine(record_any p (r:Nat) _ (by omega) (by omega)).mono ?_;rintro e w1 ⟨rfl,hb1⟩;rw[Int.toNat_natCast])
   |(go_at_call_of 73 (Value.int IntKind.i64 (q:Nat));obtain⟨k0,k2,k3⟩:=‹_∧_∧_›;refine(record_any p (q:Nat) _ (by omega) (by omega)).mono ?_;rintro e w1 ⟨rfl,hb1⟩;rw[Int.toNat_natCast])
   |(go_at_call_of 74 (Value.agg #[Value.pointer (some ⟨p,0,none⟩),Value.int IntKind.i64 (recAt r:Nat)]);obtain⟨k0,k2,k3⟩:=‹_∧_∧_›;refine(hash_any _ p b off cap l k2 (recAt r:Nat) (by omega) (by omega)).mono ?_;rintro e w1 ⟨rfl,hb1⟩;rw[Int.toNat_natCast])
   |(go_at_call_of 74 (Value.agg #[Value.pointer (some ⟨p,0,none⟩),Value.int IntKind.i64 (recAt q:Nat)]);obtain⟨k0,k2,k3⟩:=‹_∧_∧_›;refine(hash_any _ p b off cap l k2 (recAt q:Nat) (by omega) (by omega)).mono ?_;rintro e w1 ⟨rfl,hb1⟩;rw[Int.toNat_natCast]))
 have k3:=(‹_∧_∧_› :_∧_∧Below w.heap.size w _).2.2
 go_wp2
 go_ret
 exact⟨by first |rfl |simp,k3⟩
end Go.Proofs.Ytdcomhdadnhpnaa
end
section
namespace Go.Proofs.Ytdcomhdadnhpnaa
open Go.RowKit Go.Shelf
open Go.Proofs.YtdcomhdadnhpnaaW.PrintWords (ReadsOf encs print_append_row_of own_reads_of)
theorem encs_eq (rs:List Nat):encs encN rs=rs.map encN:=rfl
theorem app_row {ops:Array Oper} {rest:List Oper} {o:Oper} {a:Act} {Q:Exit→Act→World→Prop} {W:World} (base:Nat) (hgd:o.guard=none) (s x:Operand)
  (ho:o.op= .call { callee:=.builtin .append,args:=#[s,x],argTypes:=#[31,31] }) (v:Value) (xs ys:List Nat) (A:Option Addr) (c:Nat) (hs:a.eval s=v) (hx:a.eval x= .slice A ys.length c)
  (HO:W.ownsRow base 3 1 v xs.length (xs.map encN)) (HR:ReadsOf encN 0 W A ys.length ys) (hb:base≤W.heap.size) (hl:xs.length+ys.length≤1000000000)
  (h:∀v1 w1,w1.ownsRow base 3 1 v1 (xs++ys).length ((xs++ys).map encN)→W.grownBy w1 v.ownBlock→(v1.ownBlock=v.ownBlock∨∃b,v1.ownBlock=some b∧W.heap.size≤b)→wpList Try.prog ops Q rest (a.put o.dst v1) w1):
  wpList Try.prog ops Q (o::rest) a W:=
 print_append_row_of (w0:=W) encN 0 base hgd s x 31 3 (.int .i64 0) 8 ho Try.underlying31 info3 rfl (by decide) (fun _=>rfl) v xs ys A _ c hs hx HO HR (Below.refl _ _) hb (by omega)
  fun v1 w1 h1 _ hg hat=>h v1 w1 h1 hg hat
theorem reads_one (W:World) (r:Nat) (t:TypeId):ReadsOf encN 0 (W.alloc (.cells #[.int .i64 r] t)) (some ⟨W.heap.size,0,none⟩) [r].length [r]:=by
 refine⟨rfl,by simp,fun _=>⟨_,rfl,fun j hj=>?_⟩⟩
 obtain rfl:j=0:=by simp at hj;omega
 exact(Boxed.new W t (.int .i64 r)).cell
structure Own2 (nb:Nat) (w:World) (vs vg:Value) (S G:List Nat):Prop where
 s:w.ownsRow nb 3 1 vs S.length (S.map encN)
 g:w.ownsRow nb 3 1 vg G.length (G.map encN)
 ne:∀k,vs.ownBlock=some k→vg.ownBlock≠some k
theorem Own2.alloc {nb:Nat} {w:World} {vs vg:Value} {S G:List Nat} (h:Own2 nb w vs vg S G) (o:Obj):Own2 nb (w.alloc o) vs vg S G:=⟨h.s.alloc o,h.g.alloc o,h.ne⟩
theorem Own2.below {nb:Nat} {w w1:World} {vs vg:Value} {S G:List Nat} (h:Own2 nb w vs vg S G) (hb:Below w.heap.size w w1):Own2 nb w1 vs vg S G:=
 ⟨h.s.kept ⟨hb.os,hb.tape,hb.output,hb.size,fun k hk _=>hb.block k hk⟩ (row:=none) (by cases h':vs.ownBlock<;>simp),h.g.kept ⟨hb.os,hb.tape,hb.output,hb.size,fun k hk _=>hb.block k hk⟩ (row:=none) (by cases h':vg.ownBlock<;>simp),h.ne⟩
theorem Own2.app_s {nb:Nat} {W w1:World} {vs vg v1:Value} {S G S':List Nat} (h:Own2 nb W vs vg S G) (h1:w1.ownsRow nb 3 1 v1 S'.length (S'.map encN)) (hg:W.grownBy w1 vs.ownBlock)
  (hat:v1.ownBlock=vs.ownBlock∨∃b,v1.ownBlock=some b∧W.heap.size≤b):Own2 nb w1 v1 vg S' G:=by
 refine⟨h1,h.g.kept hg ?_,?_⟩
 ·cases hv:vg.ownBlock with
  |none=>exact .inl rfl
  |some k=>exact .inr (fun e=>h.ne k e.symm hv)
 ·intro k hk
  rcases hat with e |⟨b,e,hb⟩
  ·exact h.ne k (by rw[←e];exact hk)
  ·intro hv
   have:=(h.g.lt k hv).2
   rw[e]at hk;injection hk with hk
   omega
theorem Own2.swap {nb:Nat} {w:World} {vs vg:Value} {S G:List Nat} (h:Own2 nb w vs vg S G):Own2 nb w vg vs G S:=⟨h.g,h.s,fun k hk e=>h.ne k e hk⟩
def isNew (l:List Int) (n:Nat) (r:Nat):Bool:=decide (bkt (ati l (recAt r)).toNat (n+1)=n)
def stayS (l:List Int) (n:Nat) (rs:List Nat):List Nat:=rs.filter (fun r=>!isNew l n r)
def goneS (l:List Int) (n:Nat) (rs:List Nat):List Nat:=rs.filter (fun r=>isNew l n r)
theorem stayS_succ {l:List Int} {n:Nat} {rs:List Nat} {k:Nat} (hk:k<rs.length) (b:Bool) (h:isNew l n (natAt rs k)=b):
  stayS l n (rs.take (k+1))=stayS l n (rs.take k)++(if b then []else [natAt rs k])∧goneS l n (rs.take (k+1))=goneS l n (rs.take k)++(if b then [natAt rs k]else []):=by
 have e:natAt rs k=rs[k]:=by simp[natAt,hk]
 unfold stayS goneS
 rw[List.take_succ_eq_append_getElem hk,List.filter_append,List.filter_append,←e]
 cases b<;>simp[h]
set_option maxRecDepth 100000 in
set_option maxHeartbeats 4000000 in
theorem divide_any (base:Nat) (w:World) (p B cap:Nat) (l:List Int) (n:Nat) (ch:List (Nat×Nat)) (hT:Tb base w p B cap l) (hl:l.length≤100000000) (h4:4≤l.length)
  (hn0:1≤n) (hn1:n≤500000) (hch:Chn l (headAt (n-pow2 n)) ch) (hi1:headAt (n-pow2 n)<l.length) (hi2:headAt n<l.length)
  (hrec:∀q∈ch,recAt q.1+2<l.length∧q.1≤100000∧0≤ati l (recAt q.1)∧ati l (recAt q.1)≤4294967296) (hlen:ch.length≤1000000):
  Calls Try.prog 101 #[.pointer (some ⟨p,0,none⟩),.int .i64 n] w fun e W'=>e= .returned (.int .i64 (ch.length:Nat))∧
   Tb base W' p B cap (linkL (linkL l (headAt (n-pow2 n)) (stayS l n (ch.map (·.1)))) (headAt n) (goneS l n (ch.map (·.1))))∧Fr p B w W':=by
 have hpl:=pow2_le (b:=n) (by omega)
 have hpp:=pow2_pos n
 have hs0:IntKind.i64.wrap ((n:Int)-((pow2 n:Nat):Int))=((n-pow2 n:Nat):Int):=by rw[IntWalk.i64_in _ (by omega)];omega
 have hmf:∀(fn:Fn) (first cap:Array Value) (w:World),(Instr.makeFunc fn first cap).run Try.prog w= .ok (.func fn first cap) w:=fun _ _ _ _=>rfl
 go_enter Try.func101,Try.ntmps101
 go_wp2
 refine region_still (by kernel_rfl) (by kernel_rfl) (fun w1 hw1=>?_)
 obtain⟨n₀,hn0'⟩:∃n₀,n₀=w.heap.size:=⟨_,rfl⟩
 rw[←hn0']
 have hF:Fresh w n₀ [.cells #[.pointer (some ⟨p,0,none⟩)] 92,.cells #[.int .i64 n] 3] w1:=by
  rw[hw1,hn0'];exact(((Fresh.start w).alloc _).alloc _).drew
 have hB1:=hF.below
 have hs1:w1.heap.size=n₀+2:=hF.size
 have bt:Boxed w1 n₀ 92 (.pointer (some ⟨p,0,none⟩)):=hF.blks 0 _ rfl
 have bb:Boxed w1 (n₀+1) 3 (.int .i64 n):=hF.blks 1 _ rfl
 have hT1:Tb base w1 p B cap l:=hT.below (by rw[←hn0'];exact hB1)
 have ct:=bt.cell
 have cb:=bb.cell
 have HN:=Lib.hid hn0'
 have HS:=Lib.hid hs1
 clear hw1 hn0' hF hs1
 repeat still_step
 still_call (by simpa using power_any (n:Int) w1 (by omega) (by omega))
 repeat still_step
 refine wpStill_nil ?_
 clear hs0
 generalize hi:n-pow2 n=i at*
 have HI:=Lib.hid hi
 have hi6:i≤1000000:=by omega
 clear hi
 go_wp2_with (go_at_call 71;refine(all_any p B 0 cap i l ch hi6 hl h4 w1 hT1.r hch hlen).mono ?_;rintro e w2 ⟨v,rfl,hv,hb2⟩;obtain⟨A,c,rfl,hR⟩:=own_reads_of (enc:=encN) (d:=0) (xs:=ch.map (·.1)) (by rw[encs_eq,List.map_map];exact hv))
 have hT2:=hT1.below hb2
 have hbt2:=boxed_below bt hb2
 have hbb2:=boxed_below bb hb2
 have hrs:∀r∈ch.map (·.1),recAt r+2<l.length∧r≤100000∧0≤ati l (recAt r)∧ati l (recAt r)≤4294967296:=by
  intro r hr;obtain⟨q,hq,rfl⟩:=List.mem_map.1 hr;exact hrec q hq
 have hB2:Below n₀ w w2:=hB1.trans (hb2.mono (by have:=HS.out;omega))
 have hz2:n₀+2≤w2.heap.size:=by have:=hb2.size;have:=HS.out;omega
 have hle0:n₀≤w.heap.size:=by have:=HN.out;omega
 have hle1:w.heap.size≤n₀:=by have:=HN.out;omega
 have hF2:Fr p B w w2:=Fr.of_below (by have:=HN.out;rw[←HN.out];exact hB2)
 have hpn:p<n₀:=by have:=HN.out;have:=hT.ltp;omega
 have hBn:B<n₀:=by have:=HN.out;have:=hT.ltB;omega
 have hlen2:(ch.map (·.1)).length=ch.length:=by simp
 rw[←hlen2]
 rw[←hlen2]at hR hlen
 clear hlen2 hch hrec hb2 ct cb bt bb hT1 hB1 hv hT
 generalize hrsd:ch.map (·.1)=rs at*
 have HRS:=Lib.hid hrsd
 clear hrsd
 obtain⟨nb,hnb⟩:∃nb,nb=w2.heap.size:=⟨_,rfl⟩
 go_loopw [8,9,22] (fun vs vg kk wr=>∃k:Nat,k≤rs.length∧kk= .int .i64 (k:Nat)∧Own2 nb wr vs vg (stayS l n (rs.take k)) (goneS l n (rs.take k))∧Below nb w2 wr∧nb≤wr.heap.size)
  (fun _ _ kk _=>rs.length-(intOf kk).toNat)
 case atStart=>exact⟨0,Nat.zero_le _,rfl,⟨World.ownsRow_nil _ _ _ _,World.ownsRow_nil _ _ _ _,fun k hk=>by simp[Value.ownBlock]at hk⟩,Below.refl _ _,by omega⟩
 case round=>
  obtain⟨k,hk,rfl,hO,hBr,hzr⟩:=hrel
  have hBr':Below w2.heap.size w2 wr:=by rw[←hnb];exact hBr
  have hTr:=hT2.below hBr'
  have btr:=boxed_below hbt2 hBr'
  have bbr:=boxed_below hbb2 hBr'
  have ctr:=btr.cell
  have cbr:=bbr.cell
  have HNB:=Lib.hid hnb
  clear hnb
  by_cases hlt:k<rs.length
  ·obtain⟨ad,rfl,hcr⟩:=hR.2.2 (by omega)
   have hck:=(hcr k hlt)
   have hck2:=(World.cell?_of_block (a:=ad.add k) (hBr'.block _ (World.block_lt_of_cell? _ _ hck))).trans hck
   have hrk:=hrs (natAt rs k) (by have e:natAt rs k=rs[k]:=by { simp[natAt,hlt] };rw[e];exact List.getElem_mem _)
   have hck3:wr.cell? (ad.add k)=some (.int .i64 (natAt rs k:Nat)):=hck2
   have hr1:=hrk.1
   have hr2:=hrk.2.1
   have hrle:(rs.take k).length≤1000000:=by rw[List.length_take];omega
   have hls:(stayS l n (rs.take k)).length≤1000000:=Nat.le_trans (List.length_filter_le _ _) hrle
   have hlg:(goneS l n (rs.take k)).length≤1000000:=Nat.le_trans (List.length_filter_le _ _) hrle
   clear hcr hck hck2 hrs hR hrle
   by_cases hnew:isNew l n (natAt rs k)=true
   ·have hdec:decide (bkt (ati l (recAt (natAt rs k))).toNat (n+1)=n)=true:=hnew
    have HNW:=Lib.hid (stayS_succ (l:=l) (n:=n) hlt true hnew)
    clear hnew
    go_wp2_with (first
     |(go_at_call 113;refine(isNew_any _ p B 0 cap n₀ (n₀+1) l hTr.r (natAt rs k) n _ hr2 (by omega) rfl hrk.2.2.1 hrk.2.2.2 hn1 ctr cbr).mono ?_;rintro e w5 ⟨rfl,hb5⟩;have hO5:=hO.below hb5;rw[hdec])
     |(at_builtin;refine app_row nb rfl _ _ rfl _ _ [natAt rs k] (some ⟨w5.heap.size,0,none⟩) 1 rfl rfl (hO5.alloc _).g (reads_one _ _ _) (by have:=hb5.size;simp;omega) (by simp;omega) ?_;intro v1 w6 ho6 hg6 hat6))
    go_roundw
    case rel=>
     have hz5:=hb5.size
     refine⟨k+1,by omega,by go_num,?_,?_,by have:=hg6.size;simp at this;omega⟩
     ·have h:=((hO5.alloc _).swap.app_s ho6 hg6 hat6).swap
      rw[HNW.out.1,HNW.out.2]
      simpa using h
     ·exact(hBr.trans (((Below.refl _ _).trans (hb5.mono hzr)).alloc (by omega) _)).grown hg6 (by simp;omega) (fun j ej=>(hO5.g.lt j ej).1)
    case measure=>simp[intOf];omega
   ·have hnew:isNew l n (natAt rs k)=false:=by simpa using hnew
    have hdec:decide (bkt (ati l (recAt (natAt rs k))).toNat (n+1)=n)=false:=hnew
    have HNW:=Lib.hid (stayS_succ (l:=l) (n:=n) hlt false hnew)
    clear hnew
    go_wp2_with (first
     |(go_at_call 113;refine(isNew_any _ p B 0 cap n₀ (n₀+1) l hTr.r (natAt rs k) n _ hr2 (by omega) rfl hrk.2.2.1 hrk.2.2.2 hn1 ctr cbr).mono ?_;rintro e w5 ⟨rfl,hb5⟩;have hO5:=hO.below hb5;rw[hdec])
     |(at_builtin;refine app_row nb rfl _ _ rfl _ _ [natAt rs k] (some ⟨w5.heap.size,0,none⟩) 1 rfl rfl (hO5.alloc _).s (reads_one _ _ _) (by have:=hb5.size;simp;omega) (by simp;omega) ?_;intro v1 w6 ho6 hg6 hat6))
    go_roundw
    case rel=>
     have hz5:=hb5.size
     refine⟨k+1,by omega,by go_num,?_,?_,by have:=hg6.size;simp at this;omega⟩
     ·have h:=((hO5.alloc _).app_s ho6 hg6 hat6)
      rw[HNW.out.1,HNW.out.2]
      simpa using h
     ·exact(hBr.trans (((Below.refl _ _).trans (hb5.mono hzr)).alloc (by omega) _)).grown hg6 (by simp;omega) (fun j ej=>(hO5.s.lt j ej).1)
    case measure=>simp[intOf];omega
  ·have hkk:k=rs.length:=by omega
   subst hkk
   rw[List.take_length]at hO
   have hsS:∀r∈stayS l n rs,recAt r+2<l.length∧r≤1000000:=fun r hr=>by have:=hrs r (List.mem_filter.1 hr |>.1);omega
   have hsG:∀r∈goneS l n rs,recAt r+2<l.length∧r≤1000000:=fun r hr=>by have:=hrs r (List.mem_filter.1 hr |>.1);omega
   have hls:(stayS l n rs).length≤1000000:=Nat.le_trans (List.length_filter_le _ _) hlen
   have hlg:(goneS l n rs).length≤1000000:=Nat.le_trans (List.length_filter_le _ _) hlen
   have hne:∀(u:Value) (xs:List Value) (m k:Nat),wr.ownsRow nb 3 1 u m xs→k<n₀+2→some k≠u.ownBlock:=fun u xs m k h hk e=>by have:=(h.lt k e.symm).1;have:=HNB.out;omega
   have hs1:=hne _ _ _ p hO.s (by omega)
   have hs2:=hne _ _ _ B hO.s (by omega)
   have hg1:=hne _ _ _ p hO.g (by omega)
   have hg2:=hne _ _ _ B hO.g (by omega)
   have hFr:Fr p B w wr:=hF2.trans (Fr.of_below hBr')
   clear hne hR hrs
   go_wp2_with fail
   refine(link_any base _ p B cap l i hi6 (stayS l n rs) nb _ hTr hl hi1 hsS hls hO.s hs1 hs2).mono ?_
   rintro e w6 ⟨rfl,hT6,hF6⟩
   have ct6:=(World.cell?_of_block (a:=⟨n₀,0,none⟩) (hF6.block n₀ (by have:=HNB.out;omega) (by omega) (by omega))).trans ctr
   have cb6:=(World.cell?_of_block (a:=⟨n₀+1,0,none⟩) (hF6.block (n₀+1) (by have:=HNB.out;omega) (by omega) (by omega))).trans cbr
   have hG6:=Go.Proofs.YtdcomhdadnhpnaaW.PrintWords.own_move (w1:=w6) hO.g (fun k hk=>hF6.block k (hO.g.lt k hk).2 (fun e=>hg1 (by rw[hk,e])) (fun e=>hg2 (by rw[hk,e])))
   have hl6:(linkL l (headAt i) (stayS l n rs)).length=l.length:=linkL_len _ _ _
   go_wp2_with fail
   refine(link_any base _ p B cap _ n (by omega) (goneS l n rs) nb _ hT6 (by omega) (by omega) (by rw[hl6];exact hsG) hlg hG6 hg1 hg2).mono ?_
   rintro e w7 ⟨rfl,hT7,hF7⟩
   clear hl6
   go_wp2
   go_ret
   refine⟨?_,?_,(hFr.trans hF6).trans hF7⟩
   ·have:=congrArg List.length HRS.out
    rw[List.length_map]at this
    rw[this];rfl
   ·rw[HI.out,HRS.out]
    exact hT7
end Go.Proofs.Ytdcomhdadnhpnaa
end
section
namespace Go.Proofs.Ytdcomhdadnhpnaa
open Go.RowKit Go.Shelf
open Go.Proofs.YtdcomhdadnhpnaaW.PrintWords (ReadsOf encs print_append_row_of own_reads_of print_cut_of step_append_cells)
def mergedL (l:List Int):List Nat→List Nat→List Nat
 | [],ys=>ys
 |x::xs,[]=>x::xs
 |x::xs,y::ys=>if ati l (recAt y)<ati l (recAt x)then y::mergedL l (x::xs) ys else x::mergedL l xs (y::ys)
termination_by xs ys=>xs.length+ys.length
def sliceLen:Value→Nat | .slice _ n _=>n |_=>0
theorem step_app_one {ops:Array Oper} {o:Oper} {a:Act} {Q:Exit→Act→World→Prop} {Kc:Act→World→Prop} {W:World} (base:Nat) (hw:Region.wanted o (yielded ops a.tmps)=true) (s x:Operand)
  (ho:o.op= .call { callee:=.builtin .append,args:=#[s,x],argTypes:=#[31,31] }) (v:Value) (xs:List Nat) (r:Nat) (hs:a.eval s=v) (hx:a.eval x= .slice (some ⟨W.heap.size,0,none⟩) 1 1)
  (HO:W.ownsRow base 3 1 v xs.length (xs.map encN)) (hb:base≤W.heap.size) (hl:xs.length≤1000000000)
  (h:∀v1 w1,w1.ownsRow base 3 1 v1 (xs++[r]).length ((xs++[r]).map encN)→W.grownBy w1 v.ownBlock→(v1.ownBlock=v.ownBlock∨∃b,v1.ownBlock=some b∧W.heap.size≤b)→Kc (a.put o.dst v1) w1):
  if Region.wanted o (yielded ops a.tmps)=true then Oper.wp Try.prog o a (W.alloc (.cells #[.int .i64 r] 3)) Kc Q else Kc (a.put o.dst undef) (W.alloc (.cells #[.int .i64 r] 3)):=by
 refine step_append_cells (w0:=W) (ys:=[.int .i64 r]) base hw s x 31 3 (.int .i64 0) 1 8 ho Try.underlying31 info3 rfl (by decide) (by decide) v xs.length (xs.map encN) hs hx rfl (by simp[Value.oneCell']) HO (Below.refl _ _) hb (by omega) ?_
 intro v1 w1 h1 _ hg hat
 exact h v1 w1 (by simpa[encN]using h1) hg hat
theorem mergedL_nil_r (l:List Int) (xs:List Nat):mergedL l xs []=xs:=by cases xs<;>simp[mergedL]
theorem mergedL_nil {l:List Int} {X Y:List Nat} (h:X=[]∨Y=[]):mergedL l X Y=X++Y:=by
 rcases h with rfl |rfl
 ·simp[mergedL]
 ·simp[mergedL_nil_r]
theorem mergedL_lt {l:List Int} {x y:Nat} {xs ys:List Nat} (h:ati l (recAt y)<ati l (recAt x)):mergedL l (x::xs) (y::ys)=y::mergedL l (x::xs) ys:=by rw[mergedL,if_pos h]
theorem mergedL_ge {l:List Int} {x y:Nat} {xs ys:List Nat} (h:¬ati l (recAt y)<ati l (recAt x)):mergedL l (x::xs) (y::ys)=x::mergedL l xs (y::ys):=by rw[mergedL,if_neg h]
set_option maxRecDepth 100000 in
set_option maxHeartbeats 4000000 in
theorem merged_any (w:World) (p b off cap bt:Nat) (l:List Int) (hT:TblR w p b off cap l) (xs ys:List Nat) (A0 A1:Option Addr) (c0 c1:Nat)
  (hx:ReadsOf encN 0 w A0 xs.length xs) (hcx:xs.length≤c0) (hy:ReadsOf encN 0 w A1 ys.length ys) (hcy:ys.length≤c1) (hlx:xs.length≤1000000) (hly:ys.length≤1000000)
  (hrx:∀r∈xs,recAt r<l.length∧r≤100000) (hry:∀r∈ys,recAt r<l.length∧r≤100000) (ct:w.cell? ⟨bt,0,none⟩=some (.pointer (some ⟨p,0,none⟩))):
  Calls Try.prog 104 #[.slice A0 xs.length c0,.slice A1 ys.length c1,.func (.func 105) #[] #[.pointer (some ⟨bt,0,none⟩)]] w fun e W'=>∃v,e= .returned v∧W'.ownsRow w.heap.size 3 1 v (mergedL l xs ys).length ((mergedL l xs ys).map encN)∧Below w.heap.size w W':=by
 go_enter Try.func104,Try.ntmps104
 go_wp2
 obtain⟨nb,hnb⟩:∃nb,nb=w.heap.size:=⟨_,rfl⟩
 go_loopw [0,1,7] (fun v0 v1 vo wr=>∃(X Y O:List Nat) (A B:Option Addr) (c d:Nat),v0= .slice A X.length c∧v1= .slice B Y.length d∧ReadsOf encN 0 w A X.length X∧X.length≤c∧ReadsOf encN 0 w B Y.length Y∧Y.length≤d∧
   (∀r∈X,recAt r<l.length∧r≤100000)∧(∀r∈Y,recAt r<l.length∧r≤100000)∧X.length≤1000000∧Y.length≤1000000∧O.length+X.length+Y.length≤2000000∧
   wr.ownsRow nb 3 1 vo O.length (O.map encN)∧Hid (mergedL l xs ys=O++mergedL l X Y)∧Below nb w wr∧nb≤wr.heap.size)
  (fun v0 v1 _ _=>sliceLen v0+sliceLen v1)
 case atStart=>exact⟨xs,ys,[],A0,A1,c0,c1,rfl,rfl,hx,hcx,hy,hcy,hrx,hry,hlx,hly,by simp;omega,World.ownsRow_nil _ _ _ _,rfl,Below.refl _ _,by omega⟩
 case round=>
  obtain⟨X,Y,O,A,B,c,d,rfl,rfl,hX,hcX,hY,hdY,hrX,hrY,hlX,hlY,hsum,hO,HM,hBr,hzr⟩:=hrel
  have hBr':Below w.heap.size w wr:=by rw[←hnb];exact hBr
  have hTr:=hT.below hBr'
  have ctr:=cell_below hBr' ct
  have HNB:=Lib.hid hnb
  clear hnb hx hcx hy hcy hrx hry
  have hXr:=hX.below hBr'
  have hYr:=hY.below hBr'
  by_cases hXY:X=[]∨Y=[]
  ·have hdX:decide (0<X.length)=false∨decide (0<Y.length)=false:=by
    rcases hXY with rfl |rfl
    ·left;rfl
    ·right;rfl
   by_cases hX0:0<X.length
   ·have hY0:Y.length≤0:=by rcases hXY with rfl |rfl<;>simp at*
    have hXY':=Lib.hid hXY
    clear hdX hXY
    go_wp2_with (first
     |(at_builtin;refine app_row nb rfl _ _ rfl _ O X A c rfl rfl hO hXr hzr (by omega) ?_;intro v1 w6 ho6 hg6 hat6;have hB6:Below w.heap.size w w6:=hBr'.grown hg6 (by have:=hBr'.size;omega) (fun k e=>by have:=(hO.lt k e).1;have:=HNB.out;omega);have hY6:=hY.below hB6;have hz6:=hg6.size)
     |(at_builtin;refine app_row nb rfl _ _ rfl _ (O++X) Y B d rfl rfl ho6 hY6 (by omega) (by rw[List.length_append];omega) ?_;intro v2 w7 ho7 hg7 hat7))
    go_ret
    refine⟨v2,rfl,?_,?_⟩
    ·rw[HM.out,mergedL_nil hXY'.out,←List.append_assoc,←HNB.out];exact ho7
    ·exact hB6.grown hg7 (by have:=hB6.size;omega) (fun k e=>by have:=(ho6.lt k e).1;have:=HNB.out;omega)
   ·have hX0':X.length≤0:=by omega
    have hXY':=Lib.hid hXY
    clear hdX hXY hX0
    go_wp2_with (first
     |(at_builtin;refine app_row nb rfl _ _ rfl _ O X A c rfl rfl hO hXr hzr (by omega) ?_;intro v1 w6 ho6 hg6 hat6;have hB6:Below w.heap.size w w6:=hBr'.grown hg6 (by have:=hBr'.size;omega) (fun k e=>by have:=(hO.lt k e).1;have:=HNB.out;omega);have hY6:=hY.below hB6;have hz6:=hg6.size)
     |(at_builtin;refine app_row nb rfl _ _ rfl _ (O++X) Y B d rfl rfl ho6 hY6 (by omega) (by rw[List.length_append];omega) ?_;intro v2 w7 ho7 hg7 hat7))
    go_ret
    refine⟨v2,rfl,?_,?_⟩
    ·rw[HM.out,mergedL_nil hXY'.out,←List.append_assoc,←HNB.out];exact ho7
    ·exact hB6.grown hg7 (by have:=hB6.size;omega) (fun k e=>by have:=(ho6.lt k e).1;have:=HNB.out;omega)
  ·cases X with
   |nil=>exact absurd (.inl rfl) hXY
   |cons x X=>
   cases Y with
   |nil=>exact absurd (.inr rfl) hXY
   |cons y Y=>
   obtain⟨ad,rfl,hcA⟩:=hXr.2.2 (by simp)
   obtain⟨ae,rfl,hcB⟩:=hYr.2.2 (by simp)
   have hx0:wr.cell? ad=some (.int .i64 (x:Nat)):=hcA 0 (by simp)
   have hy0:wr.cell? ae=some (.int .i64 (y:Nat)):=hcB 0 (by simp)
   have hrx:=hrX x (by simp)
   have hry:=hrY y (by simp)
   obtain⟨i0,hinf,hz0,hz1,hz2⟩:=info_parts info3
   obtain⟨A',hcutA,hdropA⟩:=print_cut_of (P:=Try.prog) encN 0 31 3 .i64 Try.underlying31 hinf hz1 (some ad) (x::X).length c 1 (by simp)
   obtain⟨B',hcutB,hdropB⟩:=print_cut_of (P:=Try.prog) encN 0 31 3 .i64 Try.underlying31 hinf hz1 (some ae) (y::Y).length d 1 (by simp)
   have hXd:=hdropA w (x::X) hcX hX
   have hYd:=hdropB w (y::Y) hdY hY
   simp only[List.length_cons,Nat.add_sub_cancel,List.drop_succ_cons,List.drop_zero]at hXd hYd hcutA hcutB
   have hcutA':∀W:World,(Instr.slice 31 (.slice (some ad) (X.length+1) c) (some (.int .i64 1)) none none).run Try.prog W= .ok (.slice A' X.length (c-1)) W:=hcutA
   have hcutB':∀W:World,(Instr.slice 31 (.slice (some ae) (Y.length+1) d) (some (.int .i64 1)) none none).run Try.prog W= .ok (.slice B' Y.length (d-1)) W:=hcutB
   clear hcutA hcutB hdropA hdropB hcA hcB hz0 hz1 hz2
   have hlX':X.length+1≤1000000:=hlX
   have hlY':Y.length+1≤1000000:=hlY
   have hcX':X.length+1≤c:=hcX
   have hdY':Y.length+1≤d:=hdY
   have hsum':O.length+(X.length+1)+(Y.length+1)≤2000000:=hsum
   clear hlX hlY hcX hdY hsum hXr hYr
   by_cases hlt:ati l (recAt y)<ati l (recAt x)
   ·have hdec:decide (ati l (recAt y)<ati l (recAt x))=true:=decide_eq_true hlt
    have HE:=Lib.hid (mergedL_lt (xs:=X) (ys:=Y) hlt)
    clear hlt
    go_wp2
    refine region_still_tail 7 (by kernel_rfl) (by kernel_rfl) (fun w5 hw5=>?_)
    have hx5:w5.cell? ad=some (.int .i64 (x:Nat)):=by rw[hw5];exact hx0
    have hy5:w5.cell? ae=some (.int .i64 (y:Nat)):=by rw[hw5];exact hy0
    have hO5:w5.ownsRow nb 3 1 u7 O.length (O.map encN):=by rw[hw5];exact hO.drew
    have hT5:TblR w5 p b off cap l:=by rw[hw5];exact hTr.drew
    have ct5:w5.cell? ⟨bt,0,none⟩=some (.pointer (some ⟨p,0,none⟩)):=by rw[hw5];exact ctr
    have hB5:Below w.heap.size w w5:=by rw[hw5];exact hBr'.drew
    have hz5:nb≤w5.heap.size:=by rw[hw5];exact hzr
    clear hw5 hx0 hy0 hO hTr ctr hBr hBr' hzr
    simp only[List.take_succ_cons,List.take_zero,List.drop_succ_cons,List.drop_zero]
    repeat still_step
    refine wpStill_nil ?_
    go_wp2_with (go_at_call 105;refine(less_any _ p b off cap bt l hT5 y x hry.2 hry.1 hrx.2 hrx.1 ct5).mono ?_;rintro e w6 ⟨rfl,hb6⟩;rw[hdec])
    have hO6:w6.ownsRow nb 3 1 u7 O.length (O.map encN):=hO5.kept (row:=none) ⟨hb6.os,hb6.tape,hb6.output,hb6.size,fun k hk _=>hb6.block k hk⟩ (by cases u7.ownBlock<;>simp)
    have hO6d:w6.drew.ownsRow nb 3 1 u7 O.length (O.map encN):=hO6.drew
    have hy6:w6.cell? ae=some (.int .i64 (y:Nat)):=(hb6.cell (World.block_lt_of_cell? _ _ hy5)).trans hy5
    have hz6:nb≤w6.drew.heap.size:=by have:=hb6.size;show nb≤w6.heap.size;omega
    have hlO:O.length≤1000000000:=by omega
    have hB6:Below w.heap.size w w6:=hB5.trans (hb6.mono hB5.size)
    have hK6:=Lib.hid hz6
    clear hx5 hy5 hO5 hT5 ct5 hb6 hz5
    go_region_law (refine step_app_one nb rfl _ _ rfl u7 O y (by simp[Act.eval]) (by simp[Act.eval]) hO6d hK6.out hlO ?_;intro v1 w7 ho7 hg7 hat7)
    simp only[Act.put,List.getElem_toArray,List.getElem_cons_succ,List.getElem_cons_zero,List.setIfInBounds_toArray,List.set_cons_succ,List.set_cons_zero]
    go_wp2
    go_roundw
    case rel=>
     have hz7:=hg7.size
     refine⟨x::X,Y,O++[y],some ad,B',c,d-1,rfl,rfl,hX,by simpa using hcX',hYd,by omega,hrX,fun r hr=>hrY r (by simp[hr]),by simpa using hlX',by omega,by(simp;omega),ho7,?_,?_,Nat.le_trans hK6.out hz7⟩
     ·show _=_
      rw[HM.out,HE.out];simp
     ·rw[HNB.out]
      exact(hB6.drew).grown hg7 (by have:=hB6.size;show w.heap.size≤w6.heap.size;omega) (fun k e=>by have:=(hO6d.lt k e).1;have:=HNB.out;omega)
    case measure=>simp[sliceLen]
   ·have hdec:decide (ati l (recAt y)<ati l (recAt x))=false:=decide_eq_false hlt
    have HE:=Lib.hid (mergedL_ge (xs:=X) (ys:=Y) hlt)
    clear hlt
    go_wp2
    refine region_still_tail 7 (by kernel_rfl) (by kernel_rfl) (fun w5 hw5=>?_)
    have hx5:w5.cell? ad=some (.int .i64 (x:Nat)):=by rw[hw5];exact hx0
    have hy5:w5.cell? ae=some (.int .i64 (y:Nat)):=by rw[hw5];exact hy0
    have hO5:w5.ownsRow nb 3 1 u7 O.length (O.map encN):=by rw[hw5];exact hO.drew
    have hT5:TblR w5 p b off cap l:=by rw[hw5];exact hTr.drew
    have ct5:w5.cell? ⟨bt,0,none⟩=some (.pointer (some ⟨p,0,none⟩)):=by rw[hw5];exact ctr
    have hB5:Below w.heap.size w w5:=by rw[hw5];exact hBr'.drew
    have hz5:nb≤w5.heap.size:=by rw[hw5];exact hzr
    clear hw5 hx0 hy0 hO hTr ctr hBr hBr' hzr
    simp only[List.take_succ_cons,List.take_zero,List.drop_succ_cons,List.drop_zero]
    repeat still_step
    refine wpStill_nil ?_
    go_wp2_with (go_at_call 105;refine(less_any _ p b off cap bt l hT5 y x hry.2 hry.1 hrx.2 hrx.1 ct5).mono ?_;rintro e w6 ⟨rfl,hb6⟩;rw[hdec])
    have hO6:w6.ownsRow nb 3 1 u7 O.length (O.map encN):=hO5.kept (row:=none) ⟨hb6.os,hb6.tape,hb6.output,hb6.size,fun k hk _=>hb6.block k hk⟩ (by cases u7.ownBlock<;>simp)
    have hO6d:w6.drew.ownsRow nb 3 1 u7 O.length (O.map encN):=hO6.drew
    have hx6:w6.cell? ad=some (.int .i64 (x:Nat)):=(hb6.cell (World.block_lt_of_cell? _ _ hx5)).trans hx5
    have hz6:nb≤w6.drew.heap.size:=by have:=hb6.size;show nb≤w6.heap.size;omega
    have hlO:O.length≤1000000000:=by omega
    have hB6:Below w.heap.size w w6:=hB5.trans (hb6.mono hB5.size)
    have hK6:=Lib.hid hz6
    clear hx5 hy5 hO5 hT5 ct5 hb6 hz5
    go_region_law (refine step_app_one nb rfl _ _ rfl u7 O x (by simp[Act.eval]) (by simp[Act.eval]) hO6d hK6.out hlO ?_;intro v1 w7 ho7 hg7 hat7)
    simp only[Act.put,List.getElem_toArray,List.getElem_cons_succ,List.getElem_cons_zero,List.setIfInBounds_toArray,List.set_cons_succ,List.set_cons_zero]
    go_wp2
    go_roundw
    case rel=>
     have hz7:=hg7.size
     refine⟨X,y::Y,O++[x],A',some ae,c-1,d,rfl,rfl,hXd,by omega,hY,by simpa using hdY',fun r hr=>hrX r (by simp[hr]),hrY,by omega,by simpa using hlY',by(simp;omega),ho7,?_,?_,Nat.le_trans hK6.out hz7⟩
     ·show _=_
      rw[HM.out,HE.out];simp
     ·rw[HNB.out]
      exact(hB6.drew).grown hg7 (by have:=hB6.size;show w.heap.size≤w6.heap.size;omega) (fun k e=>by have:=(hO6d.lt k e).1;have:=HNB.out;omega)
    case measure=>simp[sliceLen]
end Go.Proofs.Ytdcomhdadnhpnaa
end
