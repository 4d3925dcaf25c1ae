import Derived.Test.YtdcomhdadnhpnaaYZM5
import Derived.Maps.AppendAt
set_option linter.all false
section
namespace Go.Proofs.Ytdcomhdadnhpnaa
open Go.RowKit Go.Shelf
theorem new_c (w:World):Calls Try.prog 23 #[] w fun e W'=>∃B cap,e= .returned (.slice (some ⟨B,0,none⟩) freshL.length cap)∧RdL W' (some ⟨B,0,none⟩) freshL∧Below w.heap.size w W':=
 (new_any w).mono fun _ _ ⟨⟨B,cap,e,h⟩,hb⟩=>⟨B,cap,e,h.rd,hb⟩
theorem add_c (w:World) (B cap:Nat) (h:RdL w (some ⟨B,0,none⟩) freshL):Calls Try.prog 24 #[.slice (some ⟨B,0,none⟩) freshL.length cap,.int .i64 5,.int .i64 70] w fun e W'=>
  ∃B' cap',e= .returned (.tuple #[.slice (some ⟨B',0,none⟩) oneL.length cap',.int .i64 0,.int .i64 0])∧RdL W' (some ⟨B',0,none⟩) oneL∧Below w.heap.size w W':=by
 refine(addX_any _ cap freshL 5 70 w h).mono ?_
 rintro e W' ⟨(⟨c,hc,rfl,hQ⟩ |⟨B',cap',k,l',rfl,hr,hQ⟩),hb⟩
 ·exact absurd (add_one hQ).2.2 hc
 ·obtain⟨rfl,rfl,_⟩:=add_one hQ
  exact⟨B',cap',rfl,hr.rd,hb⟩
theorem find_c (w:World) (B cap:Nat) (h:RdL w (some ⟨B,0,none⟩) oneL):Calls Try.prog 26 #[.slice (some ⟨B,0,none⟩) oneL.length cap,.int .i64 5] w fun e W'=>
  ∃A c,e= .returned (.tuple #[.slice A [(70:Int)].length c,.int .i64 1,.int .i64 0])∧RdL W' A [70]∧Below w.heap.size w W':=by
 refine(findX_any _ cap oneL 5 w h).mono ?_
 rintro e W' ⟨hF,hb⟩
 obtain⟨v,rfl,hv⟩:=find_one hF
 obtain⟨A,c,rfl,hr⟩:=rdL_own hv
 exact⟨A,c,rfl,hr,hb⟩
theorem drop_c (w:World) (B cap:Nat) (h:RdL w (some ⟨B,0,none⟩) oneL):Calls Try.prog 27 #[.slice (some ⟨B,0,none⟩) oneL.length cap,.int .i64 5,.int .i64 70] w fun e W'=>
  ∃B' cap',e= .returned (.tuple #[.slice (some ⟨B',0,none⟩) freshL.length cap',.int .i64 1,.int .i64 0])∧RdL W' (some ⟨B',0,none⟩) freshL∧Below w.heap.size w W':=by
 refine(dropX_any _ cap oneL 5 70 w h).mono ?_
 rintro e W' ⟨(⟨c,hc,rfl,hQ⟩ |⟨B',cap',k,l',rfl,hr,hQ⟩),hb⟩
 ·exact absurd (drop_one hQ).2.2 hc
 ·obtain⟨rfl,rfl,_⟩:=drop_one hQ
  exact⟨B',cap',rfl,hr.rd,hb⟩
theorem check_c (w:World) (B cap:Nat) (h:RdL w (some ⟨B,0,none⟩) oneL):Calls Try.prog 62 #[.slice (some ⟨B,0,none⟩) oneL.length cap] w fun e W'=>e= .returned (.int .i64 0)∧Below w.heap.size w W':=by
 refine(check_any _ cap oneL w h).mono ?_
 rintro e W' ⟨(⟨_,h1⟩ |⟨h1,_⟩),hb⟩
 ·exact⟨h1,hb⟩
 ·exact absurd one_v h1
theorem check_n (w:World) (B cap:Nat) (h:RdL w (some ⟨B,0,none⟩) [1]):Calls Try.prog 62 #[.slice (some ⟨B,0,none⟩) [(1:Int)].length cap] w fun e W'=>e= .returned (.int .i64 600)∧Below w.heap.size w W':=by
 refine(check_any _ cap [1] w h).mono ?_
 rintro e W' ⟨(⟨h1,_⟩ |⟨_,h1⟩),hb⟩
 ·exact absurd h1 not_valid1
 ·exact⟨h1,hb⟩
theorem rdl_lit (w:World) (x:Int):RdL (w.alloc (.cells #[.int .i64 x] 3)) (some ⟨w.heap.size,0,none⟩) [x]:=
 ⟨fun _=>⟨_,_,rfl,by simp,fun i hi=>by
  obtain rfl:i=0:=by simpa using hi
  exact(Boxed.new w 3 (.int .i64 x)).cell⟩⟩
set_option maxRecDepth 100000 in
set_option maxHeartbeats 8000000 in
theorem awake_any (w:World):Calls Try.prog 15 #[] w fun e W'=>e= .returned (.bool true)∧Below w.heap.size w W':=by
 have q1:(if(17:Int)<0∨(17:Int)>100000 then Value.tuple #[.int .i64 0,.int .i64 1]else .tuple #[.int .i64 (bkts (17:Int).toNat:Nat),.int .i64 0])= .tuple #[.int .i64 9,.int .i64 0]:=by rfl
 have q2:(if(17:Int)<0∨(17:Int)>100000 then Value.tuple #[.int .i64 0,.int .i64 1]else .tuple #[.int .i64 (wlen (17:Int).toNat:Nat),.int .i64 0])= .tuple #[.int .i64 116,.int .i64 0]:=by rfl
 have q3:(if((0:Int)≤17∧(17:Int)≤2147483647)∧(8:Int)≤9∧(9:Int)≤50000 then Value.tuple #[.int .i64 (bkt (17:Int).toNat (9:Int).toNat:Nat),.int .i64 0]else .tuple #[.int .i64 0,.int .i64 1])= .tuple #[.int .i64 1,.int .i64 0]:=by rfl
 have o60:(oneL.length:Int)=60:=by rw[oneL_len];rfl
 have n60:((oneL.length:Int) != 60)=false:=by rw[o60];rfl
 have j0:(0:Int)<(oneL.length:Int):=by omega
 have j9:(9:Int)<(oneL.length:Int):=by omega
 have j12:(12:Int)<(oneL.length:Int):=by omega
 have j13:(13:Int)<(oneL.length:Int):=by omega
 have j14:(14:Int)<(oneL.length:Int):=by omega
 have H60:=Lib.hid o60
 clear o60
 go_enter Try.func15,Try.ntmps15
 go_wp2_with (first
  |(go_at_call 16;refine(bucketsX_any 17 _).mono ?_;rintro e wz ⟨rfl,hwz⟩;rw[q1,hwz];clear hwz wz)
  |(go_at_call 17;refine(lengthX_any 17 _).mono ?_;rintro e wz ⟨rfl,hwz⟩;rw[q2,hwz];clear hwz wz)
  |(go_at_call 20;refine(bucketX_any 17 9 _).mono ?_;rintro e wz ⟨rfl,hwz⟩;rw[q3,hwz];clear hwz wz))
 refine(new_c w).mono ?_
 rintro e w1 ⟨B0,cap0,rfl,hr0,hb1⟩
 go_wp2_with fail
 refine(add_c w1 B0 cap0 hr0).mono ?_
 rintro e w2 ⟨B1,cap1,rfl,hr1,hb2⟩
 have c0:w2.cell? ⟨B1,0,none⟩=some (.int .i64 1):=by have h:=hr1.cell rfl (i:=0) (by have:=H60.out;omega);rw[oneL_0]at h;simpa using h
 have c9:w2.cell? ⟨B1,9,none⟩=some (.int .i64 1):=by have h:=hr1.cell rfl (i:=9) (by have:=H60.out;omega);rw[oneL_9]at h;simpa using h
 have c12:w2.cell? ⟨B1,12,none⟩=some (.int .i64 5):=by have h:=hr1.cell rfl (i:=12) (by have:=H60.out;omega);rw[oneL_12]at h;simpa using h
 have c13:w2.cell? ⟨B1,13,none⟩=some (.int .i64 70):=by have h:=hr1.cell rfl (i:=13) (by have:=H60.out;omega);rw[oneL_13]at h;simpa using h
 have c14:w2.cell? ⟨B1,14,none⟩=some (.int .i64 0):=by have h:=hr1.cell rfl (i:=14) (by have:=H60.out;omega);rw[oneL_14]at h;simpa using h
 have hB2:Below w.heap.size w w2:=hb1.trans (hb2.mono hb1.size)
 clear hr0 hb1 hb2
 go_wp2_with fail
 refine(find_c w2 B1 cap1 hr1).mono ?_
 rintro e w3 ⟨A,c,rfl,hr2,hb3⟩
 clear c0 c9 c12 c13 c14 j0 j9 j12 j13 j14
 have hr3:=hr1.below hb3
 have hB3:=hB2.trans (hb3.mono hB2.size)
 clear hr1 hb3 hB2
 go_wp2_with fail
 have hb4:Below w3.heap.size w3 (w3.alloc (.cells #[.int .i64 70] 3)):=(Below.refl _ _).alloc (Nat.le_refl _) _
 refine(same_any A (some ⟨w3.heap.size,0,none⟩) c 1 [70] [70] _ (hr2.below hb4) (rdl_lit w3 70) (by simp) (by simp)).mono ?_
 rintro e w4 ⟨rfl,hb5⟩
 rw[show decide (([70]:List Int)=[70])=true by simp]
 have hr4:=(hr3.below hb4).below hb5
 have hB4:=(hB3.trans (hb4.mono hB3.size)).trans (hb5.mono (Nat.le_trans hB3.size hb4.size))
 clear hr2 hr3 hb4 hb5 hB3
 go_wp2_with fail
 refine(check_c w4 B1 cap1 hr4).mono ?_
 rintro e w5 ⟨rfl,hb5⟩
 have hr5:=hr4.below hb5
 have hB5:=hB4.trans (hb5.mono hB4.size)
 clear hr4 hb5 hB4
 go_wp2_with fail
 refine(drop_c w5 B1 cap1 hr5).mono ?_
 rintro e w6 ⟨B2,cap2,rfl,hr6,hb6⟩
 have hB6:=hB5.trans (hb6.mono hB5.size)
 clear hr5 hb6 hB5
 go_wp2_with fail
 refine(new_c w6).mono ?_
 rintro e w7 ⟨B3,cap3,rfl,hr7,hb7⟩
 have hr6':=hr6.below hb7
 have hB7:=hB6.trans (hb7.mono hB6.size)
 clear hr6 hb7 hB6
 go_wp2_with fail
 refine(same_any (some ⟨B2,0,none⟩) (some ⟨B3,0,none⟩) cap2 cap3 freshL freshL w7 hr6' hr7 (by rw[freshL_len];omega) (by rw[freshL_len];omega)).mono ?_
 rintro e w8 ⟨rfl,hb8⟩
 rw[show decide (freshL=freshL)=true by simp]
 have hB8:=hB7.trans (hb8.mono hB7.size)
 clear hr6' hr7 hb8 hB7
 go_wp2_with fail
 have hb9:Below w8.heap.size w8 (w8.alloc (.cells #[.int .i64 1] 3)):=(Below.refl _ _).alloc (Nat.le_refl _) _
 refine(check_n _ w8.heap.size 1 (rdl_lit w8 1)).mono ?_
 rintro e w9 ⟨rfl,hb10⟩
 have hB9:=(hB8.trans (hb9.mono hB8.size)).trans (hb10.mono (Nat.le_trans hB8.size hb9.size))
 clear hb9 hb10 hB8
 go_wp2
 go_ret
 exact⟨rfl,hB9⟩
end Go.Proofs.Ytdcomhdadnhpnaa
end
section
namespace Go.Proofs.Ytdcomhdadnhpnaa
open Go.RowKit
theorem rBuckets_any (n:Int) (w:World) (h0:0≤n) (h1:n≤1000000):
  Calls Try.prog 18 #[.int .i64 n] w fun e w'=>e= .returned (.int .i64 (bkts n.toNat:Nat))∧w'=w:=by
 by_cases h:n≤16
 ·go_enter Try.func18,Try.ntmps18
  go_wp2
  go_ret
  exact⟨ret_int (by unfold bkts;rw[if_pos (by omega)];rfl),rfl⟩
 ·go_enter Try.func18,Try.ntmps18
  go_wp2
  go_ret
  exact⟨ret_int (by unfold bkts;rw[if_neg (by omega)];omega),rfl⟩
theorem rLength_any (n:Int) (w:World) (h0:0≤n) (h1:n≤1000000):
  Calls Try.prog 19 #[.int .i64 n] w fun e w'=>e= .returned (.int .i64 (wlen n.toNat:Nat))∧w'=w:=by
 by_cases h:n=0
 ·subst h
  go_enter Try.func19,Try.ntmps19
  go_wp2
  go_ret
  exact⟨ret_int (by decide),rfl⟩
 ·have hb:(n==0)=false:=by simpa using h
  have HE:=Lib.hid h
  clear h
  go_enter Try.func19,Try.ntmps19
  go_wp2
  go_ret
  exact⟨ret_int (by have:=HE.out;unfold wlen;omega),rfl⟩
theorem rIsHash_yes (h:Int) (w:World) (h0:0≤h) (h1:h≤2147483647):
  Calls Try.prog 21 #[.int .i64 h] w fun e w'=>e= .returned (.bool true)∧w'=w:=by
 go_enter Try.func21,Try.ntmps21
 go_wp2
 go_ret
 exact⟨rfl,rfl⟩
theorem rIsHash_no (h:Int) (w:World) (h0:¬(0≤h∧h≤2147483647)):
  Calls Try.prog 21 #[.int .i64 h] w fun e w'=>e= .returned (.bool false)∧w'=w:=by
 by_cases h1:0≤h
 ·have h2:2147483647<h:=by omega
  clear h0
  go_enter Try.func21,Try.ntmps21
  go_wp2
  go_ret
  exact⟨by simp;omega,rfl⟩
 ·have h2:h<0:=by omega
  clear h0
  go_enter Try.func21,Try.ntmps21
  go_wp2
  go_ret
  exact⟨rfl,rfl⟩
theorem rIsHash_any (h:Int) (w:World):
  Calls Try.prog 21 #[.int .i64 h] w fun e w'=>e= .returned (.bool (decide (0≤h∧h≤2147483647)))∧w'=w:=by
 by_cases h0:0≤h∧h≤2147483647
 ·rw[decide_eq_true h0];exact rIsHash_yes h w h0.1 h0.2
 ·rw[decide_eq_false h0];exact rIsHash_no h w h0
theorem rPower_any (b:Int) (w:World) (h0:1≤b) (h1:b≤1000000):
  Calls Try.prog 67 #[.int .i64 b] w fun e w'=>e= .returned (.int .i64 (pow2 b.toNat:Nat))∧w'=w:=by
 go_enter Try.func67,Try.ntmps67
 go_wp2
 go_loop [3] (fun p=>∃k:Nat,p= .int .i64 ((2^k:Nat):Int)∧Hid (k≤Nat.log2 b.toNat)) (fun p=>(b-intOf p).toNat)
 case atStart=>exact⟨0,rfl,Nat.zero_le _⟩
 case round=>
  obtain⟨k,rfl,hk⟩:=hrel
  have hb:b.toNat≠0:=by omega
  have h2:2^k≤b.toNat:=(log2_le_iff _ _ hb).2 hk
  have h3:0<2^k:=Nat.two_pow_pos k
  have HS:Hid (2^(k+1)=2*2^k):=by show 2^(k+1)=2*2^k;rw[Nat.pow_succ];omega
  have HK:Hid (2^(k+1)≤b.toNat↔k+1≤Nat.log2 b.toNat):=log2_le_iff _ _ hb
  clear hb
  generalize hp:2^k=p at*
  have HP:Hid (2^k=p):=hp
  clear hp
  have h4:(p:Int)≤1000000:=by omega
  by_cases hc:2*(p:Int)≤b
  ·go_wp2
   go_round
   case rel=>exact⟨k+1,by rw[HS.out];simp,HK.out.1 (by rw[HS.out];omega)⟩
   case measure=>simp[intOf];omega
  ·go_wp2
   go_ret
   refine⟨ret_int ?_,rfl⟩
   unfold pow2
   have:Nat.log2 b.toNat=k:=by
    have a:=hk.out
    by_cases e:k+1≤Nat.log2 b.toNat
    ·have:=HK.out.2 e;rw[HS.out]at this;omega
    ·omega
   rw[this,HP.out]
theorem rBucket_any (h b:Int) (w:World) (h0:0≤h) (h1:h≤4294967296) (b0:1≤b) (b1:b≤1000000):
  Calls Try.prog 22 #[.int .i64 h,.int .i64 b] w fun e w'=>e= .returned (.int .i64 (bkt h.toNat b.toNat:Nat))∧w'=w:=by
 have p0:=pow2_pos b.toNat
 have p1:pow2 b.toNat≤b.toNat:=pow2_le (by omega)
 by_cases hc:h.toNat%(2*pow2 b.toNat)<b.toNat
 ·have HB:Hid (bkt h.toNat b.toNat=h.toNat%(2*pow2 b.toNat)):=by show _=_;unfold bkt;rw[if_pos hc]
  have hh:=Nat.mod_lt h.toNat (show 0<2*pow2 b.toNat by omega)
  generalize hp:pow2 b.toNat=p at*
  have HP:Hid (pow2 b.toNat=p):=hp
  clear hp
  have hc':h%(2*(p:Int))<b:=by
   have e:((h.toNat%(2*p):Nat):Int)=h%(2*(p:Int)):=by rw[Int.natCast_emod];congr 1;omega
   omega
  clear hc hh
  go_enter Try.func22,Try.ntmps22
  go_wp2_with (go_at_call 67;refine(rPower_any b w b0 b1).mono ?_;rintro e w1 ⟨rfl,rfl⟩;rw[HP.out])
  go_ret
  exact⟨ret_int (by rw[HB.out];rw[Int.natCast_emod];congr 1;omega),rfl⟩
 ·have HB:Hid (bkt h.toNat b.toNat=h.toNat%pow2 b.toNat):=by show _=_;unfold bkt;rw[if_neg hc]
  generalize hp:pow2 b.toNat=p at*
  have HP:Hid (pow2 b.toNat=p):=hp
  clear hp
  have hc':b≤h%(2*(p:Int)):=by
   have e:((h.toNat%(2*p):Nat):Int)=h%(2*(p:Int)):=by rw[Int.natCast_emod];congr 1;omega
   omega
  clear hc
  go_enter Try.func22,Try.ntmps22
  go_wp2_with (go_at_call 67;refine(rPower_any b w b0 b1).mono ?_;rintro e w1 ⟨rfl,rfl⟩;rw[HP.out])
  go_ret
  exact⟨ret_int (by rw[HB.out];rw[Int.natCast_emod];congr 1;omega),rfl⟩
end Go.Proofs.Ytdcomhdadnhpnaa
end
section
namespace Go.Proofs.Ytdcomhdadnhpnaa
open Go.RowKit
end Go.Proofs.Ytdcomhdadnhpnaa
end
section
namespace Go.Proofs.Ytdcomhdadnhpnaa
open Go.RowKit Go.Shelf
open Go.Proofs.YtdcomhdadnhpnaaW.PrintWords (own_move)
theorem info31:(Try.prog.info? 31).map (fun i=>(i.zero,i.size,i.bytes))=some (some (.slice none 0 0),1,24):=by kernel_rfl
theorem own_grown {W W':World} {base size n:Nat} {e:TypeId} {u:Value} {xs:List Value} {row:Option Nat} (h:W.ownsRow base e size u n xs) (hg:W.grownBy W' row) (hne:∀g,row=some g→u.ownBlock≠some g):W'.ownsRow base e size u n xs:=
 own_move h (fun k hk=>hg.block k (h.lt k hk).2 (fun e=>hne k e.symm hk))
def Rws (W:World) (base:Nat) (v:Value) (k:Nat) (C:Nat→List Nat):Prop:=
 ∃xs:List Value,W.ownsRow base 31 1 v k xs∧∀i,i<k→∃u,xs[i]? =some u∧W.ownsRow base 3 1 u (C i).length ((C i).map encN)∧∀g,v.ownBlock=some g→u.ownBlock≠some g
theorem Rws.push {W W':World} {base k:Nat} {v v' u:Value} {C:Nat→List Nat} {xs:List Value} (h1:W.ownsRow base 31 1 v k xs) (h2:∀i,i<k→∃u,xs[i]? =some u∧W.ownsRow base 3 1 u (C i).length ((C i).map encN)∧∀g,v.ownBlock=some g→u.ownBlock≠some g)
  (hu:W.ownsRow base 3 1 u (C k).length ((C k).map encN)) (hne:∀g,v.ownBlock=some g→u.ownBlock≠some g) (ho:W'.ownsRow base 31 1 v' (k+1) (xs++[u])) (hg:W.grownBy W' v.ownBlock) (hat:v'.ownBlock=v.ownBlock∨v'.ownBlock=some W.heap.size):
  Rws W' base v' (k+1) C:=by
 have hlen:xs.length=k:=by have:=h1.1;simpa using this
 have hfar:∀ {w:Value} {n:Nat} {ys:List Value},W.ownsRow base 3 1 w n ys→(∀g,v.ownBlock=some g→w.ownBlock≠some g)→W'.ownsRow base 3 1 w n ys∧∀g,v'.ownBlock=some g→w.ownBlock≠some g:=fun {w n ys} hw hn=>
  ⟨own_grown hw hg hn,fun g hg'=>by
   rcases hat with e |e
   ·exact hn g (e ▸ hg')
   ·intro e2
    rw[e]at hg'
    injection hg' with hg'
    have:=(hw.lt g e2).2
    omega⟩
 refine⟨xs++[u],ho,fun i hi=>?_⟩
 by_cases e:i=k
 ·subst e
  exact⟨u,by rw[←hlen];simp,hfar hu hne⟩
 ·obtain⟨w,hw,h3,h4⟩:=h2 i (by omega)
  exact⟨w,by rw[List.getElem?_append_left (by omega)];exact hw,hfar h3 h4⟩
set_option maxRecDepth 100000 in
set_option maxHeartbeats 4000000 in
theorem chainsX_any (A:Option Addr) (c:Nat) (l:List Int) (w:World) (hR:RdL w A l):
  Calls Try.prog 25 #[.slice A l.length c] w fun e W'=>((¬ ValidL l∧e= .returned (.tuple #[.slice none 0 0,.int .i64 600]))∨
   (ValidL l∧∃n C v,HeadOk l n∧G l n (bkts n) C∧e= .returned (.tuple #[v,.int .i64 0])∧Rws W' w.heap.size v (bkts n) C))∧Below w.heap.size w W':=by
 go_enter Try.func25,Try.ntmps25
 go_wp2_with fail
 refine(opened_any A c l 0 w hR).mono ?_
 rintro e w1 ⟨(⟨hV,rfl⟩ |⟨hV,hh,rfl⟩ |⟨hV,hh,p,B,cap,rfl,hT⟩),hB1⟩
 ·go_wp2
  refine bodyPost_ret (v:=.tuple #[.slice none 0 0,.int .i64 600]) (by simp[results,Try.results25,go_sem]) rfl ?_
  exact⟨.inl ⟨hV,rfl⟩,hB1⟩
 ·exact absurd (by decide) hh
 ·obtain⟨C,hH,g⟩:=validL_iff.1 hV
  generalize (ati l 0).toNat=n at hH g
  obtain⟨i0,hinf,hz0,hz1,hz2⟩:=info_parts info31
  have hlen:=hH.len
  have hl60:=wlen_ge n
  have hnn:=g.n1
  have hll:=wlen_le n (by omega)
  have hb1:=bkts_le n (by omega)
  have hl4:4≤l.length:=by omega
  have hl8:l.length≤100000000:=by omega
  have hall:∀k,k<bkts n→∀W:World,TblR W p B 0 cap l→Calls Try.prog 71 #[.pointer (some ⟨p,0,none⟩),.int .i64 (k:Nat)] W fun e W'=>
    ∃v,e= .returned v∧W'.ownsRow W.heap.size 3 1 v (C k).length ((C k).map encN)∧Below W.heap.size W W':=fun k hk W hTW=>by
   have h:=all_any p B 0 cap k l (wf (headAt k) (C k)) (by omega) hl8 hl4 W hTW (g.chn k hk).chn (by rw[wf_len];have:=g.clen hk;omega)
   have hm:(wf (headAt k) (C k)).map encR=(C k).map encN:=by
    have:(wf (headAt k) (C k)).map encR=((wf (headAt k) (C k)).map (·.1)).map encN:=by rw[List.map_map];rfl
    rw[this,wf_map]
   rw[wf_len,hm]at h
   exact h
  have hp:=hT.head
  have c1:=hT.cell 1 (by omega)
  rw[hH.b1]at c1
  have i1:(1:Int)<(l.length:Int):=by omega
  have HH:=Lib.hid hH
  have HG:=Lib.hid g
  have HV:=Lib.hid hV
  have HALL:=Lib.hid hall
  have hs1:=hB1.size
  clear hlen hH g hV hall hh
  go_wp2
  obtain⟨nb,hnb⟩:∃nb,nb=w1.heap.size:=⟨_,rfl⟩
  clear hp c1 i1
  go_loopw [6,22] (fun v kk wr=>∃k:Nat,k≤bkts n∧kk= .int .i64 (k:Nat)∧Hid (Rws wr nb v k C)∧Below nb w1 wr∧nb≤wr.heap.size) (fun _ kk _=>bkts n-(intOf kk).toNat)
  case atStart=>exact⟨0,Nat.zero_le _,rfl,⟨[],World.ownsRow_nil _ _ _ _,fun i hi=>absurd hi (by omega)⟩,Below.refl _ _,by omega⟩
  case round=>
   obtain⟨k,hk,rfl,HR,hBr,hzr⟩:=hrel
   have hTr:=hT.below (by rw[←hnb];exact hBr)
   have HNB:=Lib.hid hnb
   clear hnb
   by_cases hlt:k<bkts n
   ·have hk':(k:Int)<(bkts n:Int):=by omega
    obtain⟨xs,ho,hx⟩:=HR.out
    clear HR
    have e1:IntKind.i64.wrap ((k:Int)+1)=(k:Int)+1:=IntWalk.i64_in _ (by omega)
    have HO:=Lib.hid ho
    have HX:=Lib.hid hx
    clear ho hx
    go_wp2_with (first
     |(go_at_call 71;refine(HALL.out k hlt _ hTr.r).mono ?_;rintro e w2 ⟨u,rfl,hu,hb2⟩;obtain⟨A',c',rfl⟩:=own_form hu;have HU:=Lib.hid hu;clear hu)
     |(at_builtin;refine wpList_append_own_at _ rfl _ _ 35 rfl nb 31 i0 (.slice none 0 0) 1 24 Try.underlying35 hinf hz0 hz1 hz2 rfl (by decide) _ k xs rfl (own_move (w1:=w2.alloc (.cells #[.slice A' (C k).length c'] 31)) HO.out (fun j hj=>(Below.heap_alloc _ _ _ (Nat.lt_of_lt_of_le (HO.out.lt j hj).2 hb2.size)).trans (hb2.block j (HO.out.lt j hj).2))) ⟨w2.heap.size,0,none⟩ 1 1 [.slice A' (C k).length c'] rfl rfl (cell_one_new _ _ _) (by simp[Value.oneCell']) (by unfold maxLen;omega) (by omega) (by have:=hb2.size;simp;omega) ?_;intro v' w3 ho3 hg3 _ hat3;have HO3:=Lib.hid ho3;clear ho3))
    go_roundw
    case rel=>
     have hz2:=hb2.size
     have hz3:=hg3.size
     have hba:Below nb w1 (w2.alloc (.cells #[.slice A' (C k).length c'] 31)):=(hBr.trans (hb2.mono hzr)).alloc (by omega) _
     have hoo:(w2.alloc (.cells #[.slice A' (C k).length c'] 31)).ownsRow nb 31 1 u6 k xs:=own_move HO.out (fun j hj=>(Below.heap_alloc _ _ _ (Nat.lt_of_lt_of_le (HO.out.lt j hj).2 hb2.size)).trans (hb2.block j (HO.out.lt j hj).2))
     have hmv:∀ {z:Value} {q:Nat} {ys:List Value},wr.ownsRow nb 3 1 z q ys→(w2.alloc (.cells #[.slice A' (C k).length c'] 31)).ownsRow nb 3 1 z q ys:=fun hz=>own_move hz (fun j hj=>(Below.heap_alloc _ _ _ (Nat.lt_of_lt_of_le (hz.lt j hj).2 hb2.size)).trans (hb2.block j (hz.lt j hj).2))
     refine⟨k+1,by omega,by go_num,?_,hba.grown hg3 (by simp;omega) (fun j hj=>(HO.out.lt j hj).1),by simp at hz3;omega⟩
     refine Rws.push hoo (fun i hi=>?_) (own_move (own_mono HU.out hzr) (fun j hj=>Below.heap_alloc _ _ _ (HU.out.lt j hj).2)) (fun g hg hg2=>?_) HO3.out hg3 hat3
     ·obtain⟨z,h1,h2,h3⟩:=HX.out i hi
      exact⟨z,h1,hmv h2,h3⟩
     ·have h1:=(HO.out.lt g hg).2
      have h2:=(HU.out.lt g hg2).1
      omega
    case measure=>simp[intOf];omega
   ·have hkk:k=bkts n:=by omega
    subst hkk
    have hk':¬((bkts n:Nat):Int)<(bkts n:Int):=by omega
    go_wp2
    refine bodyPost_ret (v:=.tuple #[_,.int .i64 0]) (by simp[results,Try.results25,go_sem];rfl) rfl ?_
    refine⟨.inr ⟨HV.out,n,HH.out,C,HG.out,_,rfl,?_⟩,hB1.trans (hBr.mono (by have:=HNB.out;omega))⟩
    obtain⟨xs,ho,hx⟩:=HR.out
    exact⟨xs,own_mono ho (by have:=HNB.out;omega),fun i hi=>by
     obtain⟨u,h1,h2,h3⟩:=hx i hi
     exact⟨u,h1,own_mono h2 (by have:=HNB.out;omega),h3⟩⟩
end Go.Proofs.Ytdcomhdadnhpnaa
end
section
namespace Go.Proofs.Ytdcomhdadnhpnaa
variable {l l':List Int} {n b:Nat} {C C':Nat→List Nat}
theorem G.drop_el (g:G l n (bkts n) C) (hH:HeadOk l n) {h x:Int} {k:Nat} (hD:DropS l n C h x k l' C'):
  ∃r,r<n∧hits l h x r∧∀s,s<n-1→∀a,a<2→ati l' (recAt s+a)=ati l (recAt (if s=r then n-1 else s)+a):=by
 obtain⟨pre,r,post,k1,l1,C1,k2,l2,hC,hh,_,hM,hJ,rfl,rfl⟩:=hD
 have hi:bkt h.toNat (bkts n)<bkts n:=bkt_lt _ (by have:=g.b8;omega)
 have hrn:r<n:=g.lt hi (by rw[hC];simp)
 refine⟨r,hrn,hh,fun s hs a ha=>?_⟩
 have hrs:=recAt_wlen (n:=n-1) hs
 rw[ati_sizedL,if_neg (by have:=recAt_ge s;omega),if_neg (by have:=recAt_ge s;omega),if_neg (by have:=recAt_ge s;omega),if_pos (by omega)]
 have g1:=g.gs.rem hi hC
 have hml:recAt (n-1)+2<l1.length:=(g1.move hrn hM).1.rl (n-1) (by omega)
 have h2:ati l2 (recAt s+a)=ati (zerL l1 (n-1)) (recAt s+a):=by
  rcases hJ with⟨_,_,rfl,_⟩ |⟨_,_,rfl,_⟩
  ·rfl
  ·exact joiL_ati _ _ _ _ _ (fun e=>head_rec e.symm (by omega)) (fun e=>head_rec e.symm (by omega)) (fun t _ e=>by have:=(recAt_inj e (by omega) (by omega)).2;omega)
 have h3:ati (zerL l1 (n-1)) (recAt s+a)=ati l1 (recAt s+a):=by
  have hne:∀c,c<3→recAt s+a≠recAt (n-1)+c:=fun c hc e=>by have:=(recAt_inj e (by omega) hc).1;omega
  rw[ati_zerL hml,if_neg (by rintro(e |e |e);exact hne 0 (by omega) e;exact hne 1 (by omega) e;exact hne 2 (by omega) e)]
 have hr0:∀t c,c<2→ati (remL l (endp (headAt (bkt h.toNat (bkts n))) pre) r) (recAt t+c)=ati l (recAt t+c):=fun t c hc=>ati_set_ne (endp_no01 _ _ _ _ hc)
 rw[h2,h3]
 rcases hM with⟨e,_,rfl,_⟩ |⟨hne,pre',post',hC',_,rfl,_⟩
 ·rw[hr0 s a ha,if_neg (by omega)]
 ·have hj:bkt (ati (remL l (endp (headAt (bkt h.toNat (bkts n))) pre) r) (recAt (n-1))).toNat (bkts n)<bkts n:=bkt_lt _ g1.bpos
  have hrl:recAt r+2<(remL l (endp (headAt (bkt h.toNat (bkts n))) pre) r).length:=g1.rl r hrn
  have hle:=g1.chn _ hj
  dsimp only at hC' hle
  rw[hC']at hle
  have hn2:∀c,c<3→endp (headAt (bkt (ati (remL l (endp (headAt (bkt h.toNat (bkts n))) pre) r) (recAt (n-1))).toNat (bkts n))) pre'≠recAt r+c:=fun c hc e=>by
   rcases endp_cases (headAt (bkt (ati (remL l (endp (headAt (bkt h.toNat (bkts n))) pre) r) (recAt (n-1))).toNat (bkts n))) pre' with⟨_,e2⟩ |⟨t,ht,e2⟩
   ·exact head_rec (e2.symm.trans e) hc
   ·have e3:=(recAt_inj (e2.symm.trans e) (by omega) hc).1
    exact((g1.mem _ hj t).1 (by rw[hC'];simp[ht])).1.2 e3
  rw[ati_movL hrl hle.split.endlt (hn2 0 (by omega)) (hn2 1 (by omega)) (hn2 2 (by omega)),if_neg (fun e=>endp_no01 _ _ _ _ ha e.symm)]
  by_cases e:s=r
  ·subst e
   rw[if_pos rfl]
   rcases(by omega:a=0∨a=1)with rfl |rfl
   ·simp;exact hr0 _ 0 (by omega)
   ·simp;exact hr0 _ 1 (by omega)
  ·have hne3:∀c,c<3→recAt s+a≠recAt r+c:=fun c hc e2=>e (recAt_inj e2 (by omega) hc).1
   rw[if_neg e,if_neg (hne3 2 (by omega)),if_neg (hne3 1 (by omega)),if_neg (show ¬recAt s+a=recAt r from hne3 0 (by omega)),hr0 s a ha]
end Go.Proofs.Ytdcomhdadnhpnaa
end
