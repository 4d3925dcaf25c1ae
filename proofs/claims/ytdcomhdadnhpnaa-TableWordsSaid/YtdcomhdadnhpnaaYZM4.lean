import Derived.Test.YtdcomhdadnhpnaaYZM2
import Derived.Test.YtdcomhdadnhpnaaYZM3
import Derived.Deep.RegionHeld3
set_option linter.all false
namespace Go.Proofs.Ytdcomhdadnhpnaa
open Go.RowKit Go.Shelf
attribute [local go_sem] Oper.semAt_some
theorem cell_set_off (w:World) (b o o':Nat) (v:Value) (h:o≠o'):(w.setCell ⟨b,o,none⟩ v).cell? ⟨b,o',none⟩=w.cell? ⟨b,o',none⟩:=by
 unfold World.cell? World.setCell
 simp only[Array.getElem?_modify,if_true]
 cases w.heap[b]? with
 |none=>rfl
 |some ob=>cases ob<;>simp[Array.getElem?_setIfInBounds,h]
def preR (l:List Int) (h:Int) (rs:List Nat):List Nat:=rs.takeWhile (fun r=>decide (ati l (recAt r)≤h))
def addC (l:List Int) (n:Nat) (C:Nat→List Nat) (h:Int):Nat→List Nat:=fun k=>
 if k=bkt h.toNat (bkts n)then preR l h (C k)++n::(C k).drop (preR l h (C k)).length else C k
def hasR (l:List Int) (h x:Int) (rs:List Nat):Bool:=rs.any (fun r=>decide (ati l (recAt r)=h∧ati l (recAt r+1)=x))
def addR (l:List Int) (n:Nat) (C:Nat→List Nat) (h x:Int):Int×Int×List Int:=
 if ¬(0≤h∧h≤2147483647)then(0,1,l)
 else if hasR l h x (C (bkt h.toNat (bkts n)))=true then(0,6,l)
 else if n=100000 then(0,3,l)
 else
  if bkts n<bkts (n+1)then
   ((min (C (bkt h.toNat (bkts n))).length ((preR l h (C (bkt h.toNat (bkts n)))).length+1):Nat)+((addC l n C h (bkts n-pow2 (bkts n))).length:Nat),0,
    divL (addL l n (endp (headAt (bkt h.toNat (bkts n))) (preR l h (C (bkt h.toNat (bkts n))))) h x) (bkts n) (addC l n C h (bkts n-pow2 (bkts n))))
  else((min (C (bkt h.toNat (bkts n))).length ((preR l h (C (bkt h.toNat (bkts n)))).length+1):Nat),0,addL l n (endp (headAt (bkt h.toNat (bkts n))) (preR l h (C (bkt h.toNat (bkts n))))) h x)
theorem findC_wf_no {l:List Int} {h x:Int} {f:Nat} {rs:List Nat} (hr:hasR l h x rs=false):findC l h x (wf f rs) 0=(-1,0,((rs.length:Nat):Int)):=by
 refine(findC_none _ 0 (fun q hq hh=>?_)).trans ?_
 rotate_left
 ·simp[wf_len]
 ·have:q.1∈rs:=by rw[←wf_map f rs];exact List.mem_map_of_mem hq
  unfold hasR at hr
  rw[List.any_eq_false]at hr
  exact absurd (decide_eq_true (show _∧_ from hh)) (hr q.1 this)
theorem findC_wf_yes {l:List Int} {h x:Int} {f:Nat} {rs:List Nat} (hr:hasR l h x rs=true):
  ∃pre r post,rs=pre++r::post∧(∀s∈pre,¬hits l h x s)∧hits l h x r∧findC l h x (wf f rs) 0=((r:Int),(endp f pre:Int),((pre.length:Nat):Int)+1):=by
 induction rs generalizing f with
 |nil=>simp[hasR]at hr
 |cons a rs ih=>
  by_cases ha:hits l h x a
  ·exact⟨[],a,rs,rfl,by simp,ha,by rw[wf];exact findC_some ha [] 0 (by simp)⟩
  ·have hr':hasR l h x rs=true:=by
    unfold hasR at hr ⊢
    rw[List.any_cons,decide_eq_false (show ¬(_∧_)from ha),Bool.false_or]at hr
    exact hr
   obtain⟨pre,r,post,rfl,h1,h2,_⟩:=ih (f:=f) hr'
   refine⟨a::pre,r,post,rfl,by simpa using⟨ha,h1⟩,h2,?_⟩
   have:=findC_some (l:=l) (h:=h) (x:=x) (r:=r) (f:=endp f (a::pre)) (rest:=wf (recAt r+2) post) h2 (wf f (a::pre)) 0 (fun q hq=>by
    have:q.1∈a::pre:=by rw[←wf_map f (a::pre)];exact List.mem_map_of_mem hq
    rcases List.mem_cons.1 this with e |e
    ·rw[e];exact ha
    ·exact h1 _ e)
   have e:wf f (a::pre++r::post)=wf f (a::pre)++(r,endp f (a::pre))::wf (recAt r+2) post:=by rw[wf_append];rfl
   refine(congrArg (fun z=>findC l h x z 0) e).trans (this.trans ?_)
   simp[wf_len]
theorem Fr.putObj {p B:Nat} {a w:World} (h:Fr p B a w) {D:Nat} (hD:a.heap.size≤D) (o:Obj):Fr p B a (w.putObj D o):=
 ⟨h.os,h.tape,h.output,by have:=h.size;simpa[World.putObj]using this,fun k hk h1 h2=>(World.putObj_heap_other (by omega)).trans (h.block k hk h1 h2)⟩
theorem Tb.putObj {base:Nat} {w:World} {p B cap:Nat} {l:List Int} (h:Tb base w p B cap l) {D:Nat} (o:Obj) (h1:p≠D) (h2:B≠D):Tb base (w.putObj D o) p B cap l:=
 ⟨h.pb,h.bb,h.ne,(World.putObj_heap_other h1).trans h.hp,by obtain⟨cur,hh,r⟩:=h.row;exact⟨cur,(World.putObj_heap_other h2).trans hh,r⟩,h.le,h.capm⟩
theorem Fr.boxed {p B b:Nat} {t:TypeId} {v:Value} {w w':World} (h:Fr p B w w') (hb:Boxed w b t v) (h1:b≠p) (h2:b≠B):Boxed w' b t v:=(h.block b (lt_heap hb) h1 h2).trans hb
theorem bkts_next {n:Nat} (h:bkts n<bkts (n+1)):bkts (n+1)=bkts n+1:=by
 unfold bkts at*
 by_cases h1:n≤16
 ·by_cases h2:n+1≤16
  ·rw[if_pos h1,if_pos h2]at h;omega
  ·rw[if_pos h1,if_neg h2]at h ⊢;omega
 ·rw[if_neg h1,if_neg (by omega)]at h ⊢;omega
theorem bkts_half (n:Nat):bkts n≤8+n/2:=by unfold bkts;split<;>omega
theorem preR_split (l:List Int) (h:Int) (rs:List Nat):rs=preR l h rs++rs.drop (preR l h rs).length:=by
 unfold preR
 induction rs with
 |nil=>rfl
 |cons a rs ih=>
  rw[List.takeWhile_cons]
  split
  ·simp only[List.length_cons,List.drop_succ_cons,List.cons_append]
   exact congrArg (a:: ·) ih
  ·rfl
theorem takeWhile_all {α:Type} (f:α→Bool):∀(rs:List α),(∀r∈rs,f r=true)→rs.takeWhile f=rs
 | [],_=>rfl
 |a::rs,h=>by rw[List.takeWhile_cons,if_pos (h a (by simp)),takeWhile_all f rs (fun r hr=>h r (by simp[hr]))]
theorem takeWhile_mid {α:Type} (f:α→Bool) (y:α) (b:List α) (hy:f y=false):∀(rs:List α),(∀r∈rs,f r=true)→(rs++y::b).takeWhile f=rs
 | [],_=>by rw[List.nil_append,List.takeWhile_cons,if_neg (by simp[hy])]
 |a::rs,h=>by rw[List.cons_append,List.takeWhile_cons,if_pos (h a (by simp)),takeWhile_mid f y b hy rs (fun r hr=>h r (by simp[hr]))]
theorem drop_takeWhile_head {α:Type} (f:α→Bool):∀(rs:List α) (a:α) (t:List α),rs.drop (rs.takeWhile f).length=a::t→f a=false
 | [],a,t,h=>by simp at h
 |b::rs,a,t,h=>by
  rw[List.takeWhile_cons]at h
  split at h
  ·simp only[List.length_cons,List.drop_succ_cons]at h
   exact drop_takeWhile_head f rs a t h
  ·rename_i hb
   simp at h
   rw[←h.1];simpa using hb
theorem G_addR {l:List Int} {n:Nat} {C:Nat→List Nat} {h x:Int} (g:G l n (bkts n) C) (hlen:l.length=wlen n) (hn:n<100000) (h0:0≤h) (h1:h≤2147483647) (hhas:hasR l h x (C (bkt h.toNat (bkts n)))=false):
  G (addL l n (endp (headAt (bkt h.toNat (bkts n))) (preR l h (C (bkt h.toNat (bkts n))))) h x) (n+1) (bkts n) (addC l n C h):=by
 have hi:=bkt_lt h.toNat (b:=bkts n) (by have:=bkts_pos n;omega)
 have hs:=g.srt _ hi
 have e:addC l n C h=fun k=>if k=bkt h.toNat (bkts n)then preR l h (C (bkt h.toNat (bkts n)))++n::(C (bkt h.toNat (bkts n))).drop (preR l h (C (bkt h.toNat (bkts n)))).length else C k:=by
  funext k;unfold addC
  split
  ·rename_i e;rw[e]
  ·rfl
 rw[e]
 refine G_add g hlen hn h0 h1 (preR_split l h _) (fun r hr=>?_) (fun r hr=>?_) (fun r hr hh=>?_)
 ·have hall:∀(rs:List Nat),∀r∈preR l h rs,ati l (recAt r)≤h:=fun rs=>by
   induction rs with
   |nil=>intro r hr;cases hr
   |cons a rs ih=>
    intro r hr
    unfold preR at hr ih
    rw[List.takeWhile_cons]at hr
    split at hr
    ·rename_i ha
     rcases List.mem_cons.1 hr with rfl |hr
     ·simpa using ha
     ·exact ih r hr
    ·cases hr
  exact hall _ r hr
 ·rw[preR_split l h (C (bkt h.toNat (bkts n)))]at hs
  have hs2:=(List.pairwise_append.1 hs).2.1
  cases hd:(C (bkt h.toNat (bkts n))).drop (preR l h (C (bkt h.toNat (bkts n)))).length with
  |nil=>rw[hd]at hr;cases hr
  |cons a t=>
   have ha:=drop_takeWhile_head _ _ _ _ hd
   simp only[decide_eq_false_iff_not]at ha
   rw[hd]at hs2 hr
   rcases List.mem_cons.1 hr with rfl |hr
   ·omega
   ·have:=(List.pairwise_cons.1 hs2).1 r hr;omega
 ·have hm:r∈C (bkt h.toNat (bkts n)):=(g.mem _ hi r).2 ⟨hr,by rw[hh.1]⟩
  unfold hasR at hhas
  rw[List.any_eq_false]at hhas
  exact hhas r hm (decide_eq_true hh)
theorem HeadOk.b1' {l:List Int} {n:Nat} (h:HeadOk l n):(ati l 1).toNat=bkts n:=by rw[h.b1];omega
set_option maxRecDepth 100000 in
set_option maxHeartbeats 8000000 in
theorem add_any (base:Nat) (w:World) (p B cap:Nat) (l:List Int) (n:Nat) (C:Nat→List Nat) (h x:Int) (hT:Tb base w p B cap l) (hH:HeadOk l n) (g:G l n (bkts n) C) (hbase:base≤w.heap.size):
  Calls Try.prog 70 #[.pointer (some ⟨p,0,none⟩),.agg #[.int .i64 h,.int .i64 x]] w fun e W'=>e= .returned (.tuple #[.int .i64 (addR l n C h x).1,.int .i64 (addR l n C h x).2.1])∧
   ∃B' cap',Tb base W' p B' cap' (addR l n C h x).2.2∧Fr p B w W'∧(B'=B∨w.heap.size≤B'):=by
 by_cases hh:0≤h∧h≤2147483647
 ·have hd:decide (0≤h∧h≤2147483647)=true:=decide_eq_true hh
  have hb0:=bkts_pos n
  have hnn:=g.n1
  have hb1:=bkts_le n (by omega)
  have hlen:=hH.len
  have hl60:=wlen_ge n
  have hll:=wlen_le n (by omega)
  have hi:=bkt_lt h.toNat (b:=bkts n) (by omega)
  have ha1:=hH.b1
  have hfind:∀W:World,TblR W p B 0 cap l→Calls Try.prog 86 #[.pointer (some ⟨p,0,none⟩),.agg #[.int .i64 h,.int .i64 x]] W fun e W'=>
    e= .returned (.tuple #[.int .i64 (findC l h x (wf (headAt (bkt h.toNat (bkts n))) (C (bkt h.toNat (bkts n)))) 0).1,.int .i64 (findC l h x (wf (headAt (bkt h.toNat (bkts n))) (C (bkt h.toNat (bkts n)))) 0).2.1,.int .i64 (findC l h x (wf (headAt (bkt h.toNat (bkts n))) (C (bkt h.toNat (bkts n)))) 0).2.2])∧Below W.heap.size W W':=fun W hTW=>
   find_any p B 0 cap h x l _ (by omega) (by omega) W hh.1 (by omega) hTW (by omega) (by omega) (by rw[hH.b1'];exact(g.chn _ hi).chn)
    (fun q hq=>by
     have hm:q.1∈C (bkt h.toNat (bkts n)):=by rw[←wf_map (headAt (bkt h.toNat (bkts n))) (C (bkt h.toNat (bkts n)))];exact List.mem_map_of_mem hq
     have:=g.lt hi hm
     exact⟨g.rl _ this,by omega⟩)
    (by rw[wf_len];have:=g.clen hi;omega)
  by_cases hhas:hasR l h x (C (bkt h.toNat (bkts n)))=true
  ·have hR:addR l n C h x=(0,6,l):=by unfold addR;rw[if_neg (by simpa using hh),if_pos hhas]
   rw[hR]
   obtain⟨pre,r,post,_,_,_,hf⟩:=findC_wf_yes (f:=headAt (bkt h.toNat (bkts n))) hhas
   rw[hf]at hfind
   have hT2:=(hT.alloc (Obj.cells #[Value.pointer (some { block:=p,off:=0 })] 92)).alloc (Obj.cells #[Value.int IntKind.i64 h,Value.int IntKind.i64 x] 43)
   have HF:=Lib.hid hfind
   have HG:=Lib.hid g
   have HH:=Lib.hid hH
   clear hf hfind g hH hhas
   go_enter Try.func70,Try.ntmps70
   go_wp2_with (first
    |(go_at_call 65;refine(right_any _ _).mono ?_;rintro e w8 ⟨rfl,rfl⟩;rw[hd])
    |(go_at_call 86;refine(HF.out _ hT2.r).mono ?_;rintro e w8 ⟨rfl,hb8⟩))
   refine bodyPost_ret (v:=.tuple #[.int .i64 0,.int .i64 6]) (by simp[results,Try.results70,go_sem]) rfl ?_
   exact⟨rfl,B,cap,hT2.below hb8,(((Fr.refl _ _ _).alloc _).alloc _).trans (Fr.of_below hb8),.inl rfl⟩
  ·have hhas:hasR l h x (C (bkt h.toNat (bkts n)))=false:=by simpa using hhas
   have hf:=findC_wf_no (f:=headAt (bkt h.toNat (bkts n))) hhas
   rw[hf]at hfind
   have hT2:=(hT.alloc (Obj.cells #[Value.pointer (some { block:=p,off:=0 })] 92)).alloc (Obj.cells #[Value.int IntKind.i64 h,Value.int IntKind.i64 x] 43)
   have HF:=Lib.hid hfind
   have HG:=Lib.hid g
   have HH:=Lib.hid hH
   clear hf hfind g hH
   by_cases hmax:n=100000
   ·have hR:addR l n C h x=(0,3,l):=by unfold addR;rw[if_neg (by simpa using hh),if_neg (by simp[hhas]),if_pos hmax]
    rw[hR]
    have hc0:ati l 0=100000:=by have:=HH.out.n0;omega
    have HM:=Lib.hid hmax
    clear hhas hmax
    have hbt:=(Boxed.new w 92 (.pointer (some ⟨p,0,none⟩))).alloc (Obj.cells #[Value.int IntKind.i64 h,Value.int IntKind.i64 x] 43)
    go_enter Try.func70,Try.ntmps70
    go_wp2_with (first
     |(go_at_call 65;refine(right_any _ _).mono ?_;rintro e w8 ⟨rfl,rfl⟩;rw[hd])
     |(go_at_call 86;refine(HF.out _ hT2.r).mono ?_;rintro e w8 ⟨rfl,hb8⟩;have hT3:=hT2.below hb8))
    refine region_still (by kernel_rfl) (by kernel_rfl) (fun w7 hw7=>?_)
    have hb7:=hb8.drew
    rw[←hw7]at hb7
    have hT7:=hT2.below hb7
    have bt:=boxed_below hbt hb7
    clear hw7 hT3
    have ct:=bt.cell
    have hp7:=hT7.head
    have hc1:=hT7.cell 1 (by omega)
    have i1:(1:Int)<(l.length:Int):=by omega
    have hz:0<l.length:=by omega
    have HL:=Lib.hid hlen
    clear hlen
    repeat still_step
    still_call (count_any w7 p B 0 cap l hT7.r hz)
    repeat still_step
    refine wpStill_nil ?_
    go_wp2
    refine bodyPost_ret (v:=.tuple #[.int .i64 0,.int .i64 3]) (by simp[results,Try.results70,go_sem]) rfl ?_
    exact⟨rfl,B,cap,hT7,(((Fr.refl _ _ _).alloc _).alloc _).trans (Fr.of_below hb7),.inl rfl⟩
   ·have hc0:ati l 0=(n:Int):=HH.out.n0
    have hne:((n:Int)==100000)=false:=by rw[beq_eq_false_iff_ne];omega
    have hbt:=(Boxed.new w 92 (.pointer (some ⟨p,0,none⟩))).alloc (Obj.cells #[Value.int IntKind.i64 h,Value.int IntKind.i64 x] 43)
    have hbx:((w.alloc (.cells #[.pointer (some ⟨p,0,none⟩)] 92)).alloc (Obj.cells #[Value.int IntKind.i64 h,Value.int IntKind.i64 x] 43)).heap[w.heap.size+1]? =some (.cells #[Value.int IntKind.i64 h,Value.int IntKind.i64 x] 43):=by
     have:=World.alloc_heap_new (w.alloc (.cells #[.pointer (some ⟨p,0,none⟩)] 92)) (Obj.cells #[Value.int IntKind.i64 h,Value.int IntKind.i64 x] 43)
     rw[World.size_alloc]at this
     exact this
    have hs0:((w.alloc (.cells #[.pointer (some ⟨p,0,none⟩)] 92)).alloc (Obj.cells #[Value.int IntKind.i64 h,Value.int IntKind.i64 x] 43)).heap.size=w.heap.size+2:=by simp
    have hF2:Fr p B w ((w.alloc (.cells #[.pointer (some ⟨p,0,none⟩)] 92)).alloc (Obj.cells #[Value.int IntKind.i64 h,Value.int IntKind.i64 x] 43)):=((Fr.refl _ _ _).alloc _).alloc _
    have HM:=Lib.hid hmax
    have HAS:=Lib.hid hhas
    clear hhas hmax
    refine(callsIn_wide (n:=8)).1 ?_
    refine callsIn_of_wp_marks Try.func70 rfl trivial ?_ rfl
    simp only[Try.ntmps70,List.size_toArray,List.length_cons,List.length_nil,Nat.reduceAdd,Nat.reduceSub,Array.replicate_succ,Array.replicate_zero,List.push_toArray,List.append_toArray,List.nil_append,List.cons_append]
    refine wpIn_wide.2 ?_
    go_wp2_with (first
     |(go_at_call 65;refine(right_any _ _).mono ?_;rintro e w8 ⟨rfl,rfl⟩;rw[hd])
     |(go_at_call 86;refine(HF.out _ hT2.r).mono ?_;rintro e w8 ⟨rfl,hb8⟩;have hT3:=hT2.below hb8))
    refine region_still (by kernel_rfl) (by kernel_rfl) (fun w7 hw7=>?_)
    have hb7:=hb8.drew
    rw[←hw7]at hb7
    have hT7:=hT2.below hb7
    have bt:=boxed_below hbt hb7
    have bx:=(hb7.block _ (by rw[hs0];omega)).trans hbx
    have hF7:=hF2.trans (Fr.of_below hb7)
    have hs7:=hb7.size
    rw[hs0]at hs7
    clear hw7 hT3 hbt hbx hT2 hb7 hb8 hs0 hF2
    have ct:=bt.cell
    have cx0:w7.cell? ⟨w.heap.size+1,0,none⟩=some (.int .i64 h):=(cell_of_heap bx).trans rfl
    have hp7:=hT7.head
    have hc1:=hT7.cell 1 (by omega)
    have i1:(1:Int)<(l.length:Int):=by omega
    have hz:0<l.length:=by omega
    have HL:=Lib.hid hlen
    clear hlen
    repeat still_step
    still_call (count_any w7 p B 0 cap l hT7.r hz)
    repeat still_step
    refine wpStill_nil ?_
    clear i1 hp7 hc1
    have z0:w.heap.size<w7.heap.size:=by omega
    have z1:w.heap.size+1<w7.heap.size:=by omega
    go_wp2_with (first
     |(go_at_call 66;refine(bucket_any h (bkts n:Int) _ hh.1 (by omega) (by omega) (by omega)).mono ?_;rintro e wa ⟨rfl,rfl⟩;rw[show((bkts n:Nat):Int).toNat=bkts n from by omega])
     |(go_at_call 89;refine(headAt_any _ _ (by omega) (by omega)).mono ?_;rintro e wb ⟨rfl,rfl⟩)
     |(go_at_call 72;refine(chain_any p _ _).mono ?_;rintro e wc ⟨rfl,rfl⟩))
    rename_i K hK
    have hpn:=hT.ltp
    have hBn:=hT.ltB
    have hnlt:n<100000:=by have:=HM.out;omega
    obtain⟨n₀,hn0⟩:∃n₀,n₀=w.heap.size:=⟨_,rfl⟩
    obtain⟨s,hs⟩:∃s,s=wa.heap.size:=⟨_,rfl⟩
    have HN:=Lib.hid hn0
    have HS:=Lib.hid hs
    rw[←hn0]at hpn hBn bt bx ct cx0 hs7 z0 z1 hbase
    rw[←hs]at z0 z1 hs7
    rw[←hn0,←hs]
    clear hn0 hs
    have hend:endp (headAt (bkt h.toNat (bkts n))) (preR l h (C (bkt h.toNat (bkts n))))<l.length∧3≤endp (headAt (bkt h.toNat (bkts n))) (preR l h (C (bkt h.toNat (bkts n)))):=by
     rcases endp_cases (headAt (bkt h.toNat (bkts n))) (preR l h (C (bkt h.toNat (bkts n))))with⟨_,e⟩ |⟨r,hr,e⟩
     ·rw[e];have:=headAt_ge (bkt h.toNat (bkts n));exact⟨HG.out.headlt hi,by omega⟩
     ·rw[e];have:=recAt_ge r;exact⟨HG.out.rl r (HG.out.lt hi ((List.takeWhile_sublist _).subset hr)),by omega⟩
    have HFR:=Lib.hid hend
    clear hend
    have hnf:recAt n≠endp (headAt (bkt h.toNat (bkts n))) (preR l h (C (bkt h.toNat (bkts n))))∧recAt n+1≠endp (headAt (bkt h.toNat (bkts n))) (preR l h (C (bkt h.toNat (bkts n))))∧recAt n+2≠endp (headAt (bkt h.toNat (bkts n))) (preR l h (C (bkt h.toNat (bkts n)))):=by
     rcases endp_cases (headAt (bkt h.toNat (bkts n))) (preR l h (C (bkt h.toNat (bkts n))))with⟨_,e⟩ |⟨r,hr,e⟩
     ·rw[e];exact⟨fun e=>head_rec (a:=0) e.symm (by omega),fun e=>head_rec e.symm (by omega),fun e=>head_rec e.symm (by omega)⟩
     ·rw[e]
      have hrn:=HG.out.lt hi ((List.takeWhile_sublist _).subset hr)
      exact⟨fun e=>by have:=(recAt_inj (a:=0) (b:=2) e (by omega) (by omega)).2;omega,fun e=>by have:=(recAt_inj e (by omega) (by omega)).2;omega,fun e=>by have:=(recAt_inj e (by omega) (by omega)).1;omega⟩
    have HNF:=Lib.hid hnf
    clear hnf
    have HG2:=Lib.hid (G_addR (x:=x) HG.out HL.out hnlt hh.1 hh.2 HAS.out)
    generalize hgi:bkt h.toNat (bkts n)=i at*
    generalize hgp:preR l h (C i)=pre at*
    have HGP:=Lib.hid hgp
    have hrest:∀(D:Nat) (W:World) (lk:Nat),Boxed W n₀ 92 (.pointer (some ⟨p,0,none⟩))→W.heap[n₀+1]? =some (.cells #[.int .i64 h,.int .i64 x] 43)→Boxed W s 3 (.int .i64 lk)→
      Boxed W (s+1) 3 (.int .i64 (endp (headAt i) pre:Nat))→Tb base W p B cap l→Fr p B w W→s+2≤D→W.heap[D]? =some (.deferred (some []))→lk=min (C i).length (pre.length+1)→
      K { tmps:=#[.pointer (some ⟨p,0,none⟩),.agg #[.int .i64 h,.int .i64 x],.pointer (some ⟨n₀,0,none⟩),.pointer (some ⟨n₀+1,0,none⟩),.int .i64 0,.int .i64 0,.int .i64 (-1),.int .i64 0,.int .i64 (C i).length,.int .i64 n,.int .i64 (bkts n),.int .i64 i,.pointer (some ⟨s,0,none⟩),.pointer (some ⟨s+1,0,none⟩),undef,undef,.pointer (some ⟨n₀+1,0,none⟩),.int .i64 h,.bool true,.bool false,.tuple #[.int .i64 (-1),.int .i64 0,.int .i64 (C i).length],.pointer (some ⟨p,0,none⟩),.agg #[.int .i64 h,.int .i64 x],.tuple #[.int .i64 (-1),.int .i64 0,.int .i64 (C i).length],.int .i64 (-1),.int .i64 0,.int .i64 (C i).length,.int .i64 (-1),.bool false,.pointer (some ⟨p,0,none⟩),.int .i64 n,.pointer (some ⟨p,0,none⟩),.pointer (some ⟨p,0,none⟩),.pointer (some ⟨p,0,none⟩),.slice (some ⟨B,0,none⟩) l.length cap,.pointer (some ⟨B,1,none⟩),.int .i64 (bkts n),.int .i64 n,.bool false,.pointer (some ⟨n₀+1,0,none⟩),.int .i64 h,.int .i64 (bkts n),.int .i64 i,.int .i64 i,.int .i64 (headAt i),.pointer (some ⟨p,0,none⟩),.int .i64 i,.func (Fn.func 102) #[] #[.pointer (some ⟨s+1+1+1,0,none⟩),.pointer (some ⟨s+1+1,0,none⟩)],undef,undef,undef,undef,undef,undef,undef,undef,undef,undef,undef,undef,undef,undef,undef,undef,undef,undef,undef,undef,undef,undef,undef,undef,undef,undef,undef,undef,undef,undef,undef,undef,undef,undef,undef,undef,undef,undef,undef,undef,undef,undef,undef,undef,undef,undef,undef,undef,undef,undef,undef,undef,undef,undef,undef,undef,undef,undef,undef,undef,undef,undef,undef,undef,undef,undef,undef,undef,undef,undef,undef,undef,undef],defers:=[{ target:=.collected D,args:=#[] }] } W:=by
     intro D W lk kt kx kl kf hTW hFW hD hKD hlk
     have ct:=kt.cell
     have e1:IntKind.i64.wrap ((n:Int)+1)=(n:Int)+1:=IntWalk.i64_in _ (by omega)
     have hsz:=sized_any base W p B cap l (n+1) (by omega) hTW (by have:=HL.out;omega) (by have:=HL.out;omega) (by have:=hFW.size;have:=HN.out;omega)
     rw[show((n+1:Nat):Int)=(n:Int)+1 from by omega]at hsz
     refine hK _ _ ?_
     go_wp2_with fail
     refine hsz.mono ?_
     rintro e W1 ⟨rfl,B1,cap1,hT1,hF1,hB1⟩
     have jt:=hF1.boxed kt (by omega) (by omega)
     have jl:=hF1.boxed kl (by omega) (by omega)
     have jf:=hF1.boxed kf (by omega) (by omega)
     have jx:=(hF1.block (n₀+1) (lt_heap kx) (by omega) (by omega)).trans kx
     have jD:=(hF1.block D (lt_heap hKD) (by omega) (by omega)).trans hKD
     have hDW:=lt_heap hKD
     have hFW1:=hFW.trans hF1
     have hBne:∀k,k<D+1→k≠B→k≠B1:=fun k hk hk2 e=>by rcases hB1 with e2 |e2<;>omega
     have hsl:(sizedL l (n+1)).length=wlen (n+1):=sizedL_len _ _
     have hBx:B1=B∨w.heap.size≤B1:=hB1.imp id (fun e=>Nat.le_trans hFW.size e)
     have hpB1:=hT1.ne
     clear hsz hF1 hFW hTW kt kx kl kf hKD ct e1 hT7 hF7 hz
     go_wp2_with (go_at_call 87;refine(recordAt_any _ _ (by omega) (by omega)).mono ?_;rintro e wb ⟨rfl,rfl⟩)
     have hrl:=recAt_wlen (n:=n+1) (r:=n) (by omega)
     have hfl:endp (headAt i) pre<wlen (n+1):=by have:=HFR.out;have:=HL.out;have:=wlen_mono (show n≤n+1 by omega);omega
     have hfr:3≤endp (headAt i) pre:=HFR.out.2
     have hw1:=wlen_le (n+1) (by omega)
     have hl60':=wlen_ge (n+1)
     have HA:Hid (addL l n (endp (headAt i) pre) h x=((((sizedL l (n+1)).set (recAt n) h).set (recAt n+1) x).set (recAt n+2) (ati (sizedL l (n+1)) (endp (headAt i) pre))).set (endp (headAt i) pre) ((n:Int)+1)):=rfl
     have hb1l:ati (sizedL l (n+1)) 1=(bkts (n+1):Nat):=by rw[ati_sizedL,if_neg (by omega),if_pos rfl]
     generalize sizedL l (n+1)=l1 at*
     generalize hfre:endp (headAt i) pre=fr at*
     have HFRE:=Lib.hid hfre
     clear hfre
     have HSL:=Lib.hid hsl
     have kt:Boxed wb n₀ 92 (.pointer (some ⟨p,0,none⟩)):=jt
     have ct:=jt.cell
     have cf:=jf.cell
     have cx0:wb.cell? ⟨n₀+1,0,none⟩=some (.int .i64 h):=(cell_of_heap jx).trans rfl
     have cx1:wb.cell? ⟨n₀+1,1,none⟩=some (.int .i64 x):=(cell_of_heap jx).trans rfl
     have hp2:=hT1.head
     rw[hsl]at hp2
     have c_fr:=hT1.cell fr (by omega)
     obtain⟨q1,hq1⟩:∃q,q=recAt n+1:=⟨_,rfl⟩
     obtain⟨q2,hq2⟩:∃q,q=recAt n+2:=⟨_,rfl⟩
     have c0:=hT1.cell (recAt n) (by omega)
     have c1:=hT1.cell q1 (by omega)
     have c2:=hT1.cell q2 (by omega)
     have f0:=hT1.frz (recAt n)
     have f1:=hT1.frz q1
     have f2:=hT1.frz q2
     have i0:((recAt n:Nat):Int)<(wlen (n+1):Int):=by omega
     have i1:(q1:Int)<(wlen (n+1):Int):=by omega
     have i2:(q2:Int)<(wlen (n+1):Int):=by omega
     have i3:((fr:Nat):Int)<(wlen (n+1):Int):=by omega
     have e1:IntKind.i64.wrap (((recAt n:Nat):Int)+1)=(q1:Int):=by rw[IntWalk.i64_in _ (by omega)];omega
     have e2:IntKind.i64.wrap (((recAt n:Nat):Int)+2)=(q2:Int):=by rw[IntWalk.i64_in _ (by omega)];omega
     clear hsl
     have b1:¬B1=n₀:=fun e=>hBne n₀ (by omega) (by omega) e.symm
     have b2:¬B1=n₀+1:=fun e=>hBne (n₀+1) (by omega) (by omega) e.symm
     have b3:¬B1=s+1:=fun e=>hBne (s+1) (by omega) (by omega) e.symm
     have b4:¬B1=p:=fun e=>hpB1 e.symm
     have r0:¬recAt n=fr:=HNF.out.1
     have r1:¬q1=fr:=by rw[hq1];exact HNF.out.2.1
     have r2:¬q2=fr:=by rw[hq2];exact HNF.out.2.2
     have r0':¬fr=recAt n:=fun e=>r0 e.symm
     have r1':¬fr=q1:=fun e=>r1 e.symm
     have r2':¬fr=q2:=fun e=>r2 e.symm
     have r3:¬recAt n=q1:=by omega
     have r4:¬recAt n=q2:=by omega
     have r5:¬q1=q2:=by omega
     have r3':¬q1=recAt n:=by omega
     have r4':¬q2=recAt n:=by omega
     have r5':¬q2=q1:=by omega
     have HQ1:=Lib.hid hq1
     have HQ2:=Lib.hid hq2
     clear hq1 hq2
     go_region_held3 (fun w'=>w'.cell? ⟨n₀,0,none⟩=some (.pointer (some ⟨p,0,none⟩))∧w'.cell? ⟨s+1,0,none⟩=some (.int .i64 fr)∧w'.cell? ⟨n₀+1,0,none⟩=some (.int .i64 h)∧w'.cell? ⟨n₀+1,1,none⟩=some (.int .i64 x)
      ∧w'.cell? ⟨p,0,none⟩=some (.slice (some ⟨B1,0,none⟩) (wlen (n+1)) cap1)∧w'.cell? ⟨B1,fr,none⟩=some (.int .i64 (ati l1 fr))) (simp[*,World.cell?_alloc_some,World.cell?_setCell_far,cell_set_off]) (fail)
     have hT3:=(((hT1.set (recAt n) h).set q1 x).set q2 (ati l1 fr)).drew
     have hFx:Fr p B w (((wb.setCell ⟨B1,recAt n,none⟩ (.int .i64 h)).setCell ⟨B1,q1,none⟩ (.int .i64 x)).setCell ⟨B1,q2,none⟩ (.int .i64 (ati l1 fr))).drew:=
      (((hFW1.trans' ((Fr.refl p B1 _).setCell (.inr (.inl rfl)) _) hBx).trans' ((Fr.refl p B1 _).setCell (.inr (.inl rfl)) _) hBx).trans' ((Fr.refl p B1 _).setCell (.inr (.inl rfl)) _) hBx).drew
     have hoth:∀k,k≠B1→(((wb.setCell ⟨B1,recAt n,none⟩ (.int .i64 h)).setCell ⟨B1,q1,none⟩ (.int .i64 x)).setCell ⟨B1,q2,none⟩ (.int .i64 (ati l1 fr))).drew.heap[k]? =wb.heap[k]? :=fun k hk=>by
      show(((wb.setCell _ _).setCell _ _).setCell _ _).heap[k]? =_
      rw[Below.heap_setCell _ _ _ _ hk,Below.heap_setCell _ _ _ _ hk,Below.heap_setCell _ _ _ _ hk]
     generalize (((wb.setCell ⟨B1,recAt n,none⟩ (.int .i64 h)).setCell ⟨B1,q1,none⟩ (.int .i64 x)).setCell ⟨B1,q2,none⟩ (.int .i64 (ati l1 fr))).drew=W3 at*
     have kt:Boxed W3 n₀ 92 (.pointer (some ⟨p,0,none⟩)):=(hoth _ (by omega)).trans jt
     have kl:Boxed W3 s 3 (.int .i64 lk):=(hoth _ (hBne s (by omega) (by omega))).trans jl
     have kf:Boxed W3 (s+1) 3 (.int .i64 fr):=(hoth _ (by omega)).trans jf
     have hKD:W3.heap[D]? =some (.deferred (some [])):=(hoth _ (hBne D (by omega) (by omega))).trans jD
     have e3:IntKind.i64.wrap ((n:Int)+1)=(n:Int)+1:=IntWalk.i64_in _ (by omega)
     clear hoth hT1 jt jl jf jx jD ct cf cx0 cx1 hp2 c_fr c0 c1 c2 f0 f1 f2 i0 i1 i2 e1 e2 hFW1
     have hl2:(((l1.set (recAt n) h).set (recAt n+1) x).set (recAt n+2) (ati l1 fr)).length=wlen (n+1):=by simp[HSL.out]
     have hb2:ati (((l1.set (recAt n) h).set (recAt n+1) x).set (recAt n+2) (ati l1 fr)) 1=(bkts (n+1):Nat):=by
      have:=recAt_ge n
      rw[ati_set_ne (by omega),ati_set_ne (by omega),ati_set_ne (by omega)];exact hb1l
     rw[HQ1.out,HQ2.out]at hT3
     generalize ((l1.set (recAt n) h).set (recAt n+1) x).set (recAt n+2) (ati l1 fr)=l2 at*
     go_wp2
     refine region_still_tail 7 (by kernel_rfl) (by kernel_rfl) (fun W4 hW4=>?_)
     have hT4:Tb base W4 p B1 cap1 l2:=by rw[hW4];exact hT3.drew
     have mt:Boxed W4 n₀ 92 (.pointer (some ⟨p,0,none⟩)):=by rw[hW4];exact kt
     have ml:Boxed W4 s 3 (.int .i64 lk):=by rw[hW4];exact kl
     have mf:Boxed W4 (s+1) 3 (.int .i64 fr):=by rw[hW4];exact kf
     have mD:W4.heap[D]? =some (.deferred (some [])):=by rw[hW4];exact hKD
     have hF4:Fr p B w W4:=by rw[hW4];exact hFx.drew
     clear hW4 hT3 kt kl kf hKD hFx
     have ct:=mt.cell
     have cf:=mf.cell
     have cl:=ml.cell
     have hp4:=hT4.head
     rw[hl2]at hp4
     have c_fr:=hT4.cell fr (by omega)
     have f_fr:=hT4.frz fr
     have c_1:=hT4.cell 1 (by omega)
     rw[hb2]at c_1
     have hfr1:¬fr=1:=by omega
     have hfr1':¬1=fr:=by omega
     have iw1:(1:Int)<(wlen (n+1):Int):=by omega
     have hT5:=hT4.set fr ((n:Int)+1)
     have hF5:Fr p B w (W4.setCell ⟨B1,fr,none⟩ (.int .i64 ((n:Int)+1))):=hF4.trans' ((Fr.refl p B1 _).setCell (.inr (.inl rfl)) _) hBx
     have hn0B:n₀≠B1:=hBne n₀ (by omega) (by omega)
     have hDB:D≠B1:=hBne D (by omega) (by omega)
     have hsB:s≠B1:=hBne s (by omega) (by omega)
     have mt5:Boxed (W4.setCell ⟨B1,fr,none⟩ (.int .i64 ((n:Int)+1))) n₀ 92 (.pointer (some ⟨p,0,none⟩)):=(Below.heap_setCell _ _ _ _ hn0B).trans mt
     have ml5:Boxed (W4.setCell ⟨B1,fr,none⟩ (.int .i64 ((n:Int)+1))) s 3 (.int .i64 lk):=(Below.heap_setCell _ _ _ _ hsB).trans ml
     have mD5:(W4.setCell ⟨B1,fr,none⟩ (.int .i64 ((n:Int)+1))).heap[D]? =some (.deferred (some [])):=by rw[Below.heap_setCell _ _ _ _ hDB];exact mD
     rw[←HA.out]at hT5
     have hl3:(addL l n fr h x).length=wlen (n+1):=addL_len
     have b5:¬B1=s:=fun e=>hsB e.symm
     have HLK:=Lib.hid hlk
     have hlk2:lk≤n+1:=by rw[hlk];have:=HG.out.clen (show i<bkts n by omega);omega
     clear hlk mt ml mf mD hF4 hT4
     simp only[List.take_succ_cons,List.take_zero,List.drop_succ_cons,List.drop_zero]
     repeat still_step
     refine wpStill_nil ?_
     have hR0:∀(W5:World) (W6:World),True:=fun _ _=>trivial
     by_cases hgt:bkts n<bkts (n+1)
     ·have hgt':(bkts n:Int)<(bkts (n+1):Int):=by omega
      have HGT:=Lib.hid hgt
      clear hgt
      go_wp2
      clear ct cf cl hp4 c_fr f_fr c_1
      generalize W4.setCell ⟨B1,fr,none⟩ (.int .i64 ((n:Int)+1))=W5 at*
      have ct:=mt5.cell
      have cl:=ml5.cell
      have g2:=HG2.out
      have hb8:=g2.b8
      have hp2:=pow2_pos (bkts n)
      have hi2:bkts n-pow2 (bkts n)<bkts n:=by omega
      have hbn:bkts (n+1)=bkts n+1:=bkts_next HGT.out
      have hdiv:=divide_any base W5.drew p B1 cap1 (addL l n fr h x) (bkts n) (wf (headAt (bkts n-pow2 (bkts n))) (addC l n C h (bkts n-pow2 (bkts n)))) hT5.drew (by omega) (by omega) (by omega) (by have:=bkts_half n;omega)
       (g2.chn _ hi2).chn (g2.headlt hi2) (by rw[hl3];exact headAt_wlen (by omega))
       (fun q hq=>by
        have hm:q.1∈addC l n C h (bkts n-pow2 (bkts n)):=by rw[←wf_map (headAt (bkts n-pow2 (bkts n))) (addC l n C h (bkts n-pow2 (bkts n)))];exact List.mem_map_of_mem hq
        have h3:=g2.lt hi2 hm
        have h4:=g2.hash _ h3
        exact⟨g2.rl _ h3,by omega,h4.1,by omega⟩)
       (by rw[wf_len];have:=g2.clen hi2;omega)
      rw[wf_len,wf_map]at hdiv
      have hlen2:=g2.clen hi2
      generalize hcl:(addC l n C h (bkts n-pow2 (bkts n))).length=cn at*
      have e4:IntKind.i64.wrap ((lk:Int)+(cn:Int))=(lk:Int)+(cn:Int):=IntWalk.i64_in _ (by omega)
      have hRv:addR l n C h x=((lk:Int)+(cn:Int),0,divL (addL l n fr h x) (bkts n) (addC l n C h (bkts n-pow2 (bkts n)))):=by
       unfold addR
       rw[if_neg (by simpa using hh),hgi,if_neg (by rw[HAS.out];simp),if_neg HM.out,if_pos HGT.out,hgp,hcl,HLK.out]
       rw[←HFRE.out]
      refine wp_region_noPanic ?_
      go_region_with (first |(go_at_call 101;refine hdiv.mono ?_;rintro e W6 ⟨rfl,hT6,hF6⟩;have ct6:=(hF6.boxed (show Boxed W5.drew n₀ 92 _ from mt5) (by omega) hn0B).cell;have bl6:=hF6.boxed (show Boxed W5.drew s 3 _ from ml5) (by omega) hsB;have cl6:=bl6.cell;have hfz6:=bl6.frozen))
      all_goals
       refine NoPanic.normal ?_
       have hF6':Fr p B w W6:=(hF5.drew).trans' hF6 hBx
       have hD6:W6.heap[D]? =some (.deferred (some [])):=(hF6.block D (lt_heap mD5) (by omega) hDB).trans mD5
       have hW6s:=lt_heap hD6
       have kfin:Boxed (W6.setCell ⟨s,0,none⟩ (.int .i64 ((lk:Int)+(cn:Int)))) s 3 (.int .i64 ((lk:Int)+(cn:Int))):=bl6.set _
       have hT7:Tb base (W6.setCell ⟨s,0,none⟩ (.int .i64 ((lk:Int)+(cn:Int)))) p B1 cap1 _:=hT6.other _ (by simp;omega) (by simp;omega)
       have hF7:Fr p B w (W6.setCell ⟨s,0,none⟩ (.int .i64 ((lk:Int)+(cn:Int)))):=hF6'.setCell (.inr (.inr (by have:=HN.out;simp;omega))) _
       have hD7:(W6.setCell ⟨s,0,none⟩ (.int .i64 ((lk:Int)+(cn:Int)))).heap[D]? =some (.deferred (some [])):=by rw[Below.heap_setCell _ _ _ _ (by simp;omega)];exact hD6
       have c7:=kfin.cell
       go_wp2
       rw[hRv]
       refine⟨by simp,.inl ⟨_,_,rfl,run_takeDeferred hD7,?_⟩⟩
       have hT8:=hT7.putObj (D:=D) (.deferred none) (by omega) (fun e=>hDB e.symm)
       have hF8:=hF7.putObj (D:=D) (by have:=HN.out;omega) (.deferred none)
       refine⟨.tuple #[.int .i64 ((lk:Int)+(cn:Int)),.int .i64 0],by simp[results,Try.results70,go_sem],rfl,?_⟩
       first |exact⟨B1,cap1,hT8,hF8,hBx⟩ |exact⟨B1,⟨cap1,hT8⟩,hF8,hBx⟩
     ·have hgt':¬(bkts n:Int)<(bkts (n+1):Int):=by omega
      have HGT:=Lib.hid hgt
      clear hgt
      go_wp2
      have hRv:addR l n C h x=((lk:Int),0,addL l n fr h x):=by
       unfold addR
       rw[if_neg (by simpa using hh),hgi,if_neg (by rw[HAS.out];simp),if_neg HM.out,if_neg HGT.out,hgp,HLK.out]
       rw[←HFRE.out]
      rw[hRv]
      refine⟨by simp,.inl ⟨_,_,rfl,run_takeDeferred mD5,?_⟩⟩
      have hT8:=hT5.putObj (D:=D) (.deferred none) (by omega) (fun e=>hDB e.symm)
      have hF8:=hF5.putObj (D:=D) (by have:=HN.out;omega) (.deferred none)
      refine⟨.tuple #[.int .i64 (lk:Int),.int .i64 0],by simp[results,Try.results70,go_sem],rfl,?_⟩
      first |exact⟨B1,cap1,hT8,hF8,hBx⟩ |exact⟨B1,⟨cap1,hT8⟩,hF8,hBx⟩
    obtain⟨w9,hw9⟩:∃w9,w9=(((wa.alloc (.cells #[.int .i64 0] 3)).alloc (.cells #[.int .i64 (headAt i:Nat)] 3)).alloc (.cells #[.pointer (some ⟨p,0,none⟩)] 92)).alloc (.cells #[.int .i64 i] 3):=⟨_,rfl⟩
    rw[←hw9]
    have hB9:Below s wa w9:=by rw[hw9,HS.out];exact((((Below.refl _ _).alloc (Nat.le_refl _) _).alloc (by simp) _).alloc (by simp;omega) _).alloc (by simp;omega) _
    have hs9:w9.heap.size=s+4:=by rw[hw9,HS.out];simp
    have r0:Boxed w9 s 3 (.int .i64 0):=by rw[hw9,HS.out];exact(((Boxed.new _ _ _).alloc _).alloc _).alloc _
    have r1:Boxed w9 (s+1) 3 (.int .i64 (headAt i:Nat)):=by
     have h:=((Boxed.new (wa.alloc (.cells #[.int .i64 0] 3)) 3 (.int .i64 (headAt i:Nat))).alloc (.cells #[.pointer (some ⟨p,0,none⟩)] 92)).alloc (.cells #[.int .i64 i] 3)
     rw[World.size_alloc,←HS.out]at h;rw[hw9];exact h
    have bct:w9.cell? ⟨s+1+1,0,none⟩=some (.pointer (some ⟨p,0,none⟩)):=by
     have h:=((Boxed.new ((wa.alloc (.cells #[.int .i64 0] 3)).alloc (.cells #[.int .i64 (headAt i:Nat)] 3)) 92 (.pointer (some ⟨p,0,none⟩))).alloc (.cells #[.int .i64 i] 3)).cell
     rw[World.size_alloc,World.size_alloc,←HS.out]at h;rw[hw9];exact h
    have bci:w9.cell? ⟨s+1+1+1,0,none⟩=some (.int .i64 i):=by
     have h:=(Boxed.new (((wa.alloc (.cells #[.int .i64 0] 3)).alloc (.cells #[.int .i64 (headAt i:Nat)] 3)).alloc (.cells #[.pointer (some ⟨p,0,none⟩)] 92)) 3 (.int .i64 i)).cell
     rw[World.size_alloc,World.size_alloc,World.size_alloc,←HS.out]at h;rw[hw9];exact h
    have hlt9:wa.heap.size≤w9.heap.size:=by have:=HS.out;omega
    have hsw:s≤wa.heap.size:=by have:=HS.out;omega
    have hTb:∀W,Below s wa W→Tb base W p B cap l:=fun W hb=>hT7.below (hb.mono (by have:=HS.out;omega))
    have hFb:∀W,Below s wa W→Fr p B w W:=fun W hb=>hF7.trans (Fr.of_below (hb.mono (by have:=HS.out;omega)))
    have hkt:∀W,Below s wa W→Boxed W n₀ 92 (.pointer (some ⟨p,0,none⟩)):=fun W hb=>(hb.block n₀ (by omega)).trans bt
    have hkx:∀W,Below s wa W→W.heap[n₀+1]? =some (.cells #[.int .i64 h,.int .i64 x] 43):=fun W hb=>(hb.block (n₀+1) (by omega)).trans bx
    have hT9:=(hTb w9 hB9).r
    have hll1:l.length≤100000000:=by have:=HL.out;omega
    have h41:4≤l.length:=by have:=HL.out;omega
    have hib:i≤1000000:=by omega
    have hrec:∀q∈wf (headAt i) (C i),recAt q.1+2<l.length∧q.1≤100000:=fun q hq=>by
     have hm:q.1∈C i:=by rw[←wf_map (headAt i) (C i)];exact List.mem_map_of_mem hq
     have:=HG.out.lt (show i<bkts n by omega) hm
     exact⟨HG.out.rl _ this,by omega⟩
    have hch:=(HG.out.chn i (by omega)).chn
    have hmap:=toRF_map l.length (wf (headAt i) (C i)) hrec
    have hcl:=HG.out.clen (show i<bkts n by omega)
    generalize toRF l.length (wf (headAt i) (C i)) hrec=cr at hmap
    rw[←hmap]at hch
    have hcrl:cr.length=(C i).length:=by have:=congrArg List.length hmap;rw[wf_len,List.length_map]at this;exact this
    have HMAP:=Lib.hid hmap
    have HCRL:=Lib.hid hcrl
    have HCL:=Lib.hid hcl
    have HREST:=Lib.hid hrest
    clear hw9 hrec hmap hcrl hcl hrest bt bx ct cx0 hT7 hF7 hK
    have HS9:=Lib.hid hs9
    clear hs9
    refine(wpIn_wide (n:=8)).1 ?_
    refine wpIn_rangeFunc_ownG (n:=8) rfl (by omega) (gf:=102) (lb:=#[.pointer (some ⟨s+1+1+1,0,none⟩),.pointer (some ⟨s+1+1,0,none⟩)]) rfl trivial (enters_of Try.func102 (by kernel_rfl) rfl)
     (chain_stops (α:=RF l.length) Subtype.val (8-1) (by omega) p B 0 cap (s+1+1) (s+1+1+1) i l cr hib hll1 h41 w9 hT9 bct bci hch)
     Keep.trans (fun W l o o' _ h hc _=>Keep.putObj W l o o' h hc) (Below.refl _ _) (fun _=>rfl)
     (fun pr W=>(Boxed W s 3 (.int .i64 (pr.length:Nat))∧Boxed W (s+1) 3 (.int .i64 (endp (headAt i) (pr.map (·.1.1)):Nat))∧s+4≤W.heap.size∧∀q∈pr,ati l (recAt q.1.1)≤h)∧Below s wa W)
     (fun c pr W=>(c= .exit 0∧∃pr' y,pr=pr'++[y]∧(∀q∈pr',ati l (recAt q.1.1)≤h)∧h<ati l (recAt y.1.1)∧Boxed W s 3 (.int .i64 (pr.length:Nat))∧Boxed W (s+1) 3 (.int .i64 (endp (headAt i) (pr'.map (·.1.1)):Nat)))∧Below s wa W)
     ?hI ?hIx ?h0
     (fun y=>{ tmps:=#[.pointer (some ⟨p,0,none⟩),.agg #[.int .i64 h,.int .i64 x],.pointer (some ⟨n₀,0,none⟩),.pointer (some ⟨n₀+1,0,none⟩),.int .i64 0,.int .i64 0,.int .i64 (-1),.int .i64 0,.int .i64 (C i).length,.int .i64 n,.int .i64 (bkts n),.int .i64 i,.pointer (some ⟨s,0,none⟩),.pointer (some ⟨s+1,0,none⟩),.int .i64 (y.1.1:Nat),undef,.pointer (some ⟨n₀+1,0,none⟩),.int .i64 h,.bool true,.bool false,.tuple #[.int .i64 (-1),.int .i64 0,.int .i64 (C i).length],.pointer (some ⟨p,0,none⟩),.agg #[.int .i64 h,.int .i64 x],.tuple #[.int .i64 (-1),.int .i64 0,.int .i64 (C i).length],.int .i64 (-1),.int .i64 0,.int .i64 (C i).length,.int .i64 (-1),.bool false,.pointer (some ⟨p,0,none⟩),.int .i64 n,.pointer (some ⟨p,0,none⟩),.pointer (some ⟨p,0,none⟩),.pointer (some ⟨p,0,none⟩),.slice (some ⟨B,0,none⟩) l.length cap,.pointer (some ⟨B,1,none⟩),.int .i64 (bkts n),.int .i64 n,.bool false,.pointer (some ⟨n₀+1,0,none⟩),.int .i64 h,.int .i64 (bkts n),.int .i64 i,.int .i64 i,.int .i64 (headAt i),.pointer (some ⟨p,0,none⟩),.int .i64 i,.func (Fn.func 102) #[] #[.pointer (some ⟨s+1+1+1,0,none⟩),.pointer (some ⟨s+1+1,0,none⟩)],.int .i64 (y.1.1:Nat),.int .i64 (y.1.2:Nat),undef,undef,undef,undef,undef,undef,undef,undef,undef,undef,undef,undef,undef,undef,undef,undef,undef,undef,undef,undef,undef,undef,undef,undef,undef,undef,undef,undef,undef,undef,undef,undef,undef,undef,undef,undef,undef,undef,undef,undef,undef,undef,undef,undef,undef,undef,undef,undef,undef,undef,undef,undef,undef,undef,undef,undef,undef,undef,undef,undef,undef,undef,undef,undef,undef,undef,undef,undef,undef,undef,undef],defers:=[] }) ?assign ?body ?done ?stop
    case hI=>
     refine OwnFrom.and (fun pr A B row hs hg hr=>?_) (ownFrom_below hsw (by have:=HS9.out;omega))
     have hk:=keep_of_own hg hr
     obtain⟨k0,k1,k2,k3⟩:=hs
     exact⟨hk _ _ trivial k0 rfl,hk _ _ trivial k1 rfl,Nat.le_trans k2 hg.size,k3⟩
    case hIx=>
     intro c
     refine OwnFrom.and (fun pr A B row hs hg hr=>?_) (ownFrom_below hsw (by have:=HS9.out;omega))
     have hk:=keep_of_own hg hr
     obtain⟨k0,pr',y,k1,k2,k3,k4,k5⟩:=hs
     exact⟨k0,pr',y,k1,k2,k3,hk _ _ trivial k4 rfl,hk _ _ trivial k5 rfl⟩
    case h0=>exact⟨⟨r0,r1,by have:=HS9.out;omega,fun q hq=>by cases hq⟩,hB9⟩
    case assign=>
     intro L y W K hK
     dsimp only[encRF]
     gi_wp2
     exact hK
    case body=>
     rintro L pr y W ⟨⟨k0,k1,k2,k3⟩,hB⟩ hlt
     have cl:=k0.cell
     have fl:=k0.frozen
     have hcl9:=HCL.out
     have hcr9:=HCRL.out
     gi_wp2
     obtain⟨W1,hW1⟩:∃W1,W1=W.setCell ⟨s,0,none⟩ (.int .i64 ((pr.length:Nat)+1)):=⟨_,rfl⟩
     rw[←hW1]
     have j0:Boxed W1 s 3 (.int .i64 ((pr.length:Nat)+1)):=by rw[hW1];exact k0.set _
     have j1:Boxed W1 (s+1) 3 (.int .i64 (endp (headAt i) (pr.map (·.1.1)):Nat)):=by rw[hW1];exact k1.other (by omega) _
     have j2:s+4≤W1.heap.size:=by rw[hW1];simpa[World.setCell]using k2
     have jB:Below s wa W1:=by rw[hW1];exact hB.setCell (by simp) _
     have jK:Keep (fun k=>k<s∨k=s+1+1∨k=s+1+1+1) W W1:=keep_of_same (fun k hk=>by rw[hW1];exact Below.heap_setCell _ _ _ _ (by simp;omega))
     have jO:KeepsOthers W W1:=by rw[hW1];exact KeepsOthers.setCell _ _ _
     clear hW1 cl fl k0 k1 k2 hB
     have ct:=(hkt W1 jB).cell
     have cx0:W1.cell? ⟨n₀+1,0,none⟩=some (.int .i64 h):=(cell_of_heap (hkx W1 jB)).trans rfl
     have jT:=(hTb W1 jB).r
     have z1:n₀+1<W1.heap.size:=by omega
     have hy1:=y.2.1
     have hy2:=y.2.2
     have he2:IntKind.i64.wrap (((recAt y.1.1:Nat):Int)+2)=((recAt y.1.1:Nat):Int)+2:=IntWalk.i64_in _ (by omega)
     by_cases hit:h<ati l (recAt y.1.1)
     ·gi_cut [58]from 52 (fun v V=>v= .bool true∧Below W1.heap.size W1 V)
      case first=>
       rename_i J K' hJ hK'
       gi_region_with (first |(refine⟨trivial,?_⟩;gi_at_call 73;refine(CallsIn.inRound L (callsIn_wide.2 (record_any p (y.1.1:Nat) _ (by omega) (by omega)))).mono ?_;rintro e V1 ⟨rfl,hb1⟩;have hT1:=jT.drew.below hb1;have cx0a:=cell_below hb1 (show W1.drew.cell? ⟨n₀+1,0,none⟩=_ from cx0)) |(refine⟨trivial,?_⟩;gi_at_call 74;refine(CallsIn.inRound L (callsIn_wide.2 (hash_any _ p B 0 cap l hT1 (recAt y.1.1:Nat) (by omega) (by omega)))).mono ?_;rintro e V2 ⟨rfl,hb2⟩;rw[Int.toNat_natCast];have cx0b:=cell_below hb2 cx0a))
       all_goals
        refine hK' _ _ (Met.intro (hJ _ _ ?_))
        (repeat apply Exists.intro)
        refine⟨?rel,rfl⟩
        case rel=>exact⟨by simp[hit],(Below.trans (Below.refl _ _).drew hb1).trans (hb2.mono hb1.size)⟩
      case rest=>
      obtain⟨rfl,hb12⟩:=hcut
      clear cx0 ct
      have b0:=boxed_below j0 hb12
      have b1:=boxed_below j1 hb12
      have hz:=hb12.size
      gi_wp2
      refine⟨(jO.trans (keepsOthers_of_below hb12)).from _,⟨rfl,pr,y,rfl,k3,hit,by rw[show(((pr++[y]).length:Nat):Int)=(pr.length:Nat)+1 by simp];exact b0,b1⟩,jB.trans (hb12.mono (by omega))⟩
     ·gi_cut [58]from 52 (fun v V=>v= .bool false∧Below W1.heap.size W1 V)
      case first=>
       rename_i J K' hJ hK'
       gi_region_with (first |(refine⟨trivial,?_⟩;gi_at_call 73;refine(CallsIn.inRound L (callsIn_wide.2 (record_any p (y.1.1:Nat) _ (by omega) (by omega)))).mono ?_;rintro e V1 ⟨rfl,hb1⟩;have hT1:=jT.drew.below hb1;have cx0a:=cell_below hb1 (show W1.drew.cell? ⟨n₀+1,0,none⟩=_ from cx0)) |(refine⟨trivial,?_⟩;gi_at_call 74;refine(CallsIn.inRound L (callsIn_wide.2 (hash_any _ p B 0 cap l hT1 (recAt y.1.1:Nat) (by omega) (by omega)))).mono ?_;rintro e V2 ⟨rfl,hb2⟩;rw[Int.toNat_natCast];have cx0b:=cell_below hb2 cx0a))
       all_goals
        refine hK' _ _ (Met.intro (hJ _ _ ?_))
        (repeat apply Exists.intro)
        refine⟨?rel,rfl⟩
        case rel=>exact⟨by simp[hit],(Below.trans (Below.refl _ _).drew hb1).trans (hb2.mono hb1.size)⟩
      case rest=>
      obtain⟨rfl,hb12⟩:=hcut
      clear cx0 ct
      have b0:=boxed_below j0 hb12
      have b1:=boxed_below j1 hb12
      have hz:=hb12.size
      have c1:=b1.cell
      have f1:=b1.frozen
      gi_wp2_with (refine⟨trivial,?_⟩;gi_at_call 87;refine(CallsIn.inRound L (callsIn_wide.2 (recordAt_any _ _ (by omega) (by omega)))).mono ?_;rintro e wb ⟨rfl,rfl⟩)
      have hs2:(((pr++[y]).length:Nat):Int)=(pr.length:Nat)+1:=by simp
      have hs3:((endp (headAt i) ((pr++[y]).map (·.1.1)):Nat):Int)=((recAt y.1.1:Nat):Int)+2:=by rw[List.map_append,endp_append];rfl
      refine⟨((jO.trans (keepsOthers_of_below hb12)).trans (KeepsOthers.setCell _ _ _)).from _,?_,⟨by rw[hs2];exact b0.other (by omega) _,by rw[hs3];exact b1.set _,by simp[World.setCell];omega,?_⟩,(jB.trans (hb12.mono (by omega))).setCell (by simp) _⟩
      ·intro k o hs hk ho
       have h1:=jK k o (by rcases hs with rfl |rfl |rfl |rfl<;>omega) hk ho
       exact(Below.heap_setCell _ _ _ _ (by rcases hs with rfl |rfl |rfl |rfl<;>simp<;>omega)).trans ((hb12.block k (lt_heap h1)).trans h1)
      ·intro q hq
       rcases List.mem_append.1 hq with hq |hq
       ·exact k3 q hq
       ·obtain rfl:q=y:=by simpa using hq
        exact hit
    case done=>
     rintro D ys W hD rfl ⟨⟨k0,k1,k2,k3⟩,hB⟩ hK
     have hmp:ys.map (·.1.1)=C i:=by
      have:=congrArg (List.map (·.1)) HMAP.out
      rw[wf_map,List.map_map]at this
      exact this
     have hpre:pre=C i:=by
      rw[←HGP.out,←hmp]
      unfold preR
      refine takeWhile_all _ _ (fun r hr=>?_)
      obtain⟨q,hq,rfl⟩:=List.mem_map.1 hr
      exact decide_eq_true (k3 q hq)
     refine HREST.out D W ys.length (hkt W hB) (hkx W hB) k0 ?_ (hTb W hB) (hFb W hB) (by have:=HS9.out;omega) hK ?_
     ·rw[hpre,←hmp];exact k1
     ·rw[hpre,←HCRL.out];omega
    case stop=>
     rintro D c pr W hD hpr ⟨⟨rfl,pr',y,hp',hn',hit,k2,k3⟩,hB⟩ hK
     obtain⟨rest,hrs⟩:=hpr
     have hmp:C i=pr'.map (·.1.1)++y.1.1::rest.map (·.1.1):=by
      have:=congrArg (List.map (·.1)) HMAP.out
      rw[wf_map,List.map_map,←hrs,hp']at this
      rw[←this]
      simp
      rfl
     have hpre:pre=pr'.map (·.1.1):=by
      rw[←HGP.out,hmp]
      unfold preR
      refine takeWhile_mid (fun r=>decide (ati l (recAt r)≤h)) y.1.1 _ (decide_eq_false (by omega)) _ (fun r hr=>?_)
      obtain⟨q,hq,rfl⟩:=List.mem_map.1 hr
      exact decide_eq_true (hn' q hq)
     have hlen1:pr.length=min (C i).length (pre.length+1):=by
      rw[hpre,hmp,hp'];simp
     have hK':=HREST.out D W pr.length (hkt W hB) (hkx W hB) k2 (by rw[hpre];exact k3) (hTb W hB) (hFb W hB) (by have:=HS9.out;omega) hK hlen1
     clear HREST hmp hpre hlen1 hp' hrs hn' k2 k3
     gi_wp2
     exact hK'
 ·have hd:decide (0≤h∧h≤2147483647)=false:=decide_eq_false hh
  have hR:addR l n C h x=(0,1,l):=by unfold addR;rw[if_pos hh]
  rw[hR]
  go_enter Try.func70,Try.ntmps70
  go_wp2_with (go_at_call 65;refine(right_any _ _).mono ?_;rintro e w8 ⟨rfl,rfl⟩;rw[hd])
  refine bodyPost_ret (v:=.tuple #[.int .i64 0,.int .i64 1]) (by simp[results,Try.results70,go_sem]) rfl ?_
  exact⟨rfl,B,cap,(hT.alloc _).alloc _,((Fr.refl _ _ _).alloc _).alloc _,.inl rfl⟩
end Go.Proofs.Ytdcomhdadnhpnaa
