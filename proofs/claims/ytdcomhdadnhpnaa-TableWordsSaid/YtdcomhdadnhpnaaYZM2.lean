import Derived.Test.YtdcomhdadnhpnaaYZM1
import Derived.WalkLawsBesides
import Derived.MapKept
import Derived.Laws.Entries
import Derived.Defers
set_option linter.all false
section
namespace Go.Proofs.Ytdcomhdadnhpnaa
open Go.RowKit
def wrongEnd:Ending:=.panicked [{ v:=.iface 131 (.agg #[]),recovered:=false }]
def needEnd (b:Bool):Ending:=if b then .returned (.tuple #[])else wrongEnd
theorem need_any (b:Bool) (w:World):
  Calls Try.prog 109 #[.bool b] w fun e w'=>e=needEnd b∧w'=w:=by
 cases b
 ·go_enter Try.func109,Try.ntmps109
  go_wp2
  refine⟨rfl,?_⟩
  exact⟨rfl,rfl⟩
 ·go_enter Try.func109,Try.ntmps109
  go_wp2
  go_end0
  exact⟨rfl,rfl⟩
theorem hta_wrong (w:World):(Instr.typeAssert (.iface 131 (.agg #[])) 20 131 true).run Try.prog w= .ok (.tuple #[.agg #[],.bool true]) w:=by kernel_rfl
theorem need_yes {b:Bool} (h:b=true) (w:World):
  Calls Try.prog 109 #[.bool b] w fun e w'=>e= .returned (.tuple #[])∧w'=w:=by subst h;exact need_any true w
theorem need_no {b:Bool} (h:b=false) (w:World):
  Calls Try.prog 109 #[.bool b] w fun e w'=>e= .panicked [{ v:=.iface 131 (.agg #[]),recovered:=false }]∧w'=w:=by subst h;exact need_any false w
theorem catch_idle (p:Addr) (w:World):
  CallsD Try.prog 108 #[.pointer (some p)] .returning w fun e u' w'=>e= .returned (.tuple #[])∧u'= .returning∧w'=w:=by
 refine callsD_of_wpS Try.func108 rfl fun c₀ cs hu=>?_
 apply wpS_seq
 apply wpS_region
 simp[wpOpsS,go_sem,recoverD,hu,Try.ntmps108,Exit.thenS]
 refine wpS_of_wp ?_
 simp only[Array.replicate_succ,Array.replicate_zero,List.push_toArray,List.nil_append,List.cons_append]
 go_wp2
 cases c₀
 simp_all[bodyPostS,results,Try.results108]
set_option maxRecDepth 100000 in
theorem catch_panicking (p:Nat) (b:Bool) (older:List PanicEntry) (w:World) (hb:Boxed w p 4 (.bool b)):
  CallsD Try.prog 108 #[.pointer (some ⟨p,0,none⟩)] (.panicking ({ v:=.iface 131 (.agg #[]),recovered:=false }::older)) w fun e u' w'=>
   e= .returned (.tuple #[])∧u'= .panicking ({ v:=.iface 131 (.agg #[]),recovered:=true }::older)∧w'=(w.alloc (.cells #[] 131)).setCell ⟨p,0,none⟩ (.bool false):=by
 have hta:=hta_wrong
 have hc:=(hb.alloc (.cells #[] 131)).cell
 have hz:=(hb.alloc (.cells #[] 131)).frozen
 refine callsD_of_wpS Try.func108 rfl fun c₀ cs hu=>?_
 apply wpS_seq
 apply wpS_region
 simp[wpOpsS,go_sem,recoverD,hu,Try.ntmps108,Exit.thenS]
 refine wpS_of_wp ?_
 simp only[Array.replicate_succ,Array.replicate_zero,List.push_toArray,List.nil_append,List.cons_append]
 go_wp2
 simp[bodyPostS,results,Try.results108]
end Go.Proofs.Ytdcomhdadnhpnaa
end
section
namespace Go.Proofs.Ytdcomhdadnhpnaa
open Go.RowKit
def Chk (P:Prop) (e:Ending):Prop:=(P∧e= .returned (.tuple #[]))∨(¬P∧e=wrongEnd)
def RestH (l:List Int) (b S:Nat):Prop:=∀i,b≤i→i<S*8→ati l (headAt i)=0
def restR (l:List Int) (r:Nat):Prop:=ati l (recAt r)=0∧ati l (recAt r+1)=0∧ati l (recAt r+2)=0
def RestR (l:List Int) (n S:Nat):Prop:=∀r,n≤r→r<S*16→restR l r
theorem headAt_lt {i S:Nat} (h:i<S*8):headAt i<4+56*S:=by unfold headAt;omega
theorem recAt_lt {r S:Nat} (h:r<S*16):recAt r+2<4+56*S:=by unfold recAt;omega
set_option maxRecDepth 100000 in
set_option maxHeartbeats 2000000 in
theorem checkRest_any (p b off cap:Nat) (l:List Int) (n bk S:Nat) (w:World) (hT:TblR w p b off cap l) (hl:l.length=4+56*S) (hS:S≤50000) (hn:n≤1000000) (hbk:bk≤1000000):
  Calls Try.prog 112 #[.pointer (some ⟨p,0,none⟩),.int .i64 n,.int .i64 bk] w fun e W'=>Chk (RestH l bk S∧RestR l n S) e∧Below w.heap.size w W':=by
 have hp:=hT.head
 have hdiv:((l.length:Int)-4)/56=(S:Int):=by omega
 have hl2:l.length≤3000000:=by omega
 have hl3:60≤l.length∨S=0:=by omega
 have HL:=Lib.hid hl
 clear hl
 go_enter Try.func112,Try.ntmps112
 go_wp2
 rw[hdiv]
 clear hdiv hp
 go_loopw [7] (fun i wr=>∃k:Nat,bk≤k∧k≤1000000∧i= .int .i64 (k:Nat)∧Hid (∀j,bk≤j→j<k→ati l (headAt j)=0)∧Below w.heap.size w wr) (fun i _=>S*8-(intOf i).toNat)
 case atStart=>exact⟨bk,Nat.le_refl _,hbk,rfl,fun j h1 h2=>by omega,Below.refl _ _⟩
 case round=>
  obtain⟨k,hk0,hk1,rfl,hx,hb⟩:=hrel
  have hTr:=hT.below hb
  by_cases hlt:k<S*8
  ·have hlt':(k:Int)<(S:Int)*8:=by omega
   have hhd:headAt k<l.length:=by have:=HL.out;have:=headAt_lt hlt;omega
   have hpr:=hTr.head
   have hc:=hTr.cells (headAt k) (by omega)
   have bp:=lt_cell hpr
   have bb:=hTr.lt
   have i1:((headAt k:Nat):Int)<(l.length:Int):=by omega
   go_wp2
   refine region_still_tail 9 (by kernel_rfl) (by kernel_rfl) (fun w7 hw7=>?_)
   have hT7:TblR w7 p b off cap l:=by rw[hw7];exact hTr.drew
   have hb7:Below w.heap.size w w7:=by rw[hw7];exact hb.drew
   have hp7:=hT7.head
   have hc7:=hT7.cells (headAt k) (by omega)
   clear hw7 hpr hc
   simp only[List.take_succ_cons,List.take_zero,List.drop_succ_cons,List.drop_zero]
   repeat still_step
   still_call (by simpa using headAt_any (k:Int) w7 (by omega) (by omega))
   repeat still_step
   refine wpStill_nil ?_
   by_cases hz:ati l (headAt k)=0
   ·go_wp2_with (go_at_call 109;refine(need_yes (by simp) _).mono ?_;rintro e w8 ⟨rfl,rfl⟩)
    go_roundw
    case rel=>
     refine⟨k+1,by omega,by omega,by go_num,?_,hb7⟩
     intro j h1 h2
     by_cases hj:j=k
     ·subst hj;exact hz
     ·exact hx.out j h1 (by omega)
    case measure=>simp[intOf];omega
   ·go_wp2_with (go_at_call 109;refine(need_no (by simpa using hz) _).mono ?_;rintro e w8 ⟨rfl,rfl⟩)
    refine⟨rfl,?_⟩
    exact⟨.inr ⟨fun h=>hz (h.1 k hk0 hlt),rfl⟩,hb7⟩
  ·have HH:=Lib.hid (show RestH l bk S from fun j h1 h2=>hx.out j h1 (by omega))
   clear hx
   go_wp2
   go_loopw [8,9] (fun i _ wr=>∃k:Nat,n≤k∧k≤1000000∧i= .int .i64 (k:Nat)∧Hid (∀j,n≤j→j<k→restR l j)∧Below w.heap.size w wr) (fun i _ _=>S*16-(intOf i).toNat)
   case atStart=>exact⟨n,Nat.le_refl _,hn,rfl,fun j h1 h2=>by omega,hb⟩
   case round=>
    clear hb hTr hlt hk0 hk1
    obtain⟨k,hk0,hk1,rfl,hx,hb⟩:=hrel
    have hTr:=hT.below hb
    by_cases hlt:k<S*16
    ·have hlt':(k:Int)<(S:Int)*16:=by omega
     have hhd:recAt k+2<l.length:=by have:=HL.out;have:=recAt_lt hlt;omega
     have hpr:=hTr.head
     have hc0:=hTr.cells (recAt k) (by omega)
     have hc1:=hTr.cells (recAt k+1) (by omega)
     have hc2:=hTr.cells (recAt k+2) (by omega)
     have bp:=lt_cell hpr
     have bb:=hTr.lt
     have hrle:recAt k≤100000000:=by omega
     have i0:((recAt k:Nat):Int)<(l.length:Int):=by omega
     have i1:((recAt k:Nat):Int)+1<(l.length:Int):=by omega
     have i2:((recAt k:Nat):Int)+2<(l.length:Int):=by omega
     by_cases hz0:ati l (recAt k)=0
     ·by_cases hz1:ati l (recAt k+1)=0
      ·by_cases hz2:ati l (recAt k+2)=0
       ·go_wp2_with (first |(go_at_call 87;refine(recordAt_any _ _ (by omega) (by omega)).mono ?_;rintro e w8 ⟨rfl,rfl⟩;rw[Int.toNat_natCast]) |(go_at_call 109;refine(need_yes (by simp) _).mono ?_;rintro e w8 ⟨rfl,rfl⟩))
        go_roundw
        case rel=>
         refine⟨k+1,by omega,by omega,by go_num,?_,hb⟩
         intro j h1 h2
         by_cases hj:j=k
         ·subst hj;exact⟨hz0,hz1,hz2⟩
         ·exact hx.out j h1 (by omega)
        case measure=>simp[intOf];omega
       ·go_wp2_with (first |(go_at_call 87;refine(recordAt_any _ _ (by omega) (by omega)).mono ?_;rintro e w8 ⟨rfl,rfl⟩;rw[Int.toNat_natCast]) |(go_at_call 109;refine(need_no (by simpa using hz2) _).mono ?_;rintro e w8 ⟨rfl,rfl⟩))
        refine⟨rfl,?_⟩
        exact⟨.inr ⟨fun h=>hz2 (h.2 k hk0 hlt).2.2,rfl⟩,hb⟩
      ·go_wp2_with (first |(go_at_call 87;refine(recordAt_any _ _ (by omega) (by omega)).mono ?_;rintro e w8 ⟨rfl,rfl⟩;rw[Int.toNat_natCast]) |(go_at_call 109;refine(need_no (by simp) _).mono ?_;rintro e w8 ⟨rfl,rfl⟩))
       refine⟨rfl,?_⟩
       exact⟨.inr ⟨fun h=>hz1 (h.2 k hk0 hlt).2.1,rfl⟩,hb⟩
     ·go_wp2_with (first |(go_at_call 87;refine(recordAt_any _ _ (by omega) (by omega)).mono ?_;rintro e w8 ⟨rfl,rfl⟩;rw[Int.toNat_natCast]) |(go_at_call 109;refine(need_no (by simp) _).mono ?_;rintro e w8 ⟨rfl,rfl⟩))
      refine⟨rfl,?_⟩
      exact⟨.inr ⟨fun h=>hz0 (h.2 k hk0 hlt).1,rfl⟩,hb⟩
    ·go_wp2
     go_end0
     exact⟨.inl ⟨⟨HH.out,fun j h1 h2=>hx.out j h1 (by omega)⟩,rfl⟩,hb⟩
end Go.Proofs.Ytdcomhdadnhpnaa
end
section
namespace Go.Proofs.Ytdcomhdadnhpnaa
open Go.RowKit
structure KMap {κ β:Type} (ek:κ→Value) (ev:β→Value) (w:World) (B:Nat) (S:List (κ×β)):Prop where
 row:∃es clock,w.heap[B]? =some (.map es clock)∧es.toList.map (fun e=>(e.key,e.val))=S.map (fun s=>(ek s.1,ev s.2))
structure KeyOk {κ:Type} (kt:TypeId) (ek:κ→Value):Prop where
 inj:∀a b,ek a=ek b→a=b
 check:∀em a w,(Instr.checkKey em 10000 kt (ek a)).run Try.prog w= .ok () w
 find:∀a (es:List MapEntry) w,(∀e∈es,∃b,e.key=ek b)→
  ((Instr.findKey kt (ek a) es).run Try.prog w= .ok none w∧∀e∈es,e.key≠ek a)∨∃j e,(Instr.findKey kt (ek a) es).run Try.prog w= .ok (some (j,e.val)) w∧es[j]? =some e∧e.key=ek a
def encE (x:Int×Int):Value:=.agg #[.int .i64 x.1,.int .i64 x.2]
theorem encE_inj (a b:Int×Int) (h:encE a=encE b):a=b:=by
 unfold encE at h
 simp at h
 exact Prod.ext h.1 h.2
theorem equal43 (a b:Int×Int) (w:World):(Op.equal 43 (encE a) (encE b)).run Try.prog w= .ok (decide (a=b)) w:=by
 have h:=eqA43 (Op.maxDepth-2) w a.1 b.1 a.2 b.2
 have hd:(a.1==b.1&&a.2==b.2)=decide (a=b):=by
  rw[Bool.eq_iff_iff]
  simp[Prod.ext_iff]
 rw[hd,show Op.maxDepth-2+2=Op.maxDepth from rfl]at h
 exact h
theorem find43 (a:Int×Int) (w:World):∀(es:List MapEntry) (i:Nat),(∀e∈es,∃b,e.key=encE b)→
  ((Instr.findAsking 43 (encE a) es i).run Try.prog w= .ok none w∧∀e∈es,e.key≠encE a)∨∃j e,(Instr.findAsking 43 (encE a) es i).run Try.prog w= .ok (some (i+j,e.val)) w∧es[j]? =some e∧e.key=encE a
 | [],i,_=>Or.inl ⟨by simp[Instr.findAsking],by simp⟩
 |e::es,i,hall=>by
  obtain⟨b,hb⟩:=hall e (by simp)
  have hr:=equal43 a b w
  rw[←hb]at hr
  by_cases hab:a=b
  ·rw[decide_eq_true hab]at hr
   right
   exact⟨0,e,by simp[Instr.findAsking,hr],rfl,by rw[hb,hab]⟩
  ·rw[decide_eq_false hab]at hr
   rcases find43 a w es (i+1) (fun y hy=>hall y (by simp[hy]))with⟨h1,h2⟩ |⟨j,e',h1,h2,h3⟩
   ·left
    refine⟨by simp[Instr.findAsking,hr,h1],fun y hy=>?_⟩
    rcases List.mem_cons.1 hy with rfl |hy
    ·rw[hb];exact fun h=>hab (encE_inj _ _ h).symm
    ·exact h2 y hy
   ·right
    exact⟨j+1,e',by simp[Instr.findAsking,hr,h1,Nat.add_assoc,Nat.add_comm 1 j],by simpa using h2,h3⟩
theorem keyOk43:KeyOk 43 encE where
 inj:=encE_inj
 check em a w:=by unfold encE;kernel_rfl
 find a es w h:=by
  cases es with
  |nil=>left;exact⟨by kernel_rfl,by simp⟩
  |cons e es=>
   have hk:(Instr.findKey 43 (encE a) (e::es)).run Try.prog w=(Instr.findAsking 43 (encE a) (e::es) 0).run Try.prog w:=by kernel_rfl
   rw[hk]
   simpa using find43 a w (e::es) 0 h
section
variable {κ β:Type} {ek:κ→Value} {ev:β→Value} {w:World} {B:Nat} {S:List (κ×β)} {kt et t:TypeId}
theorem KMap.made (w:World):KMap ek ev (w.alloc (.map #[] 0)) w.heap.size []:=⟨⟨#[],0,World.alloc_heap_new w _,rfl⟩⟩
theorem KMap.lt (h:KMap ek ev w B S):B<w.heap.size:=by obtain⟨_,_,h,_⟩:=h.row;exact lt_heap h
theorem KMap.block {w':World} (h:KMap ek ev w B S) (hb:w'.heap[B]? =w.heap[B]?):KMap ek ev w' B S:=by obtain⟨es,c,h1,h2⟩:=h.row;exact⟨es,c,hb.trans h1,h2⟩
theorem KMap.below {w':World} (h:KMap ek ev w B S) (hb:Below w.heap.size w w'):KMap ek ev w' B S:=h.block (hb.block _ h.lt)
theorem KMap.look (h:KMap ek ev w B S) (K:KeyOk kt ek) (ht:Try.prog.underlying t=some (.map kt et)) (a:κ) {z:Value} (hz:(zeroValue et).run Try.prog w= .ok z w) (c:Bool):
  (∃b,(a,b)∈S∧(Instr.lookup t (.map (some B)) (ek a) c).run Try.prog w= .ok (if c then .tuple #[ev b,.bool true]else ev b) w)∨
  ((∀ s∈S,s.1≠a)∧(Instr.lookup t (.map (some B)) (ek a) c).run Try.prog w= .ok (if c then .tuple #[z,.bool false]else z) w):=by
 obtain⟨es,clock,hb,hS⟩:=h.row
 have hall:∀e∈es.toList,∃s,s∈S∧e.key=ek s.1∧e.val=ev s.2:=fun e he=>by
  have:(e.key,e.val)∈S.map (fun s=>(ek s.1,ev s.2)):=by rw[←hS];exact List.mem_map.2 ⟨e,he,rfl⟩
  obtain⟨s,hs,hq⟩:=List.mem_map.1 this
  exact⟨s,hs,(congrArg Prod.fst hq).symm,(congrArg Prod.snd hq).symm⟩
 rcases K.find a es.toList w (fun e he=>by obtain⟨s,_,h,_⟩:=hall e he;exact⟨_,h⟩)with⟨h1,h2⟩ |⟨j,e0,h1,h2,h3⟩
 ·right
  refine⟨fun s hs he=>?_,by cases c<;>simp[Instr.lookup,run_underlying ht,MapKept.run_getObj_map hb,K.check,h1,hz,Result.andThen]⟩
  have:(ek s.1,ev s.2)∈es.toList.map (fun e=>(e.key,e.val)):=by rw[hS];exact List.mem_map.2 ⟨s,hs,rfl⟩
  obtain⟨e,hm,hq⟩:=List.mem_map.1 this
  exact h2 e hm ((congrArg Prod.fst hq).trans (by rw[he]))
 ·left
  obtain⟨s,hs,hk,hv⟩:=hall e0 (List.mem_of_getElem? h2)
  have:s.1=a:=K.inj _ _ (hk.symm.trans h3)
  refine⟨s.2,by rw[←this];exact hs,?_⟩
  rw[←hv]
  cases c<;>simp[Instr.lookup,run_underlying ht,MapKept.run_getObj_map hb,K.check,h1,Result.andThen]
theorem KMap.store (h:KMap ek ev w B S) (K:KeyOk kt ek) (ht:Try.prog.underlying t=some (.map kt et)) (a:κ) (b:β) (hn:∀s∈S,s.1≠a):
  ∃w',(Instr.mapUpdate t (.map (some B)) (ek a) (ev b)).run Try.prog w= .ok () w'∧KMap ek ev w' B (S++[(a,b)])∧(∀n,n≤B→Below n w w')∧(∀k,k≠B→w'.heap[k]? =w.heap[k]?)∧w'.heap.size=w.heap.size:=by
 obtain⟨es,clock,hb,hS⟩:=h.row
 have hall:∀e∈es.toList,∃s,s∈S∧e.key=ek s.1∧e.val=ev s.2:=fun e he=>by
  have:(e.key,e.val)∈S.map (fun s=>(ek s.1,ev s.2)):=by rw[←hS];exact List.mem_map.2 ⟨e,he,rfl⟩
  obtain⟨s,hs,hq⟩:=List.mem_map.1 this
  exact⟨s,hs,(congrArg Prod.fst hq).symm,(congrArg Prod.snd hq).symm⟩
 have hB:=h.lt
 have hne:∀k,k≠B→(w.heap.setIfInBounds B (.map (es.push ⟨ek a,ev b,clock⟩) (clock+1)))[k]? =w.heap[k]? :=fun k hk=>by
  rw[Array.getElem?_setIfInBounds_ne (Ne.symm hk)]
 rcases K.find a es.toList w (fun e he=>by obtain⟨s,_,h,_⟩:=hall e he;exact⟨_,h⟩)with⟨h1,h2⟩ |⟨j,e0,h1,h2,h3⟩
 ·refine⟨{ w with heap:=w.heap.setIfInBounds B (.map (es.push ⟨ek a,ev b,clock⟩) (clock+1)) },?_,⟨es.push ⟨ek a,ev b,clock⟩,clock+1,?_,?_⟩,?_,hne,by simp⟩
  ·simp[Instr.mapUpdate,run_underlying ht,MapKept.run_getObj_map hb,K.check,h1,MapKept.run_setObj_map _ hb,Result.andThen]
  ·simp[hB]
  ·simp[hS]
  ·exact fun n hn'=>⟨rfl,rfl,rfl,by simp,fun k hk=>hne k (by omega)⟩
 ·obtain⟨s,hs,hk,hv⟩:=hall e0 (List.mem_of_getElem? h2)
  exact absurd (K.inj _ _ (hk.symm.trans h3)) (hn s hs)
end
end Go.Proofs.Ytdcomhdadnhpnaa
end
section
namespace Go.Proofs.Ytdcomhdadnhpnaa
open Go.RowKit
theorem count_set {s:List Bool} {r:Nat} (h:s[r]? =some false):(s.set r true).count false+1=s.count false:=by
 obtain⟨hr,he⟩:=List.getElem?_eq_some_iff.1 h
 have:=List.count_set (a:=true) (b:=false) hr
 rw[this,he]
 have:0<s.count false:=List.count_pos_iff.2 (by rw[←he];exact List.getElem_mem hr)
 simp;omega
def ckC (l:List Int) (bk i:Nat) (q:Nat) (seen:List Bool) (had:List (Int×Int)) (last:Int):Option (List Bool):=
 if ati l q=0 then some seen
 else if h:0<ati l q∧ati l q≤seen.length∧seen[(ati l q).toNat-1]? =some false then
  if last≤ati l (recAt ((ati l q).toNat-1))∧bkt (ati l (recAt ((ati l q).toNat-1))).toNat bk=i∧(ati l (recAt ((ati l q).toNat-1)),ati l (recAt ((ati l q).toNat-1)+1))∉had then
   ckC l bk i (recAt ((ati l q).toNat-1)+2) (seen.set ((ati l q).toNat-1) true) (had++[(ati l (recAt ((ati l q).toNat-1)),ati l (recAt ((ati l q).toNat-1)+1))]) (ati l (recAt ((ati l q).toNat-1)))
  else none
 else none
termination_by seen.count false
decreasing_by have:=count_set h.2.2;omega
def SeenR (w:World) (B:Nat) (s:List Bool):Prop:=w.heap[B]? =some (.cells (s.map Value.bool).toArray 4 (0,0))
theorem SeenR.cell {w:World} {B:Nat} {s:List Bool} (h:SeenR w B s) (i:Nat) (hi:i<s.length):w.cell? ⟨B,i,none⟩=some (.bool (s.getD i false)):=by
 rw[cell_of_heap h];simp[hi]
theorem SeenR.frz {w:World} {B:Nat} {s:List Bool} (h:SeenR w B s) (i:Nat):w.frozen? ⟨B,i,none⟩=false:=frozen_of_heap h
theorem SeenR.set {w:World} {B:Nat} {s:List Bool} (h:SeenR w B s) (i:Nat) (b:Bool):SeenR (w.setCell ⟨B,i,none⟩ (.bool b)) B (s.set i b):=by
 unfold SeenR at h ⊢
 simp[World.setCell,Array.getElem?_modify,h]
def isF:Value→Bool
 | .bool false=>true
 |_=>false
def cntF (w:World) (B:Nat):Nat:=match w.heap[B]? with
 |some (.cells c _ _)=>c.toList.countP isF
 |_=>0
theorem SeenR.cnt {w:World} {B:Nat} {s:List Bool} (h:SeenR w B s):cntF w B=s.count false:=by
 unfold cntF
 rw[h]
 simp only[List.countP_map]
 rw[List.count]
 congr 1
 funext b
 cases b<;>rfl
theorem TblR.belowN {n:Nat} {w w':World} {p b off cap:Nat} {l:List Int} (h:TblR w p b off cap l) (hb:Below n w w') (h1:p<n) (h2:b<n):TblR w' p b off cap l:=
 ⟨(hb.cell (p:=⟨p,0,none⟩) h1).trans h.head,fun i hi=>(hb.cell (p:=⟨b,off+i,none⟩) h2).trans (h.cells i hi),Nat.lt_of_lt_of_le h.lt hb.size⟩
structure CkI (w:World) (p b off cap:Nat) (l:List Int) (Bs:Nat) (seen:List Bool) (M:Nat) (had:List (Int×Int)):Prop where
 t:TblR w p b off cap l
 s:SeenR w Bs seen
 m:KMap encE Value.bool w M (had.map (fun x=>(x,true)))
 pb:p<Bs
 bb:b<Bs
 sm:Bs<M
theorem CkI.below {w w':World} {p b off cap:Nat} {l:List Int} {Bs:Nat} {seen:List Bool} {M:Nat} {had:List (Int×Int)} (h:CkI w p b off cap l Bs seen M had) (hb:Below w.heap.size w w'):CkI w' p b off cap l Bs seen M had:=
 ⟨h.t.below hb,(hb.block _ (lt_heap h.s)).trans h.s,h.m.below hb,h.pb,h.bb,h.sm⟩
theorem had_look {w:World} {M:Nat} {had:List (Int×Int)} (h:KMap encE Value.bool w M (had.map (fun x=>(x,true)))) (a b:Int):
  ((a,b)∈had→(Instr.lookup 117 (.map (some M)) (.agg #[.int .i64 a,.int .i64 b]) false).run Try.prog w= .ok (.bool true) w)∧
  ((a,b)∉had→(Instr.lookup 117 (.map (some M)) (.agg #[.int .i64 a,.int .i64 b]) false).run Try.prog w= .ok (.bool false) w):=by
 rcases h.look keyOk43 (t:=117) (et:=4) (by kernel_rfl) (a,b) (z:=.bool false) (by kernel_rfl) false with⟨v,hv,hr⟩ |⟨hn,hr⟩
 ·obtain⟨x,hx,hq⟩:=List.mem_map.1 hv
  cases hq
  exact⟨fun _=>hr,fun h=>absurd hx h⟩
 ·exact⟨fun hm=>absurd rfl (hn ((a,b),true) (List.mem_map.2 ⟨_,hm,rfl⟩)),fun _=>hr⟩
theorem had_store {w:World} {M:Nat} {had:List (Int×Int)} (h:KMap encE Value.bool w M (had.map (fun x=>(x,true)))) (a b:Int) (hn:(a,b)∉had):
  ∃w',(Instr.mapUpdate 117 (.map (some M)) (.agg #[.int .i64 a,.int .i64 b]) (.bool true)).run Try.prog w= .ok () w'∧KMap encE Value.bool w' M ((had++[(a,b)]).map (fun x=>(x,true)))∧
   (∀n,n≤M→Below n w w')∧(∀k,k≠M→w'.heap[k]? =w.heap[k]?)∧w'.heap.size=w.heap.size:=by
 have:=h.store keyOk43 (t:=117) (et:=4) (by kernel_rfl) (a,b) true (fun s hs=>by obtain⟨x,hx,rfl⟩:=List.mem_map.1 hs;exact fun e=>hn (by rw[←e];exact hx))
 simpa[encE]using this
set_option maxRecDepth 100000 in
set_option maxHeartbeats 4000000 in
theorem checkChain_any (p b off cap:Nat) (l:List Int) (i bk Bs:Nat) (seen:List Bool) (w:World) (hT:TblR w p b off cap l) (hpB:p<Bs) (hbB:b<Bs) (hS:SeenR w Bs seen) (hl:l.length≤3000000)
  (hi:i≤1000000) (hhi:headAt i<l.length) (hbk0:1≤bk) (hbk:bk≤1000000) (hn:seen.length≤100000) (hrec:∀r,r<seen.length→recAt r+2<l.length∧0≤ati l (recAt r)∧ati l (recAt r)≤2147483647):
  Calls Try.prog 110 #[.pointer (some ⟨p,0,none⟩),.int .i64 i,.int .i64 bk,.slice (some ⟨Bs,0,none⟩) seen.length seen.length] w fun e W'=>
   ((∃ s',ckC l bk i (headAt i) seen [] 0=some s'∧e= .returned (.tuple #[])∧SeenR W' Bs s')∨(ckC l bk i (headAt i) seen [] 0=none∧e=wrongEnd))∧Below Bs w W':=by
 have hp:=hT.head
 obtain⟨res,hres⟩:∃res,res=ckC l bk i (headAt i) seen [] 0:=⟨_,rfl⟩
 rw[←hres]
 obtain⟨n,hsl⟩:∃n,seen.length=n:=⟨_,rfl⟩
 rw[hsl]at hn hrec ⊢
 have hmm:∀w:World,(Instr.makeMap 117 none).run Try.prog w= .ok (.map (some w.heap.size)) (w.alloc (.map #[] 0)):=fun _=>rfl
 go_enter Try.func110,Try.ntmps110
 go_wp2_with (go_at_call 89;refine(headAt_any _ _ (by omega) (by omega)).mono ?_;rintro e w1 ⟨rfl,rfl⟩;rw[Int.toNat_natCast])
 have hC0:CkI (w.alloc (.map #[] 0)) p b off cap l Bs seen w.heap.size []:=⟨hT.alloc _,(Below.heap_alloc _ _ _ (lt_heap hS)).trans hS,KMap.made _,hpB,hbB,lt_heap hS⟩
 have hB0:Below Bs w (w.alloc (.map #[] 0)):=(Below.refl _ _).alloc (Nat.le_of_lt (lt_heap hS)) _
 generalize w.alloc (.map #[] 0)=w1 at*
 generalize w.heap.size=M at*
 clear hp hS hT
 go_loopw [9,10,11,12] (fun la fr _ _ wr=>∃(last:Int) (q:Nat) (sn:List Bool) (had:List (Int×Int)),la= .int .i64 last∧fr= .int .i64 (q:Nat)∧q<l.length∧sn.length=n∧Hid (res=ckC l bk i q sn had last)∧CkI wr p b off cap l Bs sn M had∧Below Bs w wr)
  (fun _ _ _ _ wr=>cntF wr Bs)
 case atStart=>exact⟨0,headAt i,seen,[],rfl,rfl,hhi,hsl,hres,hC0,hB0⟩
 case round=>
  clear hC0 hB0 hsl hres
  obtain⟨last,q,sn,had,rfl,rfl,hq,hsn,hrs,hC,hB⟩:=hrel
  have hpr:=hC.t.head
  have hcq:=hC.t.cells q hq
  have i0:(q:Int)<(l.length:Int):=by omega
  have bp:=lt_cell hpr
  have bb:=hC.t.lt
  rw[ckC]at hrs
  by_cases hz:ati l q=0
  ·rw[if_pos hz]at hrs
   rw[hz]at hcq
   clear hz
   go_wp2
   go_end0
   exact⟨.inl ⟨sn,hrs.out,rfl,hC.s⟩,hB⟩
  ·rw[if_neg hz]at hrs
   by_cases h1:0<ati l q∧ati l q≤sn.length∧sn[(ati l q).toNat-1]? =some false
   ·rw[dif_pos h1]at hrs
    obtain⟨r,hr⟩:∃r:Nat,ati l q=(r:Int)+1:=⟨(ati l q).toNat-1,by omega⟩
    rw[hr]at hcq
    rw[show(ati l q).toNat-1=r by omega]at hrs h1
    have hrn:r<n:=by omega
    have hrn':(r:Int)<(n:Int):=by omega
    have hsr:=hC.s.cell r (by omega)
    have hfr:=hC.s.frz r
    have hsf:=h1.2.2
    have hgd:sn.getD r false=false:=by rw[List.getD_eq_getElem?_getD,hsf];rfl
    rw[hgd]at hsr
    obtain⟨hr1,hr2,hr3⟩:=hrec r hrn
    clear h1 hz hr hgd hrec
    go_wp2_with (go_at_call 109;refine(need_yes (by simp) _).mono ?_;rintro e w8 ⟨rfl,rfl⟩)
    have hC1:CkI (w8.setCell ⟨Bs,r,none⟩ (.bool true)) p b off cap l Bs (sn.set r true) M had:=
     ⟨hC.t.other _ (by simp;omega) (by simp;omega),hC.s.set r true,hC.m.block (Below.heap_setCell _ _ _ _ (by have:=hC.sm;simp;omega)),hC.pb,hC.bb,hC.sm⟩
    have hB1:Below Bs w (w8.setCell ⟨Bs,r,none⟩ (.bool true)):=hB.setCell (Nat.le_refl _) _
    have hcnt:cntF w8 Bs=sn.count false:=hC.s.cnt
    generalize w8.setCell ⟨Bs,r,none⟩ (.bool true)=w2 at hC1 hB1 ⊢
    clear hsr hfr hcq hpr bp bb hC hB
    refine(record_any p (r:Int) w2 (by omega) (by omega)).mono ?_
    rintro e w3 ⟨rfl,hb3⟩
    rw[Int.toNat_natCast]
    have hC3:=hC1.below hb3
    have hB3:Below Bs w w3:=hB1.trans (hb3.mono (Nat.le_of_lt (lt_heap hC1.s)))
    clear hb3 hC1 hB1
    go_wp2_with fail
    have hC4:CkI (w3.alloc (.cells #[.pointer (some ⟨p,0,none⟩),.int .i64 (recAt r:Nat)] 102)) p b off cap l Bs (sn.set r true) M had:=hC3.below ((Below.refl _ _).alloc (Nat.le_refl _) _)
    have hB4:Below Bs w (w3.alloc (.cells #[.pointer (some ⟨p,0,none⟩),.int .i64 (recAt r:Nat)] 102)):=hB3.alloc (Nat.le_of_lt (lt_heap hC3.s)) _
    have hx4:(w3.alloc (.cells #[.pointer (some ⟨p,0,none⟩),.int .i64 (recAt r:Nat)] 102)).heap[w3.heap.size]? =some (.cells #[.pointer (some ⟨p,0,none⟩),.int .i64 (recAt r:Nat)] 102 (0,0)):=World.alloc_heap_new _ _
    have hMX:M<w3.heap.size:=hC3.m.lt
    generalize w3.alloc (.cells #[.pointer (some ⟨p,0,none⟩),.int .i64 (recAt r:Nat)] 102)=w4 at hC4 hB4 hx4 ⊢
    generalize w3.heap.size=X at hx4 hMX ⊢
    clear hC3 hB3
    by_cases ha:last≤ati l (recAt r)
    ·by_cases hbk':bkt (ati l (recAt r)).toNat bk=i
     ·by_cases hm:(ati l (recAt r),ati l (recAt r+1))∈had
      ·rw[if_neg (fun h=>h.2.2 hm)]at hrs
       have HM:=Lib.hid hm
       clear hm
       go_wp2_with (first
        |(go_at_call 74;refine(hash_any _ p b off cap l hC4.t (recAt r:Nat) (by omega) (by omega)).mono ?_;rintro e w5 ⟨rfl,hb5⟩;rw[Int.toNat_natCast];have hB4:=hB4.trans (hb5.mono (Nat.le_of_lt (lt_heap hC4.s)));have hC4:=hC4.below hb5;have hx4:=(hb5.block _ (lt_heap hx4)).trans hx4;have cx0:w5.cell? ⟨X,0,none⟩=some (.pointer (some ⟨p,0,none⟩)):=(cell_of_heap hx4).trans rfl;have cx1:w5.cell? ⟨X,1,none⟩=some (.int .i64 (recAt r:Nat)):=(cell_of_heap hx4).trans rfl)
        |(go_at_call 66;refine(bucket_any _ _ _ hr2 (by omega) (by omega) (by omega)).mono ?_;rintro e w5 ⟨rfl,rfl⟩;rw[Int.toNat_natCast,hbk'])
        |(go_at_call 77;refine(elem_any _ p b off cap l hC4.t (recAt r:Nat) (by omega) (by omega) (by omega)).mono ?_;rintro e w5 ⟨rfl,hb5⟩;rw[Int.toNat_natCast];have hB4:=hB4.trans (hb5.mono (Nat.le_of_lt (lt_heap hC4.s)));have hC4:=hC4.below hb5;have hx4:=(hb5.block _ (lt_heap hx4)).trans hx4;have cx0:w5.cell? ⟨X,0,none⟩=some (.pointer (some ⟨p,0,none⟩)):=(cell_of_heap hx4).trans rfl;have cx1:w5.cell? ⟨X,1,none⟩=some (.int .i64 (recAt r:Nat)):=(cell_of_heap hx4).trans rfl;have hlk:=(had_look hC4.m (ati l (recAt r)) (ati l (recAt r+1))).1 HM.out)
        |(go_at_call 109;refine(need_no (by simp) _).mono ?_;rintro e w8 ⟨rfl,rfl⟩))
       refine⟨rfl,?_⟩
       exact⟨.inr ⟨hrs.out,rfl⟩,hB4⟩
      ·rw[if_pos ⟨ha,hbk',hm⟩]at hrs
       have HM:=Lib.hid hm
       have HM1:=HM
       clear hm
       go_wp2_with (first
        |(go_at_call 74;refine(hash_any _ p b off cap l hC4.t (recAt r:Nat) (by omega) (by omega)).mono ?_;rintro e w5 ⟨rfl,hb5⟩;rw[Int.toNat_natCast];have hB4:=hB4.trans (hb5.mono (Nat.le_of_lt (lt_heap hC4.s)));have hC4:=hC4.below hb5;have hx4:=(hb5.block _ (lt_heap hx4)).trans hx4;have cx0:w5.cell? ⟨X,0,none⟩=some (.pointer (some ⟨p,0,none⟩)):=(cell_of_heap hx4).trans rfl;have cx1:w5.cell? ⟨X,1,none⟩=some (.int .i64 (recAt r:Nat)):=(cell_of_heap hx4).trans rfl)
        |(go_at_call 66;refine(bucket_any _ _ _ hr2 (by omega) (by omega) (by omega)).mono ?_;rintro e w5 ⟨rfl,rfl⟩;rw[Int.toNat_natCast,hbk'])
        |(have hflag:=HM1;clear HM1;go_at_call 77;refine(elem_any _ p b off cap l hC4.t (recAt r:Nat) (by omega) (by omega) (by omega)).mono ?_;rintro e w5 ⟨rfl,hb5⟩;rw[Int.toNat_natCast];have hB4:=hB4.trans (hb5.mono (Nat.le_of_lt (lt_heap hC4.s)));have hC4:=hC4.below hb5;have hx4:=(hb5.block _ (lt_heap hx4)).trans hx4;have cx0:w5.cell? ⟨X,0,none⟩=some (.pointer (some ⟨p,0,none⟩)):=(cell_of_heap hx4).trans rfl;have cx1:w5.cell? ⟨X,1,none⟩=some (.int .i64 (recAt r:Nat)):=(cell_of_heap hx4).trans rfl;have hlk:=(had_look hC4.m (ati l (recAt r)) (ati l (recAt r+1))).2 HM.out;clear hflag)
        |(go_at_call 77;refine(elem_any _ p b off cap l hC4.t (recAt r:Nat) (by omega) (by omega) (by omega)).mono ?_;rintro e w5 ⟨rfl,hb5⟩;rw[Int.toNat_natCast];have hB4:=hB4.trans (hb5.mono (Nat.le_of_lt (lt_heap hC4.s)));have hC4:=hC4.below hb5;have hx4:=(hb5.block _ (lt_heap hx4)).trans hx4;have cx0:w5.cell? ⟨X,0,none⟩=some (.pointer (some ⟨p,0,none⟩)):=(cell_of_heap hx4).trans rfl;have cx1:w5.cell? ⟨X,1,none⟩=some (.int .i64 (recAt r:Nat)):=(cell_of_heap hx4).trans rfl;obtain⟨wm,hup,hm1,hm2,hm3,hm4⟩:=had_store hC4.m _ _ HM.out;have hB4:=hB4.trans (hm2 Bs (Nat.le_of_lt hC4.sm));have hx4:=(hm3 X (by omega)).trans hx4;have hC4:CkI wm p b off cap l Bs (sn.set r true) M _:=⟨hC4.t.belowN (hm2 M (Nat.le_refl _)) (Nat.lt_trans hC4.pb hC4.sm) (Nat.lt_trans hC4.bb hC4.sm),(hm3 Bs (Nat.ne_of_lt hC4.sm)).trans hC4.s,hm1,hC4.pb,hC4.bb,hC4.sm⟩;have cx0:wm.cell? ⟨X,0,none⟩=some (.pointer (some ⟨p,0,none⟩)):=(cell_of_heap hx4).trans rfl;have cx1:wm.cell? ⟨X,1,none⟩=some (.int .i64 (recAt r:Nat)):=(cell_of_heap hx4).trans rfl)
        |(go_at_call 109;refine(need_yes (by simp) _).mono ?_;rintro e w8 ⟨rfl,rfl⟩))
       go_roundw
       case rel=>exact⟨ati l (recAt r),recAt r+2,sn.set r true,_,rfl,by go_num,hr1,by rw[List.length_set];exact hsn,hrs,hC4,hB4⟩
       case measure=>
        rw[hC4.s.cnt,hcnt]
        have:=count_set hsf
        omega
     ·rw[if_neg (fun h=>hbk' h.2.1)]at hrs
      have hne:((bkt (ati l (recAt r)).toNat bk:Nat):Int)≠(i:Int):=by omega
      have hbe:(((bkt (ati l (recAt r)).toNat bk:Nat):Int)==(i:Int))=false:=by rw[beq_eq_false_iff_ne];exact hne
      go_wp2_with (first
       |(go_at_call 74;refine(hash_any _ p b off cap l hC4.t (recAt r:Nat) (by omega) (by omega)).mono ?_;rintro e w5 ⟨rfl,hb5⟩;rw[Int.toNat_natCast];have hB4:=hB4.trans (hb5.mono (Nat.le_of_lt (lt_heap hC4.s)));have hC4:=hC4.below hb5;have hx4:=(hb5.block _ (lt_heap hx4)).trans hx4;have cx0:w5.cell? ⟨X,0,none⟩=some (.pointer (some ⟨p,0,none⟩)):=(cell_of_heap hx4).trans rfl;have cx1:w5.cell? ⟨X,1,none⟩=some (.int .i64 (recAt r:Nat)):=(cell_of_heap hx4).trans rfl)
       |(go_at_call 66;refine(bucket_any _ _ _ hr2 (by omega) (by omega) (by omega)).mono ?_;rintro e w5 ⟨rfl,rfl⟩;rw[Int.toNat_natCast])
       |(go_at_call 109;refine(need_no (by simp) _).mono ?_;rintro e w8 ⟨rfl,rfl⟩))
      refine⟨rfl,?_⟩
      exact⟨.inr ⟨hrs.out,rfl⟩,hB4⟩
    ·rw[if_neg (fun h=>ha h.1)]at hrs
     go_wp2_with (first
      |(go_at_call 74;refine(hash_any _ p b off cap l hC4.t (recAt r:Nat) (by omega) (by omega)).mono ?_;rintro e w5 ⟨rfl,hb5⟩;rw[Int.toNat_natCast];have hB4:=hB4.trans (hb5.mono (Nat.le_of_lt (lt_heap hC4.s)));have hC4:=hC4.below hb5;have hx4:=(hb5.block _ (lt_heap hx4)).trans hx4;have cx0:w5.cell? ⟨X,0,none⟩=some (.pointer (some ⟨p,0,none⟩)):=(cell_of_heap hx4).trans rfl;have cx1:w5.cell? ⟨X,1,none⟩=some (.int .i64 (recAt r:Nat)):=(cell_of_heap hx4).trans rfl)
      |(go_at_call 109;refine(need_no (by simp) _).mono ?_;rintro e w8 ⟨rfl,rfl⟩))
     refine⟨rfl,?_⟩
     exact⟨.inr ⟨hrs.out,rfl⟩,hB4⟩
   ·rw[dif_neg h1]at hrs
    by_cases hn0:ati l q<0
    ·clear h1 hz
     go_wp2_with (go_at_call 109;refine(need_no (by simp) _).mono ?_;rintro e w8 ⟨rfl,rfl⟩)
     refine⟨rfl,?_⟩
     exact⟨.inr ⟨hrs.out,rfl⟩,hB⟩
    ·by_cases hn1:(n:Int)<ati l q
     ·clear h1 hz
      go_wp2_with (go_at_call 109;refine(need_no (by simp) _).mono ?_;rintro e w8 ⟨rfl,rfl⟩)
      refine⟨rfl,?_⟩
      exact⟨.inr ⟨hrs.out,rfl⟩,hB⟩
     ·obtain⟨r,hr⟩:∃r:Nat,ati l q=(r:Int)+1:=⟨(ati l q).toNat-1,by omega⟩
      rw[hr]at hcq
      have hrn:r<n:=by omega
      have hrn':(r:Int)<(n:Int):=by omega
      have hsr:=hC.s.cell r (by omega)
      have hgd:sn.getD r false=true:=by
       rw[List.getD_eq_getElem?_getD,List.getElem?_eq_getElem (by omega)]
       have:sn[r]'(by omega)≠false:=fun e=>h1 ⟨by omega,by omega,by rw[show(ati l q).toNat-1=r by omega,List.getElem?_eq_getElem (by omega),e]⟩
       simpa using this
      rw[hgd]at hsr
      clear h1 hz hr hgd hn0 hn1 hrec
      go_wp2_with (go_at_call 109;refine(need_no (by simp) _).mono ?_;rintro e w8 ⟨rfl,rfl⟩)
      refine⟨rfl,?_⟩
      exact⟨.inr ⟨hrs.out,rfl⟩,hB⟩
end Go.Proofs.Ytdcomhdadnhpnaa
end
section
namespace Go.Proofs.Ytdcomhdadnhpnaa
open Go.RowKit
theorem index_any (Bs:Nat) (s:List Bool) (w:World) (hS:SeenR w Bs s) (hn:s.length≤1000000):
  Calls Try.prog 114 #[.slice (some ⟨Bs,0,none⟩) s.length s.length,.bool false] w fun e w'=>(∃i:Int,e= .returned (.int .i64 i)∧((0≤i)↔false∈s))∧w'=w:=by
 go_enter Try.func114,Try.ntmps114
 go_wp2
 go_loop [5,8] (fun _ i=>∃k:Nat,i= .int .i64 (k:Nat)∧k≤s.length∧Hid (∀j,j<k→s.getD j false=true)) (fun _ i=>s.length-(intOf i).toNat)
 case atStart=>exact⟨0,rfl,Nat.zero_le _,fun j h=>by omega⟩
 case round=>
  obtain⟨k,rfl,hk,hx⟩:=hrel
  by_cases hlt:k<s.length
  ·have hlt':(k:Int)<(s.length:Int):=by omega
   have hc:=hS.cell k hlt
   have hd:s.getD k false=true∨s.getD k false=false:=by cases s.getD k false<;>simp
   rcases hd with hd |hd
   ·rw[hd]at hc
    have HD:=Lib.hid hd
    clear hd
    go_wp2
    go_round
    case rel=>
     refine⟨k+1,by go_num,by omega,fun j hj=>?_⟩
     by_cases e:j=k
     ·subst e;exact HD.out
     ·exact hx.out j (by omega)
    case measure=>simp[intOf];omega
   ·rw[hd]at hc
    have HD:=Lib.hid hd
    clear hd
    go_wp2
    go_ret
    refine⟨⟨_,rfl,⟨fun _=>?_,fun _=>by omega⟩⟩,rfl⟩
    have:=HD.out
    rw[List.getD_eq_getElem?_getD,List.getElem?_eq_getElem hlt]at this
    rw[←show s[k]=false from this]
    exact List.getElem_mem _
  ·go_wp2
   go_ret
   refine⟨⟨_,rfl,⟨fun h=>by omega,fun h=>?_⟩⟩,rfl⟩
   obtain⟨j,hj,he⟩:=List.getElem_of_mem h
   have:=hx.out j (by omega)
   rw[List.getD_eq_getElem?_getD,List.getElem?_eq_getElem hj]at this
   simp[he]at this
theorem contains_any (Bs:Nat) (s:List Bool) (w:World) (hS:SeenR w Bs s) (hn:s.length≤1000000):
  Calls Try.prog 111 #[.slice (some ⟨Bs,0,none⟩) s.length s.length,.bool false] w fun e w'=>e= .returned (.bool (decide (false∈s)))∧w'=w:=by
 go_enter Try.func111,Try.ntmps111
 go_wp2_with (go_at_call 114;refine(index_any Bs s w hS hn).mono ?_;rintro e w1 ⟨⟨i,rfl,hi⟩,rfl⟩)
 go_ret
 exact⟨rfl,rfl⟩
end Go.Proofs.Ytdcomhdadnhpnaa
end
section
namespace Go.Proofs.Ytdcomhdadnhpnaa
open Go.RowKit
theorem wpStill_off {P:Program} {ops:Array Oper} {w:World} {Q:Act→Prop} {o:Oper} {rest:List Oper} {a:Act} (hw:Region.wanted o (yielded ops a.tmps)=false) (h:wpStill P ops w Q rest (a.put o.dst undef)):wpStill P ops w Q (o::rest) a:=by
 show(if _ then _ else _)
 rw[if_neg (by rw[hw];simp)]
 exact h
structure RdL (w:World) (A:Option Addr) (l:List Int):Prop where
 at_:0<l.length→∃b off,A=some ⟨b,off,none⟩∧b<w.heap.size∧∀i,i<l.length→w.cell? ⟨b,off+i,none⟩=some (.int .i64 (ati l i))
theorem RdL.below {w w':World} {A:Option Addr} {l:List Int} (h:RdL w A l) (hb:Below w.heap.size w w'):RdL w' A l:=
 ⟨fun h0=>by obtain⟨b,off,e,hl,hc⟩:=h.at_ h0;exact⟨b,off,e,Nat.lt_of_lt_of_le hl hb.size,fun i hi=>(hb.cell (p:=⟨b,off+i,none⟩) hl).trans (hc i hi)⟩⟩
def ckAll (l:List Int) (n bk:Nat):Nat→Option (List Bool)
 |0=>some (List.replicate n false)
 |k+1=>(ckAll l n bk k).bind fun s=>ckC l bk k (headAt k) s [] 0
structure ValidL (l:List Int):Prop where
 l4:4≤l.length
 n0:0≤ati l 0
 n1:ati l 0≤100000
 len:l.length=wlen (ati l 0).toNat
 b1:ati l 1=bkts (ati l 0).toNat
 b2:ati l 2=pow2 (bkts (ati l 0).toNat)
 b3:ati l 3=0
 hash:∀r,r<(ati l 0).toNat→0≤ati l (recAt r)∧ati l (recAt r)≤2147483647
 chains:∃s,ckAll l (ati l 0).toNat (bkts (ati l 0).toNat) (bkts (ati l 0).toNat)=some s∧false∉s
 resth:RestH l (bkts (ati l 0).toNat) ((l.length-4)/56)
 restr:RestR l (ati l 0).toNat ((l.length-4)/56)
structure HeadOk (l:List Int) (n:Nat):Prop where
 n0:ati l 0=(n:Int)
 n1:n≤100000
 len:l.length=wlen n
 b1:ati l 1=bkts n
 b2:ati l 2=(pow2 (bkts n):Nat)
 b3:ati l 3=0
theorem ValidL.head {l:List Int} (h:ValidL l):HeadOk l (ati l 0).toNat:=⟨by have:=h.n0;omega,by have:=h.n1;omega,h.len,h.b1,h.b2,h.b3⟩
theorem bkts_stripes (n:Nat):bkts n≤max 1 ((n+15)/16)*8:=by unfold bkts;split<;>omega
theorem recs_stripes (n:Nat):n≤max 1 ((n+15)/16)*16:=by omega
theorem headAt_wlen {n k:Nat} (h:k<bkts n):headAt k<wlen n:=headAt_lt (Nat.lt_of_lt_of_le h (bkts_stripes n))
theorem recAt_wlen {n r:Nat} (h:r<n):recAt r+2<wlen n:=recAt_lt (Nat.lt_of_lt_of_le h (recs_stripes n))
theorem ckC_len {l:List Int} {bk i q:Nat} {seen:List Bool} {had:List (Int×Int)} {last:Int} {s:List Bool} (h:ckC l bk i q seen had last=some s):s.length=seen.length:=by
 fun_induction ckC l bk i q seen had last with
 |case1=>cases h;rfl
 |case2 _ _ _ _ _ _ _ ih=>rw[ih h,List.length_set]
 |case3=>cases h
 |case4=>cases h
theorem ckAll_len {l:List Int} {n bk:Nat}:∀ {k:Nat} {s:List Bool},ckAll l n bk k=some s→s.length=n
 |0,s,h=>by cases h;simp
 |k+1,s,h=>by
  rw[ckAll]at h
  cases hk:ckAll l n bk k with
  |none=>rw[hk]at h;cases h
  |some u=>rw[hk]at h;exact(ckC_len h).trans (ckAll_len hk)
theorem ckAll_none {l:List Int} {n bk k:Nat} (h:ckAll l n bk k=none):∀m,k≤m→ckAll l n bk m=none
 |0,hm=>by obtain rfl:k=0:=by omega
           exact h
 |m+1,hm=>by
  by_cases e:k=m+1
  ·rw[←e];exact h
  ·rw[ckAll,ckAll_none h m (by omega)];rfl
theorem info4:(Try.prog.info? 4).map (fun i=>(i.zero,i.size,i.bytes))=some (some (.bool false),1,1):=by kernel_rfl
theorem made_bools (n:Nat):madeCells (Value.bool false).cells (n*1)=((List.replicate n false).map Value.bool).toArray:=by
 unfold madeCells
 apply Array.ext
 ·simp[Value.cells]
 ·intro i h1 h2
  simp[Value.cells,Nat.mod_one]
theorem make_bools (n:Nat) (hn:n≤1000000) (w:World):(Instr.makeSlice 133 (.int .i64 n) (.int .i64 n)).run Try.prog w= .ok (.slice (some ⟨w.heap.size,0,none⟩) n n) (w.alloc (.cells ((List.replicate n false).map Value.bool).toArray 4)):=by
 obtain⟨i0,hinf,hz0,hz1,hz2⟩:=info_parts info4
 have h:=run_makeSlice (P:=Try.prog) w 133 4 i0 (.bool false) (by kernel_rfl) hinf hz0 .i64 .i64 n n (by omega) (Int.le_refl _) (by rw[hz1];simp;omega) (by rw[hz2];simp;omega) (by omega)
 rw[hz1,Int.toNat_natCast,made_bools]at h
 exact h
theorem valid_fail {R:Ending→World→Prop} {W:World} {tmps:Array Value} {p:Nat} {v:Bool} (ht:tmps.getD 2 undef= .pointer (some ⟨p,0,none⟩)) (hB:Boxed W p 4 (.bool v))
  (hR:R (.returned (.bool false)) ((W.alloc (.cells #[] 131)).setCell ⟨p,0,none⟩ (.bool false))):
  bodyPostD Try.prog Try.f97 R (Exit.panic [{ v:=.iface 131 (.agg #[]),recovered:=false }]) { tmps:=tmps,defers:=[{ target:=.fn (.func 108) #[.pointer (some ⟨p,0,none⟩)],args:=#[] }] } W:=by
 have e1:=((hB.alloc (.cells #[] 131)).set (.bool false)).cell
 refine leaves_cons (f:=108) (args:=#[.pointer (some ⟨p,0,none⟩)]) (by simp) (by simp[go_sem]) ?_
 refine(catch_panicking p v [] _ hB).mono ?_
 rintro e u' w'' ⟨rfl,rfl,rfl⟩
 have ht':tmps[2]?.getD undef= .pointer (some ⟨p,0,none⟩):=by simpa using ht
 simpa[Leaves,settle,results,Try.results97,go_sem,ht',e1]using hR
end Go.Proofs.Ytdcomhdadnhpnaa
end
section
namespace Go.Proofs.Ytdcomhdadnhpnaa
open Go.RowKit
attribute [local irreducible] wpStill
set_option maxRecDepth 100000 in
set_option maxHeartbeats 8000000 in
theorem valid_head_no (A:Option Addr) (c:Nat) (l:List Int) (w:World) (hR:RdL w A l) (hH:¬HeadOk l (ati l 0).toNat):
  Calls Try.prog 97 #[.slice A l.length c] w fun e W'=>(∃b:Bool,e= .returned (.bool b)∧(b=true↔ValidL l))∧Below w.heap.size w W':=by
 have hmf:∀(fn:Fn) (first cap:Array Value) (w:World),(Instr.makeFunc fn first cap).run Try.prog w= .ok (.func fn first cap) w:=fun _ _ _ _=>rfl
 by_cases h4:4≤l.length
 ·obtain⟨b,off,rfl,hbw,hcs⟩:=hR.at_ (by omega)
  have hb1:Below w.heap.size w (w.alloc (.cells #[.bool false] 4)):=(Below.refl _ _).alloc (Nat.le_refl _) _
  have hbx:Boxed (w.alloc (.cells #[.bool false] 4)) w.heap.size 4 (.bool false):=Boxed.new _ _ _
  have hcs1:∀i,i<l.length→(w.alloc (.cells #[.bool false] 4)).cell? ⟨b,off+i,none⟩=some (.int .i64 (ati l i)):=fun i hi=>(hb1.cell (p:=⟨b,off+i,none⟩) hbw).trans (hcs i hi)
  have hs1:(w.alloc (.cells #[.bool false] 4)).heap.size=w.heap.size+1:=World.size_alloc _ _
  have h4':(4:Int)≤(l.length:Int):=by omega
  have hfin:∀W:World,Below w.heap.size w W→Below w.heap.size w ((W.alloc (.cells #[] 131)).setCell ⟨w.heap.size,0,none⟩ (.bool false)):=fun W h=>(h.alloc h.size _).setCell (Nat.le_refl _) _
  go_enter_defers Try.func97,Try.ntmps97
  go_wp2_with fail
  generalize w.alloc (.cells #[.bool false] 4)=w1 at hb1 hbx hcs1 hs1 ⊢
  generalize hp0:w.heap.size=p0 at hb1 hbx hs1 hfin ⊢
  have c0:=hcs1 0 (by omega)
  have c1:=hcs1 1 (by omega)
  have c2:=hcs1 2 (by omega)
  have c3:=hcs1 3 (by omega)
  rw[Nat.add_zero]at c0
  clear hcs hR
  have hno:¬ValidL l→∀W:World,Boxed W p0 4 (.bool false)→Below p0 w W→∀(tmps:Array Value),tmps.getD 2 undef= .pointer (some ⟨p0,0,none⟩)→
    bodyPostD Try.prog Try.f97 (fun e W'=>(∃b:Bool,e= .returned (.bool b)∧(b=true↔ValidL l))∧Below w.heap.size w W') (Exit.panic [{ v:=.iface 131 (.agg #[]),recovered:=false }]) { tmps:=tmps,defers:=[{ target:=.fn (.func 108) #[.pointer (some ⟨p0,0,none⟩)],args:=#[] }] } W:=
   fun hV W hbW hbe tmps ht=>valid_fail ht hbW ⟨⟨false,rfl,by simp[hV]⟩,by rw[hp0];exact hfin W hbe⟩
  refine(need_yes (by simp<;>omega) _).mono ?_
  rintro e w8 ⟨rfl,rfl⟩
  by_cases hn0:0≤ati l 0
  ·by_cases hn1:ati l 0≤100000
   ·obtain⟨n,hn⟩:∃n:Nat,ati l 0=(n:Int):=⟨(ati l 0).toNat,by omega⟩
    have hnt:(ati l 0).toNat=n:=by omega
    have hnn:n≤100000:=by omega
    rw[hn]at c0
    clear hn0 hn1
    by_cases hlen:l.length=wlen n
    ·have hlen':(l.length:Int)=((wlen n:Nat):Int):=by rw[hlen]
     have hbe:((l.length:Int)==((wlen n:Nat):Int))=true:=by rw[hlen'];exact beq_self_eq_true _
     have HLEN:=Lib.hid hlen
     clear hlen hlen'
     go_wp2_with (first |(go_at_call 64;refine(length_any _ _ (by omega) (by omega)).mono ?_;rintro e w8 ⟨rfl,rfl⟩;rw[Int.toNat_natCast]) |(go_at_call 63;refine(buckets_any _ _ (by omega) (by omega)).mono ?_;rintro e w8 ⟨rfl,rfl⟩;rw[Int.toNat_natCast]) |(go_at_call 109;refine(need_yes (by simp<;>omega) _).mono ?_;rintro e w8 ⟨rfl,rfl⟩))
     clear hbe
     have i1:(1:Int)<(l.length:Int):=by omega
     have i2:(2:Int)<(l.length:Int):=by omega
     have i3:(3:Int)<(l.length:Int):=by omega
     have hb0:=bkts_pos n
     have hb1':=bkts_le n (by omega)
     by_cases e1:ati l 1=bkts n
     ·by_cases e2:ati l 2=(pow2 (bkts n):Nat)
      ·by_cases e3:ati l 3=0
       ·exact absurd ⟨by rw[hnt];exact hn,by rw[hnt];exact hnn,by rw[hnt];exact HLEN.out,by rw[hnt];exact e1,by rw[hnt];exact e2,e3⟩ hH
       ·rw[e1]at c1
        rw[e2]at c2
        have hV:¬ValidL l:=fun h=>e3 h.b3
        have hb3:(ati l 3==(0:Int))=false:=by rw[beq_eq_false_iff_ne];exact e3
        refine region_still_tail 19 (by kernel_rfl) (by kernel_rfl) (fun w7 hw7=>?_)
        have c1':w7.cell? ⟨b,off+1,none⟩=some (.int .i64 (bkts n)):=by rw[hw7];exact c1
        have c2':w7.cell? ⟨b,off+2,none⟩=some (.int .i64 (pow2 (bkts n):Nat)):=by rw[hw7];exact c2
        have c3':w7.cell? ⟨b,off+3,none⟩=some (.int .i64 (ati l 3)):=by rw[hw7];exact c3
        have hbx7:Boxed w7 p0 4 (.bool false):=by rw[hw7];exact hbx
        have hb17:Below p0 w w7:=by rw[hw7];exact hb1.drew
        clear hw7 c0 c1 c2 c3 hcs1 hs1
        simp only[List.take_succ_cons,List.take_zero,List.drop_succ_cons,List.drop_zero]
        repeat still_step
        still_call (by simpa using power_any (bkts n:Int) w7 (by omega) (by omega))
        repeat still_step
        refine wpStill_nil ?_
        go_wp2_with (go_at_call 109;refine(need_no (by simp<;>omega) _).mono ?_;rintro e w8 ⟨rfl,rfl⟩)
        refine hno hV _ hbx7 hb17 _ ?_
        rfl
      ·rw[e1]at c1
       have hV:¬ValidL l:=fun h=>e2 (by have:=h.b2;rw[hnt]at this;exact this)
       have hb3:(ati l 2==((pow2 (bkts n):Nat):Int))=false:=by rw[beq_eq_false_iff_ne];exact e2
       refine region_still_tail 19 (by kernel_rfl) (by kernel_rfl) (fun w7 hw7=>?_)
       have c1':w7.cell? ⟨b,off+1,none⟩=some (.int .i64 (bkts n)):=by rw[hw7];exact c1
       have c2':w7.cell? ⟨b,off+2,none⟩=some (.int .i64 (ati l 2)):=by rw[hw7];exact c2
       have hbx7:Boxed w7 p0 4 (.bool false):=by rw[hw7];exact hbx
       have hb17:Below p0 w w7:=by rw[hw7];exact hb1.drew
       clear hw7 c0 c1 c2 c3 hcs1 hs1
       simp only[List.take_succ_cons,List.take_zero,List.drop_succ_cons,List.drop_zero]
       iterate 10 still_step
       still_call (by simpa using power_any (bkts n:Int) w7 (by omega) (by omega))
       iterate 3 still_step
       iterate 4
        refine wpStill_off rfl ?_
        simp only[Act.put,List.setIfInBounds_toArray,List.set_cons_succ,List.set_cons_zero]
       still_step
       refine wpStill_nil ?_
       go_wp2_with (go_at_call 109;refine(need_no (by simp<;>omega) _).mono ?_;rintro e w8 ⟨rfl,rfl⟩)
       refine hno hV _ hbx7 hb17 _ ?_
       rfl
     ·have hV:¬ValidL l:=fun h=>e1 (by have:=h.b1;rw[hnt]at this;exact this)
      have hb3:(ati l 1==(bkts n:Int))=false:=by rw[beq_eq_false_iff_ne];exact e1
      refine region_still_tail 19 (by kernel_rfl) (by kernel_rfl) (fun w7 hw7=>?_)
      have c1':w7.cell? ⟨b,off+1,none⟩=some (.int .i64 (ati l 1)):=by rw[hw7];exact c1
      have hbx7:Boxed w7 p0 4 (.bool false):=by rw[hw7];exact hbx
      have hb17:Below p0 w w7:=by rw[hw7];exact hb1.drew
      clear hw7 c0 c1 c2 c3 hcs1 hs1
      simp only[List.take_succ_cons,List.take_zero,List.drop_succ_cons,List.drop_zero]
      iterate 6 still_step
      iterate 6
       refine wpStill_off rfl ?_
       simp only[Act.put,List.setIfInBounds_toArray,List.set_cons_succ,List.set_cons_zero]
      iterate 2 still_step
      iterate 4
       refine wpStill_off rfl ?_
       simp only[Act.put,List.setIfInBounds_toArray,List.set_cons_succ,List.set_cons_zero]
      still_step
      refine wpStill_nil ?_
      go_wp2_with (go_at_call 109;refine(need_no (by simp<;>omega) _).mono ?_;rintro e w8 ⟨rfl,rfl⟩)
      refine hno hV _ hbx7 hb17 _ ?_
      rfl
    ·have hlen':(l.length:Int)≠((wlen n:Nat):Int):=by omega
     have hbe:((l.length:Int)==((wlen n:Nat):Int))=false:=by rw[beq_eq_false_iff_ne];exact hlen'
     have hV:¬ValidL l:=fun h=>hlen (by rw[←hnt];exact h.len)
     clear hlen
     go_wp2_with (first |(go_at_call 64;refine(length_any _ _ (by omega) (by omega)).mono ?_;rintro e w8 ⟨rfl,rfl⟩;rw[Int.toNat_natCast]) |(go_at_call 109;refine(need_no (by simp<;>omega) _).mono ?_;rintro e w8 ⟨rfl,rfl⟩))
     refine hno hV _ hbx hb1 _ ?_;rfl
   ·have hV:¬ValidL l:=fun h=>hn1 h.n1
    go_wp2_with (go_at_call 109;refine(need_no (by simp<;>omega) _).mono ?_;rintro e w8 ⟨rfl,rfl⟩)
    refine hno hV _ hbx hb1 _ ?_;rfl
  ·have hV:¬ValidL l:=fun h=>hn0 h.n0
   go_wp2_with (go_at_call 109;refine(need_no (by simp<;>omega) _).mono ?_;rintro e w8 ⟨rfl,rfl⟩)
   refine hno hV _ hbx hb1 _ ?_;rfl
 ·go_enter_defers Try.func97,Try.ntmps97
  have h4':(l.length:Int)<4:=by omega
  have hV:¬ValidL l:=fun h=>h4 h.l4
  clear h4
  go_wp2_with (go_at_call 109;refine(need_no (by simp<;>omega) _).mono ?_;rintro e w8 ⟨rfl,rfl⟩)
  exact valid_fail rfl (Boxed.new _ _ _) ⟨⟨false,rfl,by simp[hV]⟩,((((Below.refl _ _).alloc (Nat.le_refl _) _).alloc (by simp) _).setCell (by simp) _)⟩
end Go.Proofs.Ytdcomhdadnhpnaa
end
section
namespace Go.Proofs.Ytdcomhdadnhpnaa
open Go.RowKit
set_option maxRecDepth 100000 in
set_option maxHeartbeats 8000000 in
theorem valid_head_yes (A:Option Addr) (c:Nat) (l:List Int) (w:World) (hR:RdL w A l) (n:Nat) (hH:HeadOk l n):
  Calls Try.prog 97 #[.slice A l.length c] w fun e W'=>(∃b:Bool,e= .returned (.bool b)∧(b=true↔ValidL l))∧Below w.heap.size w W':=by
 have hmf:∀(fn:Fn) (first cap:Array Value) (w:World),(Instr.makeFunc fn first cap).run Try.prog w= .ok (.func fn first cap) w:=fun _ _ _ _=>rfl
 obtain⟨hn,hnn,hlen,e1,e2,e3⟩:=hH
 have hl60:=wlen_ge n
 obtain⟨b,off,rfl,hbw,hcs⟩:=hR.at_ (by omega)
 have hb1:Below w.heap.size w (w.alloc (.cells #[.bool false] 4)):=(Below.refl _ _).alloc (Nat.le_refl _) _
 have hbx:Boxed (w.alloc (.cells #[.bool false] 4)) w.heap.size 4 (.bool false):=Boxed.new _ _ _
 have hcs1:∀i,i<l.length→(w.alloc (.cells #[.bool false] 4)).cell? ⟨b,off+i,none⟩=some (.int .i64 (ati l i)):=fun i hi=>(hb1.cell (p:=⟨b,off+i,none⟩) hbw).trans (hcs i hi)
 have hs1:(w.alloc (.cells #[.bool false] 4)).heap.size=w.heap.size+1:=World.size_alloc _ _
 have h4':(4:Int)≤(l.length:Int):=by omega
 have hfin:∀W:World,Below w.heap.size w W→Below w.heap.size w ((W.alloc (.cells #[] 131)).setCell ⟨w.heap.size,0,none⟩ (.bool false)):=fun W h=>(h.alloc h.size _).setCell (Nat.le_refl _) _
 have hbe:((l.length:Int)==((wlen n:Nat):Int))=true:=by rw[hlen];exact beq_self_eq_true _
 have HLEN:=Lib.hid hlen
 have hnt:(ati l 0).toNat=n:=by omega
 have hll:l.length≤3000000:=by rw[hlen];unfold wlen;omega
 have i1:(1:Int)<(l.length:Int):=by omega
 have i2:(2:Int)<(l.length:Int):=by omega
 have i3:(3:Int)<(l.length:Int):=by omega
 have hb0:=bkts_pos n
 have hb1':=bkts_le n (by omega)
 clear hlen
 go_enter_defers Try.func97,Try.ntmps97
 go_wp2_with fail
 generalize w.alloc (.cells #[.bool false] 4)=w1 at hb1 hbx hcs1 hs1 ⊢
 generalize hp0:w.heap.size=p0 at hb1 hbx hs1 hfin ⊢
 have c0:=hcs1 0 (by omega)
 have c1:=hcs1 1 (by omega)
 have c2:=hcs1 2 (by omega)
 have c3:=hcs1 3 (by omega)
 rw[Nat.add_zero]at c0
 rw[hn]at c0
 rw[e1]at c1
 rw[e2]at c2
 rw[e3]at c3
 clear hcs hR
 have hno:¬ValidL l→∀W:World,Boxed W p0 4 (.bool false)→Below p0 w W→∀(tmps:Array Value),tmps.getD 2 undef= .pointer (some ⟨p0,0,none⟩)→
   bodyPostD Try.prog Try.f97 (fun e W'=>(∃b:Bool,e= .returned (.bool b)∧(b=true↔ValidL l))∧Below w.heap.size w W') (Exit.panic [{ v:=.iface 131 (.agg #[]),recovered:=false }]) { tmps:=tmps,defers:=[{ target:=.fn (.func 108) #[.pointer (some ⟨p0,0,none⟩)],args:=#[] }] } W:=
  fun hV W hbW hbe tmps ht=>valid_fail ht hbW ⟨⟨false,rfl,by simp[hV]⟩,by rw[hp0];exact hfin W hbe⟩
 refine(need_yes (by simp<;>omega) _).mono ?_
 rintro e w8 ⟨rfl,rfl⟩
 go_wp2_with (first |(go_at_call 64;refine(length_any _ _ (by omega) (by omega)).mono ?_;rintro e w8 ⟨rfl,rfl⟩;rw[Int.toNat_natCast]) |(go_at_call 63;refine(buckets_any _ _ (by omega) (by omega)).mono ?_;rintro e w8 ⟨rfl,rfl⟩;rw[Int.toNat_natCast]) |(go_at_call 109;refine(need_yes (by simp<;>omega) _).mono ?_;rintro e w8 ⟨rfl,rfl⟩))
 clear hbe
 refine region_still_tail 19 (by kernel_rfl) (by kernel_rfl) (fun w7 hw7=>?_)
 have c1':w7.cell? { block:=b,off:=off+1 }=some (Value.int IntKind.i64 (bkts n)):=by rw[hw7];exact c1
 have c2':w7.cell? { block:=b,off:=off+2 }=some (Value.int IntKind.i64 (pow2 (bkts n):Nat)):=by rw[hw7];exact c2
 have c3':w7.cell? { block:=b,off:=off+3 }=some (Value.int IntKind.i64 0):=by rw[hw7];exact c3
 have hbx7:Boxed w7 p0 4 (.bool false):=by rw[hw7];exact hbx
 have hb17:Below p0 w w7:=by rw[hw7];exact hb1.drew
 have hcs7:∀i,i<l.length→w7.cell? ⟨b,off+i,none⟩=some (.int .i64 (ati l i)):=by rw[hw7];exact hcs1
 have hs7:w7.heap.size=p0+1:=by rw[hw7];exact hs1
 clear hw7 c0 c1 c2 c3 hcs1 hs1 hbx hb1
 simp only[List.take_succ_cons,List.take_zero,List.drop_succ_cons,List.drop_zero]
 repeat still_step
 still_call (by simpa using power_any (bkts n:Int) w7 (by omega) (by omega))
 repeat still_step
 refine wpStill_nil ?_
 go_wp2_with (go_at_call 109;refine(need_yes (by simp) _).mono ?_;rintro e w8 ⟨rfl,rfl⟩)
 clear c1' c2' c3'
 have hT9:TblR (w8.alloc (.cells #[.slice (some ⟨b,off,none⟩) l.length c] 91)) (p0+1) b off c l:=by
  have hB:Boxed (w8.alloc (.cells #[.slice (some ⟨b,off,none⟩) l.length c] 91)) w8.heap.size 91 (.slice (some ⟨b,off,none⟩) l.length c):=Boxed.new _ _ _
  rw[hs7]at hB
  have hlt:b<w8.heap.size:=by rw[hs7];omega
  exact⟨hB.cell,fun i hi=>(((Below.refl _ w8).alloc (Nat.le_refl _) _).cell (p:=⟨b,off+i,none⟩) hlt).trans (hcs7 i hi),by rw[World.size_alloc];omega⟩
 have hbx9:Boxed (w8.alloc (.cells #[.slice (some ⟨b,off,none⟩) l.length c] 91)) p0 4 (.bool false):=hbx7.alloc _
 have hb9:Below p0 w (w8.alloc (.cells #[.slice (some ⟨b,off,none⟩) l.length c] 91)):=hb17.alloc (by rw[hs7];omega) _
 have hs9:(w8.alloc (.cells #[.slice (some ⟨b,off,none⟩) l.length c] 91)).heap.size=p0+2:=by rw[World.size_alloc,hs7]
 generalize w8.alloc (.cells #[.slice (some ⟨b,off,none⟩) l.length c] 91)=w9 at hT9 hbx9 hb9 hs9 ⊢
 clear hbx7 hb17 hcs7 hs7
 go_loopw [6,57] (fun _ kk wr=>∃k:Nat,k≤n∧kk= .int .i64 (k:Nat)∧Hid (∀r,r<k→0≤ati l (recAt r)∧ati l (recAt r)≤2147483647)∧Below w9.heap.size w9 wr) (fun _ kk _=>n-(intOf kk).toNat)
 case atStart=>exact⟨0,Nat.zero_le _,rfl,fun r h=>by omega,Below.refl _ _⟩
 case round=>
  obtain⟨k,hk,rfl,hx,hbr⟩:=hrel
  have hTr:=hT9.below hbr
  have hbxr:=boxed_below hbx9 hbr
  have hbr9:Below p0 w wr:=hb9.trans (hbr.mono (by omega))
  have hsr:p0+2≤wr.heap.size:=by have:=hbr.size;omega
  by_cases hlt:k<n
  ·have hlt':(k:Int)<(n:Int):=by omega
   have hrk:recAt k+2<l.length:=by have:=HLEN.out;have:=recAt_wlen hlt;omega
   by_cases hr:0≤ati l (recAt k)∧ati l (recAt k)≤2147483647
   ·have hd:decide (0≤ati l (recAt k)∧ati l (recAt k)≤2147483647)=true:=decide_eq_true hr
    have HR:=Lib.hid hr
    clear hr
    go_wp2_with (first
     |(go_at_call 73;refine(record_any (p0+1) (k:Nat) _ (by omega) (by omega)).mono ?_;rintro e wa ⟨rfl,hba⟩;rw[Int.toNat_natCast];have hTr:=hTr.below hba)
     |(go_at_call 74;refine(hash_any _ (p0+1) b off c l hTr (recAt k:Nat) (by omega) (by omega)).mono ?_;rintro e wb ⟨rfl,hbb⟩;rw[Int.toNat_natCast])
     |(go_at_call 65;refine(right_any _ _).mono ?_;rintro e w8 ⟨rfl,rfl⟩;rw[hd])
     |(go_at_call 109;refine(need_yes (by simp) _).mono ?_;rintro e w8 ⟨rfl,rfl⟩))
    go_roundw
    case rel=>
     refine⟨k+1,by omega,by go_num,?_,(hbr.trans (hba.mono hbr.size)).trans (hbb.mono (Nat.le_trans hbr.size hba.size))⟩
     intro r h
     by_cases e:r=k
     ·subst e;exact HR.out
     ·exact hx.out r (by omega)
    case measure=>simp[intOf];omega
   ·have hV:¬ValidL l:=fun h=>hr (by have:=h.hash k (by rw[hnt];exact hlt);exact this)
    have hd:decide (0≤ati l (recAt k)∧ati l (recAt k)≤2147483647)=false:=decide_eq_false hr
    clear hr
    go_wp2_with (first
     |(go_at_call 73;refine(record_any (p0+1) (k:Nat) _ (by omega) (by omega)).mono ?_;rintro e wa ⟨rfl,hba⟩;rw[Int.toNat_natCast];have hTr:=hTr.below hba)
     |(go_at_call 74;refine(hash_any _ (p0+1) b off c l hTr (recAt k:Nat) (by omega) (by omega)).mono ?_;rintro e wb ⟨rfl,hbb⟩;rw[Int.toNat_natCast])
     |(go_at_call 65;refine(right_any _ _).mono ?_;rintro e w8 ⟨rfl,rfl⟩;rw[hd])
     |(go_at_call 109;refine(need_no (by simp) _).mono ?_;rintro e w8 ⟨rfl,rfl⟩))
    have hba2:=boxed_below hbxr hba
    refine hno hV _ (boxed_below hba2 hbb) ((hbr9.trans (hba.mono (by omega))).trans (hbb.mono (by have:=hba.size;omega))) _ ?_
    rfl
  ·have hkk:k=n:=by omega
   subst hkk
   have hmk:=make_bools k (by omega)
   have HX:=hx
   clear hx
   go_wp2
   have hSR:SeenR (wr.alloc (.cells (Array.replicate k (Value.bool false)) 4)) wr.heap.size (List.replicate k false):=by
    have h:=World.alloc_heap_new wr (.cells (Array.replicate k (Value.bool false)) 4)
    unfold SeenR
    rw[h]
    congr 2
    apply Array.ext'
    simp
   have hTs:TblR (wr.alloc (.cells (Array.replicate k (Value.bool false)) 4)) (p0+1) b off c l:=hTr.alloc _
   have hbxs:Boxed (wr.alloc (.cells (Array.replicate k (Value.bool false)) 4)) p0 4 (.bool false):=hbxr.alloc _
   have hbs:Below p0 w (wr.alloc (.cells (Array.replicate k (Value.bool false)) 4)):=hbr9.alloc (by omega) _
   generalize wr.alloc (.cells (Array.replicate k (Value.bool false)) 4)=ws at hSR hTs hbxs hbs ⊢
   generalize wr.heap.size=Bs at hsr hSR ⊢
   clear hTr hbxr hbr9 hbr hT9 hbx9 hb9 hs9 hmk hlt hk
   have hck0:∀m,m≤bkts k→ckAll l k (bkts k) m=none→¬ValidL l:=fun m hm hc hV=>by
    obtain⟨s,h1,_⟩:=hV.chains
    rw[hnt]at h1
    rw[ckAll_none hc _ hm]at h1
    cases h1
   go_loopw [8,70] (fun _ kk wr=>∃(m:Nat) (s:List Bool),m≤bkts k∧kk= .int .i64 (m:Nat)∧Hid (ckAll l k (bkts k) m=some s)∧SeenR wr Bs s∧Below Bs ws wr) (fun _ kk _=>bkts k-(intOf kk).toNat)
   case atStart=>exact⟨0,_,Nat.zero_le _,rfl,rfl,hSR,Below.refl _ _⟩
   case round=>
    clear hSR
    obtain⟨m,s,hm,rfl,hck,hSm,hbm⟩:=hrel
    have hTm:=hTs.belowN hbm (by omega) (by omega)
    have hbxm:Boxed wr p0 4 (.bool false):=(hbm.block p0 (by omega)).trans hbxs
    have hbwm:Below p0 w wr:=hbs.trans (hbm.mono (by omega))
    have hsl:=ckAll_len hck.out
    by_cases hlt:m<bkts k
    ·have hlt':(m:Int)<((bkts k:Nat):Int):=by omega
     go_wp2_with fail
     have hcall:=checkChain_any (p0+1) b off c l m (bkts k) Bs s wr hTm (by omega) (by omega) hSm hll (by omega) (by have:=HLEN.out;have:=headAt_wlen hlt;omega) (by omega) (by omega) (by omega)
      (fun r hr=>⟨by have:=HLEN.out;have:=recAt_wlen (n:=k) (r:=r) (by omega);omega,HX.out r (by omega)⟩)
     rw[hsl]at hcall
     refine hcall.mono ?_
     rintro e w10 ⟨⟨s',hc',rfl,hS'⟩ |⟨hc',rfl⟩,hb10⟩
     ·go_wp2_with fail
      go_roundw
      case rel=>exact⟨m+1,s',by omega,by go_num,by show _=_;rw[ckAll,hck.out];exact hc',hS',hbm.trans hb10⟩
      case measure=>simp[intOf];omega
     ·dsimp only[wrongEnd]
      have hV:=hck0 (m+1) (by omega) (by rw[ckAll,hck.out];exact hc')
      refine hno hV _ ((hb10.block p0 (by omega)).trans hbxm) (hbwm.trans (hb10.mono (by omega))) _ ?_
      rfl
    ·obtain rfl:m=bkts k:=by omega
     go_wp2_with (go_at_call 111;rw[←hsl];refine(contains_any Bs s _ hSm (by omega)).mono ?_;rintro e w8 ⟨rfl,rfl⟩)
     by_cases hf:false∈s
     ·refine(need_no (by simp[hf]) _).mono ?_
      rintro e w10 ⟨rfl,rfl⟩
      refine hno (fun hV=>?_) _ hbxm hbwm _ ?_
      ·obtain⟨s',h1,h2⟩:=hV.chains
       rw[hnt,hck.out]at h1
       cases h1
       exact h2 hf
      ·rfl
     ·refine(need_yes (by simp[hf]) _).mono ?_
      rintro e w10 ⟨rfl,rfl⟩
      go_wp2_with fail
      refine(checkRest_any (p0+1) b off c l k (bkts k) ((l.length-4)/56) _ hTm (by have:=HLEN.out;unfold wlen at this;omega) (by have:=HLEN.out;unfold wlen at this;omega) (by omega) (by omega)).mono ?_
      rintro e w11 ⟨⟨⟨hP1,hP2⟩,rfl⟩ |⟨hP,rfl⟩,hb11⟩
      ·have hbx11:=boxed_below hbxm hb11
       have hb11':Below p0 w w11:=hbwm.trans (hb11.mono (by have:=hbm.size;have:=lt_heap hSm;omega))
       have cx:=hbx11.cell
       have fx:=hbx11.frozen
       have hV:ValidL l:=⟨by omega,by omega,by omega,by rw[hnt];exact HLEN.out,by rw[hnt];exact e1,by rw[hnt];exact e2,e3,by rw[hnt];exact HX.out,by rw[hnt];exact⟨s,hck.out,hf⟩,by rw[hnt];exact hP1,by rw[hnt];exact hP2⟩
       go_wp2_with fail
       have cz:=(hbx11.set (.bool true)).cell
       refine leaves_cons (f:=108) (args:=#[.pointer (some ⟨p0,0,none⟩)]) (by simp) (by simp[go_sem]) ?_
       refine(catch_idle ⟨p0,0,none⟩ _).mono ?_
       rintro e u' w'' ⟨rfl,rfl,rfl⟩
       simp[Leaves,settle,results,Try.results97,go_sem,cz]
       exact⟨hV,by rw[hp0];exact hb11'.setCell (Nat.le_refl _) _⟩
      ·dsimp only[wrongEnd]
       refine hno (fun hV=>hP ?_) _ (boxed_below hbxm hb11) (hbwm.trans (hb11.mono (by have:=lt_heap hSm;omega))) _ ?_
       ·have h1:=hV.resth
        have h2:=hV.restr
        rw[hnt]at h1 h2
        exact⟨h1,h2⟩
       ·rfl
end Go.Proofs.Ytdcomhdadnhpnaa
end
section
namespace Go.Proofs.Ytdcomhdadnhpnaa
open Go.RowKit Go.Shelf
open Go.Proofs.YtdcomhdadnhpnaaW.PrintWords (ReadsOf encs print_append_row_of own_reads_of Kd)
def encI (x:Int):Value:=.int .i64 x
theorem RdL.reads {w:World} {A:Option Addr} {l:List Int} (h:RdL w A l) (hl:l.length≤100000000):ReadsOf encI 0 w A l.length l:=
 ⟨rfl,by omega,fun h0=>by
  obtain⟨b,off,rfl,_,hc⟩:=h.at_ h0
  exact⟨_,rfl,fun j hj=>by
   have:(⟨b,off,none⟩:Addr).add j=⟨b,off+j,none⟩:=by unfold Addr.add;split<;>simp_all
   rw[this];exact hc j hj⟩⟩
set_option maxRecDepth 100000 in
theorem clone_any (A:Option Addr) (c:Nat) (l:List Int) (w:World) (hR:RdL w A l) (h0:0<l.length) (hl:l.length≤100000000):
  Calls Try.prog 100 #[.slice A l.length c] w fun e W'=>(∃B cap,e= .returned (.slice (some ⟨B,0,none⟩) l.length cap)∧Rw w.heap.size W' B cap l)∧Below w.heap.size w W':=by
 obtain⟨b,off,rfl,hb,hc⟩:=hR.at_ h0
 have hnil:∀w:World,(binOp .eql 31 (.slice (some ⟨b,off,none⟩) l.length c) (.slice none 0 0)).run Try.prog w= .ok (.bool false) w:=fun _=>by kernel_rfl
 have hbs:∀w:World,(Instr.buildSlice 31 0 #[]).run Try.prog w= .ok (.slice (some ⟨w.heap.size,0,none⟩) 0 0) (w.alloc (.cells #[] 3)):=fun _=>by kernel_rfl
 have hO:(w.alloc (.cells #[] 3)).ownsRow w.heap.size 3 1 (.slice (some ⟨w.heap.size,0,none⟩) 0 0) ([]:List Int).length (encs encI []):=
  ⟨by simp[encs],.inr ⟨w.heap.size,0,#[],rfl,Nat.le_refl _,World.alloc_heap_new _ _,Nat.le_refl _,by unfold maxLen;omega,by simp,by simp[encs]⟩⟩
 have hB0:Below w.heap.size w (w.alloc (.cells #[] 3)):=(Below.refl _ _).alloc (Nat.le_refl _) _
 have hRe:=(hR.below hB0).reads hl
 go_enter Try.func100,Try.ntmps100
 go_wp2_with (at_builtin;refine print_append_row_of (w0:=w.alloc (.cells #[] 3)) encI 0 w.heap.size rfl _ _ 31 3 (.int .i64 0) 8 rfl Try.underlying31 info3 rfl (by decide) (fun _=>rfl) _ [] l (some ⟨b,off,none⟩) _ c rfl rfl hO hRe (Below.refl _ _) (by simp) (by simp;omega) ?_;intro v1 w1 ho1 hb1 hg1 hat1)
 rw[List.nil_append]at ho1
 obtain⟨B,cap,rfl,hrw⟩:=rw_of_own (l:=l) ho1 (by intro e;rw[e]at h0;cases h0)
 go_ret
 exact⟨⟨B,cap,rfl,hrw⟩,hB0.trans hb1⟩
end Go.Proofs.Ytdcomhdadnhpnaa
end
section
namespace Go.Proofs.Ytdcomhdadnhpnaa
open Go.RowKit Go.Shelf
theorem valid_any (A:Option Addr) (c:Nat) (l:List Int) (w:World) (hR:RdL w A l):
  Calls Try.prog 97 #[.slice A l.length c] w fun e W'=>(∃b:Bool,e= .returned (.bool b)∧(b=true↔ValidL l))∧Below w.heap.size w W':=by
 by_cases hH:HeadOk l (ati l 0).toNat
 ·exact valid_head_yes A c l w hR _ hH
 ·exact valid_head_no A c l w hR hH
def OpenE (base:Nat) (l:List Int) (h:Int) (e:Ending) (W':World):Prop:=
 (¬ValidL l∧e= .returned (.tuple #[.pointer none,.int .i64 600]))∨
 (ValidL l∧¬(0≤h∧h≤2147483647)∧e= .returned (.tuple #[.pointer none,.int .i64 1]))∨
 (ValidL l∧(0≤h∧h≤2147483647)∧∃p B cap,e= .returned (.tuple #[.pointer (some ⟨p,0,none⟩),.int .i64 0])∧Tb base W' p B cap l)
theorem ValidL.len60 {l:List Int} (h:ValidL l):60≤l.length:=by rw[h.len];exact wlen_ge _
theorem ValidL.le {l:List Int} (h:ValidL l):l.length≤3000000:=by rw[h.len];have:=h.n1;have:=h.n0;unfold wlen;omega
set_option maxRecDepth 100000 in
set_option maxHeartbeats 1000000 in
theorem opened_any (A:Option Addr) (c:Nat) (l:List Int) (h:Int) (w:World) (hR:RdL w A l):
  Calls Try.prog 69 #[.slice A l.length c,.int .i64 h] w fun e W'=>OpenE w.heap.size l h e W'∧Below w.heap.size w W':=by
 go_enter Try.func69,Try.ntmps69
 go_wp2_with fail
 refine(valid_any A c l w hR).mono ?_
 rintro e w1 ⟨⟨b,rfl,hb⟩,hB1⟩
 cases b with
 |false=>
  go_wp2
  refine bodyPost_ret (v:=.tuple #[.pointer none,.int .i64 600]) (by simp[results,Try.results69,go_sem]) rfl ?_
  exact⟨.inl ⟨by simpa using hb,rfl⟩,hB1⟩
 |true=>
  have hV:ValidL l:=hb.1 rfl
  go_wp2_with fail
  refine(right_any h w1).mono ?_
  rintro e w2 ⟨rfl,rfl⟩
  by_cases hh:0≤h∧h≤2147483647
  ·have hd:decide (0≤h∧h≤2147483647)=true:=decide_eq_true hh
   rw[hd]
   go_wp2_with fail
   refine(clone_any A c l w2 (hR.below hB1) (by have:=hV.len60;omega) (by have:=hV.le;omega)).mono ?_
   rintro e w3 ⟨⟨B,cap,rfl,hrw⟩,hB3⟩
   have hbld:∀W:World,(Instr.build 91 #[(0,.slice (some ⟨B,0,none⟩) l.length cap)]).run Try.prog W= .ok (.agg #[.slice (some ⟨B,0,none⟩) l.length cap]) W:=fun _=>by kernel_rfl
   have HH:=Lib.hid hh
   have HV:=Lib.hid hV
   have HR:=Lib.hid hrw
   clear hh hd hb hV hrw
   go_wp2
   refine bodyPost_ret (v:=.tuple #[.pointer (some ⟨w3.heap.size,0,none⟩),.int .i64 0]) (by simp[results,Try.results69,go_sem]) rfl ?_
   have hs:=hB1.size
   have hs3:=hB3.size
   have hrw:=HR.out
   refine⟨.inr (.inr ⟨HV.out,HH.out,w3.heap.size,B,cap,rfl,?_⟩),(hB1.trans (hB3.mono hs)).alloc (by omega) _⟩
   obtain⟨cur,hh,r⟩:=hrw.row
   exact⟨by omega,Nat.le_trans hs hrw.bb,by have:=lt_heap hh;omega,World.alloc_heap_new _ _,⟨cur,(Below.heap_alloc _ _ _ (lt_heap hh)).trans hh,r⟩,hrw.le,hrw.capm⟩
  ·have hd:decide (0≤h∧h≤2147483647)=false:=decide_eq_false hh
   rw[hd]
   go_wp2
   refine bodyPost_ret (v:=.tuple #[.pointer none,.int .i64 1]) (by simp[results,Try.results69,go_sem]) rfl ?_
   exact⟨.inr (.inl ⟨hV,hh,rfl⟩),hB1⟩
theorem bucketsX_any (n:Int) (w:World):
  Calls Try.prog 16 #[.int .i64 n] w fun e w'=>e= .returned (if n<0∨n>100000 then .tuple #[.int .i64 0,.int .i64 1]else .tuple #[.int .i64 (bkts n.toNat:Nat),.int .i64 0])∧w'=w:=by
 by_cases h0:n<0
 ·go_enter Try.func16,Try.ntmps16
  go_wp2
  refine bodyPost_ret (v:=.tuple #[.int .i64 0,.int .i64 1]) (by simp[results,Try.results16,go_sem]) rfl ?_
  exact⟨by first |rfl |rw[if_pos (.inl h0)],rfl⟩
 ·by_cases h1:n>100000
  ·have h0':0≤n:=by omega
   have h1':100000<n:=by omega
   go_enter Try.func16,Try.ntmps16
   go_wp2
   refine bodyPost_ret (v:=.tuple #[.int .i64 0,.int .i64 1]) (by simp[results,Try.results16,go_sem]) rfl ?_
   exact⟨by first |rfl |rw[if_pos (.inr h1)],rfl⟩
  ·have h0':0≤n:=by omega
   have h1':n≤100000:=by omega
   have hh:¬(n<0∨n>100000):=by omega
   go_enter Try.func16,Try.ntmps16
   go_wp2_with (go_at_call 63;refine(buckets_any _ _ (by omega) (by omega)).mono ?_;rintro e w8 ⟨rfl,rfl⟩)
   refine bodyPost_ret (v:=.tuple #[.int .i64 (bkts n.toNat:Nat),.int .i64 0]) (by simp[results,Try.results16,go_sem]) rfl ?_
   exact⟨by first |rfl |rw[if_neg hh],rfl⟩
theorem lengthX_any (n:Int) (w:World):
  Calls Try.prog 17 #[.int .i64 n] w fun e w'=>e= .returned (if n<0∨n>100000 then .tuple #[.int .i64 0,.int .i64 1]else .tuple #[.int .i64 (wlen n.toNat:Nat),.int .i64 0])∧w'=w:=by
 by_cases h0:n<0
 ·go_enter Try.func17,Try.ntmps17
  go_wp2
  refine bodyPost_ret (v:=.tuple #[.int .i64 0,.int .i64 1]) (by simp[results,Try.results17,go_sem]) rfl ?_
  exact⟨by first |rfl |rw[if_pos (.inl h0)],rfl⟩
 ·by_cases h1:n>100000
  ·have h0':0≤n:=by omega
   have h1':100000<n:=by omega
   go_enter Try.func17,Try.ntmps17
   go_wp2
   refine bodyPost_ret (v:=.tuple #[.int .i64 0,.int .i64 1]) (by simp[results,Try.results17,go_sem]) rfl ?_
   exact⟨by first |rfl |rw[if_pos (.inr h1)],rfl⟩
  ·have h0':0≤n:=by omega
   have h1':n≤100000:=by omega
   have hh:¬(n<0∨n>100000):=by omega
   go_enter Try.func17,Try.ntmps17
   go_wp2_with (go_at_call 64;refine(length_any _ _ (by omega) (by omega)).mono ?_;rintro e w8 ⟨rfl,rfl⟩)
   refine bodyPost_ret (v:=.tuple #[.int .i64 (wlen n.toNat:Nat),.int .i64 0]) (by simp[results,Try.results17,go_sem]) rfl ?_
   exact⟨by first |rfl |rw[if_neg hh],rfl⟩
set_option maxRecDepth 100000 in
theorem bucketX_any (hx b:Int) (w:World):
  Calls Try.prog 20 #[.int .i64 hx,.int .i64 b] w fun e w'=>e= .returned (if(0≤hx∧hx≤2147483647)∧8≤b∧b≤50000 then .tuple #[.int .i64 (bkt hx.toNat b.toNat:Nat),.int .i64 0]else .tuple #[.int .i64 0,.int .i64 1])∧w'=w:=by
 by_cases hh:0≤hx∧hx≤2147483647
 ·have hd:decide (0≤hx∧hx≤2147483647)=true:=decide_eq_true hh
  by_cases h0:b<8
  ·go_enter Try.func20,Try.ntmps20
   go_wp2_with (go_at_call 65;refine(right_any _ _).mono ?_;rintro e w8 ⟨rfl,rfl⟩;rw[hd])
   refine bodyPost_ret (v:=.tuple #[.int .i64 0,.int .i64 1]) (by simp[results,Try.results20,go_sem]) rfl ?_
   exact⟨by first |rfl |rw[if_neg (by omega)],rfl⟩
  ·have h0':8≤b:=by omega
   have e5:((bkts (100000:Int).toNat:Nat):Int)=50000:=by decide
   by_cases h1:b≤50000
   ·go_enter Try.func20,Try.ntmps20
    go_wp2_with (first
     |(go_at_call 65;refine(right_any _ _).mono ?_;rintro e w8 ⟨rfl,rfl⟩;rw[hd])
     |(go_at_call 63;refine(buckets_any _ _ (by omega) (by omega)).mono ?_;rintro e w8 ⟨rfl,rfl⟩;rw[e5])
     |(go_at_call 66;refine(bucket_any _ _ _ (by omega) (by omega) (by omega) (by omega)).mono ?_;rintro e w8 ⟨rfl,rfl⟩))
    refine bodyPost_ret (v:=.tuple #[.int .i64 (bkt hx.toNat b.toNat:Nat),.int .i64 0]) (by simp[results,Try.results20,go_sem]) rfl ?_
    exact⟨by first |rfl |rw[if_pos ⟨hh,h0',h1⟩],rfl⟩
   ·have h1':50000<b:=by omega
    go_enter Try.func20,Try.ntmps20
    go_wp2_with (first
     |(go_at_call 65;refine(right_any _ _).mono ?_;rintro e w8 ⟨rfl,rfl⟩;rw[hd])
     |(go_at_call 63;refine(buckets_any _ _ (by omega) (by omega)).mono ?_;rintro e w8 ⟨rfl,rfl⟩;rw[e5]))
    refine bodyPost_ret (v:=.tuple #[.int .i64 0,.int .i64 1]) (by simp[results,Try.results20,go_sem]) rfl ?_
    exact⟨by first |rfl |rw[if_neg (by omega)],rfl⟩
 ·have hd:decide (0≤hx∧hx≤2147483647)=false:=decide_eq_false hh
  go_enter Try.func20,Try.ntmps20
  go_wp2_with (go_at_call 65;refine(right_any _ _).mono ?_;rintro e w8 ⟨rfl,rfl⟩;rw[hd])
  refine bodyPost_ret (v:=.tuple #[.int .i64 0,.int .i64 1]) (by simp[results,Try.results20,go_sem]) rfl ?_
  exact⟨by first |rfl |rw[if_neg (fun h=>hh h.1)],rfl⟩
theorem check_any (A:Option Addr) (c:Nat) (l:List Int) (w:World) (hR:RdL w A l):
  Calls Try.prog 62 #[.slice A l.length c] w fun e W'=>((ValidL l∧e= .returned (.int .i64 0))∨(¬ValidL l∧e= .returned (.int .i64 600)))∧Below w.heap.size w W':=by
 go_enter Try.func62,Try.ntmps62
 go_wp2_with fail
 refine(valid_any A c l w hR).mono ?_
 rintro e w1 ⟨⟨b,rfl,hb⟩,hB1⟩
 cases b with
 |false=>
  go_wp2
  go_ret
  exact⟨.inr ⟨by simpa using hb,rfl⟩,hB1⟩
 |true=>
  go_wp2
  go_ret
  exact⟨.inl ⟨hb.1 (by trivial),rfl⟩,hB1⟩
def freshL:List Int:=sizedL (List.replicate 60 0) 0
set_option maxRecDepth 100000 in
set_option maxHeartbeats 1000000 in
theorem fresh_any (w:World):
  Calls Try.prog 68 #[] w fun e W'=>(∃p B cap,e= .returned (.pointer (some ⟨p,0,none⟩))∧Tb w.heap.size W' p B cap freshL)∧Below w.heap.size w W':=by
 have hmk:∀W:World,(Instr.makeSlice 31 (.int .i64 60) (.int .i64 60)).run Try.prog W= .ok (.slice (some ⟨W.heap.size,0,none⟩) 60 60) (W.alloc (.cells (List.replicate 60 (Value.int .i64 0)).toArray 3)):=fun _=>by kernel_rfl
 have e60:((wlen (0:Int).toNat:Nat):Int)=60:=by decide
 go_enter Try.func68,Try.ntmps68
 go_wp2_with (go_at_call 64;refine(length_any _ _ (by omega) (by omega)).mono ?_;rintro e w8 ⟨rfl,rfl⟩;rw[e60])
 have hT:∀W:World,Tb w.heap.size ((w.alloc (.cells #[.slice (some ⟨w.heap.size+1,0,none⟩) 60 60] 91)).alloc (.cells (List.replicate 60 (Value.int .i64 0)).toArray 3)) w.heap.size (w.heap.size+1) 60 (List.replicate 60 0):=fun W=>
  ⟨Nat.le_refl _,by omega,by omega,by rw[Below.heap_alloc _ _ _ (by simp),World.alloc_heap_new];rfl,
   ⟨(List.replicate 60 (Value.int .i64 0)).toArray,by have h:=World.alloc_heap_new (w.alloc (.cells #[.slice (some ⟨w.heap.size+1,0,none⟩) 60 60] 91)) (.cells (List.replicate 60 (Value.int .i64 0)).toArray 3);rw[World.size_alloc]at h;exact h,by simp,by simp⟩,by simp,by unfold maxLen;omega⟩
 refine(sized_any w.heap.size _ w.heap.size (w.heap.size+1) 60 (List.replicate 60 0) 0 (by omega) (hT w) (by simp) (by simp) (by simp;omega)).mono ?_
 rintro e w2 ⟨rfl,B',cap',hT2,hF2,hB2⟩
 go_wp2
 go_ret
 refine⟨⟨_,B',cap',rfl,hT2⟩,Below.trans (((Below.refl _ _).alloc (Nat.le_refl _) _).alloc (by simp) _) (hF2.below (by simp;omega) (Nat.le_refl _) (by omega))⟩
theorem new_any (w:World):
  Calls Try.prog 23 #[] w fun e W'=>(∃B cap,e= .returned (.slice (some ⟨B,0,none⟩) freshL.length cap)∧Rw w.heap.size W' B cap freshL)∧Below w.heap.size w W':=by
 go_enter Try.func23,Try.ntmps23
 go_wp2_with fail
 refine(fresh_any w).mono ?_
 rintro e w1 ⟨⟨p,B,cap,rfl,hT⟩,hB⟩
 have hp:=hT.head
 have HT:=Lib.hid hT
 clear hT
 go_wp2
 go_ret
 exact⟨⟨B,cap,rfl,HT.out.rw_⟩,hB⟩
end Go.Proofs.Ytdcomhdadnhpnaa
end
