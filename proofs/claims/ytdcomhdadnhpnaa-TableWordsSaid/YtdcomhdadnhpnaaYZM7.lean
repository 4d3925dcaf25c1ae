import Derived.WalkKit
import Derived.KernelRfl
set_option linter.all false
section
namespace Go.Am
open Go
inductive AV where
 |sc (v:Value)
 |junk
 |ptr (n ver off:Nat)
 |dptr (cells:List AV)
 |sl (n ver off len:Nat)
 |dsl (len:Nat) (cells:List AV)
 |mp (n ver:Nat)
 |fn (f:Fn) (first cap:List AV)
 |ifc (t:TypeId) (v:AV)
 |agg (l:List AV)
 |tup (l:List AV)
 deriving Inhabited
structure Loc where
 block:Nat
 base:Nat
 room:Nat
 esz:Nat
abbrev Inj:=Nat→Nat→Option Loc
def Holds (w:World) (b off:Nat) (vs:List Value):Prop:=∀(i:Nat) (x:Value),vs[i]? =some x→w.cell? ⟨b,off+i,none⟩=some x
inductive Rep (ρ:Inj) (own:Nat→Prop) (w:World):AV→Value→Prop
 |sc (v:Value):Rep ρ own w (.sc v) v
 |junk (v:Value):Rep ρ own w .junk v
 |ptr {n ver off:Nat} {L:Loc} (h:ρ n ver=some L):Rep ρ own w (.ptr n ver off) (.pointer (some ⟨L.block,L.base+off,none⟩))
 |dptr {b off:Nat} {cells:List AV} {vs:List Value} (ho:¬own b) (hb:b<w.heap.size) (hl:vs.length=cells.length) (hc:Holds w b off vs) (hr:∀(i:Nat) (a:AV) (x:Value),cells[i]? =some a→vs[i]? =some x→Rep ρ own w a x):
   Rep ρ own w (.dptr cells) (.pointer (some ⟨b,off,none⟩))
 |sl {n ver off len:Nat} {L:Loc} {cap:Nat} (h:ρ n ver=some L) (hc:off+cap*L.esz≤L.room) (hl:len≤cap) (hm:cap≤maxLen):Rep ρ own w (.sl n ver off len) (.slice (some ⟨L.block,L.base+off,none⟩) len cap)
 |dnil {len cap:Nat} {a:Option Addr} (hl:len≤cap):Rep ρ own w (.dsl len []) (.slice a len cap)
 |dsl {len b off cap:Nat} {cells:List AV} {vs:List Value} (hcap:len≤cap) (ho:¬own b) (hb:b<w.heap.size) (hl:vs.length=cells.length) (hc:Holds w b off vs) (hr:∀(i:Nat) (a:AV) (x:Value),cells[i]? =some a→vs[i]? =some x→Rep ρ own w a x):
   Rep ρ own w (.dsl len cells) (.slice (some ⟨b,off,none⟩) len cap)
 |mp {n ver:Nat} {L:Loc} (h:ρ n ver=some L):Rep ρ own w (.mp n ver) (.map (some L.block))
 |fn {f:Fn} {first cap:List AV} {v1 v2:Array Value} (h1:v1.size=first.length) (h2:v2.size=cap.length) (r1:∀(i:Nat) (a:AV) (x:Value),first[i]? =some a→v1[i]? =some x→Rep ρ own w a x) (r2:∀(i:Nat) (a:AV) (x:Value),cap[i]? =some a→v2[i]? =some x→Rep ρ own w a x):
   Rep ρ own w (.fn f first cap) (.func f v1 v2)
 |ifc {t:TypeId} {a:AV} {v:Value} (r:Rep ρ own w a v):Rep ρ own w (.ifc t a) (.iface t v)
 |agg {l:List AV} {vs:Array Value} (h:vs.size=l.length) (r:∀(i:Nat) (a:AV) (x:Value),l[i]? =some a→vs[i]? =some x→Rep ρ own w a x):Rep ρ own w (.agg l) (.agg vs)
 |tup {l:List AV} {vs:Array Value} (h:vs.size=l.length) (r:∀(i:Nat) (a:AV) (x:Value),l[i]? =some a→vs[i]? =some x→Rep ρ own w a x):Rep ρ own w (.tup l) (.tuple vs)
theorem Rep.last {ρ ρ':Inj} {own own':Nat→Prop} {w w':World} {a:AV} {v:Value} (hm:∀n k L,ρ n k=some L→ρ' n k=some L) (hs:w.heap.size≤w'.heap.size)
  (ho:∀b,own' b→own b∨w.heap.size≤b) (hf:∀b,b<w.heap.size→¬own b→w'.heap[b]? =w.heap[b]?) (h:Rep ρ own w a v):Rep ρ' own' w' a v:=by
 induction h with
 |sc v=>exact .sc v
 |junk v=>exact .junk v
 |ptr h=>exact .ptr (hm _ _ _ h)
 |dptr h1 h2 h3 h4 _ ih=>
  refine .dptr (fun h=>?_) (Nat.lt_of_lt_of_le h2 hs) h3 (fun i x hx=>?_) ih
  ·rcases ho _ h with h |h
   ·exact h1 h
   ·omega
  ·rw[World.cell?_of_block (a:=⟨_,_+i,none⟩) (hf _ h2 h1)];exact h4 i x hx
 |sl h1 h2 h3 h4=>exact .sl (hm _ _ _ h1) h2 h3 h4
 |dnil h=>exact .dnil h
 |dsl h0 h1 h2 h3 h4 _ ih=>
  refine .dsl h0 (fun h=>?_) (Nat.lt_of_lt_of_le h2 hs) h3 (fun i x hx=>?_) ih
  ·rcases ho _ h with h |h
   ·exact h1 h
   ·omega
  ·rw[World.cell?_of_block (a:=⟨_,_+i,none⟩) (hf _ h2 h1)];exact h4 i x hx
 |mp h=>exact .mp (hm _ _ _ h)
 |fn h1 h2 _ _ i1 i2=>exact .fn h1 h2 i1 i2
 |ifc _ ih=>exact .ifc ih
 |agg h _ ih=>exact .agg h ih
 |tup h _ ih=>exact .tup h ih
structure Reps (ρ:Inj) (own:Nat→Prop) (w:World) (l:List AV) (vs:List Value):Prop where
 len:vs.length=l.length
 at_:∀(i:Nat) (a:AV) (x:Value),l[i]? =some a→vs[i]? =some x→Rep ρ own w a x
section
variable {ρ ρ':Inj} {own own':Nat→Prop} {w w':World} {a:AV} {v:Value} {l m:List AV} {vs us:List Value}
theorem Reps.nil:Reps ρ own w [] []:=⟨rfl,fun i a x h=>by simp at h⟩
theorem Reps.cons (h:Rep ρ own w a v) (k:Reps ρ own w l vs):Reps ρ own w (a::l) (v::vs):=
 ⟨by simp[k.len],fun i b x hb hx=>by
  cases i with
  |zero=>simp at hb hx;subst hb;subst hx;exact h
  |succ i=>exact k.at_ i b x (by simpa using hb) (by simpa using hx)⟩
theorem Reps.get (h:Reps ρ own w l vs) {i:Nat} {a:AV} (ha:l[i]? =some a):∃x,vs[i]? =some x∧Rep ρ own w a x:=by
 have hi:i<l.length:=(List.getElem?_eq_some_iff.1 ha).1
 have hi':i<vs.length:=by rw[h.len];exact hi
 exact⟨vs[i],by simp[hi'],h.at_ i a _ ha (by simp[hi'])⟩
theorem Reps.uncons (h:Reps ρ own w (a::l) vs):∃x xs,vs=x::xs∧Rep ρ own w a x∧Reps ρ own w l xs:=by
 cases vs with
 |nil=>have:=h.len;simp at this
 |cons x xs=>exact⟨x,xs,rfl,h.at_ 0 a x (by simp) (by simp),⟨by have:=h.len;simpa using this,fun i b y hb hy=>h.at_ (i+1) b y (by simpa using hb) (by simpa using hy)⟩⟩
theorem Reps.append (h:Reps ρ own w l vs) (k:Reps ρ own w m us):Reps ρ own w (l++m) (vs++us):=by
 refine⟨by simp[h.len,k.len],fun i b x hb hx=>?_⟩
 by_cases hi:i<l.length
 ·rw[List.getElem?_append_left hi]at hb
  rw[List.getElem?_append_left (by rw[h.len];exact hi)]at hx
  exact h.at_ i b x hb hx
 ·rw[List.getElem?_append_right (by omega)]at hb
  rw[List.getElem?_append_right (by rw[h.len];omega),h.len]at hx
  exact k.at_ _ b x hb hx
theorem Reps.take (h:Reps ρ own w l vs) (n:Nat):Reps ρ own w (l.take n) (vs.take n):=
 ⟨by simp[h.len],fun i b x hb hx=>by
  rw[List.getElem?_take]at hb hx
  split at hb
  ·rename_i hi;rw[if_pos hi]at hx;exact h.at_ i b x hb hx
  ·cases hb⟩
theorem Reps.drop (h:Reps ρ own w l vs) (n:Nat):Reps ρ own w (l.drop n) (vs.drop n):=
 ⟨by simp[h.len],fun i b x hb hx=>by
  rw[List.getElem?_drop]at hb hx
  exact h.at_ _ b x hb hx⟩
theorem Reps.set (h:Reps ρ own w l vs) (i:Nat) (k:Rep ρ own w a v):Reps ρ own w (l.set i a) (vs.set i v):=
 ⟨by simp[h.len],fun j b x hb hx=>by
  rw[List.getElem?_set]at hb hx
  split at hb
  ·rename_i e;subst e
   rw[if_pos rfl]at hx
   split at hb
   ·rename_i hlt
    cases hb
    rw[if_pos (by rw[h.len];exact hlt)]at hx
    cases hx
    exact k
   ·cases hb
  ·rename_i e;rw[if_neg e]at hx;exact h.at_ j b x hb hx⟩
theorem Reps.last (hm:∀n k L,ρ n k=some L→ρ' n k=some L) (hs:w.heap.size≤w'.heap.size)
  (ho:∀b,own' b→own b∨w.heap.size≤b) (hf:∀b,b<w.heap.size→¬own b→w'.heap[b]? =w.heap[b]?) (h:Reps ρ own w l vs):Reps ρ' own' w' l vs:=
 ⟨h.len,fun i b x hb hx=>(h.at_ i b x hb hx).last hm hs ho hf⟩
theorem Rep.agg_iff:Rep ρ own w (.agg l) v↔∃vs:Array Value,v= .agg vs∧Reps ρ own w l vs.toList:=by
 constructor
 ·intro h;cases h with |agg h r=>exact⟨_,rfl,⟨by simpa using h,fun i b x hb hx=>r i b x hb (by simpa using hx)⟩⟩
 ·rintro⟨vs,rfl,h⟩;exact .agg (by simpa using h.len) (fun i b x hb hx=>h.at_ i b x hb (by simpa using hx))
theorem Rep.tup_iff:Rep ρ own w (.tup l) v↔∃vs:Array Value,v= .tuple vs∧Reps ρ own w l vs.toList:=by
 constructor
 ·intro h;cases h with |tup h r=>exact⟨_,rfl,⟨by simpa using h,fun i b x hb hx=>r i b x hb (by simpa using hx)⟩⟩
 ·rintro⟨vs,rfl,h⟩;exact .tup (by simpa using h.len) (fun i b x hb hx=>h.at_ i b x hb (by simpa using hx))
theorem Rep.fn_iff {f:Fn}:Rep ρ own w (.fn f l m) v↔∃v1 v2:Array Value,v= .func f v1 v2∧Reps ρ own w l v1.toList∧Reps ρ own w m v2.toList:=by
 constructor
 ·intro h;cases h with |fn h1 h2 r1 r2=>exact⟨_,_,rfl,⟨by simpa using h1,fun i b x hb hx=>r1 i b x hb (by simpa using hx)⟩,⟨by simpa using h2,fun i b x hb hx=>r2 i b x hb (by simpa using hx)⟩⟩
 ·rintro⟨v1,v2,rfl,h,k⟩;exact .fn (by simpa using h.len) (by simpa using k.len) (fun i b x hb hx=>h.at_ i b x hb (by simpa using hx)) (fun i b x hb hx=>k.at_ i b x hb (by simpa using hx))
theorem Rep.sc_iff {x:Value}:Rep ρ own w (.sc x) v↔v=x:=⟨fun h=>by cases h;rfl,fun h=>h ▸ .sc _⟩
end
inductive AO where
 |row (ver esz:Nat) (cs:List AV)
 |mapo (ver:Nat) (es:List (Value×AV×Nat)) (clock:Nat)
 |dead (ver:Nat)
 deriving Inhabited
def AO.ver:AO→Nat | .row v _ _=>v | .mapo v _ _=>v | .dead v=>v
def AO.live:AO→Bool | .dead _=>false |_=>true
abbrev AHp:=Nat→Option AO
def upd (H:AHp) (n:Nat) (o:AO):AHp:=fun m=>if m=n then some o else H m
@[simp] theorem upd_same (H:AHp) (n:Nat) (o:AO):upd H n o n=some o:=by simp[upd]
theorem upd_ne (H:AHp) {n m:Nat} (o:AO) (h:m≠n):upd H n o m=H m:=by simp[upd,h]
def own (ρ:Inj) (H:AHp) (b:Nat):Prop:=∃n o L,H n=some o∧o.live=true∧ρ n o.ver=some L∧L.block=b
def EntryAt (ρ:Inj) (O:Nat→Prop) (w:World) (e:Value×AV×Nat) (m:MapEntry):Prop:=m.key=e.1∧Rep ρ O w e.2.1 m.val∧m.born=e.2.2
def ObjAt (ρ:Inj) (O:Nat→Prop) (w:World) (L:Loc):AO→Prop
 | .row _ e cs=>L.esz=e∧∃(c:Array Value) (t:TypeId),w.heap[L.block]? =some (.cells c t (0,0))∧c.size=L.base+L.room∧cs.length≤L.room∧Reps ρ O w cs ((c.toList.drop L.base).take cs.length)
 | .mapo _ es clock=>∃ms:Array MapEntry,w.heap[L.block]? =some (.map ms clock)∧ms.size=es.length∧∀(i:Nat) (e:Value×AV×Nat) (m:MapEntry),es[i]? =some e→ms[i]? =some m→EntryAt ρ O w e m
 | .dead _=>True
structure Rel (ρ:Inj) (H:AHp) (w:World):Prop where
 live:∀n o,H n=some o→o.live=true→∃L,ρ n o.ver=some L∧ObjAt ρ (own ρ H) w L o
 dom:∀n v L,ρ n v=some L→∃o,H n=some o∧v≤o.ver
 inj:∀n m o o' L L',H n=some o→H m=some o'→o.live=true→o'.live=true→ρ n o.ver=some L→ρ m o'.ver=some L'→L.block=L'.block→n=m
 fin:∃N,∀n,N≤n→H n=none
structure Step (ρ:Inj) (H:AHp) (w:World) (ρ':Inj) (H':AHp) (w':World):Prop where
 mono:∀n k L,ρ n k=some L→ρ' n k=some L
 size:w.heap.size≤w'.heap.size
 own':∀b,own ρ' H' b→own ρ H b∨w.heap.size≤b
 frame:∀b,b<w.heap.size→¬own ρ H b→w'.heap[b]? =w.heap[b]?
 os:w'.os=w.os
 tape:w'.tape=w.tape
 output:w'.output=w.output
 rel:Rel ρ' H' w'
section
variable {ρ ρ' ρ'':Inj} {H H' H'':AHp} {w w' w'':World} {a:AV} {v:Value} {l:List AV} {vs:List Value}
theorem Step.refl (h:Rel ρ H w):Step ρ H w ρ H w:=⟨fun _ _ _ h=>h,Nat.le_refl _,fun _ h=>.inl h,fun _ _ _=>rfl,rfl,rfl,rfl,h⟩
theorem Step.trans (h:Step ρ H w ρ' H' w') (k:Step ρ' H' w' ρ'' H'' w''):Step ρ H w ρ'' H'' w'' where
 mono n v L e:=k.mono _ _ _ (h.mono _ _ _ e)
 size:=Nat.le_trans h.size k.size
 own' b hb:=by
  rcases k.own' b hb with h1 |h1
  ·exact h.own' b h1
  ·exact .inr (Nat.le_trans h.size h1)
 frame b hb ho:=by
  rw[k.frame b (Nat.lt_of_lt_of_le hb h.size) (fun h1=>by rcases h.own' b h1 with h2 |h2;exact ho h2;omega),h.frame b hb ho]
 os:=k.os.trans h.os
 tape:=k.tape.trans h.tape
 output:=k.output.trans h.output
 rel:=k.rel
theorem Step.reps (h:Step ρ H w ρ' H' w') (r:Reps ρ (own ρ H) w l vs):Reps ρ' (own ρ' H') w' l vs:=r.last h.mono h.size h.own' h.frame
theorem ObjAt.last {O O':Nat→Prop} {L:Loc} {o:AO} (hm:∀n k L,ρ n k=some L→ρ' n k=some L) (hs:w.heap.size≤w'.heap.size)
  (ho:∀b,O' b→O b∨w.heap.size≤b) (hf:∀b,b<w.heap.size→¬O b→w'.heap[b]? =w.heap[b]?) (hb:w'.heap[L.block]? =w.heap[L.block]?) (h:ObjAt ρ O w L o):ObjAt ρ' O' w' L o:=by
 cases o with
 |row ver e cs=>obtain⟨h0,c,t,h1,h2,h3,h4⟩:=h;exact⟨h0,c,t,hb.trans h1,h2,h3,h4.last hm hs ho hf⟩
 |mapo ver es clock=>
  obtain⟨ms,h1,h2,h3⟩:=h
  refine⟨ms,hb.trans h1,h2,fun i e m he hmm=>?_⟩
  obtain⟨k1,k2,k3⟩:=h3 i e m he hmm
  exact⟨k1,k2.last hm hs ho hf,k3⟩
 |dead ver=>trivial
theorem Rel.block_lt (h:Rel ρ H w) {n:Nat} {o:AO} {L:Loc} (hn:H n=some o) (hl:o.live=true) (hr:ρ n o.ver=some L):L.block<w.heap.size:=by
 obtain⟨L',h1,h2⟩:=h.live n o hn hl
 rw[hr]at h1;cases h1
 cases o with
 |row ver e cs=>obtain⟨_,c,t,h1,_⟩:=h2;exact(Array.getElem?_eq_some_iff.1 h1).1
 |mapo ver es clock=>obtain⟨ms,h1,_⟩:=h2;exact(Array.getElem?_eq_some_iff.1 h1).1
 |dead ver=>cases hl
theorem Rel.own_lt (h:Rel ρ H w) {b:Nat} (hb:own ρ H b):b<w.heap.size:=by
 obtain⟨n,o,L,h1,h2,h3,rfl⟩:=hb
 exact h.block_lt h1 h2 h3
theorem Rel.drew (h:Rel ρ H w):Rel ρ H w.drew:=
 ⟨fun n o hn hl=>by
  obtain⟨L,h1,h2⟩:=h.live n o hn hl
  exact⟨L,h1,ObjAt.last (w:=w) (w':=w.drew) (fun _ _ _ h=>h) (Nat.le_refl w.heap.size) (fun _ h=>.inl h) (fun _ _ _=>rfl) rfl h2⟩,h.dom,h.inj,h.fin⟩
theorem Step.drew (h:Rel ρ H w):Step ρ H w ρ H w.drew:=⟨fun _ _ _ h=>h,Nat.le_refl _,fun _ h=>.inl h,fun _ _ _=>rfl,rfl,rfl,rfl,h.drew⟩
def updR (ρ:Inj) (n v:Nat) (L:Loc):Inj:=fun m k=>if m=n∧k=v then some L else ρ m k
theorem updR_same (n v:Nat) (L:Loc):updR ρ n v L n v=some L:=by simp[updR]
theorem updR_mono {n v:Nat} {L:Loc} (h:ρ n v=none):∀m k K,ρ m k=some K→updR ρ n v L m k=some K:=by
 intro m k K hk
 unfold updR
 rw[if_neg (by rintro⟨rfl,rfl⟩;rw[h]at hk;cases hk)]
 exact hk
theorem Rel.none (h:Rel ρ H w) {n:Nat} (hn:H n=Option.none) (v:Nat):ρ n v=Option.none:=by
 cases hr:ρ n v with
 |none=>rfl
 |some L=>obtain⟨o,h1,_⟩:=h.dom n v L hr;rw[hn]at h1;cases h1
theorem Rel.later (h:Rel ρ H w) {n:Nat} {o:AO} (hn:H n=some o) {v:Nat} (hv:o.ver<v):ρ n v=Option.none:=by
 cases hr:ρ n v with
 |none=>rfl
 |some L=>obtain⟨o',h1,h2⟩:=h.dom n v L hr;rw[hn]at h1;cases h1;omega
theorem Step.put {n:Nat} {o:AO} {L:Loc} (h:Rel ρ H w)
  (hm:∀m k K,ρ m k=some K→updR ρ n o.ver L m k=some K) (hs:w.heap.size≤w'.heap.size)
  (hv:∀o',H n=some o'→o'.ver≤o.ver)
  (hL:(w.heap.size≤L.block∨∃o' ,H n=some o'∧o'.live=true∧∃K,ρ n o'.ver=some K∧K.block=L.block))
  (hf:∀b,b<w.heap.size→b≠L.block→w'.heap[b]? =w.heap[b]?) (hos:w'.os=w.os) (htape:w'.tape=w.tape) (hout:w'.output=w.output)
  (hobj:∀O:Nat→Prop,(∀b,O b→own ρ H b∨b=L.block)→(∀a v,Rep ρ (own ρ H) w a v→Rep (updR ρ n o.ver L) O w' a v)→ObjAt (updR ρ n o.ver L) O w' L o):
  Step ρ H w (updR ρ n o.ver L) (upd H n o) w':=by
 have hsub:∀b,own (updR ρ n o.ver L) (upd H n o) b→own ρ H b∨b=L.block:=by
  rintro b ⟨m,o',K,h1,h2,h3,rfl⟩
  by_cases e:m=n
  ·subst e
   rw[upd_same]at h1;cases h1
   rw[updR_same]at h3;cases h3
   exact .inr rfl
  ·rw[upd_ne _ _ e]at h1
   unfold updR at h3
   rw[if_neg (by rintro⟨e',_⟩;exact e e')]at h3
   exact .inl ⟨m,o',K,h1,h2,h3,rfl⟩
 have hown:∀b,own (updR ρ n o.ver L) (upd H n o) b→own ρ H b∨w.heap.size≤b:=by
  intro b hb
  rcases hsub b hb with h1 |rfl
  ·exact .inl h1
  ·rcases hL with h1 |⟨o',h1,h2,K,h3,h4⟩
   ·exact .inr h1
   ·exact .inl ⟨n,o',K,h1,h2,h3,h4⟩
 have hLown:w.heap.size≤L.block∨own ρ H L.block:=by
  rcases hL with h1 |⟨o',h1,h2,K,h3,h4⟩
  ·exact .inl h1
  ·exact .inr ⟨n,o',K,h1,h2,h3,h4⟩
 have hframe:∀b,b<w.heap.size→¬own ρ H b→w'.heap[b]? =w.heap[b]? :=by
  intro b hb ho
  refine hf b hb ?_
  rintro rfl
  rcases hLown with h1 |h1
  ·omega
  ·exact ho h1
 refine⟨hm,hs,hown,hframe,hos,htape,hout,⟨?_,?_,?_,?_⟩⟩
 ·intro m o' h1 h2
  by_cases e:m=n
  ·subst e
   rw[upd_same]at h1;cases h1
   exact⟨L,updR_same _ _ _,hobj _ hsub (fun a v r=>r.last hm hs hown hframe)⟩
  ·rw[upd_ne _ _ e]at h1
   obtain⟨K,h3,h4⟩:=h.live m o' h1 h2
   refine⟨K,hm _ _ _ h3,h4.last hm hs hown hframe (hf _ (h.block_lt h1 h2 h3) ?_)⟩
   intro ek
   rcases hL with h5 |⟨o2,h5,h6,K2,h7,h8⟩
   ·have:=h.block_lt h1 h2 h3;omega
   ·exact e (h.inj m n o' o2 K K2 h1 h5 h2 h6 h3 h7 (ek.trans h8.symm))
 ·intro m k K hk
  by_cases e:m=n
  ·subst e
   refine⟨o,upd_same _ _ _,?_⟩
   unfold updR at hk
   split at hk
   ·rename_i e2;omega
   ·obtain⟨o',h1,h2⟩:=h.dom _ _ _ hk
    exact Nat.le_trans h2 (hv o' h1)
  ·unfold updR at hk
   rw[if_neg (by rintro⟨e',_⟩;exact e e')]at hk
   obtain⟨o',h1,h2⟩:=h.dom _ _ _ hk
   exact⟨o',by rw[upd_ne _ _ e];exact h1,h2⟩
 ·have key:∀m o' K,m≠n→H m=some o'→o'.live=true→ρ m o'.ver=some K→K.block≠L.block:=by
   intro m o' K e h1 h2 h3 ek
   rcases hL with h5 |⟨o2,h5,h6,K2,h7,h8⟩
   ·have:=h.block_lt h1 h2 h3;omega
   ·exact e (h.inj m n o' o2 K K2 h1 h5 h2 h6 h3 h7 (ek.trans h8.symm))
  intro m1 m2 o1 o2 L1 L2 h1 h2 l1 l2 r1 r2 eb
  by_cases e1:m1=n<;>by_cases e2:m2=n
  ·rw[e1,e2]
  ·exfalso
   subst e1
   rw[upd_same]at h1;cases h1
   rw[updR_same]at r1;cases r1
   rw[upd_ne _ _ e2]at h2
   unfold updR at r2
   rw[if_neg (by rintro⟨e',_⟩;exact e2 e')]at r2
   exact key m2 o2 L2 e2 h2 l2 r2 eb.symm
  ·exfalso
   subst e2
   rw[upd_same]at h2;cases h2
   rw[updR_same]at r2;cases r2
   rw[upd_ne _ _ e1]at h1
   unfold updR at r1
   rw[if_neg (by rintro⟨e',_⟩;exact e1 e')]at r1
   exact key m1 o1 L1 e1 h1 l1 r1 eb
  ·rw[upd_ne _ _ e1]at h1
   rw[upd_ne _ _ e2]at h2
   unfold updR at r1 r2
   rw[if_neg (by rintro⟨e',_⟩;exact e1 e')]at r1
   rw[if_neg (by rintro⟨e',_⟩;exact e2 e')]at r2
   exact h.inj m1 m2 o1 o2 L1 L2 h1 h2 l1 l2 r1 r2 eb
 ·obtain⟨N,hN⟩:=h.fin
  refine⟨max N (n+1),fun m hm=>?_⟩
  rw[upd_ne _ _ (by omega)]
  exact hN m (by omega)
end
end Go.Am
end
section
namespace Go.Am
open Go
inductive AP (α:Type) where
 |ret (a:α)
 |get (n:Nat) (k:AO→AP α)
 |set (n:Nat) (o:AO) (k:AP α)
 |new (o:AO) (k:Nat→AP α)
 |fail
def AP.run {α:Type}:AP α→AHp→Nat→Option (α×AHp×Nat)
 | .ret a,H,s=>some (a,H,s)
 | .get n k,H,s=>match H n with |some o=>(k o).run H s |none=>none
 | .set n o k,H,s=>k.run (upd H n o) s
 | .new o k,H,s=>match H s with |none=>(k s).run (upd H s o) (s+1) |some _=>none
 | .fail,_,_=>none
def AP.ofOption {α:Type}:Option α→AP α |some a=>.ret a |none=>.fail
def SemOK {α:Type} (P:Program) (e:Sem α) (f:α→Value) (m:AP AV) (ρ:Inj) (H:AHp) (w:World):Prop:=
 ∀s r H' s',m.run H s=some (r,H',s')→∃v w' ρ',e.run P w= .ok v w'∧Step ρ H w ρ' H' w'∧Rep ρ' (own ρ' H') w' r (f v)
section
variable {P:Program} {ρ ρ':Inj} {H H':AHp} {w w':World} {a:AV} {v:Value} {l cs:List AV} {vs:List Value}
theorem SemOK.ret {α:Type} {e:Sem α} {f:α→Value} {x:α} (h:Rel ρ H w) (he:e.run P w= .ok x w) (r:Rep ρ (own ρ H) w a (f x)):SemOK P e f (.ret a) ρ H w:=by
 intro s r' H' s' hm
 simp only[AP.run,Option.some.injEq,Prod.mk.injEq]at hm
 obtain⟨rfl,rfl,rfl⟩:=hm
 exact⟨x,w,ρ,he,.refl h,r⟩
theorem SemOK.fail {α:Type} {e:Sem α} {f:α→Value}:SemOK P e f .fail ρ H w:=by
 intro s r' H' s' hm
 simp[AP.run]at hm
theorem SemOK.get {α:Type} {e:Sem α} {f:α→Value} {n:Nat} {k:AO→AP AV} (h:∀o,H n=some o→SemOK P e f (k o) ρ H w):SemOK P e f (.get n k) ρ H w:=by
 intro s r' H' s' hm
 simp only[AP.run]at hm
 split at hm
 ·rename_i o ho;exact h o ho s r' H' s' hm
 ·cases hm
theorem SemOK.opt {α:Type} {e:Sem α} {f:α→Value} {x:Option AV} (h:∀a,x=some a→SemOK P e f (.ret a) ρ H w):SemOK P e f (AP.ofOption x) ρ H w:=by
 cases x with
 |none=>exact .fail
 |some a=>exact h a rfl
theorem SemOK.ite {α:Type} {e:Sem α} {f:α→Value} {c:Prop} [Decidable c] {m:AP AV} (h:c→SemOK P e f m ρ H w):SemOK P e f (if c then m else .fail) ρ H w:=by
 split
 ·rename_i hc;exact h hc
 ·exact .fail
theorem SemOK.new {α:Type} {e:Sem α} {f:α→Value} {o:AO} {k:Nat→AP AV} (h:∀n,H n=none→∃x w' ρ' a,k n= .ret a∧e.run P w= .ok x w'∧Step ρ H w ρ' (upd H n o) w'∧Rep ρ' (own ρ' (upd H n o)) w' a (f x)):SemOK P e f (.new o k) ρ H w:=by
 intro s r' H' s' hm
 simp only[AP.run]at hm
 split at hm
 ·rename_i hs
  obtain⟨x,w',ρ',a,hk,h1,h2,h3⟩:=h s hs
  rw[hk]at hm
  simp only[AP.run,Option.some.injEq,Prod.mk.injEq]at hm
  obtain⟨rfl,rfl,rfl⟩:=hm
  exact⟨x,w',ρ',h1,h2,h3⟩
 ·cases hm
theorem SemOK.set {α:Type} {e:Sem α} {f:α→Value} {n:Nat} {o:AO} {a:AV} (h:∃x w' ρ',e.run P w= .ok x w'∧Step ρ H w ρ' (upd H n o) w'∧Rep ρ' (own ρ' (upd H n o)) w' a (f x)):SemOK P e f (.set n o (.ret a)) ρ H w:=by
 intro s r' H' s' hm
 simp only[AP.run,Option.some.injEq,Prod.mk.injEq]at hm
 obtain⟨rfl,rfl,rfl⟩:=hm
 obtain⟨x,w',ρ',h1,h2,h3⟩:=h
 exact⟨x,w',ρ',h1,h2,h3⟩
theorem updR_self {n v:Nat} {L:Loc} (h:ρ n v=some L):updR ρ n v L=ρ:=by
 funext m k
 unfold updR
 split
 ·rename_i e;obtain⟨rfl,rfl⟩:=e;exact h.symm
 ·rfl
theorem Step.newRow (h:Rel ρ H w) {n:Nat} (hn:H n=none) (c:Array Value) (t:TypeId) (esz:Nat) (hl:cs.length≤c.size) (hr:Reps ρ (own ρ H) w cs (c.toList.take cs.length)):
  Step ρ H w (updR ρ n 0 ⟨w.heap.size,0,c.size,esz⟩) (upd H n (.row 0 esz cs)) (w.alloc (.cells c t)):=by
 have hm:=updR_mono (L:=⟨w.heap.size,0,c.size,esz⟩) (h.none hn 0)
 have hf:∀b,b<w.heap.size→(w.alloc (.cells c t)).heap[b]? =w.heap[b]? :=fun b hb=>heap_alloc_old w _ hb
 refine Step.put (o:=.row 0 esz cs) h hm (by simp) (fun o' ho=>by rw[hn]at ho;cases ho) (.inl (Nat.le_refl _)) (fun b hb _=>hf b hb) rfl rfl rfl ?_
 intro O hO hR
 exact⟨rfl,c,t,heap_alloc_new w _,by simp,hl,⟨by simpa[AO.ver]using hr.len,fun i b x hb hx=>hR _ _ (hr.at_ i b x hb (by simpa[AO.ver]using hx))⟩⟩
theorem Step.newMap (h:Rel ρ H w) {n:Nat} (hn:H n=none):Step ρ H w (updR ρ n 0 ⟨w.heap.size,0,0,0⟩) (upd H n (.mapo 0 [] 0)) (w.alloc (.map #[] 0)):=by
 have hm:=updR_mono (L:=⟨w.heap.size,0,0,0⟩) (h.none hn 0)
 refine Step.put (o:=.mapo 0 [] 0) h hm (by simp) (fun o' ho=>by rw[hn]at ho;cases ho) (.inl (Nat.le_refl _)) (fun b hb _=>heap_alloc_old w _ hb) rfl rfl rfl ?_
 intro O hO hR
 exact⟨#[],heap_alloc_new w _,rfl,fun i e m he=>by simp at he⟩
theorem Step.setRow (h:Rel ρ H w) {n ver esz:Nat} (hn:H n=some (.row ver esz cs)) {L:Loc} (hL:ρ n ver=some L) {c:Array Value} {t:TypeId} (hc:w.heap[L.block]? =some (.cells c t (0,0)))
  (c':Array Value) (cs':List AV) (hs:c'.size=c.size) (hl:cs'.length≤L.room) (hr:Reps ρ (own ρ H) w cs' ((c'.toList.drop L.base).take cs'.length)):
  Step ρ H w ρ (upd H n (.row ver esz cs')) (w.setRow L.block c'):=by
 obtain⟨L',hL',he0,c0,t0,hc0,hsz,_,_⟩:=h.live n _ hn rfl
 have hL'':ρ n ver=some L':=hL'
 rw[hL]at hL'';cases hL''
 rw[hc]at hc0;cases hc0
 have hself:=updR_self hL
 have key:Step ρ H w (updR ρ n ver L) (upd H n (.row ver esz cs')) (w.setRow L.block c'):=by
  refine Step.put (o:=.row ver esz cs') h (by rw[show(AO.row ver esz cs').ver=ver from rfl,hself];exact fun _ _ _ h=>h) (by simp[World.setRow]) (fun o' ho=>by rw[hn]at ho;cases ho;exact Nat.le_refl _)
   (.inr ⟨_,hn,rfl,L,hL,rfl⟩) (fun b _ hb=>setRow_other w _ b _ hb) rfl rfl rfl ?_
  intro O hO hR
  exact⟨he0,c',t,setRow_heap w _ _ _ _ _ hc,by rw[hs,hsz],hl,⟨by simpa using hr.len,fun i b x hb hx=>hR _ _ (hr.at_ i b x hb hx)⟩⟩
 rw[hself]at key
 exact key
theorem Step.reRow (h:Rel ρ H w) {n ver esz:Nat} (hn:H n=some (.row ver esz cs)) {L:Loc} (hL:ρ n ver=some L) {c:Array Value} {t:TypeId} (hc:w.heap[L.block]? =some (.cells c t (0,0)))
  (c':Array Value) (cs':List AV) (off:Nat) (hs:c'.size=c.size) (hl:off+cs'.length≤L.room) (hr:Reps ρ (own ρ H) w cs' ((c'.toList.drop (L.base+off)).take cs'.length)):
  Step ρ H w (updR ρ n (ver+1) ⟨L.block,L.base+off,L.room-off,L.esz⟩) (upd H n (.row (ver+1) esz cs')) (w.setRow L.block c'):=by
 obtain⟨L',hL',he0,c0,t0,hc0,hsz,_,_⟩:=h.live n _ hn rfl
 have hL'':ρ n ver=some L':=hL'
 rw[hL]at hL'';cases hL''
 rw[hc]at hc0;cases hc0
 have hm:=updR_mono (L:=⟨L.block,L.base+off,L.room-off,L.esz⟩) (h.later (v:=ver+1) hn (by simp[AO.ver]))
 refine Step.put (o:=.row (ver+1) esz cs') h hm (by simp[World.setRow]) (fun o' ho=>by rw[hn]at ho;cases ho;simp[AO.ver])
  (.inr ⟨_,hn,rfl,L,hL,rfl⟩) (fun b _ hb=>setRow_other w _ b _ hb) rfl rfl rfl ?_
 intro O hO hR
 exact⟨he0,c',t,setRow_heap w _ _ _ _ _ hc,by simp only;omega,by simp only;omega,⟨by simpa using hr.len,fun i b x hb hx=>hR _ _ (hr.at_ i b x hb hx)⟩⟩
theorem Step.moveRow (h:Rel ρ H w) {n ver esz:Nat} (hn:H n=some (.row ver esz cs)) (c:Array Value) (t:TypeId) (cs':List AV) (hl:cs'.length≤c.size) (hr:Reps ρ (own ρ H) w cs' (c.toList.take cs'.length)):
  Step ρ H w (updR ρ n (ver+1) ⟨w.heap.size,0,c.size,esz⟩) (upd H n (.row (ver+1) esz cs')) (w.alloc (.cells c t)):=by
 have hm:=updR_mono (L:=⟨w.heap.size,0,c.size,esz⟩) (h.later (v:=ver+1) hn (by simp[AO.ver]))
 refine Step.put (o:=.row (ver+1) esz cs') h hm (by simp) (fun o' ho=>by rw[hn]at ho;cases ho;simp[AO.ver]) (.inl (Nat.le_refl _)) (fun b hb _=>heap_alloc_old w _ hb) rfl rfl rfl ?_
 intro O hO hR
 exact⟨rfl,c,t,heap_alloc_new w _,by simp,hl,⟨by simpa[AO.ver]using hr.len,fun i b x hb hx=>hR _ _ (hr.at_ i b x hb (by simpa[AO.ver]using hx))⟩⟩
theorem World.putObj_heap_same' {r:Nat} {o:Obj} {w:World} (h:r<w.heap.size):({ w with heap:=w.heap.setIfInBounds r o }:World).heap[r]? =some o:=by simp[h]
theorem Step.setMap (h:Rel ρ H w) {n ver clock:Nat} {es:List (Value×AV×Nat)} (hn:H n=some (.mapo ver es clock)) {L:Loc} (hL:ρ n ver=some L)
  (ms':Array MapEntry) (es':List (Value×AV×Nat)) (clock':Nat) (hl:ms'.size=es'.length) (hr:∀(i:Nat) (e:Value×AV×Nat) (m:MapEntry),es'[i]? =some e→ms'[i]? =some m→EntryAt ρ (own ρ H) w e m):
  Step ρ H w ρ (upd H n (.mapo ver es' clock')) { w with heap:=w.heap.setIfInBounds L.block (.map ms' clock') }:=by
 have hself:=updR_self hL
 have hlt:L.block<w.heap.size:=h.block_lt hn rfl hL
 have hf:∀b,b≠L.block→(w.heap.setIfInBounds L.block (.map ms' clock'))[b]? =w.heap[b]? :=fun b hb=>by rw[Array.getElem?_setIfInBounds_ne (Ne.symm hb)]
 have key:Step ρ H w (updR ρ n ver L) (upd H n (.mapo ver es' clock')) { w with heap:=w.heap.setIfInBounds L.block (.map ms' clock') }:=by
  refine Step.put (o:=.mapo ver es' clock') h (by rw[show(AO.mapo ver es' clock').ver=ver from rfl,hself];exact fun _ _ _ h=>h) (by simp) (fun o' ho=>by rw[hn]at ho;cases ho;exact Nat.le_refl _)
   (.inr ⟨_,hn,rfl,L,hL,rfl⟩) (fun b _ hb=>hf b hb) rfl rfl rfl ?_
  intro O hO hR
  refine⟨ms',World.putObj_heap_same' hlt,hl,fun i e m he hm=>?_⟩
  obtain⟨k1,k2,k3⟩:=hr i e m he hm
  exact⟨k1,hR _ _ k2,k3⟩
 rw[hself]at key
 exact key
end
end Go.Am
end
section
namespace Go.Am
open Go
def szOf (P:Program) (t:TypeId):Option Nat:=(P.info? t).map (·.size)
def byOf (P:Program) (t:TypeId):Option Nat:=(P.info? t).map (·.bytes)
def zeroOf (P:Program) (t:TypeId):Option Value:=(P.info? t).bind (·.zero)
def aggB (P:Program) (t:TypeId):Option Bool:=(P.underlying t).map fun | .struct _ | .array _ _=>true |_=>false
section
variable {P:Program} {ρ ρ':Inj} {H H':AHp} {O:Nat→Prop} {w w':World} {a:AV} {v:Value} {l cs:List AV} {vs:List Value} {t:TypeId}
theorem run_sizeOf' {k:Nat} (h:szOf P t=some k):(sizeOf t).run P w= .ok k w:=by
 unfold szOf at h
 cases hi:P.info? t with
 |none=>rw[hi]at h;cases h
 |some i=>rw[hi]at h;simp at h;simp[sizeOf,typeInfo,hi,h]
theorem run_zeroValue' {z:Value} (h:zeroOf P t=some z):(zeroValue t).run P w= .ok z w:=by
 unfold zeroOf at h
 cases hi:P.info? t with
 |none=>rw[hi]at h;cases h
 |some i=>rw[hi]at h;simp at h;simp[zeroValue,typeInfo,hi,h]
theorem run_isAgg' {b:Bool} (h:aggB P t=some b):(isAgg t).run P w= .ok b w:=by
 unfold aggB at h
 cases hu:P.underlying t with
 |none=>rw[hu]at h;cases h
 |some d=>rw[hu]at h;simp at h;cases d<;>simp_all[isAgg,underlying]
theorem Holds.drop {b o:Nat} (h:Holds w b o vs) (n:Nat):Holds w b (o+n) (vs.drop n):=fun i x hx=>by
 rw[List.getElem?_drop]at hx
 rw[show o+n+i=o+(n+i)by omega]
 exact h _ _ hx
theorem Holds.take {b o:Nat} (h:Holds w b o vs) (n:Nat):Holds w b o (vs.take n):=fun i x hx=>by
 rw[List.getElem?_take]at hx
 split at hx
 ·exact h _ _ hx
 ·cases hx
theorem Holds.of_row {b:Nat} {c:Array Value} {ty:TypeId} {fr:Nat×Nat} (h:w.heap[b]? =some (.cells c ty fr)) (o:Nat):Holds w b o (c.toList.drop o):=fun i x hx=>by
 rw[cell_of_row w b _ c ty fr h]
 rw[List.getElem?_drop]at hx
 simpa using hx
def cellsOut (P:Program) (t:TypeId) (cs:List AV):Option AV:=
 match aggB P t with
 |some true=>match szOf P t with
  |some k=>if k≤cs.length then some (.agg (cs.take k))else none
  |none=>none
 |some false=>cs.head?
 |none=>none
theorem load_ok {b o:Nat} (hh:Holds w b o vs) (hr:Reps ρ O w cs vs) (h:cellsOut P t cs=some a):∃v,(loadVar t ⟨b,o,none⟩).run P w= .ok v w∧Rep ρ O w a v:=by
 unfold cellsOut at h
 split at h
 ·rename_i ha
  split at h
  ·rename_i k hk
   split at h
   ·rename_i hle
    cases h
    refine⟨.agg (vs.take k).toArray,?_,Rep.agg_iff.2 ⟨_,rfl,by simpa using hr.take k⟩⟩
    have hl:(vs.take k).length=k:=by rw[List.length_take,hr.len];omega
    have:=run_loadCells_list (P:=P) w ⟨b,o,none⟩ (vs.take k) (fun j v hv=>by rw[Addr.add_lit];exact hh.take k j v hv)
    rw[hl]at this
    simp[loadVar,run_isAgg' ha,run_sizeOf' hk,this]
   ·cases h
  ·cases h
 ·rename_i ha
  cases cs with
  |nil=>cases h
  |cons c cs=>
   simp at h;subst h
   obtain⟨x,xs,rfl,r,_⟩:=hr.uncons
   have:=hh 0 x (by simp)
   rw[Nat.add_zero]at this
   exact⟨x,by simp[loadVar,run_isAgg' ha,this],r⟩
 ·cases h
def aLoad (P:Program) (t:TypeId):AV→AP AV
 | .ptr n ver off=>.get n fun
   | .row v _ cs=>if v=ver then AP.ofOption (cellsOut P t (cs.drop off))else .fail
   |_=>.fail
 | .dptr cells=>AP.ofOption (cellsOut P t cells)
 |_=>.fail
theorem aLoad_ok {x:AV} (h:Rel ρ H w) (hx:Rep ρ (own ρ H) w x v):SemOK P (Instr.loadAt t v) id (aLoad P t x) ρ H w:=by
 cases hx with
 |ptr hL=>
  rename_i n ver off L
  refine SemOK.get (fun o ho=>?_)
  split
  ·rename_i v' esz cs
   refine SemOK.ite (fun e=>?_)
   subst e
   obtain⟨L',hL',he,c,ty,hc,hsz,hlen,hr⟩:=h.live n _ ho rfl
   have e2:ρ n v'=some L':=hL'
   rw[hL]at e2;cases e2
   refine SemOK.opt (fun a ha=>?_)
   obtain⟨v,h1,h2⟩:=load_ok (P:=P) (t:=t) ((((Holds.of_row hc L.base).take cs.length).drop off)) (hr.drop off) ha
   exact SemOK.ret h (by simpa[Instr.loadAt,Instr.sureAddr]using h1) h2
  ·exact .fail
 |dptr h1 h2 h3 h4 h5=>
  refine SemOK.opt (fun a ha=>?_)
  obtain⟨v,k1,k2⟩:=load_ok (P:=P) (t:=t) h4 ⟨h3,h5⟩ ha
  exact SemOK.ret h (by simpa[Instr.loadAt,Instr.sureAddr]using k1) k2
 |_=>exact .fail
def AV.one:AV→Bool
 | .sc v=>v.oneCell'
 | .agg _ | .tup _ | .junk=>false
 |_=>true
theorem AV.one_ok {x:Value} (h:Rep ρ O w a x) (h1:a.one=true):x.oneCell'=true∧x.cells= #[x]:=by
 cases h<;>first |(simp[AV.one]at h1;done) |(simp[AV.one]at h1;refine⟨h1,?_⟩;cases x<;>first |rfl |simp[Value.oneCell']at h1) |exact⟨rfl,rfl⟩
def aCells:AV→Option (List AV)
 | .agg l=>if l.all AV.one then some l else none
 | .sc (.agg cs)=>if cs.toList.all (fun v=>v.oneCell')then some (cs.toList.map .sc)else none
 |a=>if a.one then some [a]else none
theorem Reps.scs (vs:List Value):Reps ρ O w (vs.map .sc) vs:=⟨by simp,fun i a x ha hx=>by
 rw[List.getElem?_map,hx]at ha;simp at ha;subst ha;exact .sc _⟩
theorem aCells_ok {x:Value} (h:Rep ρ O w a x) (hc:aCells a=some cs):Reps ρ O w cs x.cells.toList∧∀u∈x.cells.toList,u.oneCell'=true:=by
 unfold aCells at hc
 split at hc
 ·rename_i l
  split at hc
  ·rename_i hall
   cases hc
   obtain⟨vs,rfl,hr⟩:=Rep.agg_iff.1 h
   refine⟨hr,fun u hu=>?_⟩
   obtain⟨i,hi,rfl⟩:=List.mem_iff_getElem.1 hu
   have hi':i<cs.length:=by rw[←hr.len];exact hi
   exact(AV.one_ok (hr.at_ i _ _ (List.getElem?_eq_getElem hi') (List.getElem?_eq_getElem hi)) (List.all_eq_true.1 hall _ (List.getElem_mem hi'))).1
  ·cases hc
 ·rename_i c
  split at hc
  ·rename_i hall
   cases hc
   cases h
   exact⟨Reps.scs _,fun u hu=>List.all_eq_true.1 hall u hu⟩
  ·cases hc
 ·split at hc
  ·rename_i h1
   cases hc
   obtain⟨k1,k2⟩:=AV.one_ok h h1
   rw[k2]
   exact⟨by simpa using Reps.nil.cons h,fun u hu=>by simp at hu;subst hu;exact k1⟩
  ·cases hc
def putCells (cs:List AV) (off:Nat):List AV→List AV
 | [y]=>cs.set off y
 |ys=>cs.take off++ys++cs.drop (off+ys.length)
theorem putCells_eq (off:Nat) (ys:List AV) (h:off+ys.length≤cs.length):putCells cs off ys=cs.take off++ys++cs.drop (off+ys.length):=by
 unfold putCells
 split
 ·rename_i y
  simp at h
  apply List.ext_getElem?
  intro i
  rw[List.getElem?_set]
  rcases Nat.lt_trichotomy i off with hlt |heq |hgt
  ·rw[if_neg (by omega),List.append_assoc,List.getElem?_append_left (by simp;omega),List.getElem?_take,if_pos hlt]
  ·subst heq
   have hm:(cs.take i).length=i:=by rw[List.length_take];omega
   rw[if_pos rfl,if_pos (by omega),List.append_assoc,List.getElem?_append_right (by omega),hm]
   simp
  ·have hm:min off cs.length=off:=by omega
   rw[if_neg (by omega),List.append_assoc,List.getElem?_append_right (by simp;omega)]
   rw[List.getElem?_append_right (by simp;omega),List.getElem?_drop]
   simp only[List.length_take,List.length_cons,List.length_nil,hm]
   congr 1
   omega
 ·rfl
theorem putCells_len (off:Nat) (ys:List AV) (h:off+ys.length≤cs.length):(putCells cs off ys).length=cs.length:=by
 rw[putCells_eq off ys h];simp;omega
theorem Reps.put (h:Reps ρ O w cs vs) {ys:List AV} {us:List Value} (k:Reps ρ O w ys us) (off:Nat) (hl:off+ys.length≤cs.length):Reps ρ O w (putCells cs off ys) (vs.take off++us++vs.drop (off+us.length)):=by
 rw[putCells_eq off ys hl,k.len]
 exact((h.take off).append k).append (h.drop _)
theorem window_put (c us:List Value) (B off n:Nat) (h1:off+us.length≤n) (h2:B+n≤c.length):
  ((c.take (B+off)++us++c.drop (B+off+us.length)).drop B).take n=((c.drop B).take n).take off++us++((c.drop B).take n).drop (off+us.length):=by
 have e1:(c.take (B+off)++us++c.drop (B+off+us.length)).drop B=(c.drop B).take off++us++c.drop (B+off+us.length):=by
  rw[List.append_assoc,List.drop_append_of_le_length (by simp;omega),List.drop_take,←List.append_assoc]
  congr 3
  omega
 rw[e1,List.append_assoc,List.take_append,List.take_append,List.take_take,List.drop_take,List.drop_drop,List.append_assoc]
 simp only[List.length_take,List.length_drop]
 congr 1
 ·rw[List.take_take];congr 1;omega
 ·congr 1
  ·rw[List.take_of_length_le (by omega)]
  ·congr 1
   ·omega
   ·congr 1;omega
def aStore (P:Program) (t:TypeId) (x y:AV):AP AV:=
 match x,aCells y,szOf P t with
 | .ptr n ver off,some ys,some k=>.get n fun
   | .row v esz cs=>if v=ver∧ys.length=k∧off+ys.length≤cs.length then .set n (.row v esz (putCells cs off ys)) (.ret (.sc undef))else .fail
   |_=>.fail
 |_,_,_=>.fail
theorem aStore_ok {x y:AV} {u:Value} (h:Rel ρ H w) (hx:Rep ρ (own ρ H) w x v) (hy:Rep ρ (own ρ H) w y u):SemOK P (Instr.storeAt t v u) (fun _=>undef) (aStore P t x y) ρ H w:=by
 unfold aStore
 split
 ·rename_i n ver off ys k hys hk
  cases hx with
  |ptr hL=>
  rename_i L
  refine SemOK.get (fun o ho=>?_)
  split
  ·rename_i v' esz cs
   refine SemOK.ite (fun e=>?_)
   obtain⟨rfl,hk',hle⟩:=e
   obtain⟨L',hL',he,c,ty,hc,hsz,hlen,hr⟩:=h.live n _ ho rfl
   have e2:ρ n v'=some L':=hL'
   rw[hL]at e2;cases e2
   obtain⟨hr2,h1⟩:=aCells_ok hy hys
   have hul:u.cells.toList.length=ys.length:=hr2.len
   have hcl:c.toList.length=c.size:=by simp
   have hst:=run_storeCells_at P L.block (L.base+off) ty u.cells.toList 0 c w hc (by omega) h1
   refine SemOK.set ⟨(),_,ρ,?_,Step.setRow h ho hL hc (c.toList.take (L.base+off)++u.cells.toList++c.toList.drop (L.base+off+u.cells.toList.length)).toArray _ ?_ ?_ ?_,.sc _⟩
   ·have hz:¬(u.cells.size≠k):=by rw[show u.cells.size=u.cells.toList.length by simp];omega
    simp only[Instr.storeAt,Instr.sureAddr,Sem.run_bind,Sem.run_pure,Result.andThen_ok,storeVar,run_sizeOf' hk,if_neg hz]
    simpa using hst
   ·simp only[List.size_toArray,List.length_append,List.length_take,List.length_drop,hcl,hul];omega
   ·rw[putCells_len off ys hle];exact hlen
   ·rw[putCells_len off ys hle]
    show Reps _ _ _ _ (((c.toList.take (L.base+off)++u.cells.toList++c.toList.drop (L.base+off+u.cells.toList.length)).drop L.base).take cs.length)
    rw[window_put _ _ _ _ _ (by omega) (by omega)]
    exact hr.put hr2 off hle
  ·exact .fail
 ·exact .fail
end
end Go.Am
end
section
namespace Go.Am
open Go
section
variable {P:Program} {ρ ρ':Inj} {H H':AHp} {O:Nat→Prop} {w w':World} {a:AV} {v:Value} {l cs:List AV} {vs:List Value} {t:TypeId}
theorem rep_own_ptr {n:Nat} (L:Loc):Rep (updR ρ n 0 L) O w' (.ptr n 0 0) (.pointer (some ⟨L.block,L.base,none⟩)):=by
 have:=Rep.ptr (own:=O) (w:=w') (n:=n) (ver:=0) (off:=0) (updR_same (ρ:=ρ) n 0 L)
 simpa using this
def aBox (y:AV):AP AV:=match aCells y with
 |some ys=>.new (.row 0 1 ys) fun n=>.ret (.ptr n 0 0)
 |none=>.fail
theorem aBox_ok {y:AV} (h:Rel ρ H w) (hy:Rep ρ (own ρ H) w y v):SemOK P (Instr.box t v) id (aBox y) ρ H w:=by
 unfold aBox
 split
 ·rename_i ys hys
  obtain⟨hr,_⟩:=aCells_ok hy hys
  have hl:ys.length=v.cells.size:=by rw[←hr.len];simp
  refine SemOK.new (fun n hn=>⟨_,_,_,_,rfl,rfl,Step.newRow h hn v.cells t 1 (by omega) ?_,rep_own_ptr _⟩)
  rw[List.take_of_length_le (by simp;omega)]
  exact hr
 ·exact .fail
def aAlloc (P:Program) (t:TypeId):AP AV:=match zeroOf P t with
 |some z=>aBox (.sc z)
 |none=>.fail
theorem aAlloc_ok (h:Rel ρ H w):SemOK P (Instr.alloc t true (.tuple #[])) id (aAlloc P t) ρ H w:=by
 unfold aAlloc
 split
 ·rename_i z hz
  intro s r H' s' hm
  obtain⟨x,w',ρ',h1,h2,h3⟩:=aBox_ok (P:=P) (t:=t) h (Rep.sc (ρ:=ρ) (own:=own ρ H) (w:=w) z) s r H' s' hm
  refine⟨x,w',ρ',?_,h2,h3⟩
  simp only[Instr.alloc,Sem.run_bind,run_zeroValue' hz,Result.andThen_ok]
  exact h1
 ·exact .fail
def aFill (place:Nat→Option (Nat×Nat)) (cells:List AV):List (Nat×AV)→Option (List AV)
 | []=>some cells
 |(i,y)::rest=>match place i,aCells y with
  |some (off,size),some ys=>if ys.length=size∧off+ys.length≤cells.length then aFill place (putCells cells off ys) rest else none
  |_,_=>none
theorem fold_put (off:Nat):∀(us:List Value) (k:Nat) (cs:Array Value),off+k+us.length≤cs.size→
  ((us.zipIdx k).foldl (fun(cs:Array Value) (x:Value×Nat)=>cs.setIfInBounds (off+x.2) x.1) cs).toList=cs.toList.take (off+k)++us++cs.toList.drop (off+k+us.length)
 | [],k,cs,_=>by simp
 |u::us,k,cs,h=>by
  have ih:=fold_put off us (k+1) (cs.setIfInBounds (off+k) u) (by simp at h ⊢;omega)
  rw[List.zipIdx_cons,List.foldl_cons,ih]
  simp only[Array.toList_setIfInBounds,List.length_cons]at h ⊢
  have hk:off+k<cs.toList.length:=by simp;omega
  rw[List.take_set,List.drop_set_of_lt (by omega)]
  rw[show off+(k+1)=off+k+1 by omega,List.take_succ_eq_append_getElem hk]
  rw[List.set_append_right _ _ (by simp;omega)]
  have:off+k-(cs.toList.take (off+k)).length=0:=by rw[List.length_take];omega
  rw[this]
  simp
  congr 1
  omega
theorem aFill_ok {place:Nat→Option (Nat×Nat)}:∀(parts:List (Nat×AV)) (vparts:List (Nat×Value)) (cs:List AV) (c:Array Value) (out:List AV),
  parts.map (·.1)=vparts.map (·.1)→Reps ρ O w (parts.map (·.2)) (vparts.map (·.2))→Reps ρ O w cs c.toList→aFill place cs parts=some out→
  ∃c',Instr.fill place c vparts=some c'∧Reps ρ O w out c'.toList
 | [],vparts,cs,c,out,hi,_,hc,hf=>by
   cases vparts with
   |nil=>simp[aFill]at hf;subst hf;exact⟨c,rfl,hc⟩
   |cons x xs=>simp at hi
 |(i,y)::rest,vparts,cs,c,out,hi,hr,hc,hf=>by
  cases vparts with
  |nil=>simp at hi
  |cons x xs=>
   obtain⟨j,u⟩:=x
   simp only[List.map_cons,List.cons.injEq]at hi
   obtain⟨rfl,hi⟩:=hi
   simp only[List.map_cons]at hr
   obtain⟨u',us',he,r1,r2⟩:=hr.uncons
   simp only[List.cons.injEq]at he
   obtain⟨rfl,rfl⟩:=he
   unfold aFill at hf
   split at hf
   ·rename_i off size ys hp hys
    split at hf
    ·rename_i hle
     obtain⟨hr2,_⟩:=aCells_ok r1 hys
     have hul:u.cells.toList.length=ys.length:=hr2.len
     have hul':u.cells.size=ys.length:=by simpa using hul
     have hcl:c.size=cs.length:=by simpa using hc.len
     have e:u.cells.zipIdx.foldl (fun(cs:Array Value) (x:Value×Nat)=>cs.setIfInBounds (off+x.2) x.1) c=(u.cells.toList.zipIdx.foldl (fun(cs:Array Value) (x:Value×Nat)=>cs.setIfInBounds (off+x.2) x.1) c):=by
      rw[←Array.foldl_toList,Array.toList_zipIdx]
     have hfold:=fold_put off u.cells.toList 0 c (by simp;omega)
     have hput:=hc.put hr2 off (by omega)
     obtain⟨c',h1,h2⟩:=aFill_ok rest xs (putCells cs off ys) (u.cells.zipIdx.foldl (fun(cs:Array Value) (x:Value×Nat)=>cs.setIfInBounds (off+x.2) x.1) c) out hi r2 (by
      rw[e,hfold];simpa using hput) hf
     refine⟨c',?_,h2⟩
     unfold Instr.fill
     rw[hp]
     simp only
     rw[if_neg (by simp;omega)]
     exact h1
    ·cases hf
   ·cases hf
def fieldOff (P:Program) (s:TypeId) (f:Nat):Option (Nat×TypeId):=match P.underlying s with
 |some (.struct fields)=>(fields[f]?).map fun x=>(x.offset,x.type)
 |_=>none
def zeroCellsOf (P:Program) (t:TypeId):Option (List AV):=(zeroOf P t).map fun z=>z.cells.toList.map .sc
def placesOf (P:Program):List Field→Option (List (Nat×Nat))
 | []=>some []
 |f::fs=>match szOf P f.type,placesOf P fs with
  |some k,some ps=>some ((f.offset,k)::ps)
  |_,_=>none
def aBuild (P:Program) (t:TypeId) (parts:List (Nat×AV)):Option AV:=match zeroCellsOf P t,P.underlying t with
 |some z,some (.struct fields)=>match placesOf P fields.toList with
  |some ps=>(aFill (fun i=>ps[i]?) z parts).map .agg
  |none=>none
 |some z,some (.array _ e)=>match szOf P e with
  |some k=>(aFill (fun i=>some (i*k,k)) z parts).map .agg
  |none=>none
 |_,_=>none
def aNilCheck:AV→Option AV
 | .sc (.pointer none) | .sc .nilIface | .sc .nilFunc=>none
 | .sc (.func _ _ _) | .junk=>none
 | .fn (.method _) _ _=>none
 |a=>some a
theorem aNilCheck_ok {x:AV} (hx:Rep ρ O w x v) (h:aNilCheck x=some a):a=x∧(∀(p:Sem Value),(match v with
  | .pointer none | .nilIface | .nilFunc=>p
  | .func (.method _) _ _=>p
  |x=>(pure x:Sem Value))=pure v):=by
 cases hx
 case sc=>cases v with
  |pointer p=>cases p<;>simp_all[aNilCheck]
  |_=>simp_all[aNilCheck]
 case fn f _ _ _ _ _ _ _ _=>cases f<;>simp_all[aNilCheck]
 all_goals simp_all[aNilCheck]
def aFieldAddr (P:Program) (s:TypeId) (x:AV) (f:Nat):Option AV:=match fieldOff P s f with
 |some (o,ft)=>match szOf P ft with
  |some (_+1)=>match x with
   | .ptr n ver off=>some (.ptr n ver (off+o))
   | .dptr cells=>some (.dptr (cells.drop o))
   |_=>none
  |_=>none
 |none=>none
theorem fieldOff_ok {s:TypeId} {f o:Nat} {ft:TypeId} (h:fieldOff P s f=some (o,ft)):∃fields x,P.underlying s=some (.struct fields)∧fields[f]? =some x∧x.offset=o∧x.type=ft:=by
 unfold fieldOff at h
 split at h
 ·rename_i fields hu
  cases hx:fields[f]? with
  |none=>rw[hx]at h;cases h
  |some x=>rw[hx]at h;simp at h;exact⟨fields,x,hu,hx,h.1,h.2⟩
 ·cases h
theorem Rep.dptr_drop {b o:Nat} {cells:List AV} (h:Rep ρ O w (.dptr cells) (.pointer (some ⟨b,o,none⟩))) (n:Nat):Rep ρ O w (.dptr (cells.drop n)) (.pointer (some ⟨b,o+n,none⟩)):=by
 cases h with
 |dptr h1 h2 h3 h4 h5=>
  have hr:Reps ρ O w cells _:=⟨h3,h5⟩
  exact .dptr h1 h2 (hr.drop n).len (h4.drop n) (hr.drop n).at_
theorem aFieldAddr_ok {s:TypeId} {x:AV} {f:Nat} (hx:Rep ρ O w x v) (h:aFieldAddr P s x f=some a):∃u,(Instr.fieldAt s v f).run P w= .ok u w∧Rep ρ O w a u:=by
 unfold aFieldAddr at h
 split at h
 ·rename_i o ft hf
  split at h
  ·rename_i k hk
   obtain⟨fields,fd,hu,hfd,rfl,rfl⟩:=fieldOff_ok hf
   have hrun:∀b o,(Instr.fieldAt s (.pointer (some ⟨b,o,none⟩)) f).run P w= .ok (.pointer (some ⟨b,o+fd.offset,none⟩)) w:=fun b o=>by
    simp[Instr.fieldAt,run_underlying hu,hfd,Instr.sureAddr,fieldPlace,run_sizeOf' hk,Addr.add_lit]
   split at h
   ·cases h
    cases hx with
    |ptr hL=>exact⟨_,hrun _ _,by rw[Nat.add_assoc];exact .ptr hL⟩
   ·cases h
    cases hx with
    |dptr h1 h2 h3 h4 h5=>exact⟨_,hrun _ _,Rep.dptr_drop (.dptr h1 h2 h3 h4 h5) _⟩
   ·cases h
  ·cases h
 ·cases h
def AV.parts? :AV→Option (List AV)
 | .agg l=>some l
 | .sc (.agg cs)=>some (cs.toList.map .sc)
 |_=>none
theorem parts_ok {x:AV} (hx:Rep ρ O w x v) (h:x.parts? =some l):∃cs:Array Value,v= .agg cs∧Reps ρ O w l cs.toList:=by
 unfold AV.parts? at h
 split at h
 ·cases h;exact Rep.agg_iff.1 hx
 ·cases h;cases hx;exact⟨_,rfl,Reps.scs _⟩
 ·cases h
theorem part_ok {cs:Array Value} {o:Nat} (hr:Reps ρ O w l cs.toList) (h:cellsOut P t (l.drop o)=some a):∃u,(part t cs o).run P w= .ok u w∧Rep ρ O w a u:=by
 unfold cellsOut at h
 split at h
 ·rename_i ha
  split at h
  ·rename_i k hk
   split at h
   ·rename_i hle
    cases h
    refine⟨.agg (cs.extract o (o+k)),by simp[part,run_isAgg' ha,run_sizeOf' hk],Rep.agg_iff.2 ⟨_,rfl,?_⟩⟩
    have:=(hr.drop o).take k
    rw[Array.toList_extract,List.extract_eq_take_drop]
    simpa using this
   ·cases h
  ·cases h
 ·rename_i ha
  obtain⟨x,hx,r⟩:=(hr.drop o).get (i:=0) (by rw[←List.head?_eq_getElem?];exact h)
  rw[List.getElem?_drop,Nat.add_zero,Array.getElem?_toList]at hx
  exact⟨x,by simp[part,run_isAgg' ha,hx],r⟩
 ·cases h
def aField (P:Program) (s:TypeId) (x:AV) (f:Nat):Option AV:=match fieldOff P s f,x.parts? with
 |some (o,ft),some l=>cellsOut P ft (l.drop o)
 |_,_=>none
theorem aField_ok {s:TypeId} {x:AV} {f:Nat} (hx:Rep ρ O w x v) (h:aField P s x f=some a):∃u,(Instr.field s v f).run P w= .ok u w∧Rep ρ O w a u:=by
 unfold aField at h
 split at h
 ·rename_i o ft l hf hl
  obtain⟨fields,fd,hu,hfd,rfl,rfl⟩:=fieldOff_ok hf
  obtain⟨cs,rfl,hr⟩:=parts_ok hx hl
  obtain⟨u,h1,h2⟩:=part_ok hr h
  exact⟨u,by simp[Instr.field,run_underlying hu,hfd,asAgg,h1],h2⟩
 ·cases h
def aIndexAddr (P:Program) (t:TypeId) (x i:AV):Option AV:=match i with
 | .sc (.int _ i)=>match P.underlying t with
   |some (.slice e)=>match szOf P e,x with
    |some k,.sl n ver off len=>if 0≤i∧i<len then some (.ptr n ver (off+i.toNat*k))else none
    |some k,.dsl len cells=>if 0≤i∧i<len∧i.toNat*k<cells.length then some (.dptr (cells.drop (i.toNat*k)))else none
    |_,_=>none
   |some (.array len e)=>match szOf P e,x with
    |some k,.ptr n ver off=>if 0≤i∧i<len then some (.ptr n ver (off+i.toNat*k))else none
    |some k,.dptr cells=>if 0≤i∧i<len then some (.dptr (cells.drop (i.toNat*k)))else none
    |_,_=>none
   |_=>none
 |_=>none
theorem aIndexAddr_ok {x i:AV} {u:Value} (hx:Rep ρ O w x v) (hi:Rep ρ O w i u) (h:aIndexAddr P t x i=some a):∃z,(Instr.indexAt t v u).run P w= .ok z w∧Rep ρ O w a z:=by
 unfold aIndexAddr at h
 split at h
 ·cases hi
  rename_i ik iv
  split at h
  ·rename_i e hu
   split at h
   ·rename_i k n ver off len hk
    split at h
    ·rename_i hb
     cases h
     cases hx with
     |sl hL h2 h3 h4=>
      refine⟨_,?_,.ptr hL⟩
      simp[Instr.indexAt,asIntOf,run_underlying hu,hb.1,hb.2,run_sizeOf' hk,Addr.add_lit,Nat.add_assoc]
    ·cases h
   ·rename_i k len cells hk
    split at h
    ·rename_i hb
     cases h
     cases hx with
     |dnil=>exact absurd hb.2.2 (by simp)
     |dsl h0 h1 h2 h3 h4 h5=>
      refine⟨_,?_,Rep.dptr_drop (.dptr h1 h2 h3 h4 h5) _⟩
      simp[Instr.indexAt,asIntOf,run_underlying hu,hb.1,hb.2.1,run_sizeOf' hk,Addr.add_lit]
    ·cases h
   ·cases h
  ·rename_i len e hu
   split at h
   ·rename_i k n ver off hk
    split at h
    ·rename_i hb
     cases h
     cases hx with
     |ptr hL=>
      refine⟨_,?_,.ptr hL⟩
      simp[Instr.indexAt,asIntOf,run_underlying hu,Instr.sureAddr,hb.1,hb.2,run_sizeOf' hk,Addr.add_lit,Nat.add_assoc]
    ·cases h
   ·rename_i k cells hk
    split at h
    ·rename_i hb
     cases h
     cases hx with
     |dptr h1 h2 h3 h4 h5=>
      refine⟨_,?_,Rep.dptr_drop (.dptr h1 h2 h3 h4 h5) _⟩
      simp[Instr.indexAt,asIntOf,run_underlying hu,Instr.sureAddr,hb.1,hb.2,run_sizeOf' hk,Addr.add_lit]
    ·cases h
   ·cases h
  ·cases h
 ·cases h
end
end Go.Am
end
section
namespace Go.Am
open Go
section
variable {P:Program} {ρ ρ':Inj} {H H':AHp} {O:Nat→Prop} {w w':World} {a:AV} {v:Value} {l cs:List AV} {vs:List Value} {t:TypeId}
theorem info_of_sz {k:Nat} (h:szOf P t=some k):∃i,P.info? t=some i∧i.size=k:=by
 unfold szOf at h
 cases hi:P.info? t with
 |none=>rw[hi]at h;cases h
 |some i=>rw[hi]at h;simp at h;exact⟨i,rfl,h⟩
theorem info_parts' {k b:Nat} {z:Value} (h:szOf P t=some k) (hb:byOf P t=some b) (hz:zeroOf P t=some z):∃i,P.info? t=some i∧i.size=k∧i.bytes=b∧i.zero=some z:=by
 obtain⟨i,hi,hk⟩:=info_of_sz h
 unfold byOf at hb
 unfold zeroOf at hz
 rw[hi]at hb hz
 simp at hb hz
 exact⟨i,hi,hk,hb,hz⟩
def aZeros (z:Value) (n:Nat):List AV:=match z.cells.toList with
 | [x]=>List.replicate n (.sc x)
 |_=>(List.range n).map fun i=>.sc (z.cells[i%z.cells.size]!)
theorem aZeros_eq (z:Value) (n:Nat):aZeros z n=(madeCells z.cells n).toList.map .sc:=by
 have e:(madeCells z.cells n).toList.map AV.sc=(List.range n).map fun i=>AV.sc (z.cells[i%z.cells.size]!):=by
  simp[madeCells,Array.toList_map,Array.toList_range,Function.comp_def]
 rw[e]
 unfold aZeros
 split
 ·rename_i x hx
  have h1:z.cells= #[x]:=by rw[←Array.toList_inj];exact hx
  rw[h1]
  apply List.ext_getElem
  ·simp
  ·intro i h1 h2;simp[Nat.mod_one]
 ·rfl
theorem aZeros_len (z:Value) (n:Nat):(aZeros z n).length=n:=by rw[aZeros_eq];simp[madeCells]
theorem madeCells_take (z:Array Value) {m n:Nat} (h:m≤n):(madeCells z n).toList.take m=(madeCells z m).toList:=by
 simp[madeCells,Array.toList_range,←List.map_take,List.take_range,Nat.min_eq_left h]
def aMakeSlice (P:Program) (t:TypeId) (l c:AV):AP AV:=match l,c,P.underlying t with
 | .sc (.int _ l),.sc (.int _ c),some (.slice e)=>match szOf P e,byOf P e,zeroOf P e with
   |some k,some b,some z=>if 0≤l∧l≤c∧(b:Int)*c≤281474976710656∧c≤9223372036854775807 then .new (.row 0 k (aZeros z (l.toNat*k))) fun n=>.ret (.sl n 0 0 l.toNat)else .fail
   |_,_,_=>.fail
 |_,_,_=>.fail
theorem aMakeSlice_ok {x y:AV} {u:Value} (h:Rel ρ H w) (hx:Rep ρ (own ρ H) w x v) (hy:Rep ρ (own ρ H) w y u):SemOK P (Instr.makeSlice t v u) id (aMakeSlice P t x y) ρ H w:=by
 unfold aMakeSlice
 split
 ·rename_i kl l kc c e hu
  cases hx;cases hy
  split
  ·rename_i k b z hk hb hz
   refine SemOK.ite (fun hc=>?_)
   obtain⟨i,hi,rfl,rfl,hz'⟩:=info_parts' hk hb hz
   have hrun:=run_make (P:=P) w t e i z hu hi hz' kl kc l c hc.1 hc.2.1 hc.2.2.1 hc.2.2.2
   have hle:l.toNat*i.size≤c.toNat*i.size:=Nat.mul_le_mul_right _ (by omega)
   refine SemOK.new (fun n hn=>⟨_,_,_,_,rfl,hrun,Step.newRow h hn _ e i.size ?_ ?_,?_⟩)
   ·rw[aZeros_len,size_madeCells];exact hle
   ·rw[aZeros_len,madeCells_take _ hle,aZeros_eq]
    exact Reps.scs _
   ·have:=Rep.sl (own:=own (updR ρ n 0 ⟨w.heap.size,0,(madeCells z.cells (c.toNat*i.size)).size,i.size⟩) (upd H n (.row 0 i.size (aZeros z (l.toNat*i.size))))) (w:=w.alloc (.cells (madeCells z.cells (c.toNat*i.size)) e)) (off:=0) (len:=l.toNat) (cap:=c.toNat)
     (updR_same (ρ:=ρ) n 0 ⟨w.heap.size,0,(madeCells z.cells (c.toNat*i.size)).size,i.size⟩) (by simp[size_madeCells]) (by omega) (by unfold maxLen;omega)
    simpa using this
  ·exact .fail
 ·exact .fail
def aBuildSlice (P:Program) (t:TypeId) (len:Nat) (parts:List (Nat×AV)):AP AV:=match P.underlying t with
 |some (.slice e)=>match szOf P e,zeroOf P e with
  |some k,some z=>if len*k≤16777216∧len≤16777216 then match aFill (fun i=>some (i*k,k)) (aZeros z (len*k)) parts with
    |some cs=>if cs.length=len*k then .new (.row 0 k cs) fun n=>.ret (.sl n 0 0 len)else .fail
    |none=>.fail
   else .fail
  |_,_=>.fail
 |_=>.fail
theorem aBuildSlice_ok {len:Nat} {parts:List (Nat×AV)} {vparts:Array (Nat×Value)} (h:Rel ρ H w) (hi:parts.map (·.1)=vparts.toList.map (·.1)) (hr:Reps ρ (own ρ H) w (parts.map (·.2)) (vparts.toList.map (·.2))):
  SemOK P (Instr.buildSlice t len vparts) id (aBuildSlice P t len parts) ρ H w:=by
 unfold aBuildSlice
 split
 ·rename_i e hu
  split
  ·rename_i k z hk hz
   refine SemOK.ite (fun hle=>?_)
   split
   ·rename_i cs hf
    refine SemOK.ite (fun hl=>?_)
    obtain⟨c',h1,h2⟩:=aFill_ok parts vparts.toList (aZeros z (len*k)) (madeCells z.cells (len*k)) cs hi hr (by rw[aZeros_eq];exact Reps.scs _) hf
    have hsz:c'.size=len*k:=by have:=h2.len;simp at this;omega
    refine SemOK.new (fun n hn=>⟨.slice (some ⟨w.heap.size,0,none⟩) len len,w.alloc (.cells c' e),_,_,rfl,?_,Step.newRow h hn c' e k (by omega) ?_,?_⟩)
    ·have hn1:¬(len*k>2^24):=by omega
     by_cases h0:len*k=0
     ·have e1:madeCells z.cells 0= #[]:=by simp[madeCells,Array.range_zero']
      rw[h0]at h1
      rw[e1]at h1
      have e2:Array.map (fun _:Nat=>(default:Value)) (Array.range 0)= #[]:=by simp[Array.range_zero']
      simp[Instr.buildSlice,run_underlying hu,run_sizeOf' hk,h0,e2,h1,newRow]
     ·have h1':Instr.fill (fun i=>some (i*k,k)) ((Array.range (len*k)).map (z.cells[· %z.cells.size]!)) vparts.toList=some c':=h1
      simp[Instr.buildSlice,run_underlying hu,run_sizeOf' hk,run_zeroValue' hz,h0,h1',newRow,hle.1]
    ·rw[List.take_of_length_le (by simp;omega)];exact h2
    ·have:=Rep.sl (own:=own (updR ρ n 0 ⟨w.heap.size,0,c'.size,k⟩) (upd H n (.row 0 k cs))) (w:=w.alloc (.cells c' e)) (off:=0) (len:=len) (cap:=len)
      (updR_same (ρ:=ρ) n 0 ⟨w.heap.size,0,c'.size,k⟩) (by simp[hsz]) (Nat.le_refl _) (by unfold maxLen;omega)
     simpa using this
   ·exact .fail
  ·exact .fail
 ·exact .fail
def bnd (o:Option AV) (d:Nat):Option Nat:=match o with
 |none=>some d
 |some (.sc (.int _ i))=>if 0≤i then some i.toNat else none
 |_=>none
def aSlice (P:Program) (t:TypeId) (x:AV) (lo hi:Option AV):AP AV:=match P.underlying t with
 |some (.slice e)=>match szOf P e,x with
  |some k,.sl n ver off len=>match bnd lo 0,bnd hi len with
   |some l,some h=>if l≤h∧h≤len then .get n fun
     | .row v esz _=>if v=ver∧esz=k then if l=0∨l<len then .ret (.sl n ver (off+l*k) (h-l))else .ret (.dsl 0 [])else .fail
     |_=>.fail
    else .fail
   |_,_=>.fail
  |some k,.dsl len cells=>match bnd lo 0,bnd hi len with
   |some l,some h=>if l≤h∧h≤len then if l=0∨l<len then .ret (.dsl (h-l) (cells.drop (l*k)))else .ret (.dsl 0 [])else .fail
   |_,_=>.fail
  |_,_=>.fail
 |_=>.fail
theorem run_slice_gen {e:TypeId} {k:Nat} (hu:P.underlying t=some (.slice e)) (hk:szOf P e=some k) (A:Option Addr) (len cap l h:Nat) (lo hi:Option Value)
  (hlo:(lo=none∧l=0)∨∃kl i,lo=some (.int kl i)∧0≤i∧i.toNat=l) (hhi:(hi=none∧h=len)∨∃kh i,hi=some (.int kh i)∧0≤i∧i.toNat=h) (h1:l≤h) (h2:h≤len) (h3:len≤cap):
  (Instr.sliceAt t (.slice A len cap) lo hi none).run P w= .ok (.slice (if cap=l then A else A.map (·.add (l*k))) (h-l) (cap-l)) w:=by
 have hat:Instr.sliceAt t (.slice A len cap) lo hi none=(do match ←underlying t with | .array n elem=>(do let a ←Instr.sureAddr (.slice A len cap);let(l,h,m) ←Instr.sliceBounds false n n lo hi none;let size ←sizeOf elem;pure (.slice (some (if m=l then a else a.add (l*size))) (h-l) (m-l))) |_=>Instr.slice t (.slice A len cap) lo hi none):=rfl
 have hb:(Instr.sliceBounds true len cap lo hi none).run P w= .ok (l,h,cap) w:=by
  rcases hlo with⟨rfl,rfl⟩ |⟨kl,i,rfl,hi0,rfl⟩<;>rcases hhi with⟨rfl,rfl⟩ |⟨kh,j,rfl,hj0,rfl⟩
  ·simp[Instr.sliceBounds]
  ·have:j≤cap:=by omega
   simp[Instr.sliceBounds,Instr.sliceBound,asIntOf,hj0,this]
  ·have:i≤h:=by omega
   simp[Instr.sliceBounds,Instr.sliceBound,asIntOf,hi0,this]
  ·have e1:j≤cap:=by omega
   have e3:¬(max j 0<i):=by omega
   simp[Instr.sliceBounds,Instr.sliceBound,asIntOf,hi0,hj0,e1,e3]
 rw[hat]
 simp[run_underlying hu,Instr.slice,hb,run_sizeOf' hk]
def OptRep (ρ:Inj) (O:Nat→Prop) (w:World) (a:Option AV) (v:Option Value):Prop:=match a,v with
 |none,none=>True
 |some a,some v=>Rep ρ O w a v
 |_,_=>False
theorem bnd_ok {lo:Option AV} {vlo:Option Value} {d l:Nat} (hr:OptRep ρ O w lo vlo) (h:bnd lo d=some l):(vlo=none∧l=d)∨∃kl i,vlo=some (.int kl i)∧0≤i∧i.toNat=l:=by
 cases lo with
 |none=>
  cases vlo with
  |none=>exact .inl ⟨rfl,by simpa[bnd]using h.symm⟩
  |some x=>exact hr.elim
 |some x=>
  cases vlo with
  |none=>exact hr.elim
  |some y=>
   cases x with
   |sc u=>
    have hr':Rep ρ O w (.sc u) y:=hr
    cases hr'
    cases y with
    |int k i=>
     simp only[bnd]at h
     split at h
     ·rename_i h0;exact .inr ⟨_,_,rfl,h0,by simpa using h⟩
     ·cases h
    |_=>simp[bnd]at h
   |_=>simp[bnd]at h
theorem aSlice_ok {x:AV} {lo hi:Option AV} {vlo vhi:Option Value} (h:Rel ρ H w) (hx:Rep ρ (own ρ H) w x v) (hlo:OptRep ρ (own ρ H) w lo vlo) (hhi:OptRep ρ (own ρ H) w hi vhi):
  SemOK P (Instr.sliceAt t v vlo vhi none) id (aSlice P t x lo hi) ρ H w:=by
 unfold aSlice
 split
 ·rename_i e hu
  split
  ·rename_i k n ver off len hk
   split
   ·rename_i l hh hb1 hb2
    refine SemOK.ite (fun hle=>?_)
    refine SemOK.get (fun o ho=>?_)
    split
    ·rename_i v' esz cs
     refine SemOK.ite (fun hv=>?_)
     obtain⟨rfl,rfl⟩:=hv
     cases hx with
     |sl hL h2 h3 h4=>
     rename_i L cap
     obtain⟨L',hL',he,_⟩:=h.live n _ ho rfl
     have e2:ρ n v'=some L':=hL'
     rw[hL]at e2;cases e2
     have hrun:=run_slice_gen (w:=w) hu hk (some ⟨L.block,L.base+off,none⟩) len cap l hh vlo vhi (bnd_ok hlo hb1) (bnd_ok hhi hb2) hle.1 hle.2 h3
     split
     ·rename_i hc
      refine SemOK.ret h hrun ?_
      rcases Nat.eq_zero_or_pos l with h0 |h0
      ·subst h0
       have e0:(if cap=0 then some (⟨L.block,L.base+off,none⟩:Addr)else(some (⟨L.block,L.base+off,none⟩:Addr)).map (·.add (0*esz)))=some ⟨L.block,L.base+off,none⟩:=by
        split<;>simp[Addr.add]
       rw[e0]
       have:=Rep.sl (own:=own ρ H) (w:=w) (len:=hh-0) (off:=off) (cap:=cap) hL h2 (by omega) h4
       simpa using this
      ·have hne:¬cap=l:=by omega
       rw[if_neg hne]
       simp only[Option.map_some,Addr.add_lit]
       rw[Nat.add_assoc]
       refine Rep.sl hL ?_ (by omega) (by omega)
       rw[he]at h2 ⊢
       have:l*esz≤cap*esz:=Nat.mul_le_mul_right _ (by omega)
       rw[Nat.sub_mul]
       omega
     ·exact SemOK.ret h (by rw[show hh-l=0 by omega]at hrun;exact hrun) (.dnil (Nat.zero_le _))
    ·exact .fail
   ·exact .fail
  ·rename_i k len cells hk
   split
   ·rename_i l hh hb1 hb2
    refine SemOK.ite (fun hle=>?_)
    have hgo:∀A cap,Rep ρ (own ρ H) w (.dsl len cells) (.slice A len cap)→len≤cap→SemOK P (Instr.sliceAt t (.slice A len cap) vlo vhi none) id (if l=0∨l<len then .ret (.dsl (hh-l) (cells.drop (l*k)))else .ret (.dsl 0 [])) ρ H w:=by
     intro A cap hr h3
     have hrun:=run_slice_gen (w:=w) hu hk A len cap l hh vlo vhi (bnd_ok hlo hb1) (bnd_ok hhi hb2) hle.1 hle.2 h3
     split
     ·rename_i hc
      refine SemOK.ret h hrun ?_
      cases hr with
      |dnil hl=>rw[List.drop_nil];exact .dnil (by omega)
      |dsl g0 g1 g2 g3 g4 g5=>
       rename_i b off vs
       have hr:Reps ρ (own ρ H) w cells vs:=⟨g3,g5⟩
       rcases Nat.eq_zero_or_pos l with h0 |h0
       ·subst h0
        have e0:(if cap=0 then some (⟨b,off,none⟩:Addr)else(some (⟨b,off,none⟩:Addr)).map (·.add (0*k)))=some ⟨b,off,none⟩:=by
         split<;>simp[Addr.add]
        rw[e0]
        simp only[Nat.zero_mul,List.drop_zero]
        exact .dsl (by omega) g1 g2 g3 g4 g5
       ·have hne:¬cap=l:=by omega
        rw[if_neg hne]
        simp only[Option.map_some,Addr.add_lit]
        exact .dsl (by omega) g1 g2 (hr.drop _).len (g4.drop _) (hr.drop _).at_
     ·exact SemOK.ret h (by rw[show hh-l=0 by omega]at hrun;exact hrun) (.dnil (Nat.zero_le _))
    cases hx with
    |dnil hl=>exact hgo _ _ (.dnil hl) hl
    |dsl g0 g1 g2 g3 g4 g5=>exact hgo _ _ (.dsl g0 g1 g2 g3 g4 g5) g0
   ·exact .fail
  ·exact .fail
 ·exact .fail
end
end Go.Am
end
section
namespace Go.Am
open Go
section
variable {P:Program} {ρ ρ':Inj} {H H':AHp} {O:Nat→Prop} {w w':World} {a:AV} {v:Value} {l cs:List AV} {vs:List Value} {t:TypeId}
structure SrcOK (P:Program) (ρ:Inj) (H:AHp) (w:World) (k:Nat) (v:Value) (ys:List AV) (m:Nat) (us:List Value):Prop where
 len:∀w',(Builtin.lenOf v).run P w'= .ok m w'
 ulen:us.length=m*k
 reps:Reps ρ (own ρ H) w ys us
 cells:∀w',w'.heap=w.heap→∀j,j≤m→(Builtin.firstCells k j v).run P w'= .ok (us.take (j*k)).toArray w'
def aSrc (k:Nat) (x:AV) (f:List AV→Nat→AP AV):AP AV:=match x with
 | .sl n ver off m=>.get n fun
   | .row v _ cs=>if v=ver∧off+m*k≤cs.length then f ((cs.drop off).take (m*k)) m else .fail
   |_=>.fail
 | .dsl m cells=>if m*k≤cells.length then f (cells.take (m*k)) m else .fail
 | .sc (.slice none 0 0)=>f [] 0
 |_=>.fail
theorem firstCells_holds {A:Addr} {m cap k j:Nat} {us:List Value} (hl:us.length=m*k) (hA:∀i x,us[i]? =some x→w.cell? (A.add i)=some x) (hj:j≤m):
  (Builtin.firstCells k j (.slice (some A) m cap)).run P w= .ok (us.take (j*k)).toArray w:=by
 refine run_firstCells_some w k j A m cap (us.take (j*k)) ?_ (fun i x hx=>hA i x ?_)
 ·rw[List.length_take,hl]
  have:j*k≤m*k:=Nat.mul_le_mul_right _ hj
  omega
 ·rw[List.getElem?_take]at hx
  split at hx
  ·exact hx
  ·cases hx
theorem cell_of_heap_eq {A:Addr} (h:w'.heap=w.heap):w'.cell? A=w.cell? A:=by simp[World.cell?,h]
theorem aSrc_ok {α:Type} {e:Sem α} {f:α→Value} {x:AV} {k:Nat} {g:List AV→Nat→AP AV} (h:Rel ρ H w) (hx:Rep ρ (own ρ H) w x v)
  (hg:∀ys m us,SrcOK P ρ H w k v ys m us→SemOK P e f (g ys m) ρ H w):SemOK P e f (aSrc k x g) ρ H w:=by
 unfold aSrc
 split
 ·rename_i n ver off m
  refine SemOK.get (fun o ho=>?_)
  split
  ·rename_i v' esz cs
   refine SemOK.ite (fun hc=>?_)
   obtain⟨rfl,hle⟩:=hc
   cases hx with
   |sl hL h2 h3 h4=>
   rename_i L cap
   obtain⟨L',hL',he,c,ty,hc,hsz,hlen,hr⟩:=h.live n _ ho rfl
   have e2:ρ n v'=some L':=hL'
   rw[hL]at e2;cases e2
   have hR:=(hr.drop off).take (m*k)
   have hH:=(((Holds.of_row hc L.base).take cs.length).drop off).take (m*k)
   have hl:((((c.toList.drop L.base).take cs.length).drop off).take (m*k)).length=m*k:=by rw[hR.len];simp;omega
   refine hg _ m _ ⟨fun w'=>by simp[Builtin.lenOf],hl,hR,fun w' hw j hj=>firstCells_holds hl (fun i x hx=>?_) hj⟩
   rw[cell_of_heap_eq hw,Addr.add_lit]
   exact hH i x hx
  ·exact .fail
 ·rename_i m cells
  refine SemOK.ite (fun hle=>?_)
  cases hx with
  |dnil hl=>
   have h0:m*k=0:=by simpa using hle
   have e0:∀j,j≤m→j*k=0:=fun j hj=>by have:j*k≤m*k:=Nat.mul_le_mul_right _ hj;omega
   refine hg _ m [] ⟨fun w'=>by simp[Builtin.lenOf],by simp[h0],by simpa using Reps.nil,fun w' hw j hj=>?_⟩
   rename_i A
   cases A with
   |none=>simp[Builtin.firstCells]
   |some A=>simp[Builtin.firstCells,e0 j hj,loadCells,loadCellsFrom]
  |dsl g0 g1 g2 g3 g4 g5=>
   rename_i b off cap vs
   have hr:Reps ρ (own ρ H) w cells vs:=⟨g3,g5⟩
   have hl:(vs.take (m*k)).length=m*k:=by rw[(hr.take _).len];simp;omega
   refine hg _ m _ ⟨fun w'=>by simp[Builtin.lenOf],hl,hr.take _,fun w' hw j hj=>firstCells_holds hl (fun i x hx=>?_) hj⟩
   rw[cell_of_heap_eq hw,Addr.add_lit]
   exact g4.take _ i x hx
 ·cases hx
  exact hg _ 0 [] ⟨fun w'=>by simp[Builtin.lenOf],by simp,Reps.nil,fun w' hw j hj=>by simp[Builtin.firstCells]⟩
 ·exact .fail
theorem run_append_room' {ty e:TypeId} {i:TypeInfo} (ht:P.underlying t=some (.slice e)) (hi:P.info? e=some i)
  {g o sLen sCap:Nat} {cur:Array Value} {be:TypeId} (hg:w.heap[g]? =some (.cells cur be (0,0))) {x:Value} {m:Nat} {us:List Value} (hlen:(Builtin.lenOf x).run P w= .ok m w)
  (hf:(Builtin.firstCells i.size m x).run P w= .ok us.toArray w) (h1:∀u∈us,u.oneCell'=true) (hroom:sLen+m≤sCap) (hfit:o+sLen*i.size+us.length≤cur.size):
  (Builtin.append_ #[t,t] ty #[.slice (some ⟨g,o,none⟩) sLen sCap,x]).run P w=
   .ok (.slice (some ⟨g,o,none⟩) (sLen+m) sCap) (w.setRow g (cur.toList.take (o+sLen*i.size)++us++cur.toList.drop (o+sLen*i.size+us.length)).toArray):=by
 have hst:=run_storeCells_at P g (o+sLen*i.size) be us 0 cur w hg (by simpa using hfit) h1
 simp only[Nat.add_zero]at hst
 simp[Builtin.append_,run_underlying ht,sizeOf,typeInfo,hi,hlen,hroom,hf,Addr.add_lit,hst]
theorem run_append_grow' {ty e:TypeId} {i:TypeInfo} {z:Value} (ht:P.underlying t=some (.slice e)) (hi:P.info? e=some i) (hz:i.zero=some z)
  {s x:Value} {A:Option Addr} {sLen sCap m:Nat} {os us:List Value} (hs:s= .slice A sLen sCap) (hlen:(Builtin.lenOf x).run P w= .ok m w)
  (ho:(Builtin.firstCells i.size sLen s).run P w.drew= .ok os.toArray w.drew) (hf:(Builtin.firstCells i.size m x).run P w.drew= .ok us.toArray w.drew)
  (hg:sCap<sLen+m) (h63:((sLen+m:Nat):Int)≤9223372036854775807) (hfit:Builtin.nextslicecap (sLen+m) sCap*i.bytes≤281474976710656):
  (Builtin.append_ #[t,t] ty #[s,x]).run P w=
   .ok (.slice (some ⟨w.heap.size,0,none⟩) (sLen+m) (grownCap w (sLen+m) sCap e))
    (w.drew.alloc (.cells (os.toArray++us.toArray++Builtin.zeroCells z.cells (grownCap w (sLen+m) sCap e-(sLen+m))) e)):=by
 subst hs
 have hn:¬(sLen+m≤sCap):=by omega
 have h63':¬(9223372036854775807<((sLen:Int)+(m:Int))):=by omega
 have hfit':¬(281474976710656<Builtin.nextslicecap (sLen+m) sCap*i.bytes):=by omega
 simp[Builtin.append_,run_underlying ht,sizeOf,typeInfo,zeroValue,hi,hz,hlen,hn,h63',hfit',Question.forced,ho,hf,newRow,grownCap]
 congr 2
 apply Array.ext'
 simp[List.append_assoc]
def grownCells (w:World) (e:TypeId) (z:Value) (os us:List Value) (need old:Nat):Array Value:=os.toArray++us.toArray++Builtin.zeroCells z.cells (grownCap w need old e-need)
theorem grownCells_size {e:TypeId} {z:Value} {os us:List Value} {a m k old:Nat} (ho:os.length=a*k) (hu:us.length=m*k) (hz:z.cells.size=k):(grownCells w e z os us (a+m) old).size=grownCap w (a+m) old e*k:=by
 have hge:=grownCap_ge w (a+m) old e
 unfold grownCells
 rw[Array.size_append,Array.size_append,size_zeroCells,List.size_toArray,List.size_toArray,ho,hu,hz,←Nat.add_mul,←Nat.add_mul]
 congr 1
 omega
theorem grownCells_take {e:TypeId} {z:Value} {os us:List Value} {need old:Nat}:(grownCells w e z os us need old).toList.take (os++us).length=os++us:=by
 unfold grownCells
 rw[Array.toList_append,Array.toList_append]
 exact List.take_left
theorem rep_moved {n ver k len cap:Nat} {L:Loc} (hL:ρ n ver=some L) (hb:L.base=0) (hc:cap*L.esz≤L.room) (hl:len≤cap) (hm:cap≤maxLen) (_hk:L.esz=k):Rep ρ O w (.sl n ver 0 len) (.slice (some ⟨L.block,0,none⟩) len cap):=by
 have:=Rep.sl (own:=O) (w:=w) (off:=0) hL (by omega) hl hm
 simpa[hb]using this
theorem rep_re {n ver len cap b o:Nat} {L:Loc} (hL:ρ n ver=some L) (hb:L.block=b) (ho:L.base=o) (hc:cap*L.esz≤L.room) (hl:len≤cap) (hm:cap≤maxLen):Rep ρ O w (.sl n ver 0 len) (.slice (some ⟨b,o,none⟩) len cap):=by
 have:=Rep.sl (own:=O) (w:=w) (off:=0) hL (by omega) hl hm
 simpa[hb,ho]using this
def aAppend (P:Program) (t:TypeId) (s x:AV):AP AV:=match P.underlying t with
 |some (.slice e)=>match szOf P e,byOf P e,zeroOf P e with
  |some k,some b,some z=>if 0<k∧z.cells.size=k then aSrc k x fun ys m=>match s with
    | .sc (.slice none 0 0)=>if m=0 then .ret (.sc (.slice none 0 0))else if m*b≤140737488355328∧m≤9223372036854775807 then .new (.row 0 k ys) fun n=>.ret (.sl n 0 0 m)else .fail
    | .sl n ver off len=>.get n fun
      | .row v esz cs=>if v=ver∧esz=k∧off+len*k≤cs.length∧(len+m)*b≤140737488355328∧len+m≤9223372036854775807∧ys.all AV.one=true then
        .set n (.row (ver+1) k ((cs.drop off).take (len*k)++ys)) (.ret (.sl n (ver+1) 0 (len+m)))else .fail
      |_=>.fail
    |_=>.fail
   else .fail
  |_,_,_=>.fail
 |_=>.fail
theorem Reps.one (h:Reps ρ O w l vs) (h1:l.all AV.one=true):∀u∈vs,u.oneCell'=true:=by
 intro u hu
 obtain⟨i,hi,rfl⟩:=List.mem_iff_getElem.1 hu
 have hi':i<l.length:=by rw[←h.len];exact hi
 exact(AV.one_ok (h.at_ i _ _ (List.getElem?_eq_getElem hi') (List.getElem?_eq_getElem hi)) (List.all_eq_true.1 h1 _ (List.getElem_mem hi'))).1
set_option maxHeartbeats 1000000 in
theorem aAppend_ok {x s:AV} {ty:TypeId} {u:Value} (h:Rel ρ H w) (hs:Rep ρ (own ρ H) w s v) (hx:Rep ρ (own ρ H) w x u):
  SemOK P (Builtin.append_ #[t,t] ty #[v,u]) id (aAppend P t s x) ρ H w:=by
 unfold aAppend
 split
 ·rename_i e hu
  split
  ·rename_i k b z hk hb hz
   refine SemOK.ite (fun hk0=>?_)
   obtain⟨i,hi,rfl,rfl,hz'⟩:=info_parts' hk hb hz
   refine aSrc_ok h hx (fun ys m us hsrc=>?_)
   have hm1:us.take (m*i.size)=us:=List.take_of_length_le (by rw[hsrc.ulen];exact Nat.le_refl _)
   have hyl:ys.length=m*i.size:=by rw[←hsrc.reps.len,hsrc.ulen]
   split
   ·cases hs
    split
    ·rename_i h0
     subst h0
     refine SemOK.ret h ?_ (.sc _)
     have hf:=hsrc.cells w rfl 0 (Nat.le_refl _)
     simp[Builtin.append_,run_underlying hu,run_sizeOf' hk,hsrc.len,hf]
    ·rename_i h0
     refine SemOK.ite (fun hbd=>?_)
     have hf:=hsrc.cells w.drew rfl m (Nat.le_refl _)
     rw[hm1]at hf
     have hcap:=grownCap_ge w (0+m) 0 e
     have hcm:=grownCap_le_maxLen w (0+m) 0 e (by unfold maxLen;omega)
     have hrun:=run_append_grow' (P:=P) (w:=w) (ty:=ty) (s:=.slice none 0 0) (A:=none) (sLen:=0) (sCap:=0) (os:=[]) hu hi hz' rfl (hsrc.len w) (by simp[Builtin.firstCells]) hf (by omega) (by omega) (growslice_fits (by omega) (by rw[Nat.zero_add];exact hbd.1))
     have hsz:=grownCells_size (w:=w) (e:=e) (z:=z) (os:=[]) (a:=0) (old:=0) (by simp) hsrc.ulen hk0.2
     refine SemOK.new (fun n hn=>⟨_,_,_,_,rfl,hrun,(Step.drew h).trans (Step.newRow h.drew hn (grownCells w e z [] us (0+m) 0) e i.size ?_ ?_),?_⟩)
     ·rw[hsz,hyl];exact Nat.mul_le_mul_right _ (by omega)
     ·have:=grownCells_take (w:=w) (e:=e) (z:=z) (os:=[]) (us:=us) (need:=0+m) (old:=0)
      rw[List.nil_append,hsrc.reps.len]at this
      rw[this]
      exact(Step.drew h).reps hsrc.reps
     ·have:=rep_moved (O:=own (updR ρ n 0 ⟨w.drew.heap.size,0,(grownCells w e z [] us (0+m) 0).size,i.size⟩) (upd H n (.row 0 i.size ys))) (w:=w.drew.alloc (.cells (grownCells w e z [] us (0+m) 0) e)) (k:=i.size) (len:=m) (updR_same (ρ:=ρ) n 0 ⟨w.drew.heap.size,0,(grownCells w e z [] us (0+m) 0).size,i.size⟩) rfl (Nat.le_of_eq hsz.symm) (by omega) hcm rfl
      rw[Nat.zero_add]at this ⊢
      exact this
   ·rename_i n ver off len
    refine SemOK.get (fun o ho=>?_)
    split
    ·rename_i v' esz cs
     refine SemOK.ite (fun hc=>?_)
     obtain⟨rfl,rfl,hle,hbd,hmx,hone⟩:=hc
     cases hs with
     |sl hL h2 h3 h4=>
     rename_i L cap
     obtain⟨L',hL',he,c,ty',hc,hsz,hlen,hr⟩:=h.live n _ ho rfl
     have e2:ρ n v'=some L':=hL'
     rw[hL]at e2;cases e2
     rw[he]at h2
     have hcl:c.toList.length=c.size:=by simp
     have hq:len*i.size≤cap*i.size:=Nat.mul_le_mul_right _ h3
     have hR0:=(hr.drop off).take (len*i.size)
     have hw0:((((c.toList.drop L.base).take cs.length).drop off).take (len*i.size))=(c.toList.drop (L.base+off)).take (len*i.size):=by
      rw[List.drop_take,List.drop_drop,List.take_take]
      congr 1
      omega
     rw[hw0]at hR0
     have hl0:((c.toList.drop (L.base+off)).take (len*i.size)).length=len*i.size:=by rw[List.length_take,List.length_drop];omega
     have hcsl:((cs.drop off).take (len*i.size)).length=len*i.size:=by rw[←hR0.len,hl0]
     have hRR:=hR0.append hsrc.reps
     have hHo:Holds w L.block (L.base+off) ((c.toList.drop (L.base+off)).take (len*i.size)):=(Holds.of_row hc _).take _
     have hos:∀w',w'.heap=w.heap→(Builtin.firstCells i.size len (.slice (some ⟨L.block,L.base+off,none⟩) len cap)).run P w'= .ok ((c.toList.drop (L.base+off)).take (len*i.size)).toArray w':=fun w' hw'=>by
      have:=firstCells_holds (P:=P) (w:=w') (A:=⟨L.block,L.base+off,none⟩) (cap:=cap) (j:=len) hl0 (fun j x hx=>by rw[cell_of_heap_eq hw',Addr.add_lit];exact hHo j x hx) (Nat.le_refl _)
      rw[List.take_of_length_le (by omega)]at this
      exact this
     have hm1':=hone
     have hf1:=hsrc.reps.one hone
     by_cases hroom:len+m≤cap
     ·have hfit:(len+m)*i.size≤cap*i.size:=Nat.mul_le_mul_right _ hroom
      rw[Nat.add_mul]at hfit
      have hf:=hsrc.cells w rfl m (Nat.le_refl _)
      rw[hm1]at hf
      have hul:=hsrc.ulen
      have hrun:=run_append_room' (P:=P) (w:=w) (ty:=ty) (g:=L.block) (o:=L.base+off) (sLen:=len) (sCap:=cap) hu hi hc (hsrc.len w) hf hf1 hroom (by rw[hul];omega)
      have hB:L.base+off+(len*i.size+m*i.size)≤c.toList.length:=by omega
      have e1:(((c.toList.drop (L.base+off)).take (len*i.size+m*i.size)).take (len*i.size))=(c.toList.drop (L.base+off)).take (len*i.size):=by rw[List.take_take];congr 1;omega
      have e2:(((c.toList.drop (L.base+off)).take (len*i.size+m*i.size)).drop (len*i.size+us.length))=[]:=by
       apply List.drop_eq_nil_of_le;rw[List.length_take,hul];omega
      have hwin:=window_put c.toList us (L.base+off) (len*i.size) (len*i.size+m*i.size) (by omega) hB
      rw[e1,e2,List.append_nil]at hwin
      have hl':((cs.drop off).take (len*i.size)++ys).length=len*i.size+m*i.size:=by rw[List.length_append,hcsl,hyl]
      have hXl:(c.toList.take (L.base+off+len*i.size)++us++c.toList.drop (L.base+off+len*i.size+us.length)).length=c.size:=by
       simp only[List.length_append,List.length_take,List.length_drop,hcl,hul];omega
      generalize c.toList.take (L.base+off+len*i.size)++us++c.toList.drop (L.base+off+len*i.size+us.length)=X at hwin hXl hrun
      generalize (cs.drop off).take (len*i.size)++ys=cs' at hl' hRR ⊢
      have hgoal:Reps ρ (own ρ H) w cs' ((X.toArray.toList.drop (L.base+off)).take cs'.length):=by
       rw[hl',show X.toArray.toList=X from rfl,hwin];exact hRR
      refine SemOK.set ⟨_,_,_,hrun,Step.reRow h ho hL hc X.toArray cs' off (by simpa using hXl) (by omega) hgoal,?_⟩
      exact rep_re (updR_same (ρ:=ρ) n (v'+1) ⟨L.block,L.base+off,L.room-off,L.esz⟩) rfl rfl (by simp only[he];omega) hroom h4
     ·have hf:=hsrc.cells w.drew rfl m (Nat.le_refl _)
      rw[hm1]at hf
      have hge:=grownCap_ge w (len+m) cap e
      have hcm:=grownCap_le_maxLen w (len+m) cap e (by unfold maxLen;omega)
      have hrun:=run_append_grow' (P:=P) (w:=w) (ty:=ty) hu hi hz' rfl (hsrc.len w) (hos w.drew rfl) hf (by omega) (by omega) (growslice_fits (by omega) hbd)
      have hsz':=grownCells_size (w:=w) (e:=e) (z:=z) (old:=cap) hl0 hsrc.ulen hk0.2
      refine SemOK.set ⟨_,_,_,hrun,(Step.drew h).trans (Step.moveRow h.drew ho (grownCells w e z ((c.toList.drop (L.base+off)).take (len*i.size)) us (len+m) cap) e ((cs.drop off).take (len*i.size)++ys) ?_ ?_),?_⟩
      ·rw[hsz',List.length_append,hcsl,hyl,←Nat.add_mul];exact Nat.mul_le_mul_right _ hge
      ·have:=grownCells_take (w:=w) (e:=e) (z:=z) (os:=(c.toList.drop (L.base+off)).take (len*i.size)) (us:=us) (need:=len+m) (old:=cap)
       rw[hRR.len]at this
       rw[this]
       exact(Step.drew h).reps hRR
      ·exact rep_moved (k:=i.size) (updR_same (ρ:=ρ) n (v'+1) ⟨w.drew.heap.size,0,(grownCells w e z ((c.toList.drop (L.base+off)).take (len*i.size)) us (len+m) cap).size,i.size⟩) rfl (Nat.le_of_eq hsz'.symm) (by omega) hcm rfl
    ·exact .fail
   ·exact .fail
  ·exact .fail
 ·exact .fail
end
end Go.Am
end
section
namespace Go.Am
open Go
def pureRun {α:Type} (P:Program):Sem α→Option α
 | .pure a=>some a
 | .program k=>pureRun P (k P)
 | .mark _ k=>pureRun P k
 |_=>none
theorem pureRun_ok {α:Type} {P:Program} {e:Sem α} {a:α} (h:pureRun P e=some a) (w:World):e.run P w= .ok a w:=by
 induction e with
 |pure b=>simp[pureRun]at h;subst h;rfl
 |program k ih=>simp only[pureRun]at h;simp only[Sem.run];exact ih P h
 |mark m k ih=>simp only[pureRun]at h;simp only[Sem.run];exact ih h
 |_=>simp[pureRun]at h
mutual
def AV.val? :AV→Option Value
 | .sc v=>some v
 | .ifc t a=>match AV.val? a with |some v=>some (.iface t v) |none=>none
 | .agg l=>match valL? l with |some vs=>some (.agg vs.toArray) |none=>none
 | .tup l=>match valL? l with |some vs=>some (.tuple vs.toArray) |none=>none
 | .fn f l m=>match valL? l,valL? m with |some a,some b=>some (.func f a.toArray b.toArray) |_,_=>none
 | .junk=>none
 | .ptr _ _ _=>none
 | .dptr _=>none
 | .sl _ _ _ _=>none
 | .dsl _ _=>none
 | .mp _ _=>none
def valL? :List AV→Option (List Value)
 | []=>some []
 |a::l=>match AV.val? a,valL? l with |some v,some vs=>some (v::vs) |_,_=>none
end
section
variable {P:Program} {ρ ρ':Inj} {H H':AHp} {O:Nat→Prop} {w w':World} {t:TypeId}
mutual
theorem AV.val_ok:∀(a:AV) (x v:Value),Rep ρ O w a x→a.val? =some v→x=v
 | .sc u,x,v,h,hv=>by cases h;simp[AV.val?]at hv;exact hv
 | .ifc t a,x,v,h,hv=>by
   cases h with
   |ifc r=>
    simp only[AV.val?]at hv
    split at hv
    ·rename_i u hu;cases hv;rw[AV.val_ok a _ u r hu]
    ·cases hv
 | .agg l,x,v,h,hv=>by
   obtain⟨vs,rfl,hr⟩:=Rep.agg_iff.1 h
   simp only[AV.val?]at hv
   split at hv
   ·rename_i us hu;cases hv;rw[←valL_ok l _ us hr hu]
   ·cases hv
 | .tup l,x,v,h,hv=>by
   obtain⟨vs,rfl,hr⟩:=Rep.tup_iff.1 h
   simp only[AV.val?]at hv
   split at hv
   ·rename_i us hu;cases hv;rw[←valL_ok l _ us hr hu]
   ·cases hv
 | .fn f l m,x,v,h,hv=>by
   obtain⟨v1,v2,rfl,hr1,hr2⟩:=Rep.fn_iff.1 h
   simp only[AV.val?]at hv
   split at hv
   ·rename_i us us' hu hu';cases hv;rw[←valL_ok l _ us hr1 hu,←valL_ok m _ us' hr2 hu']
   ·cases hv
 | .junk,_,_,_,hv=>by simp[AV.val?]at hv
 | .ptr _ _ _,_,_,_,hv=>by simp[AV.val?]at hv
 | .dptr _,_,_,_,hv=>by simp[AV.val?]at hv
 | .sl _ _ _ _,_,_,_,hv=>by simp[AV.val?]at hv
 | .dsl _ _,_,_,_,hv=>by simp[AV.val?]at hv
 | .mp _ _,_,_,_,hv=>by simp[AV.val?]at hv
theorem valL_ok:∀(l:List AV) (xs vs:List Value),Reps ρ O w l xs→valL? l=some vs→xs=vs
 | [],xs,vs,h,hv=>by
   simp[valL?]at hv;subst hv
   exact List.eq_nil_of_length_eq_zero (by simpa using h.len)
 |a::l,xs,vs,h,hv=>by
  obtain⟨x,xs',rfl,r,rs⟩:=h.uncons
  simp only[valL?]at hv
  split at hv
  ·rename_i u us hu hus;cases hv;rw[AV.val_ok a _ u r hu,valL_ok l _ us rs hus]
  ·cases hv
end
def aG1 (P:Program) (e:Value→Sem Value) (a:AV):AP AV:=match a.val? with
 |some x=>AP.ofOption ((pureRun P (e x)).map .sc)
 |none=>.fail
def aG2 (P:Program) (e:Value→Value→Sem Value) (a b:AV):AP AV:=match a.val?,b.val? with
 |some x,some y=>AP.ofOption ((pureRun P (e x y)).map .sc)
 |_,_=>.fail
theorem aG1_ok {e:Value→Sem Value} {a:AV} {x:Value} (h:Rel ρ H w) (ha:Rep ρ (own ρ H) w a x):SemOK P (e x) id (aG1 P e a) ρ H w:=by
 unfold aG1
 split
 ·rename_i u hu
  obtain rfl:=AV.val_ok a x u ha hu
  refine SemOK.opt (fun r hr=>?_)
  cases hp:pureRun P (e x)with
  |none=>rw[hp]at hr;cases hr
  |some z=>rw[hp]at hr;cases hr;exact SemOK.ret h (pureRun_ok hp w) (.sc _)
 ·exact .fail
theorem aG2_ok {e:Value→Value→Sem Value} {a b:AV} {x y:Value} (h:Rel ρ H w) (ha:Rep ρ (own ρ H) w a x) (hb:Rep ρ (own ρ H) w b y):SemOK P (e x y) id (aG2 P e a b) ρ H w:=by
 unfold aG2
 split
 ·rename_i u u' hu hu'
  obtain rfl:=AV.val_ok a x u ha hu
  obtain rfl:=AV.val_ok b y u' hb hu'
  refine SemOK.opt (fun r hr=>?_)
  cases hp:pureRun P (e x y)with
  |none=>rw[hp]at hr;cases hr
  |some z=>rw[hp]at hr;cases hr;exact SemOK.ret h (pureRun_ok hp w) (.sc _)
 ·exact .fail
def nonNil:TypeDesc→AV→Bool
 | .pointer _,.ptr _ _ _ | .pointer _,.dptr _=>true
 | .slice _,.sl _ _ _ _ | .slice _,.dsl _ (_::_)=>true
 | .map _ _,.mp _ _=>true
 | .func _ _ _,.fn _ _ _=>true
 | .interface _,.ifc _ _=>true
 |_,_=>false
def isNil:TypeDesc→AV→Bool
 | .pointer _,.sc (.pointer none)=>true
 | .slice _,.sc (.slice none _ _)=>true
 | .map _ _,.sc (.map none)=>true
 | .func _ _ _,.sc .nilFunc=>true
 | .interface _,.sc .nilIface=>true
 |_,_=>false
def isEqOp:BinOp→Bool
 | .eql | .neq=>true
 |_=>false
def isNeOp:BinOp→Bool
 | .neq=>true
 |_=>false
inductive NilPair:TypeDesc→Value→Value→Prop
 |p {e:TypeId} (a:Addr):NilPair (.pointer e) (.pointer (some a)) (.pointer none)
 |s {e:TypeId} (a:Addr) (l c l' c':Nat):NilPair (.slice e) (.slice (some a) l c) (.slice none l' c')
 |m {k e:TypeId} (r:Nat):NilPair (.map k e) (.map (some r)) (.map none)
 |f {ps rs:Array TypeId} {vd:Bool} (fn:Fn) (x y:Array Value):NilPair (.func ps rs vd) (.func fn x y) .nilFunc
 |i {ms:Array (String×TypeId)} (t:TypeId) (v:Value):NilPair (.interface ms) (.iface t v) .nilIface
theorem nilPair_ok {d:TypeDesc} {a b:AV} {x y:Value} (ha:Rep ρ O w a x) (hb:Rep ρ O w b y) (h1:nonNil d a=true) (h2:isNil d b=true):NilPair d x y:=by
 have hy:∃u,b= .sc u∧y=u:=by
  cases b with
  |sc u=>cases hb;exact⟨_,rfl,rfl⟩
  |_=>cases d<;>simp[isNil]at h2
 obtain⟨u,rfl,rfl⟩:=hy
 cases d with
 |pointer e=>
  cases y with
  |pointer p=>
   cases p with
   |none=>cases ha<;>first |exact .p _ |(simp[nonNil]at h1;done)
   |some p=>simp[isNil]at h2
  |_=>simp[isNil]at h2
 |slice e=>
  cases y with
  |slice p l c=>
   cases p with
   |none=>cases ha<;>first |exact .s _ _ _ _ _ |(simp[nonNil]at h1;done)
   |some p=>simp[isNil]at h2
  |_=>simp[isNil]at h2
 |map k e=>
  cases y with
  |map p=>
   cases p with
   |none=>cases ha<;>first |exact .m _ |(simp[nonNil]at h1;done)
   |some p=>simp[isNil]at h2
  |_=>simp[isNil]at h2
 |func ps rs vd=>
  cases y with
  |nilFunc=>cases ha<;>first |exact .f _ _ _ |(simp[nonNil]at h1;done)
  |_=>simp[isNil]at h2
 |interface ms=>
  cases y with
  |nilIface=>cases ha<;>first |exact .i _ _ |(simp[nonNil]at h1;done)
  |_=>simp[isNil]at h2
 |_=>simp[isNil]at h2
theorem nilPair_eq {d:TypeDesc} {x y:Value} (hd:P.underlying t=some d) (h:NilPair d x y) (n:Nat):(Op.equalIn (n+1) t x y).run P w= .ok false w∧(Op.equalIn (n+1) t y x).run P w= .ok false w:=by
 cases h<;>constructor<;>simp[Op.equalIn,run_underlying hd]
theorem nilPair_bin {d:TypeDesc} {x y:Value} (hd:P.underlying t=some d) (h:NilPair d x y) (xo yo:Operand) (op:BinOp) (hop:op= .eql∨op= .neq):
  (do eqGuard op t xo yo x y;binOp op t x y:Sem Value).run P w= .ok (.bool (isNeOp op)) w∧(do eqGuard op t xo yo y x;binOp op t y x:Sem Value).run P w= .ok (.bool (isNeOp op)) w:=by
 obtain⟨h1,h2⟩:=nilPair_eq (w:=w) hd h 9999
 have h1':(Op.equal t x y).run P w= .ok false w:=h1
 have h2':(Op.equal t y x).run P w= .ok false w:=h2
 clear h1 h2
 generalize hE:Op.equal t x y=E1 at h1'
 generalize hE':Op.equal t y x=E2 at h2'
 cases h<;>rcases hop with rfl |rfl<;>constructor<;>simp[eqGuard,binOp,hE,hE',h1',h2',isNeOp]
def aBin (P:Program) (op:BinOp) (t:TypeId) (xo yo:Operand) (a b:AV):AP AV:=
 if isEqOp op=true then match P.underlying t with
  |some d=>if(nonNil d a&&isNil d b)||(isNil d a&&nonNil d b)then .ret (.sc (.bool (isNeOp op)))else aG2 P (fun x y=>do eqGuard op t xo yo x y;binOp op t x y) a b
  |none=>.fail
 else aG2 P (fun x y=>do eqGuard op t xo yo x y;binOp op t x y) a b
theorem aBin_ok {op:BinOp} {xo yo:Operand} {a b:AV} {x y:Value} (h:Rel ρ H w) (ha:Rep ρ (own ρ H) w a x) (hb:Rep ρ (own ρ H) w b y):
  SemOK P (do eqGuard op t xo yo x y;binOp op t x y:Sem Value) id (aBin P op t xo yo a b) ρ H w:=by
 unfold aBin
 split
 ·rename_i hop
  have hop':op= .eql∨op= .neq:=by cases op<;>simp_all[isEqOp]
  split
  ·rename_i d hd
   split
   ·rename_i hn
    simp only[Bool.or_eq_true,Bool.and_eq_true]at hn
    rcases hn with⟨h1,h2⟩ |⟨h1,h2⟩
    ·exact SemOK.ret h (nilPair_bin hd (nilPair_ok ha hb h1 h2) xo yo op hop').1 (.sc _)
    ·exact SemOK.ret h (nilPair_bin hd (nilPair_ok hb ha h2 h1) xo yo op hop').2 (.sc _)
   ·exact aG2_ok (e:=fun x y=>do eqGuard op t xo yo x y;binOp op t x y) h ha hb
  ·exact .fail
 ·exact aG2_ok (e:=fun x y=>do eqGuard op t xo yo x y;binOp op t x y) h ha hb
def aLen (P:Program) (t:TypeId) (x:AV):AP AV:=match P.underlying t,x with
 |some (.slice _),.sl _ _ _ len=>.ret (.sc (.int .i64 len))
 |some (.slice _),.dsl len _=>.ret (.sc (.int .i64 len))
 |some (.map _ _),.mp n ver=>.get n fun
  | .mapo v es _=>if v=ver then .ret (.sc (.int .i64 es.length))else .fail
  |_=>.fail
 |some (.array n _),_=>.ret (.sc (.int .i64 n))
 |_,x=>aG1 P (fun x=>Builtin.len_ #[t] 0 #[x]) x
theorem aLen_ok {ty:TypeId} {x:AV} {v:Value} (h:Rel ρ H w) (hx:Rep ρ (own ρ H) w x v):SemOK P (Builtin.len_ #[t] ty #[v]) id (aLen P t x) ρ H w:=by
 unfold aLen
 split
 ·rename_i e _ _ _ len hu
  cases hx
  exact SemOK.ret h (x:=.int .i64 len) (by simp[Builtin.len_,run_underlying hu,goInt]) (.sc _)
 ·rename_i e len cells hu
  cases hx
  ·exact SemOK.ret h (x:=.int .i64 len) (by simp[Builtin.len_,run_underlying hu,goInt]) (.sc _)
  ·exact SemOK.ret h (x:=.int .i64 len) (by simp[Builtin.len_,run_underlying hu,goInt]) (.sc _)
 ·rename_i k e n ver hu
  refine SemOK.get (fun o ho=>?_)
  split
  ·rename_i v' es clock
   refine SemOK.ite (fun hv=>?_)
   subst hv
   cases hx with
   |mp hL=>
   obtain⟨L',hL',ms,h1,h2,h3⟩:=h.live n _ ho rfl
   have e2:ρ n v'=some L':=hL'
   rw[hL]at e2;cases e2
   exact SemOK.ret h (x:=.int .i64 es.length) (by simp[Builtin.len_,run_underlying hu,goInt,getObj,Sem.run,h1,h2]) (.sc _)
  ·exact .fail
 ·rename_i n e hu
  exact SemOK.ret h (x:=.int .i64 n) (by simp[Builtin.len_,run_underlying hu,goInt]) (.sc _)
 ·exact aG1_ok (e:=fun x=>Builtin.len_ #[t] 0 #[x]) h hx
def aMakeIface (P:Program) (t:TypeId) (x:AV):Option AV:=match P.underlying t with
 |some (.interface _)=>none
 |some _=>some (.ifc t x)
 |none=>none
theorem aMakeIface_ok {x:AV} {v:Value} {a:AV} (hx:Rep ρ O w x v) (h:aMakeIface P t x=some a):∃u,(Instr.makeInterface t v).run P w= .ok u w∧Rep ρ O w a u:=by
 unfold aMakeIface at h
 split at h
 ·cases h
 ·rename_i d hd hu
  cases h
  refine⟨.iface t v,?_,.ifc hx⟩
  cases d<;>simp_all[Instr.makeInterface,underlying]
 ·cases h
def aExtract (x:AV) (i:Nat):Option AV:=match x with
 | .tup l=>l[i]?
 | .sc (.tuple vs)=>(vs[i]?).map .sc
 |_=>none
theorem aExtract_ok {x:AV} {v:Value} {a:AV} {i:Nat} (hx:Rep ρ O w x v) (h:aExtract x i=some a):∃u,(Instr.extract v i).run P w= .ok u w∧Rep ρ O w a u:=by
 unfold aExtract at h
 split at h
 ·obtain⟨vs,rfl,hr⟩:=Rep.tup_iff.1 hx
  obtain⟨u,h1,h2⟩:=hr.get h
  rw[Array.getElem?_toList]at h1
  exact⟨u,by simp[Instr.extract,h1],h2⟩
 ·rename_i vs
  cases hx
  cases hv:vs[i]? with
  |none=>rw[hv]at h;cases h
  |some u=>rw[hv]at h;cases h;exact⟨u,by simp[Instr.extract,hv],.sc _⟩
 ·cases h
def aIndex (P:Program) (t:TypeId) (x i:AV):AP AV:=match P.underlying t,x.parts?,i with
 |some (.array len e),some l,.sc (.int _ i)=>match szOf P e with
  |some k=>if 0≤i∧i<len then AP.ofOption (cellsOut P e (l.drop (i.toNat*k)))else .fail
  |none=>.fail
 |_,_,_=>aG2 P (fun x i=>Instr.index t x i) x i
theorem aIndex_ok {x i:AV} {v u:Value} (h:Rel ρ H w) (hx:Rep ρ (own ρ H) w x v) (hi:Rep ρ (own ρ H) w i u):SemOK P (Instr.index t v u) id (aIndex P t x i) ρ H w:=by
 unfold aIndex
 split
 ·rename_i len e l k i hu hl
  cases hi
  split
  ·rename_i k hk
   refine SemOK.ite (fun hb=>SemOK.opt (fun a ha=>?_))
   obtain⟨cs,rfl,hr⟩:=parts_ok hx hl
   obtain⟨u,h1,h2⟩:=part_ok hr ha
   exact SemOK.ret h (x:=u) (by simp[Instr.index,asIntOf,run_underlying hu,hb.1,hb.2,run_sizeOf' hk,h1]) h2
  ·exact .fail
 ·exact aG2_ok (e:=fun x i=>Instr.index t x i) h hx hi
end
end Go.Am
end
section
namespace Go.Am
open Go
section
variable {P:Program} {ρ ρ':Inj} {H H':AHp} {O:Nat→Prop} {w w':World} {t:TypeId}
def bare (ks:List Value):List MapEntry:=ks.map fun k=>{ key:=k,val:=undef,born:=0 }
theorem findNow_bare {d:TypeDesc} {k:Value}:∀(es:List MapEntry) (i:Nat) {r:Option (Nat×Value)},Instr.findNow d k (bare (es.map (·.key))) i=some r→
  ∃r',Instr.findNow d k es i=some r'∧r'.map (·.1)=r.map (·.1)∧∀j v,r'=some (j,v)→i≤j∧(es[j-i]?).map (·.val)=some v
 | [],i,r,h=>by
   simp[bare,Instr.findNow]at h;subst h;exact⟨none,rfl,rfl,by simp⟩
 |e::es,i,r,h=>by
  simp only[bare,List.map_cons,Instr.findNow]at h ⊢
  cases hs:Instr.sameNow d k e.key with
  |none=>rw[hs]at h;simp at h
  |some b=>
   cases b with
   |true=>
    rw[hs]at h;simp at h;subst h
    exact⟨some (i,e.val),by simp,rfl,fun j v hj=>by cases hj;simp⟩
   |false=>
    rw[hs]at h
    simp only at h
    obtain⟨r',h1,h2,h3⟩:=findNow_bare es (i+1) (r:=r) h
    refine⟨r',by simpa using h1,h2,fun j v hj=>?_⟩
    obtain⟨k1,k2⟩:=h3 j v hj
    refine⟨by omega,?_⟩
    rw[show j-i=(j-(i+1))+1 by omega]
    simpa using k2
theorem findNow_none {d:TypeDesc} {k:Value}:∀(es:List MapEntry) (i:Nat),Instr.findNow d k (bare (es.map (·.key))) i=none→Instr.findNow d k es i=none
 | [],i,h=>by simp[bare,Instr.findNow]at h
 |e::es,i,h=>by
  simp only[bare,List.map_cons,Instr.findNow]at h ⊢
  cases hs:Instr.sameNow d k e.key with
  |none=>rfl
  |some b=>
   cases b with
   |true=>rw[hs]at h;simp at h
   |false=>rw[hs]at h;simp only at h ⊢;exact findNow_none es (i+1) h
theorem pureRun_bind {α β:Type} (e:Sem α) (f:α→Sem β):pureRun P (e >>= f)=(pureRun P e).bind fun a=>pureRun P (f a):=by
 show pureRun P (Sem.bind e f)=_
 induction e with
 |pure a=>rfl
 |program k ih=>simp only[Sem.bind,pureRun];exact ih P
 |mark m k ih=>simp only[Sem.bind,pureRun];exact ih
 |_=>rfl
theorem pureRun_pure {α:Type} (a:α):pureRun P (pure a)=some a:=rfl
theorem findAsking_bare {kt:TypeId} {k:Value}:∀(es:List MapEntry) (i:Nat) {r:Option (Nat×Value)},pureRun P (Instr.findAsking kt k (bare (es.map (·.key))) i)=some r→
  ∃r',(∀w,(Instr.findAsking kt k es i).run P w= .ok r' w)∧r'.map (·.1)=r.map (·.1)∧∀j v,r'=some (j,v)→i≤j∧(es[j-i]?).map (·.val)=some v
 | [],i,r,h=>by
   simp[bare,Instr.findAsking,pureRun_pure]at h;subst h;exact⟨none,fun w=>by simp[Instr.findAsking],rfl,by simp⟩
 |e::es,i,r,h=>by
  simp only[bare,List.map_cons,Instr.findAsking,pureRun_bind]at h
  cases hs:pureRun P (Op.equal kt k e.key)with
  |none=>rw[hs]at h;simp at h
  |some b=>
   rw[hs]at h
   simp only[Option.bind_some]at h
   cases b with
   |true=>
    simp[pureRun_pure]at h;subst h
    exact⟨some (i,e.val),fun w=>by simp[Instr.findAsking,pureRun_ok hs],rfl,fun j v hj=>by cases hj;simp⟩
   |false=>
    simp only[Bool.false_eq_true,if_false]at h
    obtain⟨r',h1,h2,h3⟩:=findAsking_bare es (i+1) (r:=r) h
    refine⟨r',fun w=>by simp[Instr.findAsking,pureRun_ok hs,h1 w],h2,fun j v hj=>?_⟩
    obtain⟨k1,k2⟩:=h3 j v hj
    refine⟨by omega,?_⟩
    rw[show j-i=(j-(i+1))+1 by omega]
    simpa using k2
def keyAt (P:Program) (kt:TypeId) (k:Value) (ks:List Value):Option (Option Nat):=(pureRun P (Instr.findKey kt k (bare ks))).map (·.map (·.1))
theorem keyAt_ok {kt:TypeId} {k:Value} {es:List MapEntry} {r:Option Nat} (h:keyAt P kt k (es.map (·.key))=some r):
  ∃r',(∀w,(Instr.findKey kt k es).run P w= .ok r' w)∧r'.map (·.1)=r∧∀j v,r'=some (j,v)→(es[j]?).map (·.val)=some v:=by
 unfold keyAt at h
 cases hp:pureRun P (Instr.findKey kt k (bare (es.map (·.key))))with
 |none=>rw[hp]at h;cases h
 |some x=>
  rw[hp]at h
  simp only[Option.map_some,Option.some.injEq]at h
  simp only[Instr.findKey,pureRun_bind]at hp
  cases hu:pureRun P (underlying kt)with
  |none=>rw[hu]at hp;simp at hp
  |some d=>
   rw[hu]at hp
   simp only[Option.bind_some]at hp
   cases hn:Instr.findNow d k (bare (es.map (·.key))) 0 with
   |some y=>
    rw[hn]at hp
    simp only[pureRun_pure,Option.some.injEq]at hp
    subst hp
    obtain⟨r',h1,h2,h3⟩:=findNow_bare es 0 hn
    refine⟨r',fun w=>by simp[Instr.findKey,pureRun_ok hu,h1],by rw[h2,h],fun j v hj=>?_⟩
    have:=(h3 j v hj).2
    simpa using this
   |none=>
    rw[hn]at hp
    obtain⟨r',h1,h2,h3⟩:=findAsking_bare (P:=P) es 0 hp
    have hn':=findNow_none es 0 hn
    refine⟨r',fun w=>by simp[Instr.findKey,pureRun_ok hu,hn',h1],by rw[h2,h],fun j v hj=>?_⟩
    have:=(h3 j v hj).2
    simpa using this
theorem Rel.map (h:Rel ρ H w) {n ver clock:Nat} {es:List (Value×AV×Nat)} {L:Loc} (hn:H n=some (.mapo ver es clock)) (hL:ρ n ver=some L):
  ∃ms:Array MapEntry,w.heap[L.block]? =some (.map ms clock)∧ms.toList.map (·.key)=es.map (·.1)∧ms.size=es.length∧∀(i:Nat) (e:Value×AV×Nat) (m:MapEntry),es[i]? =some e→ms[i]? =some m→EntryAt ρ (own ρ H) w e m:=by
 obtain⟨L',hL',ms,h1,h2,h3⟩:=h.live n _ hn rfl
 have e2:ρ n ver=some L':=hL'
 rw[hL]at e2;cases e2
 refine⟨ms,h1,?_,h2,h3⟩
 apply List.ext_getElem?
 intro i
 rw[List.getElem?_map,List.getElem?_map]
 rcases Nat.lt_or_ge i ms.size with hi |hi
 ·have e1:ms.toList[i]? =some ms[i]:=by simp[hi]
  have e3:es[i]? =some es[i]:=List.getElem?_eq_getElem (by omega)
  rw[e1,e3]
  have:=(h3 i es[i] ms[i] e3 (by simp[hi])).1
  simp[this]
 ·rw[List.getElem?_eq_none (by simpa using hi),List.getElem?_eq_none (by omega)]
  rfl
def aMakeMap (r:Option AV):AP AV:=match r with
 |none=>.new (.mapo 0 [] 0) fun n=>.ret (.mp n 0)
 |some (.sc (.int _ _))=>.new (.mapo 0 [] 0) fun n=>.ret (.mp n 0)
 |_=>.fail
theorem aMakeMap_ok {k e:TypeId} {r:Option AV} {vr:Option Value} (hu:P.underlying t=some (.map k e)) (h:Rel ρ H w) (hr:OptRep ρ (own ρ H) w r vr):SemOK P (Instr.makeMap t vr) id (aMakeMap r) ρ H w:=by
 have key:∀(hrun:(Instr.makeMap t vr).run P w= .ok (.map (some w.heap.size)) (w.alloc (.map #[] 0))),SemOK P (Instr.makeMap t vr) id (.new (.mapo 0 [] 0) fun n=>.ret (.mp n 0)) ρ H w:=fun hrun=>
  SemOK.new (fun n hn=>⟨_,_,_,_,rfl,hrun,Step.newMap h hn,Rep.mp (updR_same _ _ _)⟩)
 unfold aMakeMap
 split
 ·cases vr with
  |none=>exact key (by simp[Instr.makeMap])
  |some x=>exact hr.elim
 ·cases vr with
  |none=>exact hr.elim
  |some x=>
   rename_i ik iv
   have hr':Rep ρ (own ρ H) w (.sc (.int ik iv)) x:=hr
   cases hr'
   exact key (by simp[Instr.makeMap,run_underlying hu,asInt,asIntOf])
 ·exact .fail
def aLookup (P:Program) (t:TypeId) (x k:AV) (ok:Bool):AP AV:=match P.underlying t,x,k.val? with
 |some (.map kt et),.mp n ver,some kv=>.get n fun
  | .mapo v es _=>if v=ver∧pureRun P (Instr.checkKey es.isEmpty 10000 kt kv)=some ()then match keyAt P kt kv (es.map (·.1)),zeroOf P et with
    |some (some i),_=>match es[i]? with
     |some e=>.ret (if ok then .tup [e.2.1,.sc (.bool true)]else e.2.1)
     |none=>.fail
    |some none,some z=>.ret (if ok then .tup [.sc z,.sc (.bool false)]else .sc z)
    |_,_=>.fail
    else .fail
  |_=>.fail
 |_,_,_=>.fail
theorem aLookup_ok {x k:AV} {v u:Value} {ok:Bool} (h:Rel ρ H w) (hx:Rep ρ (own ρ H) w x v) (hk:Rep ρ (own ρ H) w k u):SemOK P (Instr.lookup t v u ok) id (aLookup P t x k ok) ρ H w:=by
 unfold aLookup
 split
 ·rename_i kt et n ver kv hu hkv
  obtain rfl:=AV.val_ok k u kv hk hkv
  cases hx with
  |mp hL=>
  rename_i L
  refine SemOK.get (fun o ho=>?_)
  split
  ·rename_i v' es clock
   refine SemOK.ite (fun hc=>?_)
   obtain⟨rfl,hck⟩:=hc
   obtain⟨ms,h1,h2,h3,h4⟩:=h.map ho hL
   have hemp:ms.isEmpty=es.isEmpty:=by
    cases es with
    |nil=>simp at h3;simp[h3]
    |cons e es=>simp at h3;simp[Array.isEmpty];intro h0;rw[h0]at h3;simp at h3
   rw[←h2]
   have hget:(getObj L.block).run P w= .ok (.map ms clock) w:=by simp[getObj,Sem.run,h1]
   have hpk:∀(a b:AV) (c d:Value),Rep ρ (own ρ H) w a c→Rep ρ (own ρ H) w b d→Rep ρ (own ρ H) w (.tup [a,b]) (.tuple #[c,d]):=fun a b c d r1 r2=>Rep.tup_iff.2 ⟨#[c,d],rfl,(Reps.nil.cons r2).cons r1⟩
   split
   ·rename_i i _ hkey
    split
    ·rename_i e he
     obtain⟨r',k1,k2,k3⟩:=keyAt_ok hkey
     cases r' with
     |none=>simp at k2
     |some p=>
      obtain⟨j,val⟩:=p
      simp at k2;subst k2
      have hval:=k3 j val rfl
      rw[Array.getElem?_toList]at hval
      cases hm:ms[j]? with
      |none=>rw[hm]at hval;simp at hval
      |some m=>
       rw[hm]at hval;simp at hval;subst hval
       have hent:=(h4 j e m he hm).2.1
       have hrun:(Instr.lookup t (.map (some L.block)) u ok).run P w= .ok (if ok then .tuple #[m.val,.bool true]else m.val) w:=by
        simp[Instr.lookup,run_underlying hu,hget,hemp,pureRun_ok hck,k1]
       refine SemOK.ret h hrun ?_
       cases ok
       ·exact hent
       ·exact hpk _ _ _ _ hent (.sc _)
    ·exact .fail
   ·rename_i z hkey hz
    obtain⟨r',k1,k2,k3⟩:=keyAt_ok hkey
    cases r' with
    |some p=>simp at k2
    |none=>
     have hrun:(Instr.lookup t (.map (some L.block)) u ok).run P w= .ok (if ok then .tuple #[z,.bool false]else z) w:=by
      simp[Instr.lookup,run_underlying hu,hget,hemp,pureRun_ok hck,k1,run_zeroValue' hz]
     refine SemOK.ret h hrun ?_
     cases ok
     ·exact .sc _
     ·exact hpk _ _ _ _ (.sc _) (.sc _)
   ·exact .fail
  ·exact .fail
 ·exact .fail
def aMapUpdate (P:Program) (t:TypeId) (x k y:AV):AP AV:=match P.underlying t,x,k.val? with
 |some (.map kt _),.mp n ver,some kv=>.get n fun
  | .mapo v es clock=>if v=ver∧pureRun P (Instr.checkKey false 10000 kt kv)=some ()then match keyAt P kt kv (es.map (·.1))with
    |some (some i)=>match es[i]? with
     |some e=>if Instr.sameBits 10000 e.1 kv=true then .set n (.mapo v (es.set i (kv,y,e.2.2)) clock) (.ret (.sc undef))else .fail
     |none=>.fail
    |some none=>.set n (.mapo v (es++[(kv,y,clock)]) (clock+1)) (.ret (.sc undef))
    |_=>.fail
    else .fail
  |_=>.fail
 |_,_,_=>.fail
theorem aMapUpdate_ok {x k y:AV} {v u z:Value} (h:Rel ρ H w) (hx:Rep ρ (own ρ H) w x v) (hk:Rep ρ (own ρ H) w k u) (hy:Rep ρ (own ρ H) w y z):SemOK P (Instr.mapUpdate t v u z) (fun _=>undef) (aMapUpdate P t x k y) ρ H w:=by
 unfold aMapUpdate
 split
 ·rename_i kt et n ver kv hu hkv
  obtain rfl:=AV.val_ok k u kv hk hkv
  cases hx with
  |mp hL=>
  rename_i L
  refine SemOK.get (fun o ho=>?_)
  split
  ·rename_i v' es clock
   refine SemOK.ite (fun hc=>?_)
   obtain⟨rfl,hck⟩:=hc
   obtain⟨ms,h1,h2,h3,h4⟩:=h.map ho hL
   rw[←h2]
   have hget:(getObj L.block).run P w= .ok (.map ms clock) w:=by simp[getObj,Sem.run,h1]
   have hset:∀o,(setObj L.block o).run P w= .ok () { w with heap:=w.heap.setIfInBounds L.block o }:=fun o=>by simp[setObj,Sem.run,h1]
   split
   ·rename_i i hkey
    split
    ·rename_i e he
     refine SemOK.ite (fun hsame=>?_)
     obtain⟨r',k1,k2,k3⟩:=keyAt_ok hkey
     cases r' with
     |none=>simp at k2
     |some p=>
      obtain⟨j,val⟩:=p
      simp at k2;subst k2
      have hj:j<es.length:=(List.getElem?_eq_some_iff.1 he).1
      have hjm:j<ms.size:=by omega
      have hm:ms[j]? =some ms[j]:=by simp[hjm]
      have hent:=h4 j e _ he hm
      have hstay:Instr.keyThatStays (((ms[j]?).map (·.key)).getD u) u=pure u:=by
       rw[hm];simp only[Option.map_some,Option.getD_some]
       rw[hent.1]
       simp[Instr.keyThatStays,hsame]
      refine SemOK.set ⟨(),_,ρ,?_,Step.setMap h ho hL (ms.modify j fun e=>{ e with key:=u,val:=z }) (es.set j (u,y,e.2.2)) clock (by simp;omega) ?_,.sc _⟩
      ·simp only[Instr.mapUpdate,Sem.run_bind,run_underlying hu,Result.andThen_ok,hget,pureRun_ok hck,k1,hstay,Sem.run_pure,hset]
      ·intro i' e' m' he' hm'
       rw[List.getElem?_set]at he'
       rw[Array.getElem?_modify]at hm'
       by_cases hij:j=i'
       ·subst hij
        rw[if_pos rfl,if_pos hj]at he'
        rw[if_pos rfl,hm]at hm'
        simp at he' hm'
        subst he' hm'
        exact⟨rfl,hy,hent.2.2⟩
       ·rw[if_neg hij]at he' hm'
        exact h4 i' e' m' he' hm'
    ·exact .fail
   ·rename_i hkey
    obtain⟨r',k1,k2,k3⟩:=keyAt_ok hkey
    cases r' with
    |some p=>simp at k2
    |none=>
     refine SemOK.set ⟨(),_,ρ,?_,Step.setMap h ho hL (ms.push { key:=u,val:=z,born:=clock }) (es++[(u,y,clock)]) (clock+1) (by simp;omega) ?_,.sc _⟩
     ·simp only[Instr.mapUpdate,Sem.run_bind,run_underlying hu,Result.andThen_ok,hget,pureRun_ok hck,k1,hset]
     ·intro i' e' m' he' hm'
      rcases Nat.lt_trichotomy i' es.length with hlt |heq |hgt
      ·rw[List.getElem?_append_left hlt]at he'
       rw[Array.getElem?_push_lt (by omega)]at hm'
       exact h4 i' e' m' he' (by rw[←hm'];simp)
      ·subst heq
       rw[List.getElem?_append_right (Nat.le_refl _)]at he'
       rw[←h3,Array.getElem?_push_size]at hm'
       simp at he' hm'
       subst he' hm'
       exact⟨rfl,hy,rfl⟩
      ·rw[List.getElem?_eq_none (by simp;omega)]at he';cases he'
   ·exact .fail
  ·exact .fail
 ·exact .fail
theorem places_ok:∀(fs:List Field) (ps:List (Nat×Nat)),placesOf P fs=some ps→(fs.mapM (fun f=>do pure (f.offset,←sizeOf f.type)):Sem (List (Nat×Nat))).run P w= .ok ps w
 | [],ps,h=>by simp[placesOf]at h;subst h;simp
 |f::fs,ps,h=>by
  simp only[placesOf]at h
  split at h
  ·rename_i k qs hk hq
   cases h
   have ih:=places_ok fs qs hq
   simp only[List.mapM_cons,Sem.run_bind,run_sizeOf' hk,Result.andThen_ok,Sem.run_pure,ih]
  ·cases h
theorem aBuild_ok {parts:List (Nat×AV)} {vparts:Array (Nat×Value)} {a:AV} (hi:parts.map (·.1)=vparts.toList.map (·.1)) (hr:Reps ρ O w (parts.map (·.2)) (vparts.toList.map (·.2))) (h:aBuild P t parts=some a):
  ∃u,(Instr.build t vparts).run P w= .ok u w∧Rep ρ O w a u:=by
 unfold aBuild at h
 have hzc:∀z,zeroCellsOf P t=some z→∃zv,zeroOf P t=some zv∧z=zv.cells.toList.map .sc:=fun z hz=>by
  unfold zeroCellsOf at hz
  cases hz0:zeroOf P t with
  |none=>rw[hz0]at hz;cases hz
  |some zv=>rw[hz0]at hz;simp at hz;exact⟨zv,rfl,hz.symm⟩
 split at h
 ·rename_i z fields hz hu
  split at h
  ·rename_i ps hps
   obtain⟨zv,hzv,rfl⟩:=hzc z hz
   cases hf:aFill (fun i=>ps[i]?) (zv.cells.toList.map .sc) parts with
   |none=>rw[hf]at h;cases h
   |some out=>
    rw[hf]at h;cases h
    obtain⟨c',h1,h2⟩:=aFill_ok parts vparts.toList _ zv.cells out hi hr (Reps.scs _) hf
    refine⟨.agg c',?_,Rep.agg_iff.2 ⟨c',rfl,h2⟩⟩
    have hm:(fields.mapM (fun f=>do pure (f.offset,←sizeOf f.type)):Sem (Array (Nat×Nat))).run P w= .ok ps.toArray w:=by
     have e:fields=fields.toList.toArray:=by simp
     rw[e,List.mapM_toArray]
     simp only[Sem.run_map,places_ok _ _ hps,Result.andThen_ok]
    simp only[Instr.build,Sem.run_bind,run_zeroValue' hzv,Result.andThen_ok,run_underlying hu,hm]
    have e2:(fun i:Nat=>(ps.toArray)[i]?)=fun i:Nat=>ps[i]? :=by funext i;simp
    rw[e2,h1]
    rfl
  ·cases h
 ·rename_i z len e hz hu
  split at h
  ·rename_i k hk
   obtain⟨zv,hzv,rfl⟩:=hzc z hz
   cases hf:aFill (fun i=>some (i*k,k)) (zv.cells.toList.map .sc) parts with
   |none=>rw[hf]at h;cases h
   |some out=>
    rw[hf]at h;cases h
    obtain⟨c',h1,h2⟩:=aFill_ok parts vparts.toList _ zv.cells out hi hr (Reps.scs _) hf
    refine⟨.agg c',?_,Rep.agg_iff.2 ⟨c',rfl,h2⟩⟩
    simp only[Instr.build,Sem.run_bind,run_zeroValue' hzv,Result.andThen_ok,run_underlying hu,run_sizeOf' hk,h1]
    rfl
  ·cases h
 ·cases h
def aCopy (P:Program) (t:TypeId) (d x:AV):AP AV:=match P.underlying t with
 |some (.slice e)=>match szOf P e with
  |some k=>aSrc k x fun ys m=>match d with
   | .sl n ver off len=>.get n fun
     | .row v esz cs=>if v=ver∧off+(min m len)*k≤cs.length∧ys.all AV.one=true then
       .set n (.row v esz (putCells cs off (ys.take ((min m len)*k)))) (.ret (.sc (.int .i64 (min m len:Nat))))else .fail
     |_=>.fail
   |_=>.fail
  |none=>.fail
 |_=>.fail
theorem aCopy_ok {x d:AV} {t2 ty:TypeId} {v u:Value} (h:Rel ρ H w) (hd:Rep ρ (own ρ H) w d v) (hx:Rep ρ (own ρ H) w x u):SemOK P (Builtin.copy_ #[t,t2] ty #[v,u]) id (aCopy P t d x) ρ H w:=by
 unfold aCopy
 split
 ·rename_i e hu
  split
  ·rename_i k hk
   refine aSrc_ok h hx (fun ys m us hsrc=>?_)
   split
   ·rename_i n ver off len
    refine SemOK.get (fun o ho=>?_)
    split
    ·rename_i v' esz cs
     refine SemOK.ite (fun hc=>?_)
     obtain⟨rfl,hle,hone⟩:=hc
     cases hd with
     |sl hL h2 h3 h4=>
     rename_i L cap
     obtain⟨L',hL',he,c,ty',hc,hsz,hlen,hr⟩:=h.live n _ ho rfl
     have e2:ρ n v'=some L':=hL'
     rw[hL]at e2;cases e2
     have hcl:c.toList.length=c.size:=by simp
     have hR2:=hsrc.reps.take (min m len*k)
     have h1:=hsrc.reps.one hone
     have hmk:min m len*k≤m*k:=Nat.mul_le_mul_right _ (Nat.min_le_left _ _)
     have hul:(us.take (min m len*k)).length=min m len*k:=by rw[List.length_take,hsrc.ulen];omega
     have hyl:(ys.take (min m len*k)).length=min m len*k:=by rw[←hR2.len,hul]
     have hst:=run_storeCells_at P L.block (L.base+off) ty' (us.take (min m len*k)) 0 c w hc (by omega) (fun u hu=>h1 u (List.mem_of_mem_take hu))
     have hf:=hsrc.cells w rfl (min m len) (Nat.min_le_left _ _)
     have hwin:=window_put c.toList (us.take (min m len*k)) L.base off cs.length (by omega) (by omega)
     have hput:=hr.put hR2 off (by omega)
     rw[←hwin]at hput
     have hXl:(c.toList.take (L.base+off)++us.take (min m len*k)++c.toList.drop (L.base+off+(us.take (min m len*k)).length)).length=c.size:=by
      simp only[List.length_append,List.length_take,List.length_drop,hcl]
      rw[List.length_take]at hul
      omega
     simp only[Nat.add_zero]at hst
     generalize c.toList.take (L.base+off)++us.take (min m len*k)++c.toList.drop (L.base+off+(us.take (min m len*k)).length)=X at hst hXl hput
     have hpl:(putCells cs off (ys.take (min m len*k))).length=cs.length:=putCells_len off _ (by omega)
     refine SemOK.set ⟨.int .i64 (min m len:Nat),_,ρ,?_,Step.setRow h ho hL hc X.toArray _ (by simpa using hXl) (by rw[hpl];exact hlen) (by rw[hpl];exact hput),.sc _⟩
     have hnm:Nat.min m len=min m len:=rfl
     simp[Builtin.copy_,run_underlying hu,hsrc.len,run_sizeOf' hk,goInt,hnm,hf,hst]
    ·exact .fail
   ·exact .fail
  ·exact .fail
 ·exact .fail
end
end Go.Am
end
