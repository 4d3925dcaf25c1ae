import Derived.Test.YtdcomhdadnhpnaaYZM9
import Derived.Test.YtdcomhdadnhpnaaYZM6
import Derived.OpenShut
import Derived.Carry
import Derived.DataShut
import Derived.Test.YtdcomhdadnhpnaaRows
import Derived.WalkKit
import Derived.ProofKit
set_option linter.all false
section
namespace Go.Proofs.Ytdcomhdadnhpnaa
open Go Go.Am Go.RowKit
abbrev ints (l:List Int):List AV:=l.map fun x=>.sc (.int .i64 x)
def intsOf:List AV→Option (List Int)
 | []=>some []
 | .sc (.int .i64 x)::t=>(intsOf t).map (x:: ·)
 |_=>none
theorem intsOf_ints (l:List Int):intsOf (ints l)=some l:=by
 induction l with
 |nil=>rfl
 |cons x l ih=>show(intsOf (ints l)).map (x:: ·)=_;rw[ih];rfl
theorem intsOf_some:∀ {cs:List AV} {l:List Int},intsOf cs=some l→cs=ints l
 | [],l,h=>by cases h;rfl
 |a::t,l,h=>by
  unfold intsOf at h
  split at h
  ·rename_i e;cases e
  ·rename_i x t' e
   cases e
   cases hk:intsOf t with
   |none=>rw[hk]at h;cases h
   |some m=>rw[hk]at h;cases h;rw[intsOf_some hk];rfl
  ·cases h
def rdK (a:AV) (k:List Int→AP AV):AP AV:=match a with
 | .dsl len cells=>match intsOf cells with
   |some l=>if l.length=len then k l else .fail
   |none=>.fail
 | .sl n ver off len=>.get n fun o=>match o with
   | .row ver' 1 cs=>match intsOf ((cs.drop off).take len)with
     |some l=>if l.length=len∧ver'=ver then k l else .fail
     |none=>.fail
   |_=>.fail
 | .sc (.slice none 0 0)=>k []
 |_=>.fail
theorem rdK_dsl (l:List Int) (k:List Int→AP AV):rdK (.dsl l.length (ints l)) k=k l:=by
 unfold rdK;simp only[intsOf_ints,if_true]
section
variable {ρ:Inj} {H H':AHp} {w w':World}
theorem step_of_below (h:Rel ρ H w) (hb:Below w.heap.size w w'):Step ρ H w ρ H w':=by
 refine⟨fun _ _ _ h=>h,hb.size,fun _ h=>.inl h,fun b hlt _=>hb.block b hlt,hb.os,hb.tape,hb.output,⟨fun n o hn hl=>?_,h.dom,h.inj,h.fin⟩⟩
 obtain⟨L,h1,h2⟩:=h.live n o hn hl
 exact⟨L,h1,ObjAt.last (w:=w) (w':=w') (fun _ _ _ h=>h) hb.size (fun _ h=>.inl h) (fun b hlt _=>hb.block b hlt) (hb.block _ (h.block_lt hn hl h1)) h2⟩
theorem holds_ints {b off:Nat} {l:List Int} (h:Holds w b off (l.map (Value.int .i64))) (i:Nat) (hi:i<l.length):w.cell? ⟨b,off+i,none⟩=some (.int .i64 (ati l i)):=
 h i _ (by rw[List.getElem?_map];unfold ati;simp[hi])
theorem reps_ints {O:Nat→Prop} {vs:List Value}:∀ {l:List Int},Reps ρ O w (ints l) vs→vs=l.map (Value.int .i64):=by
 intro l
 induction l generalizing vs with
 |nil=>intro h;have:=h.len;simpa using this
 |cons x l ih=>
  intro h
  obtain⟨y,ys,rfl,h1,h2⟩:=Reps.uncons h
  rw[Rep.sc_iff.1 h1,ih h2];rfl
theorem rdK_ok {a r:AV} {v:Value} {k:List Int→AP AV} {s s':Nat} (h:Rel ρ H w) (hr:Rep ρ (own ρ H) w a v) (hm:(rdK a k).run H s=some (r,H',s')):
  ∃l A c,v= .slice A l.length c∧RdL w A l∧l.length≤c∧(k l).run H s=some (r,H',s'):=by
 cases hr with
 |sc v=>
  unfold rdK at hm
  split at hm
  ·rename_i e;cases e
  ·rename_i e;cases e
  ·rename_i e;cases e
   exact⟨[],none,0,rfl,⟨fun h=>absurd h (by simp)⟩,Nat.le_refl _,hm⟩
  ·simp[AP.run]at hm
 |dnil hl=>
  rename_i len cap A
  unfold rdK at hm
  simp only[intsOf]at hm
  split at hm
  ·rename_i e
   subst e
   exact⟨[],A,cap,rfl,⟨fun h=>absurd h (by simp)⟩,by simp,hm⟩
  ·simp[AP.run]at hm
 |dsl hcap ho hb hl hc hrr=>
  rename_i len b off cap cells vs
  unfold rdK at hm
  simp only at hm
  cases hi:intsOf cells with
  |none=>rw[hi]at hm;simp[AP.run]at hm
  |some l=>
   rw[hi]at hm
   simp only at hm
   split at hm
   ·rename_i e
    obtain rfl:=intsOf_some hi
    have hv:=reps_ints (ρ:=ρ) (O:=own ρ H) (w:=w) (vs:=vs) ⟨hl,hrr⟩
    subst hv
    subst e
    exact⟨l,_,cap,rfl,⟨fun _=>⟨b,off,rfl,hb,fun i hi2=>holds_ints hc i hi2⟩⟩,hcap,hm⟩
   ·simp[AP.run]at hm
 |sl hL hroom hle hmx=>
  rename_i n ver off len L cap
  unfold rdK at hm
  simp only[AP.run]at hm
  split at hm
  ·rename_i o ho
   cases o with
   |row ver' esz cs=>
    split at hm
    ·rename_i v2 cs2 e
     injection e with e1 e2 e3
     subst e1;subst e2;subst e3
     cases hi:intsOf ((cs.drop off).take len)with
     |none=>rw[hi]at hm;simp[AP.run]at hm
     |some l=>
      rw[hi]at hm
      simp only at hm
      split at hm
      ·rename_i e
       obtain⟨e1,e2⟩:=e
       subst e2
       obtain⟨L',h1,h2⟩:=h.live n _ ho rfl
       have h1':ρ n ver'=some L':=h1
       rw[hL]at h1';cases h1'
       obtain⟨hes,c,t,hh,hsz,hcl,hreps⟩:=h2
       have hsub:=(hreps.drop off).take len
       rw[intsOf_some hi]at hsub
       have hv:=reps_ints hsub
       refine⟨l,some ⟨L.block,L.base+off,none⟩,cap,by rw[e1],⟨fun _=>⟨L.block,L.base+off,rfl,(Array.getElem?_eq_some_iff.1 hh).1,fun i hi2=>?_⟩⟩,by omega,hm⟩
       have hg:=congrArg (fun z=>z[i]?) hv
       rw[List.getElem?_take,if_pos (by omega),List.getElem?_drop,List.getElem?_take]at hg
       have hlt:off+i<cs.length:=by
        have:=congrArg List.length (intsOf_some hi)
        rw[List.length_take,List.length_drop,List.length_map]at this
        omega
       rw[if_pos hlt,List.getElem?_drop,List.getElem?_map]at hg
       rw[cell_of_heap hh]
       have e3:c[L.base+off+i]? =some (.int .i64 (ati l i)):=by
        rw[←Array.getElem?_toList,Nat.add_assoc,hg]
        unfold ati;simp[hi2]
       exact e3
      ·simp[AP.run]at hm
    ·simp[AP.run]at hm
   |mapo _ _ _=>simp[AP.run]at hm
   |dead _=>simp[AP.run]at hm
  ·cases hm
 |junk=>simp[rdK,AP.run]at hm
 |ptr _=>simp[rdK,AP.run]at hm
 |dptr _ _ _ _ _=>simp[rdK,AP.run]at hm
 |mp _=>simp[rdK,AP.run]at hm
 |fn _ _ _ _=>simp[rdK,AP.run]at hm
 |ifc _=>simp[rdK,AP.run]at hm
 |agg _ _=>simp[rdK,AP.run]at hm
 |tup _ _=>simp[rdK,AP.run]at hm
theorem rep_int {O:Nat→Prop} (l:List Int) (i:Nat) (a:AV) (x:Value) (ha:(ints l)[i]? =some a) (hx:(l.map (Value.int .i64))[i]? =some x):Rep ρ O w a x:=by
 rw[List.getElem?_map]at ha hx
 cases hl:l[i]? with
 |none=>rw[hl]at ha;cases ha
 |some y=>rw[hl]at ha hx;cases ha;cases hx;exact .sc _
theorem rep_own {O:Nat→Prop} {base:Nat} {v:Value} {l:List Int} (h:w.ownsRow base 3 1 v l.length (l.map (Value.int .i64))) (hno:∀b,O b→b<base):Rep ρ O w (.dsl l.length (ints l)) v:=by
 have hcs:=fun g hg=>h.cells (g:=g) hg
 rcases h.2 with⟨rfl,h0⟩ |⟨g,c,cur,rfl,hb,hg,hle,_⟩
 ·obtain rfl:l=[]:=List.length_eq_zero_iff.1 h0
  exact .dnil (Nat.le_refl _)
 ·refine .dsl hle (fun h=>by have:=hno g h;omega) (lt_heap hg) (by simp) (fun i x hx=>?_) (rep_int l)
  have:=hcs g rfl i x hx
  rwa[addr_add]at this
theorem rep_rw {O:Nat→Prop} {base B cap:Nat} {l:List Int} (h:Rw base w B cap l) (hno:∀b,O b→b<base):Rep ρ O w (.dsl l.length (ints l)) (.slice (some ⟨B,0,none⟩) l.length cap):=rep_own h.own hno
end
def tabN (l:List Int):Nat:=(ati l 0).toNat
open Classical in
noncomputable def tabC (l:List Int):Nat→List Nat:=if h:ValidL l then(validL_g h).choose else fun _=>[]
theorem tab_g {l:List Int} (h:ValidL l):G l (tabN l) (bkts (tabN l)) (tabC l):=by
 unfold tabC;rw[dif_pos h];exact(validL_g h).choose_spec
theorem tab_n {l:List Int} {n:Nat} (h:HeadOk l n):tabN l=n:=by have:=h.n0;unfold tabN;omega
theorem tab_h {l:List Int} (h:ValidL l):HeadOk l (tabN l):=h.head
theorem tab_c {l:List Int} {n:Nat} {C:Nat→List Nat} (hH:HeadOk l n) (g:G l n (bkts n) C) {i:Nat} (hi:i<bkts n):tabC l i=C i:=by
 have hV:=g_validL hH g
 have h:=tab_g hV
 rw[tab_n hH]at h
 exact h.det g hi
theorem addR_congr {l:List Int} {n:Nat} {C D:Nat→List Nat} {h x:Int} (e:∀i,i<bkts n→C i=D i):addR l n C h x=addR l n D h x:=by
 have h8:=bkts8 n
 have hp:=pow2_pos (bkts n)
 have h1:=e _ (bkt_lt h.toNat (b:=bkts n) (by omega))
 have h2:addC l n C h (bkts n-pow2 (bkts n))=addC l n D h (bkts n-pow2 (bkts n)):=by unfold addC;rw[e _ (by omega)]
 unfold addR
 rw[h1,h2]
open Classical in
/-- what Add returns: a number,the words,and why not -/
noncomputable def addF (l:List Int) (h x:Int):Int×List Int×Int:=
 if ¬ValidL l then(0,[],600)else if ¬(0≤h∧h≤2147483647)then(0,[],1)
 else((addR l (tabN l) (tabC l) h x).1,if(addR l (tabN l) (tabC l) h x).2.1=0 then(addR l (tabN l) (tabC l) h x).2.2 else [],(addR l (tabN l) (tabC l) h x).2.1)
theorem addF_eq {l:List Int} {h x k:Int} {l':List Int} {c:Int} (q:AddQ l h x k l' c):addF l h x=(k,l',c):=by
 unfold addF
 rcases q with⟨h1,rfl,rfl,rfl⟩ |⟨h1,h2,rfl,rfl,rfl⟩ |⟨h1,h2,n,C,hH,g,e1,e2,e3,e4⟩
 ·rw[if_pos h1]
 ·rw[if_neg (by simpa using h1),if_pos h2]
 ·rw[if_neg (by simpa using h1),if_neg (by simpa using h2),tab_n hH,addR_congr (D:=C) (fun i hi=>tab_c hH g hi),←e1,←e2]
  by_cases hc:c=0
  ·rw[if_pos hc,e3 hc]
  ·rw[if_neg hc,e4 hc]
theorem addF_ok {l:List Int} {h x:Int} (hV:ValidL l) (hh:0≤h∧h≤2147483647):addF l h x=((addR l (tabN l) (tabC l) h x).1,if(addR l (tabN l) (tabC l) h x).2.1=0 then(addR l (tabN l) (tabC l) h x).2.2 else [],(addR l (tabN l) (tabC l) h x).2.1):=by
 unfold addF;rw[if_neg (by simpa using hV),if_neg (by simpa using hh)]
open Classical in
noncomputable def findF (l:List Int) (h:Int):List Int×Int×Int:=
 if ¬ValidL l then([],0,600)else if ¬(0≤h∧h≤2147483647)then([],0,1)
 else(outL l h (tabC l (bkt h.toNat (bkts (tabN l)))),(min (tabC l (bkt h.toNat (bkts (tabN l)))).length ((preR l h (tabC l (bkt h.toNat (bkts (tabN l))))).length+1):Nat),0)
open Classical in
/-- what Drop returns -/
noncomputable def dropF (l:List Int) (h x:Int):Int×List Int×Int:=
 if q:∃r:Int×List Int×Int,DropQ l h x r.1 r.2.1 r.2.2 then q.choose else(0,[],0)
theorem split_uni {α:Type} {p:α→Prop}:∀ {a a' b b':List α} {r r':α},a++r::b=a'++r'::b'→p r→p r'→(∀s∈a,¬p s)→(∀s∈a',¬p s)→a=a'∧r=r'∧b=b'
 | [],[],_,_,_,_,h,_,_,_,_=>by simp at h;exact⟨rfl,h.1,h.2⟩
 | [],x::a',_,_,r,_,h,h1,_,_,h4=>by
   simp only[List.nil_append,List.cons_append,List.cons.injEq]at h
   exact absurd h1 (h4 r (by rw[h.1];simp))
 |x::a,[],_,_,_,r',h,_,h2,h3,_=>by
  simp only[List.nil_append,List.cons_append,List.cons.injEq]at h
  exact absurd h2 (h3 r' (by rw[←h.1];simp))
 |x::a,y::a',_,_,_,_,h,h1,h2,h3,h4=>by
  simp only[List.cons_append,List.cons.injEq]at h
  obtain⟨rfl,h⟩:=h
  obtain⟨e1,e2,e3⟩:=split_uni h h1 h2 (fun s hs=>h3 s (by simp[hs])) (fun s hs=>h4 s (by simp[hs]))
  exact⟨by rw[e1],e2,e3⟩
theorem split_nodup {a a' b b':List Nat} {r:Nat} (h:a++r::b=a'++r::b') (hn:(a++r::b).Nodup):a=a'∧b=b':=by
 have hn':=hn
 rw[h]at hn'
 have h1:=(List.nodup_cons.1 (List.perm_middle.nodup_iff.1 hn)).1
 have h2:=(List.nodup_cons.1 (List.perm_middle.nodup_iff.1 hn')).1
 have:=split_uni (p:=fun s=>s=r) h rfl rfl (fun s hs e=>h1 (by subst e;simp[hs])) (fun s hs e=>h2 (by subst e;simp[hs]))
 exact⟨this.1,this.2.2⟩
theorem dropS_uni {l:List Int} {n:Nat} {C D:Nat→List Nat} {h x:Int} {k k':Nat} {l1 l2:List Int} {C1 C2:Nat→List Nat} (g:G l n (bkts n) C) (g':G l n (bkts n) D) (h1:DropS l n C h x k l1 C1) (h2:DropS l n D h x k' l2 C2):k=k'∧l1=l2:=by
 have h8:=bkts8 n
 have hi:bkt h.toNat (bkts n)<bkts n:=bkt_lt _ (by omega)
 obtain⟨pre,r,post,k1,m1,E1,k2,m2,hC,hh,hp,hM,hJ,rfl,rfl⟩:=h1
 obtain⟨pre',r',post',k1',m1',E1',k2',m2',hC',hh',hp',hM',hJ',rfl,rfl⟩:=h2
 have hCD:=hC
 rw[g.det g' hi,hC']at hCD
 obtain⟨rfl,rfl,rfl⟩:=split_uni (p:=hits l h x) hCD hh' hh hp' hp
 have g1:=g.gs.rem hi hC
 have g1':=g'.gs.rem hi hC'
 have hrn:r'<n:=g.lt hi (by rw[hC];simp)
 have hs1:=g1.move hrn hM
 have key:k1=k1'∧m1=m1'∧∀i,i<bkts n→E1 i=E1' i:=by
  have hCC:∀i,i<bkts n→(if i=bkt h.toNat (bkts n)then pre'++post' else C i)=(if i=bkt h.toNat (bkts n)then pre'++post' else D i):=fun i hi=>by rw[g.det g' hi]
  rcases hM with⟨e,rfl,rfl,rfl⟩ |⟨e,a,b,hA,rfl,rfl,rfl⟩
  ·rcases hM' with⟨_,rfl,rfl,rfl⟩ |⟨e',_⟩
   ·exact⟨rfl,rfl,hCC⟩
   ·exact absurd e e'
  ·rcases hM' with⟨e',_⟩ |⟨_,a',b',hA',rfl,rfl,rfl⟩
   ·exact absurd e' e
   ·have hj:bkt (ati (remL l (endp (headAt (bkt h.toNat (bkts n))) pre') r') (recAt (n-1))).toNat (bkts n)<bkts n:=bkt_lt _ (by omega)
    have hE:=hA
    dsimp only at hE hA'
    rw[hCC _ hj,hA']at hE
    have hnd:=g1'.nd _ hj
    rw[hA']at hnd
    obtain⟨rfl,rfl⟩:=split_nodup hE hnd
    exact⟨rfl,rfl,fun i hi=>by dsimp only;rw[hCC i hi]⟩
 obtain⟨rfl,rfl,hE⟩:=key
 rcases hJ with⟨e,rfl,rfl,rfl⟩ |⟨e,rfl,rfl,rfl⟩
 ·rcases hJ' with⟨_,rfl,rfl,rfl⟩ |⟨e',_⟩
  ·exact⟨rfl,rfl⟩
  ·exact absurd e' e
 ·rcases hJ' with⟨e',_⟩ |⟨_,rfl,rfl,rfl⟩
  ·exact absurd e e'
  ·have hp:=pow2_pos (bkts n-1)
   rw[hE _ (show bkts n-1-pow2 (bkts n-1)<bkts n by omega),hE _ (show bkts n-1<bkts n by omega)]
   exact⟨rfl,rfl⟩
theorem dropQ_uni {l:List Int} {h x k k':Int} {l1 l2:List Int} {c c':Int} (q:DropQ l h x k l1 c) (q':DropQ l h x k' l2 c'):k=k'∧l1=l2∧c=c':=by
 rcases q with⟨h1,rfl,rfl,rfl⟩ |⟨h1,h2,rfl,rfl,rfl⟩ |⟨h1,h2,n,C,hH,g,q⟩
 ·rcases q' with⟨_,rfl,rfl,rfl⟩ |⟨h3,_⟩ |⟨h3,_⟩
  ·exact⟨rfl,rfl,rfl⟩
  ·exact absurd h3 h1
  ·exact absurd h3 h1
 ·rcases q' with⟨h3,_⟩ |⟨_,_,rfl,rfl,rfl⟩ |⟨_,h3,_⟩
  ·exact absurd h1 h3
  ·exact⟨rfl,rfl,rfl⟩
  ·exact absurd h3 h2
 ·rcases q' with⟨h3,_⟩ |⟨_,h3,_⟩ |⟨_,_,n',C',hH',g',q'⟩
  ·exact absurd h1 h3
  ·exact absurd h2 h3
  ·obtain rfl:=hH.same hH'
   have hi:bkt h.toNat (bkts n)<bkts n:=bkt_lt _ (by have:=bkts8 n;omega)
   have hCC:=g.det g' hi
   rcases q with⟨e1,rfl,rfl,rfl⟩ |⟨rfl,m,D,rfl,e1⟩
   ·rcases q' with⟨_,rfl,rfl,rfl⟩ |⟨rfl,m',D',rfl,e2⟩
    ·exact⟨rfl,rfl,rfl⟩
    ·obtain⟨pre,r,post,_,_,_,_,_,hC,hh,_⟩:=e2
     rw[hCC,hC]at e1
     unfold hasR at e1
     rw[List.any_eq_false]at e1
     exact absurd (decide_eq_true (show _∧_ from hh)) (e1 r (by simp))
   ·rcases q' with⟨e2,rfl,rfl,rfl⟩ |⟨rfl,m',D',rfl,e2⟩
    ·obtain⟨pre,r,post,_,_,_,_,_,hC,hh,_⟩:=e1
     rw[←hCC,hC]at e2
     unfold hasR at e2
     rw[List.any_eq_false]at e2
     exact absurd (decide_eq_true (show _∧_ from hh)) (e2 r (by simp))
    ·obtain⟨rfl,rfl⟩:=dropS_uni g g' e1 e2
     exact⟨rfl,rfl,rfl⟩
theorem dropF_eq {l:List Int} {h x k:Int} {l':List Int} {c:Int} (q:DropQ l h x k l' c):dropF l h x=(k,l',c):=by
 have hex:∃r:Int×List Int×Int,DropQ l h x r.1 r.2.1 r.2.2:=⟨(k,l',c),q⟩
 have hs:=hex.choose_spec
 have e:dropF l h x=hex.choose:=by unfold dropF;rw[dif_pos hex]
 rw[e]
 obtain⟨e1,e2,e3⟩:=dropQ_uni hs q
 exact Prod.ext e1 (Prod.ext e2 e3)
noncomputable def chainsF (l:List Int):List (List Int):=(List.range (bkts (tabN l))).map (fun i=>(tabC l i).map (fun r:Nat=>(r:Int)))
end Go.Proofs.Ytdcomhdadnhpnaa
end
section
namespace Go.Proofs.Ytdcomhdadnhpnaa
open Go Go.Am Go.RowKit
def c15:List AV→AP AV
 | []=>.ret (.sc (.bool true))
 |_=>.fail
def c16:List AV→AP AV
 | [.sc (.int .i64 n)]=>.ret (.tup [.sc (.int .i64 (if n<0∨n>100000 then 0 else(bkts n.toNat:Nat))),.sc (.int .i64 (if n<0∨n>100000 then 1 else 0))])
 |_=>.fail
def c17:List AV→AP AV
 | [.sc (.int .i64 n)]=>.ret (.tup [.sc (.int .i64 (if n<0∨n>100000 then 0 else(wlen n.toNat:Nat))),.sc (.int .i64 (if n<0∨n>100000 then 1 else 0))])
 |_=>.fail
def c21:List AV→AP AV
 | [.sc (.int .i64 h)]=>.ret (.sc (.bool (decide (0≤h∧h≤2147483647))))
 |_=>.fail
def c23:List AV→AP AV
 | []=>.ret (.dsl freshL.length (ints freshL))
 |_=>.fail
noncomputable def c24:List AV→AP AV
 | [t,.sc (.int .i64 h),.sc (.int .i64 x)]=>rdK t fun l=>.ret (.tup [.dsl (addF l h x).2.1.length (ints (addF l h x).2.1),.sc (.int .i64 (addF l h x).1),.sc (.int .i64 (addF l h x).2.2)])
 |_=>.fail
noncomputable def c27:List AV→AP AV
 | [t,.sc (.int .i64 h),.sc (.int .i64 x)]=>rdK t fun l=>.ret (.tup [.dsl (dropF l h x).2.1.length (ints (dropF l h x).2.1),.sc (.int .i64 (dropF l h x).1),.sc (.int .i64 (dropF l h x).2.2)])
 |_=>.fail
noncomputable def c26:List AV→AP AV
 | [t,.sc (.int .i64 h)]=>rdK t fun l=>.ret (.tup [.dsl (findF l h).1.length (ints (findF l h).1),.sc (.int .i64 (findF l h).2.1),.sc (.int .i64 (findF l h).2.2)])
 |_=>.fail
def c36:List AV→AP AV
 | [a,b]=>rdK a fun l=>rdK b fun m=>if l.length≤1000000000∧m.length≤1000000000 then .ret (.sc (.bool (decide (l=m))))else .fail
 |_=>.fail
def rowsA (L:List (List Int)):List AV:=L.map fun l=>.dsl l.length (ints l)
open Classical in
noncomputable def c25:List AV→AP AV
 | [t]=>rdK t fun l=>if ValidL l then .ret (.tup [.dsl (chainsF l).length (rowsA (chainsF l)),.sc (.int .i64 0)])else .ret (.tup [.dsl 0 [],.sc (.int .i64 600)])
 |_=>.fail
open Classical in
noncomputable def c62:List AV→AP AV
 | [t]=>rdK t fun l=>.ret (.sc (.int .i64 (if ValidL l then 0 else 600)))
 |_=>.fail
theorem reps0 {ρ:Inj} {O:Nat→Prop} {w:World} {vs:List Value} (h:Reps ρ O w [] vs):vs=[]:=by simpa using h.len
theorem reps1 {ρ:Inj} {O:Nat→Prop} {w:World} {a:AV} {vs:List Value} (h:Reps ρ O w [a] vs):∃x,vs=[x]∧Rep ρ O w a x:=by
 obtain⟨x,t,rfl,h1,h2⟩:=Reps.uncons h
 exact⟨x,by rw[reps0 h2],h1⟩
theorem reps2 {ρ:Inj} {O:Nat→Prop} {w:World} {a b:AV} {vs:List Value} (h:Reps ρ O w [a,b] vs):∃x y,vs=[x,y]∧Rep ρ O w a x∧Rep ρ O w b y:=by
 obtain⟨x,t,rfl,h1,h2⟩:=Reps.uncons h
 obtain⟨y,rfl,h3⟩:=reps1 h2
 exact⟨x,y,rfl,h1,h3⟩
theorem reps3 {ρ:Inj} {O:Nat→Prop} {w:World} {a b c:AV} {vs:List Value} (h:Reps ρ O w [a,b,c] vs):∃x y z,vs=[x,y,z]∧Rep ρ O w a x∧Rep ρ O w b y∧Rep ρ O w c z:=by
 obtain⟨x,t,rfl,h1,h2⟩:=Reps.uncons h
 obtain⟨y,z,rfl,h3,h4⟩:=reps2 h2
 exact⟨x,y,z,rfl,h1,h3,h4⟩
theorem a15 (args:List AV):ACall Try.prog 15 args (c15 args):=by
 intro ρ H w vs hR hA s r H' s' hm
 unfold c15 at hm
 split at hm
 ·obtain rfl:=reps0 hA
  simp only[AP.run,Option.some.injEq,Prod.mk.injEq]at hm
  obtain⟨rfl,rfl,rfl⟩:=hm
  refine(awake_any w).mono ?_
  rintro e w' ⟨rfl,hb⟩
  exact⟨_,ρ,rfl,step_of_below hR hb,.sc _⟩
 ·simp[AP.run]at hm
theorem a16 (args:List AV):ACall Try.prog 16 args (c16 args):=by
 intro ρ H w vs hR hA s r H' s' hm
 unfold c16 at hm
 split at hm
 ·rename_i n
  obtain⟨x,rfl,hx⟩:=reps1 hA
  obtain rfl:=Rep.sc_iff.1 hx
  simp only[AP.run,Option.some.injEq,Prod.mk.injEq]at hm
  obtain⟨rfl,rfl,rfl⟩:=hm
  refine(bucketsX_any n w).mono ?_
  rintro e w' ⟨rfl,rfl⟩
  refine⟨_,ρ,rfl,.refl hR,?_⟩
  by_cases h:n<0∨n>100000
  ·simp only[if_pos h];exact Rep.tup_iff.2 ⟨_,rfl,.cons (.sc _) (.cons (.sc _) .nil)⟩
  ·simp only[if_neg h];exact Rep.tup_iff.2 ⟨_,rfl,.cons (.sc _) (.cons (.sc _) .nil)⟩
 ·simp[AP.run]at hm
theorem a17 (args:List AV):ACall Try.prog 17 args (c17 args):=by
 intro ρ H w vs hR hA s r H' s' hm
 unfold c17 at hm
 split at hm
 ·rename_i n
  obtain⟨x,rfl,hx⟩:=reps1 hA
  obtain rfl:=Rep.sc_iff.1 hx
  simp only[AP.run,Option.some.injEq,Prod.mk.injEq]at hm
  obtain⟨rfl,rfl,rfl⟩:=hm
  refine(lengthX_any n w).mono ?_
  rintro e w' ⟨rfl,rfl⟩
  refine⟨_,ρ,rfl,.refl hR,?_⟩
  by_cases h:n<0∨n>100000
  ·simp only[if_pos h];exact Rep.tup_iff.2 ⟨_,rfl,.cons (.sc _) (.cons (.sc _) .nil)⟩
  ·simp only[if_neg h];exact Rep.tup_iff.2 ⟨_,rfl,.cons (.sc _) (.cons (.sc _) .nil)⟩
 ·simp[AP.run]at hm
theorem a21 (args:List AV):ACall Try.prog 21 args (c21 args):=by
 intro ρ H w vs hR hA s r H' s' hm
 unfold c21 at hm
 split at hm
 ·rename_i h
  obtain⟨x,rfl,hx⟩:=reps1 hA
  obtain rfl:=Rep.sc_iff.1 hx
  simp only[AP.run,Option.some.injEq,Prod.mk.injEq]at hm
  obtain⟨rfl,rfl,rfl⟩:=hm
  refine(rIsHash_any h w).mono ?_
  rintro e w' ⟨rfl,rfl⟩
  exact⟨_,ρ,rfl,.refl hR,.sc _⟩
 ·simp[AP.run]at hm
theorem a23 (args:List AV):ACall Try.prog 23 args (c23 args):=by
 intro ρ H w vs hR hA s r H' s' hm
 unfold c23 at hm
 split at hm
 ·obtain rfl:=reps0 hA
  simp only[AP.run,Option.some.injEq,Prod.mk.injEq]at hm
  obtain⟨rfl,rfl,rfl⟩:=hm
  refine(new_any w).mono ?_
  rintro e w' ⟨⟨B,cap,rfl,hr⟩,hb⟩
  exact⟨_,ρ,rfl,step_of_below hR hb,rep_rw hr (fun b hb=>hR.own_lt hb)⟩
 ·simp[AP.run]at hm
theorem made_rep {ρ:Inj} {H:AHp} {w w':World} {e:Ending} {R:Int→List Int→Int→Prop} {F:Int×List Int×Int} (hR:Rel ρ H w) (hM:MadeE w.heap.size e w' R) (hb:Below w.heap.size w w') (hF:∀k l c,R k l c→F=(k,l,c)):
  ∃v ρ',e= .returned v∧Step ρ H w ρ' H w'∧Rep ρ' (own ρ' H) w' (.tup [.dsl F.2.1.length (ints F.2.1),.sc (.int .i64 F.1),.sc (.int .i64 F.2.2)]) v:=by
 rcases hM with⟨c,hc,rfl,hQ⟩ |⟨B,cap,k,l',rfl,hrw,hQ⟩
 ·rw[hF _ _ _ hQ]
  exact⟨_,ρ,rfl,step_of_below hR hb,Rep.tup_iff.2 ⟨_,rfl,.cons (.dnil (Nat.le_refl _)) (.cons (.sc _) (.cons (.sc _) .nil))⟩⟩
 ·rw[hF _ _ _ hQ]
  exact⟨_,ρ,rfl,step_of_below hR hb,Rep.tup_iff.2 ⟨_,rfl,.cons (rep_rw hrw (fun b hb=>hR.own_lt hb)) (.cons (.sc _) (.cons (.sc _) .nil))⟩⟩
theorem a24 (args:List AV):ACall Try.prog 24 args (c24 args):=by
 intro ρ H w vs hR hA s r H' s' hm
 unfold c24 at hm
 split at hm
 ·rename_i t h x
  obtain⟨v0,v1,v2,rfl,hv0,hv1,hv2⟩:=reps3 hA
  obtain rfl:=Rep.sc_iff.1 hv1
  obtain rfl:=Rep.sc_iff.1 hv2
  obtain⟨l,A,c,rfl,hr,_,hm⟩:=rdK_ok hR hv0 hm
  simp only[AP.run,Option.some.injEq,Prod.mk.injEq]at hm
  obtain⟨rfl,rfl,rfl⟩:=hm
  refine(addX_any A c l h x w hr).mono ?_
  rintro e w' ⟨hM,hb⟩
  exact made_rep hR hM hb (fun k l' c q=>addF_eq q)
 ·simp[AP.run]at hm
theorem a27 (args:List AV):ACall Try.prog 27 args (c27 args):=by
 intro ρ H w vs hR hA s r H' s' hm
 unfold c27 at hm
 split at hm
 ·rename_i t h x
  obtain⟨v0,v1,v2,rfl,hv0,hv1,hv2⟩:=reps3 hA
  obtain rfl:=Rep.sc_iff.1 hv1
  obtain rfl:=Rep.sc_iff.1 hv2
  obtain⟨l,A,c,rfl,hr,_,hm⟩:=rdK_ok hR hv0 hm
  simp only[AP.run,Option.some.injEq,Prod.mk.injEq]at hm
  obtain⟨rfl,rfl,rfl⟩:=hm
  refine(dropX_any A c l h x w hr).mono ?_
  rintro e w' ⟨hM,hb⟩
  exact made_rep hR hM hb (fun k l' c q=>dropF_eq q)
 ·simp[AP.run]at hm
theorem a26 (args:List AV):ACall Try.prog 26 args (c26 args):=by
 intro ρ H w vs hR hA s r H' s' hm
 unfold c26 at hm
 split at hm
 ·rename_i t h
  obtain⟨v0,v1,rfl,hv0,hv1⟩:=reps2 hA
  obtain rfl:=Rep.sc_iff.1 hv1
  obtain⟨l,A,c,rfl,hr,_,hm⟩:=rdK_ok hR hv0 hm
  simp only[AP.run,Option.some.injEq,Prod.mk.injEq]at hm
  obtain⟨rfl,rfl,rfl⟩:=hm
  refine(findX_any A c l h w hr).mono ?_
  rintro e w' ⟨hF,hb⟩
  rcases hF with⟨h1,rfl⟩ |⟨h1,h2,rfl⟩ |⟨h1,h2,n,C,v,hH,g,rfl,ho⟩
  ·have e:findF l h=([],0,600):=by unfold findF;rw[if_pos h1]
   rw[e]
   exact⟨_,ρ,rfl,step_of_below hR hb,Rep.tup_iff.2 ⟨_,rfl,.cons (.dnil (Nat.le_refl _)) (.cons (.sc _) (.cons (.sc _) .nil))⟩⟩
  ·have e:findF l h=([],0,1):=by unfold findF;rw[if_neg (by simpa using h1),if_pos h2]
   rw[e]
   exact⟨_,ρ,rfl,step_of_below hR hb,Rep.tup_iff.2 ⟨_,rfl,.cons (.dnil (Nat.le_refl _)) (.cons (.sc _) (.cons (.sc _) .nil))⟩⟩
  ·have hi:=bkt_lt h.toNat (b:=bkts n) (by have:=bkts8 n;omega)
   have e:findF l h=(outL l h (C (bkt h.toNat (bkts n))),((min (C (bkt h.toNat (bkts n))).length ((preR l h (C (bkt h.toNat (bkts n)))).length+1):Nat):Int),0):=by
    unfold findF
    rw[if_neg (by simpa using h1),if_neg (by simpa using h2),tab_n hH,tab_c hH g hi]
   rw[e]
   exact⟨_,ρ,rfl,step_of_below hR hb,Rep.tup_iff.2 ⟨_,rfl,.cons (rep_own ho (fun b hb=>hR.own_lt hb)) (.cons (.sc _) (.cons (.sc _) .nil))⟩⟩
 ·simp[AP.run]at hm
theorem a36 (args:List AV):ACall Try.prog 36 args (c36 args):=by
 intro ρ H w vs hR hA s r H' s' hm
 unfold c36 at hm
 split at hm
 ·obtain⟨v0,v1,rfl,hv0,hv1⟩:=reps2 hA
  obtain⟨l,A,c,rfl,hr,_,hm⟩:=rdK_ok hR hv0 hm
  obtain⟨m,B,d,rfl,hr2,_,hm⟩:=rdK_ok hR hv1 hm
  split at hm
  ·rename_i hle
   simp only[AP.run,Option.some.injEq,Prod.mk.injEq]at hm
   obtain⟨rfl,rfl,rfl⟩:=hm
   refine(same_any A B c d l m w hr hr2 hle.1 hle.2).mono ?_
   rintro e w' ⟨rfl,hb⟩
   exact⟨_,ρ,rfl,step_of_below hR hb,.sc _⟩
  ·simp[AP.run]at hm
 ·simp[AP.run]at hm
theorem a62 (args:List AV):ACall Try.prog 62 args (c62 args):=by
 intro ρ H w vs hR hA s r H' s' hm
 unfold c62 at hm
 split at hm
 ·obtain⟨v0,rfl,hv0⟩:=reps1 hA
  obtain⟨l,A,c,rfl,hr,_,hm⟩:=rdK_ok hR hv0 hm
  simp only[AP.run,Option.some.injEq,Prod.mk.injEq]at hm
  obtain⟨rfl,rfl,rfl⟩:=hm
  refine(check_any A c l w hr).mono ?_
  rintro e w' ⟨(⟨h1,rfl⟩ |⟨h1,rfl⟩),hb⟩
  ·rw[if_pos h1];exact⟨_,ρ,rfl,step_of_below hR hb,.sc _⟩
  ·rw[if_neg h1];exact⟨_,ρ,rfl,step_of_below hR hb,.sc _⟩
 ·simp[AP.run]at hm
theorem a25 (args:List AV):ACall Try.prog 25 args (c25 args):=by
 intro ρ H w vs hR hA s r H' s' hm
 unfold c25 at hm
 split at hm
 ·obtain⟨v0,rfl,hv0⟩:=reps1 hA
  obtain⟨l,A,c,rfl,hr,_,hm⟩:=rdK_ok hR hv0 hm
  refine(chainsX_any A c l w hr).mono ?_
  rintro e w' ⟨(⟨h1,rfl⟩ |⟨h1,n,C,v,hH,g,rfl,hRw⟩),hb⟩
  ·rw[if_neg h1]at hm
   simp only[AP.run,Option.some.injEq,Prod.mk.injEq]at hm
   obtain⟨rfl,rfl,rfl⟩:=hm
   exact⟨_,ρ,rfl,step_of_below hR hb,Rep.tup_iff.2 ⟨_,rfl,.cons (.dnil (Nat.le_refl _)) (.cons (.sc _) .nil)⟩⟩
  ·rw[if_pos h1]at hm
   simp only[AP.run,Option.some.injEq,Prod.mk.injEq]at hm
   obtain⟨rfl,rfl,rfl⟩:=hm
   refine⟨_,ρ,rfl,step_of_below hR hb,Rep.tup_iff.2 ⟨_,rfl,.cons ?_ (.cons (.sc _) .nil)⟩⟩
   obtain⟨xs,ho,hx⟩:=hRw
   have hno:∀b,own ρ H b→b<w.heap.size:=fun b hb=>hR.own_lt hb
   have hxl:xs.length=bkts n:=by have:=ho.1;simpa using this
   have hn:=tab_n hH
   have hcl:(chainsF l).length=bkts n:=by unfold chainsF;simp[hn]
   have h8:=bkts8 n
   have hcs:=fun g hg=>ho.cells (g:=g) hg
   rcases ho.2 with⟨_,h0⟩ |⟨gb,cp,cur,rfl,hgb,hh,hle,_⟩
   ·omega
   ·rw[hcl]
    refine .dsl hle (fun h=>by have:=hno gb h;omega) (lt_heap hh) (by rw[hxl];unfold rowsA;rw[List.length_map,hcl]) (fun i x hi=>?_) (fun i a x ha hxx=>?_)
    ·have:=hcs gb rfl i x hi
     rwa[addr_add]at this
    ·have hlt:i<bkts n:=by rw[←hxl];exact(List.getElem?_eq_some_iff.1 hxx).1
     obtain⟨u,hu,hur,_⟩:=hx i hlt
     rw[hu]at hxx
     cases hxx
     have e:a= .dsl (C i).length (ints ((C i).map (fun r:Nat=>(r:Int)))):=by
      unfold rowsA chainsF at ha
      rw[List.getElem?_map,List.getElem?_map,List.getElem?_range (by rw[hn];exact hlt)]at ha
      simp only[Option.map_some,Option.some.injEq]at ha
      rw[←ha,tab_c hH g hlt]
      simp
     rw[e]
     have:=rep_own (ρ:=ρ) (O:=own ρ H) (l:=(C i).map (fun r:Nat=>(r:Int))) (by rw[List.length_map,List.map_map];exact hur) hno
     rwa[List.length_map]at this
 ·simp[AP.run]at hm
noncomputable def ctT:CT:=fun f args=>
 if f=15 then c15 args else if f=16 then c16 args else if f=17 then c17 args else if f=21 then c21 args else if f=23 then c23 args else if f=24 then c24 args else if f=25 then c25 args
 else if f=26 then c26 args else if f=27 then c27 args else if f=36 then c36 args else if f=62 then c62 args else .fail
theorem ctT_ok:CTok Try.prog ctT:=fun f args=>by
 unfold ctT
 split
 ·rename_i e;subst e;exact a15 args
 split
 ·rename_i e;subst e;exact a16 args
 split
 ·rename_i e;subst e;exact a17 args
 split
 ·rename_i e;subst e;exact a21 args
 split
 ·rename_i e;subst e;exact a23 args
 split
 ·rename_i e;subst e;exact a24 args
 split
 ·rename_i e;subst e;exact a25 args
 split
 ·rename_i e;subst e;exact a26 args
 split
 ·rename_i e;subst e;exact a27 args
 split
 ·rename_i e;subst e;exact a36 args
 split
 ·rename_i e;subst e;exact a62 args
 ·intro ρ H w vs hR hA s r H' s' hm;simp[AP.run]at hm
end Go.Proofs.Ytdcomhdadnhpnaa
end
section
namespace Go.Proofs.Ytdcomhdadnhpnaa
theorem dropS_ex {l:List Int} {n:Nat} {C:Nat→List Nat} {h x:Int} (g:G l n (bkts n) C) (hhas:hasR l h x (C (bkt h.toNat (bkts n)))=true):∃k l' C',DropS l n C h x k l' C':=by
 have hi:bkt h.toNat (bkts n)<bkts n:=bkt_lt _ (by have:=bkts8 n;omega)
 obtain⟨pre,r,post,hC,hp,hh,_⟩:=findC_wf_yes (f:=headAt (bkt h.toNat (bkts n))) hhas
 have g1:=g.gs.rem hi hC
 have hrn:r<n:=g.lt hi (by rw[hC];simp)
 have hM:∃k1 l1 C1,MoveS (remL l (endp (headAt (bkt h.toNat (bkts n))) pre) r) n (bkts n) (fun i=>if i=bkt h.toNat (bkts n)then pre++post else C i) r k1 l1 C1:=by
  by_cases e:r=n-1
  ·exact⟨0,_,_,.inl ⟨e,rfl,rfl,rfl⟩⟩
  ·have hj:=bkt_lt (ati (remL l (endp (headAt (bkt h.toNat (bkts n))) pre) r) (recAt (n-1))).toNat g1.bpos
   have hm:=(g1.mem _ hj (n-1)).2 ⟨⟨by omega,by omega⟩,rfl⟩
   obtain⟨a,b,hab⟩:=List.append_of_mem hm
   exact⟨_,_,_,.inr ⟨e,a,b,hab,rfl,rfl,rfl⟩⟩
 obtain⟨k1,l1,C1,hM⟩:=hM
 by_cases e:bkts (n-1)=bkts n-1
 ·exact⟨_,_,_,pre,r,post,k1,l1,C1,_,_,hC,hh,hp,hM,.inr ⟨e,rfl,rfl,rfl⟩,rfl,rfl⟩
 ·exact⟨_,_,_,pre,r,post,k1,l1,C1,_,_,hC,hh,hp,hM,.inl ⟨e,rfl,rfl,rfl⟩,rfl,rfl⟩
theorem dropF_ok {l:List Int} {h x:Int} (hV:ValidL l) (hh:0≤h∧h≤2147483647) (hhas:hasR l h x (tabC l (bkt h.toNat (bkts (tabN l))))=true):
  ∃k l' C',DropS l (tabN l) (tabC l) h x k l' C'∧dropF l h x=((k:Int),l',0):=by
 obtain⟨k,l',C',hD⟩:=dropS_ex (tab_g hV) hhas
 exact⟨k,l',C',hD,dropF_eq (.inr (.inr ⟨hV,hh,tabN l,tabC l,tab_h hV,tab_g hV,.inr ⟨rfl,k,C',rfl,hD⟩⟩))⟩
end Go.Proofs.Ytdcomhdadnhpnaa
end
section
namespace Go.Proofs.Ytdcomhdadnhpnaa
open Go Go.Am Go.RowKit Go.ChangeShapes Go.WideShapes Go.ChangeAt
def ρ0:Inj:=fun _ _=>none
def H0:AHp:=fun _=>none
theorem own0 (b:Nat):¬own ρ0 H0 b:=by rintro⟨n,o,L,h,_⟩;simp[H0]at h
theorem rel0 (w:World):Rel ρ0 H0 w:=
 ⟨fun n o h=>by simp[H0]at h,fun n v L h=>by simp[ρ0]at h,fun n m o o' L L' h=>by simp[H0]at h,⟨0,fun _ _=>rfl⟩⟩
theorem calls_of_sc {P:Program} {f:FuncId} {args:List AV} {r:Value} {w:World} {vs:List Value} (h:ACall P f args (.ret (.sc r))) (ha:Reps ρ0 (own ρ0 H0) w args vs):
  Calls P f vs.toArray w fun e w'=>e= .returned r∧Below w.heap.size w w':=by
 refine(h ρ0 H0 w vs (rel0 w) ha 0 (.sc r) H0 0 rfl).mono fun e w' ⟨v,ρ',he,hs,hv⟩=>?_
 cases hv
 exact⟨he,hs.os,hs.tape,hs.output,hs.size,fun k hk=>hs.frame k hk (own0 k)⟩
section
variable {H:Type} {enc:TypeId×Value→H} {P:Program} {W:World} {t e:TypeId} {d:DataW H} {p:List MemPlace}
theorem rep_ints (ht:P.underlying t=some (.slice e)) (he:P.underlying e=some (.int .i64)) (hc:P.cellsOf e=1) {a:Option Addr} {len cap:Nat}
  (h:DataW.Trod enc P W 0 (fun _=>true) true t (.slice a len cap) d p):
  ∃l:List Int,Rep ρ0 (own ρ0 H0) W (.dsl l.length (ints l)) (.slice a len cap)∧l.length≤9223372036854775807∧∀z∈l,-9223372036854775808≤z∧z≤9223372036854775807:=by
 obtain⟨fuel,hf⟩:=h
 rcases open_ints ht he hc hf with⟨hcs,hx⟩ |⟨a',len',cap',zs,hcs,_,hl,hm,hz,hx,hcell,hwz⟩
 ·simp[Value.cells]at hcs
  obtain⟨rfl,rfl,rfl⟩:=hcs
  exact⟨[],.dnil (Nat.le_refl _),by simp,by simp⟩
 ·simp[Value.cells]at hcs
  obtain⟨rfl,rfl,rfl⟩:=hcs
  simp only[if_true]at hz
  have hm':cap≤9223372036854775807:=hm
  have hlen:(zs.take len).length=len:=by simp;omega
  refine⟨zs.take len,?_,by omega,fun z hz'=>?_⟩
  ·by_cases h0:0<zs.length
   ·obtain⟨b,off,rfl,hj⟩:=ints_at hcell h0
    rw[hlen]
    have hb:b<W.heap.size:=by
     have:=hj 0 h0
     refine Nat.lt_of_not_le fun hb=>?_
     simp[World.cell?,hb]at this
    refine .dsl (vs:=(zs.take len).map (Value.int .i64)) hl (own0 b) hb (by simp) ?_ ?_
    ·intro i x hx
     rw[List.getElem?_map]at hx
     obtain⟨z,h1,rfl⟩:=Option.map_eq_some_iff.1 hx
     have hi:i<(zs.take len).length:=by
      refine Nat.lt_of_not_le fun hc'=>?_
      rw[List.getElem?_eq_none (by omega)]at h1
      cases h1
     rw[hj i (by omega)]
     rw[List.getElem?_take,if_pos (by omega)]at h1
     simp[List.getD,h1]
    ·intro i a x h1 h2
     rw[List.getElem?_map]at h1 h2
     cases h3:(zs.take len)[i]? <;>simp[h3]at h1 h2
     subst h1 h2
     exact .sc _
   ·have:zs=[]:=by simpa using h0
    subst this
    simp at hz;subst hz
    simp at hlen;subst hlen
    simpa[ints]using(Rep.dnil (a:=some a') (Nat.zero_le 0):Rep ρ0 (own ρ0 H0) W (.dsl 0 []) _)
  ·have:=hwz z (List.mem_of_mem_take hz')
   have:=(Go.Lit.wf_int_iff _ _).1 this
   exact this
end
end Go.Proofs.Ytdcomhdadnhpnaa
end
section
namespace Go.Proofs.Ytdcomhdadnhpnaa
open Go.ChangeShapes Go.WideShapes Go.ChangeAt Go.RowKit
theorem post_of_below {H:Type} {enc:TypeId×Value→H} {P:Program} {f:Func} {s:ChangeSpec} {apart fresh handsOn again:Bool} {W W':World} {args:Array Value} {v:Value} {ds gs:List (DataW H)} {before pa pv:List MemPlace}
  (hW:DataW.Whole enc P f.params.toList s.vars apart W args.toList ds gs before)
  (hres:∀(b:Nat) (sp:Nat→Bool) (hd:Bool),DataW.TrodAll enc P W' b sp hd f.resultTypes.toList (v.resultList f.resultTypes.size) (s.fn H (ds++gs)).results [])
  (hargs:∀sp:Nat→Bool,(∀p∈before,sp p.block=true)→DataW.TrodAll enc P W' 0 sp true f.params.toList args.toList (s.fn H (ds++gs)).args pa)
  (hvars:∀sp:Nat→Bool,(∀p∈before,sp p.block=true)→DataW.TrodVars enc P W' sp s.vars (s.fn H (ds++gs)).vars pv)
  (hps:before=pa++pv) (hb:Below W.heap.size W W')
  (hok:∀(j:Nat) (t:TypeId) (r:Value),f.resultTypes[j]? =some t→(v.resultList f.resultTypes.size)[j]? =some r→Value.okWide P W' .any 0 t r):
  s.post enc P f apart fresh handsOn again W args v W':=by
 have hold:∀p∈before,(fun b=>decide (b<W.heap.size)) p.block=true:=fun p hp=>by simpa using hW.lt p hp
 have hlt:=fun p hp=>hW.lt p hp
 refine⟨ds,gs,before,[],pa,pv,hW,hres _ _ _,hargs _ hold,hvars _ hold,World.keptBut_mono (fun p hp=>⟨hp,?_⟩) (hb.frame (· ∈before)),fun _=>?_⟩
 ·rw[hps,List.mem_append]at hp
  exact Or.inr hp
 ·obtain⟨_,_,_,_,_,hz,hn⟩:=hW
  refine⟨hok,_,_,([]++pa)++pv,⟨[]++pa,pv,trodAll_append (hargs _ (fun _ _=>rfl)) (hres _ _ _),hvars _ (fun _ _=>rfl),rfl,?_,?_⟩,?_⟩
  ·intro b off hp
   have hm:MemPlace.cell b off∈before:=by rw[hps];simpa using hp
   have:=hlt _ hm
   exact(hb.frozen (p:=⟨b,off,none⟩) this).trans (hz b off hm)
  ·intro ha
   have:=hn ha
   rw[hps]at this
   simpa using this
  ·intro p hp _
   rw[hps]
   simpa using hp
end Go.Proofs.Ytdcomhdadnhpnaa
end
