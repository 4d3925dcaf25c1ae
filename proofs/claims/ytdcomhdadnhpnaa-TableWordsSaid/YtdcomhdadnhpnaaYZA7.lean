import Derived.Test.YtdcomhdadnhpnaaYZP4
import Derived.Test.YtdcomhdadnhpnaaYZA3
set_option linter.all false
section
namespace Go.Proofs.Ytdcomhdadnhpnaa
open Go Go.Am Go.RowKit
noncomputable abbrev recsT (l:List Int):List (Int×Int):=recsF l (tabN l)
theorem Exp.els {H:AHp} {n ver len:Nat} {L:List (Int×Int)} (h:H n=some (.row ver 2 (elsA L))):Exp H (.sl n ver 0 len) (.dsl len (elsA L)):=by
 refine .sl h (by simp) (fun i a b ha hb=>?_)
 rw[List.drop_zero]at ha
 rw[ha]at hb;cases hb
 obtain⟨v,rfl⟩:=elsA_sc (List.mem_of_getElem? ha)
 exact .sc _
theorem dsl_inS {K:Nat→Prop} {n:Nat} {cs:List AV} (h:∀a∈cs,a.inS K):(AV.dsl n cs).inS K:=inSL_iff.2 h
theorem row_inS {K:Nat→Prop} {chs:List (List Nat)} {a:AV} (ha:a∈rowsN chs):a.inS K:=by
 obtain⟨c,_,rfl⟩:=List.mem_map.1 ha
 refine dsl_inS fun b hb=>?_
 obtain⟨x,_,rfl⟩:=List.mem_map.1 hb
 trivial
theorem RowE.pubE {lo s' s len:Nat} {v:AV} {H1:AHp} {E:Ent} {L:List (Int×Int)} (h:RowE lo 2 v H1 s' (elsA L) len) (hs:∀n,s≤n→E.H n=none) (hl:s≤lo):
  ∃r,Wk r (.dsl len (elsA L))∧Pub H1 (fun n=>E.H n≠none) (fun _=>none) v r:=by
 rcases h with⟨h0,hc,rfl⟩ |⟨nm,ver,h0,rfl,hH,_,h3⟩
 ·rw[h0,hc];exact⟨_,Wk.nil,Pub.sc _⟩
 ·refine⟨_,Wk.rfl',Pub.sl hH (by simpa using hs nm (by omega)) (by simp) (by simp) (fun i a b ha hb=>?_)⟩
  rw[List.drop_zero]at ha
  rw[ha]at hb;cases hb
  obtain⟨v,rfl⟩:=elsA_sc (List.mem_of_getElem? ha)
  exact Pub.sc _
theorem RowE.pubC {lo s' s len:Nat} {v:AV} {H1:AHp} {E:Ent} {chs:List (List Nat)} (h:RowE lo 1 v H1 s' (rowsN chs) len) (hs:∀n,s≤n→E.H n=none) (hl:s≤lo):
  ∃r,Wk r (.dsl len (rowsN chs))∧Pub H1 (fun n=>E.H n≠none) (fun _=>none) v r:=by
 rcases h with⟨h0,hc,rfl⟩ |⟨nm,ver,h0,rfl,hH,_,h3⟩
 ·rw[h0,hc];exact⟨_,Wk.nil,Pub.sc _⟩
 ·refine⟨_,Wk.rfl',Pub.sl hH (by simpa using hs nm (by omega)) (by simp) (by simp) (fun i a b ha hb=>?_)⟩
  rw[List.drop_zero]at ha
  rw[ha]at hb;cases hb
  exact .same (row_inS (List.mem_of_getElem? ha))
theorem Wk.tab {a a' b b' c:AV} (h1:Wk a a') (h2:Wk b b'):Wk (.tup [.agg [a,b],c]) (.tup [.agg [a',b'],c]):=fun ρ O w v hv=>by
 obtain⟨vs,rfl,hr⟩:=Rep.tup_iff.1 hv
 obtain⟨x,t,e1,k1,k2⟩:=Reps.uncons hr
 obtain⟨us,rfl,hu⟩:=Rep.agg_iff.1 k1
 obtain⟨y,t2,e2,k3,k4⟩:=Reps.uncons hu
 obtain⟨z,t3,e3,k5,k6⟩:=Reps.uncons k4
 refine Rep.tup_iff.2 ⟨vs,rfl,?_⟩
 rw[e1]
 refine .cons (Rep.agg_iff.2 ⟨us,rfl,?_⟩) k2
 rw[e2,e3]
 exact .cons (h1 _ _ _ _ k3) (.cons (h2 _ _ _ _ k5) k6)
theorem Pub.tab {H:AHp} {K:Nat→Prop} {N:Nat→Option (Nat×Nat)} {a a' b b' c:AV} (h1:Pub H K N a a') (h2:Pub H K N b b') (h3:Pub H K N c c):Pub H K N (.tup [.agg [a,b],c]) (.tup [.agg [a',b'],c]):=by
 refine .tup rfl (fun i x y hx hy=>?_)
 match i with
 |0=>simp at hx hy;subst hx;subst hy;exact Pub.agg2 h1 h2
 |1=>simp at hx hy;subst hx;subst hy;exact h3
 |i+2=>simp at hx
noncomputable def badR (l:List Int):List (Int×Int)×List (List Nat):=(readX l).getD ([],[])
theorem readP_bad {l:List Int} {E:Ent} {s:Nat} {r1:AV} {H1:AHp} (hs:∀n,s≤n→E.H n=none) (h:ReadP l s r1 H1) (hno:¬ValidL l):∃r',Wk r' (.tup [tabG (badR l).1 (badR l).2,.sc (.bool false)])∧Pub H1 (fun n=>E.H n≠none) (fun _=>none) r1 r':=by
 have hF:=readF_X l
 rcases h with⟨hx,rfl⟩ |⟨recs,chs,v1,v2,s',hx,rfl,h1,h2⟩
 ·have:badR l=([],[]):=by unfold badR;rw[hx];rfl
  rw[this]
  exact⟨_,Wk.tab Wk.nil Wk.nil,Pub.tab (Pub.sc _) (Pub.sc _) (Pub.sc _)⟩
 ·have hb:badR l=(recs,chs):=by unfold badR;rw[hx];rfl
  have hw:wordsF recs chs≠l:=fun e=>by
   rw[hx]at hF
   simp only at hF
   rw[if_pos e]at hF
   exact hno (readF_some hF)
  rw[hb,decide_eq_false hw]
  obtain⟨a,wa,ha⟩:=h1.pubE hs (Nat.le_refl _)
  obtain⟨b,wb,hb⟩:=h2.pubC hs (Nat.le_refl _)
  exact⟨_,Wk.tab wa wb,Pub.tab ha hb (Pub.sc _)⟩
theorem readP_good {l:List Int} {s:Nat} {r1:AV} {H1:AHp} (h:ReadP l s r1 H1) (hV:ValidL l):
  ∃v1 v2 s',r1= .tup [.agg [v1,v2],.sc (.bool true)]∧RowE s 2 v1 H1 s' (elsA (recsT l)) (recsT l).length∧RowE s 1 v2 H1 s' (rowsN (chsT l)) (chsT l).length:=by
 have hF:=readF_X l
 rw[readF_valid hV]at hF
 rcases h with⟨hx,rfl⟩ |⟨recs,chs,v1,v2,s',hx,rfl,h1,h2⟩
 ·rw[hx]at hF;cases hF
 ·rw[hx]at hF
  simp only at hF
  split at hF
  ·rename_i e
   cases hF
   rw[decide_eq_true e]
   exact⟨v1,v2,s',rfl,h1,h2⟩
  ·cases hF
def rdD (a:AV) (k:List Int→AP AV):AP AV:=match a with
 | .dsl len cells=>match intsOf cells with
   |some l=>if l.length=len then k l else .fail
   |none=>.fail
 |_=>.fail
theorem rdD_dsl (l:List Int) (k:List Int→AP AV):rdD (.dsl l.length (ints l)) k=k l:=by
 unfold rdD;simp only[intsOf_ints,if_true]
theorem rdD_ok {ρ:Inj} {H H':AHp} {w:World} {a r:AV} {v:Value} {k:List Int→AP AV} {s s':Nat} {O:Nat→Prop} (hr:Rep ρ O w a v) (hm:(rdD a k).run H s=some (r,H',s')):
  ∃l,Rep ρ O w (.dsl l.length (ints l)) v∧(k l).run H s=some (r,H',s'):=by
 unfold rdD at hm
 split at hm
 ·split at hm
  ·rename_i L hL
   split at hm
   ·rename_i e
    subst e
    rw[intsOf_some hL]at hr
    exact⟨L,hr,hm⟩
   ·simp[AP.run]at hm
  ·simp[AP.run]at hm
 ·simp[AP.run]at hm
open Classical in
/-- Read,as data -/
noncomputable def c78:List AV→AP AV
 | [t]=>rdD t fun l=>if l.length≤1000000000 then(if ValidL l then .ret (.tup [tabG (recsT l) (chsT l),.sc (.bool true)])else .ret (.tup [tabG (badR l).1 (badR l).2,.sc (.bool false)]))else .fail
 |_=>.fail
set_option maxRecDepth 100000 in
theorem read_data {l:List Int} (hl:l.length≤1000000000) (hV:ValidL l):ACall Try.prog 78 [.dsl l.length (ints l)] (.ret (.tup [tabG (recsT l) (chsT l),.sc (.bool true)])):=by
 refine acall_pureW hmix ctQ_ok Try.func78 rfl (by kernel_rfl) (fun E s hs=>?_)
 refine read_walk l hl E s hs _ (fun r1 H1 hE hP=>?_)
 obtain⟨v1,v2,s',rfl,h1,h2⟩:=readP_good hP hV
 obtain⟨a,wa,ha⟩:=h1.pubE hs (Nat.le_refl _)
 obtain⟨b,wb,hb⟩:=h2.pubC hs (Nat.le_refl _)
 exact⟨_,Wk.tab wa wb,fun q hq=>hE q (Nat.lt_of_not_le fun h=>hq (hs q h)),Pub.tab ha hb (Pub.sc _)⟩
set_option maxRecDepth 100000 in
theorem read_bad {l:List Int} (hl:l.length≤1000000000) (hV:¬ValidL l):ACall Try.prog 78 [.dsl l.length (ints l)] (.ret (.tup [tabG (badR l).1 (badR l).2,.sc (.bool false)])):=by
 refine acall_pureW hmix ctQ_ok Try.func78 rfl (by kernel_rfl) (fun E s hs=>?_)
 refine read_walk l hl E s hs _ (fun r1 H1 hE hP=>?_)
 obtain⟨r',hw,hp⟩:=readP_bad hs hP hV
 exact⟨_,hw,fun q hq=>hE q (Nat.lt_of_not_le fun h=>hq (hs q h)),hp⟩
theorem a78 (args:List AV):ACall Try.prog 78 args (c78 args):=by
 intro ρ H w vs hR hA s r H' s' hm
 unfold c78 at hm
 split at hm
 ·obtain⟨v0,rfl,hv0⟩:=reps1 hA
  obtain⟨l,hr,hm⟩:=rdD_ok hv0 hm
  split at hm
  ·rename_i hl
   split at hm
   ·rename_i hV
    exact read_data hl hV ρ H w _ hR (.cons hr .nil) s r H' s' hm
   ·rename_i hV
    exact read_bad hl hV ρ H w _ hR (.cons hr .nil) s r H' s' hm
  ·simp[AP.run]at hm
 ·simp[AP.run]at hm
def newE (L:List (Int×Int)) (k:AV→AP AV):AP AV:=if L.length=0 then k (.sc (.slice none 0 0))else .new (.row 0 2 (elsA L)) fun n=>k (.sl n 0 0 L.length)
open Classical in
/-- Read,in rows of the caller's own -/
noncomputable def c78o:List AV→AP AV
 | [t]=>rdD t fun l=>if l.length≤1000000000 then(if ValidL l then newE (recsT l) fun a=>.new (.row 0 1 (rowsN (chsT l))) fun n=>.ret (.tup [.agg [a,.sl n 0 0 (chsT l).length],.sc (.bool true)])else .ret (.tup [tabG (badR l).1 (badR l).2,.sc (.bool false)]))else .fail
 |_=>.fail
theorem fin_rows {H0 H1:AHp} {s lo:Nat} (rows:List (Nat×Nat×Nat×List AV)) (hf:∀q,s≤q→H0 q=none) (hlo:lo+rows.length≤s) (hnew:∀i,i<rows.length→H0 (lo+i)=none) (hE:∀q,q<s→H1 q=H0 q)
  (hr:∀(i:Nat) (x:Nat×Nat×Nat×List AV),rows[i]? =some x→s≤x.1∧H1 x.1=some (.row x.2.1 x.2.2.1 x.2.2.2)∧∀a∈x.2.2.2,∀K,a.inS K)
  (hd:∀(i j:Nat) (x y:Nat×Nat×Nat×List AV),rows[i]? =some x→rows[j]? =some y→x.1=y.1→i=j)
  (H':AHp) (hH:∀q,H' q=if lo≤q∧q<lo+rows.length then(rows[q-lo]?).map (fun x=>AO.row 0 x.2.2.1 x.2.2.2)else H0 q):
  Fin H0 H1 (fun q=>if lo≤q∧q<lo+rows.length then(rows[q-lo]?).map (fun x=>(x.1,0))else none) H':=by
 have hHs:∀q,s≤q→H' q=none:=fun q hq=>by rw[hH,if_neg (by omega)];exact hf q hq
 refine⟨fun n hn=>?_,fun n o' hn=>?_,fun a b n o o' ha hb=>?_,fun q n o hq=>?_,⟨s,hHs⟩⟩
 ·have hnot:¬(lo≤n∧n<lo+rows.length):=fun h=>hn (by have:=hnew (n-lo) (by omega);rwa[show lo+(n-lo)=n by omega]at this)
  exact⟨by rw[hH,if_neg hnot];exact hn,by rw[if_neg hnot]⟩
 ·rw[hH]at hn
  by_cases hc:lo≤n∧n<lo+rows.length
  ·rw[if_pos hc]at hn
   obtain⟨x,hx,rfl⟩:=Option.map_eq_some_iff.1 hn
   obtain⟨h1,h2,h3⟩:=hr _ x hx
   refine .inr ⟨x.1,0,x.2.1,x.2.2.1,x.2.2.2,x.2.2.2,by rw[if_pos hc,hx];rfl,h2,hHs _ h1,Nat.zero_le _,rfl,by simp,fun i a b ha hb=>?_⟩
   rw[List.drop_zero]at ha
   rw[ha]at hb;cases hb
   exact .same (h3 a (List.mem_of_getElem? ha) _)
  ·rw[if_neg hc]at hn
   have hlt:n<s:=Nat.lt_of_not_le fun h=>by rw[hf n h]at hn;cases hn
   exact .inl ⟨by rw[if_neg hc],.inl ⟨hn,by rw[hE n hlt];exact hn⟩⟩
 ·split at ha
  ·split at hb
   ·rename_i ca cb
    obtain⟨x,hx,e1⟩:=Option.map_eq_some_iff.1 ha
    obtain⟨y,hy,e2⟩:=Option.map_eq_some_iff.1 hb
    have:=hd _ _ x y hx hy (by have:=congrArg Prod.fst e1;have:=congrArg Prod.fst e2;simp_all)
    omega
   ·cases hb
  ·cases ha
 ·split at hq
  ·rename_i hc
   obtain⟨x,hx,_⟩:=Option.map_eq_some_iff.1 hq
   rw[hH,if_pos hc,hx]
   simp
  ·cases hq
theorem chsT_len (l:List Int):(chsT l).length=bkts (tabN l):=by simp[chsT]
set_option maxRecDepth 100000 in
theorem read_own {l:List Int} (hl:l.length≤1000000000) (hV:ValidL l):ACall Try.prog 78 [.dsl l.length (ints l)] (newE (recsT l) fun a=>.new (.row 0 1 (rowsN (chsT l))) fun n=>.ret (.tup [.agg [a,.sl n 0 0 (chsT l).length],.sc (.bool true)])):=by
 refine acall_gen Try.func78 rfl (fun E s0' s r H' s' hr hs=>?_)
 have hs0:∀q,s≤q→E.H q=none:=fun q hq=>(hs q hq).1
 refine(wA_ok hmix ctQ_ok _ (by kernel_rfl) (read_walk l hl E s hs0 (fun r1 H1=>(∀q,q<s→H1 q=E.H q)∧ReadP l s r1 H1) (fun r1 H1 hE hP=>⟨hE,hP⟩))).mono (fun e Γ H1 s1 he=>?_)
 have key:∀r1,((∀ q,q<s→H1 q=E.H q)∧ReadP l s r1 H1)→∃(r2:AV) (N:Nat→Option (Nat×Nat)),Wk r2 r∧Fin E.H H1 N H'∧Pub H1 (fun n=>H' n≠none∧N n=none) N r1 r2:=by
  rintro r1 ⟨hE,hP⟩
  obtain⟨v1,v2,s2,rfl,h1,h2⟩:=readP_good hP hV
  have hb8:=bkts8 (tabN l)
  have hcl:=chsT_len l
  obtain⟨nm2,ver2,rfl,hH2,hn2⟩:∃nm2 ver2,v2= .sl nm2 ver2 0 (chsT l).length∧H1 nm2=some (.row ver2 1 (rowsN (chsT l)))∧s≤nm2:=by
   rcases h2 with⟨h0,_⟩ |⟨nm,ver,_,k1,k2,_,k4⟩
   ·omega
   ·exact⟨nm,ver,k1,k2,k4⟩
  have hall:∀q,s≤q→H' q=none:=fun q hq=>(hs q hq).2
  by_cases h0:(recsT l).length=0
  ·have e1:v1= .sc (.slice none 0 0):=by
    rcases h1 with⟨_,_,h⟩ |⟨_,_,h,_⟩
    ·exact h
    ·omega
   subst e1
   simp only[newE,if_pos h0,AP.run]at hr
   split at hr
   ·rename_i hfree
    simp only[Option.some.injEq,Prod.mk.injEq]at hr
    obtain⟨rfl,rfl,rfl⟩:=hr
    have hlt:s0'<s:=Nat.lt_of_not_le fun h=>by have:=hall _ h;rw[upd_same]at this;cases this
    have hF:=fin_rows (H0:=E.H) (H1:=H1) (s:=s) (lo:=s0') [(nm2,ver2,1,rowsN (chsT l))] hs0 (by simp;omega) (fun i hi=>by
      have:i=0:=by simpa using hi
      subst this;exact hfree) hE (fun i x hx=>by
      cases i with
      |zero=>simp at hx;subst hx;exact⟨hn2,hH2,fun a ha K=>row_inS ha⟩
      |succ i=>simp at hx) (fun i j x y hx hy e=>by
      cases i with
      |succ i=>simp at hx
      |zero=>cases j with
       |zero=>rfl
       |succ j=>simp at hy) (upd E.H s0' (.row 0 1 (rowsN (chsT l)))) (fun q=>by
      by_cases e:q=s0'
      ·subst e;rw[upd_same,if_pos (by simp)];simp
      ·rw[upd_ne _ _ e,if_neg (by simp;omega)])
    refine⟨_,_,Wk.rfl',hF,Pub.tab (Pub.sc _) (Pub.ren (s:=s0') hH2 (by rw[if_pos (by simp)];simp) ?_) (Pub.sc _)⟩
    rintro⟨k1,_⟩
    exact k1 (hall _ hn2)
   ·cases hr
  ·obtain⟨nm1,ver1,rfl,hH1,hn1⟩:∃nm1 ver1,v1= .sl nm1 ver1 0 (recsT l).length∧H1 nm1=some (.row ver1 2 (elsA (recsT l)))∧s≤nm1:=by
    rcases h1 with⟨h,_⟩ |⟨nm,ver,_,k1,k2,_,k4⟩
    ·exact absurd h h0
    ·exact⟨nm,ver,k1,k2,k4⟩
   simp only[newE,if_neg h0,AP.run]at hr
   split at hr
   ·rename_i hfree
    split at hr
    ·rename_i hfree2
     simp only[Option.some.injEq,Prod.mk.injEq]at hr
     obtain⟨rfl,rfl,rfl⟩:=hr
     rw[upd_ne _ _ (by omega)]at hfree2
     have hlt:s0'+1<s:=Nat.lt_of_not_le fun h=>by have:=hall _ h;rw[upd_same]at this;cases this
     have hne:nm1≠nm2:=fun e=>by rw[e,hH2]at hH1;cases hH1
     have hF:=fin_rows (H0:=E.H) (H1:=H1) (s:=s) (lo:=s0') [(nm1,ver1,2,elsA (recsT l)),(nm2,ver2,1,rowsN (chsT l))] hs0 (by simp;omega) (fun i hi=>by
       rcases(by simp at hi;omega:i=0∨i=1)with rfl |rfl
       ·exact hfree
       ·exact hfree2) hE (fun i x hx=>by
       match i with
       |0=>simp at hx;subst hx;exact⟨hn1,hH1,fun a ha K=>by obtain⟨v,rfl⟩:=elsA_sc ha;trivial⟩
       |1=>simp at hx;subst hx;exact⟨hn2,hH2,fun a ha K=>row_inS ha⟩
       |i+2=>simp at hx) (fun i j x y hx hy e=>by
       match i,j with
       |0,0=>rfl
       |1,1=>rfl
       |0,1=>simp at hx hy;subst hx;subst hy;exact absurd e hne
       |1,0=>simp at hx hy;subst hx;subst hy;exact absurd e.symm hne
       |i+2,_=>simp at hx
       |_,j+2=>simp at hy) (upd (upd E.H s0' (.row 0 2 (elsA (recsT l)))) (s0'+1) (.row 0 1 (rowsN (chsT l)))) (fun q=>by
       by_cases e:q=s0'+1
       ·subst e;rw[upd_same,if_pos (by simp)];simp
       ·rw[upd_ne _ _ e]
        by_cases e2:q=s0'
        ·subst e2;rw[upd_same,if_pos (by simp)];simp
        ·rw[upd_ne _ _ e2,if_neg (by simp;omega)])
     refine⟨_,_,Wk.rfl',hF,Pub.tab (Pub.ren (s:=s0') hH1 (by rw[if_pos (by simp)];simp) ?_) (Pub.ren (s:=s0'+1) hH2 (by rw[if_pos (by simp)];simp) ?_) (Pub.sc _)⟩
     ·rintro⟨k1,_⟩
      exact k1 (hall _ hn1)
     ·rintro⟨k1,_⟩
      exact k1 (hall _ hn2)
    ·cases hr
   ·cases hr
 cases e with
 |normal=>exact he.imp (fun l hl=>⟨hl.1,key _ hl.2⟩)
 |ret=>exact he.imp (fun l hl=>⟨hl.1,key _ hl.2⟩)
 |_=>exact he.elim
theorem a78o (args:List AV):ACall Try.prog 78 args (c78o args):=by
 intro ρ H w vs hR hA s r H' s' hm
 unfold c78o at hm
 split at hm
 ·obtain⟨v0,rfl,hv0⟩:=reps1 hA
  obtain⟨l,hr,hm⟩:=rdD_ok hv0 hm
  split at hm
  ·rename_i hl
   split at hm
   ·rename_i hV
    exact read_own hl hV ρ H w _ hR (.cons hr .nil) s r H' s' hm
   ·rename_i hV
    exact read_bad hl hV ρ H w _ hR (.cons hr .nil) s r H' s' hm
  ·simp[AP.run]at hm
 ·simp[AP.run]at hm
end Go.Proofs.Ytdcomhdadnhpnaa
end
section
namespace Go.Proofs.Ytdcomhdadnhpnaa
open Go Go.Am Go.RowKit
attribute [local irreducible] wA opsQ opsLQ thenA blockA EndA
def ofF (recs:List (Int×Int)) (chs:List (List Nat)) (e:Int×Int):Int:=
 match (chs.getD (bkt e.1.toNat chs.length) []).find? (fun r=>decide (recs.getD r (0,0)=e))with
 |some r=>(r:Nat)
 |none=>-1
theorem find_none {α:Type} {p:α→Bool} {c:List α} (h:∀a∈c,p a=false):c.find? p=none:=List.find?_eq_none.2 (fun a ha=>by rw[h a ha];simp)
theorem find_at {α:Type} {p:α→Bool} {c:List α} {k:Nat} (hk:k<c.length) (h:∀j (hj:j<k),p (c[j]'(by omega))=false) (hp:p c[k]=true):c.find? p=some c[k]:=by
 induction c generalizing k with
 |nil=>simp at hk
 |cons a c ih=>
  cases k with
  |zero=>simp at hp;simp[List.find?_cons,hp]
  |succ k=>
   have h0:=h 0 (by omega)
   simp at h0
   rw[List.find?_cons]
   simp only[h0]
   have:=ih (k:=k) (by simpa using hk) (fun j hj=>by have:=h (j+1) (by omega);simpa using this) (by simpa using hp)
   simpa using this
set_option maxRecDepth 100000 in
set_option maxHeartbeats 2000000 in
theorem of_call (recs:List (Int×Int)) (chs:List (List Nat)) (e:Int×Int) (hw:WOK recs chs) (he:0≤e.1∧e.1≤4294967296):
  RC Try.prog 79 [tabG recs chs,elG e] (.sc (.int .i64 (ofF recs chs e))):=by
 have hb8:=bkts8 recs.length
 have hbl:=bkts_le recs.length (by have:=hw.n;omega)
 have hcb:=hw.b
 have hi:=bkt_lt e.1.toNat (b:=chs.length) (by omega)
 generalize hix:bkt e.1.toNat chs.length=ix at*
 have hri:∀r∈chs[ix],r<recs.length:=hw.r _ (List.getElem_mem hi)
 have hcl:=hw.l _ (List.getElem_mem hi)
 have hOf:ofF recs chs e=match chs[ix].find? (fun r=>decide (recs.getD r (0,0)=e))with
   |some r=>((r:Nat):Int)
   |none=>-1:=by
  unfold ofF
  rw[hix,show chs.getD ix []=chs[ix]by simp[hi]]
 refine rc_of hmix ctQ_ok Try.func79 rfl (by kernel_rfl) (fun E s hs=>?_)
 simp(maxSteps:=300000)only[begA,Try.ntmps79,List.replicate_succ,List.replicate_zero,List.length_cons,List.length_nil,List.cons_append,List.nil_append]
 repeat(first |(with_reducible first |apply Q0 |apply Q1 |apply QG |apply Q2 |apply Q3 |apply Q4 |apply Q5 |apply Q6 |apply Q7 |apply Q8 |apply Q9 |apply QA |apply QB |apply QC |apply QD |apply QE |apply QF) |((with_reducible apply QK rfl);simp(disch:=omega)only[go_sem,hs,upd_ne,rowsN,cal22,ctQ_22,c22r,hix];exact rfl;simp only[sB,sA,putA];exact rfl) |((first |(with_reducible apply QL rfl) |(apply QM;simp only[go_sem]<;>exact rfl));simp(disch:=omega)only[go_sem,hs,upd_ne,rowsN,cal22,ctQ_22,c22r,hix];exact rfl;simp only[sB,sA,putA];exact rfl;simp only[logT_none,logT_rd,logT_wr,List.cons_append,List.nil_append];exact rfl) |((first |apply QI |apply QN);simp only[go_sem]<;>exact rfl;simp only[sB,sA,putA];exact rfl) |(refine QO ?_ ?_;first |focus(simp only[dyn_nil,dyn_cons,allY_nil,allY_cons,dj_rr,true_or,true_and];done) |focus(simp only[dyn_nil,dyn_cons,allY_nil,allY_cons,Dj,List.mem_cons,List.not_mem_nil,or_false,forall_eq,forall_eq_or_imp,and_true,true_and,false_imp_iff,implies_true];omega) |focus(simp only[dyn_nil,dyn_cons,allY_nil,allY_cons,and_true,true_and];(repeat' refine And.intro ?_ ?_);all_goals first |(left;simp only[Dj,List.mem_cons,List.not_mem_nil,or_false,forall_eq,forall_eq_or_imp,and_true,true_and,false_imp_iff,implies_true];first |done |omega) |(right;kernel_rfl))) |(apply QQ;simp only[evA,gB,gA];exact rfl) |((first |apply QX |apply QY);(first |rfl |decide |assumption)))
 refine AWp.loop [2,3,5,6] (fun Γ H s' m=>∃k:Nat,k≤chs[ix].length∧m=chs[ix].length-k∧Γ=(List.replicate 2 .junk)++[.ptr s 0 0,.ptr (s+1) 0 0]++(List.replicate 1 .junk)++[.dsl chs[ix].length (natsA chs[ix]),.sc (.int .i64 (k:Nat))]++(List.replicate 30 .junk)∧
  H s=some (.row 0 1 [.dsl recs.length (elsA recs),.dsl chs.length (rowsN chs)])∧H (s+1)=some (.row 0 1 (elA e))∧∀j (hj:j<k) (hj2:j<chs[ix].length),recs.getD chs[ix][j] (0,0)≠e) chs[ix].length ?_ ?_
 ·exact⟨0,Nat.zero_le _,rfl,rfl,by(simp(disch:=omega)only[upd_ne,upd_same];rfl),by simp(disch:=omega)only[upd_ne,upd_same],fun j hj=>absurd hj (by omega)⟩
 rintro Γ H s1 m ⟨k,hk,rfl,rfl,hH0,hH1,hI⟩
 refine wA_ok hmix ctQ_ok _ (by kernel_rfl) ?_
 simp(maxSteps:=1000000)only[List.replicate_succ,List.replicate_zero,List.cons_append,List.nil_append,List.append_nil]
 by_cases hlt:k<chs[ix].length
 ·have hrk:=hri _ (List.getElem_mem hlt)
  have hg:recs.getD chs[ix][k] (0,0)=recs[chs[ix][k]]:=by simp[hrk]
  by_cases hee:recs[chs[ix][k]]=e
  ·have he1:recs[chs[ix][k]].1=e.1∧recs[chs[ix][k]].2=e.2:=by rw[hee];exact⟨rfl,rfl⟩
   repeat(first |(with_reducible first |apply Q0 |apply Q1 |apply QG |apply Q2 |apply Q3 |apply Q4 |apply Q5 |apply Q6 |apply Q7 |apply Q8 |apply Q9 |apply QA |apply QB |apply QC |apply QD |apply QE |apply QF) |((with_reducible apply QK rfl);simp(disch:=omega)only[go_sem,hH0,hH1,rowsN,elsA_len,elsA_drop,bin_eql43,he1.1,he1.2];exact rfl;simp only[sB,sA,putA];exact rfl) |((first |(with_reducible apply QL rfl) |(apply QM;simp only[go_sem]<;>exact rfl));simp(disch:=omega)only[go_sem,hH0,hH1,rowsN,elsA_len,elsA_drop,bin_eql43,he1.1,he1.2];exact rfl;simp only[sB,sA,putA];exact rfl;simp only[logT_none,logT_rd,logT_wr,List.cons_append,List.nil_append];exact rfl) |((first |apply QI |apply QN);simp only[go_sem]<;>exact rfl;simp only[sB,sA,putA];exact rfl) |(refine QO ?_ ?_;first |focus(simp only[dyn_nil,dyn_cons,allY_nil,allY_cons,dj_rr,true_or,true_and];done) |focus(simp only[dyn_nil,dyn_cons,allY_nil,allY_cons,Dj,List.mem_cons,List.not_mem_nil,or_false,forall_eq,forall_eq_or_imp,and_true,true_and,false_imp_iff,implies_true];omega) |focus(simp only[dyn_nil,dyn_cons,allY_nil,allY_cons,and_true,true_and];(repeat' refine And.intro ?_ ?_);all_goals first |(left;simp only[Dj,List.mem_cons,List.not_mem_nil,or_false,forall_eq,forall_eq_or_imp,and_true,true_and,false_imp_iff,implies_true];first |done |omega) |(right;kernel_rfl))) |(apply QQ;simp only[evA,gB,gA];exact rfl) |((first |apply QX |apply QY);(first |rfl |decide |assumption)))
   (apply QZ;simp only[aRes,Try.results79,List.toList_toArray,List.getD_cons_succ,List.getD_cons_zero];exact rfl;simp only[packA];exact rfl)
   have:ofF recs chs e=((chs[ix][k]:Nat):Int):=by
    rw[hOf,find_at hlt (fun j hj=>decide_eq_false (hI j hj (by omega))) (decide_eq_true (hg.trans hee))]
   rw[this]
   exact .sc _
  ·have he1:¬(recs[chs[ix][k]].1=e.1∧recs[chs[ix][k]].2=e.2):=fun h=>hee (Prod.ext h.1 h.2)
   repeat(first |(with_reducible first |apply Q0 |apply Q1 |apply QG |apply Q2 |apply Q3 |apply Q4 |apply Q5 |apply Q6 |apply Q7 |apply Q8 |apply Q9 |apply QA |apply QB |apply QC |apply QD |apply QE |apply QF) |((with_reducible apply QK rfl);simp(disch:=omega)only[go_sem,hH0,hH1,rowsN,elsA_len,elsA_drop,bin_eql43,he1];exact rfl;simp only[sB,sA,putA];exact rfl) |((first |(with_reducible apply QL rfl) |(apply QM;simp only[go_sem]<;>exact rfl));simp(disch:=omega)only[go_sem,hH0,hH1,rowsN,elsA_len,elsA_drop,bin_eql43,he1];exact rfl;simp only[sB,sA,putA];exact rfl;simp only[logT_none,logT_rd,logT_wr,List.cons_append,List.nil_append];exact rfl) |((first |apply QI |apply QN);simp only[go_sem]<;>exact rfl;simp only[sB,sA,putA];exact rfl) |(refine QO ?_ ?_;first |focus(simp only[dyn_nil,dyn_cons,allY_nil,allY_cons,dj_rr,true_or,true_and];done) |focus(simp only[dyn_nil,dyn_cons,allY_nil,allY_cons,Dj,List.mem_cons,List.not_mem_nil,or_false,forall_eq,forall_eq_or_imp,and_true,true_and,false_imp_iff,implies_true];omega) |focus(simp only[dyn_nil,dyn_cons,allY_nil,allY_cons,and_true,true_and];(repeat' refine And.intro ?_ ?_);all_goals first |(left;simp only[Dj,List.mem_cons,List.not_mem_nil,or_false,forall_eq,forall_eq_or_imp,and_true,true_and,false_imp_iff,implies_true];first |done |omega) |(right;kernel_rfl))) |(apply QQ;simp only[evA,gB,gA];exact rfl) |((first |apply QX |apply QY);(first |rfl |decide |assumption)))
   refine⟨chs[ix].length-(k+1),by omega,k+1,by omega,rfl,rfl,hH0,hH1,fun j hj hj2=>?_⟩
   by_cases ej:j=k
   ·subst ej;rw[hg];exact hee
   ·exact hI j (by omega) hj2
 ·repeat(first |(with_reducible first |apply Q0 |apply Q1 |apply Q2 |apply Q3 |apply Q4 |apply Q5 |apply Q6 |apply Q7 |apply Q8 |apply Q9 |apply QA |apply QB |apply QC |apply QD |apply QE |apply QF) |((with_reducible apply QK rfl);simp(disch:=omega)only[go_sem];exact rfl;simp only[sB,sA,putA];exact rfl) |(apply QQ;simp only[evA,gB,gA];exact rfl) |((first |apply QX |apply QY);(first |rfl |decide |assumption)))
  (apply QZ;simp only[aRes,Try.results79,List.toList_toArray,List.getD_cons_succ,List.getD_cons_zero];exact rfl;simp only[packA];exact rfl)
  have:ofF recs chs e= -1:=by
   rw[hOf,find_none (fun r hr=>?_)]
   obtain⟨j,hj,rfl⟩:=List.mem_iff_getElem.1 hr
   exact decide_eq_false (hI j (by omega) hj)
  rw[this]
  exact .sc _
def ahF (recs:List (Int×Int)) (c:List Nat) (h:Int):Nat:=(c.takeWhile (fun r=>decide ((recs.getD r (0,0)).1≤h))).length
theorem takeWhile_at {α:Type} {p:α→Bool} {c:List α} {k:Nat} (hk:k≤c.length) (h:∀j (hj:j<k),p (c[j]'(by omega))=true) (hp:∀h:k<c.length,p c[k]=false):(c.takeWhile p).length=k:=by
 induction c generalizing k with
 |nil=>simp at hk;subst hk;rfl
 |cons a c ih=>
  cases k with
  |zero=>have:=hp (by simp);simp at this;simp[List.takeWhile_cons,this]
  |succ k=>
   have h0:=h 0 (by omega)
   simp at h0
   rw[List.takeWhile_cons,if_pos h0]
   have:=ih (k:=k) (by simpa using hk) (fun j hj=>by have:=h (j+1) (by omega);simpa using this) (fun hh=>by have:=hp (by simpa using hh);simpa using this)
   simp[this]
set_option maxRecDepth 100000 in
set_option maxHeartbeats 2000000 in
theorem ahead_call (recs:List (Int×Int)) (chs:List (List Nat)) (c:List Nat) (h:Int) (hn:recs.length≤100000) (hr:∀r∈c,r<recs.length) (hc:c.length≤100000):
  RC Try.prog 80 [tabG recs chs,.dsl c.length (natsA c),.sc (.int .i64 h)] (.sc (.int .i64 (ahF recs c h:Nat))):=by
 refine rc_of hmix ctQ_ok Try.func80 rfl (by kernel_rfl) (fun E s hs=>?_)
 simp(maxSteps:=300000)only[begA,Try.ntmps80,List.replicate_succ,List.replicate_zero,List.length_cons,List.length_nil,List.cons_append,List.nil_append]
 repeat(first |(with_reducible first |apply Q0 |apply Q1 |apply QG |apply Q2 |apply Q3 |apply Q4 |apply Q5 |apply Q6 |apply Q7 |apply Q8 |apply Q9 |apply QA |apply QB |apply QC |apply QD |apply QE |apply QF) |((with_reducible apply QK rfl);simp(disch:=omega)only[go_sem,hs,upd_ne];exact rfl;simp only[sB,sA,putA];exact rfl) |((first |(with_reducible apply QL rfl) |(apply QM;simp only[go_sem]<;>exact rfl));simp(disch:=omega)only[go_sem,hs,upd_ne];exact rfl;simp only[sB,sA,putA];exact rfl;simp only[logT_none,logT_rd,logT_wr,List.cons_append,List.nil_append];exact rfl) |((first |apply QI |apply QN);simp only[go_sem]<;>exact rfl;simp only[sB,sA,putA];exact rfl) |(refine QO ?_ ?_;first |focus(simp only[dyn_nil,dyn_cons,allY_nil,allY_cons,dj_rr,true_or,true_and];done) |focus(simp only[dyn_nil,dyn_cons,allY_nil,allY_cons,Dj,List.mem_cons,List.not_mem_nil,or_false,forall_eq,forall_eq_or_imp,and_true,true_and,false_imp_iff,implies_true];omega) |focus(simp only[dyn_nil,dyn_cons,allY_nil,allY_cons,and_true,true_and];(repeat' refine And.intro ?_ ?_);all_goals first |(left;simp only[Dj,List.mem_cons,List.not_mem_nil,or_false,forall_eq,forall_eq_or_imp,and_true,true_and,false_imp_iff,implies_true];first |done |omega) |(right;kernel_rfl))) |(apply QQ;simp only[evA,gB,gA];exact rfl) |((first |apply QX |apply QY);(first |rfl |decide |assumption)))
 refine AWp.loop [1,2,3,7] (fun Γ H s' m=>∃k:Nat,k≤c.length∧m=c.length-k∧Γ=(List.replicate 1 .junk)++[.dsl c.length (natsA c),.sc (.int .i64 h),.ptr s 0 0]++(List.replicate 3 .junk)++[.sc (.int .i64 (k:Nat))]++(List.replicate 20 .junk)∧
  H s=some (.row 0 1 [.dsl recs.length (elsA recs),.dsl chs.length (rowsN chs)])∧∀j (hj:j<k) (hj2:j<c.length),(recs.getD c[j] (0,0)).1≤h) c.length ?_ ?_
 ·exact⟨0,Nat.zero_le _,rfl,rfl,by simp(disch:=omega)only[upd_ne,upd_same],fun j hj=>absurd hj (by omega)⟩
 rintro Γ H s1 m ⟨k,hk,rfl,rfl,hH0,hI⟩
 refine wA_ok hmix ctQ_ok _ (by kernel_rfl) ?_
 simp(maxSteps:=1000000)only[List.replicate_succ,List.replicate_zero,List.cons_append,List.nil_append,List.append_nil]
 have fin:(∀hh:k<c.length,¬(recs.getD c[k] (0,0)).1≤h)→ahF recs c h=k:=fun hh=>takeWhile_at hk (fun j hj=>decide_eq_true (hI j hj (by omega))) (fun h1=>decide_eq_false (hh h1))
 by_cases hlt:k<c.length
 ·have hrk:=hr _ (List.getElem_mem hlt)
  have hg:recs.getD c[k] (0,0)=recs[c[k]]:=by simp[hrk]
  by_cases hee:recs[c[k]].1≤h
  ·repeat(first |(with_reducible first |apply Q0 |apply Q1 |apply QG |apply Q2 |apply Q3 |apply Q4 |apply Q5 |apply Q6 |apply Q7 |apply Q8 |apply Q9 |apply QA |apply QB |apply QC |apply QD |apply QE |apply QF) |((first |(with_reducible apply QK rfl) |(apply QT;simp only[go_sem]<;>exact rfl));simp(disch:=omega)only[go_sem,hH0,elsA_len,elsA_drop];exact rfl;simp only[sB,sA,putA];exact rfl) |((first |(with_reducible apply QL rfl) |(apply QM;simp only[go_sem]<;>exact rfl));simp(disch:=omega)only[go_sem,hH0,elsA_len,elsA_drop];exact rfl;simp only[sB,sA,putA];exact rfl;simp only[logT_none,logT_rd,logT_wr,List.cons_append,List.nil_append];exact rfl) |((first |apply QI |apply QN);simp only[go_sem]<;>exact rfl;simp only[sB,sA,putA];exact rfl) |(refine QO ?_ ?_;first |focus(simp only[dyn_nil,dyn_cons,allY_nil,allY_cons,dj_rr,true_or,true_and];done) |focus(simp only[dyn_nil,dyn_cons,allY_nil,allY_cons,Dj,List.mem_cons,List.not_mem_nil,or_false,forall_eq,forall_eq_or_imp,and_true,true_and,false_imp_iff,implies_true];omega) |focus(simp only[dyn_nil,dyn_cons,allY_nil,allY_cons,and_true,true_and];(repeat' refine And.intro ?_ ?_);all_goals first |(left;simp only[Dj,List.mem_cons,List.not_mem_nil,or_false,forall_eq,forall_eq_or_imp,and_true,true_and,false_imp_iff,implies_true];first |done |omega) |(right;kernel_rfl))) |(apply QQ;simp only[evA,gB,gA];exact rfl) |((first |apply QX |apply QY);(first |rfl |decide |assumption)))
   refine⟨c.length-(k+1),by omega,k+1,by omega,rfl,rfl,hH0,fun j hj hj2=>?_⟩
   by_cases ej:j=k
   ·subst ej;rw[hg];exact hee
   ·exact hI j (by omega) hj2
  ·repeat(first |(with_reducible first |apply Q0 |apply Q1 |apply QG |apply Q2 |apply Q3 |apply Q4 |apply Q5 |apply Q6 |apply Q7 |apply Q8 |apply Q9 |apply QA |apply QB |apply QC |apply QD |apply QE |apply QF) |((first |(with_reducible apply QK rfl) |(apply QT;simp only[go_sem]<;>exact rfl));simp(disch:=omega)only[go_sem,hH0,elsA_len,elsA_drop];exact rfl;simp only[sB,sA,putA];exact rfl) |((first |(with_reducible apply QL rfl) |(apply QM;simp only[go_sem]<;>exact rfl));simp(disch:=omega)only[go_sem,hH0,elsA_len,elsA_drop];exact rfl;simp only[sB,sA,putA];exact rfl;simp only[logT_none,logT_rd,logT_wr,List.cons_append,List.nil_append];exact rfl) |((first |apply QI |apply QN);simp only[go_sem]<;>exact rfl;simp only[sB,sA,putA];exact rfl) |(refine QO ?_ ?_;first |focus(simp only[dyn_nil,dyn_cons,allY_nil,allY_cons,dj_rr,true_or,true_and];done) |focus(simp only[dyn_nil,dyn_cons,allY_nil,allY_cons,Dj,List.mem_cons,List.not_mem_nil,or_false,forall_eq,forall_eq_or_imp,and_true,true_and,false_imp_iff,implies_true];omega) |focus(simp only[dyn_nil,dyn_cons,allY_nil,allY_cons,and_true,true_and];(repeat' refine And.intro ?_ ?_);all_goals first |(left;simp only[Dj,List.mem_cons,List.not_mem_nil,or_false,forall_eq,forall_eq_or_imp,and_true,true_and,false_imp_iff,implies_true];first |done |omega) |(right;kernel_rfl))) |(apply QQ;simp only[evA,gB,gA];exact rfl) |((first |apply QX |apply QY);(first |rfl |decide |assumption)))
   (apply QZ;simp only[aRes,Try.results80,List.toList_toArray,List.getD_cons_succ,List.getD_cons_zero];exact rfl;simp only[packA];exact rfl)
   rw[fin (fun _=>by rw[hg];exact hee)]
   exact .sc _
 ·repeat(first |(with_reducible first |apply Q0 |apply Q1 |apply QG |apply Q2 |apply Q3 |apply Q4 |apply Q5 |apply Q6 |apply Q7 |apply Q8 |apply Q9 |apply QA |apply QB |apply QC |apply QD |apply QE |apply QF) |((first |(with_reducible apply QK rfl) |(apply QT;simp only[go_sem]<;>exact rfl));simp(disch:=omega)only[go_sem];exact rfl;simp only[sB,sA,putA];exact rfl) |((first |(with_reducible apply QL rfl) |(apply QM;simp only[go_sem]<;>exact rfl));simp(disch:=omega)only[go_sem];exact rfl;simp only[sB,sA,putA];exact rfl;simp only[logT_none,logT_rd,logT_wr,List.cons_append,List.nil_append];exact rfl) |((first |apply QI |apply QN);simp only[go_sem]<;>exact rfl;simp only[sB,sA,putA];exact rfl) |(refine QO ?_ ?_;first |focus(simp only[dyn_nil,dyn_cons,allY_nil,allY_cons,dj_rr,true_or,true_and];done) |focus(simp only[dyn_nil,dyn_cons,allY_nil,allY_cons,Dj,List.mem_cons,List.not_mem_nil,or_false,forall_eq,forall_eq_or_imp,and_true,true_and,false_imp_iff,implies_true];omega) |focus(simp only[dyn_nil,dyn_cons,allY_nil,allY_cons,and_true,true_and];(repeat' refine And.intro ?_ ?_);all_goals first |(left;simp only[Dj,List.mem_cons,List.not_mem_nil,or_false,forall_eq,forall_eq_or_imp,and_true,true_and,false_imp_iff,implies_true];first |done |omega) |(right;kernel_rfl))) |(apply QQ;simp only[evA,gB,gA];exact rfl) |((first |apply QX |apply QY);(first |rfl |decide |assumption)))
  (apply QZ;simp only[aRes,Try.results80,List.toList_toArray,List.getD_cons_succ,List.getD_cons_zero];exact rfl;simp only[packA];exact rfl)
  rw[fin (fun h=>absurd h hlt)]
  exact .sc _
end Go.Proofs.Ytdcomhdadnhpnaa
end
