import Derived.Test.YtdcomhdadnhpnaaYZB25
import Derived.Test.YtdcomhdadnhpnaaYZP22
import Derived.Test.YtdcomhdadnhpnaaYZB21
set_option linter.all false
section
namespace Go.Proofs.Ytdcomhdadnhpnaa
open Go Go.Am Go.RowKit
open Classical in
noncomputable def c78k (kk:Nat):List AV→AP AV
 | [t]=>rdD t fun l=>if l.length≤1000000000∧ValidL l∧kk<(chsT l).length∧(chsT l).getD kk []≠[]then
   .new (.row 0 2 (elsA (recsT l))) fun n1=>.new (.row 0 1 (natsA ((chsT l).getD kk []))) fun g=>.new (.row 0 1 ((rowsN (chsT l)).set kk (.sl g 0 0 ((chsT l).getD kk []).length))) fun n2=>
    .ret (.tup [.agg [.sl n1 0 0 (recsT l).length,.sl n2 0 0 (chsT l).length],.sc (.bool true)])else .fail
 |_=>.fail
set_option maxRecDepth 100000 in
theorem readk_own {l:List Int} (hl:l.length≤1000000000) (hV:ValidL l) (kk:Nat) (hkk:kk<(chsT l).length) (hne:(chsT l).getD kk []≠[]):ACall Try.prog 78 [.dsl l.length (ints l)]
  (.new (.row 0 2 (elsA (recsT l))) fun n1=>.new (.row 0 1 (natsA ((chsT l).getD kk []))) fun g=>.new (.row 0 1 ((rowsN (chsT l)).set kk (.sl g 0 0 ((chsT l).getD kk []).length))) fun n2=>
    .ret (.tup [.agg [.sl n1 0 0 (recsT l).length,.sl n2 0 0 (chsT l).length],.sc (.bool true)])):=by
 refine acall_gen Try.func78 rfl (fun E s0 s r H' s' hr hs=>?_)
 have hs0:∀q,s≤q→E.H q=none:=fun q hq=>(hs q hq).1
 have hall:∀q,s≤q→H' q=none:=fun q hq=>(hs q hq).2
 simp only[AP.run]at hr
 split at hr
 rotate_left
 ·cases hr
 rename_i f1
 split at hr
 rotate_left
 ·cases hr
 rename_i f2
 split at hr
 rotate_left
 ·cases hr
 rename_i f3
 simp only[Option.some.injEq,Prod.mk.injEq]at hr
 obtain⟨rfl,rfl,rfl⟩:=hr
 rw[upd_ne _ _ (by omega),upd_ne _ _ (by omega)]at f3
 rw[upd_ne _ _ (by omega)]at f2
 have hlt:s0+2<s:=Nat.lt_of_not_le fun h=>by
  have:=hall _ h
  rw[show s0+1+1=s0+2 from rfl,upd_same]at this;cases this
 refine(wA_ok hmix (ctK_ok kk) _ (by kernel_rfl) (readk_walk l hl hV kk hkk hne E s hs0 (fun r1 H1=>∃(r2:AV) (N:Nat→Option (Nat×Nat)),Wk r2 _∧Fin E.H H1 N _∧Pub H1 (fun n=>_≠none∧N n=none) N r1 r2) (fun H1 nm1 ver1 nm2 ver2 g hE h1 hn1 h2 hn2 hg hng hne2=>?_)))
 generalize chsT l=chs at*
 generalize recsT l=recs at*
 let N:Nat→Option (Nat×Nat):=fun q=>if q=s0 then some (nm1,0)else if q=s0+1 then some (g,0)else if q=s0+1+1 then some (nm2,0)else none
 have N0:N s0=some (nm1,0):=if_pos rfl
 have N1:N (s0+1)=some (g,0):=by show(if _ then _ else _)=_;rw[if_neg (by omega),if_pos rfl]
 have N2:N (s0+1+1)=some (nm2,0):=by show(if _ then _ else _)=_;rw[if_neg (by omega),if_neg (by omega),if_pos rfl]
 have N3:∀q,q≠s0→q≠s0+1→q≠s0+1+1→N q=none:=fun q a b c=>by show(if _ then _ else _)=_;rw[if_neg a,if_neg b,if_neg c]
 have Ncase:∀q n o,N q=some (n,o)→o=0∧((q=s0∧n=nm1)∨(q=s0+1∧n=g)∨(q=s0+1+1∧n=nm2)):=fun q n o h=>by
  by_cases a:q=s0
  ·subst a;rw[N0]at h;cases h;exact⟨rfl,.inl ⟨rfl,rfl⟩⟩
  ·by_cases b:q=s0+1
   ·subst b;rw[N1]at h;cases h;exact⟨rfl,.inr (.inl ⟨rfl,rfl⟩)⟩
   ·by_cases c:q=s0+1+1
    ·subst c;rw[N2]at h;cases h;exact⟨rfl,.inr (.inr ⟨rfl,rfl⟩)⟩
    ·rw[N3 q a b c]at h;cases h
 have d1:nm1≠g:=fun e=>by rw[e,hg]at h1;cases h1
 have d2:nm1≠nm2:=fun e=>by rw[e,h2]at h1;cases h1
 have hcell:cellsK kk g chs=(rowsN chs).set kk (.sl g 0 0 (chs.getD kk []).length):=by unfold cellsK;rw[if_pos hkk]
 rw[hcell]at h2
 have hk2:kk<(rowsN chs).length:=by rw[rowsN_len];exact hkk
 refine⟨_,N,Wk.rfl',⟨fun n hn=>?_,fun n o' hn=>?_,fun a b n o o' ha hb=>?_,fun q n o hq=>?_,⟨s,hall⟩⟩,?_⟩
 ·have a:n≠s0:=fun e=>hn (by rw[e];exact f1)
  have b:n≠s0+1:=fun e=>hn (by rw[e];exact f2)
  have c:n≠s0+1+1:=fun e=>hn (by rw[e];exact f3)
  exact⟨by rw[upd_ne _ _ c,upd_ne _ _ b,upd_ne _ _ a];exact hn,N3 n a b c⟩
 ·by_cases c:n=s0+1+1
  ·subst c
   rw[upd_same]at hn;cases hn
   refine .inr ⟨nm2,0,ver2,1,_,_,N2,h2,hall nm2 hn2,Nat.zero_le _,rfl,by simp,fun j a b ha hb=>?_⟩
   rw[List.drop_zero]at ha
   by_cases e:kk=j
   ·subst e
    rw[List.getElem?_set_self hk2]at ha hb
    cases ha;cases hb
    exact Pub.ren (s:=s0+1) hg N1 (fun k=>k.1 (hall g hng))
   ·rw[List.getElem?_set_ne e]at ha hb
    rw[ha]at hb;cases hb
    exact .same (row_inS (List.mem_of_getElem? ha))
  ·rw[upd_ne _ _ c]at hn
   by_cases b:n=s0+1
   ·subst b
    rw[upd_same]at hn;cases hn
    refine .inr ⟨g,0,0,1,_,_,N1,hg,hall g hng,Nat.zero_le _,rfl,by simp,fun j a b ha hb=>?_⟩
    rw[List.drop_zero]at ha
    rw[ha]at hb;cases hb
    obtain⟨x,_,rfl⟩:=List.mem_map.1 (List.mem_of_getElem? ha)
    exact Pub.sc _
   ·rw[upd_ne _ _ b]at hn
    by_cases a:n=s0
    ·subst a
     rw[upd_same]at hn;cases hn
     refine .inr ⟨nm1,0,ver1,2,_,_,N0,h1,hall nm1 hn1,Nat.zero_le _,rfl,by simp,fun j a b ha hb=>?_⟩
     rw[List.drop_zero]at ha
     rw[ha]at hb;cases hb
     obtain⟨v,rfl⟩:=elsA_sc (List.mem_of_getElem? ha)
     exact Pub.sc _
    ·rw[upd_ne _ _ a]at hn
     have hlt:n<s:=Nat.lt_of_not_le fun h=>by rw[hs0 n h]at hn;cases hn
     exact .inl ⟨N3 n a b c,.inl ⟨hn,by rw[hE n hlt];exact hn⟩⟩
 ·obtain⟨_,ha⟩:=Ncase a n o ha
  obtain⟨_,hb⟩:=Ncase b n o' hb
  omega
 ·obtain⟨_,hq⟩:=Ncase q n o hq
  rcases hq with⟨rfl,_⟩ |⟨rfl,_⟩ |⟨rfl,_⟩
  ·rw[upd_ne _ _ (by omega),upd_ne _ _ (by omega),upd_same];simp
  ·rw[upd_ne _ _ (by omega),upd_same];simp
  ·rw[upd_same];simp
 ·exact Pub.tab (Pub.ren (s:=s0) h1 N0 (fun k=>k.1 (hall nm1 hn1))) (Pub.ren (s:=s0+1+1) h2 N2 (fun k=>k.1 (hall nm2 hn2))) (Pub.sc _)
theorem a78k (kk:Nat) (args:List AV):ACall Try.prog 78 args (c78k kk args):=by
 intro ρ H w vs hR hA s r H' s' hm
 unfold c78k at hm
 split at hm
 ·obtain⟨v0,rfl,hv0⟩:=reps1 hA
  obtain⟨l,hr,hm⟩:=rdD_ok hv0 hm
  split at hm
  ·rename_i hc
   obtain⟨hl,hV,hkk,hne⟩:=hc
   exact readk_own hl hV kk hkk hne ρ H w _ hR (.cons hr .nil) s r H' s' hm
  ·simp[AP.run]at hm
 ·simp[AP.run]at hm
end Go.Proofs.Ytdcomhdadnhpnaa
end
section
namespace Go.Proofs.Ytdcomhdadnhpnaa
open Go Go.Am Go.RowKit
theorem rwithout_rc (c:List Nat) (n:Nat) (hc:c.length≤100000):RC Try.prog 84 [.dsl c.length (natsA c),.sc (.int .i64 (n:Nat))] (.dsl (wiN c n).length (natsA (wiN c n))):=by
 refine rc_of hmix noCT_ok Try.func84 rfl (by kernel_rfl) (fun E s hs=>?_)
 refine rwithout_walk c n hc E s (fun q _=>hs q) _ (fun v H s' hO=>?_)
 obtain⟨_,_,_,⟨h0,h1,rfl⟩ |⟨nm,ver,h0,rfl,h1,h2,h3⟩⟩:=hO
 ·rw[h0,h1];exact .nil
 ·exact Exp.ints h1
def c84d:List AV→AP AV
 | [y,.sc (.int .i64 n)]=>rdN y fun c=>if 0≤n∧c.length≤100000 then .ret (.dsl (wiN c n.toNat).length (natsA (wiN c n.toNat)))else .fail
 |_=>.fail
theorem a84d (args:List AV):ACall Try.prog 84 args (c84d args):=by
 intro ρ H w vs hR hA s r H' s' hm
 unfold c84d at hm
 split at hm
 ·rename_i y n
  obtain⟨v0,v1,rfl,hv0,hv1⟩:=reps2 hA
  obtain⟨c,hr,hm⟩:=rdN_data hR hv0 hm
  split at hm
  ·rename_i hw
   simp only[AP.run,Option.some.injEq,Prod.mk.injEq]at hm
   obtain⟨rfl,rfl,rfl⟩:=hm
   obtain rfl:=Rep.sc_iff.1 hv1
   have:=rwithout_rc c n.toNat hw.2
   rw[show((n.toNat:Nat):Int)=n by omega]at this
   exact this.acall hR (.cons hr (.cons (.sc _) .nil))
  ·simp[AP.run]at hm
 ·simp[AP.run]at hm
open Classical in
/-- Buckets;at its call the own row q,which lies in the row nm,turns to data -/
noncomputable def c18f (q nm kk:Nat) (c:List Nat) (cs:List AV) (args:List AV):AP AV:=
 .get q fun o=>if o= .row 0 1 (natsA c)then .get nm fun o2=>if o2= .row 0 1 cs∧cs[kk]? =some (.sl q 0 0 c.length)∧q≠nm then
  .set q (.dead 0) (.set nm (.row 0 1 (cs.set kk (.dsl c.length (natsA c)))) (c18r args))else .fail else .fail
theorem a18f (q nm kk:Nat) (c:List Nat) (cs:List AV) (args:List AV):ACall Try.prog 18 args (c18f q nm kk c cs args):=by
 intro ρ H w vs hR hA s r H' s' hm
 unfold c18f at hm
 obtain⟨o,h1,hm⟩:=get_some hm
 split at hm
 ·rename_i e
  subst e
  obtain⟨o2,h2,hm⟩:=get_some hm
  split at hm
  ·rename_i e
   obtain⟨rfl,h3,h4⟩:=e
   simp only[AP.run]at hm
   have hs:=Step.freeze hR h1 h2 h3 h4
   refine(a18r args ρ _ w vs hs.rel (hs.reps hA) s r H' s' hm).mono ?_
   rintro e w' ⟨v,ρ',rfl,k1,k2⟩
   exact⟨v,ρ',rfl,hs.trans k1,k2⟩
  ·simp[AP.run]at hm
 ·simp[AP.run]at hm
noncomputable def ctD (A B C:List AV→AP AV):CT:=fun f args=>if f=18 then A args else if f=78 then B args else if f=84 then C args else ctS f args
theorem ctD_ok {A B C:List AV→AP AV} (hA:∀args,ACall Try.prog 18 args (A args)) (hB:∀args,ACall Try.prog 78 args (B args)) (hC:∀args,ACall Try.prog 84 args (C args)):CTok Try.prog (ctD A B C):=fun f args=>by
 unfold ctD
 split
 ·rename_i e;subst e;exact hA args
 split
 ·rename_i e;subst e;exact hB args
 split
 ·rename_i e;subst e;exact hC args
 ·exact ctS_ok f args
section
variable (A B C:List AV→AP AV) (a:List AV)
theorem ctD_18:ctD A B C 18 a=A a:=rfl
theorem ctD_21:ctD A B C 21 a=ctR 21 a:=rfl
theorem ctD_22:ctD A B C 22 a=ctR 22 a:=rfl
theorem ctD_51:ctD A B C 51 a=c51o a:=rfl
theorem ctD_78:ctD A B C 78 a=B a:=rfl
theorem ctD_79:ctD A B C 79 a=c79 a:=rfl
theorem ctD_83:ctD A B C 83 a=c83 a:=rfl
theorem ctD_84:ctD A B C 84 a=C a:=rfl
theorem ctD_85:ctD A B C 85 a=c85 a:=rfl
end
theorem dropF_600 {l:List Int} {h x:Int} (hV:¬ValidL l):dropF l h x=(0,[],600):=dropF_eq (.inl ⟨hV,rfl,rfl,rfl⟩)
theorem elsA_takeK (L:List (Int×Int)):∀k,(elsA L).take (k*2)=elsA (L.take k):=by
 induction L with
 |nil=>intro k;simp[elsA]
 |cons a L ih=>
  intro k
  cases k with
  |zero=>rfl
  |succ k=>
   rw[show(k+1)*2=k*2+1+1 by omega]
   exact congrArg (fun t=>AV.sc (Value.int .i64 a.1)::AV.sc (Value.int .i64 a.2)::t) (ih k)
theorem elsA_dropK (L:List (Int×Int)):∀k,(elsA L).drop (k*2)=elsA (L.drop k):=by
 induction L with
 |nil=>intro k;simp[elsA]
 |cons a L ih=>
  intro k
  cases k with
  |zero=>rfl
  |succ k=>
   rw[show(k+1)*2=k*2+1+1 by omega]
   exact ih k
theorem elsA_putE {L:List (Int×Int)} {k:Nat} (e:Int×Int) (h:k<L.length):putCells (elsA L) (k*2) [.sc (.int .i64 e.1),.sc (.int .i64 e.2)]=elsA (L.set k e):=by
 have e0:putCells (elsA L) (k*2) [.sc (.int .i64 e.1),.sc (.int .i64 e.2)]=(elsA L).take (k*2)++[AV.sc (.int .i64 e.1),AV.sc (.int .i64 e.2)]++(elsA L).drop (k*2+2):=rfl
 rw[e0,show k*2+2=(k+1)*2 by omega,elsA_takeK,elsA_dropK,List.set_eq_take_append_cons_drop,if_pos h,elsA_append,List.append_assoc]
 rfl
theorem rowsN_take (chs:List (List Nat)) (k:Nat):(rowsN chs).take k=rowsN (chs.take k):=by simp[rowsN,List.map_take]
theorem mrgR_len (recs:List (Int×Int)):∀(k:Nat) (a l:List Nat),a.length+l.length≤k→(mrgR recs a l).length=a.length+l.length
 |_,[],l,_=>by rw[mrgR_nill];simp
 |_,x::a,[],_=>by rw[mrgR_nilr];simp
 |0,x::a,y::l,hk=>by simp at hk
 |k+1,x::a,y::l,hk=>by
  simp only[List.length_cons]at hk
  by_cases e:(recs.getD x (0,0)).1<(recs.getD y (0,0)).1
  ·rw[mrgR_lt e,List.length_cons,mrgR_len recs k a (y::l) (by simp only[List.length_cons];omega)];simp only[List.length_cons];omega
  ·rw[mrgR_ge e,List.length_cons,mrgR_len recs k (x::a) l (by simp only[List.length_cons];omega)];simp only[List.length_cons];omega
theorem MOK.olen {recs:List (Int×Int)} {n:Nat} {chs:List (List Nat)} (h:MOK recs n chs):(mrgO recs chs).length≤200000:=by
 have key:∀i,(chs.getD i []).length≤100000:=fun i=>by
  by_cases hi:i<chs.length
  ·have:chs.getD i []=chs[i]:=by simp[hi]
   rw[this];exact h.l _ (List.getElem_mem hi)
  ·rw[List.getD_eq_getElem?_getD,List.getElem?_eq_none (by omega)];simp
 unfold mrgO
 rw[mrgR_len recs _ _ _ (Nat.le_refl _)]
 have:=key (mrgI chs.length)
 have:=key (chs.length-1)
 omega
end Go.Proofs.Ytdcomhdadnhpnaa
end
