import Derived.Test.YtdcomhdadnhpnaaYZA19
import Derived.Test.YtdcomhdadnhpnaaYZA25
set_option linter.all false
section
namespace Go.Proofs.Ytdcomhdadnhpnaa
open Go Go.Am Go.RowKit
attribute [local irreducible] wA opsQ opsLQ thenA blockA EndA
theorem record_call (r:Nat) (hr:r≤1000000):ACall Try.prog 91 [.sc (.int .i64 (r:Nat))] (.ret (.sc (.int .i64 (recAt r:Nat)))):=by
 refine acall_pure' hmix (ct:=noCT) noCT_ok Try.func91 rfl (by kernel_rfl) (fun E s hs=>?_)
 simp(maxSteps:=300000)only[begA,Try.ntmps91,List.replicate_succ,List.replicate_zero,List.length_cons,List.length_nil,List.cons_append,List.nil_append]
 repeat(first |(with_reducible first |apply Q0 |apply Q1 |apply Q2 |apply Q3 |apply Q4 |apply Q5 |apply Q6 |apply Q7 |apply Q8 |apply Q9 |apply QA |apply QB |apply QC |apply QD |apply QE |apply QF) |((with_reducible apply QK rfl);simp(disch:=omega)only[go_sem];exact rfl;simp only[sB,sA,putA];exact rfl) |(apply QQ;simp only[evA,gB,gA];exact rfl) |((first |apply QX |apply QY);(first |rfl |decide |assumption)))
 (apply QZ;simp only[aRes,Try.results91,List.toList_toArray,List.getD_cons_succ,List.getD_cons_zero];exact rfl;simp only[packA];exact rfl)
 refine⟨fun _ _=>rfl,?_⟩
 have:(4:Int)+56*((r:Int)/16)+8+3*((r:Int)%16)=((recAt r:Nat):Int):=by unfold recAt;omega
 rw[this]
 exact Pub.sc _
theorem head_call (r:Nat) (hr:r≤1000000):ACall Try.prog 92 [.sc (.int .i64 (r:Nat))] (.ret (.sc (.int .i64 (headAt r:Nat)))):=by
 refine acall_pure' hmix (ct:=noCT) noCT_ok Try.func92 rfl (by kernel_rfl) (fun E s hs=>?_)
 simp(maxSteps:=300000)only[begA,Try.ntmps92,List.replicate_succ,List.replicate_zero,List.length_cons,List.length_nil,List.cons_append,List.nil_append]
 repeat(first |(with_reducible first |apply Q0 |apply Q1 |apply Q2 |apply Q3 |apply Q4 |apply Q5 |apply Q6 |apply Q7 |apply Q8 |apply Q9 |apply QA |apply QB |apply QC |apply QD |apply QE |apply QF) |((with_reducible apply QK rfl);simp(disch:=omega)only[go_sem];exact rfl;simp only[sB,sA,putA];exact rfl) |(apply QQ;simp only[evA,gB,gA];exact rfl) |((first |apply QX |apply QY);(first |rfl |decide |assumption)))
 (apply QZ;simp only[aRes,Try.results92,List.toList_toArray,List.getD_cons_succ,List.getD_cons_zero];exact rfl;simp only[packA];exact rfl)
 refine⟨fun _ _=>rfl,?_⟩
 have:(4:Int)+56*((r:Int)/8)+(r:Int)%8=((headAt r:Nat):Int):=by unfold headAt;omega
 rw[this]
 exact Pub.sc _
def c18r:List AV→AP AV
 | [.sc (.int .i64 n)]=>if 0≤n∧n≤1000000 then .ret (.sc (.int .i64 (bkts n.toNat:Nat)))else .fail
 |_=>.fail
def c19r:List AV→AP AV
 | [.sc (.int .i64 n)]=>if 0≤n∧n≤1000000 then .ret (.sc (.int .i64 (wlen n.toNat:Nat)))else .fail
 |_=>.fail
def c22r:List AV→AP AV
 | [.sc (.int .i64 h),.sc (.int .i64 b)]=>if 0≤h∧h≤4294967296∧1≤b∧b≤1000000 then .ret (.sc (.int .i64 (bkt h.toNat b.toNat:Nat)))else .fail
 |_=>.fail
def c67r:List AV→AP AV
 | [.sc (.int .i64 b)]=>if 1≤b∧b≤1000000 then .ret (.sc (.int .i64 (pow2 b.toNat:Nat)))else .fail
 |_=>.fail
def c91r:List AV→AP AV
 | [.sc (.int .i64 r)]=>if 0≤r∧r≤1000000 then .ret (.sc (.int .i64 (recAt r.toNat:Nat)))else .fail
 |_=>.fail
def c92r:List AV→AP AV
 | [.sc (.int .i64 r)]=>if 0≤r∧r≤1000000 then .ret (.sc (.int .i64 (headAt r.toNat:Nat)))else .fail
 |_=>.fail
theorem num1 {f:FuncId} {x:Int} {r:Value} (h:∀w,Calls Try.prog f #[.int .i64 x] w fun e w'=>e= .returned r∧w'=w) {ρ:Inj} {H H':AHp} {w:World} {vs:List Value} (hR:Rel ρ H w) (hA:Reps ρ (own ρ H) w [.sc (.int .i64 x)] vs) {s s':Nat} {q:AV} (hm:(AP.ret (.sc r):AP AV).run H s=some (q,H',s')):
  Calls Try.prog f vs.toArray w fun e w'=>∃v ρ',e= .returned v∧Step ρ H w ρ' H' w'∧Rep ρ' (own ρ' H') w' q v:=by
 obtain⟨v0,rfl,hv0⟩:=reps1 hA
 obtain rfl:=Rep.sc_iff.1 hv0
 simp only[AP.run,Option.some.injEq,Prod.mk.injEq]at hm
 obtain⟨rfl,rfl,rfl⟩:=hm
 refine(h w).mono ?_
 rintro e w' ⟨rfl,rfl⟩
 exact⟨_,ρ,rfl,.refl hR,.sc _⟩
theorem a18r (args:List AV):ACall Try.prog 18 args (c18r args):=by
 intro ρ H w vs hR hA s r H' s' hm
 unfold c18r at hm
 split at hm
 ·split at hm
  ·rename_i n hn
   exact num1 (fun w=>rBuckets_any n w hn.1 hn.2) hR hA hm
  ·simp[AP.run]at hm
 ·simp[AP.run]at hm
theorem a19r (args:List AV):ACall Try.prog 19 args (c19r args):=by
 intro ρ H w vs hR hA s r H' s' hm
 unfold c19r at hm
 split at hm
 ·split at hm
  ·rename_i n hn
   exact num1 (fun w=>rLength_any n w hn.1 hn.2) hR hA hm
  ·simp[AP.run]at hm
 ·simp[AP.run]at hm
theorem a67r (args:List AV):ACall Try.prog 67 args (c67r args):=by
 intro ρ H w vs hR hA s r H' s' hm
 unfold c67r at hm
 split at hm
 ·split at hm
  ·rename_i n hn
   exact num1 (fun w=>rPower_any n w hn.1 hn.2) hR hA hm
  ·simp[AP.run]at hm
 ·simp[AP.run]at hm
theorem a22r (args:List AV):ACall Try.prog 22 args (c22r args):=by
 intro ρ H w vs hR hA s r H' s' hm
 unfold c22r at hm
 split at hm
 ·split at hm
  ·rename_i h b hh
   obtain⟨v0,v1,rfl,hv0,hv1⟩:=reps2 hA
   obtain rfl:=Rep.sc_iff.1 hv0
   obtain rfl:=Rep.sc_iff.1 hv1
   simp only[AP.run,Option.some.injEq,Prod.mk.injEq]at hm
   obtain⟨rfl,rfl,rfl⟩:=hm
   refine(rBucket_any h b w hh.1 hh.2.1 hh.2.2.1 hh.2.2.2).mono ?_
   rintro e w' ⟨rfl,rfl⟩
   exact⟨_,ρ,rfl,.refl hR,.sc _⟩
  ·simp[AP.run]at hm
 ·simp[AP.run]at hm
theorem a91r (args:List AV):ACall Try.prog 91 args (c91r args):=by
 intro ρ H w vs hR hA s r H' s' hm
 unfold c91r at hm
 split at hm
 ·split at hm
  ·rename_i n hn
   have:=record_call n.toNat (by omega)
   rw[show((n.toNat:Nat):Int)=n by omega]at this
   exact this ρ H w vs hR hA s r H' s' hm
  ·simp[AP.run]at hm
 ·simp[AP.run]at hm
theorem a92r (args:List AV):ACall Try.prog 92 args (c92r args):=by
 intro ρ H w vs hR hA s r H' s' hm
 unfold c92r at hm
 split at hm
 ·split at hm
  ·rename_i n hn
   have:=head_call n.toNat (by omega)
   rw[show((n.toNat:Nat):Int)=n by omega]at this
   exact this ρ H w vs hR hA s r H' s' hm
  ·simp[AP.run]at hm
 ·simp[AP.run]at hm
noncomputable def ctN:CT:=fun f args=>if f=18 then c18r args else if f=19 then c19r args else if f=21 then c21 args else if f=22 then c22r args else if f=67 then c67r args else if f=91 then c91r args else if f=92 then c92r args else .fail
theorem ctN_ok:CTok Try.prog ctN:=fun f args=>by
 unfold ctN
 split
 ·rename_i e;subst e;exact a18r args
 split
 ·rename_i e;subst e;exact a19r args
 split
 ·rename_i e;subst e;exact a21 args
 split
 ·rename_i e;subst e;exact a22r args
 split
 ·rename_i e;subst e;exact a67r args
 split
 ·rename_i e;subst e;exact a91r args
 split
 ·rename_i e;subst e;exact a92r args
 ·intro ρ H w vs hR hA s r H' s' hm;simp[AP.run]at hm
theorem ctN_18 (a:List AV):ctN 18 a=c18r a:=rfl
theorem ctN_19 (a:List AV):ctN 19 a=c19r a:=rfl
theorem ctN_21 (a:List AV):ctN 21 a=c21 a:=rfl
theorem ctN_22 (a:List AV):ctN 22 a=c22r a:=rfl
theorem ctN_67 (a:List AV):ctN 67 a=c67r a:=rfl
theorem ctN_91 (a:List AV):ctN 91 a=c91r a:=rfl
theorem ctN_92 (a:List AV):ctN 92 a=c92r a:=rfl
theorem cal18:callable Try.prog 18=true:=by kernel_rfl
theorem cal19:callable Try.prog 19=true:=by kernel_rfl
theorem cal21:callable Try.prog 21=true:=by kernel_rfl
theorem cal22:callable Try.prog 22=true:=by kernel_rfl
theorem cal67:callable Try.prog 67=true:=by kernel_rfl
theorem cal91:callable Try.prog 91=true:=by kernel_rfl
theorem cal92:callable Try.prog 92=true:=by kernel_rfl
def chF (l:List Int) (n:Nat):Nat→Nat→Option (List Nat)
 |0,f=>if ati l f=0 then some []else none
 |k+1,f=>if ati l f=0 then some []else if 1≤ati l f∧ati l f≤(n:Int)then(chF l n k (recAt (ati l f-1).toNat+2)).map ((ati l f-1).toNat:: ·)else none
abbrev natsA (c:List Nat):List AV:=ints (c.map fun r:Nat=>(r:Int))
abbrev chG (o:Option (List Nat)):AV:=match o with
 |some c=>.tup [.dsl c.length (natsA c),.sc (.bool true)]
 |none=>.tup [.dsl 0 [],.sc (.bool false)]
def chX:Option (List Nat)→Option (List Int)
 |some (r::c)=>some ((r::c).map fun x:Nat=>(x:Int))
 |_=>none
theorem ati_some {l:List Int} {i:Nat} (h:i<l.length):l[i]=ati l i:=by unfold ati;simp[h]
theorem ints_at_ {l:List Int} {i:Nat} (h:i<l.length):(ints l)[i]? =some (.sc (.int .i64 (ati l i))):=by
 rw[List.getElem?_map,List.getElem?_eq_getElem h,ati_some h];rfl
theorem Exp.tup2 {H:AHp} {a a' b b':AV} (h:Exp H a a') (k:Exp H b b'):Exp H (.tup [a,b]) (.tup [a',b']):=by
 refine .tup rfl (fun i x y hx hy=>?_)
 match i with
 |0=>simp at hx hy;subst hx;subst hy;exact h
 |1=>simp at hx hy;subst hx;subst hy;exact k
 |i+2=>simp at hx
theorem Exp.ints {H:AHp} {n ver len:Nat} {l:List Int} (h:H n=some (.row ver 1 (ints l))):Exp H (.sl n ver 0 len) (.dsl len (ints l)):=by
 refine .sl h (by simp) (fun i a b ha hb=>?_)
 rw[List.drop_zero]at ha
 rw[ha]at hb;cases hb
 obtain⟨x,_,rfl⟩:=List.mem_map.1 (List.mem_of_getElem? ha)
 exact .sc _
set_option maxRecDepth 100000 in
set_option maxHeartbeats 1000000 in
theorem chain_ro (l:List Int) (n i:Nat) (hn:n≤100000) (hl:l.length=wlen n) (hi:i<bkts n):
  RO Try.prog 106 [.dsl l.length (ints l),.sc (.int .i64 (n:Nat)),.sc (.int .i64 (i:Nat))] (OwnT (chX (chF l n n (headAt i))) [.bool (chF l n n (headAt i)).isSome]):=by
 have hb:=bkts_le n (by omega)
 have hll:=wlen_le n (by omega)
 have hh:=headAt_wlen hi
 have hrec:∀r,r<n→recAt r+2<l.length:=fun r hr=>by rw[hl];exact recAt_wlen hr
 refine ro_of Try.func106 rfl (fun E s hs=>?_)
 refine wA_ok hmix ctN_ok _ (by kernel_rfl) ?_
 simp(maxSteps:=300000)only[begA,Try.ntmps106,List.replicate_succ,List.replicate_zero,List.length_cons,List.length_nil,List.cons_append,List.nil_append]
 repeat(first |(with_reducible first |apply Q0 |apply Q1 |apply Q2 |apply Q3 |apply Q4 |apply Q5 |apply Q6 |apply Q7 |apply Q8 |apply Q9 |apply QA |apply QB |apply QC |apply QD |apply QE |apply QF) |((with_reducible apply QK rfl);simp(disch:=omega)only[go_sem,cal92,ctN_92,c92r,ints_len,List.getElem_map,ati_some];exact rfl;simp only[sB,sA,putA];exact rfl) |(apply QQ;simp only[evA,gB,gA];exact rfl) |((first |apply QX |apply QY);(first |rfl |decide |assumption)))
 refine AWp.loop [0,1,8,9] (fun Γ H s' m=>∃(acc:List Nat) (v:AV) (f:Nat),m=n-acc.length∧acc.length≤n∧f<l.length∧Γ=[.dsl l.length (ints l),.sc (.int .i64 (n:Nat))]++(List.replicate 6 .junk)++[v,.sc (.int .i64 (ati l f))]++(List.replicate 33 .junk)∧
  OwnE E s 1 v H s' (natsA acc) acc.length∧chF l n n (headAt i)=(chF l n (n-acc.length) f).map (acc++ ·)) n ?_ ?_
 ·exact⟨[],_,headAt i,rfl,Nat.zero_le _,by omega,rfl,OwnE.start (fun q _=>hs q),by simp⟩
 rintro Γ H s1 m ⟨acc,v,f,rfl,hacc,hf,rfl,hO,hC⟩
 refine wA_ok hmix ctN_ok _ (by kernel_rfl) ?_
 simp(maxSteps:=1000000)only[List.replicate_succ,List.replicate_zero,List.cons_append,List.nil_append,List.append_nil]
 by_cases hz:ati l f=0
 ·have hC2:chF l n n (headAt i)=some acc:=by
   rw[hC]
   cases n-acc.length<;>simp[chF,hz]
  rw[hC2]
  repeat(first |(with_reducible first |apply Q0 |apply Q1 |apply Q2 |apply Q3 |apply Q4 |apply Q5 |apply Q6 |apply Q7 |apply Q8 |apply Q9 |apply QA |apply QB |apply QC |apply QD |apply QE |apply QF) |((with_reducible apply QK rfl);simp(disch:=omega)only[go_sem];exact rfl;simp only[sB,sA,putA];exact rfl) |(apply QQ;simp only[evA,gB,gA];exact rfl) |((first |apply QX |apply QY);(first |rfl |decide |assumption)))
  (apply QZ;simp only[aRes,Try.results106,List.toList_toArray,List.getD_cons_succ,List.getD_cons_zero];exact rfl;simp only[packA];exact rfl)
  obtain⟨_,_,_,⟨h3,h4,rfl⟩ |⟨nm,ver,h00,rfl,h4,h5,h6⟩⟩:=hO
  ·obtain rfl:=List.length_eq_zero_iff.1 h3
   exact⟨_,rfl,rfl⟩
  ·cases acc with
   |nil=>simp at h00
   |cons r c=>exact⟨_,rfl,nm,ver,by simp,h4⟩
 ·have hlv:=hO.len31
  by_cases hbad:¬(1≤ati l f∧ati l f≤(n:Int))∨n≤acc.length
  ·have hC2:chF l n n (headAt i)=none:=by
    rw[hC]
    cases hk:n-acc.length with
    |zero=>simp[chF,hz]
    |succ k=>
     have:¬(1≤ati l f∧ati l f≤(n:Int)):=by
      rcases hbad with h |h
      ·exact h
      ·omega
     rw[chF,if_neg hz,if_neg this];rfl
   rw[hC2]
   have hz':(ati l f==0)=false:=by simpa using hz
   by_cases h1:ati l f<1
   ·repeat(first |(with_reducible first |apply Q0 |apply Q1 |apply Q2 |apply Q3 |apply Q4 |apply Q5 |apply Q6 |apply Q7 |apply Q8 |apply Q9 |apply QA |apply QB |apply QC |apply QD |apply QE |apply QF) |((first |(with_reducible apply QK rfl) |(apply QT;simp only[go_sem]<;>exact rfl));simp(disch:=omega)only[go_sem];exact rfl;simp only[sB,sA,putA];exact rfl) |(apply QI;simp only[go_sem]<;>exact rfl;simp only[sB,sA,putA];exact rfl) |(apply QQ;simp only[evA,gB,gA];exact rfl) |((first |apply QX |apply QY);(first |rfl |decide |assumption)))
    (apply QZ;simp only[aRes,Try.results106,List.toList_toArray,List.getD_cons_succ,List.getD_cons_zero];exact rfl;simp only[packA];exact rfl)
    exact⟨_,rfl,rfl⟩
   by_cases h2:(n:Int)<ati l f
   ·repeat(first |(with_reducible first |apply Q0 |apply Q1 |apply Q2 |apply Q3 |apply Q4 |apply Q5 |apply Q6 |apply Q7 |apply Q8 |apply Q9 |apply QA |apply QB |apply QC |apply QD |apply QE |apply QF) |((first |(with_reducible apply QK rfl) |(apply QT;simp only[go_sem]<;>exact rfl));simp(disch:=omega)only[go_sem];exact rfl;simp only[sB,sA,putA];exact rfl) |(apply QI;simp only[go_sem]<;>exact rfl;simp only[sB,sA,putA];exact rfl) |(apply QQ;simp only[evA,gB,gA];exact rfl) |((first |apply QX |apply QY);(first |rfl |decide |assumption)))
    (apply QZ;simp only[aRes,Try.results106,List.toList_toArray,List.getD_cons_succ,List.getD_cons_zero];exact rfl;simp only[packA];exact rfl)
    exact⟨_,rfl,rfl⟩
   have h3:n≤acc.length:=by
    rcases hbad with h |h
    ·omega
    ·exact h
   repeat(first |(with_reducible first |apply Q0 |apply Q1 |apply Q2 |apply Q3 |apply Q4 |apply Q5 |apply Q6 |apply Q7 |apply Q8 |apply Q9 |apply QA |apply QB |apply QC |apply QD |apply QE |apply QF) |((first |(with_reducible apply QK rfl) |(apply QT;simp only[go_sem]<;>exact rfl));simp(disch:=omega)only[go_sem,↓hlv];exact rfl;simp only[sB,sA,putA];exact rfl) |(apply QI;simp only[go_sem]<;>exact rfl;simp only[sB,sA,putA];exact rfl) |(apply QQ;simp only[evA,gB,gA];exact rfl) |((first |apply QX |apply QY);(first |rfl |decide |assumption)))
   (apply QZ;simp only[aRes,Try.results106,List.toList_toArray,List.getD_cons_succ,List.getD_cons_zero];exact rfl;simp only[packA];exact rfl)
   exact⟨_,rfl,rfl⟩
  ·have hg:1≤ati l f∧ati l f≤(n:Int):=by
    rcases Classical.em (1≤ati l f∧ati l f≤(n:Int))with h |h
    ·exact h
    ·exact absurd (.inl h) hbad
   have hlt:acc.length<n:=Nat.lt_of_not_le fun h=>hbad (.inr h)
   obtain⟨r,hr⟩:∃r:Nat,ati l f=(r:Int)+1:=⟨(ati l f-1).toNat,by omega⟩
   have hrn:r<n:=by omega
   have hr2:=hrec r hrn
   have hi2:(((recAt r:Nat):Int)+2).toNat=recAt r+2:=by omega
   have hsub:(r:Int)+1-1=(r:Int):=by omega
   have hC':chF l n n (headAt i)=(chF l n (n-(acc++[r]).length) (recAt r+2)).map ((acc++[r])++ ·):=by
    have e1:n-acc.length=(n-(acc++[r]).length)+1:=by simp;omega
    rw[hC,e1,chF,if_neg hz,if_pos hg,hr,hsub,Int.toNat_natCast,Option.map_map]
    congr 1
    funext x;simp
   have hap:natsA (acc++[r])=natsA acc++[.sc (.int .i64 (r:Nat))]:=by simp
   have hal:(natsA acc).length=acc.length:=by simp
   have hat:(natsA acc).take acc.length=natsA acc:=List.take_of_length_le (by simp)
   have hao:(natsA acc).all AV.one=true:=ints_all _
   rw[hr]at hz hg
   obtain⟨hss,hfr,hE,⟨h0,hcs,rfl⟩ |⟨nm,ver,h0,rfl,hH,hlt2,hEn⟩⟩:=hO
   ·obtain rfl:=List.length_eq_zero_iff.1 h0
    repeat(first |(with_reducible first |apply Q0 |apply Q1 |apply Q2 |apply Q3 |apply Q4 |apply Q5 |apply Q6 |apply Q7 |apply Q8 |apply Q9 |apply QA |apply QB |apply QC |apply QD |apply QE |apply QF) |((first |(with_reducible apply QK rfl) |(apply QT;simp only[go_sem]<;>exact rfl));simp(disch:=omega)only[go_sem,hr,hsub,cal91,ctN_91,c91r,hfr,upd_ne,ints_len,ati_some,hi2,↓len_nil31];exact rfl;simp only[sB,sA,putA];exact rfl) |(apply QI;simp only[go_sem]<;>exact rfl;simp only[sB,sA,putA];exact rfl) |(apply QQ;simp only[evA,gB,gA];exact rfl) |((first |apply QX |apply QY);(first |rfl |decide |assumption)))
    refine⟨n-1,by omega,[r],_,recAt r+2,rfl,by simp;omega,hr2,rfl,?_,hC'⟩
    refine⟨by omega,fun q hq=>?_,fun q hq=>?_,.inr ⟨_,_,by simp,rfl,upd_same _ _ _,by omega,by omega⟩⟩
    ·rw[upd_ne _ _ (by omega),upd_ne _ _ (by omega)];exact hfr q (by omega)
    ·rw[upd_ne _ _ (by omega),upd_ne _ _ (by omega)];exact hE q hq
   ·repeat(first |(with_reducible first |apply Q0 |apply Q1 |apply Q2 |apply Q3 |apply Q4 |apply Q5 |apply Q6 |apply Q7 |apply Q8 |apply Q9 |apply QA |apply QB |apply QC |apply QD |apply QE |apply QF) |((first |(with_reducible apply QK rfl) |(apply QT;simp only[go_sem]<;>exact rfl));simp(disch:=omega)only[go_sem,hr,hsub,cal91,ctN_91,c91r,hfr,hH,upd_ne,ints_len,ati_some,hi2,hal,hat,hao];exact rfl;simp only[sB,sA,putA];exact rfl) |(apply QI;simp only[go_sem]<;>exact rfl;simp only[sB,sA,putA];exact rfl) |(apply QQ;simp only[evA,gB,gA];exact rfl) |((first |apply QX |apply QY);(first |rfl |decide |assumption)))
    refine⟨n-(acc++[r]).length,by simp;omega,acc++[r],_,recAt r+2,rfl,by simp;omega,hr2,rfl,?_,hC'⟩
    refine⟨by omega,fun q hq=>?_,fun q hq=>?_,.inr ⟨nm,ver+1,by simp,by rw[List.length_append];rfl,by rw[upd_same,hap],by omega,hEn⟩⟩
    ·rw[upd_ne _ _ (by omega),upd_ne _ _ (by omega)];exact hfr q (by omega)
    ·rw[upd_ne _ _ (by omega),upd_ne _ _ (by omega)];exact hE q hq
theorem chain_call (l:List Int) (n i:Nat) (hn:n≤100000) (hl:l.length=wlen n) (hi:i<bkts n):
  RC Try.prog 106 [.dsl l.length (ints l),.sc (.int .i64 (n:Nat)),.sc (.int .i64 (i:Nat))] (chG (chF l n n (headAt i))):=by
 refine(chain_ro l n i hn hl hi).rc (fun a H h=>?_)
 obtain⟨x,rfl,hx⟩:=h
 cases hc:chF l n n (headAt i)with
 |none=>
  rw[hc]at hx
  have hx:x= .sc (.slice none 0 0):=hx
  subst hx
  exact Exp.tup2 .nil (.sc _)
 |some c=>
  rw[hc]at hx
  cases c with
  |nil=>
   have hx:x= .sc (.slice none 0 0):=hx
   subst hx
   exact Exp.tup2 .nil (.sc _)
  |cons r c=>
   obtain⟨nm,ver,rfl,hH⟩:=hx
   simp only[List.length_map]at*
   exact Exp.tup2 (Exp.ints hH) (.sc _)
end Go.Proofs.Ytdcomhdadnhpnaa
end
section
namespace Go.Proofs.Ytdcomhdadnhpnaa
open Go Go.Am Go.RowKit
attribute [local irreducible] wA opsQ opsLQ thenA blockA EndA
def headL (n:Nat):List Int:=(((List.replicate (wlen n) (0:Int)).set 0 (n:Nat)).set 1 (bkts n:Nat)).set 2 (pow2 (bkts n):Nat)
def wR (recs:List (Int×Int)):Nat→List Int→List Int
 |0,l=>l
 |k+1,l=>((wR recs k l).set (recAt k) (recs.getD k (0,0)).1).set (recAt k+1) (recs.getD k (0,0)).2
def lnk:Nat→List Nat→List Int→List Int
 |_,[],l=>l
 |f,r::rs,l=>lnk (recAt r+2) rs (l.set f ((r:Int)+1))
def wC (chs:List (List Nat)):Nat→List Int→List Int
 |0,l=>l
 |k+1,l=>lnk (headAt k) (chs.getD k []) (wC chs k l)
def wordsF (recs:List (Int×Int)) (chs:List (List Nat)):List Int:=wC chs chs.length (wR recs recs.length (headL recs.length))
theorem headL_len (n:Nat):(headL n).length=wlen n:=by simp[headL]
theorem wR_len (recs:List (Int×Int)):∀(k:Nat) (l:List Int),(wR recs k l).length=l.length
 |0,_=>rfl
 |k+1,l=>by simp[wR,wR_len recs k l]
theorem lnk_len:∀(c:List Nat) (f:Nat) (l:List Int),(lnk f c l).length=l.length
 | [],_,_=>rfl
 |r::rs,f,l=>by simp[lnk,lnk_len rs]
theorem wC_len (chs:List (List Nat)):∀(k:Nat) (l:List Int),(wC chs k l).length=l.length
 |0,_=>rfl
 |k+1,l=>by simp[wC,lnk_len,wC_len chs k l]
def rowsN (chs:List (List Nat)):List AV:=chs.map fun c=>.dsl c.length (natsA c)
abbrev tabG (recs:List (Int×Int)) (chs:List (List Nat)):AV:=.agg [.dsl recs.length (elsA recs),.dsl chs.length (rowsN chs)]
theorem az31 (k:Nat):aZeros (.int .i64 0) k=ints (List.replicate k 0):=by
 show List.replicate k (AV.sc (.int .i64 0))=_
 simp
theorem ints_set (l:List Int) (i:Nat) (x:Int):(ints l).set i (.sc (.int .i64 x))=ints (l.set i x):=by simp[List.map_set]
theorem tn1:(1:Int).toNat=1:=rfl
theorem tn2:(2:Int).toNat=2:=rfl
set_option maxRecDepth 100000 in
set_option maxHeartbeats 2000000 in
theorem words_ro (recs:List (Int×Int)) (chs:List (List Nat)) (hn:recs.length≤100000) (hc:chs.length=bkts recs.length) (hr:∀c∈chs,∀r∈c,r<recs.length) (hcn:∀c∈chs,c.length≤100000):
  RO Try.prog 51 [tabG recs chs] (OwnX (some (wordsF recs chs))):=by
 have hb:=bkts_le recs.length (by omega)
 have hb8:=bkts8 recs.length
 have hll:=wlen_le recs.length (by omega)
 have h60:=wlen_ge recs.length
 have hrec:∀r,r<recs.length→recAt r+2<wlen recs.length:=fun r hr=>recAt_wlen hr
 refine ro_of Try.func51 rfl (fun E s hs=>?_)
 refine wA_ok hmix ctN_ok _ (by kernel_rfl) ?_
 simp(maxSteps:=300000)only[begA,Try.ntmps51,List.replicate_succ,List.replicate_zero,List.length_cons,List.length_nil,List.cons_append,List.nil_append]
 have hl1:(((List.replicate (wlen recs.length) (AV.sc (.int .i64 0))).set 0 (AV.sc (.int .i64 (recs.length:Nat)))).set 1 (AV.sc (.int .i64 (bkts recs.length:Nat))))[1]? =some (AV.sc (.int .i64 (bkts recs.length:Nat))):=by
  rw[List.getElem?_set,if_pos rfl,if_pos (by simp;omega)]
 repeat(first |(with_reducible first |apply Q0 |apply Q1 |apply Q2 |apply Q3 |apply Q4 |apply Q5 |apply Q6 |apply Q7 |apply Q8 |apply Q9 |apply QA |apply QB |apply QC |apply QD |apply QE |apply QF) |((with_reducible apply QK rfl);simp(disch:=omega)only[go_sem,hs,upd_ne,cal18,cal19,cal67,ctN_18,ctN_19,ctN_67,c18r,c19r,c67r,az31,ints_len,List.length_replicate,ints_set,tn1,tn2,hl1];exact rfl;simp only[sB,sA,putA];exact rfl) |(apply QQ;simp only[evA,gB,gA];exact rfl) |((first |apply QX |apply QY);(first |rfl |decide |assumption)))
 have hbase:(wR recs recs.length (headL recs.length)).length=wlen recs.length:=by rw[wR_len,headL_len]
 refine AWp.loop [1,3,4,5] (fun Γ H s' m=>∃k:Nat,k≤recs.length∧m=recs.length-k∧Γ=(List.replicate 1 .junk)++[.ptr s 0 0]++(List.replicate 1 .junk)++[.sc (.int .i64 (recs.length:Nat)),.sl (s+1) 0 0 (wlen recs.length),.sc (.int .i64 (k:Nat))]++(List.replicate 85 .junk)∧
  H s=some (.row 0 1 [.dsl recs.length (elsA recs),.dsl chs.length (rowsN chs)])∧H (s+1)=some (.row 0 1 (ints (wR recs k (headL recs.length))))) recs.length ?_ ?_
 ·exact⟨0,Nat.zero_le _,rfl,rfl,by simp(disch:=omega)only[upd_ne,upd_same],by rw[upd_same];simp[wR,headL,List.map_set]⟩
 ·rintro Γ H s1 m ⟨k,hk,rfl,rfl,hH0,hH1⟩
  refine wA_ok hmix ctN_ok _ (by kernel_rfl) ?_
  simp(maxSteps:=1000000)only[List.replicate_succ,List.replicate_zero,List.cons_append,List.nil_append,List.append_nil]
  have hlen:(wR recs k (headL recs.length)).length=wlen recs.length:=by rw[wR_len,headL_len]
  by_cases hlt:k<recs.length
  ·have h2:=hrec k hlt
   have hi1:(((recAt k:Nat):Int)+1).toNat=recAt k+1:=by omega
   repeat(first |(with_reducible first |apply Q0 |apply Q1 |apply QG |apply Q2 |apply Q3 |apply Q4 |apply Q5 |apply Q6 |apply Q7 |apply Q8 |apply Q9 |apply QA |apply QB |apply QC |apply QD |apply QE |apply QF) |((with_reducible apply QK rfl);simp(disch:=omega)only[go_sem,cal91,ctN_91,c91r,hH0,hH1,upd_ne,ints_len,hlen,elsA_len,elsA_drop,ints_set,hi1];exact rfl;simp only[sB,sA,putA];exact rfl) |((first |(with_reducible apply QL rfl) |(apply QM;simp only[go_sem]<;>exact rfl));simp(disch:=omega)only[go_sem,cal91,ctN_91,c91r,hH0,hH1,upd_ne,ints_len,hlen,elsA_len,elsA_drop,ints_set,hi1];exact rfl;simp only[sB,sA,putA];exact rfl;simp only[logT_none,logT_rd,logT_wr,List.cons_append,List.nil_append];exact rfl) |((first |apply QI |apply QN);simp only[go_sem]<;>exact rfl;simp only[sB,sA,putA];exact rfl) |(refine QO ?_ ?_;first |focus(simp only[dyn_nil,dyn_cons,allY_nil,allY_cons,dj_rr,true_or,true_and];done) |focus(simp only[dyn_nil,dyn_cons,allY_nil,allY_cons,Dj,List.mem_cons,List.not_mem_nil,or_false,forall_eq,forall_eq_or_imp,and_true,true_and,false_imp_iff,implies_true];omega) |focus(simp only[dyn_nil,dyn_cons,allY_nil,allY_cons,and_true,true_and];(repeat' refine And.intro ?_ ?_);all_goals first |(left;simp only[Dj,List.mem_cons,List.not_mem_nil,or_false,forall_eq,forall_eq_or_imp,and_true,true_and,false_imp_iff,implies_true];first |done |omega) |(right;kernel_rfl))) |(apply QQ;simp only[evA,gB,gA];exact rfl) |((first |apply QX |apply QY);(first |rfl |decide |assumption)))
   refine⟨recs.length-(k+1),by omega,k+1,by omega,rfl,rfl,by simp(disch:=omega)only[upd_ne];exact hH0,?_⟩
   rw[upd_same]
   show _=some (AO.row 0 1 (ints (((wR recs k (headL recs.length)).set (recAt k) (recs.getD k (0,0)).1).set (recAt k+1) (recs.getD k (0,0)).2)))
   rw[show recs.getD k (0,0)=recs[k]by simp[hlt]]
  ·obtain rfl:k=recs.length:=by omega
   repeat(first |(with_reducible first |apply Q0 |apply Q1 |apply Q2 |apply Q3 |apply Q4 |apply Q5 |apply Q6 |apply Q7 |apply Q8 |apply Q9 |apply QA |apply QB |apply QC |apply QD |apply QE |apply QF) |((with_reducible apply QK rfl);simp(disch:=omega)only[go_sem];exact rfl;simp only[sB,sA,putA];exact rfl) |(apply QQ;simp only[evA,gB,gA];exact rfl) |((first |apply QX |apply QY);(first |rfl |decide |assumption)))
   refine AWp.loop [1,4,6] (fun Γ H s' m=>∃i:Nat,i≤chs.length∧m=chs.length-i∧Γ=(List.replicate 1 .junk)++[.ptr s 0 0]++(List.replicate 2 .junk)++[.sl (s+1) 0 0 (wlen recs.length),.junk,.sc (.int .i64 (i:Nat))]++(List.replicate 84 .junk)∧
    H s=some (.row 0 1 [.dsl recs.length (elsA recs),.dsl chs.length (rowsN chs)])∧H (s+1)=some (.row 0 1 (ints (wC chs i (wR recs recs.length (headL recs.length)))))) chs.length ?_ ?_
   ·exact⟨0,Nat.zero_le _,rfl,rfl,hH0,hH1⟩
   clear hH0 hH1 hlt
   rintro Γ H s2 m ⟨i,hi,rfl,rfl,hH0,hH1⟩
   refine wA_ok hmix ctN_ok _ (by kernel_rfl) ?_
   simp(maxSteps:=1000000)only[List.replicate_succ,List.replicate_zero,List.cons_append,List.nil_append,List.append_nil]
   by_cases hlt:i<chs.length
   ·have hh:=headAt_wlen (n:=recs.length) (k:=i) (by omega)
    have hri:∀r∈chs[i],r<recs.length:=hr _ (List.getElem_mem hlt)
    have hci:=hcn _ (List.getElem_mem hlt)
    repeat(first |(with_reducible first |apply Q0 |apply Q1 |apply Q2 |apply Q3 |apply Q4 |apply Q5 |apply Q6 |apply Q7 |apply Q8 |apply Q9 |apply QA |apply QB |apply QC |apply QD |apply QE |apply QF) |((with_reducible apply QK rfl);simp(disch:=omega)only[go_sem,cal92,ctN_92,c92r,hH0,rowsN];exact rfl;simp only[sB,sA,putA];exact rfl) |(apply QQ;simp only[evA,gB,gA];exact rfl) |((first |apply QX |apply QY);(first |rfl |decide |assumption)))
    refine AWp.loop [1,4,6,7,8] (fun Γ H s' m=>∃(k pos:Nat) (cur:List Int),k≤chs[i].length∧m=chs[i].length-k∧pos<wlen recs.length∧cur.length=wlen recs.length∧Γ=(List.replicate 1 .junk)++[.ptr s 0 0]++(List.replicate 2 .junk)++[.sl (s+1) 0 0 (wlen recs.length),.junk,.sc (.int .i64 (i:Nat)),.sc (.int .i64 (pos:Nat)),.sc (.int .i64 (k:Nat))]++(List.replicate 82 .junk)∧
     H s=some (.row 0 1 [.dsl recs.length (elsA recs),.dsl chs.length (rowsN chs)])∧H (s+1)=some (.row 0 1 (ints cur))∧lnk pos (chs[i].drop k) cur=wC chs (i+1) (wR recs recs.length (headL recs.length))) chs[i].length ?_ ?_
    ·refine⟨0,headAt i,_,Nat.zero_le _,rfl,hh,?_,rfl,hH0,hH1,?_⟩
     ·rw[wC_len,hbase]
     ·rw[wC,List.drop_zero,show chs.getD i []=chs[i]by simp[hlt]]
    clear hH0 hH1
    rintro Γ H s3 m ⟨k,pos,cur,hk,rfl,hp,hcl,rfl,hH0,hH1,hL⟩
    refine wA_ok hmix ctN_ok _ (by kernel_rfl) ?_
    simp(maxSteps:=1000000)only[List.replicate_succ,List.replicate_zero,List.cons_append,List.nil_append,List.append_nil]
    by_cases hkl:k<chs[i].length
    ·have hrn:=hri _ (List.getElem_mem hkl)
     have h2:=hrec _ hrn
     have hcast:((chs[i][k]:Nat):Int)+1=((chs[i][k]:Nat):Int)+1:=rfl
     repeat(first |(with_reducible first |apply Q0 |apply Q1 |apply Q2 |apply Q3 |apply Q4 |apply Q5 |apply Q6 |apply Q7 |apply Q8 |apply Q9 |apply QA |apply QB |apply QC |apply QD |apply QE |apply QF) |((with_reducible apply QK rfl);simp(disch:=omega)only[go_sem,cal91,ctN_91,c91r,hH0,hH1,upd_ne,ints_len,hcl,ints_set,rowsN];exact rfl;simp only[sB,sA,putA];exact rfl) |(apply QQ;simp only[evA,gB,gA];exact rfl) |((first |apply QX |apply QY);(first |rfl |decide |assumption)))
     refine⟨chs[i].length-(k+1),by omega,k+1,recAt chs[i][k]+2,_,by omega,rfl,h2,?_,rfl,by simp(disch:=omega)only[upd_ne];exact hH0,upd_same _ _ _,?_⟩
     ·rw[List.length_set,hcl]
     ·rw[←hL,List.drop_eq_getElem_cons hkl,lnk]
    ·obtain rfl:k=chs[i].length:=by omega
     repeat(first |(with_reducible first |apply Q0 |apply Q1 |apply Q2 |apply Q3 |apply Q4 |apply Q5 |apply Q6 |apply Q7 |apply Q8 |apply Q9 |apply QA |apply QB |apply QC |apply QD |apply QE |apply QF) |((with_reducible apply QK rfl);simp(disch:=omega)only[go_sem,hH0,rowsN];exact rfl;simp only[sB,sA,putA];exact rfl) |(apply QQ;simp only[evA,gB,gA];exact rfl) |((first |apply QX |apply QY);(first |rfl |decide |assumption)))
     refine⟨chs.length-(i+1),by omega,i+1,by omega,rfl,rfl,hH0,?_⟩
     rw[hH1,←hL,List.drop_length,lnk]
   ·obtain rfl:i=chs.length:=by omega
    repeat(first |(with_reducible first |apply Q0 |apply Q1 |apply Q2 |apply Q3 |apply Q4 |apply Q5 |apply Q6 |apply Q7 |apply Q8 |apply Q9 |apply QA |apply QB |apply QC |apply QD |apply QE |apply QF) |((with_reducible apply QK rfl);simp(disch:=omega)only[go_sem,hH0,rowsN];exact rfl;simp only[sB,sA,putA];exact rfl) |(apply QQ;simp only[evA,gB,gA];exact rfl) |((first |apply QX |apply QY);(first |rfl |decide |assumption)))
    (apply QZ;simp only[aRes,Try.results51,List.toList_toArray,List.getD_cons_succ,List.getD_cons_zero];exact rfl;simp only[packA];exact rfl)
    have hwl:(wordsF recs chs).length=wlen recs.length:=by unfold wordsF;rw[wC_len,hbase]
    exact⟨_,_,by rw[hwl],hH1⟩
theorem words_call (recs:List (Int×Int)) (chs:List (List Nat)) (hn:recs.length≤100000) (hc:chs.length=bkts recs.length) (hr:∀c∈chs,∀r∈c,r<recs.length) (hcn:∀c∈chs,c.length≤100000):
  RC Try.prog 51 [tabG recs chs] (.dsl (wordsF recs chs).length (ints (wordsF recs chs))):=
 (words_ro recs chs hn hc hr hcn).rc (fun a H ⟨n,ver,e,hH⟩=>by subst e;exact Exp.ints hH)
end Go.Proofs.Ytdcomhdadnhpnaa
end
