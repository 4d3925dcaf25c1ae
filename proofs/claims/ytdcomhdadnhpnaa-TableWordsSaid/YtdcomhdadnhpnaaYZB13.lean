import Derived.Test.YtdcomhdadnhpnaaYZA6
import Derived.Test.YtdcomhdadnhpnaaYZA2
set_option linter.all false
namespace Go.Proofs.Ytdcomhdadnhpnaa
open Go Go.Am Go.RowKit
attribute [local irreducible] wA opsQ opsLQ thenA blockA EndA
def recsF (l:List Int) (n:Nat):List (Int×Int):=(List.range n).map fun r=>(ati l (recAt r),ati l (recAt r+1))
def chsF (l:List Int) (n:Nat):Nat→Option (List (List Nat))
 |0=>some []
 |k+1=>match chsF l n k with
  |none=>none
  |some cs=>match chF l n n (headAt k)with
   |none=>none
   |some c=>if(cs.flatten++c).Nodup then some (cs++[c])else none
theorem chsF_none {l:List Int} {n k:Nat} (h:chsF l n k=none):∀ {m:Nat},k≤m→chsF l n m=none
 |0,hm=>by obtain rfl:k=0:=by omega
           exact h
 |m+1,hm=>by
  by_cases e:k=m+1
  ·subst e;exact h
  ·rw[chsF,chsF_none h (m:=m) (by omega)]
def readF (l:List Int):Option (List (Int×Int)×List (List Nat)):=
 if 4≤l.length∧0≤ati l 0∧ati l 0≤100000∧l.length=wlen (ati l 0).toNat then
  match chsF l (ati l 0).toNat (bkts (ati l 0).toNat)with
  |none=>none
  |some cs=>if cs.flatten.length=(ati l 0).toNat∧(∀i,i<cs.length→srtF i cs.length none [] (elsOfC (recsF l (ati l 0).toNat) (cs.getD i []))=true)∧wordsF (recsF l (ati l 0).toNat) cs=l then some (recsF l (ati l 0).toNat,cs)else none
 else none
def readX (l:List Int):Option (List (Int×Int)×List (List Nat)):=
 if 4≤l.length∧0≤ati l 0∧ati l 0≤100000∧l.length=wlen (ati l 0).toNat then
  match chsF l (ati l 0).toNat (bkts (ati l 0).toNat)with
  |none=>none
  |some cs=>if cs.flatten.length=(ati l 0).toNat∧(∀i,i<cs.length→srtF i cs.length none [] (elsOfC (recsF l (ati l 0).toNat) (cs.getD i []))=true)then some (recsF l (ati l 0).toNat,cs)else none
 else none
theorem readF_X (l:List Int):readF l=match readX l with
  |none=>none
  |some x=>if wordsF x.1 x.2=l then some x else none:=by
 unfold readF readX
 split
 ·split
  ·rfl
  ·rename_i cs hc
   by_cases h1:cs.flatten.length=(ati l 0).toNat∧(∀i,i<cs.length→srtF i cs.length none [] (elsOfC (recsF l (ati l 0).toNat) (cs.getD i []))=true)
   ·rw[if_pos h1]
    by_cases h2:wordsF (recsF l (ati l 0).toNat) cs=l
    ·rw[if_pos ⟨h1.1,h1.2,h2⟩];simp only;rw[if_pos h2]
    ·rw[if_neg (fun h=>h2 h.2.2)];simp only;rw[if_neg h2]
   ·rw[if_neg h1,if_neg (fun h=>h1 ⟨h.1,h.2.1⟩)]
 ·rfl
def ReadP (l:List Int) (s:Nat) (r1:AV) (H1:AHp):Prop:=
 (readX l=none∧r1= .tup [.agg [.sc (.slice none 0 0),.sc (.slice none 0 0)],.sc (.bool false)])∨
 ∃(recs:List (Int×Int)) (chs:List (List Nat)) (v1 v2:AV) (s':Nat),readX l=some (recs,chs)∧r1= .tup [.agg [v1,v2],.sc (.bool (decide (wordsF recs chs=l)))]∧RowE s 2 v1 H1 s' (elsA recs) recs.length∧RowE s 1 v2 H1 s' (rowsN chs) chs.length
theorem readX_head {l:List Int} (h:¬(4≤l.length∧0≤ati l 0∧ati l 0≤100000∧l.length=wlen (ati l 0).toNat)):readX l=none:=by unfold readX;rw[if_neg h]
theorem recsF_len (l:List Int) (n:Nat):(recsF l n).length=n:=by simp[recsF]
theorem recsF_take {l:List Int} {n k:Nat} (h:k<n):(recsF l n).take (k+1)=(recsF l n).take k++[(ati l (recAt k),ati l (recAt k+1))]:=by
 rw[List.take_succ_eq_append_getElem (by rw[recsF_len];exact h)]
 simp[recsF]
theorem chF_ok {l:List Int} {n:Nat}:∀ {k f:Nat} {c:List Nat},chF l n k f=some c→(∀r∈c,r<n)∧c.length≤k
 |0,f,c,h=>by
  unfold chF at h
  split at h
  ·cases h;exact⟨by simp,Nat.le_refl _⟩
  ·cases h
 |k+1,f,c,h=>by
  unfold chF at h
  split at h
  ·cases h;exact⟨by simp,Nat.zero_le _⟩
  ·split at h
   ·rename_i hg
    cases hc:chF l n k (recAt (ati l f-1).toNat+2)with
    |none=>rw[hc]at h;cases h
    |some d=>
     rw[hc]at h
     cases h
     obtain⟨h1,h2⟩:=chF_ok hc
     refine⟨fun r hr=>?_,by simp;omega⟩
     rcases List.mem_cons.1 hr with rfl |hr
     ·omega
     ·exact h1 r hr
   ·cases h
theorem chsF_ok {l:List Int} {n:Nat}:∀ {k:Nat} {cs:List (List Nat)},chsF l n k=some cs→cs.length=k∧cs.flatten.Nodup∧∀c∈cs,(∀r∈c,r<n)∧c.length≤n
 |0,cs,h=>by cases h;exact⟨rfl,by simp,by simp⟩
 |k+1,cs,h=>by
  unfold chsF at h
  cases h1:chsF l n k with
  |none=>rw[h1]at h;cases h
  |some ds=>
   rw[h1]at h
   simp only at h
   cases h2:chF l n n (headAt k)with
   |none=>rw[h2]at h;cases h
   |some c=>
    rw[h2]at h
    simp only at h
    split at h
    ·rename_i hnd
     cases h
     obtain⟨a1,a2,a3⟩:=chsF_ok h1
     refine⟨by simp[a1],by simpa using hnd,fun d hd=>?_⟩
     rcases List.mem_append.1 hd with hd |hd
     ·exact a3 d hd
     ·simp at hd;subst hd;exact chF_ok h2
    ·cases h
def hadL (n:Nat) (acc:List Nat):List Int:=(List.range n).map fun r=>if r∈acc then 1 else 0
theorem hadL_len (n:Nat) (acc:List Nat):(hadL n acc).length=n:=by simp[hadL]
theorem hadL_nil (n:Nat):hadL n []=List.replicate n 0:=by
 apply List.ext_getElem
 ·simp[hadL]
 ·intro i h1 h2;simp[hadL]
theorem hadL_get {n:Nat} {acc:List Nat} {r:Nat} (h:r<(hadL n acc).length):(hadL n acc)[r]=if r∈acc then 1 else 0:=by simp[hadL]
theorem hadL_set {n:Nat} {acc:List Nat} {r:Nat} (h:r<n):(hadL n acc).set r 1=hadL n (acc++[r]):=by
 apply List.ext_getElem
 ·simp[hadL]
 ·intro i h1 h2
  rw[List.getElem_set,hadL_get h2]
  by_cases e:r=i
  ·subst e;simp
  ·rw[if_neg e,hadL_get]
   have:i≠r:=Ne.symm e
   simp[this]
theorem bs35 (n:Nat) (cs:List AV):aBuildSlice Try.prog 35 1 [(0,.dsl n cs)]= .new (.row 0 1 [.dsl n cs]) fun n=>.ret (.sl n 0 0 1):=by
 have hz:aZeros (.slice none 0 0) 1=[.sc (.slice none 0 0)]:=rfl
 simp[aBuildSlice,Try.underlying35,sz31,ze31,hz,aFill,aCells,AV.one,putCells]
theorem rowsN_one (chs:List (List Nat)):(rowsN chs).all AV.one=true:=by
 induction chs with
 |nil=>rfl
 |cons c chs ih=>simp only[rowsN,List.map_cons,List.all_cons,AV.one,Bool.true_and]at ih ⊢;exact ih
theorem RowE.lower {lo lo2 esz s' len:Nat} {v:AV} {H:AHp} {cs:List AV} (h:RowE lo esz v H s' cs len) (hl:lo2≤lo):RowE lo2 esz v H s' cs len:=by
 rcases h with h |⟨nm,ver,h0,hv,h1,h2,h3⟩
 ·exact .inl h
 ·exact .inr ⟨nm,ver,h0,hv,h1,h2,by omega⟩
theorem RowE.keep {lo esz s' s2 len:Nat} {v:AV} {H H2:AHp} {cs:List AV} (h:RowE lo esz v H s' cs len) (hs:s'≤s2) (hH:∀q,lo≤q→q<s'→H2 q=H q):RowE lo esz v H2 s2 cs len:=by
 rcases h with h |⟨nm,ver,h0,hv,h1,h2,h3⟩
 ·exact .inl h
 ·exact .inr ⟨nm,ver,h0,hv,by rw[hH nm h3 h2];exact h1,by omega,h3⟩
set_option maxRecDepth 100000 in
set_option maxHeartbeats 8000000 in
theorem read_walk (l:List Int) (hl:l.length≤1000000000) (E:Ent) (s:Nat) (hs:∀q,s≤q→E.H q=none) (R:AV→AHp→Prop) (hR:∀r1 H1,(∀q,q<s→H1 q=E.H q)→ReadP l s r1 H1→R r1 H1):
  wA Try.prog E ctQ Try.f78.body.get! (begA Try.f78 [.dsl l.length (ints l)]) E.H s (EndA Try.prog Try.f78 R):=by
 simp(maxSteps:=300000)only[begA,Try.ntmps78,List.replicate_succ,List.replicate_zero,List.length_cons,List.length_nil,List.cons_append,List.nil_append]
 simp only[Try.f78,Option.get!_some]
 by_cases h4:l.length<4
 ·have hno:=readX_head (l:=l) (fun h=>by omega)
  repeat(first |(with_reducible first |apply Q0 |apply Q1 |apply Q2 |apply Q3 |apply Q4 |apply Q5 |apply Q6 |apply Q7 |apply Q8 |apply Q9 |apply QA |apply QB |apply QC |apply QD |apply QE |apply QF) |((first |(with_reducible apply QK rfl) |(apply QT;simp only[go_sem]<;>exact rfl));simp(disch:=omega)only[go_sem,hs,upd_ne,bu78];exact rfl;simp only[sB,sA,putA];exact rfl) |(apply QI;simp only[go_sem]<;>exact rfl;simp only[sB,sA,putA];exact rfl) |(apply QQ;simp only[evA,gB,gA];exact rfl) |((first |apply QX |apply QY);(first |rfl |decide |assumption)))
  (apply QZ;simp(disch:=omega)only[go_sem,Try.results78];exact rfl;simp only[packA];exact rfl)
  exact hR _ _ (fun q hq=>by simp(disch:=omega)only[upd_ne]) (.inl ⟨hno,rfl⟩)
 have hh0:(ints l).head? =some (.sc (.int .i64 (ati l 0))):=by rw[List.head?_eq_getElem?];exact ints_at_ (by omega)
 by_cases h0:ati l 0<0
 ·have hno:=readX_head (l:=l) (fun h=>by omega)
  repeat(first |(with_reducible first |apply Q0 |apply Q1 |apply Q2 |apply Q3 |apply Q4 |apply Q5 |apply Q6 |apply Q7 |apply Q8 |apply Q9 |apply QA |apply QB |apply QC |apply QD |apply QE |apply QF) |((first |(with_reducible apply QK rfl) |(apply QT;simp only[go_sem]<;>exact rfl));simp(disch:=omega)only[go_sem,hs,upd_ne,bu78,hh0,ints_len];exact rfl;simp only[sB,sA,putA];exact rfl) |(apply QI;simp only[go_sem]<;>exact rfl;simp only[sB,sA,putA];exact rfl) |(apply QQ;simp only[evA,gB,gA];exact rfl) |((first |apply QX |apply QY);(first |rfl |decide |assumption)))
  (apply QZ;simp(disch:=omega)only[go_sem,Try.results78];exact rfl;simp only[packA];exact rfl)
  exact hR _ _ (fun q hq=>by simp(disch:=omega)only[upd_ne]) (.inl ⟨hno,rfl⟩)
 by_cases h1:100000<ati l 0
 ·have hno:=readX_head (l:=l) (fun h=>by omega)
  repeat(first |(with_reducible first |apply Q0 |apply Q1 |apply Q2 |apply Q3 |apply Q4 |apply Q5 |apply Q6 |apply Q7 |apply Q8 |apply Q9 |apply QA |apply QB |apply QC |apply QD |apply QE |apply QF) |((first |(with_reducible apply QK rfl) |(apply QT;simp only[go_sem]<;>exact rfl));simp(disch:=omega)only[go_sem,hs,upd_ne,bu78,hh0,ints_len];exact rfl;simp only[sB,sA,putA];exact rfl) |(apply QI;simp only[go_sem]<;>exact rfl;simp only[sB,sA,putA];exact rfl) |(apply QQ;simp only[evA,gB,gA];exact rfl) |((first |apply QX |apply QY);(first |rfl |decide |assumption)))
  (apply QZ;simp(disch:=omega)only[go_sem,Try.results78];exact rfl;simp only[packA];exact rfl)
  exact hR _ _ (fun q hq=>by simp(disch:=omega)only[upd_ne]) (.inl ⟨hno,rfl⟩)
 obtain⟨n,hn⟩:∃n:Nat,ati l 0=(n:Int):=⟨(ati l 0).toNat,by omega⟩
 have hn1:n≤100000:=by omega
 have hwl:=wlen_le n (by omega)
 rw[hn]at hh0
 by_cases h2:l.length=wlen n
 ·have hrec:∀r,r<n→recAt r+2<l.length:=fun r hr=>by rw[h2];exact recAt_wlen hr
  have hrl:=recsF_len l n
  have hhead:4≤l.length∧0≤ati l 0∧ati l 0≤100000∧l.length=wlen (ati l 0).toNat:=⟨by omega,by omega,by omega,by rw[hn,Int.toNat_natCast];exact h2⟩
  have hRF:readX l=match chsF l n (bkts n)with
    |none=>none
    |some cs=>if cs.flatten.length=n∧(∀i,i<cs.length→srtF i cs.length none [] (elsOfC (recsF l n) (cs.getD i []))=true)then some (recsF l n,cs)else none:=by
   unfold readX
   rw[if_pos hhead,hn,Int.toNat_natCast]
  repeat(first |(with_reducible first |apply Q0 |apply Q1 |apply Q2 |apply Q3 |apply Q4 |apply Q5 |apply Q6 |apply Q7 |apply Q8 |apply Q9 |apply QA |apply QB |apply QC |apply QD |apply QE |apply QF) |((first |(with_reducible apply QK rfl) |(apply QT;simp only[go_sem]<;>exact rfl));simp(disch:=omega)only[go_sem,hs,upd_ne,hh0,ints_len,cal19,ctQ_19,c19r];exact rfl;simp only[sB,sA,putA];exact rfl) |(apply QI;simp only[go_sem]<;>exact rfl;simp only[sB,sA,putA];exact rfl) |(apply QQ;simp only[evA,gB,gA];exact rfl) |((first |apply QX |apply QY);(first |rfl |decide |assumption)))
  refine AWp.loop [0,2,4,5,6] (fun Γ H s' m=>∃(k:Nat) (v1:AV),k≤n∧m=n-k∧Γ=[.dsl l.length (ints l)]++(List.replicate 1 .junk)++[.ptr s 0 0]++(List.replicate 1 .junk)++[.sc (.int .i64 (n:Nat)),.ptr (s+1) 0 0,.sc (.int .i64 (k:Nat))]++(List.replicate 130 .junk)∧
   H s=some (.row 0 1 [.sc (.slice none 0 0),.sc (.slice none 0 0)])∧H (s+1)=some (.row 0 1 [v1,.sc (.slice none 0 0)])∧RowE (s+2) 2 v1 H s' (elsA ((recsF l n).take k)) k∧s+2≤s'∧(∀q,s'≤q→H q=none)∧∀q,q<s→H q=E.H q) n ?_ ?_
  ·refine⟨0,_,Nat.zero_le _,rfl,rfl,by simp(disch:=omega)only[upd_ne,upd_same],upd_same _ _ _,.inl ⟨rfl,rfl,rfl⟩,Nat.le_refl _,fun q hq=>?_,fun q hq=>by simp(disch:=omega)only[upd_ne]⟩
   simp(disch:=omega)only[upd_ne];exact hs q (by omega)
  rintro Γ H s1 m ⟨k,v1,hk,rfl,rfl,hH0,hH1,hv,hs1,hf,hE⟩
  refine wA_ok hmix ctQ_ok _ (by kernel_rfl) ?_
  simp(maxSteps:=1000000)only[List.replicate_succ,List.replicate_zero,List.cons_append,List.nil_append,List.append_nil]
  by_cases hlt:k<n
  ·have h2r:=hrec k hlt
   have hi1:(((recAt k:Nat):Int)+1).toNat=recAt k+1:=by omega
   have htk:((recsF l n).take k).length=k:=by rw[List.length_take];omega
   have hap:elsA ((recsF l n).take (k+1))=elsA ((recsF l n).take k)++[.sc (.int .i64 (ati l (recAt k))),.sc (.int .i64 (ati l (recAt k+1)))]:=by rw[recsF_take hlt,elsA_append];rfl
   have het:(elsA ((recsF l n).take k)).take (k*2)=elsA ((recsF l n).take k):=by
    have:=elsA_take ((recsF l n).take k)
    rwa[htk]at this
   have hel:(elsA ((recsF l n).take k)).length=k*2:=by rw[elsA_len,htk]
   rcases hv with⟨h0',hcs,rfl⟩ |⟨nm,ver,h0',rfl,hH,hl1,hl2⟩
   ·subst h0'
    repeat(first |(with_reducible first |apply Q0 |apply Q1 |apply QG |apply Q2 |apply Q3 |apply Q4 |apply Q5 |apply Q6 |apply Q7 |apply Q8 |apply Q9 |apply QA |apply QB |apply QC |apply QD |apply QE |apply QF) |((with_reducible apply QK rfl);simp(disch:=omega)only[go_sem,hf,hH0,hH1,upd_ne,ints_len,ati_some,cal91,ctQ_91,c91r,hi1];exact rfl;simp only[sB,sA,putA];exact rfl) |((first |(with_reducible apply QL rfl) |(apply QM;simp only[go_sem]<;>exact rfl));simp(disch:=omega)only[go_sem,hf,hH0,hH1,upd_ne,ints_len,ati_some,cal91,ctQ_91,c91r,hi1];exact rfl;simp only[sB,sA,putA];exact rfl;simp only[logT_none,logT_rd,logT_wr,List.cons_append,List.nil_append];exact rfl) |((first |apply QI |apply QN);simp only[go_sem]<;>exact rfl;simp only[sB,sA,putA];exact rfl) |(refine QO ?_ ?_;first |focus(simp only[dyn_nil,dyn_cons,allY_nil,allY_cons,dj_rr,true_or,true_and];done) |focus(simp only[dyn_nil,dyn_cons,allY_nil,allY_cons,Dj,List.mem_cons,List.not_mem_nil,or_false,forall_eq,forall_eq_or_imp,and_true,true_and,false_imp_iff,implies_true];omega) |focus(simp only[dyn_nil,dyn_cons,allY_nil,allY_cons,and_true,true_and];(repeat' refine And.intro ?_ ?_);all_goals first |(left;simp only[Dj,List.mem_cons,List.not_mem_nil,or_false,forall_eq,forall_eq_or_imp,and_true,true_and,false_imp_iff,implies_true];first |done |omega) |(right;kernel_rfl))) |(apply QQ;simp only[evA,gB,gA];exact rfl) |((first |apply QX |apply QY);(first |rfl |decide |assumption)))
    refine⟨n-1,by omega,1,.sl (s1+1) 0 0 1,by omega,rfl,rfl,by(simp(disch:=omega)only[upd_ne];exact hH0),by rw[upd_same],.inr ⟨s1+1,0,by omega,rfl,?_,by omega,by omega⟩,by omega,fun q hq=>by(simp(disch:=omega)only[upd_ne];exact hf q (by omega)),fun q hq=>by(simp(disch:=omega)only[upd_ne];exact hE q hq)⟩
    rw[hap]
    simp(disch:=omega)only[upd_ne,upd_same]
    rfl
   ·repeat(first |(with_reducible first |apply Q0 |apply Q1 |apply QG |apply Q2 |apply Q3 |apply Q4 |apply Q5 |apply Q6 |apply Q7 |apply Q8 |apply Q9 |apply QA |apply QB |apply QC |apply QD |apply QE |apply QF) |((with_reducible apply QK rfl);simp(disch:=omega)only[go_sem,hf,hH0,hH1,hH,upd_ne,ints_len,ati_some,cal91,ctQ_91,c91r,hi1,het,hel,elsA_one];exact rfl;simp only[sB,sA,putA];exact rfl) |((first |(with_reducible apply QL rfl) |(apply QM;simp only[go_sem]<;>exact rfl));simp(disch:=omega)only[go_sem,hf,hH0,hH1,hH,upd_ne,ints_len,ati_some,cal91,ctQ_91,c91r,hi1,het,hel,elsA_one];exact rfl;simp only[sB,sA,putA];exact rfl;simp only[logT_none,logT_rd,logT_wr,List.cons_append,List.nil_append];exact rfl) |((first |apply QI |apply QN);simp only[go_sem]<;>exact rfl;simp only[sB,sA,putA];exact rfl) |(refine QO ?_ ?_;first |focus(simp only[dyn_nil,dyn_cons,allY_nil,allY_cons,dj_rr,true_or,true_and];done) |focus(simp only[dyn_nil,dyn_cons,allY_nil,allY_cons,Dj,List.mem_cons,List.not_mem_nil,or_false,forall_eq,forall_eq_or_imp,and_true,true_and,false_imp_iff,implies_true];omega) |focus(simp only[dyn_nil,dyn_cons,allY_nil,allY_cons,and_true,true_and];(repeat' refine And.intro ?_ ?_);all_goals first |(left;simp only[Dj,List.mem_cons,List.not_mem_nil,or_false,forall_eq,forall_eq_or_imp,and_true,true_and,false_imp_iff,implies_true];first |done |omega) |(right;kernel_rfl))) |(apply QQ;simp only[evA,gB,gA];exact rfl) |((first |apply QX |apply QY);(first |rfl |decide |assumption)))
    refine⟨n-(k+1),by omega,k+1,.sl nm (ver+1) 0 (k+1),by omega,rfl,rfl,by(simp(disch:=omega)only[upd_ne];exact hH0),by rw[upd_same],.inr ⟨nm,ver+1,by omega,rfl,?_,by omega,by omega⟩,by omega,fun q hq=>by(simp(disch:=omega)only[upd_ne];exact hf q (by omega)),fun q hq=>by(simp(disch:=omega)only[upd_ne];exact hE q hq)⟩
    rw[hap]
    simp(disch:=omega)only[upd_ne,upd_same]
  ·obtain rfl:k=n:=by omega
   have htn:(recsF l k).take k=recsF l k:=List.take_of_length_le (by omega)
   rw[htn]at hv
   have hb:=bkts_le k (by omega)
   have hb8:=bkts8 k
   repeat(first |(with_reducible first |apply Q0 |apply Q1 |apply Q2 |apply Q3 |apply Q4 |apply Q5 |apply Q6 |apply Q7 |apply Q8 |apply Q9 |apply QA |apply QB |apply QC |apply QD |apply QE |apply QF) |((with_reducible apply QK rfl);simp(disch:=omega)only[go_sem,hf,upd_ne];exact rfl;simp only[sB,sA,putA];exact rfl) |(apply QQ;simp only[evA,gB,gA];exact rfl) |((first |apply QX |apply QY);(first |rfl |decide |assumption)))
   refine AWp.loop [0,2,4,5,7,8,9] (fun Γ H s' m=>∃(i:Nat) (cs:List (List Nat)) (v2:AV),i≤bkts k∧m=bkts k-i∧Γ=[.dsl l.length (ints l)]++(List.replicate 1 .junk)++[.ptr s 0 0]++(List.replicate 1 .junk)++[.sc (.int .i64 (k:Nat)),.ptr (s+1) 0 0]++(List.replicate 1 .junk)++[.sl s1 0 0 k,.sc (.int .i64 (cs.flatten.length:Nat)),.sc (.int .i64 (i:Nat))]++(List.replicate 127 .junk)∧
    chsF l k i=some cs∧H s=some (.row 0 1 [.sc (.slice none 0 0),.sc (.slice none 0 0)])∧H (s+1)=some (.row 0 1 [v1,v2])∧H s1=some (.row 0 1 (ints (hadL k cs.flatten)))∧RowE (s+2) 2 v1 H s1 (elsA (recsF l k)) k∧RowE (s1+1) 1 v2 H s' (rowsN cs) i∧s1+1≤s'∧(∀q,s'≤q→H q=none)∧∀q,q<s→H q=E.H q) (bkts k) ?_ ?_
   ·refine⟨0,[],_,Nat.zero_le _,rfl,rfl,rfl,by(simp(disch:=omega)only[upd_ne];exact hH0),by(simp(disch:=omega)only[upd_ne];exact hH1),?_,hv.keep (Nat.le_refl _) (fun q h1 h2=>by simp(disch:=omega)only[upd_ne]),.inl ⟨rfl,rfl,rfl⟩,by omega,fun q hq=>by(simp(disch:=omega)only[upd_ne];exact hf q (by omega)),fun q hq=>by(simp(disch:=omega)only[upd_ne];exact hE q hq)⟩
    rw[upd_same,List.flatten_nil,hadL_nil];simp[aZeros,Value.cells]
   clear hH0 hH1 hv hf hE
   rintro Γ H s2 m ⟨i,cs,v2,hi,rfl,rfl,hcs,hH0,hH1,hHd,hv1,hv2,hs2,hf,hE⟩
   obtain⟨hc1,hc2,hc3⟩:=chsF_ok hcs
   refine wA_ok hmix ctQ_ok _ (by kernel_rfl) ?_
   simp(maxSteps:=1000000)only[List.replicate_succ,List.replicate_zero,List.cons_append,List.nil_append,List.append_nil]
   by_cases hlt:i<bkts k
   ·cases hc:chF l k k (headAt i)with
    |none=>
     have hno:readX l=none:=by
      rw[hRF,chsF_none (k:=i+1) (by rw[chsF,hcs];simp only[hc]) (by omega)]
     repeat(first |(with_reducible first |apply Q0 |apply Q1 |apply Q2 |apply Q3 |apply Q4 |apply Q5 |apply Q6 |apply Q7 |apply Q8 |apply Q9 |apply QA |apply QB |apply QC |apply QD |apply QE |apply QF) |((first |(with_reducible apply QK rfl) |(apply QT;simp only[go_sem]<;>exact rfl));simp(disch:=omega)only[go_sem,hf,upd_ne,ints_len,cal18,ctQ_18,c18r,cal106,ctQ_106,c106,rdK_dsl,hc,hH0,hH1,bu78];exact rfl;simp only[sB,sA,putA];exact rfl) |(apply QI;simp only[go_sem]<;>exact rfl;simp only[sB,sA,putA];exact rfl) |(apply QQ;simp only[evA,gB,gA];exact rfl) |((first |apply QX |apply QY);(first |rfl |decide |assumption)))
     (apply QZ;simp(disch:=omega)only[go_sem,Try.results78,hH0];exact rfl;simp only[packA];exact rfl)
     exact hR _ _ (fun q hq=>by(simp(disch:=omega)only[upd_ne];exact hE q hq)) (.inl ⟨hno,rfl⟩)
    |some c=>
     obtain⟨hck,hcl⟩:=chF_ok hc
     repeat(first |(with_reducible first |apply Q0 |apply Q1 |apply Q2 |apply Q3 |apply Q4 |apply Q5 |apply Q6 |apply Q7 |apply Q8 |apply Q9 |apply QA |apply QB |apply QC |apply QD |apply QE |apply QF) |((first |(with_reducible apply QK rfl) |(apply QT;simp only[go_sem]<;>exact rfl));simp(disch:=omega)only[go_sem,hf,upd_ne,ints_len,cal18,ctQ_18,c18r,cal106,ctQ_106,c106,rdK_dsl,hc,hH0,hH1];exact rfl;simp only[sB,sA,putA];exact rfl) |(apply QI;simp only[go_sem]<;>exact rfl;simp only[sB,sA,putA];exact rfl) |(apply QQ;simp only[evA,gB,gA];exact rfl) |((first |apply QX |apply QY);(first |rfl |decide |assumption)))
     refine AWp.loop [0,2,4,5,7,8,9,10,12] (fun Γ H s' m=>∃q:Nat,q≤c.length∧m=c.length-q∧Γ=[.dsl l.length (ints l)]++(List.replicate 1 .junk)++[.ptr s 0 0]++(List.replicate 1 .junk)++[.sc (.int .i64 (k:Nat)),.ptr (s+1) 0 0]++(List.replicate 1 .junk)++[.sl s1 0 0 k,.sc (.int .i64 ((cs.flatten++c.take q).length:Nat)),.sc (.int .i64 (i:Nat)),.dsl c.length (natsA c)]++(List.replicate 1 .junk)++[.sc (.int .i64 (q:Nat))]++(List.replicate 124 .junk)∧
      (cs.flatten++c.take q).Nodup∧H s=some (.row 0 1 [.sc (.slice none 0 0),.sc (.slice none 0 0)])∧H (s+1)=some (.row 0 1 [v1,v2])∧H s1=some (.row 0 1 (ints (hadL k (cs.flatten++c.take q))))∧RowE (s+2) 2 v1 H s1 (elsA (recsF l k)) k∧RowE (s1+1) 1 v2 H s' (rowsN cs) i∧s1+1≤s'∧(∀q,s'≤q→H q=none)∧∀q,q<s→H q=E.H q) c.length ?_ ?_
     ·exact⟨0,Nat.zero_le _,rfl,by rw[List.take_zero,List.append_nil];rfl,by rw[List.take_zero,List.append_nil];exact hc2,hH0,hH1,by rw[List.take_zero,List.append_nil];exact hHd,hv1,hv2,hs2,hf,hE⟩
     clear hH0 hH1 hHd hv1 hv2 hs2 hf hE
     rintro Γ H s3 m ⟨q,hq,rfl,rfl,hnd,hH0,hH1,hHd,hv1,hv2,hs2,hf,hE⟩
     refine wA_ok hmix ctQ_ok _ (by kernel_rfl) ?_
     simp(maxSteps:=1000000)only[List.replicate_succ,List.replicate_zero,List.cons_append,List.nil_append,List.append_nil]
     have hle:(cs.flatten++c.take q).length≤k:=nodup_len k _ hnd (fun r hr=>by
      rcases List.mem_append.1 hr with hr |hr
      ·obtain⟨d,hd,hrd⟩:=List.mem_flatten.1 hr
       exact(hc3 d hd).1 r hrd
      ·exact hck r (List.mem_of_mem_take hr))
     by_cases hqlt:q<c.length
     ·have hrk:=hck _ (List.getElem_mem hqlt)
      have htk:cs.flatten++c.take (q+1)=(cs.flatten++c.take q)++[c[q]]:=by rw[List.take_succ_eq_append_getElem hqlt,List.append_assoc]
      have hhl:=hadL_len k (cs.flatten++c.take q)
      have hg2:∀x,((hadL k (cs.flatten++c.take q)).set c[q] x)[c[q]]? =some x:=fun x=>by rw[List.getElem?_set,if_pos rfl,if_pos (by omega)]
      by_cases hin:c[q]∈cs.flatten++c.take q
      ·have hval:∀h:c[q]<(hadL k (cs.flatten++c.take q)).length,(hadL k (cs.flatten++c.take q))[c[q]]'h=1:=fun h=>by rw[hadL_get,if_pos hin]
       have hno:readX l=none:=by
        have:chsF l k (i+1)=none:=by
         rw[chsF,hcs]
         simp only[hc]
         rw[if_neg]
         intro hn2
         rw[←List.take_append_drop q c,←List.append_assoc]at hn2
         have:=(List.nodup_append.1 hn2).2.2 c[q] hin c[q] (by rw[List.drop_eq_getElem_cons hqlt];exact List.mem_cons_self)
         exact this rfl
        rw[hRF,chsF_none this (by omega)]
       repeat(first |(with_reducible first |apply Q0 |apply Q1 |apply Q2 |apply Q3 |apply Q4 |apply Q5 |apply Q6 |apply Q7 |apply Q8 |apply Q9 |apply QA |apply QB |apply QC |apply QD |apply QE |apply QF) |((with_reducible apply QK rfl);simp(disch:=omega)only[go_sem,hf,upd_ne,ints_len,hH0,hH1,hHd,hhl,hval,hg2,ints_set,bu78];exact rfl;simp only[sB,sA,putA];exact rfl) |(apply QQ;simp only[evA,gB,gA];exact rfl) |((first |apply QX |apply QY);(first |rfl |decide |assumption)))
       (apply QZ;simp(disch:=omega)only[go_sem,Try.results78,hH0,upd_ne];exact rfl;simp only[packA];exact rfl)
       exact hR _ _ (fun q hq=>by(simp(disch:=omega)only[upd_ne];exact hE q hq)) (.inl ⟨hno,rfl⟩)
      ·have hval:∀h:c[q]<(hadL k (cs.flatten++c.take q)).length,(hadL k (cs.flatten++c.take q))[c[q]]'h=0:=fun h=>by rw[hadL_get,if_neg hin]
       repeat(first |(with_reducible first |apply Q0 |apply Q1 |apply Q2 |apply Q3 |apply Q4 |apply Q5 |apply Q6 |apply Q7 |apply Q8 |apply Q9 |apply QA |apply QB |apply QC |apply QD |apply QE |apply QF) |((with_reducible apply QK rfl);simp(disch:=omega)only[go_sem,hf,upd_ne,ints_len,hH0,hH1,hHd,hhl,hval,hg2,ints_set];exact rfl;simp only[sB,sA,putA];exact rfl) |(apply QQ;simp only[evA,gB,gA];exact rfl) |((first |apply QX |apply QY);(first |rfl |decide |assumption)))
       refine⟨c.length-(q+1),by omega,q+1,by omega,rfl,?_,?_,by(simp(disch:=omega)only[upd_ne];exact hH0),by(simp(disch:=omega)only[upd_ne];exact hH1),?_,hv1.keep (Nat.le_refl _) (fun q h1 h2=>by simp(disch:=omega)only[upd_ne]),hv2.keep (Nat.le_refl _) (fun q h1 h2=>by simp(disch:=omega)only[upd_ne]),by omega,fun q hq=>by(simp(disch:=omega)only[upd_ne];exact hf q (by omega)),fun q hq=>by(simp(disch:=omega)only[upd_ne];exact hE q hq)⟩
       ·rw[htk,List.length_append (bs:=[c[q]])];rfl
       ·rw[htk]
        exact List.nodup_append.2 ⟨hnd,by simp,fun a ha b hb e=>by simp at hb;subst hb;subst e;exact hin ha⟩
       ·rw[upd_same,htk,←hadL_set hrk];rfl
     ·obtain rfl:q=c.length:=by omega
      rw[List.take_length]at hnd hHd hle
      have hcs2:chsF l k (i+1)=some (cs++[c]):=by rw[chsF,hcs];simp only[hc];rw[if_pos hnd]
      have hfl:(cs++[c]).flatten=cs.flatten++c:=by simp
      have hrn:rowsN (cs++[c])=rowsN cs++[.dsl c.length (natsA c)]:=by simp[rowsN]
      have hrl2:=rowsN_len cs
      have hrt:(rowsN cs).take i=rowsN cs:=List.take_of_length_le (by omega)
      rcases hv2 with⟨h0',hcs',rfl⟩ |⟨nm,ver,h0',rfl,hH,hl1,hl2⟩
      ·repeat(first |(with_reducible first |apply Q0 |apply Q1 |apply Q2 |apply Q3 |apply Q4 |apply Q5 |apply Q6 |apply Q7 |apply Q8 |apply Q9 |apply QA |apply QB |apply QC |apply QD |apply QE |apply QF) |((with_reducible apply QK rfl);simp(disch:=omega)only[go_sem,hf,upd_ne,hH0,hH1,bs35];exact rfl;simp only[sB,sA,putA];exact rfl) |(apply QQ;simp only[evA,gB,gA];exact rfl) |((first |apply QX |apply QY);(first |rfl |decide |assumption)))
       refine⟨bkts k-(i+1),by omega,i+1,cs++[c],.sl (s3+1) 0 0 1,by omega,rfl,by rw[hfl,List.take_length];rfl,hcs2,by(simp(disch:=omega)only[upd_ne];exact hH0),by rw[upd_same],by(simp(disch:=omega)only[upd_ne];rw[hfl];exact hHd),hv1.keep (Nat.le_refl _) (fun q h1 h2=>by simp(disch:=omega)only[upd_ne]),.inr ⟨s3+1,0,by omega,by rw[h0'],?_,by omega,by omega⟩,by omega,fun q hq=>by(simp(disch:=omega)only[upd_ne];exact hf q (by omega)),fun q hq=>by(simp(disch:=omega)only[upd_ne];exact hE q hq)⟩
       rw[hrn,hcs']
       simp(disch:=omega)only[upd_ne,upd_same]
       rfl
      ·repeat(first |(with_reducible first |apply Q0 |apply Q1 |apply Q2 |apply Q3 |apply Q4 |apply Q5 |apply Q6 |apply Q7 |apply Q8 |apply Q9 |apply QA |apply QB |apply QC |apply QD |apply QE |apply QF) |((with_reducible apply QK rfl);simp(disch:=omega)only[go_sem,hf,upd_ne,hH0,hH1,hH,bs35,hrl2,hrt,rowsN_one];exact rfl;simp only[sB,sA,putA];exact rfl) |(apply QQ;simp only[evA,gB,gA];exact rfl) |((first |apply QX |apply QY);(first |rfl |decide |assumption)))
       refine⟨bkts k-(i+1),by omega,i+1,cs++[c],.sl nm (ver+1) 0 (i+1),by omega,rfl,by rw[hfl,List.take_length];rfl,hcs2,by(simp(disch:=omega)only[upd_ne];exact hH0),by rw[upd_same],by(simp(disch:=omega)only[upd_ne];rw[hfl];exact hHd),hv1.keep (Nat.le_refl _) (fun q h1 h2=>by simp(disch:=omega)only[upd_ne]),.inr ⟨nm,ver+1,by omega,rfl,?_,by omega,by omega⟩,by omega,fun q hq=>by(simp(disch:=omega)only[upd_ne];exact hf q (by omega)),fun q hq=>by(simp(disch:=omega)only[upd_ne];exact hE q hq)⟩
       rw[hrn]
       simp(disch:=omega)only[upd_ne,upd_same]
   ·obtain rfl:i=bkts k:=by omega
    by_cases hmany:cs.flatten.length=k
    ·have hW:WOK (recsF l k) cs:=⟨by omega,by rw[hrl];exact hc1,fun c hc r hr=>by rw[hrl];exact(hc3 c hc).1 r hr,fun c hc=>by have:=(hc3 c hc).2;omega⟩
     rw[←hc1]at hv2
     have hv1':RowE (s+2) 2 v1 H s2 (elsA (recsF l k)) (recsF l k).length:=by rw[hrl];exact hv1.keep (by omega) (fun q h1 h2=>rfl)
     obtain⟨a1,l1,a2⟩:=hv1'.rdE2
     have hbp:=bkts8 k
     obtain⟨nm2,ver2,hv2e,hH2,hn2⟩:∃nm2 ver2,v2= .sl nm2 ver2 0 cs.length∧H nm2=some (.row ver2 1 (rowsN cs))∧nm2<s2:=by
      rcases hv2 with⟨h0,_⟩ |⟨nm,ver,_,h1,h2,h3,_⟩
      ·omega
      ·exact⟨nm,ver,h1,h2,h3⟩
     subst hv2e
     have hrd:∀kk s,(rdT (.agg [v1,.sl nm2 ver2 0 cs.length]) kk).run H s=(kk (recsF l k) cs).run H s:=fun kk s=>by simp only[rdT];rw[a1,rdC_sl hH2]
     obtain⟨b0,b1,hrdL⟩:∃b0 b1,∀kk s,(rdT (.agg [v1,.sl nm2 ver2 0 cs.length]) kk).runL H s=addRd (b0::b1) ((kk (recsF l k) cs).runL H s):=by
      have hb:∀kk s,(rdC (.sl nm2 ver2 0 cs.length) kk).runL H s=addRd [nm2] ((kk cs).runL H s):=fun kk s=>by
       have e:(rowsN cs).take cs.length=rowsN cs:=List.take_of_length_le (by rw[rowsN_len];exact Nat.le_refl _)
       unfold rdC
       rw[runL_get hH2]
       simp only[List.drop_zero,e,rowsN_len,true_and,and_self,if_true,rdRows_data]
      cases l1 with
      |nil=>exact⟨nm2,[],fun kk s=>by simp only[rdT];rw[a2,hb,addRd_nil]⟩
      |cons x l1=>exact⟨x,l1++[nm2],fun kk s=>by simp only[rdT];rw[a2,hb,addRd_app];rfl⟩
     have hbl:(cs.length:Nat)≤1000000:=by omega
     have hone:AV.one v1=true:=by
      rcases hv1' with⟨_,_,rfl⟩ |⟨_,_,_,rfl,_⟩<;>rfl
     have hwl2:(wordsF (recsF l k) cs).length≤1000000000:=by
      unfold wordsF
      rw[wC_len,wR_len,headL_len,hrl]
      omega
     repeat(first |(with_reducible first |apply Q0 |apply Q1 |apply Q2 |apply Q3 |apply Q4 |apply Q5 |apply Q6 |apply Q7 |apply Q8 |apply Q9 |apply QA |apply QB |apply QC |apply QD |apply QE |apply QF) |((with_reducible apply QK rfl);simp(disch:=omega)only[go_sem,hf,upd_ne,ints_len,cal18,ctQ_18,c18r,hH0,hH1];exact rfl;simp only[sB,sA,putA];exact rfl) |(apply QQ;simp only[evA,gB,gA];exact rfl) |((first |apply QX |apply QY);(first |rfl |decide |assumption)))
     refine AWp.loop [0,2,5,13] (fun Γ H' s' m=>∃i:Nat,i≤cs.length∧m=cs.length-i∧Γ=[.dsl l.length (ints l)]++(List.replicate 1 .junk)++[.ptr s 0 0]++(List.replicate 2 .junk)++[.ptr (s+1) 0 0]++(List.replicate 7 .junk)++[.sc (.int .i64 (i:Nat))]++(List.replicate 123 .junk)∧H'=H∧s'=s2∧
      ∀j,j<i→srtF j cs.length none [] (elsOfC (recsF l k) (cs.getD j []))=true) cs.length ?_ ?_
     ·exact⟨0,Nat.zero_le _,rfl,rfl,rfl,rfl,fun j hj=>absurd hj (by omega)⟩
     rintro Γ H' s' m ⟨i,hi,rfl,rfl,rfl,rfl,hsr⟩
     refine wA_ok hmix ctQ_ok _ (by kernel_rfl) ?_
     simp(maxSteps:=1000000)only[List.replicate_succ,List.replicate_zero,List.cons_append,List.nil_append,List.append_nil]
     by_cases hilt:i<cs.length
     ·by_cases hsi:srtF i cs.length none [] (elsOfC (recsF l k) (cs.getD i []))=true
      ·repeat(first |(with_reducible first |apply Q0 |apply Q1 |apply Q2 |apply Q3 |apply Q4 |apply Q5 |apply Q6 |apply Q7 |apply Q8 |apply Q9 |apply QA |apply QB |apply QC |apply QD |apply QE |apply QF) |((with_reducible apply QK rfl);simp(disch:=omega)only[go_sem,hf,upd_ne,hH0,hH1,cal96,ctQ_96,c96,hrd,hW,hsi];exact rfl;simp only[sB,sA,putA];exact rfl) |(apply QQ;simp only[evA,gB,gA];exact rfl) |((first |apply QX |apply QY);(first |rfl |decide |assumption)))
       refine⟨cs.length-(i+1),by omega,i+1,by omega,rfl,rfl,rfl,rfl,fun j hj=>?_⟩
       by_cases e:j=i
       ·rw[e];exact hsi
       ·exact hsr j (by omega)
      ·have hsf:srtF i cs.length none [] (elsOfC (recsF l k) (cs.getD i []))=false:=by simpa using hsi
       have hno:readX l=none:=by
        rw[hRF,hcs]
        simp only
        rw[if_neg (fun h=>hsi (h.2 i hilt))]
       repeat(first |(with_reducible first |apply Q0 |apply Q1 |apply Q2 |apply Q3 |apply Q4 |apply Q5 |apply Q6 |apply Q7 |apply Q8 |apply Q9 |apply QA |apply QB |apply QC |apply QD |apply QE |apply QF) |((with_reducible apply QK rfl);simp(disch:=omega)only[go_sem,hf,upd_ne,hH0,hH1,cal96,ctQ_96,c96,hrd,hW,hsf,bu78];exact rfl;simp only[sB,sA,putA];exact rfl) |(apply QQ;simp only[evA,gB,gA];exact rfl) |((first |apply QX |apply QY);(first |rfl |decide |assumption)))
       (apply QZ;simp(disch:=omega)only[go_sem,Try.results78,hH0,upd_ne];exact rfl;simp only[packA];exact rfl)
       exact hR _ _ (fun q hq=>by(simp(disch:=omega)only[upd_ne];exact hE q hq)) (.inl ⟨hno,rfl⟩)
     ·obtain rfl:i=cs.length:=by omega
      repeat(first |(with_reducible first |apply Q0 |apply Q1 |apply QG |apply Q2 |apply Q3 |apply Q4 |apply Q5 |apply Q6 |apply Q7 |apply Q8 |apply Q9 |apply QA |apply QB |apply QC |apply QD |apply QE |apply QF) |((with_reducible apply QK rfl);simp(disch:=omega)only[go_sem,hf,upd_ne,hH0,hH1,cal51,ctQ_51,c51,cal107,ctQ_107,c107,rdK_dsl,hrdL,hW,addRd_some,↓hone];exact rfl;simp only[sB,sA,putA];exact rfl) |((first |(with_reducible apply QL rfl) |(apply QM;simp only[go_sem]<;>exact rfl));simp(disch:=omega)only[go_sem,hf,upd_ne,hH0,hH1,cal51,ctQ_51,c51,cal107,ctQ_107,c107,rdK_dsl,hrdL,hW,addRd_some,↓hone];exact rfl;simp only[sB,sA,putA];exact rfl;simp only[logT_none,logT_rd,logT_wr,List.cons_append,List.nil_append];exact rfl) |((first |apply QI |apply QN);simp only[go_sem]<;>exact rfl;simp only[sB,sA,putA];exact rfl) |(refine QO ?_ ?_;first |focus(simp only[dyn_nil,dyn_cons,allY_nil,allY_cons,dj_rr,true_or,true_and];done) |focus(simp only[dyn_nil,dyn_cons,allY_nil,allY_cons,Dj,List.mem_cons,List.not_mem_nil,or_false,forall_eq,forall_eq_or_imp,and_true,true_and,false_imp_iff,implies_true];omega) |focus(simp only[dyn_nil,dyn_cons,allY_nil,allY_cons,and_true,true_and];(repeat' refine And.intro ?_ ?_);all_goals first |(left;simp only[Dj,List.mem_cons,List.not_mem_nil,or_false,forall_eq,forall_eq_or_imp,and_true,true_and,false_imp_iff,implies_true];first |done |omega) |(right;kernel_rfl))) |(apply QQ;simp only[evA,gB,gA];exact rfl) |((first |apply QX |apply QY);(first |rfl |decide |assumption)))
      (apply QZ;simp(disch:=omega)only[go_sem,Try.results78,hH0,upd_ne];exact rfl;simp only[packA];exact rfl)
      have hE2:∀q,q<s→(upd H' s (AO.row 0 1 [v1,AV.sl nm2 ver2 0 cs.length])) q=E.H q:=fun q hq=>by(simp(disch:=omega)only[upd_ne];exact hE q hq)
      have r1:RowE s 2 v1 (upd H' s (AO.row 0 1 [v1,AV.sl nm2 ver2 0 cs.length])) s' (elsA (recsF l k)) (recsF l k).length:=(hv1'.keep (Nat.le_refl _) (fun q h1 h2=>by simp(disch:=omega)only[upd_ne])).lower (by omega)
      have r2:RowE s 1 (.sl nm2 ver2 0 cs.length) (upd H' s (AO.row 0 1 [v1,AV.sl nm2 ver2 0 cs.length])) s' (rowsN cs) cs.length:=(hv2.keep (Nat.le_refl _) (fun q h1 h2=>by simp(disch:=omega)only[upd_ne])).lower (by omega)
      have hyes:readX l=some (recsF l k,cs):=by
       rw[hRF,hcs]
       simp only
       rw[if_pos ⟨hmany,hsr⟩]
      exact hR _ _ hE2 (.inr ⟨_,_,_,_,s',hyes,rfl,r1,r2⟩)
    ·have hno:readX l=none:=by
      rw[hRF,hcs]
      simp only
      rw[if_neg (fun h=>hmany h.1)]
     have hm2:¬((cs.flatten.length:Nat):Int)=(k:Int):=by omega
     repeat(first |(with_reducible first |apply Q0 |apply Q1 |apply Q2 |apply Q3 |apply Q4 |apply Q5 |apply Q6 |apply Q7 |apply Q8 |apply Q9 |apply QA |apply QB |apply QC |apply QD |apply QE |apply QF) |((with_reducible apply QK rfl);simp(disch:=omega)only[go_sem,hf,upd_ne,ints_len,cal18,ctQ_18,c18r,hH0,hH1,bu78];exact rfl;simp only[sB,sA,putA];exact rfl) |(apply QQ;simp only[evA,gB,gA];exact rfl) |((first |apply QX |apply QY);(first |rfl |decide |assumption)))
     (apply QZ;simp(disch:=omega)only[go_sem,Try.results78,hH0,upd_ne];exact rfl;simp only[packA];exact rfl)
     exact hR _ _ (fun q hq=>by(simp(disch:=omega)only[upd_ne];exact hE q hq)) (.inl ⟨hno,rfl⟩)
 ·have hno:=readX_head (l:=l) (fun h=>h2 (by rw[h.2.2.2,hn,Int.toNat_natCast]))
  repeat(first |(with_reducible first |apply Q0 |apply Q1 |apply Q2 |apply Q3 |apply Q4 |apply Q5 |apply Q6 |apply Q7 |apply Q8 |apply Q9 |apply QA |apply QB |apply QC |apply QD |apply QE |apply QF) |((first |(with_reducible apply QK rfl) |(apply QT;simp only[go_sem]<;>exact rfl));simp(disch:=omega)only[go_sem,hs,upd_ne,bu78,hh0,ints_len,cal19,ctQ_19,c19r];exact rfl;simp only[sB,sA,putA];exact rfl) |(apply QI;simp only[go_sem]<;>exact rfl;simp only[sB,sA,putA];exact rfl) |(apply QQ;simp only[evA,gB,gA];exact rfl) |((first |apply QX |apply QY);(first |rfl |decide |assumption)))
  (apply QZ;simp(disch:=omega)only[go_sem,Try.results78];exact rfl;simp only[packA];exact rfl)
  exact hR _ _ (fun q hq=>by simp(disch:=omega)only[upd_ne]) (.inl ⟨hno,rfl⟩)
end Go.Proofs.Ytdcomhdadnhpnaa
