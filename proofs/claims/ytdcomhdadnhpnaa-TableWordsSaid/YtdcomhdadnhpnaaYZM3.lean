import Derived.Test.YtdcomhdadnhpnaaYZM2
import Derived.Test.YtdcomhdadnhpnaaYZM1
set_option linter.all false
section
namespace Go.Proofs.Ytdcomhdadnhpnaa
theorem ati_set (l:List Int) (i:Nat) (v:Int) (j:Nat):ati (l.set i v) j=if i=j∧i<l.length then v else ati l j:=by
 unfold ati
 by_cases h:i<l.length
 ·by_cases e:i=j
  ·subst e;simp[h]
  ·simp[e,h,List.getElem?_set]
 ·rw[List.set_eq_of_length_le (by omega)];simp[h]
theorem ati_set_ne {l:List Int} {i:Nat} {v:Int} {j:Nat} (h:i≠j):ati (l.set i v) j=ati l j:=by rw[ati_set,if_neg (fun e=>h e.1)]
theorem ati_set_eq {l:List Int} {i:Nat} {v:Int} (h:i<l.length):ati (l.set i v) i=v:=by rw[ati_set,if_pos ⟨rfl,h⟩]
theorem ati_big {l:List Int} {i:Nat} (h:l.length≤i):ati l i=0:=by unfold ati;simp[h]
theorem ati_append_zeros (l:List Int) (m q:Nat):ati (l++List.replicate m 0) q=ati l q:=by
 unfold ati
 by_cases h:q<l.length
 ·simp[List.getElem?_append_left h]
 ·simp[List.getElem?_append_right (show l.length≤q by omega),List.getElem?_replicate]
  split<;>simp[show l.length≤q by omega]
theorem ati_take (l:List Int) (m q:Nat):ati (l.take m) q=if q<m then ati l q else 0:=by
 unfold ati
 by_cases h:q<m
 ·simp[h]
 ·rw[if_neg h,List.getD_eq_getElem?_getD,List.getElem?_eq_none (by rw[List.length_take];omega)];rfl
theorem ext_ati {l l':List Int} (hl:l.length=l'.length) (h:∀q,q<l.length→ati l q=ati l' q):l=l':=by
 apply List.ext_getElem hl
 intro i h1 h2
 have:=h i h1
 unfold ati at this
 simpa[h1,h2]using this
theorem sizedL_len (l:List Int) (n:Nat):(sizedL l n).length=wlen n:=by
 unfold sizedL;simp;omega
theorem ati_sizedL (l:List Int) (n q:Nat):ati (sizedL l n) q=if q=0 then(n:Int)else if q=1 then(bkts n:Int)else if q=2 then(pow2 (bkts n):Nat)else if q<wlen n then ati l q else 0:=by
 have h60:=wlen_ge n
 have hl:((l++List.replicate (wlen n-l.length) 0).take (wlen n)).length=wlen n:=by simp;omega
 unfold sizedL
 rw[ati_set,ati_set,ati_set,List.length_set,List.length_set,hl,ati_take,ati_append_zeros]
 by_cases e0:q=0
 ·subst e0;simp;omega
 ·by_cases e1:q=1
  ·subst e1;simp;omega
  ·by_cases e2:q=2
   ·subst e2;simp;omega
   ·simp[e0,e1,e2,Ne.symm e0,Ne.symm e1,Ne.symm e2]
theorem headAt_inj {i j:Nat} (h:headAt i=headAt j):i=j:=by unfold headAt at h;omega
theorem recAt_inj {r s a b:Nat} (h:recAt r+a=recAt s+b) (ha:a<3) (hb:b<3):r=s∧a=b:=by
 unfold recAt at h
 have hr:=Nat.mod_add_div r 16
 have hs:=Nat.mod_add_div s 16
 have h1:=Nat.mod_lt r (show 0<16 by omega)
 have h2:=Nat.mod_lt s (show 0<16 by omega)
 generalize r%16=x at*
 generalize s%16=y at*
 generalize r/16=A at*
 generalize s/16=B at*
 have:A=B:=by omega
 omega
theorem head_rec {i r a:Nat} (h:headAt i=recAt r+a) (ha:a<3):False:=by
 unfold headAt recAt at h
 have h1:=Nat.mod_lt r (show 0<16 by omega)
 have h2:=Nat.mod_lt i (show 0<8 by omega)
 generalize r%16=x at*
 generalize i%8=y at*
 generalize r/16=A at*
 generalize i/8=B at*
 rcases Nat.lt_trichotomy A B with h |h |h<;>omega
theorem headAt_ge (i:Nat):4≤headAt i:=by unfold headAt;omega
theorem recAt_ge (i:Nat):12≤recAt i:=by unfold recAt;omega
def CL (l:List Int):Nat→List Nat→Prop
 |f,[]=>f<l.length∧ati l f=0
 |f,r::rs=>f<l.length∧ati l f=(r:Int)+1∧r≤100000∧CL l (recAt r+2) rs
def wf:Nat→List Nat→List (Nat×Nat)
 |_,[]=>[]
 |f,r::rs=>(r,f)::wf (recAt r+2) rs
def endp:Nat→List Nat→Nat
 |f,[]=>f
 |_,r::rs=>endp (recAt r+2) rs
theorem wf_map:∀(f:Nat) (rs:List Nat),(wf f rs).map (·.1)=rs
 |_,[]=>rfl
 |f,r::rs=>by simp[wf,wf_map]
theorem wf_len (f:Nat) (rs:List Nat):(wf f rs).length=rs.length:=by rw[←List.length_map (·.1),wf_map]
theorem wf_append:∀(f:Nat) (a b:List Nat),wf f (a++b)=wf f a++wf (endp f a) b
 |_,[],_=>rfl
 |f,r::a,b=>by simp[wf,endp,wf_append]
theorem endp_append:∀(f:Nat) (a b:List Nat),endp f (a++b)=endp (endp f a) b
 |_,[],_=>rfl
 |f,r::a,b=>by simp[endp,endp_append]
theorem endp_cases:∀(f:Nat) (rs:List Nat),(rs=[]∧endp f rs=f)∨∃r∈rs,endp f rs=recAt r+2
 |f,[]=>.inl ⟨rfl,rfl⟩
 |f,r::rs=>by
  rcases endp_cases (recAt r+2) rs with⟨rfl,h⟩ |⟨s,hs,h⟩
  ·exact .inr ⟨r,by simp,h⟩
  ·exact .inr ⟨s,by simp[hs],h⟩
theorem CL.chn {l:List Int}:∀ {f:Nat} {rs:List Nat},CL l f rs→Chn l f (wf f rs)
 |f,[],h=>Chn.nil f h.1 h.2
 |f,r::rs,h=>Chn.cons f r _ h.1 h.2.1 h.2.2.1 h.2.2.2.chn
theorem CL.frame {l l':List Int}:∀ {f:Nat} {rs:List Nat},CL l f rs→(∀q,(q=f∨∃r∈rs,q=recAt r+2)→q<l'.length∧ati l' q=ati l q)→CL l' f rs
 |f,[],h,k=>⟨(k f (.inl rfl)).1,(k f (.inl rfl)).2.trans h.2⟩
 |f,r::rs,h,k=>⟨(k f (.inl rfl)).1,(k f (.inl rfl)).2.trans h.2.1,h.2.2.1,h.2.2.2.frame (fun q hq=>k q (.inr (by
   rcases hq with rfl |⟨s,hs,rfl⟩
   ·exact⟨r,by simp,rfl⟩
   ·exact⟨s,by simp[hs],rfl⟩)))⟩
theorem CL.split {l:List Int}:∀ {f:Nat} {a b:List Nat},CL l f (a++b)→CL l (endp f a) b
 |_,[],_,h=>h
 |_,_::_,_,h=>h.2.2.2.split
theorem CL.endlt {l:List Int}:∀ {f:Nat} {rs:List Nat},CL l f rs→f<l.length
 |_,[],h=>h.1
 |_,_::_,h=>h.1
theorem CL.graft {l l':List Int} {b':List Nat}:∀ {f:Nat} {a b:List Nat},CL l f (a++b)→(∀q,(q=f∨∃r∈a,q=recAt r+2)→q≠endp f a→q<l'.length∧ati l' q=ati l q)→
  (∀r∈a,f≠recAt r+2)→a.Nodup→CL l' (endp f a) b'→CL l' f (a++b')
 |_,[],_,_,_,_,_,h=>h
 |f,r::a,b,h,k,hf,hn,hb=>by
  have hn2:=List.nodup_cons.1 hn
  have hfe:f≠endp (recAt r+2) a:=by
   rcases endp_cases (recAt r+2) a with⟨_,e⟩ |⟨s,hs,e⟩
   ·rw[e];exact hf r (by simp)
   ·rw[e];exact hf s (by simp[hs])
  have hk:=k f (.inl rfl) hfe
  refine⟨hk.1,hk.2.trans h.2.1,h.2.2.1,?_⟩
  refine h.2.2.2.graft (fun q hq hne=>k q (.inr ?_) hne) (fun s hs e=>?_) hn2.2 hb
  ·rcases hq with rfl |⟨s,hs,rfl⟩
   ·exact⟨r,by simp,rfl⟩
   ·exact⟨s,by simp[hs],rfl⟩
  ·have:=(recAt_inj e (by omega) (by omega)).1
   subst this
   exact hn2.1 hs
theorem linkL_ati (l:List Int) (f:Nat) (rs:List Nat) (q:Nat) (h:q≠f) (hq:∀r∈rs,q≠recAt r+2):ati (linkL l f rs) q=ati l q:=by
 induction rs generalizing l f with
 |nil=>show ati (l.set f 0) q=_;exact ati_set_ne (Ne.symm h)
 |cons r rs ih=>
  show ati (linkL (l.set f ((r:Int)+1)) (recAt r+2) rs) q=_
  rw[ih _ _ (hq r (by simp)) (fun s hs=>hq s (by simp[hs])),ati_set_ne (Ne.symm h)]
theorem linkL_cl (l:List Int) (f:Nat) (rs:List Nat) (hf:f<l.length) (hr:∀r∈rs,recAt r+2<l.length∧r≤100000) (hd:∀r∈rs,f≠recAt r+2) (hn:rs.Nodup):CL (linkL l f rs) f rs:=by
 induction rs generalizing l f with
 |nil=>exact⟨by rw[linkL_len];exact hf,by show ati (l.set f 0) f=0;exact ati_set_eq hf⟩
 |cons r rs ih=>
  have hn2:=List.nodup_cons.1 hn
  have e:linkL l f (r::rs)=linkL (l.set f ((r:Int)+1)) (recAt r+2) rs:=rfl
  rw[e]
  refine⟨by rw[linkL_len,List.length_set];exact hf,?_,(hr r (by simp)).2,ih _ _ (by rw[List.length_set];exact(hr r (by simp)).1) (fun s hs=>by rw[List.length_set];exact hr s (by simp[hs])) (fun s hs e=>?_) hn2.2⟩
  ·rw[linkL_ati _ _ _ _ (hd r (by simp)) (fun s hs=>hd s (by simp[hs])),ati_set_eq hf]
  ·have:=(recAt_inj e (by omega) (by omega)).1
   subst this
   exact hn2.1 hs
end Go.Proofs.Ytdcomhdadnhpnaa
end
section
namespace Go.Proofs.Ytdcomhdadnhpnaa
theorem pow2_eq {b k:Nat} (h1:2^k≤b) (h2:b<2^(k+1)):pow2 b=2^k:=by
 unfold pow2
 rw[(Nat.log2_eq_iff (by have:=Nat.two_pow_pos k;omega)).2 ⟨h1,h2⟩]
theorem bkt_succ (h b:Nat) (hb:1≤b):bkt h (b+1)=if h%(2*pow2 b)<b+1 then h%(2*pow2 b)else h%pow2 b:=by
 have h1:=pow2_le (b:=b) (by omega)
 have h2:=lt_2pow2 b
 have h0:=pow2_pos b
 by_cases hc:b+1<2*pow2 b
 ·have e:pow2 (b+1)=pow2 b:=pow2_eq (k:=Nat.log2 b) (by show pow2 b≤_;omega) (by rw[Nat.pow_succ];show _<pow2 b*2;omega)
  unfold bkt;rw[e]
 ·have hbe:b+1=2*pow2 b:=by omega
  have e:pow2 (b+1)=2*pow2 b:=by
   rw[pow2_eq (k:=Nat.log2 b+1) (by rw[Nat.pow_succ];show pow2 b*2≤_;omega) (by rw[Nat.pow_succ,Nat.pow_succ];show _<pow2 b*2*2;omega),Nat.pow_succ]
   show pow2 b*2=_;omega
  unfold bkt;rw[e]
  generalize pow2 b=p at*
  have hm:=Nat.mod_lt h (show 0<2*p by omega)
  rw[if_pos (show h%(2*p)<b+1 by omega)]
  split
  ·rename_i hx
   have:h%(2*(2*p))%(2*p)=h%(2*p):=Nat.mod_mul_left_mod _ _ _
   exact(Nat.mod_eq_of_lt (show h%(2*(2*p))<2*p by omega)).symm.trans this
  ·rfl
theorem bkt_new {h b:Nat} (hb:1≤b) (e:bkt h (b+1)=b):bkt h b=b-pow2 b:=by
 have h1:=pow2_le (b:=b) (by omega)
 have h2:=lt_2pow2 b
 have h0:=pow2_pos b
 rw[bkt_succ h b hb]at e
 unfold bkt
 generalize pow2 b=p at*
 have hp:=Nat.mod_lt h h0
 split at e
 ·rw[if_neg (by omega)]
  have:h%(2*p)%p=h%p:=Nat.mod_mul_left_mod _ _ _
  rw[←this,e,Nat.mod_eq_sub_mod h1,Nat.mod_eq_of_lt (by omega)]
 ·omega
theorem bkt_old {h b:Nat} (hb:1≤b) (e:bkt h (b+1)≠b):bkt h (b+1)=bkt h b:=by
 have h1:=pow2_le (b:=b) (by omega)
 rw[bkt_succ h b hb]at e ⊢
 unfold bkt
 by_cases hc:h%(2*pow2 b)<b+1
 ·rw[if_pos hc]at e ⊢
  rw[if_pos (by omega)]
 ·rw[if_neg hc,if_neg (by omega)]
structure G (l:List Int) (n b:Nat) (C:Nat→List Nat):Prop where
 n1:n≤100000
 rl:∀r,r<n→recAt r+2<l.length
 b8:8≤b
 hl:∀i,i<b→headAt i<l.length
 hash:∀r,r<n→0≤ati l (recAt r)∧ati l (recAt r)≤2147483647
 chn:∀i,i<b→CL l (headAt i) (C i)
 nd:∀i,i<b→(C i).Nodup
 mem:∀i,i<b→∀r,r∈C i↔r<n∧bkt (ati l (recAt r)).toNat b=i
 srt:∀i,i<b→(C i).Pairwise (fun r s=>ati l (recAt r)≤ati l (recAt s))
 dif:∀r,r<n→∀s,s<n→ati l (recAt r)=ati l (recAt s)→ati l (recAt r+1)=ati l (recAt s+1)→r=s
 zh:∀i,b≤i→ati l (headAt i)=0
 zr:∀r,n≤r→∀a,a<3→ati l (recAt r+a)=0
variable {l:List Int} {n b:Nat} {C:Nat→List Nat}
theorem G.lt (h:G l n b C) {i r:Nat} (hi:i<b) (hr:r∈C i):r<n:=((h.mem i hi r).1 hr).1
theorem G.only (h:G l n b C) {i j r:Nat} (hi:i<b) (hj:j<b) (h1:r∈C i) (h2:r∈C j):i=j:=by
 rw[←((h.mem i hi r).1 h1).2,((h.mem j hj r).1 h2).2]
theorem G.reclt (h:G l n b C) {r:Nat} (hr:r<n):recAt r+2<l.length:=h.rl r hr
theorem G.headlt (h:G l n b C) {i:Nat} (hi:i<b):headAt i<l.length:=h.hl i hi
theorem nodup_len:∀(n:Nat) (m:List Nat),m.Nodup→(∀r∈m,r<n)→m.length≤n
 |0,m,_,h=>by
  cases m with
  |nil=>simp
  |cons a m=>have:=h a (by simp);omega
 |n+1,m,hn,h=>by
  by_cases hm:n∈m
  ·have h1:=nodup_len n (m.erase n) (hn.erase n) (fun r hr=>by
    have h2:=(List.Nodup.mem_erase_iff hn).1 hr
    have:=h r h2.2;omega)
   rw[List.length_erase_of_mem hm]at h1;omega
  ·have:=nodup_len n m hn (fun r hr=>by have:=h r hr;have:r≠n:=fun e=>hm (e ▸ hr);omega)
   omega
theorem G.clen (h:G l n b C) {i:Nat} (hi:i<b):(C i).length≤n:=by
 exact nodup_len n _ (h.nd i hi) (fun r hr=>h.lt hi hr)
theorem wlen_mono {n m:Nat} (h:n≤m):wlen n≤wlen m:=by unfold wlen;omega
def addL (l:List Int) (n:Nat) (fr:Nat) (h x:Int):List Int:=
 ((((sizedL l (n+1)).set (recAt n) h).set (recAt n+1) x).set (recAt n+2) (ati (sizedL l (n+1)) fr)).set fr ((n:Int)+1)
theorem addL_len {fr:Nat} {h x:Int}:(addL l n fr h x).length=wlen (n+1):=by simp[addL,sizedL_len]
theorem ati_addL {fr:Nat} {h x:Int} (hfr:3≤fr) (hfl:fr<wlen (n+1)) (q:Nat) (hq:3≤q) (hl:l.length=wlen n):
  ati (addL l n fr h x) q=if q=fr then(n:Int)+1 else if q=recAt n+2 then ati l fr else if q=recAt n+1 then x else if q=recAt n then h else ati l q:=by
 have hrl:=recAt_wlen (n:=n+1) (r:=n) (by omega)
 have hw:=wlen_mono (show n≤n+1 by omega)
 have hs:∀q,3≤q→ati (sizedL l (n+1)) q=ati l q:=fun q hq=>by
  rw[ati_sizedL,if_neg (by omega),if_neg (by omega),if_neg (by omega)]
  by_cases hx:q<wlen (n+1)
  ·rw[if_pos hx]
  ·rw[if_neg hx,ati_big (by omega)]
 unfold addL
 rw[ati_set,ati_set,ati_set,ati_set,hs q hq,hs fr hfr]
 simp only[List.length_set,sizedL_len]
 by_cases e1:q=fr
 ·subst e1;simp[hfl]
 ·simp only[e1,Ne.symm e1,false_and,if_false]
  by_cases e2:q=recAt n+2
  ·subst e2;simp[hrl]
  ·by_cases e3:q=recAt n+1
   ·subst e3;simp;omega
   ·by_cases e4:q=recAt n
    ·subst e4;simp;omega
    ·simp[e2,e3,e4,Ne.symm e2,Ne.symm e3,Ne.symm e4]
theorem G_add {pre post:List Nat} {h x:Int} (g:G l n b C) (hlen:l.length=wlen n) (hn:n<100000) (h0:0≤h) (h1:h≤2147483647) (hC:C (bkt h.toNat b)=pre++post)
  (hpre:∀r∈pre,ati l (recAt r)≤h) (hpost:∀r∈post,h≤ati l (recAt r)) (hno:∀r,r<n→¬(ati l (recAt r)=h∧ati l (recAt r+1)=x)):
  G (addL l n (endp (headAt (bkt h.toNat b)) pre) h x) (n+1) b (fun k=>if k=bkt h.toNat b then pre++n::post else C k):=by
 have hb8:=g.b8
 have hi:bkt h.toNat b<b:=bkt_lt _ (by omega)
 generalize hbi:bkt h.toNat b=i at*
 have hmi:=g.mem i hi
 rw[hC]at hmi
 have hw:=wlen_mono (show n≤n+1 by omega)
 have hend:endp (headAt i) pre=headAt i∨∃r∈pre,endp (headAt i) pre=recAt r+2:=by
  rcases endp_cases (headAt i) pre with⟨_,e⟩ |e
  ·exact .inl e
  ·exact .inr e
 have hfr3:3≤endp (headAt i) pre:=by
  rcases hend with e |⟨r,_,e⟩
  ·rw[e];have:=headAt_ge i;omega
  ·rw[e];have:=recAt_ge r;omega
 have hfl0:endp (headAt i) pre<l.length:=by
  rcases hend with e |⟨r,hr,e⟩
  ·rw[e];exact g.headlt hi
  ·rw[e];exact g.reclt ((hmi r).1 (by simp[hr])).1
 have hfl:endp (headAt i) pre<wlen (n+1):=by omega
 generalize hfr:endp (headAt i) pre=fr at*
 have hA:∀q,3≤q→_:=fun q hq=>ati_addL (h:=h) (x:=x) hfr3 hfl q hq hlen
 have hfrh:∀k,k≠i→headAt k≠fr:=fun k hk e=>by
  rcases hend with e' |⟨r,_,e'⟩
  ·exact hk (headAt_inj (e.trans e'))
  ·exact head_rec (e.trans e') (by omega)
 have hfrr:∀r a,a<2→recAt r+a≠fr:=fun r a ha e=>by
  rcases hend with e' |⟨s,_,e'⟩
  ·exact head_rec (e'.symm.trans e.symm) (by omega)
  ·have:=(recAt_inj (e.trans e') (by omega) (by omega)).2;omega
 have hrec:∀r a,r<n→a<2→ati (addL l n fr h x) (recAt r+a)=ati l (recAt r+a):=fun r a hr ha=>by
  have hne:∀c,c<3→recAt r+a≠recAt n+c:=fun c hc e=>by have:=(recAt_inj e (by omega) hc).1;omega
  rw[hA _ (by have:=recAt_ge r;omega),if_neg (hfrr r a ha),if_neg (hne 2 (by omega)),if_neg (hne 1 (by omega)),if_neg (show ¬(_=recAt n)from hne 0 (by omega))]
 have hnew0:ati (addL l n fr h x) (recAt n)=h:=by
  rw[hA _ (by have:=recAt_ge n;omega),if_neg (show ¬(recAt n=fr)from hfrr n 0 (by omega)),if_neg (by omega),if_neg (by omega),if_pos rfl]
 have hnew1:ati (addL l n fr h x) (recAt n+1)=x:=by
  rw[hA _ (by have:=recAt_ge n;omega),if_neg (hfrr n 1 (by omega)),if_neg (by omega),if_pos rfl]
 have hnfr:recAt n+2≠fr:=fun e=>by
  rcases hend with e' |⟨s,hs,e'⟩
  ·exact head_rec (e'.symm.trans e.symm) (by omega)
  ·have h2:=(recAt_inj (e.trans e') (by omega) (by omega)).1
   have:=((hmi s).1 (by simp[hs])).1;omega
 have hnew2:ati (addL l n fr h x) (recAt n+2)=ati l fr:=by
  rw[hA _ (by have:=recAt_ge n;omega),if_neg hnfr,if_pos rfl]
 have hlink:∀q,(q=headAt q∨True)→True:=fun _ _=>trivial
 have hnpp:n∉pre++post:=fun hm=>by have:=((hmi n).1 hm).1;omega
 have hndp:=g.nd i hi
 rw[hC]at hndp
 have hndp':=List.nodup_append.1 hndp
 -- the words of links that stay
 have hpos:∀q,q≠fr→(∃k,q=headAt k)∨(∃r,r<n∧q=recAt r+2)→ati (addL l n fr h x) q=ati l q:=fun q hq hc=>by
  rcases hc with⟨k,rfl⟩ |⟨r,hr,rfl⟩
  ·rw[hA _ (by have:=headAt_ge k;omega),if_neg hq,if_neg (fun e=>head_rec e (by omega)),if_neg (fun e=>head_rec e (by omega)),if_neg (show ¬(_=recAt n)from fun e=>head_rec (a:=0) e (by omega))]
  ·have hne:∀c,c<3→recAt r+2≠recAt n+c:=fun c hc e=>by have:=(recAt_inj e (by omega) hc).1;omega
   rw[hA _ (by have:=recAt_ge r;omega),if_neg hq,if_neg (hne 2 (by omega)),if_neg (hne 1 (by omega)),if_neg (show ¬(_=recAt n)from hne 0 (by omega))]
 have hlt:∀q,q<l.length→q<(addL l n fr h x).length:=fun q hq=>by rw[addL_len];have:=hlen;omega
 refine⟨by omega,fun r hr=>by rw[addL_len];exact recAt_wlen hr,hb8,fun k hk=>hlt _ (g.headlt hk),?_,?_,?_,?_,?_,?_,?_,?_⟩
 ·intro r hr
  by_cases e:r=n
  ·subst e;rw[hnew0];exact⟨h0,h1⟩
  ·have:=hrec r 0 (by omega) (by omega);rw[Nat.add_zero]at this;rw[this];exact g.hash r (by omega)
 ·intro k hk
  by_cases e:k=i
  ·subst e
   have hcl:=g.chn k hk
   rw[hC]at hcl
   simp only[if_true]
   refine hcl.graft (fun q hq hne=>?_) (fun r _ e=>head_rec e (by omega)) hndp'.1 ?_
   ·rw[hfr]at hne
    rcases hq with rfl |⟨r,hr,rfl⟩
    ·exact⟨hlt _ (g.headlt hk),hpos _ hne (.inl ⟨_,rfl⟩)⟩
    ·have hr':=((hmi r).1 (by simp[hr])).1
     exact⟨hlt _ (g.reclt hr'),hpos _ hne (.inr ⟨r,hr',rfl⟩)⟩
   ·rw[hfr]
    refine⟨hlt _ hfl0,by rw[hA _ hfr3,if_pos rfl],by omega,?_⟩
    have hp:=hcl.split
    rw[hfr]at hp
    cases post with
    |nil=>exact⟨by rw[addL_len];exact recAt_wlen (by omega),by rw[hnew2];exact hp.2⟩
    |cons s rest=>
     have hs:∀r∈s::rest,r<n:=fun r hr=>((hmi r).1 (List.mem_append.2 (.inr hr))).1
     refine⟨by rw[addL_len];exact recAt_wlen (by omega),by rw[hnew2];exact hp.2.1,hp.2.2.1,hp.2.2.2.frame (fun q hq=>?_)⟩
     have hq':∃r∈s::rest,q=recAt r+2:=by
      rcases hq with rfl |⟨r,hr,rfl⟩
      ·exact⟨s,by simp,rfl⟩
      ·exact⟨r,by simp[hr],rfl⟩
     obtain⟨r,hr,rfl⟩:=hq'
     refine⟨hlt _ (g.reclt (hs r hr)),hpos _ (fun e=>?_) (.inr ⟨r,hs r hr,rfl⟩)⟩
     rcases hend with e' |⟨s',hs',e'⟩
     ·exact head_rec (e'.symm.trans e.symm) (by omega)
     ·have:=(recAt_inj (e.trans e') (by omega) (by omega)).1
      subst this
      exact hndp'.2.2 _ hs' _ hr rfl
  ·rw[if_neg e]
   refine(g.chn k hk).frame (fun q hq=>?_)
   rcases hq with rfl |⟨r,hr,rfl⟩
   ·exact⟨hlt _ (g.headlt hk),hpos _ (hfrh k e) (.inl ⟨_,rfl⟩)⟩
   ·refine⟨hlt _ (g.reclt (g.lt hk hr)),hpos _ (fun e2=>?_) (.inr ⟨r,g.lt hk hr,rfl⟩)⟩
    rcases hend with e' |⟨s',hs',e'⟩
    ·exact head_rec (e'.symm.trans e2.symm) (by omega)
    ·have:=(recAt_inj (e2.trans e') (by omega) (by omega)).1
     subst this
     exact e (g.only hk hi hr (by rw[hC];simp[hs']))
 ·intro k hk
  by_cases e:k=i
  ·subst e
   simp only[if_true]
   exact List.perm_middle.nodup_iff.2 (List.nodup_cons.2 ⟨hnpp,hndp⟩)
  ·rw[if_neg e];exact g.nd k hk
 ·intro k hk r
  by_cases er:r=n
  ·subst er
   rw[hnew0,hbi]
   by_cases e:k=i
   ·subst e;simp
   ·rw[if_neg e]
    constructor
    ·intro hm;have:=g.lt hk hm;omega
    ·rintro⟨_,h⟩;exact absurd h.symm e
  ·have hrr:r<n→ati (addL l n fr h x) (recAt r)=ati l (recAt r):=fun hr=>hrec r 0 hr (by omega)
   by_cases e:k=i
   ·subst e
    have:=hmi r
    simp only[if_true]
    simp only[List.mem_append,List.mem_cons,er,false_or]
    rw[List.mem_append]at this
    rw[this]
    constructor
    ·rintro⟨h1,h2⟩;exact⟨by omega,by rw[hrr h1];exact h2⟩
    ·rintro⟨h1,h2⟩;have h3:r<n:=Nat.lt_of_le_of_ne (Nat.le_of_lt_succ h1) er
     exact⟨h3,by rw[hrr h3]at h2;exact h2⟩
   ·rw[if_neg e,g.mem k hk r]
    constructor
    ·rintro⟨h1,h2⟩;exact⟨by omega,by rw[hrr h1];exact h2⟩
    ·rintro⟨h1,h2⟩;have h3:r<n:=Nat.lt_of_le_of_ne (Nat.le_of_lt_succ h1) er
     exact⟨h3,by rw[hrr h3]at h2;exact h2⟩
 ·intro k hk
  have hold:∀m:List Nat,(∀r∈m,r<n)→m.Pairwise (fun r s=>ati l (recAt r)≤ati l (recAt s))→m.Pairwise (fun r s=>ati (addL l n fr h x) (recAt r)≤ati (addL l n fr h x) (recAt s)):=fun m hm hp=>by
   refine hp.imp_of_mem (fun {r s} hr hs hle=>?_)
   have e1:=hrec r 0 (hm r hr) (by omega)
   have e2:=hrec s 0 (hm s hs) (by omega)
   rw[Nat.add_zero]at e1 e2
   rw[e1,e2];exact hle
  by_cases e:k=i
  ·subst e
   have hs:=g.srt k hk
   rw[hC]at hs
   have hs':=List.pairwise_append.1 hs
   have hl1:∀r∈pre,r<n:=fun r hr=>((hmi r).1 (by simp[hr])).1
   have hl2:∀r∈post,r<n:=fun r hr=>((hmi r).1 (by simp[hr])).1
   simp only[if_true]
   refine List.pairwise_append.2 ⟨hold pre hl1 hs'.1,List.pairwise_cons.2 ⟨fun s hs2=>?_,hold post hl2 hs'.2.1⟩,fun r hr s hs2=>?_⟩
   ·have e2:=hrec s 0 (hl2 s hs2) (by omega)
    rw[Nat.add_zero]at e2
    rw[hnew0,e2];exact hpost s hs2
   ·have e1:=hrec r 0 (hl1 r hr) (by omega)
    rw[Nat.add_zero]at e1
    rcases List.mem_cons.1 hs2 with rfl |hs2
    ·rw[hnew0,e1];exact hpre r hr
    ·have e2:=hrec s 0 (hl2 s hs2) (by omega)
     rw[Nat.add_zero]at e2
     rw[e1,e2];exact hs'.2.2 r hr s hs2
  ·rw[if_neg e];exact hold _ (fun r hr=>g.lt hk hr) (g.srt k hk)
 ·intro r hr s hs e1 e2
  by_cases er:r=n
  ·subst er
   by_cases es:s=r
   ·exact es.symm
   ·have f1:=hrec s 0 (by omega) (by omega)
    have f2:=hrec s 1 (by omega) (by omega)
    rw[Nat.add_zero]at f1
    rw[hnew0,f1]at e1;rw[hnew1,f2]at e2
    exact absurd ⟨e1.symm,e2.symm⟩ (hno s (by omega))
  ·have g1:=hrec r 0 (by omega) (by omega)
   have g2:=hrec r 1 (by omega) (by omega)
   rw[Nat.add_zero]at g1
   by_cases es:s=n
   ·subst es
    rw[hnew0,g1]at e1;rw[hnew1,g2]at e2
    exact absurd ⟨e1,e2⟩ (hno r (by omega))
   ·have f1:=hrec s 0 (by omega) (by omega)
    have f2:=hrec s 1 (by omega) (by omega)
    rw[Nat.add_zero]at f1
    rw[g1,f1]at e1;rw[g2,f2]at e2
    exact g.dif r (by omega) s (by omega) e1 e2
 ·intro k hk
  rw[hpos _ (hfrh k (by omega)) (.inl ⟨_,rfl⟩)]
  exact g.zh k hk
 ·intro r hr a ha
  have hne:∀c,c<3→recAt r+a≠recAt n+c:=fun c hc e=>by have:=(recAt_inj e (by omega) hc).1;omega
  rw[hA _ (by have:=recAt_ge r;omega),if_neg (fun e=>?_),if_neg (hne 2 (by omega)),if_neg (hne 1 (by omega)),if_neg (show ¬(_=recAt n)from hne 0 (by omega)),g.zr r (by omega) a ha]
  rcases hend with e' |⟨s',hs',e'⟩
  ·exact head_rec (e'.symm.trans e.symm) (by omega)
  ·have h2:=(recAt_inj (e.trans e') (by omega) (by omega)).1
   have:=((hmi s').1 (by simp[hs'])).1;omega
end Go.Proofs.Ytdcomhdadnhpnaa
end
section
namespace Go.Proofs.Ytdcomhdadnhpnaa
variable {l:List Int} {n b:Nat} {C:Nat→List Nat}
def divL (l:List Int) (b:Nat) (rs:List Nat):List Int:=linkL (linkL l (headAt (b-pow2 b)) (stayS l b rs)) (headAt b) (goneS l b rs)
theorem divL_len (l:List Int) (b:Nat) (rs:List Nat):(divL l b rs).length=l.length:=by simp[divL,linkL_len]
theorem divL_ati (l:List Int) (b:Nat) (rs:List Nat) (q:Nat) (h1:q≠headAt (b-pow2 b)) (h2:q≠headAt b) (hq:∀r∈rs,q≠recAt r+2):ati (divL l b rs) q=ati l q:=by
 unfold divL
 have m1:∀r∈goneS l b rs,q≠recAt r+2:=fun r hr=>hq r (List.mem_filter.1 hr).1
 have m2:∀r∈stayS l b rs,q≠recAt r+2:=fun r hr=>hq r (List.mem_filter.1 hr).1
 rw[linkL_ati _ _ _ _ h2 m1,linkL_ati _ _ _ _ h1 m2]
theorem G_divide (g:G l n b C) (hb:headAt b<l.length):
  G (divL l b (C (b-pow2 b))) n (b+1) (fun k=>if k=b-pow2 b then stayS l b (C (b-pow2 b))else if k=b then goneS l b (C (b-pow2 b))else C k):=by
 have hb8:=g.b8
 have hp:=pow2_pos b
 have hpl:=pow2_le (b:=b) (by omega)
 have hi:b-pow2 b<b:=by omega
 generalize hii:b-pow2 b=i at*
 have hat:∀q,q≠headAt i→q≠headAt b→(∀r∈C i,q≠recAt r+2)→ati (divL l b (C i)) q=ati l q:=fun q h1 h2 h3=>divL_ati l b (C i) q (by rw[hii];exact h1) h2 h3
 have hrec:∀r a,a<2→ati (divL l b (C i)) (recAt r+a)=ati l (recAt r+a):=fun r a ha=>
  hat _ (fun e=>head_rec e.symm (by omega)) (fun e=>head_rec e.symm (by omega)) (fun s _ e=>by have:=(recAt_inj e (by omega) (by omega)).2;omega)
 have hrec0:∀r,ati (divL l b (C i)) (recAt r)=ati l (recAt r):=fun r=>hrec r 0 (by omega)
 have hnd:=g.nd i hi
 have hnew:∀r,isNew l b r=true↔bkt (ati l (recAt r)).toNat (b+1)=b:=fun r=>by unfold isNew;simp
 have hst:∀r,r∈stayS l b (C i)↔r<n∧bkt (ati l (recAt r)).toNat (b+1)=i:=fun r=>by
  unfold stayS
  rw[List.mem_filter,g.mem i hi r]
  have h1:=hnew r
  constructor
  ·rintro⟨⟨h2,h3⟩,h4⟩
   have h5:bkt (ati l (recAt r)).toNat (b+1)≠b:=fun e=>by rw[h1.2 e]at h4;simp at h4
   exact⟨h2,by rw[bkt_old (by omega) h5];exact h3⟩
  ·rintro⟨h2,h3⟩
   have h5:bkt (ati l (recAt r)).toNat (b+1)≠b:=by omega
   refine⟨⟨h2,by rw[←bkt_old (by omega) h5];exact h3⟩,?_⟩
   cases hx:isNew l b r
   ·rfl
   ·exact absurd (h1.1 hx) h5
 have hgo:∀r,r∈goneS l b (C i)↔r<n∧bkt (ati l (recAt r)).toNat (b+1)=b:=fun r=>by
  unfold goneS
  rw[List.mem_filter,g.mem i hi r,hnew]
  constructor
  ·rintro⟨⟨h2,h3⟩,h4⟩;exact⟨h2,h4⟩
  ·rintro⟨h2,h3⟩;exact⟨⟨h2,by rw[←hii];exact bkt_new (by omega) h3⟩,h3⟩
 have hsn:(stayS l b (C i)).Nodup:=hnd.filter _
 have hgn:(goneS l b (C i)).Nodup:=hnd.filter _
 have hle:∀r∈C i,recAt r+2<l.length∧r≤100000:=fun r hr=>by have h1:=g.lt hi hr;have:=g.n1;exact⟨g.rl r h1,by omega⟩
 have hhne:headAt i≠headAt b:=fun e=>by have:=headAt_inj e;omega
 have hpw:∀m:List Nat,m.Pairwise (fun r s=>ati l (recAt r)≤ati l (recAt s))→m.Pairwise (fun r s=>ati (divL l b (C i)) (recAt r)≤ati (divL l b (C i)) (recAt s)):=fun m hm=>
  hm.imp (fun {r s} h=>by rw[hrec0,hrec0];exact h)
 have hcs:CL (divL l b (C i)) (headAt i) (stayS l b (C i)):=by
  have h1:=linkL_cl l (headAt i) (stayS l b (C i)) (g.headlt hi) (fun r hr=>hle r (List.mem_filter.1 hr).1) (fun r _ e=>head_rec e (by omega)) hsn
  refine h1.frame (fun q hq=>?_)
  unfold divL
  rw[hii]
  rcases hq with rfl |⟨r,hr,rfl⟩
  ·refine⟨by simp[linkL_len];exact g.headlt hi,linkL_ati _ _ _ _ hhne (fun r _ e=>head_rec e (by omega))⟩
  ·refine⟨by simp[linkL_len];exact(hle r (List.mem_filter.1 hr).1).1,linkL_ati _ _ _ _ (fun e=>head_rec e.symm (by omega)) (fun s hs e=>?_)⟩
   have:=(recAt_inj e (by omega) (by omega)).1
   subst this
   have h2:=((hst r).1 hr).2
   have h3:=((hgo r).1 hs).2
   omega
 have hcg:CL (divL l b (C i)) (headAt b) (goneS l b (C i)):=by
  unfold divL
  exact linkL_cl _ _ _ (by rw[linkL_len];exact hb) (fun r hr=>by rw[linkL_len];exact hle r (List.mem_filter.1 hr).1) (fun r _ e=>head_rec e (by omega)) hgn
 refine⟨g.n1,fun r hr=>by rw[divL_len];exact g.rl r hr,by omega,fun k hk=>?_,fun r hr=>by rw[hrec0];exact g.hash r hr,?_,?_,?_,?_,?_,?_,?_⟩
 ·rw[divL_len]
  by_cases e:k=b
  ·subst e;exact hb
  ·exact g.headlt (by omega)
 ·intro k hk
  by_cases e:k=i
  ·subst e;simp only[if_true];exact hcs
  ·by_cases e2:k=b
   ·subst e2;rw[if_neg e,if_pos rfl];exact hcg
   ·rw[if_neg e,if_neg e2]
    refine(g.chn k (by omega)).frame (fun q hq=>?_)
    rw[divL_len]
    rcases hq with rfl |⟨r,hr,rfl⟩
    ·exact⟨g.headlt (by omega),hat _ (fun e3=>e (headAt_inj e3)) (fun e3=>e2 (headAt_inj e3)) (fun r _ e3=>head_rec e3 (by omega))⟩
    ·refine⟨g.rl r (g.lt (by omega) hr),hat _ (fun e=>head_rec e.symm (by omega)) (fun e=>head_rec e.symm (by omega)) (fun s hs e3=>?_)⟩
     have:=(recAt_inj e3 (by omega) (by omega)).1
     subst this
     exact e (g.only (by omega) hi hr hs)
 ·intro k hk
  split
  ·exact hsn
  ·split
   ·exact hgn
   ·exact g.nd k (by omega)
 ·intro k hk r
  rw[hrec0]
  by_cases e:k=i
  ·subst e;simp only[if_true];exact hst r
  ·by_cases e2:k=b
   ·subst e2;rw[if_neg e,if_pos rfl];exact hgo r
   ·rw[if_neg e,if_neg e2,g.mem k (by omega) r]
    constructor
    ·rintro⟨h1,h2⟩
     refine⟨h1,?_⟩
     by_cases h3:bkt (ati l (recAt r)).toNat (b+1)=b
     ·have:=bkt_new (by omega) h3;omega
     ·rw[bkt_old (by omega) h3];exact h2
    ·rintro⟨h1,h2⟩
     exact⟨h1,by rw[←bkt_old (by omega) (by omega)];exact h2⟩
 ·intro k hk
  split
  ·exact hpw _ ((g.srt i hi).filter _)
  ·split
   ·exact hpw _ ((g.srt i hi).filter _)
   ·exact hpw _ (g.srt k (by omega))
 ·intro r hr s hs e1 e2
  rw[hrec0,hrec0]at e1
  rw[hrec r 1 (by omega),hrec s 1 (by omega)]at e2
  exact g.dif r hr s hs e1 e2
 ·intro k hk
  rw[hat _ (fun e=>by have:=headAt_inj e;omega) (fun e=>by have:=headAt_inj e;omega) (fun r _ e=>head_rec e (by omega))]
  exact g.zh k (by omega)
 ·intro r hr a ha
  rw[hat _ (fun e=>head_rec e.symm (by omega)) (fun e=>head_rec e.symm (by omega)) (fun s hs e=>?_)]
  ·exact g.zr r hr a ha
  ·have:=(recAt_inj e (by omega) (by omega)).1
   have:=g.lt hi hs
   omega
end Go.Proofs.Ytdcomhdadnhpnaa
end
section
namespace Go.Proofs.Ytdcomhdadnhpnaa
variable {l:List Int} {n b:Nat} {C:Nat→List Nat}
structure Chs (l:List Int) (n b:Nat) (C:Nat→List Nat):Prop where
 cl:∀k,k<b→CL l (headAt k) (C k)
 nd:∀k,k<b→(C k).Nodup
 dj:∀i j r,i<b→j<b→r∈C i→r∈C j→i=j
 lt:∀k r,k<b→r∈C k→r<n
 rl:∀r,r<n→recAt r+2<l.length∧r≤100000
 hl:∀k,k<b→headAt k<l.length
theorem G.chs (g:G l n b C):Chs l n b C:=
 ⟨g.chn,g.nd,fun _ _ _ hi hj h1 h2=>g.only hi hj h1 h2,fun _ _ hk h=>g.lt hk h,fun r h=>⟨g.rl r h,by have:=g.n1;omega⟩,g.hl⟩
theorem Chs.pos_apart (h:Chs l n b C) {i k:Nat} (hi:i<b) (hk:k<b) (hne:k≠i) {q:Nat} (hq:q=headAt k∨∃s∈C k,q=recAt s+2):¬(q=headAt i∨∃s∈C i,q=recAt s+2):=by
 rintro(e |⟨s,hs,e⟩)
 ·rcases hq with rfl |⟨t,_,rfl⟩
  ·exact hne (headAt_inj e)
  ·exact head_rec e.symm (by omega)
 ·rcases hq with rfl |⟨t,ht,rfl⟩
  ·exact head_rec e (by omega)
  ·have:=(recAt_inj e (by omega) (by omega)).1
   subst this
   exact hne (h.dj _ _ _ hk hi ht hs)
theorem endp_pos (f:Nat) (a b:List Nat):endp f a=f∨∃s∈a++b,endp f a=recAt s+2:=by
 rcases endp_cases f a with⟨_,e⟩ |⟨s,hs,e⟩
 ·exact .inl e
 ·exact .inr ⟨s,by simp[hs],e⟩
theorem Chs.relink (h:Chs l n b C) {i:Nat} (hi:i<b) {pre post post':List Nat} (hC:C i=pre++post) {l':List Int} (hlen:l'.length=l.length)
  (hsame:∀q,q≠endp (headAt i) pre→((∃ k,k<b∧q=headAt k)∨∃k s,k<b∧s∈C k∧q=recAt s+2)→ati l' q=ati l q)
  (htail:CL l' (endp (headAt i) pre) post') (hnd:(pre++post').Nodup) (hnew:∀r∈post',r<n∧∀k,k<b→k≠i→r∉C k):
  Chs l' n b (fun k=>if k=i then pre++post' else C k):=by
 have hcl:=h.cl i hi
 rw[hC]at hcl
 have hp:endp (headAt i) pre=headAt i∨∃s∈C i,endp (headAt i) pre=recAt s+2:=by rw[hC];exact endp_pos _ _ _
 refine⟨fun k hk=>?_,fun k hk=>?_,fun j k r hj hk h1 h2=>?_,fun k r hk hr=>?_,fun r hr=>by rw[hlen];exact h.rl r hr,fun k hk=>by rw[hlen];exact h.hl k hk⟩
 ·by_cases e:k=i
  ·subst e
   simp only[if_true]
   refine hcl.graft (fun q hq hne=>?_) (fun r _ e=>head_rec e (by omega)) (List.nodup_append.1 hnd).1 htail
   rw[hlen]
   rcases hq with rfl |⟨s,hs,rfl⟩
   ·exact⟨h.hl _ hk,hsame _ hne (.inl ⟨_,hk,rfl⟩)⟩
   ·have hm:s∈C k:=by rw[hC];simp[hs]
    exact⟨(h.rl s (h.lt k s hk hm)).1,hsame _ hne (.inr ⟨k,s,hk,hm,rfl⟩)⟩
  ·rw[if_neg e]
   refine(h.cl k hk).frame (fun q hq=>?_)
   have hne:q≠endp (headAt i) pre:=fun e2=>h.pos_apart hi hk e hq (by rw[e2];exact hp)
   rw[hlen]
   rcases hq with rfl |⟨s,hs,rfl⟩
   ·exact⟨h.hl _ hk,hsame _ hne (.inl ⟨_,hk,rfl⟩)⟩
   ·exact⟨(h.rl s (h.lt k s hk hs)).1,hsame _ hne (.inr ⟨k,s,hk,hs,rfl⟩)⟩
 ·by_cases e:k=i
  ·subst e;simp only[if_true];exact hnd
  ·rw[if_neg e];exact h.nd k hk
 ·have key:∀k,k<b→k≠i→r∈C k→r∉pre++post':=fun k hk e hr hm=>by
   rcases List.mem_append.1 hm with hm |hm
   ·exact e (h.dj k i r hk hi hr (by rw[hC];simp[hm]))
   ·exact(hnew r hm).2 k hk e hr
  by_cases e1:j=i
  ·by_cases e2:k=i
   ·omega
   ·rw[if_pos e1]at h1;rw[if_neg e2]at h2;exact absurd h1 (key k hk e2 h2)
  ·rw[if_neg e1]at h1
   by_cases e2:k=i
   ·rw[if_pos e2]at h2;exact absurd h2 (key j hj e1 h1)
   ·rw[if_neg e2]at h2;exact h.dj j k r hj hk h1 h2
 ·by_cases e:k=i
  ·subst e
   simp only[if_true]at hr
   rcases List.mem_append.1 hr with hr |hr
   ·exact h.lt k r hk (by rw[hC];simp[hr])
   ·exact(hnew r hr).1
  ·rw[if_neg e]at hr;exact h.lt k r hk hr
def remL (l:List Int) (fr r:Nat):List Int:=l.set fr (ati l (recAt r+2))
theorem Chs.rem (h:Chs l n b C) {i r:Nat} (hi:i<b) {pre post:List Nat} (hC:C i=pre++r::post):
  Chs (remL l (endp (headAt i) pre) r) n b (fun k=>if k=i then pre++post else C k):=by
 have hcl:=h.cl i hi
 have hnd:=h.nd i hi
 rw[hC]at hcl hnd
 have hs:=hcl.split
 have hnd2:=List.nodup_append.1 hnd
 have hne:∀s∈r::post,recAt s+2≠endp (headAt i) pre:=fun s hs e=>by
  rcases endp_cases (headAt i) pre with⟨_,e2⟩ |⟨t,ht,e2⟩
  ·exact head_rec (e2.symm.trans e.symm) (by omega)
  ·have:=(recAt_inj (e.trans e2) (by omega) (by omega)).1
   subst this
   exact hnd2.2.2 _ ht _ hs rfl
 refine h.relink hi hC (by simp[remL]) (fun q hq _=>ati_set_ne (Ne.symm hq)) ?_ (hnd.sublist (List.Sublist.append_left (List.sublist_cons_self _ _) _)) (fun s hs=>?_)
 ·have ht:=hs.2.2.2
  have hv:ati (remL l (endp (headAt i) pre) r) (endp (headAt i) pre)=ati l (recAt r+2):=ati_set_eq hs.1
  cases post with
  |nil=>exact⟨by simp[remL];exact hs.1,hv.trans ht.2⟩
  |cons s rest=>
   refine⟨by simp[remL];exact hs.1,hv.trans ht.2.1,ht.2.2.1,ht.2.2.2.frame (fun q hq=>?_)⟩
   have hq':∃t∈s::rest,q=recAt t+2:=by
    rcases hq with rfl |⟨t,ht,rfl⟩
    ·exact⟨s,by simp,rfl⟩
    ·exact⟨t,by simp[ht],rfl⟩
   obtain⟨t,ht2,rfl⟩:=hq'
   have hm:t∈C i:=by rw[hC];exact List.mem_append.2 (.inr (List.mem_cons_of_mem _ ht2))
   exact⟨by simp[remL];exact(h.rl t (h.lt i t hi hm)).1,ati_set_ne (Ne.symm (hne t (List.mem_cons_of_mem _ ht2)))⟩
 ·have hm:s∈C i:=by rw[hC];simp[hs]
  exact⟨h.lt i s hi hm,fun k hk e hk2=>e (h.dj k i s hk hi hk2 hm)⟩
def movL (l:List Int) (r m lead:Nat):List Int:=
 (((l.set (recAt r) (ati l (recAt m))).set (recAt r+1) (ati l (recAt m+1))).set (recAt r+2) (ati l (recAt m+2))).set lead ((r:Int)+1)
theorem movL_len {r m lead:Nat}:(movL l r m lead).length=l.length:=by simp[movL]
theorem ati_movL {r m lead:Nat} (hr:recAt r+2<l.length) (hl:lead<l.length) (h0:lead≠recAt r) (h1:lead≠recAt r+1) (h2:lead≠recAt r+2) (q:Nat):
  ati (movL l r m lead) q=if q=lead then(r:Int)+1 else if q=recAt r+2 then ati l (recAt m+2)else if q=recAt r+1 then ati l (recAt m+1)else if q=recAt r then ati l (recAt m)else ati l q:=by
 unfold movL
 rw[ati_set,ati_set,ati_set,ati_set]
 simp only[List.length_set]
 by_cases e1:q=lead
 ·subst e1;simp[hl]
 ·simp only[e1,Ne.symm e1,false_and,if_false]
  by_cases e2:q=recAt r+2
  ·subst e2;simp[hr]
  ·by_cases e3:q=recAt r+1
   ·subst e3;simp;omega
   ·by_cases e4:q=recAt r
    ·subst e4;simp;omega
    ·simp[e2,e3,e4,Ne.symm e2,Ne.symm e3,Ne.symm e4]
theorem Chs.mov (h:Chs l n b C) {j r m:Nat} (hj:j<b) {pre post:List Nat} (hC:C j=pre++m::post) (hr:r<n) (hout:∀k,k<b→r∉C k):
  Chs (movL l r m (endp (headAt j) pre)) n b (fun k=>if k=j then pre++r::post else C k):=by
 have hcl:=h.cl j hj
 have hnd:=h.nd j hj
 have hoj:=hout j hj
 rw[hC]at hcl hnd hoj
 have hs:=hcl.split
 have hnd2:=List.nodup_append.1 hnd
 have hrl:=h.rl r hr
 have hend:=endp_cases (headAt j) pre
 have hne:∀s∈m::post,recAt s+2≠endp (headAt j) pre:=fun s hs e=>by
  rcases hend with⟨_,e2⟩ |⟨t,ht,e2⟩
  ·exact head_rec (e2.symm.trans e.symm) (by omega)
  ·have:=(recAt_inj (e.trans e2) (by omega) (by omega)).1
   subst this
   exact hnd2.2.2 _ ht _ hs rfl
 have hlr:∀a,a<3→endp (headAt j) pre≠recAt r+a:=fun a ha e=>by
  rcases hend with⟨_,e2⟩ |⟨t,ht,e2⟩
  ·exact head_rec (e2.symm.trans e) ha
  ·have:=(recAt_inj (e2.symm.trans e) (by omega) ha).1
   subst this
   exact hoj (by simp[ht])
 have hA:=ati_movL (m:=m) hrl.1 hs.1 (hlr 0 (by omega)) (hlr 1 (by omega)) (hlr 2 (by omega))
 have hkeep:∀q,q≠endp (headAt j) pre→((∃ k,k<b∧q=headAt k)∨∃k s,k<b∧s∈C k∧q=recAt s+2)→ati (movL l r m (endp (headAt j) pre)) q=ati l q:=fun q hq hc=>by
  have h3:∀a,a<3→q≠recAt r+a:=fun a ha e=>by
   rcases hc with⟨k,_,rfl⟩ |⟨k,s,hk,hsm,rfl⟩
   ·exact head_rec e ha
   ·have:=(recAt_inj e (by omega) ha).1
    subst this
    exact hout k hk hsm
  rw[hA,if_neg hq,if_neg (h3 2 (by omega)),if_neg (h3 1 (by omega)),if_neg (show ¬q=recAt r from h3 0 (by omega))]
 refine h.relink hj hC movL_len hkeep ?_ ?_ (fun s hs2=>?_)
 ·refine⟨by rw[movL_len];exact hs.1,by rw[hA,if_pos rfl],hrl.2,?_⟩
  have ht:=hs.2.2.2
  have hv:ati (movL l r m (endp (headAt j) pre)) (recAt r+2)=ati l (recAt m+2):=by rw[hA,if_neg (Ne.symm (hlr 2 (by omega))),if_pos rfl]
  cases post with
  |nil=>exact⟨by rw[movL_len];exact hrl.1,hv.trans ht.2⟩
  |cons s rest=>
   refine⟨by rw[movL_len];exact hrl.1,hv.trans ht.2.1,ht.2.2.1,ht.2.2.2.frame (fun q hq=>?_)⟩
   have hq':∃t∈s::rest,q=recAt t+2:=by
    rcases hq with rfl |⟨t,ht,rfl⟩
    ·exact⟨s,by simp,rfl⟩
    ·exact⟨t,by simp[ht],rfl⟩
   obtain⟨t,ht2,rfl⟩:=hq'
   have hm:t∈C j:=by rw[hC];exact List.mem_append.2 (.inr (List.mem_cons_of_mem _ ht2))
   exact⟨by rw[movL_len];exact(h.rl t (h.lt j t hj hm)).1,hkeep _ (hne t (List.mem_cons_of_mem _ ht2)) (.inr ⟨j,t,hj,hm,rfl⟩)⟩
 ·have hmid:(pre++post).Nodup:=hnd.sublist (List.Sublist.append_left (List.sublist_cons_self _ _) _)
  exact List.perm_middle.nodup_iff.2 (List.nodup_cons.2 ⟨fun hm=>hoj (by rcases List.mem_append.1 hm with hm |hm<;>simp[hm]),hmid⟩)
 ·rcases List.mem_cons.1 hs2 with rfl |hs2
  ·exact⟨hr,fun k hk _=>hout k hk⟩
  ·have hm:s∈C j:=by rw[hC];simp[hs2]
   exact⟨h.lt j s hj hm,fun k hk e hk2=>e (h.dj k j s hk hj hk2 hm)⟩
def zerL (l:List Int) (m:Nat):List Int:=((l.set (recAt m) 0).set (recAt m+1) 0).set (recAt m+2) 0
theorem zerL_len {m:Nat}:(zerL l m).length=l.length:=by simp[zerL]
theorem ati_zerL {m:Nat} (hm:recAt m+2<l.length) (q:Nat):ati (zerL l m) q=if q=recAt m∨q=recAt m+1∨q=recAt m+2 then 0 else ati l q:=by
 unfold zerL
 rw[ati_set,ati_set,ati_set]
 simp only[List.length_set]
 by_cases e2:q=recAt m+2
 ·subst e2;simp[hm]
 ·by_cases e3:q=recAt m+1
  ·subst e3;simp;omega
  ·by_cases e4:q=recAt m
   ·subst e4;simp;omega
   ·simp[e2,e3,e4,Ne.symm e2,Ne.symm e3,Ne.symm e4]
theorem Chs.zer (h:Chs l n b C) {m:Nat} (hm:m<n) (hout:∀k,k<b→m∉C k):Chs (zerL l m) n b C:=by
 have hml:=(h.rl m hm).1
 refine⟨fun k hk=>(h.cl k hk).frame (fun q hq=>?_),h.nd,h.dj,h.lt,fun r hr=>by rw[zerL_len];exact h.rl r hr,fun k hk=>by rw[zerL_len];exact h.hl k hk⟩
 have hne:∀a,a<3→q≠recAt m+a:=fun a ha e=>by
  rcases hq with rfl |⟨s,hs,rfl⟩
  ·exact head_rec e ha
  ·have:=(recAt_inj e (by omega) ha).1
   subst this
   exact hout k hk hs
 rw[zerL_len,ati_zerL hml,if_neg (by rintro(e |e |e);exact hne 0 (by omega) e;exact hne 1 (by omega) e;exact hne 2 (by omega) e)]
 rcases hq with rfl |⟨s,hs,rfl⟩
 ·exact⟨h.hl k hk,rfl⟩
 ·exact⟨(h.rl s (h.lt k s hk hs)).1,rfl⟩
end Go.Proofs.Ytdcomhdadnhpnaa
end
section
namespace Go.Proofs.Ytdcomhdadnhpnaa
def elm (l:List Int) (r:Nat):Int×Int:=(ati l (recAt r),ati l (recAt r+1))
def seeL (s:List Bool) (rs:List Nat):List Bool:=rs.foldl (fun s r=>s.set r true) s
theorem seeL_len (s:List Bool) (rs:List Nat):(seeL s rs).length=s.length:=by
 induction rs generalizing s with
 |nil=>rfl
 |cons a rs ih=>exact(ih (s.set a true)).trans (by simp)
theorem seeL_get {s:List Bool} {rs:List Nat} {r:Nat}:(seeL s rs)[r]? =some false↔s[r]? =some false∧r∉rs:=by
 induction rs generalizing s with
 |nil=>simp[seeL]
 |cons a rs ih=>
  show(seeL (s.set a true) rs)[r]? =some false↔_
  rw[ih,List.getElem?_set]
  by_cases e:a=r
  ·subst e;by_cases h:a<s.length<;>simp[h]
  ·simp[e,Ne.symm e]
def ChOk (l:List Int) (bk i:Nat):List Bool→List (Int×Int)→Int→List Nat→Prop
 |_,_,_,[]=>True
 |s,had,last,r::rs=>s[r]? =some false∧last≤ati l (recAt r)∧bkt (ati l (recAt r)).toNat bk=i∧elm l r∉had∧ChOk l bk i (s.set r true) (had++[elm l r]) (ati l (recAt r)) rs
theorem chOk_iff {l:List Int} {bk i:Nat}:∀ {rs:List Nat} {s:List Bool} {had:List (Int×Int)} {last:Int},
  ChOk l bk i s had last rs↔rs.Nodup∧(∀r∈rs,s[r]? =some false∧last≤ati l (recAt r)∧bkt (ati l (recAt r)).toNat bk=i∧elm l r∉had)∧
   rs.Pairwise (fun r s=>ati l (recAt r)≤ati l (recAt s))∧rs.Pairwise (fun r s=>elm l r≠elm l s)
 | [],s,had,last=>by simp[ChOk]
 |r::rs,s,had,last=>by
  rw[ChOk,chOk_iff (rs:=rs),List.nodup_cons,List.pairwise_cons,List.pairwise_cons]
  constructor
  ·rintro⟨h1,h2,h3,h4,h5,h6,h7,h8⟩
   refine⟨⟨fun hm=>?_,h5⟩,fun q hq=>?_,⟨fun q hq=>(h6 q hq).2.1,h7⟩,fun q hq e=>(h6 q hq).2.2.2 (by rw[e];simp),h8⟩
   ·have:=(h6 r hm).1
    have hl:=(List.getElem?_eq_some_iff.1 h1).1
    rw[List.getElem?_set]at this;simp[hl]at this
   ·rcases List.mem_cons.1 hq with rfl |hq
    ·exact⟨h1,h2,h3,h4⟩
    ·have k:=h6 q hq
     refine⟨?_,Int.le_trans h2 k.2.1,k.2.2.1,fun e=>k.2.2.2 (by simp[e])⟩
     have:=k.1
     rw[List.getElem?_set]at this
     by_cases e:r=q
     ·subst e;have hl:=(List.getElem?_eq_some_iff.1 h1).1;simp[hl]at this
     ·simpa[e]using this
  ·rintro⟨⟨h1,h2⟩,h3,⟨h4,h5⟩,h6,h7⟩
   have k:=h3 r (by simp)
   refine⟨k.1,k.2.1,k.2.2.1,k.2.2.2,h2,fun q hq=>?_,h5,h7⟩
   have kq:=h3 q (by simp[hq])
   have hne:r≠q:=fun e=>h1 (e ▸ hq)
   refine⟨by rw[List.getElem?_set];simpa[hne]using kq.1,h4 q hq,kq.2.2.1,fun e=>?_⟩
   rcases List.mem_append.1 e with e |e
   ·exact kq.2.2.2 e
   ·exact h6 q hq (List.mem_singleton.1 e).symm
theorem ckC_iff {l:List Int} {bk i N:Nat} (hr:∀r,r<N→recAt r+2<l.length) (hN:N≤100000):∀(q:Nat) (s:List Bool) (had:List (Int×Int)) (last:Int) (s':List Bool),
  s.length=N→q<l.length→(ckC l bk i q s had last=some s'↔∃rs,CL l q rs∧ChOk l bk i s had last rs∧s'=seeL s rs):=by
 intro q s had last
 fun_induction ckC l bk i q s had last with
 |case1 q s had last h0=>
  intro s' hs hq
  constructor
  ·intro e;exact⟨[],⟨hq,h0⟩,trivial,(Option.some.inj e).symm⟩
  ·rintro⟨rs,h1,h2,h3⟩
   cases rs with
   |nil=>rw[h3];rfl
   |cons r rs=>exact absurd (h1.2.1.symm.trans h0) (by omega)
 |case2 q s had last h0 h1 h2 ih=>
  intro s' hs hq
  have hrr:∃r:Nat,ati l q=(r:Int)+1∧(ati l q).toNat-1=r:=⟨(ati l q).toNat-1,by omega,rfl⟩
  obtain⟨r,hr1,hr2⟩:=hrr
  rw[hr2]at ih h1 h2
  rw[hr2]
  have hrN:r<N:=by omega
  rw[ih s' (by rw[List.length_set];exact hs) (hr r hrN)]
  constructor
  ·rintro⟨rs,k1,k2,k3⟩
   exact⟨r::rs,⟨hq,hr1,by omega,k1⟩,⟨h1.2.2,h2.1,h2.2.1,h2.2.2,k2⟩,k3⟩
  ·rintro⟨rs,k1,k2,k3⟩
   cases rs with
   |nil=>exact absurd k1.2 h0
   |cons r' rs=>
    obtain rfl:r=r':=by have:=k1.2.1;omega
    exact⟨rs,k1.2.2.2,k2.2.2.2.2,k3⟩
 |case3 q s had last h0 h1 h2=>
  intro s' hs hq
  constructor
  ·intro e;cases e
  ·rintro⟨rs,k1,k2,k3⟩
   cases rs with
   |nil=>exact absurd k1.2 h0
   |cons r rs=>
    have:(ati l q).toNat-1=r:=by have:=k1.2.1;omega
    rw[this]at h2
    exact absurd ⟨k2.2.1,k2.2.2.1,k2.2.2.2.1⟩ h2
 |case4 q s had last h0 h1=>
  intro s' hs hq
  constructor
  ·intro e;cases e
  ·rintro⟨rs,k1,k2,k3⟩
   cases rs with
   |nil=>exact absurd k1.2 h0
   |cons r rs=>
    have e:=k1.2.1
    have:(ati l q).toNat-1=r:=by omega
    rw[this]at h1
    have hl:=(List.getElem?_eq_some_iff.1 k2.1).1
    exact absurd ⟨by omega,by omega,k2.1⟩ h1
def seeA (n:Nat) (C:Nat→List Nat):Nat→List Bool
 |0=>List.replicate n false
 |k+1=>seeL (seeA n C k) (C k)
theorem seeA_len (n:Nat) (C:Nat→List Nat):∀k,(seeA n C k).length=n
 |0=>by simp[seeA]
 |k+1=>(seeL_len _ _).trans (seeA_len n C k)
theorem seeA_congr {n:Nat} {C D:Nat→List Nat}:∀ {k:Nat},(∀i,i<k→C i=D i)→seeA n C k=seeA n D k
 |0,_=>rfl
 |k+1,h=>by rw[seeA,seeA,seeA_congr (k:=k) (fun i hi=>h i (by omega)),h k (by omega)]
theorem seeA_get {n:Nat} {C:Nat→List Nat} {r:Nat}:∀ {k:Nat},(seeA n C k)[r]? =some false↔r<n∧∀i,i<k→r∉C i
 |0=>by simp[seeA,List.getElem?_replicate]
 |k+1=>by
  rw[seeA,seeL_get,seeA_get (k:=k)]
  constructor
  ·rintro⟨⟨h1,h2⟩,h3⟩
   refine⟨h1,fun i hi=>?_⟩
   by_cases e:i=k
   ·rw[e];exact h3
   ·exact h2 i (by omega)
  ·rintro⟨h1,h2⟩
   exact⟨⟨h1,fun i hi=>h2 i (by omega)⟩,h2 k (by omega)⟩
theorem ckAll_iff {l:List Int} {bk N:Nat} (hr:∀r,r<N→recAt r+2<l.length) (hN:N≤100000):∀(k:Nat) (s:List Bool),(∀i,i<k→headAt i<l.length)→
  (ckAll l N bk k=some s↔∃C,(∀i,i<k→CL l (headAt i) (C i)∧ChOk l bk i (seeA N C i) [] 0 (C i))∧s=seeA N C k)
 |0,s,_=>by
  constructor
  ·intro e;exact⟨fun _=>[],fun i hi=>absurd hi (by omega),(Option.some.inj e).symm⟩
  ·rintro⟨C,_,e⟩;rw[e];rfl
 |k+1,s,hh=>by
  have ih:=ckAll_iff (bk:=bk) hr hN k
  rw[ckAll]
  constructor
  ·intro e
   cases hk:ckAll l N bk k with
   |none=>rw[hk]at e;cases e
   |some u=>
    rw[hk]at e
    obtain⟨C,hC,rfl⟩:=(ih u (fun i hi=>hh i (by omega))).1 hk
    obtain⟨rs,h1,h2,h3⟩:=(ckC_iff hr hN (headAt k) _ [] 0 s (seeA_len _ _ _) (hh k (by omega))).1 e
    have hcg:∀i,i≤k→seeA N (fun j=>if j=k then rs else C j) i=seeA N C i:=fun i hi=>seeA_congr (fun j hj=>if_neg (by omega))
    refine⟨fun j=>if j=k then rs else C j,fun i hi=>?_,?_⟩
    ·rw[hcg i (by omega)]
     by_cases e:i=k
     ·subst e;simpa using⟨h1,h2⟩
     ·simpa[e]using hC i (by omega)
    ·rw[h3,seeA,hcg k (by omega)];simp
  ·rintro⟨C,hC,e⟩
   have h1:=(ih (seeA N C k) (fun i hi=>hh i (by omega))).2 ⟨C,fun i hi=>hC i (by omega),rfl⟩
   rw[h1]
   exact(ckC_iff hr hN (headAt k) _ [] 0 s (seeA_len _ _ _) (hh k (by omega))).2 ⟨C k,(hC k (by omega)).1,(hC k (by omega)).2,e⟩
end Go.Proofs.Ytdcomhdadnhpnaa
end
section
namespace Go.Proofs.Ytdcomhdadnhpnaa
theorem CL.det {l:List Int}:∀ {f:Nat} {rs rs':List Nat},CL l f rs→CL l f rs'→rs=rs'
 |_,[],[],_,_=>rfl
 |_,[],r::_,h,h'=>absurd (h'.2.1.symm.trans h.2) (by omega)
 |_,r::_,[],h,h'=>absurd (h.2.1.symm.trans h'.2) (by omega)
 |f,r::rs,r'::rs',h,h'=>by
  obtain rfl:r=r':=by have:=h.2.1.symm.trans h'.2.1;omega
  rw[h.2.2.2.det h'.2.2.2]
theorem G.det {l:List Int} {n b n':Nat} {C C':Nat→List Nat} (g:G l n b C) (g':G l n' b C') {i:Nat} (hi:i<b):C i=C' i:=(g.chn i hi).det (g'.chn i hi)
theorem pw_ne {α:Type} {R:α→α→Prop} (hs:∀a b,R a b→R b a):∀ {rs:List α},rs.Pairwise R→∀r∈rs,∀s∈rs,r≠s→R r s
 | [],_,r,hr,_,_,_=>absurd hr (by simp)
 |a::rs,h,r,hr,s,hs2,hne=>by
  have h2:=List.pairwise_cons.1 h
  rcases List.mem_cons.1 hr with e |hr'
  ·rcases List.mem_cons.1 hs2 with e' |hs2'
   ·exact absurd (e.trans e'.symm) hne
   ·rw[e];exact h2.1 s hs2'
  ·rcases List.mem_cons.1 hs2 with e' |hs2'
   ·rw[e'];exact hs _ _ (h2.1 r hr')
   ·exact pw_ne hs h2.2 r hr' s hs2' hne
theorem pw_of {α:Type} {R:α→α→Prop}:∀ {rs:List α},rs.Nodup→(∀r∈rs,∀s∈rs,r≠s→R r s)→rs.Pairwise R
 | [],_,_=>List.Pairwise.nil
 |a::rs,h,k=>by
  have h2:=List.nodup_cons.1 h
  exact List.pairwise_cons.2 ⟨fun s hs=>k a (by simp) s (by simp[hs]) (fun e=>h2.1 (e ▸ hs)),pw_of h2.2 (fun r hr s hs=>k r (by simp[hr]) s (by simp[hs]))⟩
theorem bkts8 (n:Nat):8≤bkts n:=by unfold bkts;split<;>omega
theorem S_wlen (n:Nat):(wlen n-4)/56=max 1 ((n+15)/16):=by unfold wlen;omega
theorem headAt_in {i S:Nat} (h:headAt i<4+56*S):i<S*8:=by unfold headAt at h;omega
theorem recAt_in {r S:Nat} (h:recAt r<4+56*S):r<S*16:=by unfold recAt at h;omega
theorem validL_g {l:List Int} (h:ValidL l):∃C,G l (ati l 0).toNat (bkts (ati l 0).toNat) C:=by
 have hH:=h.head
 obtain⟨s,hs,hf⟩:=h.chains
 have hhash:=h.hash
 have hresth:=h.resth
 have hrestr:=h.restr
 generalize hn:(ati l 0).toNat=n at*
 have hr:∀r,r<n→recAt r+2<l.length:=fun r hr=>by rw[hH.len];exact recAt_wlen hr
 have hh:∀i,i<bkts n→headAt i<l.length:=fun i hi=>by rw[hH.len];exact headAt_wlen hi
 obtain⟨C,hC,rfl⟩:=(ckAll_iff hr hH.n1 (bkts n) s hh).1 hs
 have hC2:=fun i hi=>chOk_iff.1 (hC i hi).2
 have hlt:∀i,i<bkts n→∀r,r∈C i→r<n:=fun i hi r hr=>(seeA_get.1 ((hC2 i hi).2.1 r hr).1).1
 have hbk:∀i,i<bkts n→∀r,r∈C i→bkt (ati l (recAt r)).toNat (bkts n)=i:=fun i hi r hr=>((hC2 i hi).2.1 r hr).2.2.1
 have hall:∀r,r<n→∃i,i<bkts n∧r∈C i:=fun r hr=>Classical.byContradiction fun hc=>by
  have:(seeA n C (bkts n))[r]? =some false:=seeA_get.2 ⟨hr,fun i hi hm=>hc ⟨i,hi,hm⟩⟩
  exact hf (List.mem_of_getElem? this)
 have hmem:∀i,i<bkts n→∀r,r∈C i↔r<n∧bkt (ati l (recAt r)).toNat (bkts n)=i:=fun i hi r=>by
  constructor
  ·intro hm;exact⟨hlt i hi r hm,hbk i hi r hm⟩
  ·rintro⟨h1,h2⟩
   obtain⟨j,hj,hm⟩:=hall r h1
   rwa[(hbk j hj r hm).symm.trans h2]at hm
 have hS:=S_wlen n
 refine⟨C,hH.n1,hr,bkts8 n,hh,hhash,fun i hi=>(hC i hi).1,fun i hi=>(hC2 i hi).1,hmem,fun i hi=>(hC2 i hi).2.2.1,fun r hr s hs e1 e2=>?_,fun i hi=>?_,fun r hr a ha=>?_⟩
 ·refine Classical.byContradiction fun hne=>?_
  obtain⟨i,hi,hm⟩:=hall r hr
  have hm2:s∈C i:=(hmem i hi s).2 ⟨hs,by rw[←e1];exact hbk i hi r hm⟩
  exact pw_ne (fun a b h e=>h e.symm) (hC2 i hi).2.2.2 r hm s hm2 hne (by unfold elm;rw[e1,e2])
 ·by_cases hx:headAt i<l.length
  ·refine hresth i hi (headAt_in ?_)
   rw[hH.len]at hx ⊢
   rw[hS];unfold wlen at hx;omega
  ·exact ati_big (by omega)
 ·by_cases hx:recAt r+a<l.length
  ·have:=hrestr r hr (recAt_in (by
    rw[hH.len]at hx ⊢
    rw[hS];unfold wlen at hx;omega))
   unfold restR at this
   rcases(by omega:a=0∨a=1∨a=2)with rfl |rfl |rfl
   ·exact this.1
   ·exact this.2.1
   ·exact this.2.2
  ·exact ati_big (by omega)
theorem g_validL {l:List Int} {n:Nat} {C:Nat→List Nat} (hH:HeadOk l n) (g:G l n (bkts n) C):ValidL l:=by
 have hn:(ati l 0).toNat=n:=by have:=hH.n0;omega
 have h60:=wlen_ge n
 have hlen:=hH.len
 have hr:∀r,r<n→recAt r+2<l.length:=g.rl
 have hh:∀i,i<bkts n→headAt i<l.length:=g.hl
 refine⟨by omega,by have:=hH.n0;omega,by have:=hH.n0;have:=hH.n1;omega,by rw[hn];exact hlen,by rw[hn];exact hH.b1,by rw[hn];exact hH.b2,hH.b3,by rw[hn];exact g.hash,?_,?_,?_⟩
 ·rw[hn]
  refine⟨seeA n C (bkts n),(ckAll_iff hr hH.n1 (bkts n) _ hh).2 ⟨C,fun i hi=>⟨g.chn i hi,chOk_iff.2 ⟨g.nd i hi,fun r hm=>⟨seeA_get.2 ⟨g.lt hi hm,fun j hj hm2=>?_⟩,(g.hash r (g.lt hi hm)).1,((g.mem i hi r).1 hm).2,by simp⟩,g.srt i hi,?_⟩⟩,rfl⟩,fun hf=>?_⟩
  ·exact absurd (g.only hi (by omega) hm hm2) (by omega)
  ·refine pw_of (g.nd i hi) (fun r h1 s h2 hne e=>hne ?_)
   have e1:=congrArg Prod.fst e
   have e2:=congrArg Prod.snd e
   exact g.dif r (g.lt hi h1) s (g.lt hi h2) e1 e2
  ·obtain⟨r,hr2⟩:=List.mem_iff_getElem?.1 hf
   have h1:=seeA_get.1 hr2
   exact h1.2 _ (bkt_lt _ (by have:=bkts8 n;omega)) ((g.mem _ (bkt_lt _ (by have:=bkts8 n;omega)) r).2 ⟨h1.1,rfl⟩)
 ·rw[hn];exact fun i h1 _=>g.zh i h1
 ·rw[hn];exact fun r h1 _=>⟨g.zr r h1 0 (by omega),g.zr r h1 1 (by omega),g.zr r h1 2 (by omega)⟩
theorem validL_iff {l:List Int}:ValidL l↔∃C,HeadOk l (ati l 0).toNat∧G l (ati l 0).toNat (bkts (ati l 0).toNat) C:=
 ⟨fun h=>by obtain⟨C,hC⟩:=validL_g h;exact⟨C,h.head,hC⟩,fun⟨_,h1,h2⟩=>g_validL h1 h2⟩
end Go.Proofs.Ytdcomhdadnhpnaa
end
section
namespace Go.Proofs.Ytdcomhdadnhpnaa
variable {l:List Int} {n b:Nat} {C:Nat→List Nat} {S:Nat→Prop}
structure GS (l:List Int) (n:Nat) (S:Nat→Prop) (b:Nat) (C:Nat→List Nat):Prop where
 n1:n≤100000
 sn:∀r,S r→r<n
 rl:∀r,r<n→recAt r+2<l.length
 b8:8≤b
 hl:∀i,i<b→headAt i<l.length
 hash:∀r,S r→0≤ati l (recAt r)∧ati l (recAt r)≤2147483647
 chn:∀i,i<b→CL l (headAt i) (C i)
 nd:∀i,i<b→(C i).Nodup
 mem:∀i,i<b→∀r,r∈C i↔S r∧bkt (ati l (recAt r)).toNat b=i
 srt:∀i,i<b→(C i).Pairwise (fun r s=>ati l (recAt r)≤ati l (recAt s))
 dif:∀r,S r→∀s,S s→ati l (recAt r)=ati l (recAt s)→ati l (recAt r+1)=ati l (recAt s+1)→r=s
 zh:∀i,b≤i→ati l (headAt i)=0
 zr:∀r,n≤r→∀a,a<3→ati l (recAt r+a)=0
theorem G.gs (g:G l n b C):GS l n (fun r=>r<n) b C:=⟨g.n1,fun _ h=>h,g.rl,g.b8,g.hl,g.hash,g.chn,g.nd,g.mem,g.srt,g.dif,g.zh,g.zr⟩
theorem GS.g (g:GS l n (fun r=>r<n-1) b C) (hz:∀a,a<3→ati l (recAt (n-1)+a)=0):G l (n-1) b C:=
 ⟨by have:=g.n1;omega,fun r hr=>g.rl r (by omega),g.b8,g.hl,g.hash,g.chn,g.nd,g.mem,g.srt,g.dif,g.zh,fun r hr a ha=>by
  by_cases e:r=n-1
  ·rw[e];exact hz a ha
  ·exact g.zr r (by omega) a ha⟩
theorem GS.congr {S':Nat→Prop} (g:GS l n S b C) (h:∀r,S r↔S' r):GS l n S' b C:=by
 obtain rfl:S=S':=funext fun r=>propext (h r)
 exact g
theorem GS.chs (g:GS l n S b C):Chs l n b C:=
 ⟨g.chn,g.nd,fun i j r hi hj h1 h2=>by rw[←((g.mem i hi r).1 h1).2,((g.mem j hj r).1 h2).2],fun k r hk h=>g.sn r ((g.mem k hk r).1 h).1,fun r h=>⟨g.rl r h,by have:=g.n1;omega⟩,g.hl⟩
theorem GS.bpos (g:GS l n S b C):0<b:=by have:=g.b8;omega
theorem endp_no01 (i:Nat) (pre:List Nat) (s a:Nat) (ha:a<2):endp (headAt i) pre≠recAt s+a:=fun e=>by
 rcases endp_cases (headAt i) pre with⟨_,e2⟩ |⟨t,_,e2⟩
 ·exact head_rec (e2.symm.trans e) (by omega)
 ·have:=(recAt_inj (e2.symm.trans e) (by omega) (by omega)).2;omega
theorem GS.rem (g:GS l n S b C) {i r:Nat} (hi:i<b) {pre post:List Nat} (hC:C i=pre++r::post):
  GS (remL l (endp (headAt i) pre) r) n (fun s=>S s∧s≠r) b (fun k=>if k=i then pre++post else C k):=by
 have c:=g.chs.rem hi hC
 have hmi:=g.mem i hi
 have hnd:=g.nd i hi
 have hsr:=g.srt i hi
 rw[hC]at hmi hnd hsr
 have hrS:=(hmi r).1 (by simp)
 have hr2:∀s a,a<2→ati (remL l (endp (headAt i) pre) r) (recAt s+a)=ati l (recAt s+a):=fun s a ha=>ati_set_ne (endp_no01 i pre s a ha)
 have hr0:∀s,ati (remL l (endp (headAt i) pre) r) (recAt s)=ati l (recAt s):=fun s=>hr2 s 0 (by omega)
 have hmid:r∉pre++post:=(List.nodup_cons.1 (List.perm_middle.nodup_iff.1 hnd)).1
 refine⟨g.n1,fun s hs=>g.sn s hs.1,fun s hs=>(c.rl s hs).1,g.b8,c.hl,fun s hs=>by rw[hr0];exact g.hash s hs.1,c.cl,c.nd,fun k hk s=>?_,fun k hk=>?_,fun s hs t ht e1 e2=>?_,fun k hk=>?_,fun s hs a ha=>?_⟩
 ·rw[hr0]
  by_cases e:k=i
  ·subst e
   rw[if_pos rfl]
   have hs:=hmi s
   constructor
   ·intro hm
    have h1:=hs.1 (by rcases List.mem_append.1 hm with hm |hm<;>simp[hm])
    exact⟨⟨h1.1,fun e=>hmid (e ▸ hm)⟩,h1.2⟩
   ·rintro⟨⟨h1,h2⟩,h3⟩
    have h4:=hs.2 ⟨h1,h3⟩
    rcases List.mem_append.1 h4 with h4 |h4
    ·simp[h4]
    ·rcases List.mem_cons.1 h4 with h4 |h4
     ·exact absurd h4 h2
     ·simp[h4]
  ·rw[if_neg e,g.mem k hk s]
   constructor
   ·rintro⟨h1,h2⟩;exact⟨⟨h1,fun e2=>e (by rw[←h2,e2,hrS.2])⟩,h2⟩
   ·rintro⟨⟨h1,_⟩,h3⟩;exact⟨h1,h3⟩
 ·simp only[hr0]
  by_cases e:k=i
  ·rw[if_pos e];exact hsr.sublist (List.Sublist.append_left (List.sublist_cons_self _ _) _)
  ·rw[if_neg e];exact g.srt k hk
 ·rw[hr0,hr0]at e1
  rw[hr2 _ 1 (by omega),hr2 _ 1 (by omega)]at e2
  exact g.dif s hs.1 t ht.1 e1 e2
 ·have hne:endp (headAt i) pre≠headAt k:=fun e=>by
   rcases endp_cases (headAt i) pre with⟨_,e2⟩ |⟨t,_,e2⟩
   ·have:=headAt_inj (e2.symm.trans e);omega
   ·exact head_rec (e.symm.trans e2) (by omega)
  exact(ati_set_ne hne).trans (g.zh k hk)
 ·have hne:endp (headAt i) pre≠recAt s+a:=fun e=>by
   rcases endp_cases (headAt i) pre with⟨_,e2⟩ |⟨t,ht,e2⟩
   ·exact head_rec (e2.symm.trans e) ha
   ·have:=(recAt_inj (e2.symm.trans e) (by omega) ha).1
    have:=g.sn t ((hmi t).1 (by simp[ht])).1
    omega
  exact(ati_set_ne hne).trans (g.zr s hs a ha)
def mvS (r m s:Nat):Nat:=if s=m then r else s
theorem mvS_map {r m:Nat} {pre post:List Nat} (h:(pre++m::post).Nodup):(pre++m::post).map (mvS r m)=pre++r::post:=by
 have h2:=List.nodup_cons.1 (List.perm_middle.nodup_iff.1 h)
 have hk:∀s∈pre++post,mvS r m s=s:=fun s hs=>if_neg (fun(e:s=m)=>h2.1 (e ▸ hs))
 have e1:pre.map (mvS r m)=pre:=(List.map_congr_left (fun s hs=>hk s (by simp[hs]))).trans (List.map_id' _)
 have e2:post.map (mvS r m)=post:=(List.map_congr_left (fun s hs=>hk s (by simp[hs]))).trans (List.map_id' _)
 rw[List.map_append,List.map_cons,e1,e2]
 simp[mvS]
theorem mvS_id {r m:Nat} {rs:List Nat} (h:m∉rs):rs.map (mvS r m)=rs:=
 (List.map_congr_left (fun s hs=>if_neg (fun(e:s=m)=>h (e ▸ hs)))).trans (List.map_id' _)
theorem GS.mov (g:GS l n S b C) {j r m:Nat} (hj:j<b) {pre post:List Nat} (hC:C j=pre++m::post) (hr:r<n) (hrS:¬S r):
  GS (movL l r m (endp (headAt j) pre)) n (fun s=>(S s∧s≠m)∨s=r) b (fun k=>if k=j then pre++r::post else C k):=by
 have hout:∀k,k<b→r∉C k:=fun k hk hm=>hrS ((g.mem k hk r).1 hm).1
 have c:=g.chs.mov hj hC hr hout
 have hmj:=g.mem j hj
 have hnd:=g.nd j hj
 rw[hC]at hmj hnd
 have hmS:=(hmj m).1 (by simp)
 have hrl:=g.rl r hr
 have hle:endp (headAt j) pre<l.length:=by
  have:=g.chn j hj;rw[hC]at this;exact this.split.endlt
 have hl2:endp (headAt j) pre≠recAt r+2:=fun e=>by
  rcases endp_cases (headAt j) pre with⟨_,e2⟩ |⟨t,ht,e2⟩
  ·exact head_rec (e2.symm.trans e) (by omega)
  ·have:=(recAt_inj (e2.symm.trans e) (by omega) (by omega)).1
   exact hrS (this ▸ ((hmj t).1 (by simp[ht])).1)
 have hA:=ati_movL (m:=m) hrl hle (endp_no01 j pre r 0 (by omega)) (endp_no01 j pre r 1 (by omega)) hl2
 have hself:∀a,a<2→ati (movL l r m (endp (headAt j) pre)) (recAt r+a)=ati l (recAt m+a):=fun a ha=>by
  rw[hA,if_neg (Ne.symm (endp_no01 j pre r a ha))]
  rcases(by omega:a=0∨a=1)with rfl |rfl
  ·simp
  ·simp
 have hoth:∀s a,s≠r→a<3→endp (headAt j) pre≠recAt s+a→ati (movL l r m (endp (headAt j) pre)) (recAt s+a)=ati l (recAt s+a):=fun s a hs ha hq=>by
  have h3:∀c,c<3→recAt s+a≠recAt r+c:=fun c hc e=>hs (recAt_inj e ha hc).1
  rw[hA,if_neg (Ne.symm hq),if_neg (h3 2 (by omega)),if_neg (h3 1 (by omega)),if_neg (show ¬recAt s+a=recAt r from h3 0 (by omega))]
 have hmv:∀s a,S s→a<2→ati (movL l r m (endp (headAt j) pre)) (recAt (mvS r m s)+a)=ati l (recAt s+a):=fun s a hs ha=>by
  unfold mvS
  by_cases e:s=m
  ·rw[if_pos e,e];exact hself a ha
  ·rw[if_neg e];exact hoth s a (fun e=>hrS (e ▸ hs)) (by omega) (endp_no01 j pre s a ha)
 have hmv0:∀s,S s→ati (movL l r m (endp (headAt j) pre)) (recAt (mvS r m s))=ati l (recAt s):=fun s hs=>hmv s 0 hs (by omega)
 have hCk:∀k,k<b→(if k=j then pre++r::post else C k)=(C k).map (mvS r m):=fun k hk=>by
  by_cases e:k=j
  ·rw[if_pos e,e,hC,mvS_map hnd]
  ·rw[if_neg e,mvS_id]
   intro hm
   exact e (g.chs.dj k j m hk hj hm (by rw[hC];simp))
 have hS':∀s,((S s∧s≠m)∨s=r)↔∃t,S t∧mvS r m t=s:=fun s=>by
  constructor
  ·rintro(⟨h1,h2⟩ |rfl)
   ·exact⟨s,h1,if_neg h2⟩
   ·exact⟨m,hmS.1,if_pos rfl⟩
  ·rintro⟨t,h1,rfl⟩
   unfold mvS
   by_cases e:t=m
   ·rw[if_pos e];exact .inr rfl
   ·rw[if_neg e];exact .inl ⟨h1,e⟩
 refine⟨g.n1,fun s hs=>?_,fun s hs=>(c.rl s hs).1,g.b8,c.hl,fun s hs=>?_,c.cl,c.nd,fun k hk s=>?_,fun k hk=>?_,fun s hs t ht e1 e2=>?_,fun k hk=>?_,fun s hs a ha=>?_⟩
 ·rcases hs with⟨h1,_⟩ |rfl
  ·exact g.sn s h1
  ·exact hr
 ·obtain⟨t,ht,rfl⟩:=(hS' s).1 hs
  rw[hmv0 t ht];exact g.hash t ht
 ·rw[hCk k hk,List.mem_map]
  constructor
  ·rintro⟨t,ht,rfl⟩
   have h1:=(g.mem k hk t).1 ht
   exact⟨(hS' _).2 ⟨t,h1.1,rfl⟩,by rw[hmv0 t h1.1];exact h1.2⟩
  ·rintro⟨h1,h2⟩
   obtain⟨t,ht,rfl⟩:=(hS' s).1 h1
   rw[hmv0 t ht]at h2
   exact⟨t,(g.mem k hk t).2 ⟨ht,h2⟩,rfl⟩
 ·rw[hCk k hk,List.pairwise_map]
  refine(g.srt k hk).imp_of_mem (fun {x y} hx hy hxy=>?_)
  rw[hmv0 x ((g.mem k hk x).1 hx).1,hmv0 y ((g.mem k hk y).1 hy).1];exact hxy
 ·obtain⟨s',hs',rfl⟩:=(hS' s).1 hs
  obtain⟨t',ht',rfl⟩:=(hS' t).1 ht
  rw[hmv0 s' hs',hmv0 t' ht']at e1
  rw[hmv s' 1 hs' (by omega),hmv t' 1 ht' (by omega)]at e2
  rw[g.dif s' hs' t' ht' e1 e2]
 ·have hne:headAt k≠endp (headAt j) pre:=fun e=>by
   rcases endp_cases (headAt j) pre with⟨_,e2⟩ |⟨t,_,e2⟩
   ·have:=headAt_inj (e.trans e2);omega
   ·exact head_rec (e.trans e2) (by omega)
  rw[hA,if_neg hne,if_neg (fun e=>head_rec e (by omega)),if_neg (fun e=>head_rec e (by omega)),if_neg (show ¬headAt k=recAt r from fun e=>head_rec (a:=0) e (by omega))]
  exact g.zh k hk
 ·have hne:endp (headAt j) pre≠recAt s+a:=fun e=>by
   rcases endp_cases (headAt j) pre with⟨_,e2⟩ |⟨t,ht,e2⟩
   ·exact head_rec (e2.symm.trans e) ha
   ·have:=(recAt_inj (e2.symm.trans e) (by omega) ha).1
    have:=g.sn t ((hmj t).1 (by simp[ht])).1
    omega
  rw[hoth s a (by omega) ha hne];exact g.zr s hs a ha
theorem GS.zer (g:GS l n S b C) {m:Nat} (hm:m<n) (hmS:¬S m):GS (zerL l m) n S b C∧∀a,a<3→ati (zerL l m) (recAt m+a)=0:=by
 have c:=g.chs.zer hm (fun k hk h=>hmS ((g.mem k hk m).1 h).1)
 have hA:=ati_zerL (g.rl m hm)
 have hoth:∀s a,s≠m→a<3→ati (zerL l m) (recAt s+a)=ati l (recAt s+a):=fun s a hs ha=>by
  have h3:∀c,c<3→recAt s+a≠recAt m+c:=fun c hc e=>hs (recAt_inj e ha hc).1
  rw[hA,if_neg (by rintro(e |e |e);exact h3 0 (by omega) e;exact h3 1 (by omega) e;exact h3 2 (by omega) e)]
 have hS0:∀s,S s→ati (zerL l m) (recAt s)=ati l (recAt s):=fun s hs=>hoth s 0 (fun e=>hmS (e ▸ hs)) (by omega)
 refine⟨⟨g.n1,g.sn,fun s hs=>(c.rl s hs).1,g.b8,c.hl,fun s hs=>by rw[hS0 s hs];exact g.hash s hs,c.cl,c.nd,fun k hk s=>?_,fun k hk=>?_,fun s hs t ht e1 e2=>?_,fun k hk=>?_,fun s hs a ha=>?_⟩,fun a ha=>?_⟩
 ·rw[g.mem k hk s]
  constructor
  ·rintro⟨h1,h2⟩;exact⟨h1,by rw[hS0 s h1];exact h2⟩
  ·rintro⟨h1,h2⟩;rw[hS0 s h1]at h2;exact⟨h1,h2⟩
 ·refine(g.srt k hk).imp_of_mem (fun {x y} hx hy hxy=>?_)
  rw[hS0 x ((g.mem k hk x).1 hx).1,hS0 y ((g.mem k hk y).1 hy).1];exact hxy
 ·rw[hS0 s hs,hS0 t ht]at e1
  rw[hoth s 1 (fun e=>hmS (e ▸ hs)) (by omega),hoth t 1 (fun e=>hmS (e ▸ ht)) (by omega)]at e2
  exact g.dif s hs t ht e1 e2
 ·rw[hA,if_neg (by rintro(e |e |e);exact head_rec (a:=0) e (by omega);exact head_rec e (by omega);exact head_rec e (by omega))]
  exact g.zh k hk
 ·rw[hoth s a (by omega) ha];exact g.zr s hs a ha
 ·rw[hA,if_pos (by rcases(by omega:a=0∨a=1∨a=2)with rfl |rfl |rfl<;>simp)]
end Go.Proofs.Ytdcomhdadnhpnaa
end
section
namespace Go.Proofs.Ytdcomhdadnhpnaa
variable {l:List Int} {n b:Nat} {C:Nat→List Nat}
theorem mergedL_perm (l:List Int):∀(k:Nat) (xs ys:List Nat),xs.length+ys.length≤k→(mergedL l xs ys).Perm (xs++ys)
 |_,[],ys,_=>by rw[mergedL_nil (.inl rfl)]
 |_,x::xs,[],_=>by rw[mergedL_nil (.inr rfl)]
 |0,x::xs,y::ys,h=>absurd h (by simp)
 |k+1,x::xs,y::ys,h=>by
  simp only[List.length_cons]at h
  by_cases e:ati l (recAt y)<ati l (recAt x)
  ·rw[mergedL_lt e]
   exact((mergedL_perm l k (x::xs) ys (by simp only[List.length_cons];omega)).cons y).trans List.perm_middle.symm
  ·rw[mergedL_ge e]
   exact(mergedL_perm l k xs (y::ys) (by simp only[List.length_cons];omega)).cons x
theorem mergedL_mem {l:List Int} {xs ys:List Nat} {r:Nat}:r∈mergedL l xs ys↔r∈xs∨r∈ys:=by
 rw[(mergedL_perm l _ xs ys (Nat.le_refl _)).mem_iff,List.mem_append]
theorem mergedL_srt (l:List Int):∀(k:Nat) (xs ys:List Nat),xs.length+ys.length≤k→xs.Pairwise (fun r s=>ati l (recAt r)≤ati l (recAt s))→ys.Pairwise (fun r s=>ati l (recAt r)≤ati l (recAt s))→
  (mergedL l xs ys).Pairwise (fun r s=>ati l (recAt r)≤ati l (recAt s))
 |_,[],ys,_,_,h2=>by rw[mergedL_nil (.inl rfl)];exact h2
 |_,x::xs,[],_,h1,_=>by rw[mergedL_nil (.inr rfl),List.append_nil];exact h1
 |0,x::xs,y::ys,h,_,_=>absurd h (by simp)
 |k+1,x::xs,y::ys,h,h1,h2=>by
  simp only[List.length_cons]at h
  have p1:=List.pairwise_cons.1 h1
  have p2:=List.pairwise_cons.1 h2
  by_cases e:ati l (recAt y)<ati l (recAt x)
  ·rw[mergedL_lt e]
   refine List.pairwise_cons.2 ⟨fun s hs=>?_,mergedL_srt l k (x::xs) ys (by simp only[List.length_cons];omega) h1 p2.2⟩
   rcases mergedL_mem.1 hs with hs |hs
   ·rcases List.mem_cons.1 hs with rfl |hs
    ·omega
    ·have:=p1.1 s hs;omega
   ·exact p2.1 s hs
  ·rw[mergedL_ge e]
   refine List.pairwise_cons.2 ⟨fun s hs=>?_,mergedL_srt l k xs (y::ys) (by simp only[List.length_cons];omega) p1.2 h2⟩
   rcases mergedL_mem.1 hs with hs |hs
   ·exact p1.1 s hs
   ·rcases List.mem_cons.1 hs with rfl |hs
    ·omega
    ·have:=p2.1 s hs;omega
theorem mergedL_congr {l l':List Int} (h:∀r,ati l' (recAt r)=ati l (recAt r)):∀(k:Nat) (xs ys:List Nat),xs.length+ys.length≤k→mergedL l' xs ys=mergedL l xs ys
 |_,[],ys,_=>by rw[mergedL_nil (.inl rfl),mergedL_nil (.inl rfl)]
 |_,x::xs,[],_=>by rw[mergedL_nil (.inr rfl),mergedL_nil (.inr rfl)]
 |0,x::xs,y::ys,h=>absurd h (by simp)
 |k+1,x::xs,y::ys,hk=>by
  simp only[List.length_cons]at hk
  by_cases e:ati l (recAt y)<ati l (recAt x)
  ·rw[mergedL_lt e,mergedL_lt (by rw[h,h];exact e),mergedL_congr h k _ _ (by simp only[List.length_cons];omega)]
  ·rw[mergedL_ge e,mergedL_ge (by rw[h,h];exact e),mergedL_congr h k _ _ (by simp only[List.length_cons];omega)]
def joiL (l:List Int) (b:Nat) (xs ys:List Nat):List Int:=linkL (linkL l (headAt b) []) (headAt (b-pow2 b)) (mergedL l xs ys)
theorem joiL_len (l:List Int) (b:Nat) (xs ys:List Nat):(joiL l b xs ys).length=l.length:=by simp[joiL,linkL_len]
theorem joiL_ati (l:List Int) (b:Nat) (xs ys:List Nat) (q:Nat) (h1:q≠headAt (b-pow2 b)) (h2:q≠headAt b) (h3:∀r,r∈xs∨r∈ys→q≠recAt r+2):ati (joiL l b xs ys) q=ati l q:=by
 unfold joiL
 rw[linkL_ati _ _ _ _ h1 (fun r hr=>h3 r (mergedL_mem.1 hr)),linkL_ati _ _ _ _ h2 (by simp)]
theorem G_join (g:G l n (b+1) C) (hb:8≤b):
  G (joiL l b (C (b-pow2 b)) (C b)) n b (fun k=>if k=b-pow2 b then mergedL l (C (b-pow2 b)) (C b)else C k):=by
 have hp:=pow2_pos b
 have hpl:=pow2_le (b:=b) (by omega)
 have hi:b-pow2 b<b:=by omega
 have hbn:∀h,bkt h (b+1)=b→bkt h b=b-pow2 b:=fun h e=>bkt_new (by omega) e
 have hat:=joiL_ati l b (C (b-pow2 b)) (C b)
 have hlen:=joiL_len l b (C (b-pow2 b)) (C b)
 have hnd0:=g.nd (b-pow2 b) (by omega)
 have hndb:=g.nd b (by omega)
 have hM:(mergedL l (C (b-pow2 b)) (C b)).Nodup:=by
  refine(mergedL_perm l _ _ _ (Nat.le_refl _)).nodup_iff.2 (List.nodup_append.2 ⟨hnd0,hndb,fun r h1 s h2 e=>?_⟩)
  subst e
  have:=g.only (by omega) (by omega) h1 h2
  omega
 have hMn:∀r∈mergedL l (C (b-pow2 b)) (C b),r<n:=fun r hr=>by
  rcases mergedL_mem.1 hr with h |h
  ·exact g.lt (by omega) h
  ·exact g.lt (by omega) h
 have hMs:=mergedL_srt l _ _ _ (Nat.le_refl _) (g.srt (b-pow2 b) (by omega)) (g.srt b (by omega))
 have hMm:∀r,r∈mergedL l (C (b-pow2 b)) (C b)↔r∈C (b-pow2 b)∨r∈C b:=fun r=>mergedL_mem
 have hCL:CL (joiL l b (C (b-pow2 b)) (C b)) (headAt (b-pow2 b)) (mergedL l (C (b-pow2 b)) (C b)):=
  linkL_cl _ _ _ (by rw[linkL_len];exact g.hl _ (by omega)) (fun r hr=>by rw[linkL_len];exact⟨g.rl r (hMn r hr),by have:=hMn r hr;have:=g.n1;omega⟩) (fun r _ e=>head_rec e (by omega)) hM
 have hbz:ati (joiL l b (C (b-pow2 b)) (C b)) (headAt b)=0:=by
  unfold joiL
  rw[linkL_ati _ _ _ _ (fun e=>by have:=headAt_inj e;omega) (fun r _ e=>head_rec e (by omega))]
  show ati (l.set (headAt b) 0) (headAt b)=0
  exact ati_set_eq (g.hl b (by omega))
 generalize b-pow2 b=i at*
 generalize joiL l b (C i) (C b)=l' at*
 generalize mergedL l (C i) (C b)=M at*
 have hrec:∀r a,a<2→ati l' (recAt r+a)=ati l (recAt r+a):=fun r a ha=>
  hat _ (fun e=>head_rec e.symm (by omega)) (fun e=>head_rec e.symm (by omega)) (fun s _ e=>by have:=(recAt_inj e (by omega) (by omega)).2;omega)
 have hr0:∀r,ati l' (recAt r)=ati l (recAt r):=fun r=>hrec r 0 (by omega)
 refine⟨g.n1,fun r hr=>by rw[hlen];exact g.rl r hr,hb,fun k hk=>by rw[hlen];exact g.hl k (by omega),fun r hr=>by rw[hr0];exact g.hash r hr,fun k hk=>?_,fun k hk=>?_,fun k hk r=>?_,fun k hk=>?_,fun r hr s hs e1 e2=>?_,fun k hk=>?_,fun r hr a ha=>?_⟩
 ·by_cases e:k=i
  ·subst e;rw[if_pos rfl];exact hCL
  ·rw[if_neg e]
   refine(g.chn k (by omega)).frame (fun q hq=>?_)
   rw[hlen]
   rcases hq with rfl |⟨s,hs,rfl⟩
   ·exact⟨g.hl k (by omega),hat _ (fun e2=>e (headAt_inj e2)) (fun e2=>by have:=headAt_inj e2;omega) (fun r _ e2=>head_rec e2 (by omega))⟩
   ·refine⟨g.rl s (g.lt (by omega) hs),hat _ (fun e2=>head_rec e2.symm (by omega)) (fun e2=>head_rec e2.symm (by omega)) (fun r hr e2=>?_)⟩
    have:=(recAt_inj e2 (by omega) (by omega)).1
    subst this
    rcases hr with hr |hr
    ·exact e (g.only (by omega) (by omega) hs hr)
    ·have:=g.only (by omega) (by omega) hs hr;omega
 ·by_cases e:k=i
  ·rw[if_pos e];exact hM
  ·rw[if_neg e];exact g.nd k (by omega)
 ·rw[hr0]
  by_cases e:k=i
  ·subst e
   rw[if_pos rfl,hMm,g.mem k (by omega),g.mem b (by omega)]
   constructor
   ·rintro(⟨h1,h2⟩ |⟨h1,h2⟩)
    ·exact⟨h1,by rw[←bkt_old (by omega) (by omega)];exact h2⟩
    ·exact⟨h1,hbn _ h2⟩
   ·rintro⟨h1,h2⟩
    by_cases e:bkt (ati l (recAt r)).toNat (b+1)=b
    ·exact .inr ⟨h1,e⟩
    ·exact .inl ⟨h1,by rw[bkt_old (by omega) e];exact h2⟩
  ·rw[if_neg e,g.mem k (by omega)]
   constructor
   ·rintro⟨h1,h2⟩;exact⟨h1,by rw[←bkt_old (by omega) (by omega)];exact h2⟩
   ·rintro⟨h1,h2⟩
    refine⟨h1,?_⟩
    by_cases e2:bkt (ati l (recAt r)).toNat (b+1)=b
    ·exact absurd (h2.symm.trans (hbn _ e2)) e
    ·rw[bkt_old (by omega) e2];exact h2
 ·simp only[hr0]
  by_cases e:k=i
  ·rw[if_pos e];exact hMs
  ·rw[if_neg e];exact g.srt k (by omega)
 ·rw[hr0,hr0]at e1
  rw[hrec r 1 (by omega),hrec s 1 (by omega)]at e2
  exact g.dif r hr s hs e1 e2
 ·by_cases e:k=b
  ·rw[e];exact hbz
  ·rw[hat _ (fun e2=>by have:=headAt_inj e2;omega) (fun e2=>e (headAt_inj e2)) (fun r _ e2=>head_rec e2 (by omega))]
   exact g.zh k (by omega)
 ·rw[hat _ (fun e=>head_rec e.symm ha) (fun e=>head_rec e.symm ha) (fun s hs e=>?_)]
  ·exact g.zr r hr a ha
  ·have:=(recAt_inj e ha (by omega)).1
   subst this
   have:r<n:=by
    rcases hs with hs |hs
    ·exact g.lt (by omega) hs
    ·exact g.lt (by omega) hs
   omega
theorem G_sized (g:G l n b C) (hb:b=bkts n) (hl:wlen n≤l.length):G (sizedL l n) n b C∧(ati l 3=0→HeadOk (sizedL l n) n):=by
 have h60:=wlen_ge n
 have hA:∀q,3≤q→q<wlen n→ati (sizedL l n) q=ati l q:=fun q h1 h2=>by
  rw[ati_sizedL,if_neg (by omega),if_neg (by omega),if_neg (by omega),if_pos h2]
 have hz:∀q,3≤q→ati l q=0→ati (sizedL l n) q=0:=fun q h1 h2=>by
  rw[ati_sizedL,if_neg (by omega),if_neg (by omega),if_neg (by omega)]
  split<;>first |exact h2 |rfl
 have hr:∀r,r<n→∀a,a<3→ati (sizedL l n) (recAt r+a)=ati l (recAt r+a):=fun r hr a ha=>hA _ (by have:=recAt_ge r;omega) (by have:=recAt_wlen hr;omega)
 have hr0:∀r,r<n→ati (sizedL l n) (recAt r)=ati l (recAt r):=fun r h=>hr r h 0 (by omega)
 subst hb
 refine⟨⟨g.n1,fun r hr=>by rw[sizedL_len];exact recAt_wlen hr,g.b8,fun i hi=>by rw[sizedL_len];exact headAt_wlen hi,fun r h=>by rw[hr0 r h];exact g.hash r h,fun i hi=>?_,g.nd,fun i hi r=>?_,fun i hi=>?_,fun r h s hs e1 e2=>?_,fun i hi=>hz _ (by have:=headAt_ge i;omega) (g.zh i hi),fun r h a ha=>hz _ (by have:=recAt_ge r;omega) (g.zr r h a ha)⟩,fun h3=>?_⟩
 ·refine(g.chn i hi).frame (fun q hq=>?_)
  rcases hq with rfl |⟨s,hs,rfl⟩
  ·exact⟨by rw[sizedL_len];exact headAt_wlen hi,hA _ (by have:=headAt_ge i;omega) (headAt_wlen hi)⟩
  ·exact⟨by rw[sizedL_len];exact recAt_wlen (g.lt hi hs),hr s (g.lt hi hs) 2 (by omega)⟩
 ·rw[g.mem i hi r]
  constructor
  ·rintro⟨h1,h2⟩;exact⟨h1,by rw[hr0 r h1];exact h2⟩
  ·rintro⟨h1,h2⟩;rw[hr0 r h1]at h2;exact⟨h1,h2⟩
 ·refine(g.srt i hi).imp_of_mem (fun {x y} hx hy hxy=>?_)
  rw[hr0 x (g.lt hi hx),hr0 y (g.lt hi hy)];exact hxy
 ·rw[hr0 r h,hr0 s hs]at e1
  rw[hr r h 1 (by omega),hr s hs 1 (by omega)]at e2
  exact g.dif r h s hs e1 e2
 ·refine⟨by rw[ati_sizedL,if_pos rfl],g.n1,sizedL_len _ _,by rw[ati_sizedL,if_neg (by omega),if_pos rfl],by rw[ati_sizedL,if_neg (by omega),if_neg (by omega),if_pos rfl],hz 3 (by omega) h3⟩
end Go.Proofs.Ytdcomhdadnhpnaa
end
section
namespace Go.Proofs.Ytdcomhdadnhpnaa
variable {l:List Int} {n b:Nat} {C:Nat→List Nat}
def MoveS (l:List Int) (n b:Nat) (C:Nat→List Nat) (r:Nat) (k:Nat) (l':List Int) (C':Nat→List Nat):Prop:=
 (r=n-1∧k=0∧l'=l∧C'=C)∨
 (r≠n-1∧∃pre post,C (bkt (ati l (recAt (n-1))).toNat b)=pre++(n-1)::post∧k=pre.length+1∧
  l'=movL l r (n-1) (endp (headAt (bkt (ati l (recAt (n-1))).toNat b)) pre)∧C'=fun i=>if i=bkt (ati l (recAt (n-1))).toNat b then pre++r::post else C i)
def JoinS (l:List Int) (n b:Nat) (C:Nat→List Nat) (k:Nat) (l':List Int) (C':Nat→List Nat):Prop:=
 (bkts n≠b-1∧k=0∧l'=l∧C'=C)∨
 (bkts n=b-1∧k=(C (b-1-pow2 (b-1))).length+(C (b-1)).length∧l'=joiL l (b-1) (C (b-1-pow2 (b-1))) (C (b-1))∧
  C'=fun i=>if i=b-1-pow2 (b-1)then mergedL l (C (b-1-pow2 (b-1))) (C (b-1))else C i)
def DropS (l:List Int) (n:Nat) (C:Nat→List Nat) (h x:Int) (k:Nat) (l':List Int) (C':Nat→List Nat):Prop:=
 ∃pre r post k1 l1 C1 k2 l2,C (bkt h.toNat (bkts n))=pre++r::post∧hits l h x r∧(∀s∈pre,¬hits l h x s)∧
  MoveS (remL l (endp (headAt (bkt h.toNat (bkts n))) pre) r) n (bkts n) (fun i=>if i=bkt h.toNat (bkts n)then pre++post else C i) r k1 l1 C1∧
  JoinS (zerL l1 (n-1)) (n-1) (bkts n) C1 k2 l2 C'∧k=pre.length+1+k1+k2∧l'=sizedL l2 (n-1)
theorem bkts_mono {n m:Nat} (h:n≤m):bkts n≤bkts m:=by
 unfold bkts
 split<;>split<;>omega
theorem bkts_nx {n:Nat} (h:bkts n<bkts (n+1)):bkts (n+1)=bkts n+1:=by
 unfold bkts at*
 by_cases h1:n≤16
 ·by_cases h2:n+1≤16
  ·rw[if_pos h1,if_pos h2]at h;omega
  ·rw[if_pos h1,if_neg h2]at h ⊢;omega
 ·rw[if_neg h1,if_neg (by omega)]at h ⊢;omega
theorem bkts_down {n:Nat} (hn:0<n):bkts (n-1)=bkts n∨(bkts (n-1)+1=bkts n∧8<bkts n):=by
 have:=bkts_mono (show n-1≤n by omega)
 have h8:=bkts8 (n-1)
 rcases Nat.lt_or_ge (bkts (n-1)) (bkts n)with h |h
 ·have e:n-1+1=n:=by omega
  have:=bkts_nx (n:=n-1) (by rw[e];exact h)
  rw[e]at this
  exact .inr ⟨this.symm,by omega⟩
 ·exact .inl (by omega)
theorem GS.move {r:Nat} (g:GS l n (fun s=>s<n∧s≠r) b C) (hr:r<n) {k:Nat} {l':List Int} {C':Nat→List Nat} (h:MoveS l n b C r k l' C'):
  GS l' n (fun s=>s<n-1) b C'∧l'.length=l.length∧ati l' 3=ati l 3:=by
 rcases h with⟨rfl,rfl,rfl,rfl⟩ |⟨hne,pre,post,hC,rfl,rfl,rfl⟩
 ·exact⟨g.congr (fun s=>by omega),rfl,rfl⟩
 ·have hj:bkt (ati l (recAt (n-1))).toNat b<b:=bkt_lt _ g.bpos
  have g2:=g.mov hj hC hr (fun h=>h.2 rfl)
  refine⟨g2.congr (fun s=>by omega),movL_len,?_⟩
  have hle:endp (headAt (bkt (ati l (recAt (n-1))).toNat b)) pre<l.length:=by
   have:=g.chn _ hj;rw[hC]at this;exact this.split.endlt
  have h4:4≤endp (headAt (bkt (ati l (recAt (n-1))).toNat b)) pre:=by
   rcases endp_cases (headAt (bkt (ati l (recAt (n-1))).toNat b)) pre with⟨_,e⟩ |⟨t,_,e⟩
   ·rw[e];exact headAt_ge _
   ·rw[e];have:=recAt_ge t;omega
  have:=recAt_ge r
  unfold movL
  rw[ati_set_ne (by omega),ati_set_ne (by omega),ati_set_ne (by omega),ati_set_ne (by omega)]
theorem G.drop (g:G l n (bkts n) C) (hH:HeadOk l n) {h x:Int} {k:Nat} {l':List Int} {C':Nat→List Nat} (hD:DropS l n C h x k l' C'):
  0<n∧G l' (n-1) (bkts (n-1)) C'∧HeadOk l' (n-1):=by
 obtain⟨pre,r,post,k1,l1,C1,k2,l2,hC,hh,_,hM,hJ,rfl,rfl⟩:=hD
 have hi:bkt h.toNat (bkts n)<bkts n:=bkt_lt _ (by have:=g.b8;omega)
 have hrn:r<n:=g.lt hi (by rw[hC];simp)
 refine⟨by omega,?_⟩
 have g1:=g.gs.rem hi hC
 have hf4:4≤endp (headAt (bkt h.toNat (bkts n))) pre:=by
  rcases endp_cases (headAt (bkt h.toNat (bkts n))) pre with⟨_,e⟩ |⟨t,_,e⟩
  ·rw[e];exact headAt_ge _
  ·rw[e];have:=recAt_ge t;omega
 have l13:ati (remL l (endp (headAt (bkt h.toNat (bkts n))) pre) r) 3=0:=(ati_set_ne (by omega)).trans hH.b3
 obtain⟨g2,hl2,h23⟩:=g1.move hrn hM
 have hl2':l1.length=wlen n:=by rw[hl2,show(remL l (endp (headAt (bkt h.toNat (bkts n))) pre) r).length=l.length from by simp[remL],hH.len]
 obtain⟨g3,hz⟩:=g2.zer (m:=n-1) (by omega) (by omega)
 have g4:=g3.g hz
 have l43:ati (zerL l1 (n-1)) 3=0:=by
  have:=recAt_ge (n-1)
  unfold zerL
  rw[ati_set_ne (by omega),ati_set_ne (by omega),ati_set_ne (by omega),h23,l13]
 have hw:=wlen_mono (show n-1≤n by omega)
 rcases hJ with⟨hb,rfl,rfl,rfl⟩ |⟨hb,rfl,rfl,rfl⟩
 ·have e:bkts (n-1)=bkts n:=by rcases bkts_down (n:=n) (by omega)with h |h<;>omega
  rw[←e]at g4
  have:=G_sized g4 rfl (by rw[zerL_len,hl2'];exact hw)
  exact⟨this.1,this.2 l43⟩
 ·have e:bkts n=(bkts n-1)+1:=by have:=g.b8;omega
  rw[e]at g4
  have h8:=bkts8 (n-1)
  have g5:=G_join g4 (by omega)
  have:=G_sized (n:=n-1) (b:=bkts n-1) g5 hb.symm (by rw[joiL_len,zerL_len,hl2'];exact hw)
  rw[hb]
  refine⟨this.1,this.2 ?_⟩
  rw[joiL_ati _ _ _ _ _ (by have:=headAt_ge (bkts n-1-pow2 (bkts n-1));omega) (by have:=headAt_ge (bkts n-1);omega) (fun s _=>by have:=recAt_ge s;omega)]
  exact l43
end Go.Proofs.Ytdcomhdadnhpnaa
end
