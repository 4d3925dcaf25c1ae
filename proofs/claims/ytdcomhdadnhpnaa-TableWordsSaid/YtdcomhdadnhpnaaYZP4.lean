import Derived.Test.YtdcomhdadnhpnaaYZT1
import Derived.Test.YtdcomhdadnhpnaaYZB13
set_option linter.all false
section
namespace Go.Proofs.Ytdcomhdadnhpnaa
variable {l:List Int} {n b:Nat} {C:Nat→List Nat}
theorem ati_headL (n q:Nat):ati (headL n) q=if q=0 then(n:Int)else if q=1 then(bkts n:Int)else if q=2 then(pow2 (bkts n):Nat)else 0:=by
 have h60:=wlen_ge n
 have hz:∀q,ati (List.replicate (wlen n) (0:Int)) q=0:=fun q=>by unfold ati;rw[List.getD_eq_getElem?_getD,List.getElem?_replicate];split<;>rfl
 unfold headL
 rw[ati_set,ati_set,ati_set,hz]
 simp only[List.length_set,List.length_replicate]
 by_cases e2:q=2
 ·subst e2;simp;omega
 ·by_cases e1:q=1
  ·subst e1;simp;omega
  ·by_cases e0:q=0
   ·subst e0;simp;omega
   ·simp[e0,e1,e2,Ne.symm e0,Ne.symm e1,Ne.symm e2]
theorem ati_wR_ne {recs:List (Int×Int)} {q:Nat}:∀ {k:Nat} {l:List Int},(∀r,r<k→q≠recAt r∧q≠recAt r+1)→ati (wR recs k l) q=ati l q
 |0,l,_=>rfl
 |k+1,l,h=>by
  rw[wR,ati_set_ne (Ne.symm (h k (by omega)).2),ati_set_ne (Ne.symm (h k (by omega)).1)]
  exact ati_wR_ne (fun r hr=>h r (by omega))
theorem ati_wR {recs:List (Int×Int)}:∀ {k:Nat} {l:List Int},(∀r,r<k→recAt r+1<l.length)→∀r,r<k→ati (wR recs k l) (recAt r)=(recs.getD r (0,0)).1∧ati (wR recs k l) (recAt r+1)=(recs.getD r (0,0)).2
 |0,l,_,r,hr=>absurd hr (by omega)
 |k+1,l,h,r,hr=>by
  have hk:=h k (by omega)
  by_cases e:r=k
  ·subst e
   rw[wR]
   refine⟨?_,?_⟩
   ·rw[ati_set_ne (by omega),ati_set_eq (by rw[wR_len];omega)]
   ·rw[ati_set_eq (by rw[List.length_set,wR_len];omega)]
  ·have ih:=ati_wR (recs:=recs) (k:=k) (l:=l) (fun r hr=>h r (by omega)) r (by omega)
   have hne:∀a c,a<3→c<3→recAt k+c≠recAt r+a:=fun a c ha hc e2=>e (recAt_inj e2 hc ha).1.symm
   rw[wR]
   refine⟨?_,?_⟩
   ·have h1:recAt k+1≠recAt r:=hne 0 1 (by omega) (by omega)
    have h2:recAt k≠recAt r:=hne 0 0 (by omega) (by omega)
    rw[ati_set_ne h1,ati_set_ne h2];exact ih.1
   ·have h1:recAt k+1≠recAt r+1:=hne 1 1 (by omega) (by omega)
    have h2:recAt k≠recAt r+1:=hne 1 0 (by omega) (by omega)
    rw[ati_set_ne h1,ati_set_ne h2];exact ih.2
theorem lnk_ati:∀ {c:List Nat} {f:Nat} {l:List Int} {q:Nat},q≠f→(∀r∈c,q≠recAt r+2)→ati (lnk f c l) q=ati l q
 | [],f,l,q,_,_=>rfl
 |r::rs,f,l,q,h,hq=>by
  rw[lnk,lnk_ati (hq r (by simp)) (fun s hs=>hq s (by simp[hs])),ati_set_ne (Ne.symm h)]
theorem lnk_cl:∀ {c:List Nat} {f:Nat} {l:List Int},f<l.length→ati l f=0→(∀r∈c,recAt r+2<l.length∧r≤100000∧ati l (recAt r+2)=0∧f≠recAt r+2)→c.Nodup→CL (lnk f c l) f c
 | [],f,l,hf,h0,_,_=>⟨hf,h0⟩
 |r::rs,f,l,hf,h0,hr,hn=>by
  have hn2:=List.nodup_cons.1 hn
  obtain⟨h1,h2,h3,h4⟩:=hr r (by simp)
  have hne:∀s∈rs,recAt r+2≠recAt s+2:=fun s hs e=>hn2.1 (by rw[(recAt_inj e (by omega) (by omega)).1];exact hs)
  have ih:=lnk_cl (c:=rs) (f:=recAt r+2) (l:=l.set f ((r:Int)+1)) (by rw[List.length_set];exact h1) (by rw[ati_set_ne h4];exact h3)
   (fun s hs=>by
    obtain⟨g1,g2,g3,g4⟩:=hr s (by simp[hs])
    exact⟨by rw[List.length_set];exact g1,g2,by rw[ati_set_ne g4];exact g3,hne s hs⟩) hn2.2
  refine⟨by rw[lnk,lnk_len,List.length_set];exact hf,?_,h2,ih⟩
  rw[lnk,lnk_ati h4 (fun s hs=>(hr s (by simp[hs])).2.2.2),ati_set_eq hf]
theorem wC_ati {chs:List (List Nat)} {q:Nat}:∀ {k:Nat} {l:List Int},(∀j,j<k→q≠headAt j∧∀r∈chs.getD j [],q≠recAt r+2)→ati (wC chs k l) q=ati l q
 |0,_,_=>rfl
 |k+1,l,h=>by
  rw[wC,lnk_ati (h k (by omega)).1 (h k (by omega)).2]
  exact wC_ati (fun j hj=>h j (by omega))
theorem wC_cl {chs:List (List Nat)} {l:List Int} {b:Nat} (hl:∀i,i<b→headAt i<l.length∧ati l (headAt i)=0) (hr:∀i,i<b→∀r∈chs.getD i [],recAt r+2<l.length∧r≤100000∧ati l (recAt r+2)=0)
  (hn:∀i,i<b→(chs.getD i []).Nodup) (hd:∀i,i<b→∀j,j<b→i≠j→∀r∈chs.getD i [],r∉chs.getD j []):∀ {k:Nat},k≤b→∀i,i<k→CL (wC chs k l) (headAt i) (chs.getD i [])
 |0,_,i,hi=>absurd hi (by omega)
 |k+1,hk,i,hi=>by
  by_cases e:i=k
  ·subst e
   rw[wC]
   have hz:∀q,(∀j,j<i→q≠headAt j∧∀r∈chs.getD j [],q≠recAt r+2)→ati (wC chs i l) q=ati l q:=fun q h=>wC_ati h
   refine lnk_cl (by rw[wC_len];exact(hl i (by omega)).1) ?_ (fun r hrm=>?_) (hn i (by omega))
   ·rw[hz _ (fun j hj=>⟨fun e=>by have:=headAt_inj e;omega,fun r _ e=>head_rec e (by omega)⟩)]
    exact(hl i (by omega)).2
   ·obtain⟨h1,h2,h3⟩:=hr i (by omega) r hrm
    refine⟨by rw[wC_len];exact h1,h2,?_,fun e=>head_rec e (by omega)⟩
    rw[hz _ (fun j hj=>⟨fun e=>head_rec e.symm (by omega),fun s hs e=>?_⟩)]
    ·exact h3
    ·have:=(recAt_inj e (by omega) (by omega)).1
     subst this
     exact hd i (by omega) j (by omega) (by omega) r hrm hs
  ·have ih:=wC_cl hl hr hn hd (k:=k) (by omega) i (by omega)
   rw[wC]
   refine ih.frame (fun q hq=>⟨?_,?_⟩)
   ·rw[lnk_len,wC_len]
    rcases hq with rfl |⟨r,hr',rfl⟩
    ·exact(hl i (by omega)).1
    ·exact(hr i (by omega) r hr').1
   ·refine lnk_ati ?_ (fun s hs=>?_)
    ·rcases hq with rfl |⟨r,hr',rfl⟩
     ·exact fun e=>by have:=headAt_inj e;omega
     ·exact fun e=>head_rec e.symm (by omega)
    ·rcases hq with rfl |⟨r,hr',rfl⟩
     ·exact fun e=>head_rec e (by omega)
     ·intro e2
      have:=(recAt_inj e2 (by omega) (by omega)).1
      subst this
      exact hd i (by omega) k (by omega) (by omega) r hr' hs
theorem wordsF_eq (hH:HeadOk l n) (g:G l n (bkts n) C) {recs:List (Int×Int)} (hrl:recs.length=n) (hrec:∀r,r<n→recs.getD r (0,0)=elm l r):wordsF recs ((List.range (bkts n)).map C)=l:=by
 have h60:=wlen_ge n
 have hcl:((List.range (bkts n)).map C).length=bkts n:=by simp
 have hcg:∀i,i<bkts n→((List.range (bkts n)).map C).getD i []=C i:=fun i hi=>by simp[hi]
 have hb0:(headL n).length=wlen n:=headL_len n
 have hrn:∀r,r<n→recAt r+2<wlen n:=fun r hr=>recAt_wlen hr
 have hbase:∀q,4≤q→(∀r,r<n→q≠recAt r∧q≠recAt r+1)→ati (wR recs n (headL n)) q=0:=fun q hq h=>by
  rw[ati_wR_ne h,ati_headL,if_neg (by omega),if_neg (by omega),if_neg (by omega)]
 have hhead:∀i,ati (wR recs n (headL n)) (headAt i)=0:=fun i=>hbase _ (headAt_ge i) (fun r _=>⟨fun e=>head_rec (a:=0) e (by omega),fun e=>head_rec e (by omega)⟩)
 have hlink:∀r,ati (wR recs n (headL n)) (recAt r+2)=0:=fun r=>hbase _ (by have:=recAt_ge r;omega) (fun s _=>⟨fun e=>by have:=(recAt_inj (b:=0) e (by omega) (by omega)).2;omega,fun e=>by have:=(recAt_inj e (by omega) (by omega)).2;omega⟩)
 have hcls:=wC_cl (chs:=(List.range (bkts n)).map C) (l:=wR recs n (headL n)) (b:=bkts n) (fun i hi=>⟨by rw[wR_len,hb0];exact headAt_wlen hi,hhead i⟩)
  (fun i hi r hr=>by rw[hcg i hi]at hr;have:=g.lt hi hr;exact⟨by rw[wR_len,hb0];exact hrn r this,by have:=g.n1;omega,hlink r⟩)
  (fun i hi=>by rw[hcg i hi];exact g.nd i hi)
  (fun i hi j hj hne r hr hs=>by rw[hcg i hi]at hr;rw[hcg j hj]at hs;exact hne (g.only hi hj hr hs)) (k:=bkts n) (Nat.le_refl _)
 have hWlen:(wordsF recs ((List.range (bkts n)).map C)).length=wlen n:=by unfold wordsF;rw[wC_len,wR_len,headL_len,hrl]
 have hW:wordsF recs ((List.range (bkts n)).map C)=wC ((List.range (bkts n)).map C) (bkts n) (wR recs n (headL n)):=by unfold wordsF;rw[hcl,hrl]
 refine ext_ati (hWlen.trans hH.len.symm) (fun q _=>?_)
 rw[hW]
 by_cases h4:q<4
 ·rw[wC_ati (fun j _=>⟨by have:=headAt_ge j;omega,fun r _=>by have:=recAt_ge r;omega⟩),ati_wR_ne (fun r _=>by have:=recAt_ge r;omega),ati_headL]
  rcases(by omega:q=0∨q=1∨q=2∨q=3)with rfl |rfl |rfl |rfl
  ·rw[if_pos rfl,hH.n0]
  ·rw[if_neg (by omega),if_pos rfl,hH.b1]
  ·rw[if_neg (by omega),if_neg (by omega),if_pos rfl,hH.b2]
  ·rw[if_neg (by omega),if_neg (by omega),if_neg (by omega),hH.b3]
 ·rcases pos_cases (q:=q) (by omega)with⟨i,rfl⟩ |⟨r,a,ha,rfl⟩
  ·by_cases hi:i<bkts n
   ·have h1:=hcls i hi
    rw[hcg i hi]at h1
    exact(h1.same (g.chn i hi)).1
   ·rw[wC_ati (fun j hj=>⟨fun e=>by have:=headAt_inj e;omega,fun r _ e=>head_rec e (by omega)⟩),hhead,g.zh i (by omega)]
  ·by_cases hr:r<n
   ·by_cases ha2:a=2
    ·subst ha2
     have hi:=bkt_lt (ati l (recAt r)).toNat (b:=bkts n) (by have:=bkts8 n;omega)
     have h1:=hcls _ hi
     rw[hcg _ hi]at h1
     exact(h1.same (g.chn _ hi)).2 r ((g.mem _ hi r).2 ⟨hr,rfl⟩)
    ·rw[wC_ati (fun j hj=>⟨fun e=>head_rec e.symm (by omega),fun s _ e=>by have:=(recAt_inj e (by omega) (by omega)).2;omega⟩)]
     have h2:=ati_wR (recs:=recs) (k:=n) (l:=headL n) (fun r hr=>by rw[hb0];have:=hrn r hr;omega) r hr
     rw[hrec r hr]at h2
     rcases(by omega:a=0∨a=1)with rfl |rfl
     ·exact h2.1
     ·exact h2.2
   ·rw[g.zr r (by omega) a ha]
    rw[wC_ati (fun j hj=>⟨fun e=>head_rec e.symm (by omega),fun s hs e=>?_⟩)]
    ·refine hbase _ (by have:=recAt_ge r;omega) (fun s hs=>⟨fun e=>?_,fun e=>?_⟩)
     ·have:=(recAt_inj (b:=0) e ha (by omega)).1;omega
     ·have:=(recAt_inj e ha (by omega)).1;omega
    ·have:=(recAt_inj e ha (by omega)).1
     subst this
     rw[hcg j hj]at hs
     exact hr (g.lt hj hs)
end Go.Proofs.Ytdcomhdadnhpnaa
end
section
namespace Go.Proofs.Ytdcomhdadnhpnaa
variable {l:List Int} {n b:Nat} {C:Nat→List Nat}
theorem chF_of:∀ {k f:Nat} {c:List Nat},CL l f c→c.length≤k→(∀r∈c,r<n)→chF l n k f=some c
 |0,f,c,h,hk,_=>by
  obtain rfl:c=[]:=List.length_eq_zero_iff.1 (by omega)
  unfold chF;rw[if_pos h.2]
 |k+1,f,[],h,_,_=>by unfold chF;rw[if_pos h.2]
 |k+1,f,r::rs,h,hk,hr=>by
  obtain⟨h1,h2,h3,h4⟩:=h
  have hrn:=hr r (by simp)
  have ih:=chF_of (k:=k) h4 (by simp at hk;omega) (fun s hs=>hr s (by simp[hs]))
  have e:(ati l f-1).toNat=r:=by omega
  unfold chF
  rw[if_neg (by omega),if_pos (by omega),e,ih]
  rfl
theorem chF_cl (hn:n≤100000) (hr:∀r,r<n→recAt r+2<l.length):∀ {k f:Nat} {c:List Nat},f<l.length→chF l n k f=some c→CL l f c
 |0,f,c,hf,h=>by
  unfold chF at h
  split at h
  ·rename_i h0;cases h;exact⟨hf,h0⟩
  ·cases h
 |k+1,f,c,hf,h=>by
  unfold chF at h
  split at h
  ·rename_i h0;cases h;exact⟨hf,h0⟩
  ·split at h
   ·rename_i h1
    cases hc:chF l n k (recAt (ati l f-1).toNat+2)with
    |none=>rw[hc]at h;cases h
    |some d=>
     rw[hc]at h
     cases h
     have hlt:(ati l f-1).toNat<n:=by omega
     exact⟨hf,by omega,by omega,chF_cl hn hr (hr _ hlt) hc⟩
   ·cases h
theorem recsL_flat (C:Nat→List Nat):∀k,((List.range k).map C).flatten=recsL C k
 |0=>rfl
 |k+1=>by rw[List.range_succ,List.map_append,List.flatten_append,recsL_flat C k];simp[recsL]
theorem chsF_of (g:G l n b C):∀k,k≤b→chsF l n k=some ((List.range k).map C)
 |0,_=>rfl
 |k+1,hk=>by
  have hc:=chF_of (n:=n) (k:=n) (g.chn k (by omega)) (g.clen (by omega)) (fun r hr=>g.lt (by omega) hr)
  rw[chsF,chsF_of g k (by omega)]
  simp only[hc]
  rw[if_pos,List.range_succ,List.map_append]
  ·rfl
  ·rw[recsL_flat]
   exact(g.recs (k+1) hk).1
theorem srtF_of {i b:Nat}:∀ {E:List (Int×Int)} {p:Option Int} {seen:List Int},(∀e∈E,(0≤e.1∧e.1≤2147483647)∧bkt e.1.toNat b=i)→E.Pairwise (fun x y=>x.1≤y.1)→E.Nodup→
  (∀h,p=some h→∀e∈E,h≤e.1∧(e.1=h→e.2∉seen))→srtF i b p seen E=true
 | [],p,seen,_,_,_,_=>by cases p<;>rfl
 |e::E,p,seen,hE,hs,hn,hp=>by
  have hs2:=List.pairwise_cons.1 hs
  have hn2:=List.nodup_cons.1 hn
  have he:=hE e (by simp)
  have hc:¬(¬(0≤e.1∧e.1≤2147483647)∨bkt e.1.toNat b≠i):=fun h=>h.elim (fun h=>h he.1) (fun h=>h he.2)
  have nxt:∀seen',(∀x∈seen',x∈seen∧p=some e.1∨x=e.2)→srtF i b (some e.1) seen' E=true:=fun seen' hse=>
   srtF_of (fun d hd=>hE d (by simp[hd])) hs2.2 hn2.2 (fun h hh d hd=>by
    cases hh
    refine⟨hs2.1 d hd,fun e1 hm=>?_⟩
    rcases hse _ hm with⟨h1,h2⟩ |h1
    ·exact(hp _ h2 d (by simp[hd])).2 e1 h1
    ·exact hn2.1 ((Prod.ext e1.symm h1.symm:e=d) ▸ hd))
  cases p with
  |none=>rw[srtF,if_neg hc];exact nxt _ (fun x hx=>.inr (by simpa using hx))
  |some h=>
   obtain⟨h1,h2⟩:=hp h rfl e (by simp)
   rw[srtF,if_neg hc]
   try simp only
   rw[if_neg (by omega)]
   by_cases e1:h=e.1
   ·rw[if_pos e1,if_neg (h2 e1.symm)]
    exact nxt _ (fun x hx=>by
     rcases List.mem_append.1 hx with hx |hx
     ·exact .inl ⟨hx,by rw[e1]⟩
     ·exact .inr (by simpa using hx))
   ·rw[if_neg e1];exact nxt _ (fun x hx=>.inr (by simpa using hx))
theorem srtF_to {i b:Nat}:∀ {E:List (Int×Int)} {p:Option Int} {seen:List Int},srtF i b p seen E=true→
  (∀e∈E,(0≤e.1∧e.1≤2147483647)∧bkt e.1.toNat b=i)∧E.Pairwise (fun x y=>x.1≤y.1∧x≠y)∧(∀h,p=some h→∀e∈E,h≤e.1∧(e.1=h→e.2∉seen))
 | [],p,seen,_=>⟨by simp,List.Pairwise.nil,by simp⟩
 |e::E,p,seen,h=>by
  have hc:¬(¬(0≤e.1∧e.1≤2147483647)∨bkt e.1.toNat b≠i):=fun hb=>by rw[srtF_bad hb]at h;cases h
  have he:(0≤e.1∧e.1≤2147483647)∧bkt e.1.toNat b=i:=by
   by_cases h1:0≤e.1∧e.1≤2147483647
   ·by_cases h2:bkt e.1.toNat b=i
    ·exact⟨h1,h2⟩
    ·exact absurd (.inr h2) hc
   ·exact absurd (.inl h1) hc
  have fin:∀seen',srtF i b (some e.1) seen' E=true→e.2∈seen'→(∀d∈e::E,(0≤d.1∧d.1≤2147483647)∧bkt d.1.toNat b=i)∧(e::E).Pairwise (fun x y=>x.1≤y.1∧x≠y)∧∀d∈E,e.1≤d.1∧(d.1=e.1→d.2∉seen'):=fun seen' h1 h2=>by
   obtain⟨a1,a2,a3⟩:=srtF_to h1
   refine⟨fun d hd=>?_,List.pairwise_cons.2 ⟨fun d hd=>?_,a2⟩,a3 _ rfl⟩
   ·rcases List.mem_cons.1 hd with rfl |hd
    ·exact he
    ·exact a1 d hd
   ·obtain⟨b1,b2⟩:=a3 _ rfl d hd
    exact⟨b1,fun e1=>by subst e1;exact b2 rfl h2⟩
  cases p with
  |none=>
   rw[srtF,if_neg hc]at h
   obtain⟨a1,a2,_⟩:=fin _ h (by simp)
   exact⟨a1,a2,by simp⟩
  |some hp=>
   rw[srtF,if_neg hc]at h
   try simp only at h
   by_cases h1:e.1<hp
   ·rw[if_pos h1]at h;cases h
   rw[if_neg h1]at h
   by_cases h2:hp=e.1
   ·rw[if_pos h2]at h
    by_cases h3:e.2∈seen
    ·rw[if_pos h3]at h;cases h
    rw[if_neg h3]at h
    obtain⟨a1,a2,a3⟩:=fin _ h (by simp)
    refine⟨a1,a2,fun q hq d hd=>?_⟩
    cases hq
    rcases List.mem_cons.1 hd with rfl |hd
    ·exact⟨by omega,fun _=>h3⟩
    ·obtain⟨b1,b2⟩:=a3 d hd
     exact⟨by omega,fun e1 hm=>b2 (e1.trans h2) (by simp[hm])⟩
   ·rw[if_neg h2]at h
    obtain⟨a1,a2,a3⟩:=fin _ h (by simp)
    refine⟨a1,a2,fun q hq d hd=>?_⟩
    cases hq
    rcases List.mem_cons.1 hd with rfl |hd
    ·exact⟨by omega,fun e1=>absurd e1.symm h2⟩
    ·obtain⟨b1,b2⟩:=a3 d hd
     exact⟨by omega,fun e1=>by omega⟩
theorem recsF_get (l:List Int) {n r:Nat} (h:r<n):(recsF l n).getD r (0,0)=elm l r:=by simp[recsF,h,elm]
theorem elsOfC_elm {n:Nat} {c:List Nat} (h:∀r∈c,r<n):elsOfC (recsF l n) c=c.map (elm l):=by
 unfold elsOfC
 exact List.map_congr_left (fun r hr=>recsF_get l (h r hr))
noncomputable def chsT (l:List Int):List (List Nat):=(List.range (bkts (tabN l))).map (tabC l)
theorem readF_valid (hV:ValidL l):readF l=some (recsF l (tabN l),chsT l):=by
 have g:=tab_g hV
 have hH:=tab_h hV
 have hn:(ati l 0).toNat=tabN l:=rfl
 have h60:=hV.len60
 have hlen:(chsT l).length=bkts (tabN l):=by simp[chsT]
 have hcg:∀i,i<bkts (tabN l)→(chsT l).getD i []=tabC l i:=fun i hi=>by simp[chsT,hi]
 unfold readF
 rw[if_pos ⟨hV.l4,hV.n0,hV.n1,hV.len⟩,hn,chsF_of g _ (Nat.le_refl _)]
 simp only
 rw[if_pos]
 ·rfl
 refine⟨?_,fun i hi=>?_,wordsF_eq hH g (recsF_len l _) (fun r hr=>recsF_get l hr)⟩
 ·rw[recsL_flat]
  have:=ordF_len hV
  unfold ordF at this
  rwa[List.length_map]at this
 ·change i<(chsT l).length at hi
  rw[hlen]at hi
  show srtF i (chsT l).length none [] (elsOfC _ ((chsT l).getD i []))=true
  rw[hcg i hi,hlen,elsOfC_elm (fun r hr=>g.lt hi hr)]
  refine srtF_of (fun e he=>?_) (List.pairwise_map.2 (g.srt i hi)) ?_ (by simp)
  ·obtain⟨r,hr,rfl⟩:=List.mem_map.1 he
   exact⟨g.hash r (g.lt hi hr),((g.mem i hi r).1 hr).2⟩
  ·refine List.pairwise_map.2 ((g.nd i hi).imp_of_mem (fun {r s} hr hs hne e=>?_))
   simp only[elm,Prod.mk.injEq]at e
   exact hne (g.dif r (g.lt hi hr) s (g.lt hi hs) e.1 e.2)
theorem mem_of_full {n:Nat} {m:List Nat} (hn:m.Nodup) (hl:m.length=n) (hr:∀r∈m,r<n) {r:Nat} (h:r<n):r∈m:=by
 refine Classical.byContradiction fun hno=>?_
 have:=nodup_len n (r::m) (List.nodup_cons.2 ⟨hno,hn⟩) (fun s hs=>by
  rcases List.mem_cons.1 hs with rfl |hs
  ·exact h
  ·exact hr s hs)
 simp at this
 omega
theorem pw_or {α:Type} {R:α→α→Prop}:∀ {m:List α} {a b:α},m.Pairwise R→a∈m→b∈m→a≠b→R a b∨R b a
 | [],a,b,_,ha,_,_=>by simp at ha
 |x::m,a,b,h,ha,hb,hne=>by
  have h2:=List.pairwise_cons.1 h
  rcases List.mem_cons.1 ha with ea |ha2
  ·rcases List.mem_cons.1 hb with eb |hb2
   ·exact absurd (ea.trans eb.symm) hne
   ·rw[ea];exact .inl (h2.1 b hb2)
  ·rcases List.mem_cons.1 hb with eb |hb2
   ·rw[eb];exact .inr (h2.1 a ha2)
   ·exact pw_or h2.2 ha2 hb2 hne
theorem readF_some {x:List (Int×Int)×List (List Nat)} (h:readF l=some x):ValidL l:=by
 unfold readF at h
 split at h
 ·rename_i hh
  obtain⟨h4,h0,h1,hlen⟩:=hh
  generalize hn:(ati l 0).toNat=n at*
  have hn1:n≤100000:=by omega
  cases hcs:chsF l n (bkts n)with
  |none=>rw[hcs]at h;cases h
  |some cs=>
   rw[hcs]at h
   simp only at h
   split at h
   ·rename_i hc
    obtain⟨hfl,hsr,hw⟩:=hc
    obtain⟨c1,c2,c3⟩:=chsF_ok hcs
    have h60:=wlen_ge n
    have h8:=bkts8 n
    have hrl:∀r,r<n→recAt r+2<l.length:=fun r hr=>by rw[hlen];exact recAt_wlen hr
    have hgi:∀i (hi:i<bkts n),cs.getD i []=cs[i]'(by omega):=fun i hi=>by simp[c1,hi]
    have hmem:∀i,i<bkts n→cs.getD i []∈cs:=fun i hi=>by rw[hgi i hi];exact List.getElem_mem _
    have hlt:∀i,i<bkts n→∀r∈cs.getD i [],r<n:=fun i hi r hr=>(c3 _ (hmem i hi)).1 r hr
    have hall:∀r,r<n→∃i,i<bkts n∧r∈cs.getD i []:=fun r hr=>by
     have:=mem_of_full c2 hfl (fun s hs=>by obtain⟨d,hd,hs'⟩:=List.mem_flatten.1 hs;exact(c3 d hd).1 s hs') hr
     obtain⟨d,hd,hrd⟩:=List.mem_flatten.1 this
     obtain⟨i,hi,rfl⟩:=List.mem_iff_getElem.1 hd
     exact⟨i,by omega,by rw[hgi i (by omega)];exact hrd⟩
    have hS:∀i,i<bkts n→_:=fun i hi=>srtF_to (hsr i (by omega))
    have helm:∀i,i<bkts n→elsOfC (recsF l n) (cs.getD i [])=(cs.getD i []).map (elm l):=fun i hi=>elsOfC_elm (hlt i hi)
    have hbk:∀i,i<bkts n→∀r∈cs.getD i [],(0≤ati l (recAt r)∧ati l (recAt r)≤2147483647)∧bkt (ati l (recAt r)).toNat (bkts n)=i:=fun i hi r hr=>by
     have:=(hS i hi).1 (elm l r) (by rw[helm i hi];exact List.mem_map_of_mem hr)
     rwa[c1]at this
    have hW:∀q,ati l q=ati (wC cs (bkts n) (wR (recsF l n) n (headL n))) q:=fun q=>by
     conv=>lhs;rw[←hw]
     unfold wordsF
     rw[c1,recsF_len]
    have hnd:∀i,i<bkts n→(cs.getD i []).Nodup:=fun i hi=>by
     rw[hgi i hi]
     exact(List.pairwise_flatten.1 c2).1 _ (List.getElem_mem _)
    have hposh:∀i,bkts n≤i→ati l (headAt i)=0:=fun i hi=>by
     rw[hW,wC_ati (fun j hj=>⟨fun e=>by have:=headAt_inj e;omega,fun r _ e=>head_rec e (by omega)⟩),ati_wR_ne (fun r _=>⟨fun e=>head_rec (a:=0) e (by omega),fun e=>head_rec e (by omega)⟩),ati_headL]
     have:=headAt_ge i
     rw[if_neg (by omega),if_neg (by omega),if_neg (by omega)]
    have hposr:∀r,n≤r→∀a,a<3→ati l (recAt r+a)=0:=fun r hr a ha=>by
     rw[hW,wC_ati (fun j hj=>⟨fun e=>head_rec e.symm ha,fun s hs e=>by have:=(recAt_inj e ha (by omega)).1;have:=hlt j hj s hs;omega⟩),
      ati_wR_ne (fun s hs=>⟨fun e=>by have:=(recAt_inj (b:=0) e ha (by omega)).1;omega,fun e=>by have:=(recAt_inj e ha (by omega)).1;omega⟩),ati_headL]
     have:=recAt_ge r
     rw[if_neg (by omega),if_neg (by omega),if_neg (by omega)]
    have hhd:∀q,q<4→ati l q=if q=0 then(n:Int)else if q=1 then(bkts n:Int)else if q=2 then(pow2 (bkts n):Nat)else 0:=fun q hq=>by
     rw[hW,wC_ati (fun j _=>⟨by have:=headAt_ge j;omega,fun r _=>by have:=recAt_ge r;omega⟩),ati_wR_ne (fun r _=>by have:=recAt_ge r;omega),ati_headL]
    have hchn:∀i,i<bkts n→CL l (headAt i) (cs.getD i []):=by
     have key:∀k,k≤bkts n→∀ds,chsF l n k=some ds→∀i,i<k→CL l (headAt i) (ds.getD i []):=by
      intro k
      induction k with
      |zero=>intro _ ds _ i hi;omega
      |succ k ih=>
       intro hk ds hds i hi
       rw[chsF]at hds
       cases e1:chsF l n k with
       |none=>rw[e1]at hds;cases hds
       |some es=>
        rw[e1]at hds
        simp only at hds
        cases e2:chF l n n (headAt k)with
        |none=>rw[e2]at hds;cases hds
        |some c=>
         rw[e2]at hds
         simp only at hds
         split at hds
         ·cases hds
          have hel:=(chsF_ok e1).1
          by_cases e:i=k
          ·subst e
           have:(es++[c]).getD i []=c:=by simp[←hel]
           rw[this]
           exact chF_cl hn1 hrl (by rw[hlen];exact headAt_wlen (by omega)) e2
          ·have:(es++[c]).getD i []=es.getD i []:=by
            rw[List.getD_eq_getElem?_getD,List.getD_eq_getElem?_getD,List.getElem?_append_left (by omega)]
           rw[this]
           exact ih (by omega) es e1 i (by omega)
         ·cases hds
     exact key _ (Nat.le_refl _) cs hcs
    refine g_validL (n:=n) (C:=fun i=>cs.getD i []) ⟨by have:=hhd 0 (by omega);rwa[if_pos rfl]at this,hn1,hlen,by have:=hhd 1 (by omega);rwa[if_neg (by omega),if_pos rfl]at this,by have:=hhd 2 (by omega);rwa[if_neg (by omega),if_neg (by omega),if_pos rfl]at this,by have:=hhd 3 (by omega);rwa[if_neg (by omega),if_neg (by omega),if_neg (by omega)]at this⟩
     ⟨hn1,hrl,h8,fun i hi=>by rw[hlen];exact headAt_wlen hi,fun r hr=>?_,hchn,hnd,fun i hi r=>⟨fun hr=>⟨hlt i hi r hr,(hbk i hi r hr).2⟩,fun hr=>?_⟩,fun i hi=>?_,fun r hr s hs e1 e2=>?_,hposh,hposr⟩
    ·obtain⟨i,hi,hm⟩:=hall r hr;exact(hbk i hi r hm).1
    ·obtain⟨j,hj,hm⟩:=hall r hr.1
     have:=(hbk j hj r hm).2
     rw[hr.2]at this
     subst this
     exact hm
    ·have:=(hS i hi).2.1
     rw[helm i hi]at this
     exact(List.pairwise_map.1 this).imp (fun h=>h.1)
    ·obtain⟨i,hi,hm⟩:=hall r hr
     obtain⟨j,hj,hm2⟩:=hall s hs
     have h1:=(hbk i hi r hm).2
     have h2:=(hbk j hj s hm2).2
     rw[e1,h2]at h1
     subst h1
     refine Classical.byContradiction fun hne=>?_
     have hp:=(hS j hj).2.1
     rw[helm j hj]at hp
     have hp2:=(List.pairwise_map.1 hp)
     have hel:elm l r=elm l s:=by simp[elm,e1,e2]
     rcases pw_or hp2 hm hm2 hne with h |h
     ·exact h.2 hel
     ·exact h.2 hel.symm
   ·cases h
 ·cases h
end Go.Proofs.Ytdcomhdadnhpnaa
end
