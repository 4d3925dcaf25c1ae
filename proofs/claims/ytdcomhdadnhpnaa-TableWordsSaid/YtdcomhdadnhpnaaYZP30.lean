import Derived.Test.YtdcomhdadnhpnaaYZP29
import Derived.Test.YtdcomhdadnhpnaaYZP15
set_option linter.all false
namespace Go.Proofs.Ytdcomhdadnhpnaa
/-- how many of the first words differ -/
def dif (a b:List Int):Nat→Nat
 |0=>0
 |N+1=>dif a b N+if ati a N=ati b N then 0 else 1
theorem dif_eq (a b:List Int):∀N,dif a b N=((List.range N).filter (fun q=>!decide (ati a q=ati b q))).length
 |0=>rfl
 |N+1=>by
  rw[dif,dif_eq a b N,List.range_succ,List.filter_append,List.length_append]
  by_cases e:ati a N=ati b N
  ·rw[if_pos e,List.filter_cons_of_neg (by simp[e])];rfl
  ·rw[if_neg e,List.filter_cons_of_pos (by simp[e])];rfl
theorem dif_le {a b:List Int} {N:Nat} (S:List Nat) (h:∀q,q<N→q∉S→ati a q=ati b q):dif a b N≤S.length:=by
 rw[dif_eq]
 refine sub_len ((List.nodup_range).filter _) fun q hq=>?_
 obtain⟨h1,h2⟩:=List.mem_filter.1 hq
 exact Classical.byContradiction fun hno=>by
  have:=h q (List.mem_range.1 h1) hno
  simp[this]at h2
theorem ValidL.wlen {l:List Int} (h:ValidL l):l.length=wlen (tabN l):=(tab_h h).len
theorem wlen_step (n:Nat):wlen (n+1)=wlen n∨wlen (n+1)=wlen n+56:=by unfold wlen;omega
theorem sized_at {l:List Int} {n q:Nat} (h:q∉[0,1,2]) (hq:q<wlen n):ati (sizedL l n) q=ati l q:=by
 simp only[List.mem_cons,List.not_mem_nil,or_false,not_or]at h
 rw[ati_sizedL,if_neg h.1,if_neg h.2.1,if_neg h.2.2,if_pos hq]
theorem addC_len {l:List Int} {n:Nat} {C:Nat→List Nat} {h:Int} {k:Nat} (hc:(C k).length≤100000):(addC l n C h k).length≤100001:=by
 unfold addC
 split
 ·have:(preR l h (C k)).length≤(C k).length:=(List.takeWhile_sublist _).length_le
  rw[List.length_append,List.length_cons,List.length_drop]
  omega
 ·omega
theorem steps_add {l:List Int} {h x:Int} (hV:ValidL l) (h0:(addF l h x).2.2=0):
  ∃k:Nat,(addF l h x).1=(k:Int)∧((addF l h x).2.1.length=l.length∨(addF l h x).2.1.length=l.length+56)∧dif l (addF l h x).2.1 l.length≤10+k∧k≤1000000:=by
 obtain⟨hh,hx,hn,hVa,hna,_,_,_⟩:=addF_made hV h0
 obtain⟨q1,q2⟩:=addF_tab (h:=h) (x:=x) hV
 rw[h0]at q1
 have hlen:(addF l h x).2.1.length=l.length∨(addF l h x).2.1.length=l.length+56:=by
  rw[hVa.wlen,hV.wlen,hna];exact wlen_step _
 have hk:(addF l h x).1=(addR l (tabN l) (tabC l) h x).1:=by
  rw[addF_ok hV hh]
 have hw:l.length=wlen (tabN l):=hV.wlen
 have hm:=wlen_mono (show tabN l≤tabN l+1 by omega)
 rw[q2 q1.symm]at hlen ⊢
 have hhas:hasR l h x (tabC l (bkt h.toNat (bkts (tabN l))))=false:=hasR_out.2 hx
 have hcl:∀i,i<bkts (tabN l)→(tabC l i).length≤100000:=fun i hi=>by have:=(tab_g hV).clen hi;omega
 generalize tabN l=n at*
 generalize tabC l=C at*
 obtain⟨fr,hfr⟩:∃fr,endp (headAt (bkt h.toNat (bkts n))) (preR l h (C (bkt h.toNat (bkts n))))=fr:=⟨_,rfl⟩
 have hadd:∀q,q<l.length→q∉[0,1,2]→q∉[recAt n,recAt n+1,recAt n+2,fr]→ati (addL l n fr h x) q=ati l q:=fun q hq h1 h2=>by
  simp only[List.mem_cons,List.not_mem_nil,or_false,not_or]at h2
  unfold addL
  rw[ati_set_ne (Ne.symm h2.2.2.2),ati_set_ne (Ne.symm h2.2.2.1),ati_set_ne (Ne.symm h2.2.1),ati_set_ne (Ne.symm h2.1),sized_at h1 (by omega)]
 rw[hk]
 unfold addR at hlen ⊢
 rw[if_neg (by simpa using hh),if_neg (by rw[hhas];simp),if_neg (by omega),hfr]at hlen ⊢
 by_cases hb:bkts n<bkts (n+1)
 ·rw[if_pos hb]at hlen ⊢
  dsimp only at hlen ⊢
  have hb8:=bkts8 n
  have hpw:=pow2_pos (bkts n)
  have hc1:=hcl (bkt h.toNat (bkts n)) (bkt_lt _ (by omega))
  have hc2:=addC_len (l:=l) (n:=n) (h:=h) (hcl (bkts n-pow2 (bkts n)) (by omega))
  refine⟨min (C (bkt h.toNat (bkts n))).length ((preR l h (C (bkt h.toNat (bkts n)))).length+1)+(addC l n C h (bkts n-pow2 (bkts n))).length,by omega,hlen,?_⟩
  generalize addC l n C h (bkts n-pow2 (bkts n))=rs at*
  have:=dif_le (a:=l) (b:=divL (addL l n fr h x) (bkts n) rs) (N:=l.length) ([0,1,2]++([recAt n,recAt n+1,recAt n+2,fr]++([headAt (bkts n-pow2 (bkts n)),headAt (bkts n)]++rs.map fun r=>recAt r+2))) (fun q hq hno=>by
   simp only[List.mem_append,not_or]at hno
   obtain⟨n1,n2,n3,n4⟩:=hno
   simp only[List.mem_cons,List.not_mem_nil,or_false,not_or]at n3
   rw[divL_ati _ _ _ _ n3.1 n3.2 (fun r hr e=>n4 (List.mem_map.2 ⟨r,hr,e.symm⟩)),hadd q hq n1 n2])
  simp only[List.length_append,List.length_cons,List.length_nil,List.length_map]at this
  omega
 ·rw[if_neg hb]at hlen ⊢
  dsimp only at hlen ⊢
  have hc1:=hcl (bkt h.toNat (bkts n)) (bkt_lt _ (by have:=bkts8 n;omega))
  refine⟨min (C (bkt h.toNat (bkts n))).length ((preR l h (C (bkt h.toNat (bkts n)))).length+1),rfl,hlen,?_⟩
  have:=dif_le (a:=l) (b:=addL l n fr h x) (N:=l.length) ([0,1,2]++[recAt n,recAt n+1,recAt n+2,fr]) (fun q hq hno=>by
   simp only[List.mem_append,not_or]at hno
   rw[hadd q hq hno.1 hno.2])
  simp only[List.length_append,List.length_cons,List.length_nil]at this
  omega
theorem dropF_made {l:List Int} {h x:Int} (hV:ValidL l) (h0:(dropF l h x).2.2=0):okH h∧x∈wds l h:=by
 by_cases hh:okH h
 ·refine⟨hh,Classical.byContradiction fun hx=>?_⟩
  rw[dropF_none hV hh hx]at h0
  exact absurd h0 (show ¬(5:Int)=0 by decide)
 ·rw[dropF_bad hV hh]at h0
  exact absurd h0 (show ¬(1:Int)=0 by decide)
theorem steps_drop {l:List Int} {h x:Int} (hV:ValidL l) (h0:(dropF l h x).2.2=0):
  ∃k:Nat,(dropF l h x).1=(k:Int)∧1≤k∧ValidL (dropF l h x).2.1∧(l.length=(dropF l h x).2.1.length∨l.length=(dropF l h x).2.1.length+56)∧dif l (dropF l h x).2.1 (dropF l h x).2.1.length≤16+k∧k≤1000000:=by
 obtain⟨hh,hx⟩:=dropF_made hV h0
 obtain⟨d1,d2,d3,_⟩:=dropF_has hV hh hx
 obtain⟨k,l',C',hD,e⟩:=dropF_ok hV hh (hasR_wds.2 hx)
 rw[e]at d2 d3 ⊢
 dsimp only at d2 d3 ⊢
 have hw:l.length=wlen (tabN l):=hV.wlen
 have hw':l'.length=wlen (tabN l'):=d2.wlen
 rw[←d3]at hw
 have hst:=wlen_step (tabN l')
 obtain⟨pre,r,post,k1,l1,C1,k2,l2,hC,hhit,hp,hM,hJ,rfl,hl'⟩:=hD
 have hb8:=bkts8 (tabN l)
 have hcl:∀i,i<bkts (tabN l)→(tabC l i).length≤100000:=fun i hi=>by have:=(tab_g hV).clen hi;have:=(tab_g hV).n1;omega
 have hpl:pre.length+post.length+1≤100000:=by
  have:=hcl _ (bkt_lt h.toNat (b:=bkts (tabN l)) (by omega))
  rw[hC,List.length_append,List.length_cons]at this;omega
 have hcl2:∀i,i<bkts (tabN l)→(if i=bkt h.toNat (bkts (tabN l))then pre++post else tabC l i).length≤100000:=fun i hi=>by
  split
  ·rw[List.length_append];omega
  ·exact hcl i hi
 have hk1:k1≤100000∧∀i,i<bkts (tabN l)→(C1 i).length≤100000:=by
  rcases hM with⟨_,rfl,_,rfl⟩ |⟨_,pre2,post2,e1,rfl,_,rfl⟩
  ·exact⟨by omega,hcl2⟩
  ·have:=hcl2 _ (bkt_lt (ati (remL l (endp (headAt (bkt h.toNat (bkts (tabN l)))) pre) r) (recAt (tabN l-1))).toNat (b:=bkts (tabN l)) (by omega))
   dsimp only at e1
   rw[e1,List.length_append,List.length_cons]at this
   refine⟨by omega,fun i hi=>?_⟩
   dsimp only
   split
   ·rw[List.length_append,List.length_cons];omega
   ·exact hcl2 i hi
 have hk2:k2≤200000:=by
  have hpw:=pow2_pos (bkts (tabN l)-1)
  rcases hJ with⟨_,rfl,_,_⟩ |⟨_,rfl,_,_⟩
  ·omega
  ·have a1:=hk1.2 (bkts (tabN l)-1-pow2 (bkts (tabN l)-1)) (by omega)
   have a2:=hk1.2 (bkts (tabN l)-1) (by omega)
   omega
 have hk1:=hk1.1
 clear hcl hcl2 hb8
 refine⟨_,rfl,by omega,d2,by omega,?_⟩
 generalize tabN l=n at*
 generalize tabN l'=m at*
 obtain rfl:n=m+1:=d3.symm
 replace hJ:JoinS (zerL l1 m) m (bkts (m+1)) C1 k2 l2 C':=hJ
 replace hl':l'=sizedL l2 m:=hl'
 obtain⟨fr,hfr⟩:∃fr,endp (headAt (bkt h.toNat (bkts (m+1)))) pre=fr:=⟨_,rfl⟩
 rw[hfr]at hM
 -- the words that are changed up to the last record's move
 have h1:∃S:List Nat,S.length≤5∧∀q,q∉S→ati l1 q=ati l q:=by
  have hr:∀q,q≠fr→ati (remL l fr r) q=ati l q:=fun q hq=>by unfold remL;exact ati_set_ne (Ne.symm hq)
  rcases hM with⟨_,_,rfl,_⟩ |⟨_,pre2,post2,_,_,rfl,_⟩
  ·exact⟨[fr],by simp,fun q hq=>hr q (by simpa using hq)⟩
  ·generalize endp (headAt (bkt (ati (remL l fr r) (recAt (m+1-1))).toNat (bkts (m+1)))) pre2=lead at*
   refine⟨[fr,recAt r,recAt r+1,recAt r+2,lead],by simp,fun q hq=>?_⟩
   simp only[List.mem_cons,List.not_mem_nil,or_false,not_or]at hq
   unfold movL
   rw[ati_set_ne (Ne.symm hq.2.2.2.2),ati_set_ne (Ne.symm hq.2.2.2.1),ati_set_ne (Ne.symm hq.2.2.1),ati_set_ne (Ne.symm hq.2.1),hr q hq.1]
 obtain⟨S,hS,h1⟩:=h1
 have h2:∃T:List Nat,T.length≤2+k2∧∀q,q∉T→ati l2 q=ati (zerL l1 m) q:=by
  rcases hJ with⟨_,_,rfl,_⟩ |⟨_,rfl,rfl,_⟩
  ·exact⟨[],by simp,fun q _=>rfl⟩
  ·refine⟨[headAt (bkts (m+1)-1-pow2 (bkts (m+1)-1)),headAt (bkts (m+1)-1)]++((C1 (bkts (m+1)-1-pow2 (bkts (m+1)-1))).map (fun r=>recAt r+2)++(C1 (bkts (m+1)-1)).map fun r=>recAt r+2),by simp;omega,fun q hq=>?_⟩
   simp only[List.mem_append,List.mem_cons,List.not_mem_nil,or_false,not_or]at hq
   exact joiL_ati _ _ _ _ _ hq.1.1 hq.1.2 fun r hr e=>hr.elim (fun hr=>hq.2.1 (List.mem_map.2 ⟨r,hr,e.symm⟩)) (fun hr=>hq.2.2 (List.mem_map.2 ⟨r,hr,e.symm⟩))
 obtain⟨T,hT,h2⟩:=h2
 have:=dif_le (a:=l) (b:=l') (N:=l'.length) ([0,1,2]++(S++([recAt m,recAt m+1,recAt m+2]++T))) (fun q hq hno=>by
  simp only[List.mem_append,not_or]at hno
  obtain⟨n1,n2,n3,n4⟩:=hno
  simp only[List.mem_cons,List.not_mem_nil,or_false,not_or]at n3
  rw[hl',sized_at n1 (by omega),h2 q n4]
  unfold zerL
  rw[ati_set_ne (Ne.symm n3.2.2),ati_set_ne (Ne.symm n3.2.1),ati_set_ne (Ne.symm n3.1),h1 q n2])
 simp only[List.length_append,List.length_cons,List.length_nil]at this
 push_cast
 omega
theorem steps_put {l:List Int} {h x v:Int} (hV:ValidL l) (h0:(putF l h x v).2=0):ValidL (putF l h x v).1∧(putF l h x v).1.length=l.length∧dif l (putF l h x v).1 l.length≤1:=by
 by_cases hh:okH h
 rotate_left
 ·rw[putF_bad hV hh]at h0;exact absurd h0 (show ¬(1:Int)=0 by decide)
 by_cases hx:x∈wds l h
 rotate_left
 ·rw[putF_none hV hh hx]at h0;exact absurd h0 (show ¬(5:Int)=0 by decide)
 by_cases hv:v=x∨v∉wds l h
 rotate_left
 ·rw[putF_twice hV hh hx (fun e=>hv (.inl e)) (Classical.byContradiction fun k=>hv (.inr k))]at h0;exact absurd h0 (show ¬(6:Int)=0 by decide)
 obtain⟨_,p2,_,_⟩:=putF_ok (v:=v) hV hh hx hv
 have hhas:hasR l h x (tabC l (bkt h.toNat (bkts (tabN l))))=true:=hasR_wds.2 hx
 obtain⟨r,hr,hit⟩:=List.any_eq_true.1 hhas
 have hit:=of_decide_eq_true hit
 have e:putF l h x v=(l.set (recAt r+1) v,0):=putF_eq (.inr (.inr ⟨hV,hh,tabN l,tabC l,tab_h hV,tab_g hV,.inr (.inr ⟨hv.imp id (fun h=>hasR_out.2 h),rfl,r,hr,hit,rfl⟩)⟩))
 rw[e]at p2 ⊢
 refine⟨p2,List.length_set,?_⟩
 exact dif_le [recAt r+1] fun q _ hq=>(ati_set_ne (by simp at hq;omega)).symm
end Go.Proofs.Ytdcomhdadnhpnaa
