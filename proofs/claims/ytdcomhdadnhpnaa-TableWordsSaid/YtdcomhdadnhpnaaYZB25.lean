import Derived.Test.YtdcomhdadnhpnaaYZA26
set_option linter.all false
namespace Go.Proofs.Ytdcomhdadnhpnaa
open Go Go.Am Go.RowKit
attribute [local irreducible] wA opsQ opsLQ thenA blockA EndA
def TellN (H:AHp) (a:AV) (c:List Nat):Prop:=a= .dsl c.length (natsA c)∨∃g,a= .sl g 0 0 c.length∧H g=some (.row 0 1 (natsA c))
theorem TellN.rdK {H:AHp} {a:AV} {c:List Nat} (h:TellN H a c):(∀(k:List Int→AP AV) s,(rdK a k).run H s=(k (c.map fun r:Nat=>(r:Int))).run H s)∧∃l,∀(k:List Int→AP AV) s,(rdK a k).runL H s=addRd l ((k (c.map fun r:Nat=>(r:Int))).runL H s):=by
 have e:(c.map fun r:Nat=>(r:Int)).length=c.length:=by simp
 rcases h with rfl |⟨g,rfl,hH⟩
 ·refine⟨fun k s=>by rw[←e,rdK_dsl],[],fun k s=>?_⟩
  rw[←e,rdK_dsl,addRd_nil]
 ·have e2:(natsA c).take c.length=natsA c:=natsA_take _
  refine⟨fun k s=>?_,[g],fun k s=>?_⟩
  ·simp only[Go.Proofs.Ytdcomhdadnhpnaa.rdK,AP.run,hH,List.drop_zero,e2,intsOf_ints,e,true_and,and_self,if_true]
  ·unfold Go.Proofs.Ytdcomhdadnhpnaa.rdK
   rw[runL_get hH]
   simp only[List.drop_zero,e2,intsOf_ints,e,true_and,and_self,if_true]
inductive Tells (H:AHp):List AV→List (List Nat)→Prop
 |nil:Tells H [] []
 |cons {a:AV} {c:List Nat} {av:List AV} {cs:List (List Nat)} (h:TellN H a c) (t:Tells H av cs):Tells H (a::av) (c::cs)
theorem Tells.len {H:AHp} {av:List AV} {cs:List (List Nat)} (h:Tells H av cs):av.length=cs.length:=by
 induction h with
 |nil=>rfl
 |cons _ _ ih=>simp[ih]
theorem Tells.rows {H:AHp} {av:List AV} {cs:List (List Nat)} (h:Tells H av cs):∀(k:List (List Nat)→AP AV),(∀s,(rdRows av k).run H s=(k cs).run H s):=by
 induction h with
 |nil=>exact fun k s=>rfl
 |cons h t ih=>
  intro k s
  simp only[rdRows]
  rw[h.rdK.1,toN_cast]
  exact ih _ s
theorem Tells.rowsL {H:AHp} {av:List AV} {cs:List (List Nat)} (h:Tells H av cs):∃l,∀(k:List (List Nat)→AP AV) s,(rdRows av k).runL H s=addRd l ((k cs).runL H s):=by
 induction h with
 |nil=>exact⟨[],fun k s=>(addRd_nil _).symm⟩
 |cons h t ih=>
  obtain⟨l1,h1⟩:=h.rdK.2
  obtain⟨l2,h2⟩:=ih
  refine⟨l1++l2,fun k s=>?_⟩
  simp only[rdRows]
  rw[h1,toN_cast]
  simp only
  rw[h2,addRd_app]
theorem Tells.rowsN (H:AHp):∀cs:List (List Nat),Tells H (rowsN cs) cs
 | []=>.nil
 |c::cs=>.cons (.inl rfl) (Tells.rowsN H cs)
theorem Tells.set {H:AHp} {av:List AV} {cs:List (List Nat)} (h:Tells H av cs):∀ {k:Nat} {a:AV} {c:List Nat},cs[k]? =some c→TellN H a c→Tells H (av.set k a) cs:=by
 induction h with
 |nil=>intro k a c hk;simp at hk
 |cons h t ih=>
  intro k a c hk ha
  cases k with
  |zero=>simp at hk;subst hk;exact .cons ha t
  |succ k=>exact .cons h (ih (by simpa using hk) ha)
theorem Tells.rdC {H:AHp} {nm ver:Nat} {av:List AV} {cs:List (List Nat)} (h:Tells H av cs) (hH:H nm=some (.row ver 1 av)):(∀k s,(rdC (.sl nm ver 0 cs.length) k).run H s=(k cs).run H s)∧∃b0 b1,∀k s,(rdC (.sl nm ver 0 cs.length) k).runL H s=addRd (b0::b1) ((k cs).runL H s):=by
 have e:av.take cs.length=av:=List.take_of_length_le (by rw[h.len];exact Nat.le_refl _)
 have hl:=h.len
 obtain⟨l,h2⟩:=h.rowsL
 refine⟨fun k s=>?_,nm,l,fun k s=>?_⟩
 ·simp only[Go.Proofs.Ytdcomhdadnhpnaa.rdC,AP.run,hH,List.drop_zero,e,hl,true_and,and_self,if_true]
  exact h.rows k s
 ·unfold Go.Proofs.Ytdcomhdadnhpnaa.rdC
  rw[runL_get hH]
  simp only[List.drop_zero,e,hl,true_and,and_self,if_true]
  rw[h2,addRd_app];rfl
def cellsK (kk g:Nat) (cs:List (List Nat)):List AV:=if kk<cs.length then(rowsN cs).set kk (.sl g 0 0 (cs.getD kk []).length)else rowsN cs
theorem cellsK_len (kk g:Nat) (cs:List (List Nat)):(cellsK kk g cs).length=cs.length:=by unfold cellsK;split<;>simp[rowsN]
theorem cellsK_one (kk g:Nat) (cs:List (List Nat)):(cellsK kk g cs).all AV.one=true:=by
 unfold cellsK
 split
 ·exact rowsN_put cs kk _ rfl
 ·exact rowsN_one cs
theorem cellsK_dsl {kk g:Nat} {cs:List (List Nat)} {c:List Nat} (h:cs.length≠kk):cellsK kk g (cs++[c])=cellsK kk g cs++[.dsl c.length (natsA c)]:=by
 have e:rowsN (cs++[c])=rowsN cs++[.dsl c.length (natsA c)]:=by simp[rowsN]
 unfold cellsK
 rw[List.length_append,List.length_singleton,e]
 by_cases h1:kk<cs.length
 ·rw[if_pos (by omega),if_pos h1,List.set_append_left _ _ (by simpa[rowsN]using h1)]
  congr 3
  simp[List.getElem?_append_left h1]
 ·rw[if_neg (by omega),if_neg h1]
theorem cellsK_sl {kk g g':Nat} {cs:List (List Nat)} {c:List Nat} (h:cs.length=kk):cellsK kk g (cs++[c])=cellsK kk g' cs++[.sl g 0 0 c.length]:=by
 have e:rowsN (cs++[c])=rowsN cs++[.dsl c.length (natsA c)]:=by simp[rowsN]
 have hl:(rowsN cs).length=kk:=by simpa[rowsN]using h
 unfold cellsK
 rw[List.length_append,List.length_singleton,e,if_pos (by omega),if_neg (by omega),List.set_append_right _ _ (by omega),hl,Nat.sub_self]
 subst h
 simp
def GK (kk g:Nat) (cs:List (List Nat)) (H:AHp) (lo s':Nat) (v2:AV):Prop:=kk<cs.length→H g=some (.row 0 1 (natsA (cs.getD kk [])))∧lo≤g∧g<s'∧(∀nm ver n,v2= .sl nm ver 0 n→nm≠g)
theorem GK.keep {kk g:Nat} {cs:List (List Nat)} {H H2:AHp} {lo s' s2:Nat} {v2:AV} (h:GK kk g cs H lo s' v2) (hs:s'≤s2) (hH:∀q,lo≤q→q<s'→H2 q=H q):GK kk g cs H2 lo s2 v2:=fun hk=>by
 obtain⟨a,b,c,d⟩:=h hk
 exact⟨by rw[hH g b c];exact a,b,by omega,d⟩
theorem GK.tells {kk g:Nat} {cs:List (List Nat)} {H:AHp} {lo s':Nat} {v2:AV} (h:GK kk g cs H lo s' v2):Tells H (cellsK kk g cs) cs:=by
 unfold cellsK
 split
 ·rename_i hk
  have e:cs.getD kk []=cs[kk]:=by simp[hk]
  refine(Tells.rowsN H cs).set (k:=kk) (List.getElem?_eq_getElem hk) (.inr ⟨g,by rw[e],?_⟩)
  have:=(h hk).1
  rwa[e]at this
 ·exact Tells.rowsN H cs
def outK (kk i:Nat) (o:Option (List Nat)):AP AV:=if i=kk then(match o with
 |some (r::c)=>.new (.row 0 1 (natsA (r::c))) fun g=>.ret (.tup [.sl g 0 0 (r::c).length,.sc (.bool true)])
 |o=>.ret (chG o))else .ret (chG o)
def c106k (kk:Nat):List AV→AP AV
 | [t,.sc (.int .i64 n),.sc (.int .i64 i)]=>rdK t fun l=>if 0≤n∧n≤100000∧l.length=wlen n.toNat∧0≤i∧i<(bkts n.toNat:Nat)then outK kk i.toNat (chF l n.toNat n.toNat (headAt i.toNat))else .fail
 |_=>.fail
theorem a106k (kk:Nat) (args:List AV):ACall Try.prog 106 args (c106k kk args):=by
 intro ρ H w vs hR hA s r H' s' hm
 unfold c106k at hm
 split at hm
 ·rename_i t n i
  obtain⟨v0,v1,v2,rfl,hv0,hv1,hv2⟩:∃x y z,vs=[x,y,z]∧Rep ρ (own ρ H) w _ x∧Rep ρ (own ρ H) w _ y∧Rep ρ (own ρ H) w _ z:=by
   obtain⟨x,t,rfl,h1,h2⟩:=Reps.uncons hA
   obtain⟨y,z,rfl,h3,h4⟩:=reps2 h2
   exact⟨x,y,z,rfl,h1,h3,h4⟩
  obtain⟨l,hr,hm⟩:=rdK_data hR hv0 hm
  split at hm
  ·rename_i hw
   obtain⟨h1,h2,h3,h4,h5⟩:=hw
   obtain rfl:=Rep.sc_iff.1 hv1
   obtain rfl:=Rep.sc_iff.1 hv2
   have hro:=chain_ro l n.toNat i.toNat (by omega) h3 (by omega)
   rw[show((n.toNat:Nat):Int)=n by omega,show((i.toNat:Nat):Int)=i by omega]at hro
   have hrc:=chain_call l n.toNat i.toNat (by omega) h3 (by omega)
   rw[show((n.toNat:Nat):Int)=n by omega,show((i.toNat:Nat):Int)=i by omega]at hrc
   generalize chF l n.toNat n.toNat (headAt i.toNat)=o at*
   have key:(AP.ret (chG o)).run H s=some (r,H',s')→Calls Try.prog 106 (#[v0,Value.int .i64 n,Value.int .i64 i]) w fun e w'=>∃v ρ',e= .returned v∧Step ρ H w ρ' H' w'∧Rep ρ' (own ρ' H') w' r v:=fun hm=>by
    simp only[AP.run,Option.some.injEq,Prod.mk.injEq]at hm
    obtain⟨rfl,rfl,rfl⟩:=hm
    exact hrc.acall hR (.cons hr (.cons (.sc _) (.cons (.sc _) .nil)))
   unfold outK at hm
   split at hm
   ·split at hm
    ·rename_i r0 c
     refine hro.ownT hR (.cons hr (.cons (.sc _) (.cons (.sc _) .nil))) (r:=r) (s:=s) (s':=s') ?_
     rw[←hm]
     simp[chX,outX,AP.run]
    ·exact key hm
   ·exact key hm
  ·simp[AP.run]at hm
 ·simp[AP.run]at hm
noncomputable def ctK (kk:Nat):CT:=fun f args=>if f=106 then c106k kk args else ctQ f args
theorem ctK_ok (kk:Nat):CTok Try.prog (ctK kk):=fun f args=>by
 unfold ctK
 split
 ·rename_i e;subst e;exact a106k kk args
 ·exact ctQ_ok f args
theorem ctK_18 (kk:Nat) (a:List AV):ctK kk 18 a=ctQ 18 a:=rfl
theorem ctK_19 (kk:Nat) (a:List AV):ctK kk 19 a=ctQ 19 a:=rfl
theorem ctK_51 (kk:Nat) (a:List AV):ctK kk 51 a=ctQ 51 a:=rfl
theorem ctK_91 (kk:Nat) (a:List AV):ctK kk 91 a=ctQ 91 a:=rfl
theorem ctK_96 (kk:Nat) (a:List AV):ctK kk 96 a=ctQ 96 a:=rfl
theorem ctK_106 (kk:Nat) (a:List AV):ctK kk 106 a=c106k kk a:=rfl
theorem ctK_107 (kk:Nat) (a:List AV):ctK kk 107 a=ctQ 107 a:=rfl
theorem chsF_take {l:List Int} {n:Nat}:∀ {m:Nat} {C:List (List Nat)},chsF l n m=some C→∀i,i≤m→chsF l n i=some (C.take i)
 |0,C,h,i,hi=>by
  obtain rfl:i=0:=by omega
  rw[h]
  rw[chsF]at h
  cases h;rfl
 |m+1,C,h,i,hi=>by
  by_cases e:i=m+1
  ·subst e
   have:=(chsF_ok h).1
   rw[h,List.take_of_length_le (by omega)]
  ·have h0:=h
   rw[chsF]at h
   split at h
   ·cases h
   ·rename_i cs hcs
    split at h
    ·cases h
    ·rename_i c hc
     split at h
     ·cases h
      have hl:=(chsF_ok hcs).1
      rw[chsF_take hcs i (by omega),List.take_append_of_le_length (by omega)]
     ·cases h
set_option maxRecDepth 100000 in
set_option maxHeartbeats 8000000 in
theorem readk_walk (l:List Int) (hl:l.length≤1000000000) (hV:ValidL l) (kk:Nat) (hkk:kk<(chsT l).length) (hne:(chsT l).getD kk []≠[]) (E:Ent) (s:Nat) (hs:∀q,s≤q→E.H q=none) (R:AV→AHp→Prop)
  (hR:∀H1 nm1 ver1 nm2 ver2 g,(∀q,q<s→H1 q=E.H q)→H1 nm1=some (.row ver1 2 (elsA (recsT l)))→s≤nm1→H1 nm2=some (.row ver2 1 (cellsK kk g (chsT l)))→s≤nm2→H1 g=some (.row 0 1 (natsA ((chsT l).getD kk [])))→s≤g→nm2≠g→
   R (.tup [.agg [.sl nm1 ver1 0 (recsT l).length,.sl nm2 ver2 0 (chsT l).length],.sc (.bool true)]) H1):
  wA Try.prog E (ctK kk) Try.f78.body.get! (begA Try.f78 [.dsl l.length (ints l)]) E.H s (EndA Try.prog Try.f78 R):=by
 simp(maxSteps:=300000)only[begA,Try.ntmps78,List.replicate_succ,List.replicate_zero,List.length_cons,List.length_nil,List.cons_append,List.nil_append]
 simp only[Try.f78,Option.get!_some]
 have hX:readX l=some (recsT l,chsT l)∧wordsF (recsT l) (chsT l)=l:=by
  have h:=readF_X l
  rw[readF_valid hV]at h
  cases hx:readX l with
  |none=>rw[hx]at h;cases h
  |some x=>
   rw[hx]at h
   simp only at h
   split at h
   ·rename_i e
    cases h
    exact⟨rfl,e⟩
   ·cases h
 obtain⟨hX,hWs⟩:=hX
 have hl4:=hV.l4
 have hh0:(ints l).head? =some (.sc (.int .i64 (ati l 0))):=by rw[List.head?_eq_getElem?];exact ints_at_ (by omega)
 obtain⟨n,hnT⟩:∃n,tabN l=n:=⟨_,rfl⟩
 have hn:ati l 0=(n:Int):=by
  have:=hV.n0
  have h2:(ati l 0).toNat=n:=hnT
  omega
 have hn1:n≤100000:=by have:=hV.n1;omega
 have hwl:=wlen_le n (by omega)
 have h2:l.length=wlen n:=by rw[←hnT];exact hV.len
 rw[hn]at hh0
 have hcT:=chsT_len l
 rw[hnT]at hcT
 have hrT:recsT l=recsF l n:=by show recsF l (tabN l)=_;rw[hnT]
 rw[hrT]at hR hWs
 have hrec:∀r,r<n→recAt r+2<l.length:=fun r hr=>by rw[h2];exact recAt_wlen hr
 have hrl:=recsF_len l n
 have hhead:4≤l.length∧0≤ati l 0∧ati l 0≤100000∧l.length=wlen (ati l 0).toNat:=⟨by omega,by omega,by omega,by rw[hn,Int.toNat_natCast];exact h2⟩
 have hCF:chsF l n (bkts n)=some (chsT l)∧(chsT l).flatten.length=n∧∀i,i<(chsT l).length→srtF i (chsT l).length none [] (elsOfC (recsF l n) ((chsT l).getD i []))=true:=by
  have h:=hX
  unfold readX at h
  rw[if_pos hhead,hn,Int.toNat_natCast]at h
  split at h
  ·cases h
  ·rename_i cs hcs
   split at h
   ·rename_i hc
    have e:cs=chsT l:=by
     have:=Option.some.inj h
     exact congrArg Prod.snd this
    rw[hcs,e]
    rw[e]at hc
    exact⟨rfl,hc⟩
   ·cases h
 obtain⟨hCF,hmany,hsall⟩:=hCF
 generalize chsT l=chs at*
 repeat(first |(with_reducible first |apply Q0 |apply Q1 |apply Q2 |apply Q3 |apply Q4 |apply Q5 |apply Q6 |apply Q7 |apply Q8 |apply Q9 |apply QA |apply QB |apply QC |apply QD |apply QE |apply QF) |((first |(with_reducible apply QK rfl) |(apply QT;simp only[go_sem]<;>exact rfl));simp(disch:=omega)only[go_sem,hs,upd_ne,hh0,ints_len,cal19,ctK_19,ctQ_19,c19r];exact rfl;simp only[sB,sA,putA];exact rfl) |(apply QI;simp only[go_sem]<;>exact rfl;simp only[sB,sA,putA];exact rfl) |(apply QQ;simp only[evA,gB,gA];exact rfl) |((first |apply QX |apply QY);(first |rfl |decide |assumption)))
 refine AWp.loop [0,2,4,5,6] (fun Γ H s' m=>∃(k:Nat) (v1:AV),k≤n∧m=n-k∧Γ=[.dsl l.length (ints l)]++(List.replicate 1 .junk)++[.ptr s 0 0]++(List.replicate 1 .junk)++[.sc (.int .i64 (n:Nat)),.ptr (s+1) 0 0,.sc (.int .i64 (k:Nat))]++(List.replicate 130 .junk)∧
  H s=some (.row 0 1 [.sc (.slice none 0 0),.sc (.slice none 0 0)])∧H (s+1)=some (.row 0 1 [v1,.sc (.slice none 0 0)])∧RowE (s+2) 2 v1 H s' (elsA ((recsF l n).take k)) k∧s+2≤s'∧(∀q,s'≤q→H q=none)∧∀q,q<s→H q=E.H q) n ?_ ?_
 ·refine⟨0,_,Nat.zero_le _,rfl,rfl,by simp(disch:=omega)only[upd_ne,upd_same],upd_same _ _ _,.inl ⟨rfl,rfl,rfl⟩,Nat.le_refl _,fun q hq=>?_,fun q hq=>by simp(disch:=omega)only[upd_ne]⟩
  simp(disch:=omega)only[upd_ne];exact hs q (by omega)
 rintro Γ H s1 m ⟨k,v1,hk,rfl,rfl,hH0,hH1,hv,hs1,hf,hE⟩
 refine wA_ok hmix (ctK_ok kk) _ (by kernel_rfl) ?_
 simp(maxSteps:=1000000)only[List.replicate_succ,List.replicate_zero,List.cons_append,List.nil_append,List.append_nil]
 by_cases hlt:k<n
 ·have h2r:=hrec k hlt
  have hi1:(((recAt k:Nat):Int)+1).toNat=recAt k+1:=by omega
  have htk:((recsF l n).take k).length=k:=by rw[List.length_take];omega
  have hap:elsA ((recsF l n).take (k+1))=elsA ((recsF l n).take k)++[.sc (.int .i64 (ati l (recAt k))),.sc (.int .i64 (ati l (recAt k+1)))]:=by rw[recsF_take hlt,elsA_append];rfl
  have het:(elsA ((recsF l n).take k)).take (k*2)=elsA ((recsF l n).take k):=by
   have:=elsA_take ((recsF l n).take k)
   rwa[htk]at this
  have hel:(elsA ((recsF l n).take k)).length=k*2:=by rw[elsA_len,htk]
  rcases hv with⟨h0',hcs,rfl⟩ |⟨nm,ver,h0',rfl,hH,hl1,hl2⟩
  ·subst h0'
   repeat(first |(with_reducible first |apply Q0 |apply Q1 |apply QG |apply Q2 |apply Q3 |apply Q4 |apply Q5 |apply Q6 |apply Q7 |apply Q8 |apply Q9 |apply QA |apply QB |apply QC |apply QD |apply QE |apply QF) |((with_reducible apply QK rfl);simp(disch:=omega)only[go_sem,hf,hH0,hH1,upd_ne,ints_len,ati_some,cal91,ctK_91,ctQ_91,c91r,hi1];exact rfl;simp only[sB,sA,putA];exact rfl) |((first |(with_reducible apply QL rfl) |(apply QM;simp only[go_sem]<;>exact rfl));simp(disch:=omega)only[go_sem,hf,hH0,hH1,upd_ne,ints_len,ati_some,cal91,ctK_91,ctQ_91,c91r,hi1];exact rfl;simp only[sB,sA,putA];exact rfl;simp only[logT_none,logT_rd,logT_wr,List.cons_append,List.nil_append];exact rfl) |((first |apply QI |apply QN);simp only[go_sem]<;>exact rfl;simp only[sB,sA,putA];exact rfl) |(refine QO ?_ ?_;first |focus(simp only[dyn_nil,dyn_cons,allY_nil,allY_cons,dj_rr,true_or,true_and];done) |focus(simp only[dyn_nil,dyn_cons,allY_nil,allY_cons,Dj,List.mem_cons,List.not_mem_nil,or_false,forall_eq,forall_eq_or_imp,and_true,true_and,false_imp_iff,implies_true];omega) |focus(simp only[dyn_nil,dyn_cons,allY_nil,allY_cons,and_true,true_and];(repeat' refine And.intro ?_ ?_);all_goals first |(left;simp only[Dj,List.mem_cons,List.not_mem_nil,or_false,forall_eq,forall_eq_or_imp,and_true,true_and,false_imp_iff,implies_true];first |done |omega) |(right;kernel_rfl))) |(apply QQ;simp only[evA,gB,gA];exact rfl) |((first |apply QX |apply QY);(first |rfl |decide |assumption)))
   refine⟨n-1,by omega,1,.sl (s1+1) 0 0 1,by omega,rfl,rfl,by(simp(disch:=omega)only[upd_ne];exact hH0),by rw[upd_same],.inr ⟨s1+1,0,by omega,rfl,?_,by omega,by omega⟩,by omega,fun q hq=>by(simp(disch:=omega)only[upd_ne];exact hf q (by omega)),fun q hq=>by(simp(disch:=omega)only[upd_ne];exact hE q hq)⟩
   rw[hap]
   simp(disch:=omega)only[upd_ne,upd_same]
   rfl
  ·repeat(first |(with_reducible first |apply Q0 |apply Q1 |apply QG |apply Q2 |apply Q3 |apply Q4 |apply Q5 |apply Q6 |apply Q7 |apply Q8 |apply Q9 |apply QA |apply QB |apply QC |apply QD |apply QE |apply QF) |((with_reducible apply QK rfl);simp(disch:=omega)only[go_sem,hf,hH0,hH1,hH,upd_ne,ints_len,ati_some,cal91,ctK_91,ctQ_91,c91r,hi1,het,hel,elsA_one];exact rfl;simp only[sB,sA,putA];exact rfl) |((first |(with_reducible apply QL rfl) |(apply QM;simp only[go_sem]<;>exact rfl));simp(disch:=omega)only[go_sem,hf,hH0,hH1,hH,upd_ne,ints_len,ati_some,cal91,ctK_91,ctQ_91,c91r,hi1,het,hel,elsA_one];exact rfl;simp only[sB,sA,putA];exact rfl;simp only[logT_none,logT_rd,logT_wr,List.cons_append,List.nil_append];exact rfl) |((first |apply QI |apply QN);simp only[go_sem]<;>exact rfl;simp only[sB,sA,putA];exact rfl) |(refine QO ?_ ?_;first |focus(simp only[dyn_nil,dyn_cons,allY_nil,allY_cons,dj_rr,true_or,true_and];done) |focus(simp only[dyn_nil,dyn_cons,allY_nil,allY_cons,Dj,List.mem_cons,List.not_mem_nil,or_false,forall_eq,forall_eq_or_imp,and_true,true_and,false_imp_iff,implies_true];omega) |focus(simp only[dyn_nil,dyn_cons,allY_nil,allY_cons,and_true,true_and];(repeat' refine And.intro ?_ ?_);all_goals first |(left;simp only[Dj,List.mem_cons,List.not_mem_nil,or_false,forall_eq,forall_eq_or_imp,and_true,true_and,false_imp_iff,implies_true];first |done |omega) |(right;kernel_rfl))) |(apply QQ;simp only[evA,gB,gA];exact rfl) |((first |apply QX |apply QY);(first |rfl |decide |assumption)))
   refine⟨n-(k+1),by omega,k+1,.sl nm (ver+1) 0 (k+1),by omega,rfl,rfl,by(simp(disch:=omega)only[upd_ne];exact hH0),by rw[upd_same],.inr ⟨nm,ver+1,by omega,rfl,?_,by omega,by omega⟩,by omega,fun q hq=>by(simp(disch:=omega)only[upd_ne];exact hf q (by omega)),fun q hq=>by(simp(disch:=omega)only[upd_ne];exact hE q hq)⟩
   rw[hap]
   simp(disch:=omega)only[upd_ne,upd_same]
 ·obtain rfl:k=n:=by omega
  have htn:(recsF l k).take k=recsF l k:=List.take_of_length_le (by omega)
  rw[htn]at hv
  have hb:=bkts_le k (by omega)
  have hb8:=bkts8 k
  repeat(first |(with_reducible first |apply Q0 |apply Q1 |apply Q2 |apply Q3 |apply Q4 |apply Q5 |apply Q6 |apply Q7 |apply Q8 |apply Q9 |apply QA |apply QB |apply QC |apply QD |apply QE |apply QF) |((with_reducible apply QK rfl);simp(disch:=omega)only[go_sem,hf,upd_ne];exact rfl;simp only[sB,sA,putA];exact rfl) |(apply QQ;simp only[evA,gB,gA];exact rfl) |((first |apply QX |apply QY);(first |rfl |decide |assumption)))
  refine AWp.loop [0,2,4,5,7,8,9] (fun Γ H s' m=>∃(i g:Nat) (cs:List (List Nat)) (v2:AV),i≤bkts k∧m=bkts k-i∧Γ=[.dsl l.length (ints l)]++(List.replicate 1 .junk)++[.ptr s 0 0]++(List.replicate 1 .junk)++[.sc (.int .i64 (k:Nat)),.ptr (s+1) 0 0]++(List.replicate 1 .junk)++[.sl s1 0 0 k,.sc (.int .i64 (cs.flatten.length:Nat)),.sc (.int .i64 (i:Nat))]++(List.replicate 127 .junk)∧
   cs=chs.take i∧H s=some (.row 0 1 [.sc (.slice none 0 0),.sc (.slice none 0 0)])∧H (s+1)=some (.row 0 1 [v1,v2])∧H s1=some (.row 0 1 (ints (hadL k cs.flatten)))∧RowE (s+2) 2 v1 H s1 (elsA (recsF l k)) k∧RowE (s1+1) 1 v2 H s' (cellsK kk g cs) i∧GK kk g cs H (s1+1) s' v2∧s1+1≤s'∧(∀q,s'≤q→H q=none)∧∀q,q<s→H q=E.H q) (bkts k) ?_ ?_
  ·refine⟨0,0,[],_,Nat.zero_le _,rfl,rfl,rfl,by(simp(disch:=omega)only[upd_ne];exact hH0),by(simp(disch:=omega)only[upd_ne];exact hH1),?_,hv.keep (Nat.le_refl _) (fun q h1 h2=>by simp(disch:=omega)only[upd_ne]),.inl ⟨rfl,rfl,rfl⟩,fun h=>absurd h (by simp),by omega,fun q hq=>by(simp(disch:=omega)only[upd_ne];exact hf q (by omega)),fun q hq=>by(simp(disch:=omega)only[upd_ne];exact hE q hq)⟩
   rw[upd_same,List.flatten_nil,hadL_nil];simp[aZeros,Value.cells]
  clear hH0 hH1 hv hf hE
  rintro Γ H s2 m ⟨i,g,cs,v2,hi,rfl,rfl,hcs0,hH0,hH1,hHd,hv1,hv2,hG,hs2,hf,hE⟩
  have hcs:chsF l k i=some cs:=by rw[hcs0];exact chsF_take hCF i hi
  obtain⟨hc1,hc2,hc3⟩:=chsF_ok hcs
  refine wA_ok hmix (ctK_ok kk) _ (by kernel_rfl) ?_
  simp(maxSteps:=1000000)only[List.replicate_succ,List.replicate_zero,List.cons_append,List.nil_append,List.append_nil]
  by_cases hlt:i<bkts k
  ·have hil:i<chs.length:=by omega
   obtain⟨c,hcs3,hcd⟩:∃c,cs++[c]=chs.take (i+1)∧chs.getD i []=c:=⟨chs[i]'hil,by rw[List.take_succ_eq_append_getElem hil,←hcs0],by simp[hil]⟩
   have hcs2:chsF l k (i+1)=some (cs++[c]):=by rw[hcs3];exact chsF_take hCF (i+1) (by omega)
   obtain⟨hc,hndc⟩:chF l k k (headAt i)=some c∧(cs.flatten++c).Nodup:=by
    have h:=hcs2
    rw[chsF,hcs]at h
    simp only at h
    split at h
    ·cases h
    ·rename_i c' hc'
     split at h
     ·rename_i hnd
      have:=(List.append_inj' (Option.some.inj h) rfl).2
      simp at this
      subst this
      exact⟨hc',hnd⟩
     ·cases h
   obtain⟨hck,hcl⟩:=chF_ok hc
   have hclen:cs.length=i:=hc1
   have hcellen:=cellsK_len kk g cs
   have hcelone:=cellsK_one kk g cs
   have hcelt:(cellsK kk g cs).take i=cellsK kk g cs:=List.take_of_length_le (by omega)
   have hfl:(cs++[c]).flatten=cs.flatten++c:=by simp
   by_cases hik:i=kk
   ·have hcne:c≠[]:=by
     have:chs.getD kk []=c:=by
      rw[←hik];exact hcd
     rwa[this]at hne
    have hout:outK kk i (some c)= .new (.row 0 1 (natsA c)) fun g=>.ret (.tup [.sl g 0 0 c.length,.sc (.bool true)]):=by
     unfold outK
     rw[if_pos hik]
     cases c with
     |nil=>exact absurd rfl hcne
     |cons r c=>rfl
    have hcat:∀(q:Nat) (h:q<c.length),(natsA c)[q]? =some (.sc (.int .i64 (c[q]:Nat))):=fun q h=>by simp[h]
    have hnl:(natsA c).length=c.length:=natsA_len _
    repeat(first |(with_reducible first |apply Q0 |apply Q1 |apply Q2 |apply Q3 |apply Q4 |apply Q5 |apply Q6 |apply Q7 |apply Q8 |apply Q9 |apply QA |apply QB |apply QC |apply QD |apply QE |apply QF) |((first |(with_reducible apply QK rfl) |(apply QT;simp only[go_sem]<;>exact rfl));simp(disch:=omega)only[go_sem,hf,upd_ne,ints_len,cal18,ctK_18,ctQ_18,c18r,cal106,ctK_106,c106k,rdK_dsl,hc,hout,hH0,hH1];exact rfl;simp only[sB,sA,putA];exact rfl) |(apply QI;simp only[go_sem]<;>exact rfl;simp only[sB,sA,putA];exact rfl) |(apply QQ;simp only[evA,gB,gA];exact rfl) |((first |apply QX |apply QY);(first |rfl |decide |assumption)))
    refine AWp.loop [0,2,4,5,7,8,9,10,12] (fun Γ H s' m=>∃q:Nat,q≤c.length∧m=c.length-q∧Γ=[.dsl l.length (ints l)]++(List.replicate 1 .junk)++[.ptr s 0 0]++(List.replicate 1 .junk)++[.sc (.int .i64 (k:Nat)),.ptr (s+1) 0 0]++(List.replicate 1 .junk)++[.sl s1 0 0 k,.sc (.int .i64 ((cs.flatten++c.take q).length:Nat)),.sc (.int .i64 (i:Nat)),.sl s2 0 0 c.length]++(List.replicate 1 .junk)++[.sc (.int .i64 (q:Nat))]++(List.replicate 124 .junk)∧
     (cs.flatten++c.take q).Nodup∧H s=some (.row 0 1 [.sc (.slice none 0 0),.sc (.slice none 0 0)])∧H (s+1)=some (.row 0 1 [v1,v2])∧H s1=some (.row 0 1 (ints (hadL k (cs.flatten++c.take q))))∧RowE (s+2) 2 v1 H s1 (elsA (recsF l k)) k∧RowE (s1+1) 1 v2 H s2 (cellsK kk g cs) i∧GK kk g cs H (s1+1) s2 v2∧s2+1≤s'∧(∀q,s'≤q→H q=none)∧(∀q,q<s→H q=E.H q)∧H s2=some (.row 0 1 (natsA c))) c.length ?_ ?_
    ·refine⟨0,Nat.zero_le _,rfl,by rw[List.take_zero,List.append_nil];rfl,by rw[List.take_zero,List.append_nil];exact hc2,?_,?_,?_,?_,?_,?_,by omega,fun q hq=>by(simp(disch:=omega)only[upd_ne];exact hf q (by omega)),fun q hq=>by(simp(disch:=omega)only[upd_ne];exact hE q hq),upd_same _ _ _⟩
     ·simp(disch:=omega)only[upd_ne];exact hH0
     ·simp(disch:=omega)only[upd_ne];exact hH1
     ·simp(disch:=omega)only[upd_ne];rw[List.take_zero,List.append_nil];exact hHd
     ·exact hv1.keep (Nat.le_refl _) (fun q h1 h2=>by simp(disch:=omega)only[upd_ne])
     ·exact hv2.keep (Nat.le_refl _) (fun q h1 h2=>by simp(disch:=omega)only[upd_ne])
     ·exact hG.keep (Nat.le_refl _) (fun q h1 h2=>by simp(disch:=omega)only[upd_ne])
    clear hH0 hH1 hHd hv1 hv2 hG hf hE
    rintro Γ H s3 m ⟨q,hq,rfl,rfl,hnd,hH0,hH1,hHd,hv1,hv2,hG,hs3,hf,hE,hHg⟩
    refine wA_ok hmix (ctK_ok kk) _ (by kernel_rfl) ?_
    simp(maxSteps:=1000000)only[List.replicate_succ,List.replicate_zero,List.cons_append,List.nil_append,List.append_nil]
    have hle:(cs.flatten++c.take q).length≤k:=nodup_len k _ hnd (fun r hr=>by
     rcases List.mem_append.1 hr with hr |hr
     ·obtain⟨d,hd,hrd⟩:=List.mem_flatten.1 hr
      exact(hc3 d hd).1 r hrd
     ·exact hck r (List.mem_of_mem_take hr))
    by_cases hqlt:q<c.length
    ·have hrk:=hck _ (List.getElem_mem hqlt)
     have htk:cs.flatten++c.take (q+1)=(cs.flatten++c.take q)++[c[q]]:=by rw[List.take_succ_eq_append_getElem hqlt,List.append_assoc]
     have hhl:=hadL_len k (cs.flatten++c.take q)
     have hg2:∀x,((hadL k (cs.flatten++c.take q)).set c[q] x)[c[q]]? =some x:=fun x=>by rw[List.getElem?_set,if_pos rfl,if_pos (by omega)]
     have hin:c[q]∉cs.flatten++c.take q:=fun hin=>by
      have hn2:=hndc
      rw[←List.take_append_drop q c,←List.append_assoc]at hn2
      exact(List.nodup_append.1 hn2).2.2 c[q] hin c[q] (by rw[List.drop_eq_getElem_cons hqlt];exact List.mem_cons_self) rfl
     have hval:∀h:c[q]<(hadL k (cs.flatten++c.take q)).length,(hadL k (cs.flatten++c.take q))[c[q]]'h=0:=fun h=>by rw[hadL_get,if_neg hin]
     have hcq:=hcat q hqlt
     repeat(first |(with_reducible first |apply Q0 |apply Q1 |apply Q2 |apply Q3 |apply Q4 |apply Q5 |apply Q6 |apply Q7 |apply Q8 |apply Q9 |apply QA |apply QB |apply QC |apply QD |apply QE |apply QF) |((with_reducible apply QK rfl);simp(disch:=omega)only[go_sem,hf,upd_ne,ints_len,hH0,hH1,hHd,hhl,hval,hg2,ints_set,hHg,hcq,hnl];exact rfl;simp only[sB,sA,putA];exact rfl) |(apply QQ;simp only[evA,gB,gA];exact rfl) |((first |apply QX |apply QY);(first |rfl |decide |assumption)))
     refine⟨c.length-(q+1),by omega,q+1,by omega,rfl,?_,?_,by(simp(disch:=omega)only[upd_ne];exact hH0),by(simp(disch:=omega)only[upd_ne];exact hH1),?_,hv1.keep (Nat.le_refl _) (fun q h1 h2=>by simp(disch:=omega)only[upd_ne]),hv2.keep (Nat.le_refl _) (fun q h1 h2=>by simp(disch:=omega)only[upd_ne]),hG.keep (Nat.le_refl _) (fun q h1 h2=>by simp(disch:=omega)only[upd_ne]),by omega,fun q hq=>by(simp(disch:=omega)only[upd_ne];exact hf q (by omega)),fun q hq=>by(simp(disch:=omega)only[upd_ne];exact hE q hq),by(simp(disch:=omega)only[upd_ne];exact hHg)⟩
     ·rw[htk,List.length_append (bs:=[c[q]])];rfl
     ·rw[htk]
      exact List.nodup_append.2 ⟨hnd,by simp,fun a ha b hb e=>by simp at hb;subst hb;subst e;exact hin ha⟩
     ·rw[upd_same,htk,←hadL_set hrk];rfl
    ·obtain rfl:q=c.length:=by omega
     rw[List.take_length]at hnd hHd hle
     rcases hv2 with⟨h0',hcs',rfl⟩ |⟨nm,ver,h0',rfl,hH,hl1,hl2⟩
     ·repeat(first |(with_reducible first |apply Q0 |apply Q1 |apply Q2 |apply Q3 |apply Q4 |apply Q5 |apply Q6 |apply Q7 |apply Q8 |apply Q9 |apply QA |apply QB |apply QC |apply QD |apply QE |apply QF) |((with_reducible apply QK rfl);simp(disch:=omega)only[go_sem,hf,upd_ne,hH0,hH1,bs35s];exact rfl;simp only[sB,sA,putA];exact rfl) |(apply QQ;simp only[evA,gB,gA];exact rfl) |((first |apply QX |apply QY);(first |rfl |decide |assumption)))
      refine⟨bkts k-(i+1),by omega,i+1,s2,cs++[c],.sl (s3+1) 0 0 1,by omega,rfl,by rw[hfl,List.take_length];rfl,hcs3,by(simp(disch:=omega)only[upd_ne];exact hH0),by rw[upd_same],by(simp(disch:=omega)only[upd_ne];rw[hfl];exact hHd),hv1.keep (Nat.le_refl _) (fun q h1 h2=>by simp(disch:=omega)only[upd_ne]),.inr ⟨s3+1,0,by omega,by rw[h0'],?_,by omega,by omega⟩,?_,by omega,fun q hq=>by(simp(disch:=omega)only[upd_ne];exact hf q (by omega)),fun q hq=>by(simp(disch:=omega)only[upd_ne];exact hE q hq)⟩
      ·rw[cellsK_sl (g:=s2) (g':=g) (by omega),hcs']
       simp(disch:=omega)only[upd_ne,upd_same]
       rfl
      ·intro _
       have e:(cs++[c]).getD kk []=c:=by
        rw[show kk=cs.length by omega];simp
       refine⟨?_,by omega,by omega,fun a b d e=>?_⟩
       ·rw[e];simp(disch:=omega)only[upd_ne];exact hHg
       ·cases e;omega
     ·repeat(first |(with_reducible first |apply Q0 |apply Q1 |apply Q2 |apply Q3 |apply Q4 |apply Q5 |apply Q6 |apply Q7 |apply Q8 |apply Q9 |apply QA |apply QB |apply QC |apply QD |apply QE |apply QF) |((with_reducible apply QK rfl);simp(disch:=omega)only[go_sem,hf,upd_ne,hH0,hH1,hH,bs35s,hcellen,hclen,hcelt,hcelone];exact rfl;simp only[sB,sA,putA];exact rfl) |(apply QQ;simp only[evA,gB,gA];exact rfl) |((first |apply QX |apply QY);(first |rfl |decide |assumption)))
      refine⟨bkts k-(i+1),by omega,i+1,s2,cs++[c],.sl nm (ver+1) 0 (i+1),by omega,rfl,by rw[hfl,List.take_length];rfl,hcs3,by(simp(disch:=omega)only[upd_ne];exact hH0),by rw[upd_same],by(simp(disch:=omega)only[upd_ne];rw[hfl];exact hHd),hv1.keep (Nat.le_refl _) (fun q h1 h2=>by simp(disch:=omega)only[upd_ne]),.inr ⟨nm,ver+1,by omega,rfl,?_,by omega,by omega⟩,?_,by omega,fun q hq=>by(simp(disch:=omega)only[upd_ne];exact hf q (by omega)),fun q hq=>by(simp(disch:=omega)only[upd_ne];exact hE q hq)⟩
      ·rw[cellsK_sl (g:=s2) (g':=g) (by omega)]
       simp(disch:=omega)only[upd_ne,upd_same]
      ·intro _
       have e:(cs++[c]).getD kk []=c:=by
        rw[show kk=cs.length by omega];simp
       refine⟨?_,by omega,by omega,fun a b d e=>?_⟩
       ·rw[e];simp(disch:=omega)only[upd_ne];exact hHg
       ·cases e;omega
   ·have hout:outK kk i (some c)= .ret (chG (some c)):=by unfold outK;rw[if_neg hik]
    repeat(first |(with_reducible first |apply Q0 |apply Q1 |apply Q2 |apply Q3 |apply Q4 |apply Q5 |apply Q6 |apply Q7 |apply Q8 |apply Q9 |apply QA |apply QB |apply QC |apply QD |apply QE |apply QF) |((first |(with_reducible apply QK rfl) |(apply QT;simp only[go_sem]<;>exact rfl));simp(disch:=omega)only[go_sem,hf,upd_ne,ints_len,cal18,ctK_18,ctQ_18,c18r,cal106,ctK_106,c106k,rdK_dsl,hc,hout,hH0,hH1];exact rfl;simp only[sB,sA,putA];exact rfl) |(apply QI;simp only[go_sem]<;>exact rfl;simp only[sB,sA,putA];exact rfl) |(apply QQ;simp only[evA,gB,gA];exact rfl) |((first |apply QX |apply QY);(first |rfl |decide |assumption)))
    refine AWp.loop [0,2,4,5,7,8,9,10,12] (fun Γ H s' m=>∃q:Nat,q≤c.length∧m=c.length-q∧Γ=[.dsl l.length (ints l)]++(List.replicate 1 .junk)++[.ptr s 0 0]++(List.replicate 1 .junk)++[.sc (.int .i64 (k:Nat)),.ptr (s+1) 0 0]++(List.replicate 1 .junk)++[.sl s1 0 0 k,.sc (.int .i64 ((cs.flatten++c.take q).length:Nat)),.sc (.int .i64 (i:Nat)),.dsl c.length (natsA c)]++(List.replicate 1 .junk)++[.sc (.int .i64 (q:Nat))]++(List.replicate 124 .junk)∧
     (cs.flatten++c.take q).Nodup∧H s=some (.row 0 1 [.sc (.slice none 0 0),.sc (.slice none 0 0)])∧H (s+1)=some (.row 0 1 [v1,v2])∧H s1=some (.row 0 1 (ints (hadL k (cs.flatten++c.take q))))∧RowE (s+2) 2 v1 H s1 (elsA (recsF l k)) k∧RowE (s1+1) 1 v2 H s2 (cellsK kk g cs) i∧GK kk g cs H (s1+1) s2 v2∧s2≤s'∧(∀q,s'≤q→H q=none)∧(∀q,q<s→H q=E.H q)) c.length ?_ ?_
    ·exact⟨0,Nat.zero_le _,rfl,by rw[List.take_zero,List.append_nil];rfl,by rw[List.take_zero,List.append_nil];exact hc2,hH0,hH1,by rw[List.take_zero,List.append_nil];exact hHd,hv1,hv2,hG,Nat.le_refl _,hf,hE⟩
    clear hH0 hH1 hHd hv1 hv2 hG hf hE
    rintro Γ H s3 m ⟨q,hq,rfl,rfl,hnd,hH0,hH1,hHd,hv1,hv2,hG,hs3,hf,hE⟩
    refine wA_ok hmix (ctK_ok kk) _ (by kernel_rfl) ?_
    simp(maxSteps:=1000000)only[List.replicate_succ,List.replicate_zero,List.cons_append,List.nil_append,List.append_nil]
    have hle:(cs.flatten++c.take q).length≤k:=nodup_len k _ hnd (fun r hr=>by
     rcases List.mem_append.1 hr with hr |hr
     ·obtain⟨d,hd,hrd⟩:=List.mem_flatten.1 hr
      exact(hc3 d hd).1 r hrd
     ·exact hck r (List.mem_of_mem_take hr))
    by_cases hqlt:q<c.length
    ·have hrk:=hck _ (List.getElem_mem hqlt)
     have htk:cs.flatten++c.take (q+1)=(cs.flatten++c.take q)++[c[q]]:=by rw[List.take_succ_eq_append_getElem hqlt,List.append_assoc]
     have hhl:=hadL_len k (cs.flatten++c.take q)
     have hg2:∀x,((hadL k (cs.flatten++c.take q)).set c[q] x)[c[q]]? =some x:=fun x=>by rw[List.getElem?_set,if_pos rfl,if_pos (by omega)]
     have hin:c[q]∉cs.flatten++c.take q:=fun hin=>by
      have hn2:=hndc
      rw[←List.take_append_drop q c,←List.append_assoc]at hn2
      exact(List.nodup_append.1 hn2).2.2 c[q] hin c[q] (by rw[List.drop_eq_getElem_cons hqlt];exact List.mem_cons_self) rfl
     have hval:∀h:c[q]<(hadL k (cs.flatten++c.take q)).length,(hadL k (cs.flatten++c.take q))[c[q]]'h=0:=fun h=>by rw[hadL_get,if_neg hin]
     repeat(first |(with_reducible first |apply Q0 |apply Q1 |apply Q2 |apply Q3 |apply Q4 |apply Q5 |apply Q6 |apply Q7 |apply Q8 |apply Q9 |apply QA |apply QB |apply QC |apply QD |apply QE |apply QF) |((with_reducible apply QK rfl);simp(disch:=omega)only[go_sem,hf,upd_ne,ints_len,hH0,hH1,hHd,hhl,hval,hg2,ints_set];exact rfl;simp only[sB,sA,putA];exact rfl) |(apply QQ;simp only[evA,gB,gA];exact rfl) |((first |apply QX |apply QY);(first |rfl |decide |assumption)))
     refine⟨c.length-(q+1),by omega,q+1,by omega,rfl,?_,?_,by(simp(disch:=omega)only[upd_ne];exact hH0),by(simp(disch:=omega)only[upd_ne];exact hH1),?_,hv1.keep (Nat.le_refl _) (fun q h1 h2=>by simp(disch:=omega)only[upd_ne]),hv2.keep (Nat.le_refl _) (fun q h1 h2=>by simp(disch:=omega)only[upd_ne]),hG.keep (Nat.le_refl _) (fun q h1 h2=>by simp(disch:=omega)only[upd_ne]),by omega,fun q hq=>by(simp(disch:=omega)only[upd_ne];exact hf q (by omega)),fun q hq=>by(simp(disch:=omega)only[upd_ne];exact hE q hq)⟩
     ·rw[htk,List.length_append (bs:=[c[q]])];rfl
     ·rw[htk]
      exact List.nodup_append.2 ⟨hnd,by simp,fun a ha b hb e=>by simp at hb;subst hb;subst e;exact hin ha⟩
     ·rw[upd_same,htk,←hadL_set hrk];rfl
    ·obtain rfl:q=c.length:=by omega
     rw[List.take_length]at hnd hHd hle
     rcases hv2 with⟨h0',hcs',rfl⟩ |⟨nm,ver,h0',rfl,hH,hl1,hl2⟩
     ·repeat(first |(with_reducible first |apply Q0 |apply Q1 |apply Q2 |apply Q3 |apply Q4 |apply Q5 |apply Q6 |apply Q7 |apply Q8 |apply Q9 |apply QA |apply QB |apply QC |apply QD |apply QE |apply QF) |((with_reducible apply QK rfl);simp(disch:=omega)only[go_sem,hf,upd_ne,hH0,hH1,bs35];exact rfl;simp only[sB,sA,putA];exact rfl) |(apply QQ;simp only[evA,gB,gA];exact rfl) |((first |apply QX |apply QY);(first |rfl |decide |assumption)))
      refine⟨bkts k-(i+1),by omega,i+1,g,cs++[c],.sl (s3+1) 0 0 1,by omega,rfl,by rw[hfl,List.take_length];rfl,hcs3,by(simp(disch:=omega)only[upd_ne];exact hH0),by rw[upd_same],by(simp(disch:=omega)only[upd_ne];rw[hfl];exact hHd),hv1.keep (Nat.le_refl _) (fun q h1 h2=>by simp(disch:=omega)only[upd_ne]),.inr ⟨s3+1,0,by omega,by rw[h0'],?_,by omega,by omega⟩,?_,by omega,fun q hq=>by(simp(disch:=omega)only[upd_ne];exact hf q (by omega)),fun q hq=>by(simp(disch:=omega)only[upd_ne];exact hE q hq)⟩
      ·rw[cellsK_dsl (by omega),hcs']
       simp(disch:=omega)only[upd_ne,upd_same]
       rfl
      ·intro hlk
       rw[List.length_append,List.length_singleton]at hlk
       have hlk2:kk<cs.length:=by omega
       have e:(cs++[c]).getD kk []=cs.getD kk []:=by simp[List.getElem?_append_left hlk2]
       obtain⟨k1,k2,k3,k4⟩:=hG hlk2
       refine⟨?_,by omega,by omega,fun a b d e=>?_⟩
       ·rw[e];simp(disch:=omega)only[upd_ne];exact k1
       ·cases e;omega
     ·repeat(first |(with_reducible first |apply Q0 |apply Q1 |apply Q2 |apply Q3 |apply Q4 |apply Q5 |apply Q6 |apply Q7 |apply Q8 |apply Q9 |apply QA |apply QB |apply QC |apply QD |apply QE |apply QF) |((with_reducible apply QK rfl);simp(disch:=omega)only[go_sem,hf,upd_ne,hH0,hH1,hH,bs35,hcellen,hclen,hcelt,hcelone];exact rfl;simp only[sB,sA,putA];exact rfl) |(apply QQ;simp only[evA,gB,gA];exact rfl) |((first |apply QX |apply QY);(first |rfl |decide |assumption)))
      refine⟨bkts k-(i+1),by omega,i+1,g,cs++[c],.sl nm (ver+1) 0 (i+1),by omega,rfl,by rw[hfl,List.take_length];rfl,hcs3,by(simp(disch:=omega)only[upd_ne];exact hH0),by rw[upd_same],by(simp(disch:=omega)only[upd_ne];rw[hfl];exact hHd),hv1.keep (Nat.le_refl _) (fun q h1 h2=>by simp(disch:=omega)only[upd_ne]),.inr ⟨nm,ver+1,by omega,rfl,?_,by omega,by omega⟩,?_,by omega,fun q hq=>by(simp(disch:=omega)only[upd_ne];exact hf q (by omega)),fun q hq=>by(simp(disch:=omega)only[upd_ne];exact hE q hq)⟩
      ·rw[cellsK_dsl (by omega)]
       simp(disch:=omega)only[upd_ne,upd_same]
      ·intro hlk
       rw[List.length_append,List.length_singleton]at hlk
       have hlk2:kk<cs.length:=by omega
       have e:(cs++[c]).getD kk []=cs.getD kk []:=by simp[List.getElem?_append_left hlk2]
       obtain⟨k1,k2,k3,k4⟩:=hG hlk2
       refine⟨?_,by omega,by omega,fun a b d e=>?_⟩
       ·have:=k4 _ _ _ rfl
        rw[e];simp(disch:=omega)only[upd_ne];exact k1
       ·cases e;exact k4 _ _ _ rfl
  ·obtain rfl:i=bkts k:=by omega
   have hce:cs=chs:=by rw[hcs0];exact List.take_of_length_le (by omega)
   clear hcs0
   subst hce
   have hW:WOK (recsF l k) cs:=⟨by omega,by rw[hrl];exact hc1,fun c hc r hr=>by rw[hrl];exact(hc3 c hc).1 r hr,fun c hc=>by have:=(hc3 c hc).2;omega⟩
   rw[←hc1]at hv2
   have hv1':RowE (s+2) 2 v1 H s2 (elsA (recsF l k)) (recsF l k).length:=by rw[hrl];exact hv1.keep (by omega) (fun q h1 h2=>rfl)
   obtain⟨a1,l1,a2⟩:=hv1'.rdE2
   have hbp:=bkts8 k
   obtain⟨nm2,ver2,hv2e,hH2,hn2,hn2b⟩:∃nm2 ver2,v2= .sl nm2 ver2 0 cs.length∧H nm2=some (.row ver2 1 (cellsK kk g cs))∧nm2<s2∧s1+1≤nm2:=by
    rcases hv2 with⟨h0,_⟩ |⟨nm,ver,_,h1,h2,h3,h4⟩
    ·omega
    ·exact⟨nm,ver,h1,h2,h3,h4⟩
   subst hv2e
   obtain⟨g1,g2,g3,g4⟩:=hG hkk
   have g5:=g4 _ _ _ rfl
   obtain⟨t1,b0,b1,t2⟩:=hG.tells.rdC hH2
   have hrd:∀kk s,(rdT (.agg [v1,.sl nm2 ver2 0 cs.length]) kk).run H s=(kk (recsF l k) cs).run H s:=fun kk s=>by simp only[rdT];rw[a1,t1]
   obtain⟨b0,b1,hrdL⟩:∃b0 b1,∀kk s,(rdT (.agg [v1,.sl nm2 ver2 0 cs.length]) kk).runL H s=addRd (b0::b1) ((kk (recsF l k) cs).runL H s):=by
    cases l1 with
    |nil=>exact⟨b0,b1,fun kk s=>by simp only[rdT];rw[a2,t2,addRd_nil]⟩
    |cons x l1=>exact⟨x,l1++(b0::b1),fun kk s=>by simp only[rdT];rw[a2,t2,addRd_app];rfl⟩
   have hbl:(cs.length:Nat)≤1000000:=by omega
   have hone:AV.one v1=true:=by
    rcases hv1' with⟨_,_,rfl⟩ |⟨_,_,_,rfl,_⟩<;>rfl
   have hwl2:(wordsF (recsF l k) cs).length≤1000000000:=by rw[hWs];exact hl
   repeat(first |(with_reducible first |apply Q0 |apply Q1 |apply Q2 |apply Q3 |apply Q4 |apply Q5 |apply Q6 |apply Q7 |apply Q8 |apply Q9 |apply QA |apply QB |apply QC |apply QD |apply QE |apply QF) |((with_reducible apply QK rfl);simp(disch:=omega)only[go_sem,hf,upd_ne,ints_len,cal18,ctK_18,ctQ_18,c18r,hH0,hH1];exact rfl;simp only[sB,sA,putA];exact rfl) |(apply QQ;simp only[evA,gB,gA];exact rfl) |((first |apply QX |apply QY);(first |rfl |decide |assumption)))
   refine AWp.loop [0,2,5,13] (fun Γ H' s' m=>∃i:Nat,i≤cs.length∧m=cs.length-i∧Γ=[.dsl l.length (ints l)]++(List.replicate 1 .junk)++[.ptr s 0 0]++(List.replicate 2 .junk)++[.ptr (s+1) 0 0]++(List.replicate 7 .junk)++[.sc (.int .i64 (i:Nat))]++(List.replicate 123 .junk)∧H'=H∧s'=s2) cs.length ?_ ?_
   ·exact⟨0,Nat.zero_le _,rfl,rfl,rfl,rfl⟩
   rintro Γ H' s' m ⟨i,hi,rfl,rfl,rfl,rfl⟩
   refine wA_ok hmix (ctK_ok kk) _ (by kernel_rfl) ?_
   simp(maxSteps:=1000000)only[List.replicate_succ,List.replicate_zero,List.cons_append,List.nil_append,List.append_nil]
   by_cases hilt:i<cs.length
   ·have hsi:=hsall i hilt
    repeat(first |(with_reducible first |apply Q0 |apply Q1 |apply Q2 |apply Q3 |apply Q4 |apply Q5 |apply Q6 |apply Q7 |apply Q8 |apply Q9 |apply QA |apply QB |apply QC |apply QD |apply QE |apply QF) |((with_reducible apply QK rfl);simp(disch:=omega)only[go_sem,hf,upd_ne,hH0,hH1,cal96,ctK_96,ctQ_96,c96,hrd,hW,hsi];exact rfl;simp only[sB,sA,putA];exact rfl) |(apply QQ;simp only[evA,gB,gA];exact rfl) |((first |apply QX |apply QY);(first |rfl |decide |assumption)))
    exact⟨cs.length-(i+1),by omega,i+1,by omega,rfl,rfl,rfl,rfl⟩
   ·obtain rfl:i=cs.length:=by omega
    repeat(first |(with_reducible first |apply Q0 |apply Q1 |apply QG |apply Q2 |apply Q3 |apply Q4 |apply Q5 |apply Q6 |apply Q7 |apply Q8 |apply Q9 |apply QA |apply QB |apply QC |apply QD |apply QE |apply QF) |((with_reducible apply QK rfl);simp(disch:=omega)only[go_sem,hf,upd_ne,hH0,hH1,cal51,ctK_51,ctQ_51,c51,cal107,ctK_107,ctQ_107,c107,rdK_dsl,hrdL,hW,addRd_some,↓hone];exact rfl;simp only[sB,sA,putA];exact rfl) |((first |(with_reducible apply QL rfl) |(apply QM;simp only[go_sem]<;>exact rfl));simp(disch:=omega)only[go_sem,hf,upd_ne,hH0,hH1,cal51,ctK_51,ctQ_51,c51,cal107,ctK_107,ctQ_107,c107,rdK_dsl,hrdL,hW,addRd_some,↓hone];exact rfl;simp only[sB,sA,putA];exact rfl;simp only[logT_none,logT_rd,logT_wr,List.cons_append,List.nil_append];exact rfl) |((first |apply QI |apply QN);simp only[go_sem]<;>exact rfl;simp only[sB,sA,putA];exact rfl) |(refine QO ?_ ?_;first |focus(simp only[dyn_nil,dyn_cons,allY_nil,allY_cons,dj_rr,true_or,true_and];done) |focus(simp only[dyn_nil,dyn_cons,allY_nil,allY_cons,Dj,List.mem_cons,List.not_mem_nil,or_false,forall_eq,forall_eq_or_imp,and_true,true_and,false_imp_iff,implies_true];omega) |focus(simp only[dyn_nil,dyn_cons,allY_nil,allY_cons,and_true,true_and];(repeat' refine And.intro ?_ ?_);all_goals first |(left;simp only[Dj,List.mem_cons,List.not_mem_nil,or_false,forall_eq,forall_eq_or_imp,and_true,true_and,false_imp_iff,implies_true];first |done |omega) |(right;kernel_rfl))) |(apply QQ;simp only[evA,gB,gA];exact rfl) |((first |apply QX |apply QY);(first |rfl |decide |assumption)))
    (apply QZ;simp(disch:=omega)only[go_sem,Try.results78,hH0,upd_ne];exact rfl;simp only[packA];exact rfl)
    obtain⟨nm1,ver1,e1,hHa,hn1a⟩:∃nm1 ver1,v1= .sl nm1 ver1 0 (recsF l k).length∧H' nm1=some (.row ver1 2 (elsA (recsF l k)))∧s+2≤nm1:=by
     rcases hv1' with⟨h0,_⟩ |⟨nm,ver,_,h1,h2,h3,h4⟩
     ·exfalso
      exact hne (by
       have hm:∀r∈cs[kk],False:=fun r hr=>by
        have:=(hc3 _ (List.getElem_mem hkk)).1 r hr
        omega
       have e:cs.getD kk []=cs[kk]:=by simp[hkk]
       rw[e]
       cases hx:cs[kk]with
       |nil=>rfl
       |cons r c=>exact(hm r (by rw[hx];simp)).elim)
     ·exact⟨nm,ver,h1,h2,h4⟩
    subst e1
    refine hR _ nm1 ver1 nm2 ver2 g (fun q hq=>by(simp(disch:=omega)only[upd_ne];exact hE q hq)) ?_ (by omega) ?_ (by omega) ?_ (by omega) g5
    ·simp(disch:=omega)only[upd_ne];exact hHa
    ·simp(disch:=omega)only[upd_ne];exact hH2
    ·simp(disch:=omega)only[upd_ne];exact g1
end Go.Proofs.Ytdcomhdadnhpnaa
