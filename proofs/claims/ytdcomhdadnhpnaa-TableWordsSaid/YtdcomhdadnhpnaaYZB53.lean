import Derived.Test.YtdcomhdadnhpnaaYZB47
import Derived.Test.YtdcomhdadnhpnaaYZB54
import Derived.Test.YtdcomhdadnhpnaaYZC4
import Derived.Test.YtdcomhdadnhpnaaYZP5
import Derived.Test.YtdcomhdadnhpnaaYZB50
import Derived.Test.YtdcomhdadnhpnaaYZB52
import Derived.Test.YtdcomhdadnhpnaaYZP31
set_option linter.all false
namespace Go.Proofs.Ytdcomhdadnhpnaa
open Go Go.Am Go.RowKit
attribute [local irreducible] wA opsQ opsLQ thenA blockA EndA
attribute [local go_sem] Try.underlying44
attribute [local go_sem] put5
section
variable (L:List (Int×Int)) (ops:List OpT) (b:Bool) (x y:Int)
noncomputable def ctWd:CT:=fun f args=>if f=47 then c47p L ops b x y args else if f=32 then c32p L ops b x y args else if f=28 then c28 args else if f=54 then c54 args else if f=55 then c55 args else if f=56 then c56 args else if f=49 then c49 args else ctT f args
theorem ctWd_ok:CTok Try.prog (ctWd L ops b x y):=fun f args=>by
 unfold ctWd
 split
 ·rename_i e;subst e;exact a47p L ops b x y args
 split
 ·rename_i e;subst e;exact a32p L ops b x y args
 split
 ·rename_i e;subst e;exact a28 args
 split
 ·rename_i e;subst e;exact a54 args
 split
 ·rename_i e;subst e;exact a55 args
 split
 ·rename_i e;subst e;exact a56 args
 split
 ·rename_i e;subst e;exact a49 args
 ·exact ctT_ok f args
variable (a:List AV)
theorem ctWd_15:ctWd L ops b x y 15 a=c15 a:=rfl
theorem ctWd_28:ctWd L ops b x y 28 a=c28 a:=rfl
theorem ctWd_32:ctWd L ops b x y 32 a=c32p L ops b x y a:=rfl
theorem ctWd_36:ctWd L ops b x y 36 a=c36 a:=rfl
theorem ctWd_47:ctWd L ops b x y 47 a=c47p L ops b x y a:=rfl
theorem ctWd_49:ctWd L ops b x y 49 a=c49 a:=rfl
theorem ctWd_54:ctWd L ops b x y 54 a=c54 a:=rfl
theorem ctWd_55:ctWd L ops b x y 55 a=c55 a:=rfl
theorem ctWd_56:ctWd L ops b x y 56 a=c56 a:=rfl
end
theorem vcal15:callable Try.prog 15=true:=by kernel_rfl
theorem vcal32:callable Try.prog 32=true:=by kernel_rfl
theorem wcal28':callable Try.prog 28=true:=by kernel_rfl
theorem wcal36:callable Try.prog 36=true:=by kernel_rfl
theorem wcal47:callable Try.prog 47=true:=by kernel_rfl
theorem wcal49:callable Try.prog 49=true:=by kernel_rfl
theorem wcal54:callable Try.prog 54=true:=by kernel_rfl
theorem wcal55:callable Try.prog 55=true:=by kernel_rfl
theorem wcal56:callable Try.prog 56=true:=by kernel_rfl
theorem wordsW_take {O:List (Int×Int)} {j:Nat} (h:j<O.length):wordsW (O.take (j+1))=insW (wordsW (O.take j)) O[j].2:=by
 unfold wordsW;rw[List.take_succ_eq_append_getElem h,List.foldl_append];rfl
theorem insW_nil (n:Int):insW [] n=[n]:=rfl
theorem wordsW_len:∀(O:List (Int×Int)),(wordsW O).length≤O.length:=by
 have:∀(O:List (Int×Int)) (W:List Int),(O.foldl (fun W e=>insW W e.2) W).length≤W.length+O.length:=by
  intro O
  induction O with
  |nil=>intro W;simp
  |cons e O ih=>
   intro W
   have h1:=ih (insW W e.2)
   have h2:=insW_len W e.2
   rw[List.foldl_cons,List.length_cons]
   omega
 intro O
 have:=this O []
 simpa[wordsW]using this
theorem slotsL_at {n i:Nat} (h:i<n):(ints (slotsL n))[i]? =some (.sc (.int .i64 (((recAt i:Nat):Int)+1))):=by
 simp[slotsL,ints,h]
set_option maxRecDepth 100000 in
set_option maxHeartbeats 32000000 in
theorem tableWords_call (L:List (Int×Int)) (ops:List OpT) (b:Bool) (x y base:Int):
  ACall Try.prog 13 [playG L ops b x y,.sc (.int .i64 base)] (.ret (.sc (.bool true))):=by
 refine acall_pure' hmix (ctWd_ok L ops b x y) Try.func13 rfl (by kernel_rfl) (fun E s hs=>?_)
 simp(maxSteps:=300000)only[begA,Try.ntmps13,List.replicate_succ,List.replicate_zero,List.length_cons,List.length_nil,List.cons_append,List.nil_append]
 have h32:c32p L ops b x y [playG L ops b x y]= .ret (.sc (.bool (decide (L.length≤300∧ops.length≤300)))):=if_pos rfl
 by_cases hsm:L.length≤300∧ops.length≤300
 rotate_left
 ·rw[decide_eq_false hsm]at h32
  repeat(first |(with_reducible first |apply Q0 |apply Q1 |apply Q2 |apply Q3 |apply Q4 |apply Q5 |apply Q6 |apply Q7 |apply Q8 |apply Q9 |apply QA |apply QB |apply QC |apply QD |apply QE |apply QF) |((first |(with_reducible apply QK rfl) |(apply QT;simp only[go_sem]<;>exact rfl));simp(disch:=omega)only[go_sem,hs,upd_ne,vcal15,ctWd_15,c15,vcal32,ctWd_32,h32];exact rfl;simp only[sB,sA,putA];exact rfl) |(apply QI;simp only[go_sem]<;>exact rfl;simp only[sB,sA,putA];exact rfl) |(apply QQ;simp only[evA,gB,gA];exact rfl) |((first |apply QX |apply QY);(first |rfl |decide |assumption)))
  (apply QZ;simp(disch:=omega)only[go_sem,Try.results13];exact rfl;simp only[packA];exact rfl)
  exact⟨fun q hq=>(by have hq2:q<s:=Nat.lt_of_not_le (fun hle=>hq (hs q hle));simp(disch:=omega)only[upd_ne]),Pub.sc _⟩
 rw[decide_eq_true hsm]at h32
 by_cases hb1:base<1099511627776
 ·repeat(first |(with_reducible first |apply Q0 |apply Q1 |apply Q2 |apply Q3 |apply Q4 |apply Q5 |apply Q6 |apply Q7 |apply Q8 |apply Q9 |apply QA |apply QB |apply QC |apply QD |apply QE |apply QF) |((first |(with_reducible apply QK rfl) |(apply QT;simp only[go_sem]<;>exact rfl));simp(disch:=omega)only[go_sem,hs,upd_ne,vcal15,ctWd_15,c15,vcal32,ctWd_32,h32,hb1];exact rfl;simp only[sB,sA,putA];exact rfl) |(apply QI;simp only[go_sem]<;>exact rfl;simp only[sB,sA,putA];exact rfl) |(apply QQ;simp only[evA,gB,gA];exact rfl) |((first |apply QX |apply QY);(first |rfl |decide |assumption)))
  (apply QZ;simp(disch:=omega)only[go_sem,Try.results13];exact rfl;simp only[packA];exact rfl)
  exact⟨fun q hq=>(by have hq2:q<s:=Nat.lt_of_not_le (fun hle=>hq (hs q hle));simp(disch:=omega)only[upd_ne]),Pub.sc _⟩
 by_cases hb2:1125899906842624<base
 ·repeat(first |(with_reducible first |apply Q0 |apply Q1 |apply Q2 |apply Q3 |apply Q4 |apply Q5 |apply Q6 |apply Q7 |apply Q8 |apply Q9 |apply QA |apply QB |apply QC |apply QD |apply QE |apply QF) |((first |(with_reducible apply QK rfl) |(apply QT;simp only[go_sem]<;>exact rfl));simp(disch:=omega)only[go_sem,hs,upd_ne,vcal15,ctWd_15,c15,vcal32,ctWd_32,h32,hb1,hb2];exact rfl;simp only[sB,sA,putA];exact rfl) |(apply QI;simp only[go_sem]<;>exact rfl;simp only[sB,sA,putA];exact rfl) |(apply QQ;simp only[evA,gB,gA];exact rfl) |((first |apply QX |apply QY);(first |rfl |decide |assumption)))
  (apply QZ;simp(disch:=omega)only[go_sem,Try.results13];exact rfl;simp only[packA];exact rfl)
  exact⟨fun q hq=>(by have hq2:q<s:=Nat.lt_of_not_le (fun hle=>hq (hs q hle));simp(disch:=omega)only[upd_ne]),Pub.sc _⟩
 have h47:c47p L ops b x y [playG L ops b x y]= .new (.row 0 1 (ints (madeF L ops))) fun n=>.ret (.sl n 0 0 (madeF L ops).length):=if_pos ⟨rfl,by omega,by omega⟩
 have hV:=madeF_valid L ops
 generalize madeF L ops=t at*
 have hit:=ints_take t
 have hil:=ints_len t
 have htl:t.length≤1000000000:=Nat.le_trans hV.le (by decide)
 have hn1:=(tab_g hV).n1
 have hrec:=(tab_g hV).rl
 have hol:=ordF_len hV
 have hsl:=slotsF_ok hV
 have hSl:=slotsL_len (tabN t)
 have hlaw:=fun {W:List Int} {base:Int} h1 h2 h3=>words_law hV (W:=W) (base:=base) h1 h2 h3
 have hmemO:∀r,r<tabN t→∃e∈ordF t,e.2=ati t (recAt r+1):=fun r hr=>by
  have hrl:(recsT t).length=tabN t:=recsF_len t _
  have h1:elm t r∈recsT t:=by rw[←recsT_at (by omega:r<(recsT t).length)];exact List.getElem_mem _
  exact⟨elm t r,(ordF_mem hV).2 ((mem_wds hV).1 h1),rfl⟩
 have hSa:∀i,i<tabN t→_:=fun i hi=>slotsL_at hi
 obtain⟨O,hO⟩:∃O,ordF t=O:=⟨_,rfl⟩
 rw[hO]at hol hmemO
 generalize slotsL (tabN t)=S at*
 generalize tabN t=n at*
 have hOn:((O.length:Nat):Int)=((S.length:Nat):Int):=by omega
 repeat(first |(with_reducible first |apply Q0 |apply Q1 |apply Q2 |apply Q3 |apply Q4 |apply Q5 |apply Q6 |apply Q7 |apply Q8 |apply Q9 |apply QA |apply QB |apply QC |apply QD |apply QE |apply QF) |((first |(with_reducible apply QK rfl) |(apply QT;simp only[go_sem]<;>exact rfl));simp(disch:=omega)only[go_sem,hs,upd_ne,vcal15,ctWd_15,c15,vcal32,ctWd_32,h32,hb1,hb2,wcal47,ctWd_47,h47,wcal28',ctWd_28,c28,rdK,hit,hil,intsOf_ints,hV,hO,wcal54,ctWd_54,c54,hsl,hOn];exact rfl;simp only[sB,sA,putA];exact rfl) |(apply QI;simp only[go_sem]<;>exact rfl;simp only[sB,sA,putA];exact rfl) |(apply QQ;simp only[evA,gB,gA];exact rfl) |((first |apply QX |apply QY);(first |rfl |decide |assumption)))
 refine AWp.loop [1,5,6,7,9,11,12] (fun Γ H s' m=>∃(j:Nat) (vW:AV),j≤O.length∧m=O.length-j∧Γ=(List.replicate 1 .junk)++[.sc (.int .i64 base)]++(List.replicate 3 .junk)++[.sc (.bool true),.sl (s+1) 0 0 t.length,.dsl O.length (elsA O)]++(List.replicate 1 .junk)++[.dsl S.length (ints S)]++(List.replicate 1 .junk)++[vW,.sc (.int .i64 (j:Nat))]++(List.replicate 166 .junk)∧
  H (s+1)=some (.row 0 1 (ints t))∧RowE (s+2) 1 vW H s' (ints (wordsW (O.take j))) (wordsW (O.take j)).length∧(∀e∈O.take j,e.2<base)∧s+2≤s'∧(∀q,s'≤q→H q=none)∧∀q,q<s→H q=E.H q) O.length ?_ ?_
 ·exact⟨0,_,Nat.zero_le _,rfl,rfl,upd_same _ _ _,.inl ⟨rfl,rfl,rfl⟩,by simp,by omega,fun q hq=>by(simp(disch:=omega)only[upd_ne];exact hs q (by omega)),fun q hq=>by simp(disch:=omega)only[upd_ne]⟩
 rintro Γ H s1 m ⟨j,vW,hj,rfl,rfl,hHt,hW,hall,hs1,hf,hE⟩
 refine wA_ok hmix (ctWd_ok L ops b x y) _ (by kernel_rfl) ?_
 simp(maxSteps:=1000000)only[List.replicate_succ,List.replicate_zero,List.cons_append,List.nil_append,List.append_nil]
 by_cases hlt:j<O.length
 ·by_cases hge:base≤O[j].2
  ·repeat(first |(with_reducible first |apply Q0 |apply Q1 |apply Q2 |apply Q3 |apply Q4 |apply Q5 |apply Q6 |apply Q7 |apply Q8 |apply Q9 |apply QA |apply QB |apply QC |apply QD |apply QE |apply QF) |((first |(with_reducible apply QK rfl) |(apply QT;simp only[go_sem]<;>exact rfl));simp(disch:=omega)only[go_sem,hf,upd_ne,elsA_len,elsA_drop,hge];exact rfl;simp only[sB,sA,putA];exact rfl) |(apply QI;simp only[go_sem]<;>exact rfl;simp only[sB,sA,putA];exact rfl) |(apply QQ;simp only[evA,gB,gA];exact rfl) |((first |apply QX |apply QY);(first |rfl |decide |assumption)))
   (apply QZ;simp(disch:=omega)only[go_sem,Try.results13];exact rfl;simp only[packA];exact rfl)
   exact⟨fun q hq=>(by have hq2:q<s:=Nat.lt_of_not_le (fun hle=>hq (hs q hle));exact hE q hq2),Pub.sc _⟩
  ·have hall2:∀e∈O.take (j+1),e.2<base:=fun e he=>by
    rw[List.take_succ_eq_append_getElem hlt]at he
    rcases List.mem_append.1 he with h |h
    ·exact hall e h
    ·simp at h;rw[h];omega
   have hwt:=wordsW_take hlt
   have hwl:=wordsW_len (O.take j)
   have hwl2:(O.take j).length≤100000:=by rw[List.length_take];omega
   generalize wordsW (O.take j)=W at*
   rcases hW with⟨h0',hcs,rfl⟩ |⟨nm,ver,h0',rfl,hHn,hns,hnl⟩
   ·obtain rfl:W=[]:=List.length_eq_zero_iff.1 h0'
    rw[insW_nil]at hwt
    repeat(first |(with_reducible first |apply Q0 |apply Q1 |apply Q2 |apply Q3 |apply Q4 |apply Q5 |apply Q6 |apply Q7 |apply Q8 |apply Q9 |apply QA |apply QB |apply QC |apply QD |apply QE |apply QF) |((first |(with_reducible apply QK rfl) |(apply QT;simp only[go_sem]<;>exact rfl));simp(disch:=omega)only[go_sem,hf,upd_ne,elsA_len,elsA_drop,hge,wcal55,ctWd_55,c55];exact rfl;simp only[sB,sA,putA];exact rfl) |(apply QI;simp only[go_sem]<;>exact rfl;simp only[sB,sA,putA];exact rfl) |(apply QQ;simp only[evA,gB,gA];exact rfl) |((first |apply QX |apply QY);(first |rfl |decide |assumption)))
    refine⟨O.length-(j+1),by omega,j+1,_,by omega,rfl,rfl,by(simp(disch:=omega)only[upd_ne];exact hHt),?_,hall2,by omega,fun q hq=>by(simp(disch:=omega)only[upd_ne];exact hf q (by omega)),fun q hq=>by(simp(disch:=omega)only[upd_ne];exact hE q hq)⟩
    rw[hwt]
    exact .inr ⟨_,_,by simp,rfl,upd_same _ _ _,by omega,by omega⟩
   ·have hW9:W.length≤1000000000:=by omega
    by_cases he:W[atW W O[j].2]? =some O[j].2
    ·have hA:insA nm ver W O[j].2= .ret (.sl nm ver 0 W.length):=if_pos he
     have hWW:insW W O[j].2=W:=if_pos he
     rw[hWW]at hwt
     repeat(first |(with_reducible first |apply Q0 |apply Q1 |apply Q2 |apply Q3 |apply Q4 |apply Q5 |apply Q6 |apply Q7 |apply Q8 |apply Q9 |apply QA |apply QB |apply QC |apply QD |apply QE |apply QF) |((first |(with_reducible apply QK rfl) |(apply QT;simp only[go_sem]<;>exact rfl));simp(disch:=omega)only[go_sem,hf,upd_ne,elsA_len,elsA_drop,hge,wcal55,ctWd_55,c55,hHn,iK_ok,hW9,h0',hA];exact rfl;simp only[sB,sA,putA];exact rfl) |(apply QI;simp only[go_sem]<;>exact rfl;simp only[sB,sA,putA];exact rfl) |(apply QQ;simp only[evA,gB,gA];exact rfl) |((first |apply QX |apply QY);(first |rfl |decide |assumption)))
     refine⟨O.length-(j+1),by omega,j+1,_,by omega,rfl,rfl,hHt,?_,hall2,hs1,hf,hE⟩
     rw[hwt]
     exact .inr ⟨nm,ver,h0',rfl,hHn,hns,hnl⟩
    ·have hA:insA nm ver W O[j].2= .new (.row 0 1 (ints (insW W O[j].2))) fun q=>.ret (.sl q 0 0 (insW W O[j].2).length):=if_neg he
     have hpos:0<(insW W O[j].2).length:=List.length_pos_of_mem (insW_mem.2 (.inr rfl))
     repeat(first |(with_reducible first |apply Q0 |apply Q1 |apply Q2 |apply Q3 |apply Q4 |apply Q5 |apply Q6 |apply Q7 |apply Q8 |apply Q9 |apply QA |apply QB |apply QC |apply QD |apply QE |apply QF) |((first |(with_reducible apply QK rfl) |(apply QT;simp only[go_sem]<;>exact rfl));simp(disch:=omega)only[go_sem,hf,upd_ne,elsA_len,elsA_drop,hge,wcal55,ctWd_55,c55,hHn,iK_ok,hW9,h0',hA];exact rfl;simp only[sB,sA,putA];exact rfl) |(apply QI;simp only[go_sem]<;>exact rfl;simp only[sB,sA,putA];exact rfl) |(apply QQ;simp only[evA,gB,gA];exact rfl) |((first |apply QX |apply QY);(first |rfl |decide |assumption)))
     refine⟨O.length-(j+1),by omega,j+1,_,by omega,rfl,rfl,by(simp(disch:=omega)only[upd_ne];exact hHt),?_,hall2,by omega,fun q hq=>by(simp(disch:=omega)only[upd_ne];exact hf q (by omega)),fun q hq=>by(simp(disch:=omega)only[upd_ne];exact hE q hq)⟩
     rw[hwt]
     exact .inr ⟨_,_,hpos,rfl,upd_same _ _ _,by omega,by omega⟩
 ·obtain rfl:j=O.length:=by omega
  rw[List.take_length]at hW hall
  have hWl:(wordsW O).length≤100000:=by have:=wordsW_len O;omega
  obtain⟨u,hu1,hu2,hu3,hu4,hu5⟩:=hlaw (W:=wordsW O) (base:=base) (wordsW_asc O) (fun r hr=>by
   obtain⟨e,he,e2⟩:=hmemO r hr
   exact wordsW_mem.2 ⟨e,he,e2⟩) (fun x hx=>by
   obtain⟨e,he,rfl⟩:=wordsW_mem.1 hx
   exact hall e he)
  clear hlaw hmemO
  generalize wordsW O=W at*
  have hlenW:aLen Try.prog 31 vW= .ret (.sc (.int .i64 (W.length:Nat))):=by
   rcases hW with⟨h,_,rfl⟩ |⟨_,_,_,rfl,_⟩
   ·rw[len_nil31,h];rfl
   ·simp only[aLen,Try.underlying31]
  repeat(first |(with_reducible first |apply Q0 |apply Q1 |apply Q2 |apply Q3 |apply Q4 |apply Q5 |apply Q6 |apply Q7 |apply Q8 |apply Q9 |apply QA |apply QB |apply QC |apply QD |apply QE |apply QF) |((first |(with_reducible apply QK rfl) |(apply QT;simp only[go_sem]<;>exact rfl));simp(disch:=omega)only[go_sem,hf,upd_ne,elsA_len];exact rfl;simp only[sB,sA,putA];exact rfl) |(apply QI;simp only[go_sem]<;>exact rfl;simp only[sB,sA,putA];exact rfl) |(apply QQ;simp only[evA,gB,gA];exact rfl) |((first |apply QX |apply QY);(first |rfl |decide |assumption)))
  refine AWp.loop [1,5,6,9,11,13,14,15] (fun Γ H' s' m=>∃(k:Nat) (v13 v14:AV),k≤W.length∧m=W.length-k∧Γ=(List.replicate 1 .junk)++[.sc (.int .i64 base)]++(List.replicate 3 .junk)++[.sc (.bool true),.sl (s+1) 0 0 t.length]++(List.replicate 2 .junk)++[.dsl S.length (ints S)]++(List.replicate 1 .junk)++[vW]++(List.replicate 1 .junk)++[v13,v14,.sc (.int .i64 (k:Nat))]++(List.replicate 163 .junk)∧
   (∀q,q<s1→H' q=H q)∧((k=0∧v13= .sc (.slice none 0 0)∧v14= .sc (.slice none 0 0))∨∃p vp q vq,0<k∧v13= .sl p vp 0 k∧v14= .sl q vq 0 k∧p≠q∧H' p=some (.row vp 2 (elsA (toL W base k)))∧H' q=some (.row vq 2 (elsA (fromL W base k)))∧s1≤p∧p<s'∧s1≤q∧q<s')∧s1≤s'∧∀q,s'≤q→H' q=none) W.length ?_ ?_
  ·exact⟨0,_,_,Nat.zero_le _,rfl,rfl,fun q _=>rfl,.inl ⟨rfl,rfl,rfl⟩,Nat.le_refl _,hf⟩
  rintro Γ H' s2 m ⟨k,v13,v14,hk,rfl,rfl,hHH,hrows,hs2,hf2⟩
  refine wA_ok hmix (ctWd_ok L ops b x y) _ (by kernel_rfl) ?_
  simp(maxSteps:=1000000)only[List.replicate_succ,List.replicate_zero,List.cons_append,List.nil_append,List.append_nil]
  by_cases hltk:k<W.length
  ·obtain⟨h0',_,_⟩ |⟨nm,ver,h0',rfl,hHn,hns,hnl⟩:=hW
   ·omega
   have hHn2:H' nm=some (.row ver 1 (ints W)):=by rw[hHH nm hns];exact hHn
   have hil2:=ints_len W
   have hatW:=ints_at_ hltk
   rw[←ati_some hltk]at hatW
   have hkT:((k:Nat):Int).toNat=k:=Int.toNat_natCast _
   have hltI:((k:Nat):Int)<((W.length:Nat):Int):=by omega
   have htk13:(elsA (toL W base k)).take (k*2)=elsA (toL W base k):=by have:=elsA_take (toL W base k);rwa[toL_len]at this
   have htk14:(elsA (fromL W base k)).take (k*2)=elsA (fromL W base k):=by have:=elsA_take (fromL W base k);rwa[fromL_len]at this
   have hel13:(elsA (toL W base k)).length=k*2:=by rw[elsA_len,toL_len]
   have hel14:(elsA (fromL W base k)).length=k*2:=by rw[elsA_len,fromL_len]
   have hap13:elsA (toL W base k)++[.sc (.int .i64 W[k]),.sc (.int .i64 (base+(k:Int)))]=elsA (toL W base (k+1)):=by rw[toL_succ,elsA_append,getD_at hltk];rfl
   have hap14:elsA (fromL W base k)++[.sc (.int .i64 (base+(k:Int))),.sc (.int .i64 W[k])]=elsA (fromL W base (k+1)):=by rw[fromL_succ,elsA_append,getD_at hltk];rfl
   rcases hrows with⟨h0k,rfl,rfl⟩ |⟨p,vp,q,vq,h0k,rfl,rfl,hpq,hp,hq,hp1,hp2,hq1,hq2⟩
   ·have hz:elsA (toL W base k)=[]:=by rw[h0k];rfl
    have hz2:elsA (fromL W base k)=[]:=by rw[h0k];rfl
    rw[hz,List.nil_append]at hap13
    rw[hz2,List.nil_append]at hap14
    repeat(first |(with_reducible first |apply Q0 |apply Q1 |apply Q2 |apply Q3 |apply Q4 |apply Q5 |apply Q6 |apply Q7 |apply Q8 |apply Q9 |apply QA |apply QB |apply QC |apply QD |apply QE |apply QF) |((first |(with_reducible apply QK rfl) |(apply QT;simp only[go_sem]<;>exact rfl));simp(disch:=omega)only[go_sem,hf2,upd_ne,hHn2,hil2,hatW,hkT,hltI,bs83];exact rfl;simp only[sB,sA,putA];exact rfl) |(apply QI;simp only[go_sem]<;>exact rfl;simp only[sB,sA,putA];exact rfl) |(apply QQ;simp only[evA,gB,gA];exact rfl) |((first |apply QX |apply QY);(first |rfl |decide |assumption)))
    refine⟨W.length-(k+1),by omega,k+1,_,_,by omega,rfl,rfl,fun q hq=>by(simp(disch:=omega)only[upd_ne];exact hHH q hq),.inr ⟨s2+1,0,s2+1+1+1,0,by omega,by rw[h0k];rfl,by rw[h0k];rfl,by omega,?_,?_,by omega,by omega,by omega,by omega⟩,by omega,fun q hq=>by(simp(disch:=omega)only[upd_ne];exact hf2 q (by omega))⟩
    ·rw[←hap13];simp(disch:=omega)only[upd_ne,upd_same]
    ·rw[←hap14];simp(disch:=omega)only[upd_ne,upd_same]
   ·repeat(first |(with_reducible first |apply Q0 |apply Q1 |apply Q2 |apply Q3 |apply Q4 |apply Q5 |apply Q6 |apply Q7 |apply Q8 |apply Q9 |apply QA |apply QB |apply QC |apply QD |apply QE |apply QF) |((first |(with_reducible apply QK rfl) |(apply QT;simp only[go_sem]<;>exact rfl));simp(disch:=omega)only[go_sem,hf2,upd_ne,hHn2,hil2,hatW,hkT,hltI,bs83,hp,hq,htk13,htk14,hel13,hel14,hap13,hap14,elsOf_one];exact rfl;simp only[sB,sA,putA];exact rfl) |(apply QI;simp only[go_sem]<;>exact rfl;simp only[sB,sA,putA];exact rfl) |(apply QQ;simp only[evA,gB,gA];exact rfl) |((first |apply QX |apply QY);(first |rfl |decide |assumption)))
    refine⟨W.length-(k+1),by omega,k+1,_,_,by omega,rfl,rfl,fun r hr=>by(simp(disch:=omega)only[upd_ne];exact hHH r hr),.inr ⟨p,vp+1,q,vq+1,by omega,rfl,rfl,hpq,?_,?_,hp1,by omega,hq1,by omega⟩,by omega,fun r hr=>by(simp(disch:=omega)only[upd_ne];exact hf2 r (by omega))⟩
    ·simp(disch:=omega)only[upd_ne,upd_same]
    ·simp(disch:=omega)only[upd_ne,upd_same]
  ·obtain rfl:k=W.length:=by omega
   have hHt2:H' (s+1)=some (.row 0 1 (ints t)):=by rw[hHH _ (by omega)];exact hHt
   have hrd13:∀(f:List (Int×Int)→AP AV) (z:Nat),(rdE2 v13 f).run H' z=(f (toL W base W.length)).run H' z:=fun f z=>by
    rcases hrows with⟨h0k,rfl,rfl⟩ |⟨p,vp,q,vq,h0k,rfl,rfl,hpq,hp,hq,hp1,hp2,hq1,hq2⟩
    ·rw[h0k];rfl
    ·have:=rdE2_sl (s:=z) hp f;rwa[toL_len]at this
   have hrd14:∀(f:List (Int×Int)→AP AV) (z:Nat),(rdE2 v14 f).run H' z=(f (fromL W base W.length)).run H' z:=fun f z=>by
    rcases hrows with⟨h0k,rfl,rfl⟩ |⟨p,vp,q,vq,h0k,rfl,rfl,hpq,hp,hq,hp1,hp2,hq1,hq2⟩
    ·rw[h0k];rfl
    ·have:=rdE2_sl (s:=z) hq f;rwa[fromL_len]at this
   have hnlt:¬((W.length:Nat):Int)<((W.length:Nat):Int):=by omega
   have htoL:(toL W base W.length).length≤1000000000:=by rw[toL_len];omega
   have hfrL:(fromL W base W.length).length≤1000000000:=by rw[fromL_len];omega
   have hul:u.length≤1000000000:=by omega
   have huI:((u.length:Nat):Int)=((t.length:Nat):Int):=by omega
   have hd4:((dif t u (min t.length u.length):Nat):Int)=((S.length:Nat):Int):=by omega
   have hilu:=ints_len u
   have hilS:=ints_len S
   repeat(first |(with_reducible first |apply Q0 |apply Q1 |apply Q2 |apply Q3 |apply Q4 |apply Q5 |apply Q6 |apply Q7 |apply Q8 |apply Q9 |apply QA |apply QB |apply QC |apply QD |apply QE |apply QF) |((first |(with_reducible apply QK rfl) |(apply QT;simp only[go_sem]<;>exact rfl));simp(disch:=omega)only[go_sem,hf2,upd_ne,↓hlenW,hnlt,wcal56,ctWd_56,c56,rdK,hHt2,hit,hil,intsOf_ints,hrd13,hrd14,htoL,hfrL,hu1,hu3,hilu,huI,wcal36,ctWd_36,c36,htl,wcal49,ctWd_49,c49,hul,hd4];exact rfl;simp only[sB,sA,putA];exact rfl) |(apply QI;simp only[go_sem]<;>exact rfl;simp only[sB,sA,putA];exact rfl) |(apply QQ;simp only[evA,gB,gA];exact rfl) |((first |apply QX |apply QY);(first |rfl |decide |assumption)))
   refine AWp.loop [1,5,9,16,20] (fun Γ H3 s' m=>∃i:Nat,i≤S.length∧m=S.length-i∧Γ=(List.replicate 1 .junk)++[.sc (.int .i64 base)]++(List.replicate 3 .junk)++[.sc (.bool true)]++(List.replicate 3 .junk)++[.dsl S.length (ints S)]++(List.replicate 6 .junk)++[.dsl u.length (ints u)]++(List.replicate 3 .junk)++[.sc (.int .i64 (i:Nat))]++(List.replicate 158 .junk)∧H3=H'∧s'=s2) S.length ?_ ?_
   ·exact⟨0,Nat.zero_le _,rfl,rfl,rfl,rfl⟩
   rintro Γ H3 s3 m ⟨i,hi,rfl,rfl,rfl,rfl⟩
   refine wA_ok hmix (ctWd_ok L ops b x y) _ (by kernel_rfl) ?_
   simp(maxSteps:=1000000)only[List.replicate_succ,List.replicate_zero,List.cons_append,List.nil_append,List.append_nil]
   by_cases hlti:i<S.length
   ·have hir:=hrec i (by omega)
    have hsat:=hSa i (by omega)
    have huat:(ints u)[recAt i+1]? =some (.sc (.int .i64 (ati u (recAt i+1)))):=ints_at_ (by omega)
    have hub:=hu5 i (by omega)
    have hltI:((i:Nat):Int)<((S.length:Nat):Int):=by omega
    have hiT:((i:Nat):Int).toNat=i:=Int.toNat_natCast _
    have hrT:(((recAt i:Nat):Int)+1).toNat=recAt i+1:=by omega
    have k1:¬((recAt i:Nat):Int)+1<0:=by omega
    have k2:¬((u.length:Nat):Int)≤((recAt i:Nat):Int)+1:=by omega
    have k3:¬ati u (recAt i+1)<base:=by omega
    have k4:((recAt i:Nat):Int)+1<((u.length:Nat):Int):=by omega
    repeat(first |(with_reducible first |apply Q0 |apply Q1 |apply Q2 |apply Q3 |apply Q4 |apply Q5 |apply Q6 |apply Q7 |apply Q8 |apply Q9 |apply QA |apply QB |apply QC |apply QD |apply QE |apply QF) |((first |(with_reducible apply QK rfl) |(apply QT;simp only[go_sem]<;>exact rfl));simp(disch:=omega)only[go_sem,hf2,upd_ne,hilS,hilu,hsat,huat,hltI,hiT,hrT,k1,k2,k3,k4];exact rfl;simp only[sB,sA,putA];exact rfl) |(apply QI;simp only[go_sem]<;>exact rfl;simp only[sB,sA,putA];exact rfl) |(apply QQ;simp only[evA,gB,gA];exact rfl) |((first |apply QX |apply QY);(first |rfl |decide |assumption)))
    exact⟨S.length-(i+1),by omega,i+1,by omega,rfl,rfl,rfl,rfl⟩
   ·obtain rfl:i=S.length:=by omega
    have hnI:¬((S.length:Nat):Int)<((S.length:Nat):Int):=by omega
    repeat(first |(with_reducible first |apply Q0 |apply Q1 |apply Q2 |apply Q3 |apply Q4 |apply Q5 |apply Q6 |apply Q7 |apply Q8 |apply Q9 |apply QA |apply QB |apply QC |apply QD |apply QE |apply QF) |((first |(with_reducible apply QK rfl) |(apply QT;simp only[go_sem]<;>exact rfl));simp(disch:=omega)only[go_sem,hf2,upd_ne,hilS,hnI];exact rfl;simp only[sB,sA,putA];exact rfl) |(apply QI;simp only[go_sem]<;>exact rfl;simp only[sB,sA,putA];exact rfl) |(apply QQ;simp only[evA,gB,gA];exact rfl) |((first |apply QX |apply QY);(first |rfl |decide |assumption)))
    (apply QZ;simp(disch:=omega)only[go_sem,Try.results13];exact rfl;simp only[packA];exact rfl)
    exact⟨fun q hq=>(by have hq2:q<s:=Nat.lt_of_not_le (fun hle=>hq (hs q hle));rw[hHH q (by omega)];exact hE q hq2),Pub.sc _⟩
end Go.Proofs.Ytdcomhdadnhpnaa
