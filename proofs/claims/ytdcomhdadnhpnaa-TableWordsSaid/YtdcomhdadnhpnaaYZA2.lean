import Derived.Test.YtdcomhdadnhpnaaYZA5
set_option linter.all false
section
namespace Go.Proofs.Ytdcomhdadnhpnaa
open Go Go.Am Go.RowKit
def toN (l:List Int):Option (List Nat):=if ∀x∈l,0≤x then some (l.map Int.toNat)else none
theorem toN_cast (c:List Nat):toN (c.map fun r:Nat=>(r:Int))=some c:=by
 unfold toN
 rw[if_pos (by intro x hx;obtain⟨r,_,rfl⟩:=List.mem_map.1 hx;omega),List.map_map]
 congr 1
 conv=>rhs;rw[←List.map_id c]
 rfl
theorem toN_some {l:List Int} {c:List Nat} (h:toN l=some c):l=c.map fun r:Nat=>(r:Int):=by
 unfold toN at h
 split at h
 ·rename_i h0
  cases h
  rw[List.map_map]
  conv=>lhs;rw[←List.map_id l]
  refine List.map_congr_left (fun x hx=>?_)
  have:=h0 x hx
  simp;omega
 ·cases h
def rdRows:List AV→(List (List Nat)→AP AV)→AP AV
 | [],k=>k []
 |a::t,k=>rdK a fun l=>match toN l with
  |some c=>rdRows t fun cs=>k (c::cs)
  |none=>.fail
theorem rdRows_data:∀(chs:List (List Nat)) (k:List (List Nat)→AP AV),rdRows (rowsN chs) k=k chs
 | [],k=>rfl
 |c::chs,k=>by
  have:(c.map fun r:Nat=>(r:Int)).length=c.length:=by simp
  show rdK (.dsl c.length (natsA c)) _=_
  rw[←this,rdK_dsl,toN_cast]
  exact rdRows_data chs _
def rdC (a:AV) (k:List (List Nat)→AP AV):AP AV:=match a with
 | .dsl len cells=>if cells.length=len then rdRows cells k else .fail
 | .sl n ver off len=>.get n fun o=>match o with
   | .row ver' 1 cs=>if ver'=ver∧((cs.drop off).take len).length=len then rdRows ((cs.drop off).take len) k else .fail
   |_=>.fail
 | .sc (.slice none 0 0)=>k []
 |_=>.fail
def rdT (a:AV) (k:List (Int×Int)→List (List Nat)→AP AV):AP AV:=match a with
 | .agg [x,y]=>rdE2 x fun recs=>rdC y fun chs=>k recs chs
 |_=>.fail
theorem rowsN_len (chs:List (List Nat)):(rowsN chs).length=chs.length:=by simp[rowsN]
theorem rdC_dsl (chs:List (List Nat)) (k:List (List Nat)→AP AV):rdC (.dsl chs.length (rowsN chs)) k=k chs:=by
 unfold rdC;simp only[rowsN_len,if_true,rdRows_data]
theorem rdC_sl {H:AHp} {s nm ver:Nat} {chs:List (List Nat)} (h:H nm=some (.row ver 1 (rowsN chs))) (k:List (List Nat)→AP AV):(rdC (.sl nm ver 0 chs.length) k).run H s=(k chs).run H s:=by
 have e:(rowsN chs).take chs.length=rowsN chs:=List.take_of_length_le (by rw[rowsN_len];exact Nat.le_refl _)
 simp only[rdC,AP.run,h,List.drop_zero,e,rowsN_len,true_and,and_self,if_true,rdRows_data]
section
variable {ρ:Inj} {H H':AHp} {w:World}
theorem rdRows_rep (h:Rel ρ H w):∀ {cells:List AV} {vs:List Value} {k:List (List Nat)→AP AV} {r:AV} {s s':Nat},Reps ρ (own ρ H) w cells vs→(rdRows cells k).run H s=some (r,H',s')→
  ∃chs,chs.length=cells.length∧Reps ρ0 (own ρ0 H0) w (rowsN chs) vs∧(k chs).run H s=some (r,H',s')
 | [],vs,k,r,s,s',hr,hm=>by
   have:vs=[]:=by simpa using hr.len
   subst this
   exact⟨[],rfl,Reps.nil,hm⟩
 |a::cells,vs,k,r,s,s',hr,hm=>by
  obtain⟨x,xs,rfl,h1,h2⟩:=Reps.uncons hr
  obtain⟨l,hl,hm⟩:=rdK_data h h1 hm
  split at hm
  ·rename_i c hc
   obtain⟨chs,e1,e2,e3⟩:=rdRows_rep h h2 hm
   have e:=toN_some hc
   subst e
   have e4:(c.map fun r:Nat=>(r:Int)).length=c.length:=by simp
   rw[e4]at hl
   exact⟨c::chs,by simp[e1],Reps.cons hl e2,e3⟩
  ·simp[AP.run]at hm
theorem rdC_data {a r:AV} {v:Value} {k:List (List Nat)→AP AV} {s s':Nat} (h:Rel ρ H w) (hr:Rep ρ (own ρ H) w a v) (hm:(rdC a k).run H s=some (r,H',s')):
  ∃chs,Rep ρ0 (own ρ0 H0) w (.dsl chs.length (rowsN chs)) v∧(k chs).run H s=some (r,H',s'):=by
 cases hr with
 |sc v=>
  unfold rdC at hm
  split at hm
  ·rename_i e;cases e
  ·rename_i e;cases e
  ·rename_i e;cases e
   exact⟨[],.dnil (Nat.le_refl _),hm⟩
  ·simp[AP.run]at hm
 |dnil hl=>
  rename_i len cap A
  unfold rdC at hm
  simp only at hm
  split at hm
  ·rename_i e;subst e;exact⟨[],.dnil (by simp),hm⟩
  ·simp[AP.run]at hm
 |dsl hcap ho hb hl hc hrr=>
  rename_i len b off cap cells vs
  unfold rdC at hm
  simp only at hm
  split at hm
  ·rename_i e
   obtain⟨chs,e1,e2,e3⟩:=rdRows_rep (vs:=vs) h ⟨hl,hrr⟩ hm
   refine⟨chs,?_,e3⟩
   rw[show chs.length=len by omega]
   exact .dsl hcap (own0 b) hb e2.len hc e2.at_
  ·simp[AP.run]at hm
 |sl hL hroom hle hmx=>
  rename_i n ver off len L0 cap
  unfold rdC at hm
  simp only[AP.run]at hm
  split at hm
  ·rename_i o ho
   cases o with
   |row ver' esz cs=>
    split at hm
    ·rename_i v2 cs2 e
     injection e with e1 e2 e3
     subst e1;subst e2;subst e3
     split at hm
     ·rename_i e
      obtain⟨e1,e2⟩:=e
      subst e1
      obtain⟨L',h1,h2⟩:=h.live n _ ho rfl
      have h1':ρ n ver'=some L':=h1
      rw[hL]at h1';cases h1'
      obtain⟨hes,c,t,hh,hsz,hcl,hreps⟩:=h2
      obtain⟨chs,f1,f2,f3⟩:=rdRows_rep h ((hreps.drop off).take len) hm
      refine⟨chs,?_,f3⟩
      rw[show chs.length=len by omega]
      refine .dsl hle (own0 _) (Array.getElem?_eq_some_iff.1 hh).1 f2.len (fun i x hx=>?_) f2.at_
      rw[List.getElem?_take]at hx
      split at hx
      ·rw[List.getElem?_drop,List.getElem?_take]at hx
       split at hx
       ·rw[List.getElem?_drop]at hx
        rw[cell_of_heap hh,←Array.getElem?_toList,←hx,Nat.add_assoc]
       ·cases hx
      ·cases hx
     ·simp[AP.run]at hm
    ·simp[AP.run]at hm
   |mapo _ _ _=>simp[AP.run]at hm
   |dead _=>simp[AP.run]at hm
  ·cases hm
 |junk=>simp[rdC,AP.run]at hm
 |ptr _=>simp[rdC,AP.run]at hm
 |dptr _ _ _ _ _=>simp[rdC,AP.run]at hm
 |mp _=>simp[rdC,AP.run]at hm
 |fn _ _ _ _=>simp[rdC,AP.run]at hm
 |ifc _=>simp[rdC,AP.run]at hm
 |agg _ _=>simp[rdC,AP.run]at hm
 |tup _ _=>simp[rdC,AP.run]at hm
theorem rdT_data {a r:AV} {v:Value} {k:List (Int×Int)→List (List Nat)→AP AV} {s s':Nat} (h:Rel ρ H w) (hr:Rep ρ (own ρ H) w a v) (hm:(rdT a k).run H s=some (r,H',s')):
  ∃recs chs,Rep ρ0 (own ρ0 H0) w (tabG recs chs) v∧(k recs chs).run H s=some (r,H',s'):=by
 unfold rdT at hm
 split at hm
 ·rename_i x y
  obtain⟨vs,rfl,hvs⟩:=Rep.agg_iff.1 hr
  obtain⟨u,us,e,h1,h2⟩:=Reps.uncons hvs
  obtain⟨u2,us2,e2,h3,h4⟩:=Reps.uncons h2
  obtain⟨recs,g1,hm⟩:=rdE2_data h h1 hm
  obtain⟨chs,g2,hm⟩:=rdC_data h h3 hm
  refine⟨recs,chs,Rep.agg_iff.2 ⟨vs,rfl,?_⟩,hm⟩
  have:us2=[]:=by simpa using h4.len
  rw[e,e2,this]
  exact .cons g1 (.cons g2 .nil)
 ·simp[AP.run]at hm
end
end Go.Proofs.Ytdcomhdadnhpnaa
end
section
namespace Go.Proofs.Ytdcomhdadnhpnaa
open Go Go.Am Go.RowKit
def RowE (lo esz:Nat) (v:AV) (H:AHp) (s':Nat) (cs:List AV) (len:Nat):Prop:=
 (len=0∧cs=[]∧v= .sc (.slice none 0 0))∨∃nm ver,0<len∧v= .sl nm ver 0 len∧H nm=some (.row ver esz cs)∧nm<s'∧lo≤nm
def addRd (l:List Nat) (o:Option (AV×AHp×Nat×List Nat×List Nat)):Option (AV×AHp×Nat×List Nat×List Nat):=match o with
 |some (a,H,s,rd,wr)=>some (a,H,s,l++rd,wr)
 |none=>none
theorem addRd_some (l:List Nat) (a:AV) (H:AHp) (s:Nat) (rd wr:List Nat):addRd l (some (a,H,s,rd,wr))=some (a,H,s,l++rd,wr):=rfl
theorem addRd_nil (o:Option (AV×AHp×Nat×List Nat×List Nat)):addRd [] o=o:=by cases o<;>rfl
theorem addRd_app (l m:List Nat) (o:Option (AV×AHp×Nat×List Nat×List Nat)):addRd l (addRd m o)=addRd (l++m) o:=by
 cases o with
 |none=>rfl
 |some x=>simp[addRd]
theorem runL_get {n:Nat} {k:AO→AP AV} {o:AO} {H:AHp} {s:Nat} (h:H n=some o):(AP.get n k).runL H s=addRd [n] ((k o).runL H s):=by
 simp only[AP.runL,h]
 cases (k o).runL H s<;>rfl
section
variable {lo s':Nat} {v:AV} {H:AHp}
theorem RowE.rdE2 {L:List (Int×Int)} (h:RowE lo 2 v H s' (elsA L) L.length):(∀k s,(rdE2 v k).run H s=(k L).run H s)∧∃l,∀k s,(rdE2 v k).runL H s=addRd l ((k L).runL H s):=by
 rcases h with⟨h0,_,rfl⟩ |⟨nm,ver,h0,rfl,hH,_,_⟩
 ·obtain rfl:=List.length_eq_zero_iff.1 h0
  exact⟨fun k s=>rfl,[],fun k s=>(addRd_nil _).symm⟩
 ·refine⟨fun k s=>rdE2_sl hH k,[nm],fun k s=>?_⟩
  unfold Go.Proofs.Ytdcomhdadnhpnaa.rdE2
  rw[runL_get hH]
  simp only[List.drop_zero,elsA_take,elsOf_elsA,true_and,and_self,if_true]
theorem RowE.rdC {chs:List (List Nat)} (h:RowE lo 1 v H s' (rowsN chs) chs.length):(∀k s,(rdC v k).run H s=(k chs).run H s)∧∃l,∀k s,(rdC v k).runL H s=addRd l ((k chs).runL H s):=by
 rcases h with⟨h0,_,rfl⟩ |⟨nm,ver,h0,rfl,hH,_,_⟩
 ·obtain rfl:=List.length_eq_zero_iff.1 h0
  exact⟨fun k s=>rfl,[],fun k s=>(addRd_nil _).symm⟩
 ·refine⟨fun k s=>rdC_sl hH k,[nm],fun k s=>?_⟩
  have e:(rowsN chs).take chs.length=rowsN chs:=List.take_of_length_le (by rw[rowsN_len];exact Nat.le_refl _)
  unfold Go.Proofs.Ytdcomhdadnhpnaa.rdC
  rw[runL_get hH]
  simp only[List.drop_zero,e,rowsN_len,true_and,and_self,if_true,rdRows_data]
theorem rdT_rows {v1 v2:AV} {recs:List (Int×Int)} {chs:List (List Nat)} {lo2:Nat} (h1:RowE lo 2 v1 H s' (elsA recs) recs.length) (h2:RowE lo2 1 v2 H s' (rowsN chs) chs.length):
  (∀k s,(rdT (.agg [v1,v2]) k).run H s=(k recs chs).run H s)∧∃l,∀k s,(rdT (.agg [v1,v2]) k).runL H s=addRd l ((k recs chs).runL H s):=by
 obtain⟨a1,l1,a2⟩:=h1.rdE2
 obtain⟨b1,l2,b2⟩:=h2.rdC
 exact⟨fun k s=>by simp only[rdT];rw[a1,b1],l1++l2,fun k s=>by simp only[rdT];rw[a2,b2,addRd_app]⟩
end
end Go.Proofs.Ytdcomhdadnhpnaa
end
