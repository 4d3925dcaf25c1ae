import Derived.Test.YtdcomhdadnhpnaaYZP27
import Derived.Test.YtdcomhdadnhpnaaYZP30
import Derived.Test.YtdcomhdadnhpnaaYZP32
set_option linter.all false
namespace Go.Proofs.Ytdcomhdadnhpnaa
def toL (W:List Int) (base:Int) (k:Nat):List (Int×Int):=(List.range k).map fun i:Nat=>(W.getD i 0,base+(i:Int))
def fromL (W:List Int) (base:Int) (k:Nat):List (Int×Int):=(List.range k).map fun i:Nat=>(base+(i:Int),W.getD i 0)
theorem toL_len (W:List Int) (base:Int) (k:Nat):(toL W base k).length=k:=by simp[toL]
theorem fromL_len (W:List Int) (base:Int) (k:Nat):(fromL W base k).length=k:=by simp[fromL]
theorem toL_succ (W:List Int) (base:Int) (k:Nat):toL W base (k+1)=toL W base k++[(W.getD k 0,base+(k:Int))]:=by simp[toL,List.range_succ]
theorem fromL_succ (W:List Int) (base:Int) (k:Nat):fromL W base (k+1)=fromL W base k++[(base+(k:Int),W.getD k 0)]:=by simp[fromL,List.range_succ]
section
variable {W:List Int} {base:Int}
theorem getD_at {i:Nat} (h:i<W.length):W.getD i 0=W[i]:=by rw[List.getD_eq_getElem?_getD,List.getElem?_eq_getElem h,Option.getD_some]
theorem toL_fst:(toL W base W.length).map (·.1)=W:=by
 refine List.ext_getElem (by simp[toL]) fun i h1 h2=>?_
 simp[toL,h2]
theorem toL_asc (h:W.Pairwise (· < ·)):ascK (toL W base W.length) (toL W base W.length).length:=fun k hk hk2=>by
 rw[toL_len]at hk
 rw[List.pairwise_iff_getElem]at h
 have:=h k (k+1) (by omega) hk (by omega)
 simp only[toL,List.getElem_map,List.getElem_range]
 rw[getD_at (by omega),getD_at hk]
 exact this
theorem fromL_asc:ascK (fromL W base W.length) (fromL W base W.length).length:=fun k hk hk2=>by
 simp only[fromL,List.getElem_map,List.getElem_range]
 omega
theorem toL_get {x:Int} (h:x∈W):mget (toL W base W.length) x=some (base+((W.idxOf x:Nat):Int)):=by
 unfold mget
 rw[toL_fst,if_pos h]
 have hi:=List.idxOf_lt_length_iff.2 h
 rw[List.getElem?_eq_getElem (by rw[toL_len];exact hi)]
 simp[toL]
theorem fromL_get {i:Nat} (h:i<W.length):mget (fromL W base W.length) (base+(i:Int))=some W[i]:=by
 unfold mget
 have hf:(fromL W base W.length).map (·.1)=(List.range W.length).map fun i:Nat=>base+(i:Int):=by simp[fromL]
 have hnd:((List.range W.length).map fun i:Nat=>base+(i:Int)).Nodup:=by
  refine List.pairwise_map.2 (List.nodup_range.imp fun h e=>h (by omega))
 have hm:base+(i:Int)∈(List.range W.length).map fun i:Nat=>base+(i:Int):=List.mem_map.2 ⟨i,List.mem_range.2 h,rfl⟩
 have hix:((List.range W.length).map fun i:Nat=>base+(i:Int)).idxOf (base+(i:Int))=i:=by
  have hl:i<((List.range W.length).map fun i:Nat=>base+(i:Int)).length:=by simpa using h
  have e:((List.range W.length).map fun i:Nat=>base+(i:Int))[i]=base+(i:Int):=by simp
  have:=List.Nodup.idxOf_getElem hnd i hl
  rwa[e]at this
 rw[hf,if_pos hm,hix,List.getElem?_eq_getElem (by rw[fromL_len];exact h)]
 simp[fromL,h]
end
theorem words_law {t:List Int} (hV:ValidL t) {W:List Int} {base:Int} (hW:W.Pairwise (· < ·)) (hm:∀r,r<tabN t→ati t (recAt r+1)∈W) (hb:∀x∈W,x<base):
  ∃u,rmoveF t (toL W base W.length)=(u,0)∧u.length=t.length∧rmoveF u (fromL W base W.length)=(t,0)∧dif t u (min t.length u.length)=tabN t∧∀r,r<tabN t→base≤ati u (recAt r+1):=by
 have hrl:(recsT t).length=tabN t:=recsF_len t _
 have hrec:=(tab_g hV).rl
 have hmv:∀r,r<tabN t→mvW (toL W base W.length) t r=base+((W.idxOf (ati t (recAt r+1)):Nat):Int):=fun r hr=>by
  unfold mvW;rw[toL_get (hm r hr)];rfl
 have hix:∀r,r<tabN t→W.idxOf (ati t (recAt r+1))<W.length:=fun r hr=>List.idxOf_lt_length_iff.2 (hm r hr)
 have hnd:((recsT t).map (mvE (toL W base W.length))).Nodup:=by
  refine List.pairwise_map.2 ((recsT_nodup hV).imp_of_mem fun {a b} ha hb hne e=>?_)
  obtain⟨i,hi,rfl⟩:=List.mem_iff_getElem.1 ha
  obtain⟨j,hj,rfl⟩:=List.mem_iff_getElem.1 hb
  rw[recsT_at hi,recsT_at hj]at e hne
  rw[mvE_elm,mvE_elm,hmv i (by omega),hmv j (by omega)]at e
  simp only[Prod.mk.injEq]at e
  have h1:=List.getElem_idxOf (hix i (by omega))
  have h2:=List.getElem_idxOf (hix j (by omega))
  have e3:W.idxOf (ati t (recAt i+1))=W.idxOf (ati t (recAt j+1)):=by omega
  simp only[e3]at h1
  exact hne (by unfold elm;rw[e.1,←h1,h2])
 have hu:=rmoveF_ok hV (toL_asc hW) hnd
 obtain⟨u,hue⟩:∃u,u=chgL t (tabN t) (mvW (toL W base W.length) t):=⟨_,rfl⟩
 rw[←hue]at hu
 have hul:u.length=t.length:=by rw[hue,chgL_len]
 have hVu:ValidL u:=by
  have:=move_valid hV (toL W base W.length) (move_srt hV _ hnd)
  rwa[move_eq hV _ hnd,←hue]at this
 have hnu:tabN u=tabN t:=by rw[hue];exact tab_n ((tab_h hV).chg _)
 have hau:∀r,r<tabN t→ati u (recAt r+1)=base+((W.idxOf (ati t (recAt r+1)):Nat):Int):=fun r hr=>by
  rw[hue,chgL_at hr (by have:=hrec r hr;omega),hmv r hr]
 have hhu:∀r,ati u (recAt r)=ati t (recAt r):=fun r=>by rw[hue];exact chgL_hash r
 have hmv2:∀r,r<tabN t→mvW (fromL W base W.length) u r=ati t (recAt r+1):=fun r hr=>by
  unfold mvW
  rw[hau r hr,fromL_get (hix r hr)]
  exact List.getElem_idxOf (hix r hr)
 have hru:(recsT u).length=tabN u:=recsF_len u _
 have hback:(recsT u).map (mvE (fromL W base W.length))=recsT t:=List.ext_getElem (by rw[List.length_map];omega) fun r h1 h2=>by
  have h3:r<(recsT u).length:=by simpa using h1
  rw[List.getElem_map,recsT_at h3,recsT_at h2,mvE_elm,hmv2 r (by omega),hhu]
  rfl
 have hv:=rmoveF_ok (mv:=fromL W base W.length) hVu fromL_asc (by rw[hback];exact recsT_nodup hV)
 have hvt:chgL u (tabN u) (mvW (fromL W base W.length) u)=t:=by
  refine extA (by rw[chgL_len,hul]) fun q=>?_
  by_cases hq:∃r,r<tabN t∧q=recAt r+1
  ·obtain⟨r,hr,rfl⟩:=hq
   rw[chgL_at (by omega) (by have:=hrec r hr;omega),hmv2 r hr]
  ·have hq2:∀r,r<tabN t→q≠recAt r+1:=fun r hr e=>hq ⟨r,hr,e⟩
   rw[chgL_ne (fun r hr=>hq2 r (by omega)),hue,chgL_ne hq2]
 rw[hvt]at hv
 refine⟨u,hu,hul,hv,?_,fun r hr=>by rw[hau r hr];omega⟩
 have hmin:min t.length u.length=t.length:=by omega
 rw[hmin]
 have hS:((List.range (tabN t)).map fun r=>recAt r+1).Nodup:=List.pairwise_map.2 (List.nodup_range.imp fun h e=>h (recAt_inj (a:=1) (b:=1) e (by omega) (by omega)).1)
 refine Nat.le_antisymm ?_ ?_
 ·have:=dif_le (a:=t) (b:=u) (N:=t.length) ((List.range (tabN t)).map fun r=>recAt r+1) (fun q _ hq=>by
   rw[hue]
   exact(chgL_ne fun r hr e=>hq (List.mem_map.2 ⟨r,List.mem_range.2 hr,e.symm⟩)).symm)
  simpa using this
 ·rw[dif_eq]
  have:=sub_len (B:=(List.range t.length).filter (fun q=>!decide (ati t q=ati u q))) hS (fun q hq=>by
   obtain⟨r,hr,rfl⟩:=List.mem_map.1 hq
   have hr:=List.mem_range.1 hr
   refine List.mem_filter.2 ⟨List.mem_range.2 (by have:=hrec r hr;omega),?_⟩
   have h1:=hb _ (hm r hr)
   have h2:=hau r hr
   have hne:¬ati t (recAt r+1)=ati u (recAt r+1):=by omega
   rw[decide_eq_false hne];rfl)
  simpa using this
end Go.Proofs.Ytdcomhdadnhpnaa
