import Derived.Test.YtdcomhdadnhpnaaYZP1
import Derived.Test.YtdcomhdadnhpnaaYZP22
import Derived.Test.YtdcomhdadnhpnaaYZP15
set_option linter.all false
namespace Go.Proofs.Ytdcomhdadnhpnaa
theorem recsT_at {l:List Int} {r:Nat} (h:r<(recsT l).length):(recsT l)[r]=elm l r:=by
 have hrl:(recsT l).length=tabN l:=recsF_len l _
 have:=recsT_get (l:=l) (r:=r) (by omega)
 rwa[List.getD_eq_getElem?_getD,List.getElem?_eq_getElem h,Option.getD_some]at this
theorem recsT_nodup {l:List Int} (hV:ValidL l):(recsT l).Nodup:=by
 unfold List.Nodup
 refine List.pairwise_iff_getElem.2 (fun i j hi hj hij e=>?_)
 have g:=tab_g hV
 have hrl:(recsT l).length=tabN l:=recsF_len l _
 rw[recsT_at hi,recsT_at hj]at e
 simp only[elm,Prod.mk.injEq]at e
 have:=g.dif i (by omega) j (by omega) e.1 e.2
 omega
theorem sub_rev {A B:List (Int×Int)} (hA:A.Nodup) (hl:B.length≤A.length) (h:∀a∈A,a∈B):∀b∈B,b∈A:=fun b hb=>
 Classical.byContradiction fun hno=>by
  have:=sub_len (A:=b::A) (B:=B) (List.nodup_cons.2 ⟨hno,hA⟩) (fun a ha=>by
   rcases List.mem_cons.1 ha with rfl |ha
   ·exact hb
   ·exact h a ha)
  simp only[List.length_cons]at this
  omega
open Classical in
/-- what Same answers -/
noncomputable def sameF (t u:List Int):Bool×Int:=
 if ¬ValidL t∨¬ValidL u then(false,600)else(decide ((recsT t).length=(recsT u).length∧∀e∈recsT u,e∈recsT t),0)
theorem sameF_bad {t u:List Int} (h:¬ValidL t∨¬ValidL u):sameF t u=(false,600):=if_pos h
theorem sameF_no {t u:List Int} (ht:ValidL t) (hu:ValidL u) (h:¬((recsT t).length=(recsT u).length∧∀e∈recsT u,e∈recsT t)):sameF t u=(false,0):=by
 unfold sameF;rw[if_neg (by simp[ht,hu]),decide_eq_false h]
theorem sameF_yes {t u:List Int} (ht:ValidL t) (hu:ValidL u) (h:(recsT t).length=(recsT u).length∧∀e∈recsT u,e∈recsT t):sameF t u=(true,0):=by
 unfold sameF;rw[if_neg (by simp[ht,hu]),decide_eq_true h]
theorem of_mem {l:List Int} (hV:ValidL l) (e:Int×Int):0≤ofF (recsT l) (chsT l) e↔e∈recsT l:=by
 obtain⟨h,x⟩:=e
 constructor
 ·intro h0
  obtain⟨r,_,h1,h2,_⟩:=of_rec hV h0
  rw[List.getD_eq_getElem?_getD,List.getElem?_eq_getElem h1,Option.getD_some]at h2
  rw[←h2];exact List.getElem_mem h1
 ·intro hm
  obtain⟨r,hr,h2⟩:=List.mem_iff_getElem.1 hm
  rw[recsT_at hr]at h2
  simp only[elm,Prod.mk.injEq]at h2
  have hrl:(recsT l).length=tabN l:=recsF_len l _
  have g:=tab_g hV
  rw[of_has hV]
  unfold hasR
  refine List.any_eq_true.2 ⟨r,?_,by simp[h2.1,h2.2]⟩
  rw[←h2.1]
  exact(g.mem _ (bkt_lt _ (by have:=bkts8 (tabN l);omega)) r).2 ⟨by omega,rfl⟩
theorem mem_wds {l:List Int} (hV:ValidL l) {h x:Int}:(h,x)∈recsT l↔x∈wds l h:=by rw[←of_mem hV,of_wds hV]
theorem addF_tab {l:List Int} {h x:Int} (hV:ValidL l):(addF l h x).2.2=(addR l (tabN l) (tabC l) h x).2.1∧((addR l (tabN l) (tabC l) h x).2.1=0→(addF l h x).2.1=(addR l (tabN l) (tabC l) h x).2.2):=by
 unfold addF
 rw[if_neg (by simpa using hV)]
 by_cases hh:0≤h∧h≤2147483647
 ·rw[if_neg (by simpa using hh)]
  exact⟨rfl,fun h=>if_pos h⟩
 ·rw[if_pos hh]
  have e:addR l (tabN l) (tabC l) h x=(0,1,l):=by unfold addR;rw[if_pos hh]
  rw[e]
  exact⟨rfl,fun h=>absurd h (show ¬(1:Int)=0 by decide)⟩
end Go.Proofs.Ytdcomhdadnhpnaa
