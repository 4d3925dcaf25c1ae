import Derived.Test.YtdcomhdadnhpnaaYAA
set_option linter.all false
namespace Go.Proofs.Ytdcomhdadnhpnaa
open Go Go.Am Go.RowKit
theorem wordsF_len (recs:List (Int×Int)) (chs:List (List Nat)):(wordsF recs chs).length=wlen recs.length:=by
 unfold wordsF;rw[wC_len,wR_len,headL_len]
theorem wordsF_le {recs:List (Int×Int)} (chs:List (List Nat)) (h:recs.length≤1000000):(wordsF recs chs).length≤1000000000:=by
 rw[wordsF_len];have:=wlen_le recs.length h;omega
theorem addF_le (l:List Int) (h x:Int):(addF l h x).2.1.length≤1000000000:=by
 by_cases hV:ValidL l
 rotate_left
 ·have hw:addF l h x=(0,[],600):=by unfold addF;rw[if_pos hV]
  rw[hw];simp
 have hn:=(wok_valid hV).n
 by_cases hh:¬(0≤h∧h≤2147483647)
 ·rw[addF_bad hV hh];simp
 replace hh:0≤h∧h≤2147483647:=Decidable.not_not.1 hh
 have hrl:(recsT l).length=tabN l:=recsF_len l _
 by_cases ho:0≤ofF (recsT l) (chsT l) (h,x)
 ·have hw:addF l h x=(0,[],6):=by
   rw[addF_ok hV hh]
   have:=(of_has hV).1 ho
   unfold addR
   rw[if_neg (by simpa using hh),if_pos this]
   rfl
  rw[hw];simp
 by_cases h1:100000≤(recsT l).length
 ·have hw:addF l h x=(0,[],3):=by
   rw[addF_ok hV hh]
   have h2:=mt (of_has hV).2 ho
   unfold addR
   rw[if_neg (by simpa using hh),if_neg h2,if_pos (by omega)]
   rfl
  rw[hw];simp
 have hA:=add_ok (x:=x) hV hh ho (by omega)
 rw[←hA.e]
 have hle:(recsT l++[(h,x)]).length≤1000000:=by simp;omega
 unfold raddX
 rw[if_neg ho,if_neg h1]
 split
 ·exact wordsF_le _ hle
 ·exact wordsF_le _ hle
theorem dropF_le (l:List Int) (h x:Int):(dropF l h x).2.1.length≤1000000000:=by
 by_cases hV:ValidL l
 rotate_left
 ·rw[dropF_600 hV];simp
 have hn:=(wok_valid hV).n
 by_cases hh:¬(0≤h∧h≤2147483647)
 ·rw[dropF_bad hV hh];simp
 replace hh:0≤h∧h≤2147483647:=Decidable.not_not.1 hh
 by_cases ho:0≤ofF (recsT l) (chsT l) (h,x)
 rotate_left
 ·rw[dropF_none hV hh (mt (of_wds hV).2 ho)];simp
 obtain⟨r,e1,_⟩:=of_rec hV ho
 rw[(drop_ok hV hh ho e1).e]
 have hle:((drpR (recsT l) r).take ((recsT l).length-1)).length≤1000000:=by rw[List.length_take];omega
 unfold rdropX
 split
 ·exact wordsF_le _ hle
 ·exact wordsF_le _ hle
theorem putF_le (l:List Int) (h x v:Int):(putF l h x v).1.length≤1000000000:=by
 by_cases hV:ValidL l
 rotate_left
 ·rw[putF_600 hV];simp
 have hn:=(wok_valid hV).n
 by_cases hh:¬(0≤h∧h≤2147483647)
 ·rw[putF_bad hV hh];simp
 replace hh:0≤h∧h≤2147483647:=Decidable.not_not.1 hh
 by_cases ho:0≤ofF (recsT l) (chsT l) (h,x)
 rotate_left
 ·rw[putF_none hV hh (mt (of_wds hV).2 ho)];simp
 by_cases hb:v≠x∧0≤ofF (recsT l) (chsT l) (h,v)
 ·rw[putF_twice hV hh ((of_wds hV).1 ho) hb.1 ((of_wds hV).1 hb.2)];simp
 obtain⟨r,e1,_⟩:=of_rec hV ho
 rw[(put_of hV hh ho (by
  rcases Decidable.em (v=x)with e |e
  ·exact .inl e
  ·exact .inr (fun k=>hb ⟨e,k⟩)) e1).1]
 exact wordsF_le _ (by rw[List.length_set];omega)
theorem rmoveF_le (l:List Int) (mv:List (Int×Int)):(rmoveF l mv).1.length≤1000000000:=by
 unfold rmoveF
 split
 ·simp
 ·rename_i hV
  have hn:=(wok_valid (by simpa using hV)).n
  unfold rmoveX
  split
  ·simp
  ·split
   ·exact wordsF_le _ (by rw[List.length_map];omega)
   ·simp
theorem stepF_le {l:List Int} (o:OpT) (h:l.length≤1000000000):(stepF l o).length≤1000000000:=by
 unfold stepF
 split
 ·unfold stepE
  split
  ·exact addF_le _ _ _
  ·split
   ·exact dropF_le _ _ _
   ·split
    ·exact putF_le _ _ _ _
    ·split
     ·exact rmoveF_le _ _
     ·exact h
 ·exact h
end Go.Proofs.Ytdcomhdadnhpnaa
