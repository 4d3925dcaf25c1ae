import Derived.Test.YtdcomhdadnhpnaaYZP5
set_option linter.all false
namespace Go.Proofs.Ytdcomhdadnhpnaa
theorem fresh_words:wordsF emptyR emptyC=freshL:=by
 have h:=wordsF_eq freshL_head freshL_g (recs:=emptyR) rfl (fun r hr=>absurd hr (by omega))
 rw[←h];rfl
theorem freshL_le:freshL.length≤1000000000:=by rw[freshL_head.len];decide
theorem addF_valid {l:List Int} {h x:Int} (hV:ValidL l) (h0:(addF l h x).2.2=0):ValidL (addF l h x).2.1:=by
 by_cases hn:tabN l<100000
 ·obtain⟨h1,h2⟩:=addF_zero hV hn h0
  exact(addF_new hV h1 h2 hn).2.1
 ·exfalso
  by_cases hh:okH h
  ·rw[addF_ok hV hh]at h0
   unfold addR at h0
   rw[if_neg (by simpa[okH]using hh)]at h0
   split at h0
   ·simp at h0
   ·have:=(tab_g hV).n1
    rw[if_pos (by omega)]at h0;simp at h0
  ·rw[addF_bad hV hh]at h0;simp at h0
end Go.Proofs.Ytdcomhdadnhpnaa
