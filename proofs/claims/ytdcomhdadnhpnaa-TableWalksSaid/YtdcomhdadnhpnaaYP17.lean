import Derived.Test.YtdcomhdadnhpnaaYT1
import Derived.Test.YtdcomhdadnhpnaaYA3
set_option linter.all false
namespace Go.Proofs.Ytdcomhdadnhpnaa
def wof (L:List (Int×Int)) (h:Int):List Int:=(L.filter (fun e=>decide (e.1=h))).map (·.2)
theorem wof_cons (a:Int×Int) (L:List (Int×Int)) (h:Int):wof (a::L) h=(if a.1=h then [a.2]else [])++wof L h:=by
 unfold wof
 rw[List.filter_cons]
 by_cases e:a.1=h
 ·rw[if_pos (by simpa using e),if_pos e];rfl
 ·rw[if_neg (by simpa using e),if_neg e];rfl
theorem wof_mem {L:List (Int×Int)} {h w:Int}:w∈wof L h↔(h,w)∈L:=by
 unfold wof
 rw[List.mem_map]
 constructor
 ·rintro⟨e,he,rfl⟩
  have:=List.mem_filter.1 he
  rw[show(h,e.2)=e from Prod.ext (of_decide_eq_true this.2).symm rfl]
  exact this.1
 ·intro h2;exact⟨_,List.mem_filter.2 ⟨h2,by simp⟩,rfl⟩
theorem nd_wof:∀ {L:List (Int×Int)},(∀h,(wof L h).Nodup)→L.Nodup
 | [],_=>List.nodup_nil
 |a::L,hw=>by
  refine List.nodup_cons.2 ⟨fun hm=>?_,nd_wof (fun h=>?_)⟩
  ·have:=hw a.1
   rw[wof_cons,if_pos rfl]at this
   exact(List.nodup_cons.1 this).1 (wof_mem.2 hm)
  ·have:=hw h
   rw[wof_cons]at this
   exact(List.nodup_append.1 this).2.1
structure SI (t:List Int) (L:List (Int×Int)):Prop where
 v:ValidL t
 n:tabN t=L.length
 w:∀h,wds t h=wof L h
theorem SI.nd {t:List Int} {L:List (Int×Int)} (H:SI t L):L.Nodup:=nd_wof (fun h=>by rw[←H.w];exact wds_nodup H.v h)
theorem SI.mem {t:List Int} {L:List (Int×Int)} (H:SI t L) {h w:Int}:w∈wds t h↔(h,w)∈L:=by rw[H.w];exact wof_mem
theorem dropF_bad {l:List Int} (hV:ValidL l) {h x:Int} (hh:¬okH h):dropF l h x=(0,[],1):=dropF_eq (.inr (.inl ⟨hV,hh,rfl,rfl,rfl⟩))
theorem dropF_none {l:List Int} (hV:ValidL l) {h x:Int} (hh:okH h) (hx:x∉wds l h):dropF l h x=(0,[],5):=
 dropF_eq (.inr (.inr ⟨hV,hh,tabN l,tabC l,tab_h hV,tab_g hV,.inl ⟨hasR_out.2 hx,rfl,rfl,rfl⟩⟩))
end Go.Proofs.Ytdcomhdadnhpnaa
