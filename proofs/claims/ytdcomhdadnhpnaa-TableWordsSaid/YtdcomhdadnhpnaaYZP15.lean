import Derived.Test.YtdcomhdadnhpnaaYZT1
import Derived.Test.YtdcomhdadnhpnaaYZA3
set_option linter.all false
section
namespace Go.Proofs.Ytdcomhdadnhpnaa
theorem dropF_bad {l:List Int} (hV:ValidL l) {h x:Int} (hh:¬okH h):dropF l h x=(0,[],1):=dropF_eq (.inr (.inl ⟨hV,hh,rfl,rfl,rfl⟩))
theorem dropF_none {l:List Int} (hV:ValidL l) {h x:Int} (hh:okH h) (hx:x∉wds l h):dropF l h x=(0,[],5):=
 dropF_eq (.inr (.inr ⟨hV,hh,tabN l,tabC l,tab_h hV,tab_g hV,.inl ⟨hasR_out.2 hx,rfl,rfl,rfl⟩⟩))
end Go.Proofs.Ytdcomhdadnhpnaa
end
section
namespace Go.Proofs.Ytdcomhdadnhpnaa
theorem sub_len {α:Type} [BEq α] [LawfulBEq α]:∀ {A B:List α},A.Nodup→(∀a∈A,a∈B)→A.length≤B.length
 | [],_,_,_=>Nat.zero_le _
 |a::A,B,hA,h=>by
  have h2:=List.nodup_cons.1 hA
  have hb:=h a (by simp)
  have:=sub_len (B:=B.erase a) h2.2 (fun x hx=>(List.mem_erase_of_ne (fun e=>h2.1 (by rw[←e];exact hx))).2 (h x (by simp[hx])))
  rw[List.length_erase_of_mem hb]at this
  have:=List.length_pos_of_mem hb
  simp only[List.length_cons]
  omega
theorem addF_zero {l:List Int} (hV:ValidL l) {h x:Int} (hn:tabN l<100000) (h0:(addF l h x).2.2=0):okH h∧x∉wds l h:=by
 by_cases hh:okH h
 ·refine⟨hh,fun hx=>?_⟩
  rw[addF_has hV hh hx]at h0
  exact absurd h0 (by decide)
 ·rw[addF_bad hV hh]at h0
  exact absurd h0 (by decide)
end Go.Proofs.Ytdcomhdadnhpnaa
end
