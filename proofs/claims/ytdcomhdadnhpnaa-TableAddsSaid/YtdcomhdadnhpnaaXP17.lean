import Derived.Test.YtdcomhdadnhpnaaXT1
import Derived.Test.YtdcomhdadnhpnaaXB6
set_option linter.all false
namespace Go.Proofs.Ytdcomhdadnhpnaa
theorem dropF_bad {l : List Int} (hV : ValidL l) {h x : Int} (hh : ¬ okH h) : dropF l h x = (0, [], 1) := dropF_eq (.inr (.inl ⟨hV, hh, rfl, rfl, rfl⟩))
theorem dropF_none {l : List Int} (hV : ValidL l) {h x : Int} (hh : okH h) (hx : x ∉ wds l h) : dropF l h x = (0, [], 5) :=
  dropF_eq (.inr (.inr ⟨hV, hh, tabN l, tabC l, tab_h hV, tab_g hV, .inl ⟨hasR_out.2 hx, rfl, rfl, rfl⟩⟩))
end Go.Proofs.Ytdcomhdadnhpnaa