
/- Texts of fractions: both EncodeRat, both EncodeRatPoint. -/
import Derived.Test.YtnddfdhfefconaaGreatDoorNum
import Derived.Test.YtnddfdhfefconaaGreatDoorSlayT
import Derived.Lib.AppendIntMem
set_option linter.unusedVariables false
set_option linter.unusedSimpArgs false
namespace Go.Proofs.YtnddfdhfefconaaGreatDoor
open Go.RowKit

/-- The table of powers of ten lies in this world. -/
def Tab (w : World) : Prop := Lib.TabIs Tryz.prog w "internal/strconv.uint64pow10" .u64 Lib.pow10Tab
theorem Tab.to {w W : World} (h : Tab w) (hb : Below w.heap.size w W) : Tab W := tab_below h hb
theorem Tab.ext {w : World} (h : Tab w) (x : World) : Tab (ext w x) := h.to (ext_below w x)
theorem itoa_any (n : Int) (w : World) (h : -9223372036854775808 ≤ n ∧ n ≤ 9223372036854775807) (ht : Tab w) :
    Calls Tryz.prog 23 #[.int .i64 n] w fun e w' => e = .returned (.string (bS (Lib.itoa n))) ∧ ∃ x, w' = ext w x := by
  have := Any.strconv_Itoa Tryz.itoaS n h.1 h.2 w ht
  refine Calls.mono this fun e w' hh => ⟨hh.1, ?_⟩
  obtain ⟨_, k, os, rfl⟩ := hh
  exact ext_mk (Lib.below_grow _ w (Nat.le_refl _) k os)
theorem bS_nil : bS [] = ⟨#[]⟩ := rfl
/-! ### the reference's -/
end Go.Proofs.YtnddfdhfefconaaGreatDoor
