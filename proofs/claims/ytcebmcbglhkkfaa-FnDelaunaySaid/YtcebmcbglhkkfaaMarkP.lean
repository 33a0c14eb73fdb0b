
/- The helpers of the laws that mark points and look for the marks. -/
import Derived.Test.YtcebmcbglhkkfaaHelp
import Derived.Test.YtcebmcbglhkkfaaSorted
set_option linter.unusedVariables false
set_option linter.unusedSimpArgs false
namespace Go.Proofs.Ytcebmcbglhkkfaa
open Go.RowKit

/-- The cells of a row whose first n have been marked from k on. -/
def markCell (k : Int) (n : Nat) (f : Nat → Value) (j : Nat) : Value := if j < n then .int .i64 (k + j) else f j
theorem mark_zero (k : Int) (f : Nat → Value) (j : Nat) : f j = markCell k 0 f j := by unfold markCell; rw [if_neg (by omega)]
theorem mark_one {k : Int} {i : Nat} {f f' : Nat → Value} {m : Nat} (h : ∀ j, j < m → f' j = markCell k i f j) (j : Nat) (hj : j < m) :
    (if j = i then Value.int .i64 (k + i) else f' j) = markCell k (i + 1) f j := by
  by_cases h1 : j = i
  · rw [if_pos h1]; unfold markCell; rw [if_pos (by omega), h1]
  · rw [if_neg h1, h j hj]
    unfold markCell
    by_cases h2 : j < i
    · rw [if_pos h2, if_pos (by omega)]
    · rw [if_neg h2, if_neg (by omega)]
theorem PRow.but {w W : World} {base g : Nat} {A : Option Addr} {ps : List Pt} (h : PRow w base A ps) (hb : But w W g) (hg : g < base) : PRow W base A ps := fun h0 => by
  obtain ⟨g', m, f, hA, hg', hm, hr, hf⟩ := h h0
  exact ⟨g', m, f, hA, hg', hm, hr.but hb (by omega), hf⟩
/-- The first n points of the row at A have been marked from 1 on. -/
def MarkedP (w : World) (base : Nat) (A : Option Addr) (n : Nat) : Prop := 0 < n → ∃ g m f, A = some ⟨g, 0, none⟩ ∧ base ≤ g ∧ n * 2 ≤ m ∧ RowAt w g 31 m (markCell 1 (n * 2) f)
theorem MarkedP.below {w W : World} {base : Nat} {A : Option Addr} {n : Nat} (h : MarkedP w base A n) (hb : Below w.heap.size w W) : MarkedP W base A n := fun h0 => by
  obtain ⟨g', m, f, hA, hg', hm, hr⟩ := h h0
  exact ⟨g', m, f, hA, hg', hm, hr.below hb hr.lt⟩
end Go.Proofs.Ytcebmcbglhkkfaa
