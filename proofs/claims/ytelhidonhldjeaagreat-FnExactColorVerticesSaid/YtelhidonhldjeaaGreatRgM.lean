
/- A polygon's vertices counterclockwise. No program in sight. -/
import Derived.Test.YtelhidonhldjeaaGreatCanM
set_option linter.unusedVariables false
set_option linter.unusedSimpArgs false
namespace Go.Proofs.YtelhidonhldjeaaGreat
open Go.RowKit

/-- The vertices counterclockwise, from 0 on. -/
def rgI (ps : List Pt) (i : Nat) : Nat := if areaL ps < 0 then (ps.length - i) % ps.length else i
def rgTo (ps : List Pt) (k : Nat) : List Int := (List.range k).map fun i => (rgI ps i : Int)
def rgL (ps : List Pt) : List Int := rgTo ps ps.length
theorem rgTo_len (ps : List Pt) (k : Nat) : (rgTo ps k).length = k := by simp [rgTo]
theorem rgTo_succ (ps : List Pt) (k : Nat) : rgTo ps (k + 1) = rgTo ps k ++ [(rgI ps k : Int)] := by unfold rgTo; rw [List.range_succ, List.map_append]; rfl
theorem rgL_at {ps : List Pt} {i : Nat} (hi : i < ps.length) : gi (rgL ps) i = (rgI ps i : Int) := by
  unfold gi rgL rgTo
  rw [List.getD_eq_getElem?_getD, List.getElem?_map, List.getElem?_range hi]; rfl
theorem rgI_lt {ps : List Pt} {i : Nat} (hi : i < ps.length) : rgI ps i < ps.length := by
  unfold rgI; split
  · exact Nat.mod_lt _ (by omega)
  · exact hi
theorem rgI_inv {ps : List Pt} {i : Nat} (hi : i < ps.length) : rgI ps (rgI ps i) = i := by
  unfold rgI
  split
  · by_cases h0 : i = 0
    · subst h0
      rw [Nat.sub_zero, Nat.mod_self, Nat.sub_zero, Nat.mod_self]
    · rw [Nat.mod_eq_of_lt (show ps.length - i < ps.length by omega), show ps.length - (ps.length - i) = i by omega]
      exact Nat.mod_eq_of_lt hi
  · rfl
theorem rgI_inj {ps : List Pt} {i j : Nat} (hi : i < ps.length) (hj : j < ps.length) (h : rgI ps i = rgI ps j) : i = j := by
  rw [← rgI_inv hi, h, rgI_inv hj]
end Go.Proofs.YtelhidonhldjeaaGreat
