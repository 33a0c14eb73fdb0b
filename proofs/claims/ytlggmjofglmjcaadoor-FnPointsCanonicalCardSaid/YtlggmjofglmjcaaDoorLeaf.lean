
/- Contracts of the small functions on numbers and points. -/
import Derived.Test.YtlggmjofglmjcaaDoorRows
import Derived.Test.YtlggmjofglmjcaaDoorBase
set_option linter.unusedVariables false
set_option linter.unusedSimpArgs false
namespace Go.Proofs.YtlggmjofglmjcaaDoor
open Go.RowKit

def inB (n a b : Int) : Bool := decide (a ≤ n) && decide (n ≤ b)
def vP (x y : Int) : Bool := inB x (-1000) 1000 && inB y (-1000) 1000
theorem inB_iff {n a b : Int} : inB n a b = true ↔ a ≤ n ∧ n ≤ b := by simp [inB]
theorem inB_no {n a b : Int} : inB n a b = false ↔ n < a ∨ b < n := by rw [← Bool.not_eq_true, inB_iff]; omega
theorem vP_iff {x y : Int} : vP x y = true ↔ -1000 ≤ x ∧ x ≤ 1000 ∧ -1000 ≤ y ∧ y ≤ 1000 := by simp [vP, inB]; omega
def Pt.ok (p : Pt) : Bool := vP p.x p.y

set_option maxHeartbeats 400000 in
theorem within_any (a b c : Int) (w : World) : Calls Tryd.prog 80 #[.int .i64 a, .int .i64 b, .int .i64 c] w fun e w' => e = .returned (.bool (inB a b c)) ∧ w = w' := by
  go_enter Tryd.func80, Tryd.ntmps80
  go_wp2
  all_goals
    go_ret
    exact ⟨ret_bool (by simp [inB] <;> omega), rfl⟩
set_option maxHeartbeats 400000 in
theorem inRange_any (a b c : Int) (w : World) : Calls Tryd.prog 57 #[.int .i64 a, .int .i64 b, .int .i64 c] w fun e w' => e = .returned (.bool (inB a b c)) ∧ w = w' := by
  go_enter Tryd.func57, Tryd.ntmps57
  go_wp2
  all_goals
    go_ret
    exact ⟨ret_bool (by simp [inB] <;> omega), rfl⟩
set_option maxHeartbeats 400000 in
theorem svalid_any (x y : Int) (w : World) : Calls Tryd.prog 62 #[.agg #[.int .i64 x, .int .i64 y]] w fun e w' => e = .returned (.bool (vP x y)) ∧ ∃ n, w' = ext w n := by
  cases h1 : inB x (-1000) 1000 <;> (cases h2 : inB y (-1000) 1000)
  all_goals
    go_enter Tryd.func62, Tryd.ntmps62
    go_wp2_with (go_at_call 57; refine (inRange_any _ _ _ _).mono ?_; rintro e w' ⟨rfl, rfl⟩)
    go_returns
    exact ⟨ret_bool (by simp [vP, h1, h2]), (ext_mk (by (repeat' (first | (with_reducible first | exact Below.refl _ _ | assumption | refine below_ext _ ?_ ?_ | refine Below.alloc ?_ ?_ _ | refine Below.drew ?_ | refine below_drewN ?_ _ | refine le_drewN _ ?_ | refine Below.setCell ?_ ?_ _ | exact Nat.le_refl _ | refine le_ext _ ?_ | refine le_alloc _ ?_ | refine le_setCell _ _ ?_ | refine le_drew ?_) | omega | (simp; done) | (simp; omega)))))⟩
set_option maxHeartbeats 400000 in
theorem valid_any (x y : Int) (w : World) : Calls Tryd.prog 84 #[.agg #[.int .i64 x, .int .i64 y]] w fun e w' => e = .returned (.bool (vP x y)) ∧ ∃ n, w' = ext w n := by
  cases h1 : inB x (-1000) 1000 <;> (cases h2 : inB y (-1000) 1000)
  all_goals
    go_enter Tryd.func84, Tryd.ntmps84
    go_wp2_with (go_at_call 80; refine (within_any _ _ _ _).mono ?_; rintro e w' ⟨rfl, rfl⟩)
    go_returns
    exact ⟨ret_bool (by simp [vP, h1, h2]), (ext_mk (by (repeat' (first | (with_reducible first | exact Below.refl _ _ | assumption | refine below_ext _ ?_ ?_ | refine Below.alloc ?_ ?_ _ | refine Below.drew ?_ | refine below_drewN ?_ _ | refine le_drewN _ ?_ | refine Below.setCell ?_ ?_ _ | exact Nat.le_refl _ | refine le_ext _ ?_ | refine le_alloc _ ?_ | refine le_setCell _ _ ?_ | refine le_drew ?_) | omega | (simp; done) | (simp; omega)))))⟩
def trn (a b c : Pt) : Int := (b.x - a.x) * (c.y - a.y) - (b.y - a.y) * (c.x - a.x)
def dst (a b : Pt) : Int := (b.x - a.x) * (b.x - a.x) + (b.y - a.y) * (b.y - a.y)
/-- Point p lies on the segment from a to b. -/
def onSeg (a b p : Pt) : Bool := decide (trn a b p = 0) && decide ((a.x - p.x) * (b.x - p.x) + (a.y - p.y) * (b.y - p.y) ≤ 0)
def sgn (n : Int) : Int := if n < 0 then -1 else if n = 0 then 0 else 1
theorem sgn_neg {n : Int} (h : n < 0) : sgn n = -1 := if_pos h
theorem sgn_zero {n : Int} (h : n = 0) : sgn n = 0 := by subst h; rfl
theorem sgn_pos {n : Int} (h : 0 < n) : sgn n = 1 := by unfold sgn; rw [if_neg (by omega), if_neg (by omega)]
theorem sgn_bd (n : Int) : -1 ≤ sgn n ∧ sgn n ≤ 1 := by unfold sgn; split <;> (try split) <;> omega
end Go.Proofs.YtlggmjofglmjcaaDoor
