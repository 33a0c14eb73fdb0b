
import Derived.Test.YtlggmjofglmjcaaDoorHullK
import Derived.Test.YtlggmjofglmjcaaDoorSeg
import Derived.Test.YtlggmjofglmjcaaDoorHelp
import Derived.Test.YtlggmjofglmjcaaDoorHas
/- The reference's tests of points on segments and in triangles: sign, between, onSegment, inTriangle. -/
set_option linter.unusedVariables false
set_option linter.unusedSimpArgs false
namespace Go.Proofs.YtlggmjofglmjcaaDoor
open Go.RowKit

def btw (a b p : Int) : Bool := decide (min a b ≤ p) && decide (p ≤ max a b)
theorem sq_nn (x : Int) : 0 ≤ x * x := by
  rcases Int.le_total 0 x with h | h
  · exact Int.mul_nonneg h h
  · have := Int.mul_nonneg (show 0 ≤ -x by omega) (show 0 ≤ -x by omega)
    rwa [Int.neg_mul_neg] at this
theorem same_sign {u v s t : Int} (hc : u * t = s * v) (hd : u * v + s * t ≤ 0) : u * v ≤ 0 := by
  refine Decidable.byContradiction fun hn => ?_
  have h1 : 0 < u * v := by omega
  have h2 : s * t < 0 := by omega
  have h3 := Int.mul_neg_of_pos_of_neg h1 h2
  have h4 : (u * v) * (s * t) = (u * t) * (u * t) := by rw [show (u * v) * (s * t) = (u * t) * (s * v) from by grind, ← hc]
  have h5 := sq_nn (u * t)
  omega
theorem btw_iff {a b p : Int} : btw a b p = true ↔ (a - p) * (b - p) ≤ 0 := by
  unfold btw
  simp only [Bool.and_eq_true, decide_eq_true_eq]
  constructor
  · intro h
    rcases Int.lt_trichotomy a p with h1 | h1 | h1
    · exact Int.mul_nonpos_of_nonpos_of_nonneg (by omega) (by omega)
    · rw [show a - p = 0 by omega, Int.zero_mul]; exact Int.le_refl 0
    · exact Int.mul_nonpos_of_nonneg_of_nonpos (by omega) (by omega)
  · intro h
    refine Decidable.byContradiction fun hn => ?_
    rcases Int.lt_or_le a p with h1 | h1
    · have := Int.mul_pos_of_neg_of_neg (show a - p < 0 by omega) (show b - p < 0 by omega)
      omega
    · have := Int.mul_pos (show 0 < a - p by omega) (show 0 < b - p by omega)
      omega
theorem onSeg_box (a b p : Pt) : onSeg a b p = (decide (trn a b p = 0) && (btw a.x b.x p.x && btw a.y b.y p.y)) := by
  unfold onSeg
  by_cases ht : trn a b p = 0
  · rw [decide_eq_true ht, Bool.true_and, Bool.true_and, Bool.eq_iff_iff, Bool.and_eq_true, btw_iff, btw_iff, decide_eq_true_eq]
    have hc : (a.x - p.x) * (b.y - p.y) = (a.y - p.y) * (b.x - p.x) := by unfold trn at ht; grind
    constructor
    · intro h
      exact ⟨same_sign hc h, same_sign (u := a.y - p.y) (v := b.y - p.y) (s := a.x - p.x) (t := b.x - p.x) hc.symm (by omega)⟩
    · intro h; omega
  · rw [decide_eq_false ht]; rfl
theorem btw_lt {a c p : Int} (h : a < c) : btw a c p = inB p a c := by unfold btw inB; rw [Int.min_eq_left (by omega), Int.max_eq_right (by omega)]
theorem btw_gt {a c p : Int} (h : c < a) : btw a c p = inB p c a := by unfold btw inB; rw [Int.min_eq_right (by omega), Int.max_eq_left (by omega)]
theorem btw_eq (a p : Int) : btw a a p = inB p a a := by unfold btw inB; rw [Int.min_self, Int.max_self]
end Go.Proofs.YtlggmjofglmjcaaDoor
/- The reference's and the program's tests of a point in a triangle. -/
set_option linter.unusedVariables false
set_option linter.unusedSimpArgs false
namespace Go.Proofs.YtlggmjofglmjcaaDoor
open Go.RowKit

theorem run_eqPt (a b c d : Int) (w : World) : (binOp .eql 57 (.agg #[.int .i64 a, .int .i64 b]) (.agg #[.int .i64 c, .int .i64 d])).run Tryd.prog w = .ok (.bool (eqP a b c d)) w := by
  by_cases h1 : a = c <;> by_cases h2 : b = d <;> simp [eqP, h1, h2, go_sem]
theorem run_nePt (a b c d : Int) (w : World) : (binOp .neq 57 (.agg #[.int .i64 a, .int .i64 b]) (.agg #[.int .i64 c, .int .i64 d])).run Tryd.prog w = .ok (.bool (!eqP a b c d)) w := by
  by_cases h1 : a = c <;> by_cases h2 : b = d <;> simp [eqP, h1, h2, go_sem]
theorem eqP_dec (a b c d : Int) : decide ((⟨a, b⟩ : Pt) = ⟨c, d⟩) = eqP a b c d := by
  rw [Bool.eq_iff_iff, eqP_iff, decide_eq_true_eq]; simp
theorem eqP_decn (a b c d : Int) : decide ((⟨a, b⟩ : Pt) ≠ ⟨c, d⟩) = !eqP a b c d := by
  rw [← eqP_dec]; simp
theorem triB_0 {a b c q : Pt} (h : trn a b c = 0) : triB a b c q = (eqP a.x a.y q.x q.y || (!eqP a.x a.y b.x b.y && onSeg a b q) || (!eqP b.x b.y c.x c.y && onSeg b c q) || (!eqP a.x a.y c.x c.y && onSeg a c q)) := by
  unfold triB
  rw [if_pos (sgn_zero h)]
  rw [← eqP_dec, ← eqP_decn, ← eqP_decn, ← eqP_decn]
theorem triB_p {a b c q : Pt} (h : 0 < trn a b c) : triB a b c q = (decide (0 ≤ sgn (trn a b q)) && decide (0 ≤ sgn (trn b c q)) && decide (0 ≤ sgn (trn c a q))) := by
  unfold triB
  rw [sgn_pos h, if_neg (by omega)]; simp
theorem triB_n {a b c q : Pt} (h : trn a b c < 0) : triB a b c q = (decide (0 ≤ -sgn (trn a b q)) && decide (0 ≤ -sgn (trn b c q)) && decide (0 ≤ -sgn (trn c a q))) := by
  unfold triB
  rw [sgn_neg h, if_neg (by omega)]; simp
end Go.Proofs.YtlggmjofglmjcaaDoor
