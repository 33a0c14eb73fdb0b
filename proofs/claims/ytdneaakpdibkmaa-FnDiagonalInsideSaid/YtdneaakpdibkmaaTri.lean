
/- The reference's and the program's tests of a point in a triangle. -/
import Derived.Test.YtdneaakpdibkmaaWit
import Derived.Test.YtdneaakpdibkmaaHelp
import Derived.Test.YtdneaakpdibkmaaHas
set_option linter.unusedVariables false
set_option linter.unusedSimpArgs false
namespace Go.Proofs.Ytdneaakpdibkmaa
open Go.RowKit

theorem run_eqPt (a b c d : Int) (w : World) : (binOp .eql 25 (.agg #[.int .i64 a, .int .i64 b]) (.agg #[.int .i64 c, .int .i64 d])).run Try.prog w = .ok (.bool (eqP a b c d)) w := by
  by_cases h1 : a = c <;> by_cases h2 : b = d <;> simp [eqP, h1, h2, go_sem]
theorem run_nePt (a b c d : Int) (w : World) : (binOp .neq 25 (.agg #[.int .i64 a, .int .i64 b]) (.agg #[.int .i64 c, .int .i64 d])).run Try.prog w = .ok (.bool (!eqP a b c d)) w := by
  by_cases h1 : a = c <;> by_cases h2 : b = d <;> simp [eqP, h1, h2, go_sem]
theorem eqP_dec (a b c d : Int) : decide ((⟨a, b⟩ : Pt) = ⟨c, d⟩) = eqP a b c d := by
  rw [Bool.eq_iff_iff, eqP_iff, decide_eq_true_eq]; simp
theorem eqP_decn (a b c d : Int) : decide ((⟨a, b⟩ : Pt) ≠ ⟨c, d⟩) = !eqP a b c d := by
  rw [← eqP_dec]; simp
theorem triB_0 {a b c q : Pt} (h : trn a b c = 0) : triB a b c q = (eqP a.x a.y q.x q.y || (!eqP a.x a.y b.x b.y && onSeg a b q) || (!eqP b.x b.y c.x c.y && onSeg b c q) || (!eqP a.x a.y c.x c.y && onSeg a c q)) := by
  unfold triB
  rw [if_pos (sgn_zero h)]
  rw [← eqP_dec, ← eqP_decn, ← eqP_decn, ← eqP_decn]
theorem triB_p {a b c q : Pt} (h : 0 < trn a b c) : triB a b c q = (decide (0 ≤ sgn (trn a b q)) && decide (0 ≤ sgn (trn b c q)) && decide (0 ≤ sgn (trn c a q))) := by
  unfold triB
  rw [sgn_pos h, if_neg (by omega)]; simp
theorem triB_n {a b c q : Pt} (h : trn a b c < 0) : triB a b c q = (decide (0 ≤ -sgn (trn a b q)) && decide (0 ≤ -sgn (trn b c q)) && decide (0 ≤ -sgn (trn c a q))) := by
  unfold triB
  rw [sgn_neg h, if_neg (by omega)]; simp
end Go.Proofs.Ytdneaakpdibkmaa
