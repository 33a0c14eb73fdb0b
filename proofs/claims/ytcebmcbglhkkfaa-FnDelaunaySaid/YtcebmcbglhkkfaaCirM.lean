
import Derived.Test.YtcebmcbglhkkfaaHullK
import Derived.Test.YtcebmcbglhkkfaaLeaf
/- The determinant of a circle. No program in sight. -/
set_option linter.unusedVariables false
set_option linter.unusedSimpArgs false
namespace Go.Proofs.Ytcebmcbglhkkfaa
open Go.RowKit

/-! ### the determinant -/
def sqP (a d : Pt) : Int := (a.x - d.x) * (a.x - d.x) + (a.y - d.y) * (a.y - d.y)
def icD (a b c d : Pt) : Int := sqP a d * trn d b c + sqP b d * trn d c a + sqP c d * trn d a b
theorem sqP_nn (a d : Pt) : 0 ≤ sqP a d := by
  unfold sqP
  have h1 : 0 ≤ (a.x - d.x) * (a.x - d.x) := by rcases Int.le_total 0 (a.x - d.x) with h | h; exact Int.mul_nonneg h h; exact Int.mul_nonneg_of_nonpos_of_nonpos h h
  have h2 : 0 ≤ (a.y - d.y) * (a.y - d.y) := by rcases Int.le_total 0 (a.y - d.y) with h | h; exact Int.mul_nonneg h h; exact Int.mul_nonneg_of_nonpos_of_nonpos h h
  omega
theorem sqP_pos {a d : Pt} (h : a ≠ d) : 0 < sqP a d := by
  have := sqP_nn a d
  refine Decidable.byContradiction fun hn => h ?_
  have z : sqP a d = 0 := by omega
  unfold sqP at z
  have h1 : 0 ≤ (a.x - d.x) * (a.x - d.x) := by rcases Int.le_total 0 (a.x - d.x) with h | h; exact Int.mul_nonneg h h; exact Int.mul_nonneg_of_nonpos_of_nonpos h h
  have h2 : 0 ≤ (a.y - d.y) * (a.y - d.y) := by rcases Int.le_total 0 (a.y - d.y) with h | h; exact Int.mul_nonneg h h; exact Int.mul_nonneg_of_nonpos_of_nonpos h h
  have e1 : (a.x - d.x) * (a.x - d.x) = 0 := by omega
  have e2 : (a.y - d.y) * (a.y - d.y) = 0 := by omega
  exact pt_eq (by rcases Int.mul_eq_zero.1 e1 with e | e <;> omega) (by rcases Int.mul_eq_zero.1 e2 with e | e <;> omega)
theorem ic_rot (a b c d : Pt) : icD b c a d = icD a b c d := by unfold icD; omega
theorem trn_split (a b c d : Pt) : trn a b c = trn d a b + trn d b c + trn d c a := by unfold trn; grind
theorem ic_k1 (a b c d : Pt) : icD a b c d * trn d b c = -(trn d c a * trn d a b * sqP b c) + trn a b c * (trn d c a * sqP b d + trn d a b * sqP c d) := by unfold icD sqP trn; grind
theorem ic_k2 (a b c d : Pt) : icD a b c d * trn d c a = -(trn d b c * trn d a b * sqP a c) + trn a b c * (trn d b c * sqP a d + trn d a b * sqP c d) := by unfold icD sqP trn; grind
theorem ic_pow (a b c d q : Pt) : trn b a d * icD a b c q - trn a b c * icD b a d q = -(icD a b c d * trn a b q) := by unfold icD sqP trn; grind
theorem bary3 (x y z u v q : Pt) : trn x y z * trn u v q = trn y z q * trn u v x + trn z x q * trn u v y + trn x y q * trn u v z := by unfold trn; grind
theorem ic_neg {S D B G A U V W : Int} (hk : D * B = -(G * A * U) + S * (G * V + A * W)) (hS : 0 < S) (hA : A < 0) (hG : G ≤ 0) (hB : 0 < B) (hU : 0 ≤ U) (hV : 0 ≤ V) (hW : 0 ≤ W) : D ≤ 0 ∧ (0 < W → D < 0) := by
  have h1 : 0 ≤ G * A := Int.mul_nonneg_of_nonpos_of_nonpos hG (Int.le_of_lt hA)
  have h2 : 0 ≤ G * A * U := Int.mul_nonneg h1 hU
  have h3 : G * V ≤ 0 := Int.mul_nonpos_of_nonpos_of_nonneg hG hV
  have h4 : A * W ≤ 0 := Int.mul_nonpos_of_nonpos_of_nonneg (Int.le_of_lt hA) hW
  have h5 : S * (G * V + A * W) ≤ 0 := Int.mul_nonpos_of_nonneg_of_nonpos (Int.le_of_lt hS) (by omega)
  constructor
  · refine Decidable.byContradiction fun hn => ?_
    have := Int.mul_pos (show 0 < D by omega) hB
    omega
  · intro hw
    have h6 : A * W < 0 := Int.mul_neg_of_neg_of_pos hA hw
    have h7 : S * (G * V + A * W) < 0 := Int.mul_neg_of_pos_of_neg hS (by omega)
    refine Decidable.byContradiction fun hn => ?_
    have := Int.mul_nonneg (show 0 ≤ D by omega) (Int.le_of_lt hB)
    omega
/-- A point beyond a side and inside the circle: it sees the two other sides from inside. -/
theorem ic_conv {a b c d : Pt} (hS : 0 < trn a b c) (hA : trn d a b < 0) (hD : 0 < icD a b c d ∨ (icD a b c d = 0 ∧ c ≠ d)) : 0 < trn d c a ∧ 0 < trn d b c := by
  have sp := trn_split a b c d
  have hW : icD a b c d = 0 → 0 < sqP c d := fun h => by rcases hD with h' | ⟨_, h'⟩; omega; exact sqP_pos h'
  constructor
  · refine Decidable.byContradiction fun hn => ?_
    have := ic_neg (ic_k1 a b c d) hS hA (by omega) (by omega) (sqP_nn _ _) (sqP_nn _ _) (sqP_nn _ _)
    rcases hD with h | ⟨h, _⟩
    · omega
    · have := this.2 (hW h); omega
  · refine Decidable.byContradiction fun hn => ?_
    have := ic_neg (ic_k2 a b c d) hS hA (by omega) (by omega) (sqP_nn _ _) (sqP_nn _ _) (sqP_nn _ _)
    rcases hD with h | ⟨h, _⟩
    · omega
    · have := this.2 (hW h); omega
end Go.Proofs.Ytcebmcbglhkkfaa
