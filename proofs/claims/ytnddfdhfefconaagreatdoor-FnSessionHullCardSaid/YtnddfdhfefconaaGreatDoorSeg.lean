
/- Distances of points from segments: contracts of the program's and the reference's functions. -/
import Derived.Test.YtnddfdhfefconaaGreatDoorFunc
set_option linter.unusedVariables false
set_option linter.unusedSimpArgs false
namespace Go.Proofs.YtnddfdhfefconaaGreatDoor
open Go.RowKit

/-- (b - a) times (c - a), as the inner product. -/
def inn (a b c : Pt) : Int := (b.x - a.x) * (c.x - a.x) + (b.y - a.y) * (c.y - a.y)
/-- The squared distance of p from the segment a b, numerator and denominator. -/
def devN (a b p : Pt) : Int := if inn a b p ≤ 0 then dst a p else if inn b a p ≤ 0 then dst b p else trn a b p * trn a b p
def devD (a b p : Pt) : Int := if inn a b p ≤ 0 then 1 else if inn b a p ≤ 0 then 1 else dst a b
theorem devN_1 {a b p : Pt} (h : inn a b p ≤ 0) : devN a b p = dst a p := if_pos h
theorem devD_1 {a b p : Pt} (h : inn a b p ≤ 0) : devD a b p = 1 := if_pos h
theorem devN_2 {a b p : Pt} (h : ¬ inn a b p ≤ 0) (h2 : inn b a p ≤ 0) : devN a b p = dst b p := (if_neg h).trans (if_pos h2)
theorem devD_2 {a b p : Pt} (h : ¬ inn a b p ≤ 0) (h2 : inn b a p ≤ 0) : devD a b p = 1 := (if_neg h).trans (if_pos h2)
theorem devN_3 {a b p : Pt} (h : ¬ inn a b p ≤ 0) (h2 : ¬ inn b a p ≤ 0) : devN a b p = trn a b p * trn a b p := (if_neg h).trans (if_neg h2)
theorem devD_3 {a b p : Pt} (h : ¬ inn a b p ≤ 0) (h2 : ¬ inn b a p ≤ 0) : devD a b p = dst a b := (if_neg h).trans (if_neg h2)
theorem inn_flip (a b c d p q : Int) : (a - c) * (p - c) + (b - d) * (q - d) = -((c - a) * (p - c) + (d - b) * (q - d)) := by
  have h1 : (a - c) * (p - c) = -((c - a) * (p - c)) := by rw [← Int.neg_mul]; congr 1; omega
  have h2 : (b - d) * (q - d) = -((d - b) * (q - d)) := by rw [← Int.neg_mul]; congr 1; omega
  omega
theorem sub_bd {a b M N : Int} (ha : -M ≤ a ∧ a ≤ M) (hb : -N ≤ b ∧ b ≤ N) : -(M + N) ≤ a - b ∧ a - b ≤ M + N := by omega

set_option maxHeartbeats 400000 in
theorem sdot_any (a b c d e f : Int) (w : World) (ha : -100000 ≤ a ∧ a ≤ 100000) (hb : -100000 ≤ b ∧ b ≤ 100000) (hc : -100000 ≤ c ∧ c ≤ 100000) (hd : -100000 ≤ d ∧ d ≤ 100000) (he : -100000 ≤ e ∧ e ≤ 100000) (hf : -100000 ≤ f ∧ f ≤ 100000) :
    Calls Tryz.prog 165 #[.agg #[.int .i64 a, .int .i64 b], .agg #[.int .i64 c, .int .i64 d], .agg #[.int .i64 e, .int .i64 f]] w fun r w' => r = .returned (.int .i64 ((c - a) * (e - a) + (d - b) * (f - b))) ∧ ∃ n, w' = ext w n := by
  have m1 := mul_bd (sub_bd hc ha) (sub_bd he ha)
  have m2 := mul_bd (sub_bd hd hb) (sub_bd hf hb)
  go_enter Tryz.func165, Tryz.ntmps165
  go_wp2
  go_ret
  exact ⟨rfl, (ext_mk (by (repeat' (first | (with_reducible first | exact Below.refl _ _ | assumption | refine below_ext _ ?_ ?_ | refine Below.alloc ?_ ?_ _ | refine Below.drew ?_ | refine below_drewN ?_ _ | refine le_drewN _ ?_ | refine Below.setCell ?_ ?_ _ | exact Nat.le_refl _ | refine le_ext _ ?_ | refine le_alloc _ ?_ | refine le_setCell _ _ ?_ | refine le_drew ?_) | omega | (simp; done) | (simp; omega)))))⟩
set_option maxHeartbeats 400000 in
theorem scross_any (a b c d e f : Int) (w : World) (ha : -100000 ≤ a ∧ a ≤ 100000) (hb : -100000 ≤ b ∧ b ≤ 100000) (hc : -100000 ≤ c ∧ c ≤ 100000) (hd : -100000 ≤ d ∧ d ≤ 100000) (he : -100000 ≤ e ∧ e ≤ 100000) (hf : -100000 ≤ f ∧ f ≤ 100000) :
    Calls Tryz.prog 164 #[.agg #[.int .i64 a, .int .i64 b], .agg #[.int .i64 c, .int .i64 d], .agg #[.int .i64 e, .int .i64 f]] w fun r w' => r = .returned (.int .i64 ((c - a) * (f - b) - (d - b) * (e - a))) ∧ ∃ n, w' = ext w n := by
  have m1 := mul_bd (sub_bd hc ha) (sub_bd hf hb)
  have m2 := mul_bd (sub_bd hd hb) (sub_bd he ha)
  go_enter Tryz.func164, Tryz.ntmps164
  go_wp2
  go_ret
  exact ⟨rfl, (ext_mk (by (repeat' (first | (with_reducible first | exact Below.refl _ _ | assumption | refine below_ext _ ?_ ?_ | refine Below.alloc ?_ ?_ _ | refine Below.drew ?_ | refine below_drewN ?_ _ | refine le_drewN _ ?_ | refine Below.setCell ?_ ?_ _ | exact Nat.le_refl _ | refine le_ext _ ?_ | refine le_alloc _ ?_ | refine le_setCell _ _ ?_ | refine le_drew ?_) | omega | (simp; done) | (simp; omega)))))⟩
theorem sq_flip (a b : Int) : (a - b) * (a - b) = (b - a) * (b - a) := by
  have : a - b = -(b - a) := by omega
  rw [this, Int.neg_mul_neg]
set_option maxHeartbeats 400000 in
theorem ssquare_any (a b c d : Int) (w : World) (ha : -100000 ≤ a ∧ a ≤ 100000) (hb : -100000 ≤ b ∧ b ≤ 100000) (hc : -100000 ≤ c ∧ c ≤ 100000) (hd : -100000 ≤ d ∧ d ≤ 100000) :
    Calls Tryz.prog 64 #[.agg #[.int .i64 a, .int .i64 b], .agg #[.int .i64 c, .int .i64 d]] w fun r w' => r = .returned (.int .i64 ((c - a) * (c - a) + (d - b) * (d - b))) ∧ ∃ n, w' = ext w n := by
  have m1 := mul_bd (sub_bd ha hc) (sub_bd ha hc)
  have m2 := mul_bd (sub_bd hb hd) (sub_bd hb hd)
  go_enter Tryz.func64, Tryz.ntmps64
  go_wp2
  go_ret
  exact ⟨ret_int (by rw [sq_flip a c, sq_flip b d]), (ext_mk (by (repeat' (first | (with_reducible first | exact Below.refl _ _ | assumption | refine below_ext _ ?_ ?_ | refine Below.alloc ?_ ?_ _ | refine Below.drew ?_ | refine below_drewN ?_ _ | refine le_drewN _ ?_ | refine Below.setCell ?_ ?_ _ | exact Nat.le_refl _ | refine le_ext _ ?_ | refine le_alloc _ ?_ | refine le_setCell _ _ ?_ | refine le_drew ?_) | omega | (simp; done) | (simp; omega)))))⟩
def devAtN (ps : List Pt) (i j k : Nat) : Int := devN (gp ps i) (gp ps j) (gp ps k)
def devAtD (ps : List Pt) (i j k : Nat) : Int := devD (gp ps i) (gp ps j) (gp ps k)
end Go.Proofs.YtnddfdhfefconaaGreatDoor