
/- Contracts of the small functions on numbers and points. -/
import Derived.Test.YtnddfdhfefconaaGreatDoorRows
import Derived.Test.YtnddfdhfefconaaGreatDoorBase
set_option linter.unusedVariables false
set_option linter.unusedSimpArgs false
namespace Go.Proofs.YtnddfdhfefconaaGreatDoor
open Go.RowKit

def inB (n a b : Int) : Bool := decide (a ≤ n) && decide (n ≤ b)
def vP (x y : Int) : Bool := inB x (-1000) 1000 && inB y (-1000) 1000
theorem inB_iff {n a b : Int} : inB n a b = true ↔ a ≤ n ∧ n ≤ b := by simp [inB]
theorem vP_iff {x y : Int} : vP x y = true ↔ -1000 ≤ x ∧ x ≤ 1000 ∧ -1000 ≤ y ∧ y ≤ 1000 := by simp [vP, inB]; omega
def Pt.ok (p : Pt) : Bool := vP p.x p.y

set_option maxHeartbeats 400000 in
theorem within_any (a b c : Int) (w : World) : Calls Tryz.prog 73 #[.int .i64 a, .int .i64 b, .int .i64 c] w fun e w' => e = .returned (.bool (inB a b c)) ∧ w = w' := by
  go_enter Tryz.func73, Tryz.ntmps73
  go_wp2
  all_goals
    go_ret
    exact ⟨ret_bool (by simp [inB] <;> omega), rfl⟩
set_option maxHeartbeats 400000 in
theorem inRange_any (a b c : Int) (w : World) : Calls Tryz.prog 81 #[.int .i64 a, .int .i64 b, .int .i64 c] w fun e w' => e = .returned (.bool (inB a b c)) ∧ w = w' := by
  go_enter Tryz.func81, Tryz.ntmps81
  go_wp2
  all_goals
    go_ret
    exact ⟨ret_bool (by simp [inB] <;> omega), rfl⟩
set_option maxHeartbeats 400000 in
theorem svalid_any (x y : Int) (w : World) : Calls Tryz.prog 46 #[.agg #[.int .i64 x, .int .i64 y]] w fun e w' => e = .returned (.bool (vP x y)) ∧ ∃ n, w' = ext w n := by
  cases h1 : inB x (-1000) 1000 <;> (cases h2 : inB y (-1000) 1000)
  all_goals
    go_enter Tryz.func46, Tryz.ntmps46
    go_wp2_with (go_at_call 81; refine (inRange_any _ _ _ _).mono ?_; rintro e w' ⟨rfl, rfl⟩)
    go_returns
    exact ⟨ret_bool (by simp [vP, h1, h2]), (ext_mk (by (repeat' (first | (with_reducible first | exact Below.refl _ _ | assumption | refine below_ext _ ?_ ?_ | refine Below.alloc ?_ ?_ _ | refine Below.drew ?_ | refine below_drewN ?_ _ | refine le_drewN _ ?_ | refine Below.setCell ?_ ?_ _ | exact Nat.le_refl _ | refine le_ext _ ?_ | refine le_alloc _ ?_ | refine le_setCell _ _ ?_ | refine le_drew ?_) | omega | (simp; done) | (simp; omega)))))⟩
set_option maxHeartbeats 400000 in
theorem valid_any (x y : Int) (w : World) : Calls Tryz.prog 78 #[.agg #[.int .i64 x, .int .i64 y]] w fun e w' => e = .returned (.bool (vP x y)) ∧ ∃ n, w' = ext w n := by
  cases h1 : inB x (-1000) 1000 <;> (cases h2 : inB y (-1000) 1000)
  all_goals
    go_enter Tryz.func78, Tryz.ntmps78
    go_wp2_with (go_at_call 73; refine (within_any _ _ _ _).mono ?_; rintro e w' ⟨rfl, rfl⟩)
    go_returns
    exact ⟨ret_bool (by simp [vP, h1, h2]), (ext_mk (by (repeat' (first | (with_reducible first | exact Below.refl _ _ | assumption | refine below_ext _ ?_ ?_ | refine Below.alloc ?_ ?_ _ | refine Below.drew ?_ | refine below_drewN ?_ _ | refine le_drewN _ ?_ | refine Below.setCell ?_ ?_ _ | exact Nat.le_refl _ | refine le_ext _ ?_ | refine le_alloc _ ?_ | refine le_setCell _ _ ?_ | refine le_drew ?_) | omega | (simp; done) | (simp; omega)))))⟩
set_option maxHeartbeats 400000 in
theorem minus_any (a b c d : Int) (w : World) (ha : -100000 ≤ a ∧ a ≤ 100000) (hb : -100000 ≤ b ∧ b ≤ 100000) (hc : -100000 ≤ c ∧ c ≤ 100000) (hd : -100000 ≤ d ∧ d ≤ 100000) :
    Calls Tryz.prog 161 #[.agg #[.int .i64 a, .int .i64 b], .agg #[.int .i64 c, .int .i64 d]] w fun e w' => e = .returned (.agg #[.int .i64 (a - c), .int .i64 (b - d)]) ∧ ∃ n, w' = ext w n := by
  go_enter Tryz.func161, Tryz.ntmps161
  go_wp2
  go_returns
  exact ⟨rfl, (ext_mk (by (repeat' (first | (with_reducible first | exact Below.refl _ _ | assumption | refine below_ext _ ?_ ?_ | refine Below.alloc ?_ ?_ _ | refine Below.drew ?_ | refine below_drewN ?_ _ | refine le_drewN _ ?_ | refine Below.setCell ?_ ?_ _ | exact Nat.le_refl _ | refine le_ext _ ?_ | refine le_alloc _ ?_ | refine le_setCell _ _ ?_ | refine le_drew ?_) | omega | (simp; done) | (simp; omega)))))⟩
set_option maxHeartbeats 400000 in
theorem dot_any (a b c d : Int) (w : World) (ha : -200000 ≤ a ∧ a ≤ 200000) (hb : -200000 ≤ b ∧ b ≤ 200000) (hc : -200000 ≤ c ∧ c ≤ 200000) (hd : -200000 ≤ d ∧ d ≤ 200000) :
    Calls Tryz.prog 211 #[.agg #[.int .i64 a, .int .i64 b], .agg #[.int .i64 c, .int .i64 d]] w fun e w' => e = .returned (.int .i64 (a * c + b * d)) ∧ ∃ n, w' = ext w n := by
  have h1 := mul_bd ha hc
  have h2 := mul_bd hb hd
  go_enter Tryz.func211, Tryz.ntmps211
  go_wp2
  go_returns
  exact ⟨rfl, (ext_mk (by (repeat' (first | (with_reducible first | exact Below.refl _ _ | assumption | refine below_ext _ ?_ ?_ | refine Below.alloc ?_ ?_ _ | refine Below.drew ?_ | refine below_drewN ?_ _ | refine le_drewN _ ?_ | refine Below.setCell ?_ ?_ _ | exact Nat.le_refl _ | refine le_ext _ ?_ | refine le_alloc _ ?_ | refine le_setCell _ _ ?_ | refine le_drew ?_) | omega | (simp; done) | (simp; omega)))))⟩
set_option maxHeartbeats 400000 in
theorem cross_any (a b c d : Int) (w : World) (ha : -200000 ≤ a ∧ a ≤ 200000) (hb : -200000 ≤ b ∧ b ≤ 200000) (hc : -200000 ≤ c ∧ c ≤ 200000) (hd : -200000 ≤ d ∧ d ≤ 200000) :
    Calls Tryz.prog 162 #[.agg #[.int .i64 a, .int .i64 b], .agg #[.int .i64 c, .int .i64 d]] w fun e w' => e = .returned (.int .i64 (a * d - b * c)) ∧ ∃ n, w' = ext w n := by
  have h1 := mul_bd ha hd
  have h2 := mul_bd hb hc
  go_enter Tryz.func162, Tryz.ntmps162
  go_wp2
  go_returns
  exact ⟨rfl, (ext_mk (by (repeat' (first | (with_reducible first | exact Below.refl _ _ | assumption | refine below_ext _ ?_ ?_ | refine Below.alloc ?_ ?_ _ | refine Below.drew ?_ | refine below_drewN ?_ _ | refine le_drewN _ ?_ | refine Below.setCell ?_ ?_ _ | exact Nat.le_refl _ | refine le_ext _ ?_ | refine le_alloc _ ?_ | refine le_setCell _ _ ?_ | refine le_drew ?_) | omega | (simp; done) | (simp; omega)))))⟩
def trn (a b c : Pt) : Int := (b.x - a.x) * (c.y - a.y) - (b.y - a.y) * (c.x - a.x)
def dst (a b : Pt) : Int := (b.x - a.x) * (b.x - a.x) + (b.y - a.y) * (b.y - a.y)
/-- Point p lies on the segment from a to b. -/
def onSeg (a b p : Pt) : Bool := decide (trn a b p = 0) && decide ((a.x - p.x) * (b.x - p.x) + (a.y - p.y) * (b.y - p.y) ≤ 0)
def sgn (n : Int) : Int := if n < 0 then -1 else if n = 0 then 0 else 1
theorem sgn_neg {n : Int} (h : n < 0) : sgn n = -1 := if_pos h
theorem sgn_zero {n : Int} (h : n = 0) : sgn n = 0 := by subst h; rfl
theorem sgn_pos {n : Int} (h : 0 < n) : sgn n = 1 := by unfold sgn; rw [if_neg (by omega), if_neg (by omega)]
theorem sgn_bd (n : Int) : -1 ≤ sgn n ∧ sgn n ≤ 1 := by unfold sgn; split <;> (try split) <;> omega
set_option maxHeartbeats 400000 in
theorem turn_any (a b c d e f : Int) (w : World) (ha : -100000 ≤ a ∧ a ≤ 100000) (hb : -100000 ≤ b ∧ b ≤ 100000) (hc : -100000 ≤ c ∧ c ≤ 100000) (hd : -100000 ≤ d ∧ d ≤ 100000) (he : -100000 ≤ e ∧ e ≤ 100000) (hf : -100000 ≤ f ∧ f ≤ 100000) :
    Calls Tryz.prog 107 #[.agg #[.int .i64 a, .int .i64 b], .agg #[.int .i64 c, .int .i64 d], .agg #[.int .i64 e, .int .i64 f]] w fun r w' => r = .returned (.int .i64 ((c - a) * (f - b) - (d - b) * (e - a))) ∧ ∃ n, w' = ext w n := by
  go_enter Tryz.func107, Tryz.ntmps107
  go_wp2
  refine wp_region_ext (by kernel_rfl) (by kernel_rfl) ?_
  repeat (go_big_quiet_step ((first | (go_at_call 161; exact Calls.in_ext (minus_any _ _ _ _ _ (by omega) (by omega) (by omega) (by omega))) | (go_at_call 162; exact Calls.in_ext (cross_any _ _ _ _ _ (by omega) (by omega) (by omega) (by omega))))))
  refine wpQuiet_nil ?_
  rintro _ hnq
  have hzq := ext_sz hnq
  obtain ⟨nq, rfl⟩ := hnq
  (try simp at hzq)
  go_wp2
  go_returns
  exact ⟨rfl, (ext_mk (by (repeat' (first | (with_reducible first | exact Below.refl _ _ | assumption | refine below_ext _ ?_ ?_ | refine Below.alloc ?_ ?_ _ | refine Below.drew ?_ | refine below_drewN ?_ _ | refine le_drewN _ ?_ | refine Below.setCell ?_ ?_ _ | exact Nat.le_refl _ | refine le_ext _ ?_ | refine le_alloc _ ?_ | refine le_setCell _ _ ?_ | refine le_drew ?_) | omega | (simp; done) | (simp; omega)))))⟩
set_option maxHeartbeats 400000 in
theorem far_any (a b c d : Int) (w : World) (ha : -100000 ≤ a ∧ a ≤ 100000) (hb : -100000 ≤ b ∧ b ≤ 100000) (hc : -100000 ≤ c ∧ c ≤ 100000) (hd : -100000 ≤ d ∧ d ≤ 100000) :
    Calls Tryz.prog 188 #[.agg #[.int .i64 a, .int .i64 b], .agg #[.int .i64 c, .int .i64 d]] w fun r w' => r = .returned (.int .i64 ((c - a) * (c - a) + (d - b) * (d - b))) ∧ ∃ n, w' = ext w n := by
  go_enter Tryz.func188, Tryz.ntmps188
  go_wp2
  refine wp_region_ext (by kernel_rfl) (by kernel_rfl) ?_
  repeat (go_big_quiet_step ((first | (go_at_call 161; exact Calls.in_ext (minus_any _ _ _ _ _ (by omega) (by omega) (by omega) (by omega))) | (go_at_call 211; exact Calls.in_ext (dot_any _ _ _ _ _ (by omega) (by omega) (by omega) (by omega))))))
  refine wpQuiet_nil ?_
  rintro _ hnq
  have hzq := ext_sz hnq
  obtain ⟨nq, rfl⟩ := hnq
  (try simp at hzq)
  go_wp2
  go_returns
  exact ⟨rfl, (ext_mk (by (repeat' (first | (with_reducible first | exact Below.refl _ _ | assumption | refine below_ext _ ?_ ?_ | refine Below.alloc ?_ ?_ _ | refine Below.drew ?_ | refine below_drewN ?_ _ | refine le_drewN _ ?_ | refine Below.setCell ?_ ?_ _ | exact Nat.le_refl _ | refine le_ext _ ?_ | refine le_alloc _ ?_ | refine le_setCell _ _ ?_ | refine le_drew ?_) | omega | (simp; done) | (simp; omega)))))⟩
end Go.Proofs.YtnddfdhfefconaaGreatDoor
