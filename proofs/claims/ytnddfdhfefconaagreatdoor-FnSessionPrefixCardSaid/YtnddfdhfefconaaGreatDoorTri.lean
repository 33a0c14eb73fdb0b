
/- The program's 'has': a point on a segment, whose ends may be equal. -/
/- The reference's tests of points on segments and in triangles: sign, between, onSegment, inTriangle. -/
import Derived.Test.YtnddfdhfefconaaGreatDoorLeaf
import Derived.Test.YtnddfdhfefconaaGreatDoorHullK
import Derived.Test.YtnddfdhfefconaaGreatDoorSeg
import Derived.Test.YtnddfdhfefconaaGreatDoorHelp
set_option linter.unusedVariables false
set_option linter.unusedSimpArgs false
namespace Go.Proofs.YtnddfdhfefconaaGreatDoor
open Go.RowKit

set_option maxHeartbeats 400000 in
theorem has_any (a b c d e f : Int) (w : World) (ha : -100000 ≤ a ∧ a ≤ 100000) (hb : -100000 ≤ b ∧ b ≤ 100000) (hc : -100000 ≤ c ∧ c ≤ 100000) (hd : -100000 ≤ d ∧ d ≤ 100000) (he : -100000 ≤ e ∧ e ≤ 100000) (hf : -100000 ≤ f ∧ f ≤ 100000) :
    Calls Tryz.prog 171 #[.agg #[.int .i64 a, .int .i64 b, .int .i64 c, .int .i64 d], .agg #[.int .i64 e, .int .i64 f]] w fun r w' => r = .returned (.bool (onSeg ⟨a, b⟩ ⟨c, d⟩ ⟨e, f⟩)) ∧ ∃ n, w' = ext w n := by
  have HO : Hid (onSeg ⟨a, b⟩ ⟨c, d⟩ ⟨e, f⟩ = (decide ((c - a) * (f - b) - (d - b) * (e - a) = 0) && decide ((a - e) * (c - e) + (b - f) * (d - f) ≤ 0))) := rfl
  by_cases ht : (c - a) * (f - b) - (d - b) * (e - a) = 0
  · have htd : ((c - a) * (f - b) - (d - b) * (e - a) == 0) = true := by simpa using ht
    have HT := hide ht
    clear ht
    go_enter Tryz.func171, Tryz.ntmps171
    go_wp2
    refine wp_region_ext (by kernel_rfl) (by kernel_rfl) ?_
    repeat (go_big_quiet_step ((first | (go_at_call 107; exact Calls.in_ext (turn_any _ _ _ _ _ _ _ (by omega) (by omega) (by omega) (by omega) (by omega) (by omega))) | (go_at_call 161; exact Calls.in_ext (minus_any _ _ _ _ _ (by omega) (by omega) (by omega) (by omega))) | (go_at_call 211; exact Calls.in_ext (dot_any _ _ _ _ _ (by omega) (by omega) (by omega) (by omega))))))
    refine wpQuiet_nil ?_
    rintro _ hnq
    have hzq := ext_sz hnq
    obtain ⟨nq, rfl⟩ := hnq
    (try simp at hzq)
    go_wp2
    go_returns
    exact ⟨ret_bool (by rw [HO.out]; simp [HT.out]), (ext_mk (by (repeat' (first | (with_reducible first | exact Below.refl _ _ | assumption | refine below_ext _ ?_ ?_ | refine Below.alloc ?_ ?_ _ | refine Below.drew ?_ | refine below_drewN ?_ _ | refine le_drewN _ ?_ | refine Below.setCell ?_ ?_ _ | exact Nat.le_refl _ | refine le_ext _ ?_ | refine le_alloc _ ?_ | refine le_setCell _ _ ?_ | refine le_drew ?_) | omega | (simp; done) | (simp; omega)))))⟩
  · have htd : ((c - a) * (f - b) - (d - b) * (e - a) == 0) = false := by simpa using ht
    have HT := hide ht
    clear ht
    go_enter Tryz.func171, Tryz.ntmps171
    go_wp2
    refine wp_region_ext (by kernel_rfl) (by kernel_rfl) ?_
    repeat (go_big_quiet_step ((first | (go_at_call 107; exact Calls.in_ext (turn_any _ _ _ _ _ _ _ (by omega) (by omega) (by omega) (by omega) (by omega) (by omega))) | (go_at_call 161; exact Calls.in_ext (minus_any _ _ _ _ _ (by omega) (by omega) (by omega) (by omega))) | (go_at_call 211; exact Calls.in_ext (dot_any _ _ _ _ _ (by omega) (by omega) (by omega) (by omega))))))
    refine wpQuiet_nil ?_
    rintro _ hnq
    have hzq := ext_sz hnq
    obtain ⟨nq, rfl⟩ := hnq
    (try simp at hzq)
    go_wp2
    go_returns
    exact ⟨ret_bool (by rw [HO.out]; simp [HT.out]), (ext_mk (by (repeat' (first | (with_reducible first | exact Below.refl _ _ | assumption | refine below_ext _ ?_ ?_ | refine Below.alloc ?_ ?_ _ | refine Below.drew ?_ | refine below_drewN ?_ _ | refine le_drewN _ ?_ | refine Below.setCell ?_ ?_ _ | exact Nat.le_refl _ | refine le_ext _ ?_ | refine le_alloc _ ?_ | refine le_setCell _ _ ?_ | refine le_drew ?_) | omega | (simp; done) | (simp; omega)))))⟩
end Go.Proofs.YtnddfdhfefconaaGreatDoor
namespace Go.Proofs.YtnddfdhfefconaaGreatDoor
open Go.RowKit

def btw (a b p : Int) : Bool := decide (min a b ≤ p) && decide (p ≤ max a b)
theorem sq_nn (x : Int) : 0 ≤ x * x := by
  rcases Int.le_total 0 x with h | h
  · exact Int.mul_nonneg h h
  · have := Int.mul_nonneg (show 0 ≤ -x by omega) (show 0 ≤ -x by omega)
    rwa [Int.neg_mul_neg] at this
theorem same_sign {u v s t : Int} (hc : u * t = s * v) (hd : u * v + s * t ≤ 0) : u * v ≤ 0 := by
  refine Decidable.byContradiction fun hn => ?_
  have h1 : 0 < u * v := by omega
  have h2 : s * t < 0 := by omega
  have h3 := Int.mul_neg_of_pos_of_neg h1 h2
  have h4 : (u * v) * (s * t) = (u * t) * (u * t) := by rw [show (u * v) * (s * t) = (u * t) * (s * v) from by grind, ← hc]
  have h5 := sq_nn (u * t)
  omega
theorem btw_iff {a b p : Int} : btw a b p = true ↔ (a - p) * (b - p) ≤ 0 := by
  unfold btw
  simp only [Bool.and_eq_true, decide_eq_true_eq]
  constructor
  · intro h
    rcases Int.lt_trichotomy a p with h1 | h1 | h1
    · exact Int.mul_nonpos_of_nonpos_of_nonneg (by omega) (by omega)
    · rw [show a - p = 0 by omega, Int.zero_mul]; exact Int.le_refl 0
    · exact Int.mul_nonpos_of_nonneg_of_nonpos (by omega) (by omega)
  · intro h
    refine Decidable.byContradiction fun hn => ?_
    rcases Int.lt_or_le a p with h1 | h1
    · have := Int.mul_pos_of_neg_of_neg (show a - p < 0 by omega) (show b - p < 0 by omega)
      omega
    · have := Int.mul_pos (show 0 < a - p by omega) (show 0 < b - p by omega)
      omega
theorem onSeg_box (a b p : Pt) : onSeg a b p = (decide (trn a b p = 0) && (btw a.x b.x p.x && btw a.y b.y p.y)) := by
  unfold onSeg
  by_cases ht : trn a b p = 0
  · rw [decide_eq_true ht, Bool.true_and, Bool.true_and, Bool.eq_iff_iff, Bool.and_eq_true, btw_iff, btw_iff, decide_eq_true_eq]
    have hc : (a.x - p.x) * (b.y - p.y) = (a.y - p.y) * (b.x - p.x) := by unfold trn at ht; grind
    constructor
    · intro h
      exact ⟨same_sign hc h, same_sign (u := a.y - p.y) (v := b.y - p.y) (s := a.x - p.x) (t := b.x - p.x) hc.symm (by omega)⟩
    · intro h; omega
  · rw [decide_eq_false ht]; rfl
set_option maxHeartbeats 400000 in
theorem ssign_any (n : Int) (w : World) : Calls Tryz.prog 169 #[.int .i64 n] w fun e w' => e = .returned (.int .i64 (sgn n)) ∧ ∃ m, w' = ext w m := by
  rcases Int.lt_trichotomy n 0 with h | h | h
  · have e := hide (sgn_neg h)
    rw [e.out]
    go_enter Tryz.func169, Tryz.ntmps169
    go_wp2
    go_ret
    exact ⟨rfl, (ext_mk (by (repeat' (first | (with_reducible first | exact Below.refl _ _ | assumption | refine below_ext _ ?_ ?_ | refine Below.alloc ?_ ?_ _ | refine Below.drew ?_ | refine below_drewN ?_ _ | refine le_drewN _ ?_ | refine Below.setCell ?_ ?_ _ | exact Nat.le_refl _ | refine le_ext _ ?_ | refine le_alloc _ ?_ | refine le_setCell _ _ ?_ | refine le_drew ?_) | omega | (simp; done) | (simp; omega)))))⟩
  · subst h
    go_enter Tryz.func169, Tryz.ntmps169
    go_wp2
    go_ret
    exact ⟨rfl, (ext_mk (by (repeat' (first | (with_reducible first | exact Below.refl _ _ | assumption | refine below_ext _ ?_ ?_ | refine Below.alloc ?_ ?_ _ | refine Below.drew ?_ | refine below_drewN ?_ _ | refine le_drewN _ ?_ | refine Below.setCell ?_ ?_ _ | exact Nat.le_refl _ | refine le_ext _ ?_ | refine le_alloc _ ?_ | refine le_setCell _ _ ?_ | refine le_drew ?_) | omega | (simp; done) | (simp; omega)))))⟩
  · have e := hide (sgn_pos h)
    rw [e.out]
    go_enter Tryz.func169, Tryz.ntmps169
    go_wp2
    go_ret
    exact ⟨rfl, (ext_mk (by (repeat' (first | (with_reducible first | exact Below.refl _ _ | assumption | refine below_ext _ ?_ ?_ | refine Below.alloc ?_ ?_ _ | refine Below.drew ?_ | refine below_drewN ?_ _ | refine le_drewN _ ?_ | refine Below.setCell ?_ ?_ _ | exact Nat.le_refl _ | refine le_ext _ ?_ | refine le_alloc _ ?_ | refine le_setCell _ _ ?_ | refine le_drew ?_) | omega | (simp; done) | (simp; omega)))))⟩
theorem btw_lt {a c p : Int} (h : a < c) : btw a c p = inB p a c := by unfold btw inB; rw [Int.min_eq_left (by omega), Int.max_eq_right (by omega)]
theorem btw_gt {a c p : Int} (h : c < a) : btw a c p = inB p c a := by unfold btw inB; rw [Int.min_eq_right (by omega), Int.max_eq_left (by omega)]
theorem btw_eq (a p : Int) : btw a a p = inB p a a := by unfold btw inB; rw [Int.min_self, Int.max_self]
set_option maxHeartbeats 1000000 in
theorem sbetween_any (a b c d e f : Int) (w : World) : Calls Tryz.prog 241 #[.agg #[.int .i64 a, .int .i64 b, .int .i64 c, .int .i64 d], .agg #[.int .i64 e, .int .i64 f]] w fun r w' => r = .returned (.bool (btw a c e && btw b d f)) ∧ ∃ n, w' = ext w n := by
  rcases Int.lt_trichotomy a c with h1 | h1 | h1
  · have E1 := hide (btw_lt (p := e) h1)
    rcases Int.lt_trichotomy b d with h2 | h2 | h2
    · have E2 := hide (btw_lt (p := f) h2)
      go_enter Tryz.func241, Tryz.ntmps241
      go_wp2_with (go_at_call 81; refine (inRange_any _ _ _ _).mono ?_; rintro e w' ⟨rfl, rfl⟩)
      all_goals
        go_ret
        exact ⟨ret_bool (by rw [E1.out, E2.out]; simp [*]), (ext_mk (by (repeat' (first | (with_reducible first | exact Below.refl _ _ | assumption | refine below_ext _ ?_ ?_ | refine Below.alloc ?_ ?_ _ | refine Below.drew ?_ | refine below_drewN ?_ _ | refine le_drewN _ ?_ | refine Below.setCell ?_ ?_ _ | exact Nat.le_refl _ | refine le_ext _ ?_ | refine le_alloc _ ?_ | refine le_setCell _ _ ?_ | refine le_drew ?_) | omega | (simp; done) | (simp; omega)))))⟩
    · subst h2
      have E2 := hide (btw_eq b f)
      go_enter Tryz.func241, Tryz.ntmps241
      go_wp2_with (go_at_call 81; refine (inRange_any _ _ _ _).mono ?_; rintro e w' ⟨rfl, rfl⟩)
      all_goals
        go_ret
        exact ⟨ret_bool (by rw [E1.out, E2.out]; simp [*]), (ext_mk (by (repeat' (first | (with_reducible first | exact Below.refl _ _ | assumption | refine below_ext _ ?_ ?_ | refine Below.alloc ?_ ?_ _ | refine Below.drew ?_ | refine below_drewN ?_ _ | refine le_drewN _ ?_ | refine Below.setCell ?_ ?_ _ | exact Nat.le_refl _ | refine le_ext _ ?_ | refine le_alloc _ ?_ | refine le_setCell _ _ ?_ | refine le_drew ?_) | omega | (simp; done) | (simp; omega)))))⟩
    · have E2 := hide (btw_gt (p := f) h2)
      go_enter Tryz.func241, Tryz.ntmps241
      go_wp2_with (go_at_call 81; refine (inRange_any _ _ _ _).mono ?_; rintro e w' ⟨rfl, rfl⟩)
      all_goals
        go_ret
        exact ⟨ret_bool (by rw [E1.out, E2.out]; simp [*]), (ext_mk (by (repeat' (first | (with_reducible first | exact Below.refl _ _ | assumption | refine below_ext _ ?_ ?_ | refine Below.alloc ?_ ?_ _ | refine Below.drew ?_ | refine below_drewN ?_ _ | refine le_drewN _ ?_ | refine Below.setCell ?_ ?_ _ | exact Nat.le_refl _ | refine le_ext _ ?_ | refine le_alloc _ ?_ | refine le_setCell _ _ ?_ | refine le_drew ?_) | omega | (simp; done) | (simp; omega)))))⟩
  · subst h1
    have E1 := hide (btw_eq a e)
    rcases Int.lt_trichotomy b d with h2 | h2 | h2
    · have E2 := hide (btw_lt (p := f) h2)
      go_enter Tryz.func241, Tryz.ntmps241
      go_wp2_with (go_at_call 81; refine (inRange_any _ _ _ _).mono ?_; rintro e w' ⟨rfl, rfl⟩)
      all_goals
        go_ret
        exact ⟨ret_bool (by rw [E1.out, E2.out]; simp [*]), (ext_mk (by (repeat' (first | (with_reducible first | exact Below.refl _ _ | assumption | refine below_ext _ ?_ ?_ | refine Below.alloc ?_ ?_ _ | refine Below.drew ?_ | refine below_drewN ?_ _ | refine le_drewN _ ?_ | refine Below.setCell ?_ ?_ _ | exact Nat.le_refl _ | refine le_ext _ ?_ | refine le_alloc _ ?_ | refine le_setCell _ _ ?_ | refine le_drew ?_) | omega | (simp; done) | (simp; omega)))))⟩
    · subst h2
      have E2 := hide (btw_eq b f)
      go_enter Tryz.func241, Tryz.ntmps241
      go_wp2_with (go_at_call 81; refine (inRange_any _ _ _ _).mono ?_; rintro e w' ⟨rfl, rfl⟩)
      all_goals
        go_ret
        exact ⟨ret_bool (by rw [E1.out, E2.out]; simp [*]), (ext_mk (by (repeat' (first | (with_reducible first | exact Below.refl _ _ | assumption | refine below_ext _ ?_ ?_ | refine Below.alloc ?_ ?_ _ | refine Below.drew ?_ | refine below_drewN ?_ _ | refine le_drewN _ ?_ | refine Below.setCell ?_ ?_ _ | exact Nat.le_refl _ | refine le_ext _ ?_ | refine le_alloc _ ?_ | refine le_setCell _ _ ?_ | refine le_drew ?_) | omega | (simp; done) | (simp; omega)))))⟩
    · have E2 := hide (btw_gt (p := f) h2)
      go_enter Tryz.func241, Tryz.ntmps241
      go_wp2_with (go_at_call 81; refine (inRange_any _ _ _ _).mono ?_; rintro e w' ⟨rfl, rfl⟩)
      all_goals
        go_ret
        exact ⟨ret_bool (by rw [E1.out, E2.out]; simp [*]), (ext_mk (by (repeat' (first | (with_reducible first | exact Below.refl _ _ | assumption | refine below_ext _ ?_ ?_ | refine Below.alloc ?_ ?_ _ | refine Below.drew ?_ | refine below_drewN ?_ _ | refine le_drewN _ ?_ | refine Below.setCell ?_ ?_ _ | exact Nat.le_refl _ | refine le_ext _ ?_ | refine le_alloc _ ?_ | refine le_setCell _ _ ?_ | refine le_drew ?_) | omega | (simp; done) | (simp; omega)))))⟩
  · have E1 := hide (btw_gt (p := e) h1)
    rcases Int.lt_trichotomy b d with h2 | h2 | h2
    · have E2 := hide (btw_lt (p := f) h2)
      go_enter Tryz.func241, Tryz.ntmps241
      go_wp2_with (go_at_call 81; refine (inRange_any _ _ _ _).mono ?_; rintro e w' ⟨rfl, rfl⟩)
      all_goals
        go_ret
        exact ⟨ret_bool (by rw [E1.out, E2.out]; simp [*]), (ext_mk (by (repeat' (first | (with_reducible first | exact Below.refl _ _ | assumption | refine below_ext _ ?_ ?_ | refine Below.alloc ?_ ?_ _ | refine Below.drew ?_ | refine below_drewN ?_ _ | refine le_drewN _ ?_ | refine Below.setCell ?_ ?_ _ | exact Nat.le_refl _ | refine le_ext _ ?_ | refine le_alloc _ ?_ | refine le_setCell _ _ ?_ | refine le_drew ?_) | omega | (simp; done) | (simp; omega)))))⟩
    · subst h2
      have E2 := hide (btw_eq b f)
      go_enter Tryz.func241, Tryz.ntmps241
      go_wp2_with (go_at_call 81; refine (inRange_any _ _ _ _).mono ?_; rintro e w' ⟨rfl, rfl⟩)
      all_goals
        go_ret
        exact ⟨ret_bool (by rw [E1.out, E2.out]; simp [*]), (ext_mk (by (repeat' (first | (with_reducible first | exact Below.refl _ _ | assumption | refine below_ext _ ?_ ?_ | refine Below.alloc ?_ ?_ _ | refine Below.drew ?_ | refine below_drewN ?_ _ | refine le_drewN _ ?_ | refine Below.setCell ?_ ?_ _ | exact Nat.le_refl _ | refine le_ext _ ?_ | refine le_alloc _ ?_ | refine le_setCell _ _ ?_ | refine le_drew ?_) | omega | (simp; done) | (simp; omega)))))⟩
    · have E2 := hide (btw_gt (p := f) h2)
      go_enter Tryz.func241, Tryz.ntmps241
      go_wp2_with (go_at_call 81; refine (inRange_any _ _ _ _).mono ?_; rintro e w' ⟨rfl, rfl⟩)
      all_goals
        go_ret
        exact ⟨ret_bool (by rw [E1.out, E2.out]; simp [*]), (ext_mk (by (repeat' (first | (with_reducible first | exact Below.refl _ _ | assumption | refine below_ext _ ?_ ?_ | refine Below.alloc ?_ ?_ _ | refine Below.drew ?_ | refine below_drewN ?_ _ | refine le_drewN _ ?_ | refine Below.setCell ?_ ?_ _ | exact Nat.le_refl _ | refine le_ext _ ?_ | refine le_alloc _ ?_ | refine le_setCell _ _ ?_ | refine le_drew ?_) | omega | (simp; done) | (simp; omega)))))⟩
set_option maxHeartbeats 400000 in
theorem sonSeg_any (a b c d e f : Int) (w : World) (ha : -100000 ≤ a ∧ a ≤ 100000) (hb : -100000 ≤ b ∧ b ≤ 100000) (hc : -100000 ≤ c ∧ c ≤ 100000) (hd : -100000 ≤ d ∧ d ≤ 100000) (he : -100000 ≤ e ∧ e ≤ 100000) (hf : -100000 ≤ f ∧ f ≤ 100000) :
    Calls Tryz.prog 210 #[.agg #[.int .i64 a, .int .i64 b, .int .i64 c, .int .i64 d], .agg #[.int .i64 e, .int .i64 f]] w fun r w' => r = .returned (.bool (onSeg ⟨a, b⟩ ⟨c, d⟩ ⟨e, f⟩)) ∧ ∃ n, w' = ext w n := by
  have HO : Hid (onSeg ⟨a, b⟩ ⟨c, d⟩ ⟨e, f⟩ = (decide ((c - a) * (f - b) - (d - b) * (e - a) = 0) && (btw a c e && btw b d f))) := hide (onSeg_box _ _ _)
  by_cases ht : (c - a) * (f - b) - (d - b) * (e - a) = 0
  · have htd : ((c - a) * (f - b) - (d - b) * (e - a) == 0) = true := by simpa using ht
    have HT := hide ht
    clear ht
    go_enter Tryz.func210, Tryz.ntmps210
    go_wp2_with (first | (go_at_call 164; refine (scross_any _ _ _ _ _ _ _ (by omega) (by omega) (by omega) (by omega) (by omega) (by omega)).mono ?_; rintro e w' ⟨rfl, hw'⟩; have hzy := ext_sz hw'; obtain ⟨y, rfl⟩ := hw'; (try simp at hzy)) | (go_at_call 241; refine (sbetween_any _ _ _ _ _ _ _).mono ?_; rintro e w' ⟨rfl, hw'⟩; have hzz := ext_sz hw'; obtain ⟨z, rfl⟩ := hw'; (try simp at hzz)))
    go_returns
    exact ⟨ret_bool (by rw [HO.out]; simp [HT.out]), (ext_mk (by (repeat' (first | (with_reducible first | exact Below.refl _ _ | assumption | refine below_ext _ ?_ ?_ | refine Below.alloc ?_ ?_ _ | refine Below.drew ?_ | refine below_drewN ?_ _ | refine le_drewN _ ?_ | refine Below.setCell ?_ ?_ _ | exact Nat.le_refl _ | refine le_ext _ ?_ | refine le_alloc _ ?_ | refine le_setCell _ _ ?_ | refine le_drew ?_) | omega | (simp; done) | (simp; omega)))))⟩
  · have htd : ((c - a) * (f - b) - (d - b) * (e - a) == 0) = false := by simpa using ht
    have HT := hide ht
    clear ht
    go_enter Tryz.func210, Tryz.ntmps210
    go_wp2_with (first | (go_at_call 164; refine (scross_any _ _ _ _ _ _ _ (by omega) (by omega) (by omega) (by omega) (by omega) (by omega)).mono ?_; rintro e w' ⟨rfl, hw'⟩; have hzy := ext_sz hw'; obtain ⟨y, rfl⟩ := hw'; (try simp at hzy)) | (go_at_call 241; refine (sbetween_any _ _ _ _ _ _ _).mono ?_; rintro e w' ⟨rfl, hw'⟩; have hzz := ext_sz hw'; obtain ⟨z, rfl⟩ := hw'; (try simp at hzz)))
    go_returns
    exact ⟨ret_bool (by rw [HO.out]; simp [HT.out]), (ext_mk (by (repeat' (first | (with_reducible first | exact Below.refl _ _ | assumption | refine below_ext _ ?_ ?_ | refine Below.alloc ?_ ?_ _ | refine Below.drew ?_ | refine below_drewN ?_ _ | refine le_drewN _ ?_ | refine Below.setCell ?_ ?_ _ | exact Nat.le_refl _ | refine le_ext _ ?_ | refine le_alloc _ ?_ | refine le_setCell _ _ ?_ | refine le_drew ?_) | omega | (simp; done) | (simp; omega)))))⟩
end Go.Proofs.YtnddfdhfefconaaGreatDoor
/- The reference's and the program's tests of a point in a triangle. -/
set_option linter.unusedVariables false
set_option linter.unusedSimpArgs false
namespace Go.Proofs.YtnddfdhfefconaaGreatDoor
open Go.RowKit

theorem run_eqPt (a b c d : Int) (w : World) : (binOp .eql 41 (.agg #[.int .i64 a, .int .i64 b]) (.agg #[.int .i64 c, .int .i64 d])).run Tryz.prog w = .ok (.bool (eqP a b c d)) w := by
  by_cases h1 : a = c <;> by_cases h2 : b = d <;> simp [eqP, h1, h2, go_sem]
theorem run_nePt (a b c d : Int) (w : World) : (binOp .neq 41 (.agg #[.int .i64 a, .int .i64 b]) (.agg #[.int .i64 c, .int .i64 d])).run Tryz.prog w = .ok (.bool (!eqP a b c d)) w := by
  by_cases h1 : a = c <;> by_cases h2 : b = d <;> simp [eqP, h1, h2, go_sem]
end Go.Proofs.YtnddfdhfefconaaGreatDoor
