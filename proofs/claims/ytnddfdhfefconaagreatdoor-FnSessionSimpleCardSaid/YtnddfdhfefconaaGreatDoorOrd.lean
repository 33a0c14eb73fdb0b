

/- Comparing numbers and points. -/
import Derived.Test.YtnddfdhfefconaaGreatDoorLeaf
import Derived.Outline
import Derived.Deep.RegionHeld3
set_option linter.unusedVariables false
set_option linter.unusedSimpArgs false
namespace Go.Proofs.YtnddfdhfefconaaGreatDoor
open Go.RowKit

set_option maxHeartbeats 400000 in
theorem isNaNi_any (a : Int) (w : World) : Calls Tryz.prog 194 #[.int .i64 a] w fun e w' => e = .returned (.bool false) ∧ w = w' := by
  go_enter Tryz.func194, Tryz.ntmps194
  go_wp2
  go_ret
  exact ⟨rfl, rfl⟩
set_option maxHeartbeats 400000 in
theorem Comparei_any (a b : Int) (w : World) : Calls Tryz.prog 148 #[.int .i64 a, .int .i64 b] w fun e w' => e = .returned (.int .i64 (sgn (a - b))) ∧ w = w' := by
  rcases Int.lt_trichotomy a b with h | h | h
  · have HR := hide (sgn_neg (n := a - b) (by omega))
    go_enter Tryz.func148, Tryz.ntmps148
    go_wp2_with (go_at_call 194; refine (isNaNi_any _ _).mono ?_; rintro e w' ⟨rfl, rfl⟩)
    go_ret
    exact ⟨ret_int HR.out.symm, rfl⟩
  · have HR := hide (sgn_zero (n := a - b) (by omega))
    subst h
    go_enter Tryz.func148, Tryz.ntmps148
    go_wp2_with (go_at_call 194; refine (isNaNi_any _ _).mono ?_; rintro e w' ⟨rfl, rfl⟩)
    go_ret
    exact ⟨ret_int HR.out.symm, rfl⟩
  · have HR := hide (sgn_pos (n := a - b) (by omega))
    go_enter Tryz.func148, Tryz.ntmps148
    go_wp2_with (go_at_call 194; refine (isNaNi_any _ _).mono ?_; rintro e w' ⟨rfl, rfl⟩)
    go_ret
    exact ⟨ret_int HR.out.symm, rfl⟩
def orI (a b : Int) : Int := if a = 0 then b else a
set_option maxHeartbeats 400000 in
theorem Or_any (a b : Int) (g cap : Nat) (w : World) (h0 : w.cell? ⟨g, 0, none⟩ = some (.int .i64 a)) (h1 : w.cell? ⟨g, 1, none⟩ = some (.int .i64 b)) :
    Calls Tryz.prog 147 #[.slice (some ⟨g, 0, none⟩) 2 cap] w fun e w' => e = .returned (.int .i64 (orI a b)) ∧ w = w' := by
  by_cases ha : a = 0
  · have HR : Hid (orI a b = b) := if_pos ha
    by_cases hb : b = 0
    · subst hb ha
      go_enter Tryz.func147, Tryz.ntmps147
      go_wp2
      go_rounds 3
      all_goals (go_ret; exact ⟨ret_int HR.out.symm, rfl⟩)
    · have hb' : (b != 0) = true := by simpa using hb
      subst ha
      go_enter Tryz.func147, Tryz.ntmps147
      go_wp2
      go_rounds 3
      all_goals (go_ret; exact ⟨ret_int HR.out.symm, rfl⟩)
  · have HR : Hid (orI a b = a) := if_neg ha
    have ha' : (a != 0) = true := by simpa using ha
    go_enter Tryz.func147, Tryz.ntmps147
    go_wp2
    go_rounds 3
    all_goals (go_ret; exact ⟨ret_int HR.out.symm, rfl⟩)
set_option maxHeartbeats 400000 in
theorem comparePt_any (a b c d : Int) (w : World) : Calls Tryz.prog 105 #[.agg #[.int .i64 a, .int .i64 b], .agg #[.int .i64 c, .int .i64 d]] w fun e w' => e = .returned (.int .i64 (orI (sgn (a - c)) (sgn (b - d)))) ∧ ∃ n, w' = ext w n := by
  go_enter Tryz.func105, Tryz.ntmps105
  go_wp2
  go_region_held3 (fun W => W.cell? ⟨w.heap.size, 0, none⟩ = some (.int .i64 a) ∧ W.cell? ⟨w.heap.size, 1, none⟩ = some (.int .i64 b) ∧ W.cell? ⟨w.heap.size + 1, 0, none⟩ = some (.int .i64 c) ∧ W.cell? ⟨w.heap.size + 1, 1, none⟩ = some (.int .i64 d)) (refine ⟨?_, ?_, ?_, ?_⟩ <;> simp [go_sem, ↓IntWalk.iteOmega]) (first | (go_at_call 148; refine (Comparei_any _ _ _).mono ?_; rintro e w' ⟨rfl, rfl⟩) | (go_at_call 147; refine (Or_any (sgn (a - c)) (sgn (b - d)) _ _ _ (by simp [go_sem]) (by simp [go_sem])).mono ?_; rintro e w' ⟨rfl, rfl⟩))
  go_wp2
  go_returns
  exact ⟨rfl, (ext_mk (by (repeat' (first | (with_reducible first | exact Below.refl _ _ | assumption | refine below_ext _ ?_ ?_ | refine Below.alloc ?_ ?_ _ | refine Below.drew ?_ | refine below_drewN ?_ _ | refine le_drewN _ ?_ | refine Below.setCell ?_ ?_ _ | exact Nat.le_refl _ | refine le_ext _ ?_ | refine le_alloc _ ?_ | refine le_setCell _ _ ?_ | refine le_drew ?_) | omega | (simp; done) | (simp; omega)))))⟩
end Go.Proofs.YtnddfdhfefconaaGreatDoor
