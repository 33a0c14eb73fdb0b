
/- The program's 'has': a point on a segment, whose ends may be equal. -/
import Derived.Test.YtnddfdhfefconaaGreatDoorLeaf
set_option linter.unusedVariables false
set_option linter.unusedSimpArgs false
namespace Go.Proofs.YtnddfdhfefconaaGreatDoor
open Go.RowKit

set_option maxHeartbeats 400000 in
theorem has_any (a b c d e f : Int) (w : World) (ha : -100000 ≤ a ∧ a ≤ 100000) (hb : -100000 ≤ b ∧ b ≤ 100000) (hc : -100000 ≤ c ∧ c ≤ 100000) (hd : -100000 ≤ d ∧ d ≤ 100000) (he : -100000 ≤ e ∧ e ≤ 100000) (hf : -100000 ≤ f ∧ f ≤ 100000) :
    Calls Tryz.prog 171 #[.agg #[.int .i64 a, .int .i64 b, .int .i64 c, .int .i64 d], .agg #[.int .i64 e, .int .i64 f]] w fun r w' => r = .returned (.bool (onSeg ⟨a, b⟩ ⟨c, d⟩ ⟨e, f⟩)) ∧ ∃ n, w' = ext w n := by
  have HO : Hid (onSeg ⟨a, b⟩ ⟨c, d⟩ ⟨e, f⟩ = (decide ((c - a) * (f - b) - (d - b) * (e - a) = 0) && decide ((a - e) * (c - e) + (b - f) * (d - f) ≤ 0))) := rfl
  by_cases ht : (c - a) * (f - b) - (d - b) * (e - a) = 0
  · have htd : ((c - a) * (f - b) - (d - b) * (e - a) == 0) = true := by simpa using ht
    have HT := hide ht
    clear ht
    go_enter Tryz.func171, Tryz.ntmps171
    go_wp2
    refine wp_region_ext (by kernel_rfl) (by kernel_rfl) ?_
    repeat (go_big_quiet_step ((first | (go_at_call 107; exact Calls.in_ext (turn_any _ _ _ _ _ _ _ (by omega) (by omega) (by omega) (by omega) (by omega) (by omega))) | (go_at_call 161; exact Calls.in_ext (minus_any _ _ _ _ _ (by omega) (by omega) (by omega) (by omega))) | (go_at_call 211; exact Calls.in_ext (dot_any _ _ _ _ _ (by omega) (by omega) (by omega) (by omega))))))
    refine wpQuiet_nil ?_
    rintro _ hnq
    have hzq := ext_sz hnq
    obtain ⟨nq, rfl⟩ := hnq
    (try simp at hzq)
    go_wp2
    go_returns
    exact ⟨ret_bool (by rw [HO.out]; simp [HT.out]), (ext_mk (by (repeat' (first | (with_reducible first | exact Below.refl _ _ | assumption | refine below_ext _ ?_ ?_ | refine Below.alloc ?_ ?_ _ | refine Below.drew ?_ | refine below_drewN ?_ _ | refine le_drewN _ ?_ | refine Below.setCell ?_ ?_ _ | exact Nat.le_refl _ | refine le_ext _ ?_ | refine le_alloc _ ?_ | refine le_setCell _ _ ?_ | refine le_drew ?_) | omega | (simp; done) | (simp; omega)))))⟩
  · have htd : ((c - a) * (f - b) - (d - b) * (e - a) == 0) = false := by simpa using ht
    have HT := hide ht
    clear ht
    go_enter Tryz.func171, Tryz.ntmps171
    go_wp2
    refine wp_region_ext (by kernel_rfl) (by kernel_rfl) ?_
    repeat (go_big_quiet_step ((first | (go_at_call 107; exact Calls.in_ext (turn_any _ _ _ _ _ _ _ (by omega) (by omega) (by omega) (by omega) (by omega) (by omega))) | (go_at_call 161; exact Calls.in_ext (minus_any _ _ _ _ _ (by omega) (by omega) (by omega) (by omega))) | (go_at_call 211; exact Calls.in_ext (dot_any _ _ _ _ _ (by omega) (by omega) (by omega) (by omega))))))
    refine wpQuiet_nil ?_
    rintro _ hnq
    have hzq := ext_sz hnq
    obtain ⟨nq, rfl⟩ := hnq
    (try simp at hzq)
    go_wp2
    go_returns
    exact ⟨ret_bool (by rw [HO.out]; simp [HT.out]), (ext_mk (by (repeat' (first | (with_reducible first | exact Below.refl _ _ | assumption | refine below_ext _ ?_ ?_ | refine Below.alloc ?_ ?_ _ | refine Below.drew ?_ | refine below_drewN ?_ _ | refine le_drewN _ ?_ | refine Below.setCell ?_ ?_ _ | exact Nat.le_refl _ | refine le_ext _ ?_ | refine le_alloc _ ?_ | refine le_setCell _ _ ?_ | refine le_drew ?_) | omega | (simp; done) | (simp; omega)))))⟩
end Go.Proofs.YtnddfdhfefconaaGreatDoor
