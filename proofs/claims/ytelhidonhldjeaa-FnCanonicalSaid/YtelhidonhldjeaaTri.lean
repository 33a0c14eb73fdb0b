
/- The reference's and the program's tests of a point in a triangle. -/
import Derived.Test.YtelhidonhldjeaaWit
import Derived.Test.YtelhidonhldjeaaHelp
import Derived.Test.YtelhidonhldjeaaHas
set_option linter.unusedVariables false
set_option linter.unusedSimpArgs false
namespace Go.Proofs.Ytelhidonhldjeaa
open Go.RowKit

theorem run_eqPt (a b c d : Int) (w : World) : (binOp .eql 39 (.agg #[.int .i64 a, .int .i64 b]) (.agg #[.int .i64 c, .int .i64 d])).run Try.prog w = .ok (.bool (eqP a b c d)) w := by
  by_cases h1 : a = c <;> by_cases h2 : b = d <;> simp [eqP, h1, h2, go_sem]
theorem run_nePt (a b c d : Int) (w : World) : (binOp .neq 39 (.agg #[.int .i64 a, .int .i64 b]) (.agg #[.int .i64 c, .int .i64 d])).run Try.prog w = .ok (.bool (!eqP a b c d)) w := by
  by_cases h1 : a = c <;> by_cases h2 : b = d <;> simp [eqP, h1, h2, go_sem]
theorem eqP_dec (a b c d : Int) : decide ((⟨a, b⟩ : Pt) = ⟨c, d⟩) = eqP a b c d := by
  rw [Bool.eq_iff_iff, eqP_iff, decide_eq_true_eq]; simp
theorem eqP_decn (a b c d : Int) : decide ((⟨a, b⟩ : Pt) ≠ ⟨c, d⟩) = !eqP a b c d := by
  rw [← eqP_dec]; simp
theorem triB_0 {a b c q : Pt} (h : trn a b c = 0) : triB a b c q = (eqP a.x a.y q.x q.y || (!eqP a.x a.y b.x b.y && onSeg a b q) || (!eqP b.x b.y c.x c.y && onSeg b c q) || (!eqP a.x a.y c.x c.y && onSeg a c q)) := by
  unfold triB
  rw [if_pos (sgn_zero h)]
  rw [← eqP_dec, ← eqP_decn, ← eqP_decn, ← eqP_decn]
theorem triB_p {a b c q : Pt} (h : 0 < trn a b c) : triB a b c q = (decide (0 ≤ sgn (trn a b q)) && decide (0 ≤ sgn (trn b c q)) && decide (0 ≤ sgn (trn c a q))) := by
  unfold triB
  rw [sgn_pos h, if_neg (by omega)]; simp
theorem triB_n {a b c q : Pt} (h : trn a b c < 0) : triB a b c q = (decide (0 ≤ -sgn (trn a b q)) && decide (0 ≤ -sgn (trn b c q)) && decide (0 ≤ -sgn (trn c a q))) := by
  unfold triB
  rw [sgn_neg h, if_neg (by omega)]; simp
set_option maxHeartbeats 2000000 in
theorem sinTri_any (a b c d e f g h : Int) (w : World) (ha : -100000 ≤ a ∧ a ≤ 100000) (hb : -100000 ≤ b ∧ b ≤ 100000) (hc : -100000 ≤ c ∧ c ≤ 100000) (hd : -100000 ≤ d ∧ d ≤ 100000) (he : -100000 ≤ e ∧ e ≤ 100000) (hf : -100000 ≤ f ∧ f ≤ 100000) (hg : -100000 ≤ g ∧ g ≤ 100000) (hh : -100000 ≤ h ∧ h ≤ 100000) :
    Calls Try.prog 87 #[.agg #[.int .i64 a, .int .i64 b], .agg #[.int .i64 c, .int .i64 d], .agg #[.int .i64 e, .int .i64 f], .agg #[.int .i64 g, .int .i64 h]] w fun r w' => r = .returned (.bool (triB ⟨a, b⟩ ⟨c, d⟩ ⟨e, f⟩ ⟨g, h⟩)) ∧ ∃ n, w' = ext w n := by
  have E := @run_eqPt
  have N := @run_nePt
  have b1 := sgn_bd ((c - a) * (h - b) - (d - b) * (g - a))
  have b2 := sgn_bd ((e - c) * (h - d) - (f - d) * (g - c))
  have b3 := sgn_bd ((a - e) * (h - f) - (b - f) * (g - e))
  rcases Int.lt_trichotomy ((c - a) * (f - b) - (d - b) * (e - a)) 0 with h0 | h0 | h0
  · have hs : sgn ((c - a) * (f - b) - (d - b) * (e - a)) = -1 := sgn_neg h0
    have HT := hide (triB_n (a := ⟨a, b⟩) (b := ⟨c, d⟩) (c := ⟨e, f⟩) (q := ⟨g, h⟩) h0)
    clear h0
    go_enter Try.func87, Try.ntmps87
    go_wp2_with (first | (go_at_call 89; refine (scross_any _ _ _ _ _ _ _ (by omega) (by omega) (by omega) (by omega) (by omega) (by omega)).mono ?_; rintro e w' ⟨rfl, hw'⟩; have hzy := ext_sz hw'; obtain ⟨y, rfl⟩ := hw'; (try simp at hzy)) | (go_at_call 132; refine (ssign_any _ _).mono ?_; rintro e w' ⟨rfl, hw'⟩; have hzz := ext_sz hw'; obtain ⟨z, rfl⟩ := hw'; (try simp at hzz)))
    all_goals
      go_ret
      exact ⟨ret_bool (by rw [HT.out, Bool.eq_iff_iff]; simp only [Bool.and_eq_true, decide_eq_true_eq]; first | (simp [trn]; done) | (simp [trn]; omega)), (ext_mk (by (repeat' (first | (with_reducible exact Below.refl _ _) | (with_reducible assumption) | (with_reducible refine below_ext _ ?_ ?_) | (with_reducible refine Below.alloc ?_ ?_ _) | (with_reducible refine Below.drew ?_) | (with_reducible refine below_drewN ?_ _) | (with_reducible refine le_drewN _ ?_) | (with_reducible refine Below.setCell ?_ ?_ _) | (with_reducible exact Nat.le_refl _) | (with_reducible refine le_ext _ ?_) | (with_reducible refine le_alloc _ ?_) | (with_reducible refine le_setCell _ _ ?_) | (with_reducible refine le_drew ?_) | omega | (simp; done) | (simp; omega)))))⟩
  · have hs : sgn ((c - a) * (f - b) - (d - b) * (e - a)) = 0 := sgn_zero h0
    have HT := hide (triB_0 (a := ⟨a, b⟩) (b := ⟨c, d⟩) (c := ⟨e, f⟩) (q := ⟨g, h⟩) h0)
    clear h0 b1 b2 b3
    go_enter Try.func87, Try.ntmps87
    go_wp2_with (first | (go_at_call 89; refine (scross_any _ _ _ _ _ _ _ (by omega) (by omega) (by omega) (by omega) (by omega) (by omega)).mono ?_; rintro e w' ⟨rfl, hw'⟩; have hzy := ext_sz hw'; obtain ⟨y, rfl⟩ := hw'; (try simp at hzy)) | (go_at_call 132; refine (ssign_any _ _).mono ?_; rintro e w' ⟨rfl, hw'⟩; have hzz := ext_sz hw'; obtain ⟨z, rfl⟩ := hw'; (try simp at hzz)) | (go_at_call 133; refine (sonSeg_any _ _ _ _ _ _ _ (by omega) (by omega) (by omega) (by omega) (by omega) (by omega)).mono ?_; rintro e w' ⟨rfl, hw'⟩; have hzu := ext_sz hw'; obtain ⟨u, rfl⟩ := hw'; (try simp at hzu)))
    all_goals
      go_ret
      exact ⟨ret_bool (by rw [HT.out]; simp [*]), (ext_mk (by (repeat' (first | (with_reducible exact Below.refl _ _) | (with_reducible assumption) | (with_reducible refine below_ext _ ?_ ?_) | (with_reducible refine Below.alloc ?_ ?_ _) | (with_reducible refine Below.drew ?_) | (with_reducible refine below_drewN ?_ _) | (with_reducible refine le_drewN _ ?_) | (with_reducible refine Below.setCell ?_ ?_ _) | (with_reducible exact Nat.le_refl _) | (with_reducible refine le_ext _ ?_) | (with_reducible refine le_alloc _ ?_) | (with_reducible refine le_setCell _ _ ?_) | (with_reducible refine le_drew ?_) | omega | (simp; done) | (simp; omega)))))⟩
  · have hs : sgn ((c - a) * (f - b) - (d - b) * (e - a)) = 1 := sgn_pos h0
    have HT := hide (triB_p (a := ⟨a, b⟩) (b := ⟨c, d⟩) (c := ⟨e, f⟩) (q := ⟨g, h⟩) h0)
    clear h0
    go_enter Try.func87, Try.ntmps87
    go_wp2_with (first | (go_at_call 89; refine (scross_any _ _ _ _ _ _ _ (by omega) (by omega) (by omega) (by omega) (by omega) (by omega)).mono ?_; rintro e w' ⟨rfl, hw'⟩; have hzy := ext_sz hw'; obtain ⟨y, rfl⟩ := hw'; (try simp at hzy)) | (go_at_call 132; refine (ssign_any _ _).mono ?_; rintro e w' ⟨rfl, hw'⟩; have hzz := ext_sz hw'; obtain ⟨z, rfl⟩ := hw'; (try simp at hzz)))
    all_goals
      go_ret
      exact ⟨ret_bool (by rw [HT.out, Bool.eq_iff_iff]; simp only [Bool.and_eq_true, decide_eq_true_eq]; first | (simp [trn]; done) | (simp [trn]; omega)), (ext_mk (by (repeat' (first | (with_reducible exact Below.refl _ _) | (with_reducible assumption) | (with_reducible refine below_ext _ ?_ ?_) | (with_reducible refine Below.alloc ?_ ?_ _) | (with_reducible refine Below.drew ?_) | (with_reducible refine below_drewN ?_ _) | (with_reducible refine le_drewN _ ?_) | (with_reducible refine Below.setCell ?_ ?_ _) | (with_reducible exact Nat.le_refl _) | (with_reducible refine le_ext _ ?_) | (with_reducible refine le_alloc _ ?_) | (with_reducible refine le_setCell _ _ ?_) | (with_reducible refine le_drew ?_) | omega | (simp; done) | (simp; omega)))))⟩
end Go.Proofs.Ytelhidonhldjeaa
