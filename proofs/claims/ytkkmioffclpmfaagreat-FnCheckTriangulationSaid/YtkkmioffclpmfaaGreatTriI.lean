
/- The program's test of a point in a triangle. -/
import Derived.Test.YtkkmioffclpmfaaGreatTri
import Derived.Test.YtkkmioffclpmfaaGreatRel
set_option linter.unusedVariables false
set_option linter.unusedSimpArgs false
namespace Go.Proofs.YtkkmioffclpmfaaGreat
open Go.RowKit

theorem on_first (a b : Pt) : onSeg a b a = true := by
  unfold onSeg
  rw [show trn a b a = 0 by unfold trn; grind, show (a.x - a.x) * (b.x - a.x) + (a.y - a.y) * (b.y - a.y) = 0 by rw [Int.sub_self, Int.sub_self, Int.zero_mul, Int.zero_mul]; rfl]
  rfl
theorem on_rev (a b p : Pt) : onSeg b a p = onSeg a b p := by
  unfold onSeg
  rw [show trn b a p = -trn a b p by unfold trn; grind, show (b.x - p.x) * (a.x - p.x) + (b.y - p.y) * (a.y - p.y) = (a.x - p.x) * (b.x - p.x) + (a.y - p.y) * (b.y - p.y) by grind]
  congr 1
  exact decide_eq_decide.2 (by omega)
theorem on_same {a p : Pt} : onSeg a a p = eqP a.x a.y p.x p.y := by
  rw [Bool.eq_iff_iff, eqP_iff]
  constructor
  · intro h
    unfold onSeg at h
    simp only [Bool.and_eq_true, decide_eq_true_eq] at h
    have h1 := sq_nn (a.x - p.x)
    have h2 := sq_nn (a.y - p.y)
    have z1 : (a.x - p.x) * (a.x - p.x) = 0 := by omega
    have z2 : (a.y - p.y) * (a.y - p.y) = 0 := by omega
    have := Int.mul_eq_zero.1 z1
    have := Int.mul_eq_zero.1 z2
    exact ⟨by omega, by omega⟩
  · rintro ⟨h1, h2⟩
    have : p = a := by cases a; cases p; simp_all
    rw [this]; exact on_first _ _
theorem triB_0' {a b c q : Pt} (h : trn a b c = 0) : triB a b c q = (onSeg a b q || onSeg b c q || onSeg c a q) := by
  rw [triB_0 h]
  have e : ∀ u v : Pt, eqP u.x u.y v.x v.y = true ↔ u = v := fun u v => by
    rw [eqP_iff]
    constructor
    · rintro ⟨h1, h2⟩; cases u; cases v; simp_all
    · rintro rfl; exact ⟨rfl, rfl⟩
  rw [Bool.eq_iff_iff]
  simp only [Bool.or_eq_true, Bool.and_eq_true, Bool.not_eq_true', ← Bool.not_eq_true, e]
  rw [on_rev a c q]
  have s : ∀ u : Pt, onSeg u u q = true ↔ u = q := fun u => by rw [on_same, e]
  constructor
  · rintro (((h | h) | h) | h)
    · subst h; exact .inl (.inl (on_first _ _))
    · exact .inl (.inl h.2)
    · exact .inl (.inr h.2)
    · exact .inr h.2
  · intro h
    by_cases hab : a = b
    · subst hab
      by_cases hac : a = c
      · subst hac
        rcases h with (h | h) | h <;> exact .inl (.inl (.inl ((s a).1 h)))
      · rcases h with (h | h) | h
        · exact .inl (.inl (.inl ((s a).1 h)))
        · exact .inl (.inr ⟨hac, h⟩)
        · exact .inr ⟨hac, h⟩
    · by_cases hbc : b = c
      · subst hbc
        rcases h with (h | h) | h
        · exact .inl (.inl (.inr ⟨hab, h⟩))
        · have := (s b).1 h
          subst this
          exact .inl (.inl (.inr ⟨hab, by rw [← on_rev]; exact on_first _ _⟩))
        · exact .inr ⟨hab, h⟩
      · by_cases hac : a = c
        · subst hac
          rcases h with (h | h) | h
          · exact .inl (.inl (.inr ⟨hab, h⟩))
          · exact .inl (.inr ⟨hbc, h⟩)
          · exact .inl (.inl (.inl ((s a).1 h)))
        · rcases h with (h | h) | h
          · exact .inl (.inl (.inr ⟨hab, h⟩))
          · exact .inl (.inr ⟨hbc, h⟩)
          · exact .inr ⟨hac, h⟩
theorem sgn_nn {u : Int} : 0 ≤ sgn u ↔ 0 ≤ u := by unfold sgn; split <;> (try split) <;> omega
theorem sgn_np {u : Int} : 0 ≤ -sgn u ↔ 0 ≤ -u := by unfold sgn; split <;> (try split) <;> omega
theorem mul_b5 {x y : Int} (hx : -200000 ≤ x ∧ x ≤ 200000) (hy : -200000 ≤ y ∧ y ≤ 200000) : -40000000000 ≤ x * y ∧ x * y ≤ 40000000000 := by
  have h1 := Int.mul_nonneg (show 0 ≤ 200000 - x by omega) (show 0 ≤ 200000 - y by omega)
  have h2 := Int.mul_nonneg (show 0 ≤ 200000 + x by omega) (show 0 ≤ 200000 + y by omega)
  have h3 := Int.mul_nonneg (show 0 ≤ 200000 - x by omega) (show 0 ≤ 200000 + y by omega)
  have h4 := Int.mul_nonneg (show 0 ≤ 200000 + x by omega) (show 0 ≤ 200000 - y by omega)
  rw [show (200000 - x) * (200000 - y) = 40000000000 - 200000 * x - 200000 * y + x * y by grind] at h1
  rw [show (200000 + x) * (200000 + y) = 40000000000 + 200000 * x + 200000 * y + x * y by grind] at h2
  rw [show (200000 - x) * (200000 + y) = 40000000000 - 200000 * x + 200000 * y - x * y by grind] at h3
  rw [show (200000 + x) * (200000 - y) = 40000000000 + 200000 * x - 200000 * y - x * y by grind] at h4
  omega
theorem turn_b5 {a b c d g h : Int} (ha : -100000 ≤ a ∧ a ≤ 100000) (hb : -100000 ≤ b ∧ b ≤ 100000) (hc : -100000 ≤ c ∧ c ≤ 100000) (hd : -100000 ≤ d ∧ d ≤ 100000) (hg : -100000 ≤ g ∧ g ≤ 100000) (hh : -100000 ≤ h ∧ h ≤ 100000) : -80000000000 ≤ (c - a) * (h - b) - (d - b) * (g - a) ∧ (c - a) * (h - b) - (d - b) * (g - a) ≤ 80000000000 := by
  have h1 := mul_b5 (x := c - a) (y := h - b) (by omega) (by omega)
  have h2 := mul_b5 (x := d - b) (y := g - a) (by omega) (by omega)
  omega
set_option maxHeartbeats 2000000 in
theorem itri_any (a b c d e f g h : Int) (w : World) (ha : -100000 ≤ a ∧ a ≤ 100000) (hb : -100000 ≤ b ∧ b ≤ 100000) (hc : -100000 ≤ c ∧ c ≤ 100000) (hd : -100000 ≤ d ∧ d ≤ 100000) (he : -100000 ≤ e ∧ e ≤ 100000) (hf : -100000 ≤ f ∧ f ≤ 100000) (hg : -100000 ≤ g ∧ g ≤ 100000) (hh : -100000 ≤ h ∧ h ≤ 100000) :
    Calls Tryz.prog 86 #[.agg #[.int .i64 a, .int .i64 b], .agg #[.int .i64 c, .int .i64 d], .agg #[.int .i64 e, .int .i64 f], .agg #[.int .i64 g, .int .i64 h]] w fun r w' => r = .returned (.bool (triB ⟨a, b⟩ ⟨c, d⟩ ⟨e, f⟩ ⟨g, h⟩)) ∧ ∃ n, w' = ext w n := by
  rcases Int.lt_trichotomy ((c - a) * (f - b) - (d - b) * (e - a)) 0 with h0 | h0 | h0
  · have hs : sgn ((c - a) * (f - b) - (d - b) * (e - a)) = -1 := sgn_neg h0
    have HT : Hid (triB ⟨a, b⟩ ⟨c, d⟩ ⟨e, f⟩ ⟨g, h⟩ = (decide (0 ≤ -((c - a) * (h - b) - (d - b) * (g - a))) && decide (0 ≤ -((e - c) * (h - d) - (f - d) * (g - c))) && decide (0 ≤ -((a - e) * (h - f) - (b - f) * (g - e))))) := hide (by
      rw [triB_n (a := ⟨a, b⟩) (b := ⟨c, d⟩) (c := ⟨e, f⟩) (q := ⟨g, h⟩) h0]
      rw [decide_eq_decide.2 sgn_np, decide_eq_decide.2 sgn_np, decide_eq_decide.2 sgn_np]; rfl)
    have t1 := turn_b5 ha hb hc hd hg hh
    have t2 := turn_b5 hc hd he hf hg hh
    have t3 := turn_b5 he hf ha hb hg hh
    have u1 : IntKind.i64.wrap (-((c - a) * (h - b) - (d - b) * (g - a))) = -((c - a) * (h - b) - (d - b) * (g - a)) := IntWalk.i64_in _ (by omega)
    have u2 : IntKind.i64.wrap (-((e - c) * (h - d) - (f - d) * (g - c))) = -((e - c) * (h - d) - (f - d) * (g - c)) := IntWalk.i64_in _ (by omega)
    have u3 : IntKind.i64.wrap (-((a - e) * (h - f) - (b - f) * (g - e))) = -((a - e) * (h - f) - (b - f) * (g - e)) := IntWalk.i64_in _ (by omega)
    clear h0 t1 t2 t3
    go_enter Tryz.func86, Tryz.ntmps86
    go_wp2_with (first | (go_at_call 52; refine (turn_any _ _ _ _ _ _ _ (by omega) (by omega) (by omega) (by omega) (by omega) (by omega)).mono ?_; rintro e w' ⟨rfl, hw'⟩; have hzy := ext_sz hw'; obtain ⟨y, rfl⟩ := hw'; (try simp at hzy)) | (go_at_call 124; refine (sign_any _ _).mono ?_; rintro e w' ⟨rfl, hw'⟩; have hzz := ext_sz hw'; obtain ⟨z, rfl⟩ := hw'; (try simp at hzz)))
    all_goals
      go_ret
      exact ⟨ret_bool (by rw [HT.out, Bool.eq_iff_iff]; simp only [Bool.and_eq_true, decide_eq_true_eq]; first | (simp; done) | (simp; omega) | omega | (simp_all; done) | (simp_all; omega)), (ext_mk (by (repeat' (first | (with_reducible first | exact Below.refl _ _ | assumption | refine below_ext _ ?_ ?_ | refine Below.alloc ?_ ?_ _ | refine Below.drew ?_ | refine below_drewN ?_ _ | refine le_drewN _ ?_ | refine Below.setCell ?_ ?_ _ | exact Nat.le_refl _ | refine le_ext _ ?_ | refine le_alloc _ ?_ | refine le_setCell _ _ ?_ | refine le_drew ?_) | omega | (simp; done) | (simp; omega)))))⟩
  · have hs : sgn ((c - a) * (f - b) - (d - b) * (e - a)) = 0 := sgn_zero h0
    have HT := hide (triB_0' (a := ⟨a, b⟩) (b := ⟨c, d⟩) (c := ⟨e, f⟩) (q := ⟨g, h⟩) h0)
    clear h0
    go_enter Tryz.func86, Tryz.ntmps86
    go_wp2_with (first | (go_at_call 52; refine (turn_any _ _ _ _ _ _ _ (by omega) (by omega) (by omega) (by omega) (by omega) (by omega)).mono ?_; rintro e w' ⟨rfl, hw'⟩; have hzy := ext_sz hw'; obtain ⟨y, rfl⟩ := hw'; (try simp at hzy)) | (go_at_call 124; refine (sign_any _ _).mono ?_; rintro e w' ⟨rfl, hw'⟩; have hzz := ext_sz hw'; obtain ⟨z, rfl⟩ := hw'; (try simp at hzz)) | (go_at_call 111; refine (has_any _ _ _ _ _ _ _ (by omega) (by omega) (by omega) (by omega) (by omega) (by omega)).mono ?_; rintro e w' ⟨rfl, hw'⟩; have hzu := ext_sz hw'; obtain ⟨u, rfl⟩ := hw'; (try simp at hzu)))
    all_goals
      go_ret
      exact ⟨ret_bool (by rw [HT.out]; simp [*]), (ext_mk (by (repeat' (first | (with_reducible first | exact Below.refl _ _ | assumption | refine below_ext _ ?_ ?_ | refine Below.alloc ?_ ?_ _ | refine Below.drew ?_ | refine below_drewN ?_ _ | refine le_drewN _ ?_ | refine Below.setCell ?_ ?_ _ | exact Nat.le_refl _ | refine le_ext _ ?_ | refine le_alloc _ ?_ | refine le_setCell _ _ ?_ | refine le_drew ?_) | omega | (simp; done) | (simp; omega)))))⟩
  · have hs : sgn ((c - a) * (f - b) - (d - b) * (e - a)) = 1 := sgn_pos h0
    have HT : Hid (triB ⟨a, b⟩ ⟨c, d⟩ ⟨e, f⟩ ⟨g, h⟩ = (decide (0 ≤ ((c - a) * (h - b) - (d - b) * (g - a))) && decide (0 ≤ ((e - c) * (h - d) - (f - d) * (g - c))) && decide (0 ≤ ((a - e) * (h - f) - (b - f) * (g - e))))) := hide (by
      rw [triB_p (a := ⟨a, b⟩) (b := ⟨c, d⟩) (c := ⟨e, f⟩) (q := ⟨g, h⟩) h0]
      rw [decide_eq_decide.2 sgn_nn, decide_eq_decide.2 sgn_nn, decide_eq_decide.2 sgn_nn]; rfl)
    have t1 := turn_b5 ha hb hc hd hg hh
    have t2 := turn_b5 hc hd he hf hg hh
    have t3 := turn_b5 he hf ha hb hg hh
    have u1 : IntKind.i64.wrap (((c - a) * (h - b) - (d - b) * (g - a))) = ((c - a) * (h - b) - (d - b) * (g - a)) := IntWalk.i64_in _ (by omega)
    have u2 : IntKind.i64.wrap (((e - c) * (h - d) - (f - d) * (g - c))) = ((e - c) * (h - d) - (f - d) * (g - c)) := IntWalk.i64_in _ (by omega)
    have u3 : IntKind.i64.wrap (((a - e) * (h - f) - (b - f) * (g - e))) = ((a - e) * (h - f) - (b - f) * (g - e)) := IntWalk.i64_in _ (by omega)
    clear h0 t1 t2 t3
    go_enter Tryz.func86, Tryz.ntmps86
    go_wp2_with (first | (go_at_call 52; refine (turn_any _ _ _ _ _ _ _ (by omega) (by omega) (by omega) (by omega) (by omega) (by omega)).mono ?_; rintro e w' ⟨rfl, hw'⟩; have hzy := ext_sz hw'; obtain ⟨y, rfl⟩ := hw'; (try simp at hzy)) | (go_at_call 124; refine (sign_any _ _).mono ?_; rintro e w' ⟨rfl, hw'⟩; have hzz := ext_sz hw'; obtain ⟨z, rfl⟩ := hw'; (try simp at hzz)))
    all_goals
      go_ret
      exact ⟨ret_bool (by rw [HT.out, Bool.eq_iff_iff]; simp only [Bool.and_eq_true, decide_eq_true_eq]; first | (simp; done) | (simp; omega) | omega | (simp_all; done) | (simp_all; omega)), (ext_mk (by (repeat' (first | (with_reducible first | exact Below.refl _ _ | assumption | refine below_ext _ ?_ ?_ | refine Below.alloc ?_ ?_ _ | refine Below.drew ?_ | refine below_drewN ?_ _ | refine le_drewN _ ?_ | refine Below.setCell ?_ ?_ _ | exact Nat.le_refl _ | refine le_ext _ ?_ | refine le_alloc _ ?_ | refine le_setCell _ _ ?_ | refine le_drew ?_) | omega | (simp; done) | (simp; omega)))))⟩
end Go.Proofs.YtkkmioffclpmfaaGreat
