
/- Distances of points from segments: contracts of the program's and the reference's functions. -/
import Derived.Test.YtgeilljbmjajnaaFunc
set_option linter.unusedVariables false
set_option linter.unusedSimpArgs false
namespace Go.Proofs.Ytgeilljbmjajnaa
open Go.RowKit

/-- (b - a) times (c - a), as the inner product. -/
def inn (a b c : Pt) : Int := (b.x - a.x) * (c.x - a.x) + (b.y - a.y) * (c.y - a.y)
/-- The squared distance of p from the segment a b, numerator and denominator. -/
def devN (a b p : Pt) : Int := if inn a b p ≤ 0 then dst a p else if inn b a p ≤ 0 then dst b p else trn a b p * trn a b p
def devD (a b p : Pt) : Int := if inn a b p ≤ 0 then 1 else if inn b a p ≤ 0 then 1 else dst a b
theorem devN_1 {a b p : Pt} (h : inn a b p ≤ 0) : devN a b p = dst a p := if_pos h
theorem devD_1 {a b p : Pt} (h : inn a b p ≤ 0) : devD a b p = 1 := if_pos h
theorem devN_2 {a b p : Pt} (h : ¬ inn a b p ≤ 0) (h2 : inn b a p ≤ 0) : devN a b p = dst b p := (if_neg h).trans (if_pos h2)
theorem devD_2 {a b p : Pt} (h : ¬ inn a b p ≤ 0) (h2 : inn b a p ≤ 0) : devD a b p = 1 := (if_neg h).trans (if_pos h2)
theorem devN_3 {a b p : Pt} (h : ¬ inn a b p ≤ 0) (h2 : ¬ inn b a p ≤ 0) : devN a b p = trn a b p * trn a b p := (if_neg h).trans (if_neg h2)
theorem devD_3 {a b p : Pt} (h : ¬ inn a b p ≤ 0) (h2 : ¬ inn b a p ≤ 0) : devD a b p = dst a b := (if_neg h).trans (if_neg h2)
theorem inn_flip (a b c d p q : Int) : (a - c) * (p - c) + (b - d) * (q - d) = -((c - a) * (p - c) + (d - b) * (q - d)) := by
  have h1 : (a - c) * (p - c) = -((c - a) * (p - c)) := by rw [← Int.neg_mul]; congr 1; omega
  have h2 : (b - d) * (q - d) = -((d - b) * (q - d)) := by rw [← Int.neg_mul]; congr 1; omega
  omega
theorem sub_bd {a b M N : Int} (ha : -M ≤ a ∧ a ≤ M) (hb : -N ≤ b ∧ b ≤ N) : -(M + N) ≤ a - b ∧ a - b ≤ M + N := by omega

set_option maxHeartbeats 400000 in
theorem sdot_any (a b c d e f : Int) (w : World) (ha : -100000 ≤ a ∧ a ≤ 100000) (hb : -100000 ≤ b ∧ b ≤ 100000) (hc : -100000 ≤ c ∧ c ≤ 100000) (hd : -100000 ≤ d ∧ d ≤ 100000) (he : -100000 ≤ e ∧ e ≤ 100000) (hf : -100000 ≤ f ∧ f ≤ 100000) :
    Calls Try.prog 71 #[.agg #[.int .i64 a, .int .i64 b], .agg #[.int .i64 c, .int .i64 d], .agg #[.int .i64 e, .int .i64 f]] w fun r w' => r = .returned (.int .i64 ((c - a) * (e - a) + (d - b) * (f - b))) ∧ ∃ n, w' = ext w n := by
  have m1 := mul_bd (sub_bd hc ha) (sub_bd he ha)
  have m2 := mul_bd (sub_bd hd hb) (sub_bd hf hb)
  go_enter Try.func71, Try.ntmps71
  go_wp2
  go_ret
  exact ⟨rfl, (ext_mk (by (repeat' (first | (with_reducible exact Below.refl _ _) | (with_reducible assumption) | (with_reducible refine below_ext _ ?_ ?_) | (with_reducible refine Below.alloc ?_ ?_ _) | (with_reducible refine Below.drew ?_) | (with_reducible refine below_drewN ?_ _) | (with_reducible refine le_drewN _ ?_) | (with_reducible refine Below.setCell ?_ ?_ _) | (with_reducible exact Nat.le_refl _) | (with_reducible refine le_ext _ ?_) | (with_reducible refine le_alloc _ ?_) | (with_reducible refine le_setCell _ _ ?_) | (with_reducible refine le_drew ?_) | omega | (simp; done) | (simp; omega)))))⟩
set_option maxHeartbeats 400000 in
theorem scross_any (a b c d e f : Int) (w : World) (ha : -100000 ≤ a ∧ a ≤ 100000) (hb : -100000 ≤ b ∧ b ≤ 100000) (hc : -100000 ≤ c ∧ c ≤ 100000) (hd : -100000 ≤ d ∧ d ≤ 100000) (he : -100000 ≤ e ∧ e ≤ 100000) (hf : -100000 ≤ f ∧ f ≤ 100000) :
    Calls Try.prog 72 #[.agg #[.int .i64 a, .int .i64 b], .agg #[.int .i64 c, .int .i64 d], .agg #[.int .i64 e, .int .i64 f]] w fun r w' => r = .returned (.int .i64 ((c - a) * (f - b) - (d - b) * (e - a))) ∧ ∃ n, w' = ext w n := by
  have m1 := mul_bd (sub_bd hc ha) (sub_bd hf hb)
  have m2 := mul_bd (sub_bd hd hb) (sub_bd he ha)
  go_enter Try.func72, Try.ntmps72
  go_wp2
  go_ret
  exact ⟨rfl, (ext_mk (by (repeat' (first | (with_reducible exact Below.refl _ _) | (with_reducible assumption) | (with_reducible refine below_ext _ ?_ ?_) | (with_reducible refine Below.alloc ?_ ?_ _) | (with_reducible refine Below.drew ?_) | (with_reducible refine below_drewN ?_ _) | (with_reducible refine le_drewN _ ?_) | (with_reducible refine Below.setCell ?_ ?_ _) | (with_reducible exact Nat.le_refl _) | (with_reducible refine le_ext _ ?_) | (with_reducible refine le_alloc _ ?_) | (with_reducible refine le_setCell _ _ ?_) | (with_reducible refine le_drew ?_) | omega | (simp; done) | (simp; omega)))))⟩
theorem sq_flip (a b : Int) : (a - b) * (a - b) = (b - a) * (b - a) := by
  have : a - b = -(b - a) := by omega
  rw [this, Int.neg_mul_neg]
set_option maxHeartbeats 400000 in
theorem ssquare_any (a b c d : Int) (w : World) (ha : -100000 ≤ a ∧ a ≤ 100000) (hb : -100000 ≤ b ∧ b ≤ 100000) (hc : -100000 ≤ c ∧ c ≤ 100000) (hd : -100000 ≤ d ∧ d ≤ 100000) :
    Calls Try.prog 59 #[.agg #[.int .i64 a, .int .i64 b], .agg #[.int .i64 c, .int .i64 d]] w fun r w' => r = .returned (.int .i64 ((c - a) * (c - a) + (d - b) * (d - b))) ∧ ∃ n, w' = ext w n := by
  have m1 := mul_bd (sub_bd ha hc) (sub_bd ha hc)
  have m2 := mul_bd (sub_bd hb hd) (sub_bd hb hd)
  go_enter Try.func59, Try.ntmps59
  go_wp2
  go_ret
  exact ⟨ret_int (by rw [sq_flip a c, sq_flip b d]), (ext_mk (by (repeat' (first | (with_reducible exact Below.refl _ _) | (with_reducible assumption) | (with_reducible refine below_ext _ ?_ ?_) | (with_reducible refine Below.alloc ?_ ?_ _) | (with_reducible refine Below.drew ?_) | (with_reducible refine below_drewN ?_ _) | (with_reducible refine le_drewN _ ?_) | (with_reducible refine Below.setCell ?_ ?_ _) | (with_reducible exact Nat.le_refl _) | (with_reducible refine le_ext _ ?_) | (with_reducible refine le_alloc _ ?_) | (with_reducible refine le_setCell _ _ ?_) | (with_reducible refine le_drew ?_) | omega | (simp; done) | (simp; omega)))))⟩
set_option maxHeartbeats 400000 in
theorem away_any (a b c d e f : Int) (w : World) (ha : -1000 ≤ a ∧ a ≤ 1000) (hb : -1000 ≤ b ∧ b ≤ 1000) (hc : -1000 ≤ c ∧ c ≤ 1000) (hd : -1000 ≤ d ∧ d ≤ 1000) (he : -1000 ≤ e ∧ e ≤ 1000) (hf : -1000 ≤ f ∧ f ≤ 1000) :
    Calls Try.prog 42 #[.agg #[.int .i64 a, .int .i64 b, .int .i64 c, .int .i64 d], .agg #[.int .i64 e, .int .i64 f]] w fun r w' => r = .returned (.agg #[.int .i64 (devN ⟨a, b⟩ ⟨c, d⟩ ⟨e, f⟩), .int .i64 (devD ⟨a, b⟩ ⟨c, d⟩ ⟨e, f⟩)]) ∧ ∃ n, w' = ext w n := by
  have HF := hide (inn_flip a b c d e f)
  have m1 := mul_bd (sub_bd hc ha) (sub_bd hf hb)
  have m2 := mul_bd (sub_bd hd hb) (sub_bd he ha)
  have m3 := mul_bd (a := (c - a) * (f - b) - (d - b) * (e - a)) (b := (c - a) * (f - b) - (d - b) * (e - a)) (M := 8000000) (N := 8000000) (by omega) (by omega)
  by_cases h1 : (c - a) * (e - a) + (d - b) * (f - b) ≤ 0
  · have HN := hide (devN_1 (a := ⟨a, b⟩) (b := ⟨c, d⟩) (p := ⟨e, f⟩) h1)
    have HD := hide (devD_1 (a := ⟨a, b⟩) (b := ⟨c, d⟩) (p := ⟨e, f⟩) h1)
    go_enter Try.func42, Try.ntmps42
    go_wp2_with (go_at_call 62; refine (minus_any _ _ _ _ _ (by omega) (by omega) (by omega) (by omega)).mono ?_; rintro e w' ⟨rfl, hw'⟩; have hzy := ext_sz hw'; obtain ⟨y, rfl⟩ := hw'; (try simp at hzy))
    refine wp_region_ext (by kernel_rfl) (by kernel_rfl) ?_
    repeat (go_big_quiet_step ((first | (go_at_call 62; exact Calls.in_ext (minus_any _ _ _ _ _ (by omega) (by omega) (by omega) (by omega))) | (go_at_call 32; exact Calls.in_ext (dot_any _ _ _ _ _ (by omega) (by omega) (by omega) (by omega))))))
    refine wpQuiet_nil ?_
    rintro _ hnq
    have hzq := ext_sz hnq
    obtain ⟨nq, rfl⟩ := hnq
    (try simp at hzq)
    go_wp2_with (go_at_call 63; refine (far_any _ _ _ _ _ (by omega) (by omega) (by omega) (by omega)).mono ?_; rintro e w' ⟨rfl, hw'⟩; have hzz := ext_sz hw'; obtain ⟨z, rfl⟩ := hw'; (try simp at hzz))
    ((try simp only [Exit.inBlock, Exit.then]); refine bodyPost_ret (by simp [results, Try.results42, go_sem, ↓IntWalk.iteOmega]; try rfl) rfl ?_)
    exact ⟨by rw [HN.out, HD.out]; rfl, (ext_mk (by (repeat' (first | (with_reducible exact Below.refl _ _) | (with_reducible assumption) | (with_reducible refine below_ext _ ?_ ?_) | (with_reducible refine Below.alloc ?_ ?_ _) | (with_reducible refine Below.drew ?_) | (with_reducible refine below_drewN ?_ _) | (with_reducible refine le_drewN _ ?_) | (with_reducible refine Below.setCell ?_ ?_ _) | (with_reducible exact Nat.le_refl _) | (with_reducible refine le_ext _ ?_) | (with_reducible refine le_alloc _ ?_) | (with_reducible refine le_setCell _ _ ?_) | (with_reducible refine le_drew ?_) | omega | (simp; done) | (simp; omega)))))⟩
  by_cases h2 : 0 ≤ (c - a) * (e - c) + (d - b) * (f - d)
  · have hf2 : inn ⟨c, d⟩ ⟨a, b⟩ ⟨e, f⟩ ≤ 0 := by show (a - c) * (e - c) + (b - d) * (f - d) ≤ 0; rw [HF.out]; omega
    have HN := hide (devN_2 (a := ⟨a, b⟩) (b := ⟨c, d⟩) (p := ⟨e, f⟩) h1 hf2)
    have HD := hide (devD_2 (a := ⟨a, b⟩) (b := ⟨c, d⟩) (p := ⟨e, f⟩) h1 hf2)
    clear hf2
    go_enter Try.func42, Try.ntmps42
    go_wp2_with (go_at_call 62; refine (minus_any _ _ _ _ _ (by omega) (by omega) (by omega) (by omega)).mono ?_; rintro e w' ⟨rfl, hw'⟩; have hzy := ext_sz hw'; obtain ⟨y, rfl⟩ := hw'; (try simp at hzy))
    refine wp_region_ext (by kernel_rfl) (by kernel_rfl) ?_
    repeat (go_big_quiet_step ((first | (go_at_call 62; exact Calls.in_ext (minus_any _ _ _ _ _ (by omega) (by omega) (by omega) (by omega))) | (go_at_call 32; exact Calls.in_ext (dot_any _ _ _ _ _ (by omega) (by omega) (by omega) (by omega))))))
    refine wpQuiet_nil ?_
    rintro _ hnq
    have hzq := ext_sz hnq
    obtain ⟨nq, rfl⟩ := hnq
    (try simp at hzq)
    go_wp2
    refine wp_region_ext (by kernel_rfl) (by kernel_rfl) ?_
    repeat (go_big_quiet_step ((first | (go_at_call 62; exact Calls.in_ext (minus_any _ _ _ _ _ (by omega) (by omega) (by omega) (by omega))) | (go_at_call 32; exact Calls.in_ext (dot_any _ _ _ _ _ (by omega) (by omega) (by omega) (by omega))))))
    refine wpQuiet_nil ?_
    rintro _ hnq
    have hzq := ext_sz hnq
    obtain ⟨nq, rfl⟩ := hnq
    (try simp at hzq)
    go_wp2_with (go_at_call 63; refine (far_any _ _ _ _ _ (by omega) (by omega) (by omega) (by omega)).mono ?_; rintro e w' ⟨rfl, hw'⟩; have hzz := ext_sz hw'; obtain ⟨z, rfl⟩ := hw'; (try simp at hzz))
    ((try simp only [Exit.inBlock, Exit.then]); refine bodyPost_ret (by simp [results, Try.results42, go_sem, ↓IntWalk.iteOmega]; try rfl) rfl ?_)
    exact ⟨by rw [HN.out, HD.out]; rfl, (ext_mk (by (repeat' (first | (with_reducible exact Below.refl _ _) | (with_reducible assumption) | (with_reducible refine below_ext _ ?_ ?_) | (with_reducible refine Below.alloc ?_ ?_ _) | (with_reducible refine Below.drew ?_) | (with_reducible refine below_drewN ?_ _) | (with_reducible refine le_drewN _ ?_) | (with_reducible refine Below.setCell ?_ ?_ _) | (with_reducible exact Nat.le_refl _) | (with_reducible refine le_ext _ ?_) | (with_reducible refine le_alloc _ ?_) | (with_reducible refine le_setCell _ _ ?_) | (with_reducible refine le_drew ?_) | omega | (simp; done) | (simp; omega)))))⟩
  · have hf2 : ¬ inn ⟨c, d⟩ ⟨a, b⟩ ⟨e, f⟩ ≤ 0 := by show ¬ (a - c) * (e - c) + (b - d) * (f - d) ≤ 0; rw [HF.out]; omega
    have HN := hide (devN_3 (a := ⟨a, b⟩) (b := ⟨c, d⟩) (p := ⟨e, f⟩) h1 hf2)
    have HD := hide (devD_3 (a := ⟨a, b⟩) (b := ⟨c, d⟩) (p := ⟨e, f⟩) h1 hf2)
    clear hf2
    go_enter Try.func42, Try.ntmps42
    go_wp2_with (go_at_call 62; refine (minus_any _ _ _ _ _ (by omega) (by omega) (by omega) (by omega)).mono ?_; rintro e w' ⟨rfl, hw'⟩; have hzy := ext_sz hw'; obtain ⟨y, rfl⟩ := hw'; (try simp at hzy))
    refine wp_region_ext (by kernel_rfl) (by kernel_rfl) ?_
    repeat (go_big_quiet_step ((first | (go_at_call 62; exact Calls.in_ext (minus_any _ _ _ _ _ (by omega) (by omega) (by omega) (by omega))) | (go_at_call 32; exact Calls.in_ext (dot_any _ _ _ _ _ (by omega) (by omega) (by omega) (by omega))))))
    refine wpQuiet_nil ?_
    rintro _ hnq
    have hzq := ext_sz hnq
    obtain ⟨nq, rfl⟩ := hnq
    (try simp at hzq)
    go_wp2
    refine wp_region_ext (by kernel_rfl) (by kernel_rfl) ?_
    repeat (go_big_quiet_step ((first | (go_at_call 62; exact Calls.in_ext (minus_any _ _ _ _ _ (by omega) (by omega) (by omega) (by omega))) | (go_at_call 32; exact Calls.in_ext (dot_any _ _ _ _ _ (by omega) (by omega) (by omega) (by omega))))))
    refine wpQuiet_nil ?_
    rintro _ hnq
    have hzq := ext_sz hnq
    obtain ⟨nq, rfl⟩ := hnq
    (try simp at hzq)
    go_wp2_with (first | (go_at_call 64; refine (turn_any _ _ _ _ _ _ _ (by omega) (by omega) (by omega) (by omega) (by omega) (by omega)).mono ?_; rintro e w' ⟨rfl, hw'⟩; have hzz := ext_sz hw'; obtain ⟨z, rfl⟩ := hw'; (try simp at hzz)) | (go_at_call 32; refine (dot_any _ _ _ _ _ (by omega) (by omega) (by omega) (by omega)).mono ?_; rintro e w' ⟨rfl, hw'⟩; have hzu := ext_sz hw'; obtain ⟨u, rfl⟩ := hw'; (try simp at hzu)))
    ((try simp only [Exit.inBlock, Exit.then]); refine bodyPost_ret (by simp [results, Try.results42, go_sem, ↓IntWalk.iteOmega]; try rfl) rfl ?_)
    exact ⟨by rw [HN.out, HD.out]; rfl, (ext_mk (by (repeat' (first | (with_reducible exact Below.refl _ _) | (with_reducible assumption) | (with_reducible refine below_ext _ ?_ ?_) | (with_reducible refine Below.alloc ?_ ?_ _) | (with_reducible refine Below.drew ?_) | (with_reducible refine below_drewN ?_ _) | (with_reducible refine le_drewN _ ?_) | (with_reducible refine Below.setCell ?_ ?_ _) | (with_reducible exact Nat.le_refl _) | (with_reducible refine le_ext _ ?_) | (with_reducible refine le_alloc _ ?_) | (with_reducible refine le_setCell _ _ ?_) | (with_reducible refine le_drew ?_) | omega | (simp; done) | (simp; omega)))))⟩
set_option maxHeartbeats 400000 in
theorem toSegment_any (a b c d e f : Int) (w : World) (ha : -1000 ≤ a ∧ a ≤ 1000) (hb : -1000 ≤ b ∧ b ≤ 1000) (hc : -1000 ≤ c ∧ c ≤ 1000) (hd : -1000 ≤ d ∧ d ≤ 1000) (he : -1000 ≤ e ∧ e ≤ 1000) (hf : -1000 ≤ f ∧ f ≤ 1000) :
    Calls Try.prog 60 #[.agg #[.int .i64 a, .int .i64 b, .int .i64 c, .int .i64 d], .agg #[.int .i64 e, .int .i64 f]] w fun r w' => r = .returned (.tuple #[.int .i64 (devN ⟨a, b⟩ ⟨c, d⟩ ⟨e, f⟩), .int .i64 (devD ⟨a, b⟩ ⟨c, d⟩ ⟨e, f⟩)]) ∧ ∃ n, w' = ext w n := by
  have m1 := mul_bd (sub_bd hc ha) (sub_bd hf hb)
  have m2 := mul_bd (sub_bd hd hb) (sub_bd he ha)
  have m3 := mul_bd (a := (c - a) * (f - b) - (d - b) * (e - a)) (b := (c - a) * (f - b) - (d - b) * (e - a)) (M := 8000000) (N := 8000000) (by omega) (by omega)
  by_cases h1 : (c - a) * (e - a) + (d - b) * (f - b) ≤ 0
  · have HN := hide (devN_1 (a := ⟨a, b⟩) (b := ⟨c, d⟩) (p := ⟨e, f⟩) h1)
    have HD := hide (devD_1 (a := ⟨a, b⟩) (b := ⟨c, d⟩) (p := ⟨e, f⟩) h1)
    go_enter Try.func60, Try.ntmps60
    go_wp2_with (first | (go_at_call 71; refine (sdot_any _ _ _ _ _ _ _ (by omega) (by omega) (by omega) (by omega) (by omega) (by omega)).mono ?_; rintro e w' ⟨rfl, hw'⟩; have hzy := ext_sz hw'; obtain ⟨y, rfl⟩ := hw'; (try simp at hzy)) | (go_at_call 59; refine (ssquare_any _ _ _ _ _ (by omega) (by omega) (by omega) (by omega)).mono ?_; rintro e w' ⟨rfl, hw'⟩; have hzz := ext_sz hw'; obtain ⟨z, rfl⟩ := hw'; (try simp at hzz)))
    go_ret2
    exact ⟨by rw [HN.out, HD.out]; rfl, (ext_mk (by (repeat' (first | (with_reducible exact Below.refl _ _) | (with_reducible assumption) | (with_reducible refine below_ext _ ?_ ?_) | (with_reducible refine Below.alloc ?_ ?_ _) | (with_reducible refine Below.drew ?_) | (with_reducible refine below_drewN ?_ _) | (with_reducible refine le_drewN _ ?_) | (with_reducible refine Below.setCell ?_ ?_ _) | (with_reducible exact Nat.le_refl _) | (with_reducible refine le_ext _ ?_) | (with_reducible refine le_alloc _ ?_) | (with_reducible refine le_setCell _ _ ?_) | (with_reducible refine le_drew ?_) | omega | (simp; done) | (simp; omega)))))⟩
  by_cases h2 : (a - c) * (e - c) + (b - d) * (f - d) ≤ 0
  · have HN := hide (devN_2 (a := ⟨a, b⟩) (b := ⟨c, d⟩) (p := ⟨e, f⟩) h1 h2)
    have HD := hide (devD_2 (a := ⟨a, b⟩) (b := ⟨c, d⟩) (p := ⟨e, f⟩) h1 h2)
    go_enter Try.func60, Try.ntmps60
    go_wp2_with (first | (go_at_call 71; refine (sdot_any _ _ _ _ _ _ _ (by omega) (by omega) (by omega) (by omega) (by omega) (by omega)).mono ?_; rintro e w' ⟨rfl, hw'⟩; have hzy := ext_sz hw'; obtain ⟨y, rfl⟩ := hw'; (try simp at hzy)) | (go_at_call 59; refine (ssquare_any _ _ _ _ _ (by omega) (by omega) (by omega) (by omega)).mono ?_; rintro e w' ⟨rfl, hw'⟩; have hzz := ext_sz hw'; obtain ⟨z, rfl⟩ := hw'; (try simp at hzz)))
    go_ret2
    exact ⟨by rw [HN.out, HD.out]; rfl, (ext_mk (by (repeat' (first | (with_reducible exact Below.refl _ _) | (with_reducible assumption) | (with_reducible refine below_ext _ ?_ ?_) | (with_reducible refine Below.alloc ?_ ?_ _) | (with_reducible refine Below.drew ?_) | (with_reducible refine below_drewN ?_ _) | (with_reducible refine le_drewN _ ?_) | (with_reducible refine Below.setCell ?_ ?_ _) | (with_reducible exact Nat.le_refl _) | (with_reducible refine le_ext _ ?_) | (with_reducible refine le_alloc _ ?_) | (with_reducible refine le_setCell _ _ ?_) | (with_reducible refine le_drew ?_) | omega | (simp; done) | (simp; omega)))))⟩
  · have HN := hide (devN_3 (a := ⟨a, b⟩) (b := ⟨c, d⟩) (p := ⟨e, f⟩) h1 h2)
    have HD := hide (devD_3 (a := ⟨a, b⟩) (b := ⟨c, d⟩) (p := ⟨e, f⟩) h1 h2)
    go_enter Try.func60, Try.ntmps60
    go_wp2_with (first | (go_at_call 71; refine (sdot_any _ _ _ _ _ _ _ (by omega) (by omega) (by omega) (by omega) (by omega) (by omega)).mono ?_; rintro e w' ⟨rfl, hw'⟩; have hzy := ext_sz hw'; obtain ⟨y, rfl⟩ := hw'; (try simp at hzy)) | (go_at_call 59; refine (ssquare_any _ _ _ _ _ (by omega) (by omega) (by omega) (by omega)).mono ?_; rintro e w' ⟨rfl, hw'⟩; have hzz := ext_sz hw'; obtain ⟨z, rfl⟩ := hw'; (try simp at hzz)) | (go_at_call 72; refine (scross_any _ _ _ _ _ _ _ (by omega) (by omega) (by omega) (by omega) (by omega) (by omega)).mono ?_; rintro e w' ⟨rfl, hw'⟩; have hzu := ext_sz hw'; obtain ⟨u, rfl⟩ := hw'; (try simp at hzu)))
    go_ret2
    exact ⟨by rw [HN.out, HD.out]; rfl, (ext_mk (by (repeat' (first | (with_reducible exact Below.refl _ _) | (with_reducible assumption) | (with_reducible refine below_ext _ ?_ ?_) | (with_reducible refine Below.alloc ?_ ?_ _) | (with_reducible refine Below.drew ?_) | (with_reducible refine below_drewN ?_ _) | (with_reducible refine le_drewN _ ?_) | (with_reducible refine Below.setCell ?_ ?_ _) | (with_reducible exact Nat.le_refl _) | (with_reducible refine le_ext _ ?_) | (with_reducible refine le_alloc _ ?_) | (with_reducible refine le_setCell _ _ ?_) | (with_reducible refine le_drew ?_) | omega | (simp; done) | (simp; omega)))))⟩
def devAtN (ps : List Pt) (i j k : Nat) : Int := devN (gp ps i) (gp ps j) (gp ps k)
def devAtD (ps : List Pt) (i j k : Nat) : Int := devD (gp ps i) (gp ps j) (gp ps k)
theorem dev_same_N (a p : Pt) : devN a a p = dst a p := devN_1 (by unfold inn; simp)
theorem dev_same_D (a p : Pt) : devD a a p = 1 := devD_1 (by unfold inn; simp)
set_option maxHeartbeats 400000 in
theorem deviation_any (ps : List Pt) (i j k : Nat) (A : Option Addr) (n c : Nat) (w : World) (hn : ps.length = n) (hm : n ≤ 2000000) (hok : allOk ps = true) (hi : i < n) (hj : j < n) (hk : k < n) (hs : PtsAt w w.heap.size A ps) :
    Calls Try.prog 36 #[.slice A n c, .int .i64 i, .int .i64 j, .int .i64 k] w fun e w' => e = .returned (.tuple #[.int .i64 (devAtN ps i j k), .int .i64 (devAtD ps i j k)]) ∧ ∃ m, w' = ext w m := by
  obtain ⟨b, o, rfl, hb, hc⟩ := hs (by omega)
  obtain ⟨x1, y1⟩ := hc i (by omega)
  obtain ⟨x2, y2⟩ := hc j (by omega)
  obtain ⟨x3, y3⟩ := hc k (by omega)
  obtain ⟨p1, p2, p3, p4⟩ := allOk_at hok (i := i) (by omega)
  obtain ⟨q1, q2, q3, q4⟩ := allOk_at hok (i := j) (by omega)
  obtain ⟨r1, r2, r3, r4⟩ := allOk_at hok (i := k) (by omega)
  clear hc hs hok
  by_cases h : pX ps i = pX ps j ∧ pY ps i = pY ps j
  · have HN : Hid (devAtN ps i j k = dst (gp ps j) (gp ps k)) := by unfold Hid devAtN; rw [gp_mk ps i, h.1, h.2, ← gp_mk ps j]; exact dev_same_N _ _
    have HD : Hid (devAtD ps i j k = 1) := by unfold Hid devAtD; rw [gp_mk ps i, h.1, h.2, ← gp_mk ps j]; exact dev_same_D _ _
    obtain ⟨h1, h2⟩ := h
    go_enter Try.func36, Try.ntmps36
    go_wp2
    refine wp_region_ext (by kernel_rfl) (by kernel_rfl) ?_
    repeat (go_big_quiet_step (fail))
    refine wpQuiet_nil ?_
    rintro _ hnq
    have hzq := ext_sz hnq
    obtain ⟨nq, rfl⟩ := hnq
    (try simp at hzq)
    go_wp2
    refine wp_region_ext (by kernel_rfl) (by kernel_rfl) ?_
    repeat (go_big_quiet_step ((first | (go_at_call 59; exact Calls.in_ext (ssquare_any _ _ _ _ _ (by omega) (by omega) (by omega) (by omega))))))
    refine wpQuiet_nil ?_
    rintro _ hnq
    have hzq := ext_sz hnq
    obtain ⟨nq, rfl⟩ := hnq
    (try simp at hzq)
    go_wp2
    go_ret2
    exact ⟨by rw [HN.out, HD.out]; rfl, (ext_mk (by (repeat' (first | (with_reducible exact Below.refl _ _) | (with_reducible assumption) | (with_reducible refine below_ext _ ?_ ?_) | (with_reducible refine Below.alloc ?_ ?_ _) | (with_reducible refine Below.drew ?_) | (with_reducible refine below_drewN ?_ _) | (with_reducible refine le_drewN _ ?_) | (with_reducible refine Below.setCell ?_ ?_ _) | (with_reducible exact Nat.le_refl _) | (with_reducible refine le_ext _ ?_) | (with_reducible refine le_alloc _ ?_) | (with_reducible refine le_setCell _ _ ?_) | (with_reducible refine le_drew ?_) | omega | (simp; done) | (simp; omega)))))⟩
  · by_cases hx : pX ps i = pX ps j
    · have hy : ¬ pY ps i = pY ps j := fun e => h ⟨hx, e⟩
      have HN : Hid (devAtN ps i j k = devN ⟨pX ps j, pY ps i⟩ ⟨pX ps j, pY ps j⟩ ⟨pX ps k, pY ps k⟩) := by unfold Hid devAtN; rw [gp_mk ps i, hx]; rfl
      have HD : Hid (devAtD ps i j k = devD ⟨pX ps j, pY ps i⟩ ⟨pX ps j, pY ps j⟩ ⟨pX ps k, pY ps k⟩) := by unfold Hid devAtD; rw [gp_mk ps i, hx]; rfl
      clear h
      go_enter Try.func36, Try.ntmps36
      go_wp2
      refine wp_region_ext (by kernel_rfl) (by kernel_rfl) ?_
      repeat (go_big_quiet_step (fail))
      refine wpQuiet_nil ?_
      rintro _ hnq
      have hzq := ext_sz hnq
      obtain ⟨nq, rfl⟩ := hnq
      (try simp at hzq)
      go_wp2
      refine wp_region_ext (by kernel_rfl) (by kernel_rfl) ?_
      repeat (go_big_quiet_step ((first | (go_at_call 60; exact Calls.in_ext (toSegment_any _ _ _ _ _ _ _ (by omega) (by omega) (by omega) (by omega) (by omega) (by omega))))))
      refine wpQuiet_nil ?_
      rintro _ hnq
      have hzq := ext_sz hnq
      obtain ⟨nq, rfl⟩ := hnq
      (try simp at hzq)
      go_wp2
      go_ret2
      exact ⟨by rw [HN.out, HD.out]; rfl, (ext_mk (by (repeat' (first | (with_reducible exact Below.refl _ _) | (with_reducible assumption) | (with_reducible refine below_ext _ ?_ ?_) | (with_reducible refine Below.alloc ?_ ?_ _) | (with_reducible refine Below.drew ?_) | (with_reducible refine below_drewN ?_ _) | (with_reducible refine le_drewN _ ?_) | (with_reducible refine Below.setCell ?_ ?_ _) | (with_reducible exact Nat.le_refl _) | (with_reducible refine le_ext _ ?_) | (with_reducible refine le_alloc _ ?_) | (with_reducible refine le_setCell _ _ ?_) | (with_reducible refine le_drew ?_) | omega | (simp; done) | (simp; omega)))))⟩
    · clear h
      go_enter Try.func36, Try.ntmps36
      go_wp2
      refine wp_region_ext (by kernel_rfl) (by kernel_rfl) ?_
      repeat (go_big_quiet_step (fail))
      refine wpQuiet_nil ?_
      rintro _ hnq
      have hzq := ext_sz hnq
      obtain ⟨nq, rfl⟩ := hnq
      (try simp at hzq)
      go_wp2
      refine wp_region_ext (by kernel_rfl) (by kernel_rfl) ?_
      repeat (go_big_quiet_step ((first | (go_at_call 60; exact Calls.in_ext (toSegment_any _ _ _ _ _ _ _ (by omega) (by omega) (by omega) (by omega) (by omega) (by omega))))))
      refine wpQuiet_nil ?_
      rintro _ hnq
      have hzq := ext_sz hnq
      obtain ⟨nq, rfl⟩ := hnq
      (try simp at hzq)
      go_wp2
      go_ret2
      exact ⟨rfl, (ext_mk (by (repeat' (first | (with_reducible exact Below.refl _ _) | (with_reducible assumption) | (with_reducible refine below_ext _ ?_ ?_) | (with_reducible refine Below.alloc ?_ ?_ _) | (with_reducible refine Below.drew ?_) | (with_reducible refine below_drewN ?_ _) | (with_reducible refine le_drewN _ ?_) | (with_reducible refine Below.setCell ?_ ?_ _) | (with_reducible exact Nat.le_refl _) | (with_reducible refine le_ext _ ?_) | (with_reducible refine le_alloc _ ?_) | (with_reducible refine le_setCell _ _ ?_) | (with_reducible refine le_drew ?_) | omega | (simp; done) | (simp; omega)))))⟩
end Go.Proofs.Ytgeilljbmjajnaa