
import Derived.Test.YtcebmcbglhkkfaaCanM
/- Parts of a segment; polygons k times as large. No program in sight. -/
set_option linter.unusedVariables false
set_option linter.unusedSimpArgs false
namespace Go.Proofs.Ytcebmcbglhkkfaa
open Go.RowKit

/-! ### points of one line -/
def Mid1 (a b p : Int) : Prop := (a ≤ p ∧ p ≤ b) ∨ (b ≤ p ∧ p ≤ a)
theorem mid1_iff (a b p : Int) : (a - p) * (b - p) ≤ 0 ↔ Mid1 a b p := by
  unfold Mid1
  constructor
  · intro h
    refine Classical.byContradiction fun hn => ?_
    rcases Int.lt_or_le a p with ha | ha
    · have : b < p := by omega
      have := Int.mul_pos (show 0 < p - a by omega) (show 0 < p - b by omega)
      have e : (p - a) * (p - b) = (a - p) * (b - p) := by grind
      omega
    · have : p < a := by omega
      have : p < b := by omega
      have := Int.mul_pos (show 0 < a - p by omega) (show 0 < b - p by omega)
      omega
  · rintro (⟨h1, h2⟩ | ⟨h1, h2⟩)
    · have := Int.mul_nonneg (show 0 ≤ p - a by omega) (show 0 ≤ b - p by omega)
      have e : (a - p) * (b - p) = -((p - a) * (b - p)) := by grind
      omega
    · have := Int.mul_nonneg (show 0 ≤ a - p by omega) (show 0 ≤ p - b by omega)
      have e : (a - p) * (b - p) = -((a - p) * (p - b)) := by grind
      omega
theorem line_y {v z a p : Pt} (ha : trn v z a = 0) (hp : trn v z p = 0) : (a.x - p.x) * (z.y - v.y) = (a.y - p.y) * (z.x - v.x) := by
  unfold trn at ha hp; grind
/-- On one line all is told by one number. -/
theorem line_f {v z : Pt} (h : v ≠ z) : ∃ f : Pt → Int, (∀ a b p, trn v z a = 0 → trn v z b = 0 → trn v z p = 0 → (onSeg a b p = true ↔ Mid1 (f a) (f b) (f p))) ∧ ∀ a b, trn v z a = 0 → trn v z b = 0 → f a = f b → a = b := by
  by_cases hy : v.y = z.y
  · have hx : v.x ≠ z.x := fun e => h (pt_eq e hy)
    have ly : ∀ a, trn v z a = 0 → a.y = v.y := fun a ha => by
      unfold trn at ha
      rw [show z.y - v.y = 0 by omega, Int.zero_mul, Int.sub_zero] at ha
      rcases Int.mul_eq_zero.1 ha with e | e <;> omega
    refine ⟨fun p => p.x, fun a b p ha hb hp => ?_, fun a b ha hb e => pt_eq e (by rw [ly a ha, ly b hb])⟩
    have h1 := ly a ha; have h2 := ly b hb; have h3 := ly p hp
    rw [← mid1_iff]
    unfold onSeg trn
    rw [h1, h2, h3]
    simp
  · have hu : z.y - v.y ≠ 0 := by omega
    have hq : 0 < (z.y - v.y) * (z.y - v.y) := by
      rcases Int.lt_or_le 0 (z.y - v.y) with h | h
      · exact Int.mul_pos h h
      · exact Int.mul_pos_of_neg_of_neg (by omega) (by omega)
    have hn := sq_nonneg' (z.x - v.x)
    refine ⟨fun p => p.y, fun a b p ha hb hp => ?_, fun a b ha hb e => pt_eq ?_ e⟩
    · have l1 := line_y ha hp
      have l2 := line_y hb hp
      rw [← mid1_iff]
      have t : trn a b p = 0 := by
        have l3 := line_y hb ha
        have l4 := line_y hp ha
        have : trn a b p * (z.y - v.y) = 0 := by unfold trn; grind
        rcases Int.mul_eq_zero.1 this with e | e
        · exact e
        · exact absurd e hu
      have key : ((a.x - p.x) * (b.x - p.x) + (a.y - p.y) * (b.y - p.y)) * ((z.y - v.y) * (z.y - v.y)) = ((a.y - p.y) * (b.y - p.y)) * ((z.x - v.x) * (z.x - v.x) + (z.y - v.y) * (z.y - v.y)) := by grind
      unfold onSeg
      rw [t]
      simp only [decide_true, Bool.true_and, decide_eq_true_eq]
      constructor
      · intro hd
        refine Classical.byContradiction fun hc => ?_
        have p1 := Int.mul_pos (show 0 < (a.y - p.y) * (b.y - p.y) by omega) (show 0 < (z.x - v.x) * (z.x - v.x) + (z.y - v.y) * (z.y - v.y) by omega)
        have p2 := Int.mul_nonneg (show 0 ≤ -((a.x - p.x) * (b.x - p.x) + (a.y - p.y) * (b.y - p.y)) by omega) (show 0 ≤ (z.y - v.y) * (z.y - v.y) by omega)
        rw [Int.neg_mul] at p2
        omega
      · intro hd
        refine Classical.byContradiction fun hc => ?_
        have p1 := Int.mul_pos (show 0 < (a.x - p.x) * (b.x - p.x) + (a.y - p.y) * (b.y - p.y) by omega) hq
        have p2 := Int.mul_nonneg (show 0 ≤ -((a.y - p.y) * (b.y - p.y)) by omega) (show 0 ≤ (z.x - v.x) * (z.x - v.x) + (z.y - v.y) * (z.y - v.y) by omega)
        rw [Int.neg_mul] at p2
        omega
    · have l := line_y ha hb
      rw [show a.y - b.y = 0 by simp at e; omega, Int.zero_mul] at l
      rcases Int.mul_eq_zero.1 l with h | h
      · omega
      · exact absurd h hu
/-- Two points of a line lie on it from everywhere. -/
theorem line_on {v z c d p : Pt} (h : v ≠ z) (hc : trn v z c = 0) (hd : trn v z d = 0) (hp : trn v z p = 0) : trn c d p = 0 := by
  have l1 := line_y hc hp
  have l2 := line_y hd hp
  have e1 : trn c d p * (z.y - v.y) = 0 := by unfold trn; grind
  have e2 : trn c d p * (z.x - v.x) = 0 := by unfold trn; grind
  refine Classical.byContradiction fun hn => h ?_
  rcases Int.mul_eq_zero.1 e1 with e | e
  · exact absurd e hn
  · rcases Int.mul_eq_zero.1 e2 with f | f
    · exact absurd f hn
    · exact pt_eq (by omega) (by omega)
theorem on_ne {a p : Pt} (h : onSeg a a p = true) : p = a := by
  unfold onSeg at h
  simp only [Bool.and_eq_true, decide_eq_true_eq] at h
  have h1 := sq_nonneg' (a.x - p.x)
  have h2 := sq_nonneg' (a.y - p.y)
  have z1 : (a.x - p.x) * (a.x - p.x) = 0 := by omega
  have z2 : (a.y - p.y) * (a.y - p.y) = 0 := by omega
  have := Int.mul_eq_zero.1 z1
  have := Int.mul_eq_zero.1 z2
  exact pt_eq (by omega) (by omega)
/-- A part of a segment. -/
theorem on_part {v z m p : Pt} (hm : onSeg v z m = true) (hp : onSeg v m p = true) : onSeg v z p = true := by
  by_cases h : v = z
  · subst h
    rw [on_ne hm] at hp
    exact hp
  · by_cases hvm : v = m
    · subst hvm
      rw [on_ne hp]
      exact hm
    · obtain ⟨f, f1, f2⟩ := line_f h
      have m0 := onS_iff hm
      have v0 : trn v z v = 0 := trn_aba v z
      have z0 : trn v z z = 0 := trn_abb v z
      have q0 : trn v m z = 0 := by
        have : trn v m z = -trn v z m := by unfold trn; grind
        omega
      have p0 : trn v z p = 0 := line_on hvm (trn_aba v m) q0 (onS_iff hp)
      have a1 := (f1 v z m v0 z0 m0).1 hm
      have a2 := (f1 v m p v0 m0 p0).1 hp
      refine (f1 v z p v0 z0 p0).2 ?_
      unfold Mid1 at *
      omega
/-- A path that does not meet an edge: its parts do not. -/
theorem dj_part {c d v z m : Pt} (hcd : c ≠ d) (h : Dj c d v z) (hm : onSeg v z m = true) : Dj c d v m := by
  by_cases hvm : v = m
  · subst hvm
    refine ⟨h.nq, h.nq, ?_, ?_, ?_⟩
    · rw [← Bool.not_eq_true]; exact fun hh => by rw [on_ne hh] at h; have := h.nq; rw [onSeg_end1] at this; cases this
    · rw [← Bool.not_eq_true]; exact fun hh => by rw [on_ne hh] at h; have := h.nq; rw [onSeg_end2] at this; cases this
    · rintro ⟨h1, _⟩; omega
  have hvz : v ≠ z := fun e => by subst e; exact hvm (on_ne hm).symm
  have m0 := onS_iff hm
  obtain ⟨w1, w2, w3⟩ := seg_wgt hm
  have sp := sqd_pos hvz
  have sm := sqd_pos hvm
  have sn := sqd_nn z m
  have sv := seg_side m0 c d
  have nc : onSeg v m c = false := by rw [← Bool.not_eq_true]; exact fun hh => by have := on_part hm hh; rw [h.na] at this; cases this
  have nd : onSeg v m d = false := by rw [← Bool.not_eq_true]; exact fun hh => by have := on_part hm hh; rw [h.nb] at this; cases this
  have side : ∀ p, sqd v z * trn v m p = wgt v z m * trn v z p := fun p => by
    have e := seg_side m0 p v
    rw [show trn p v m = trn v m p from trn_r2 v m p |>.symm ▸ (by unfold trn; grind), show trn p v v = 0 from trn_abb p v, show trn p v z = trn v z p by unfold trn; grind] at e
    omega
  refine ⟨h.nq, ?_, nc, nd, ?_⟩
  · rw [← Bool.not_eq_true]
    intro hc
    have c0 := onS_iff hc
    obtain ⟨x1, x2, x3⟩ := seg_wgt hc
    have sc := sqd_pos hcd
    have sc1 := sqd_nn c m
    have sd1 := sqd_nn d m
    have ss := seg_side c0 v z
    rw [m0, Int.mul_zero] at ss
    rw [c0, Int.mul_zero] at sv
    by_cases tv : trn c d v = 0
    · -- all on one line
      rw [tv, Int.mul_zero, Int.zero_add] at sv
      have tz : trn c d z = 0 := by
        rcases Int.mul_eq_zero.1 sv.symm with e | e
        · omega
        · exact e
      obtain ⟨f, f1, f2⟩ := line_f hcd
      have cc : trn c d c = 0 := trn_aba c d
      have dd : trn c d d = 0 := trn_abb c d
      have a1 := (f1 v z m tv tz c0).1 hm
      have a2 := (f1 c d m cc dd c0).1 hc
      have n1 : ¬ Mid1 (f c) (f d) (f v) := fun hh => by have := (f1 c d v cc dd tv).2 hh; rw [h.nq] at this; cases this
      have n2 : ¬ Mid1 (f c) (f d) (f z) := fun hh => by have := (f1 c d z cc dd tz).2 hh; rw [h.nr] at this; cases this
      have n3 : ¬ Mid1 (f v) (f z) (f c) := fun hh => by have := (f1 v z c tv tz cc).2 hh; rw [h.na] at this; cases this
      unfold Mid1 at *
      omega
    · have hz : trn c d z ≠ 0 := fun e => by
        rw [e, Int.mul_zero, Int.add_zero] at sv
        rcases Int.mul_eq_zero.1 sv.symm with e1 | e1
        · have : sqd z m = 0 := by omega
          have hzm : z = m := Classical.byContradiction fun hne => by have := sqd_pos hne; omega
          rw [← hzm, h.nr] at hc; cases hc
        · exact tv e1
      have wz : 0 < wgt z v m := by
        refine Classical.byContradiction fun hn => ?_
        have : sqd z m = 0 := by omega
        have hzm : z = m := Classical.byContradiction fun hne => by have := sqd_pos hne; omega
        rw [← hzm, h.nr] at hc; cases hc
      have wv : 0 < wgt v z m := by omega
      have opp : (0 < trn c d v ∧ trn c d z < 0) ∨ (trn c d v < 0 ∧ 0 < trn c d z) := by
        rcases Int.lt_or_le 0 (trn c d v) with h1 | h1
        · refine .inl ⟨h1, ?_⟩
          have := Int.mul_pos wz h1
          exact neg_of wv (by omega)
        · refine .inr ⟨by omega, ?_⟩
          have := mul_lt0 wz (show trn c d v < 0 by omega)
          exact prod_pos (u := wgt v z m) (by omega) wv
      by_cases s0 : trn v z c = 0
      · rw [s0, Int.mul_zero, Int.zero_add] at ss
        rcases Int.mul_eq_zero.1 ss.symm with e | e
        · have : sqd c m = 0 := by omega
          have hcm : c = m := Classical.byContradiction fun hne => by have := sqd_pos hne; omega
          rw [← hcm, h.na] at hm; cases hm
        · exact tv (line_on hvz s0 e (trn_aba v z))
      · have t0 : trn v z d ≠ 0 := fun e => by
          rw [e, Int.mul_zero, Int.add_zero] at ss
          rcases Int.mul_eq_zero.1 ss.symm with e1 | e1
          · have : sqd d m = 0 := by omega
            have hdm : d = m := Classical.byContradiction fun hne => by have := sqd_pos hne; omega
            rw [← hdm, h.nb] at hm; cases hm
          · exact s0 e1
        have wc : 0 < wgt d c m := by
          refine Classical.byContradiction fun hn => ?_
          have : sqd d m = 0 := by omega
          have hdm : d = m := Classical.byContradiction fun hne => by have := sqd_pos hne; omega
          rw [← hdm, h.nb] at hm; cases hm
        have wd : 0 < wgt c d m := by
          refine Classical.byContradiction fun hn => ?_
          have : sqd c m = 0 := by omega
          have hcm : c = m := Classical.byContradiction fun hne => by have := sqd_pos hne; omega
          rw [← hcm, h.na] at hm; cases hm
        refine h.nx ⟨opp, ?_⟩
        rcases Int.lt_or_le 0 (trn v z c) with h1 | h1
        · refine .inl ⟨h1, ?_⟩
          have := Int.mul_pos wc h1
          exact neg_of wd (by omega)
        · refine .inr ⟨by omega, ?_⟩
          have := mul_lt0 wc (show trn v z c < 0 by omega)
          exact prod_pos (u := wgt c d m) (by omega) wd
  · rintro ⟨h1, h2⟩
    have wv : 0 < wgt v z m := by omega
    have k1 := side c
    have k2 := side d
    have up : ∀ {x y : Int}, sqd v z * x = wgt v z m * y → (0 < x → 0 < y) ∧ (x < 0 → y < 0) := fun {x y} e => ⟨fun hx => by
      have := Int.mul_pos sp hx
      exact prod_pos (u := wgt v z m) (by omega) wv, fun hx => by
      have := mul_lt0 sp hx
      exact neg_of wv (by omega)⟩
    have u1 := up k1
    have u2 := up k2
    refine h.nx ⟨?_, h2.elim (fun hh => .inl ⟨u1.1 hh.1, u2.2 hh.2⟩) (fun hh => .inr ⟨u1.2 hh.1, u2.1 hh.2⟩)⟩
    rcases h1 with ⟨a1, a2⟩ | ⟨a1, a2⟩
    · refine .inl ⟨a1, ?_⟩
      refine Classical.byContradiction fun hn => ?_
      have q1 := Int.mul_nonneg (show 0 ≤ wgt z v m by omega) (show 0 ≤ trn c d v by omega)
      have q2 := Int.mul_nonneg (show 0 ≤ wgt v z m by omega) (show 0 ≤ trn c d z by omega)
      have q3 := mul_lt0 sp a2
      omega
    · refine .inr ⟨a1, ?_⟩
      refine Classical.byContradiction fun hn => ?_
      have q1 := Int.mul_nonneg (show 0 ≤ wgt z v m by omega) (show 0 ≤ -trn c d v by omega)
      have q2 := Int.mul_nonneg (show 0 ≤ wgt v z m by omega) (show 0 ≤ -trn c d z by omega)
      have q3 := Int.mul_pos sp a2
      rw [Int.mul_neg] at q1 q2
      omega
/-- An edge that a path reaches at its end only: the path's parts do not meet it. -/
theorem dj_end {d v z m : Pt} (hvz : v ≠ z) (hzd : z ≠ d) (h1 : onSeg z d v = false) (h2 : onSeg v z d = false) (hm : onSeg v z m = true) (hmz : m ≠ z) : Dj z d v m := by
  have m0 := onS_iff hm
  obtain ⟨w1, w2, w3⟩ := seg_wgt hm
  have sp := sqd_pos hvz
  have sz := sqd_pos (fun e : z = m => hmz e.symm)
  have sn := sqd_nn v m
  have sv := seg_side m0 z d
  rw [show trn z d z = 0 from trn_aba z d, Int.mul_zero, Int.add_zero] at sv
  refine ⟨h1, ?_, ?_, ?_, ?_⟩
  · rw [← Bool.not_eq_true]
    intro hc
    have c0 := onS_iff hc
    rw [c0, Int.mul_zero] at sv
    rcases Int.mul_eq_zero.1 sv.symm with e | e
    · omega
    · obtain ⟨f, f1, f2⟩ := line_f hzd
      have zz : trn z d z = 0 := trn_aba z d
      have dd : trn z d d = 0 := trn_abb z d
      have a1 := (f1 v z m e zz c0).1 hm
      have a2 := (f1 z d m zz dd c0).1 hc
      have n1 : ¬ Mid1 (f z) (f d) (f v) := fun hh => by have := (f1 z d v zz dd e).2 hh; rw [h1] at this; cases this
      have n2 : ¬ Mid1 (f v) (f z) (f d) := fun hh => by have := (f1 v z d e zz dd).2 hh; rw [h2] at this; cases this
      have n3 : f m ≠ f z := fun hh => hmz (f2 m z c0 zz hh)
      unfold Mid1 at *
      omega
  · rw [← Bool.not_eq_true]
    intro hc
    obtain ⟨f, f1, f2⟩ := line_f hvz
    have v0 : trn v z v = 0 := trn_aba v z
    have z0 : trn v z z = 0 := trn_abb v z
    have a1 := (f1 v z m v0 z0 m0).1 hm
    have a2 := (f1 v m z v0 m0 z0).1 hc
    have n3 : f m ≠ f z := fun hh => hmz (f2 m z m0 z0 hh)
    unfold Mid1 at *
    omega
  · rw [← Bool.not_eq_true]; exact fun hh => by have := on_part hm hh; rw [h2] at this; cases this
  · rintro ⟨_, h⟩
    have : trn v m z = 0 := by rw [← trn_r1, ← trn_r1, trn_r1]; unfold trn at *; grind
    omega
end Go.Proofs.Ytcebmcbglhkkfaa
/- Polygons k times as large; points of a chord; diagonals. No program in sight. -/
set_option linter.unusedVariables false
set_option linter.unusedSimpArgs false
namespace Go.Proofs.Ytcebmcbglhkkfaa
open Go.RowKit

/-! ### k times as large -/
def scP (k : Int) (p : Pt) : Pt := ⟨k * p.x, k * p.y⟩
theorem gp_sc (k : Int) (ps : List Pt) (i : Nat) : gp (ps.map (scP k)) i = scP k (gp ps i) := by
  by_cases h : i < ps.length
  · rw [gp_lt h, gp_lt (by rw [List.length_map]; exact h), List.getElem_map]
  · unfold gp
    rw [List.getD_eq_getElem?_getD, List.getD_eq_getElem?_getD, List.getElem?_eq_none (by rw [List.length_map]; omega), List.getElem?_eq_none (by omega)]
    show (⟨0, 0⟩ : Pt) = scP k ⟨0, 0⟩
    unfold scP; simp
theorem trn_sc (k : Int) (a b c : Pt) : trn (scP k a) (scP k b) (scP k c) = k * k * trn a b c := by unfold trn scP; grind
theorem sc_pos {k : Int} (hk : 0 < k) (x : Int) : (0 < k * k * x ↔ 0 < x) ∧ (k * k * x < 0 ↔ x < 0) ∧ (k * k * x = 0 ↔ x = 0) := by
  have h2 : 0 < k * k := Int.mul_pos hk hk
  have h3 := (sg_pp (v := x) h2)
  exact ⟨h3.1, h3.2, by have := h3.1; have := h3.2; omega⟩
theorem sc_lt {k : Int} (hk : 0 < k) (x y : Int) : (k * x < k * y ↔ x < y) ∧ (k * x ≤ k * y ↔ x ≤ y) ∧ (k * x = k * y ↔ x = y) := by
  have h1 := (sg_pp (u := k) (v := y - x) hk)
  rw [Int.mul_sub] at h1
  omega
theorem onSeg_sc {k : Int} (hk : 0 < k) (a b p : Pt) : onSeg (scP k a) (scP k b) (scP k p) = onSeg a b p := by
  have h2 : 0 < k * k := Int.mul_pos hk hk
  unfold onSeg
  rw [trn_sc, Bool.eq_iff_iff]
  simp only [Bool.and_eq_true, decide_eq_true_eq]
  have e : ((scP k a).x - (scP k p).x) * ((scP k b).x - (scP k p).x) + ((scP k a).y - (scP k p).y) * ((scP k b).y - (scP k p).y) = k * k * ((a.x - p.x) * (b.x - p.x) + (a.y - p.y) * (b.y - p.y)) := by unfold scP; grind
  rw [e]
  have h3 := sc_pos hk (trn a b p)
  have h4 := sc_pos hk ((a.x - p.x) * (b.x - p.x) + (a.y - p.y) * (b.y - p.y))
  omega
theorem dj_sc {k : Int} (hk : 0 < k) {a b q r : Pt} (h : Dj a b q r) : Dj (scP k a) (scP k b) (scP k q) (scP k r) := by
  refine ⟨by rw [onSeg_sc hk]; exact h.nq, by rw [onSeg_sc hk]; exact h.nr, by rw [onSeg_sc hk]; exact h.na, by rw [onSeg_sc hk]; exact h.nb, ?_⟩
  have := h.nx
  simp only [trn_sc, (sc_pos hk _).1, (sc_pos hk _).2.1]
  exact this
theorem low_sc {k : Int} (hk : 0 < k) (q x : Pt) : LowP (scP k q) (scP k x) ↔ LowP q x := by
  unfold LowP scP
  simp only [(sc_lt hk _ _).1, (sc_lt hk _ _).2.2]
theorem opp_sc {k : Int} (hk : 0 < k) {o q r : Pt} (h : Opp o q r) : Opp (scP k o) (scP k q) (scP k r) := by
  unfold Opp at *
  rw [trn_sc, (sc_pos hk _).2.2, low_sc hk, low_sc hk]
  exact h
theorem rho_sc {k : Int} (hk : 0 < k) (o q r : Pt) : rho (scP k o) (scP k q) (scP k r) = rho o q r := by
  have : LeftE (scP k o) (scP k q) (scP k r) ↔ LeftE o q r := by
    unfold LeftE
    rw [trn_sc, (sc_pos hk _).1, low_sc hk, low_sc hk]
  unfold rho
  simp only [this]
theorem cw_sc {k : Int} (hk : 0 < k) (a b q : Pt) : cw (scP k a) (scP k b) (scP k q) = cw a b q := by
  unfold cw
  rw [trn_sc]
  unfold scP
  simp only [(sc_lt hk _ _).1, (sc_lt hk _ _).2.1, (sc_pos hk _).1, (sc_pos hk _).2.1]
theorem wn_sc {k : Int} (hk : 0 < k) (ps : List Pt) (q : Pt) : wn (ps.map (scP k)) (scP k q) = wn ps q := by
  unfold wn
  rw [List.length_map]
  exact sumN_congr fun j _ => by rw [gp_sc, gp_sc, cw_sc hk]
theorem sim_sc {k : Int} (hk : 0 < k) {ps : List Pt} (h : Sim ps) : Sim (ps.map (scP k)) := by
  refine ⟨by rw [List.length_map]; exact h.three, ?_, fun i j hi hj n1 n2 n3 => ?_, fun i hi => ?_⟩
  · unfold List.Nodup
    rw [List.pairwise_map]
    exact h.nodup.imp fun {a b} hne e => hne (by
      unfold scP at e
      simp only [Pt.mk.injEq, (sc_lt hk _ _).2.2] at e
      exact pt_eq e.1 e.2)
  · rw [List.length_map] at *
    rw [gp_sc, gp_sc, gp_sc, gp_sc]
    exact dj_sc hk (h.apart i j hi hj n1 n2 n3)
  · rw [List.length_map] at *
    rw [gp_sc, gp_sc, gp_sc]
    exact opp_sc hk (h.opp i hi)
theorem Lft_sc {k : Int} (hk : 0 < k) (ps : List Pt) : Lft (ps.map (scP k)) = Lft ps := by
  unfold Lft Lf
  rw [List.length_map, gp_sc, gp_sc, gp_sc, wn_sc hk, rho_sc hk]
theorem cho_sc {k : Int} (hk : 0 < k) {ps : List Pt} {i z : Nat} (c : Cho ps i z) : Cho (ps.map (scP k)) i z := by
  have hl : (ps.map (scP k)).length = ps.length := List.length_map _
  refine ⟨by rw [hl]; exact c.hi, by rw [hl]; exact c.hk, c.ne, by rw [hl]; exact c.n1, by rw [hl]; exact c.n2, fun j hj n1 n2 n3 n4 => ?_, fun j hj n1 n2 => ?_⟩
  · rw [hl] at hj n2 n4 ⊢
    rw [gp_sc, gp_sc, gp_sc, gp_sc]
    exact dj_sc hk (c.far j hj n1 n2 n3 n4)
  · rw [hl] at hj
    rw [gp_sc, gp_sc, gp_sc, onSeg_sc hk]
    exact c.off j hj n1 n2
/-! ### the points of a chord -/
theorem cone_part {o q r z m : Pt} (hqz : q ≠ z) (hm : onSeg q z m = true) (hqm : m ≠ q) : out01 o q r m = out01 o q r z := by
  have m0 := onS_iff hm
  obtain ⟨w1, w2, w3⟩ := seg_wgt hm
  have sp := sqd_pos hqz
  have sm := sqd_pos (fun e : q = m => hqm e.symm)
  have e1 := seg_side m0 o q
  have e2 := seg_side m0 q r
  rw [show trn o q q = 0 from trn_abb o q, Int.mul_zero, Int.zero_add] at e1
  rw [show trn q r q = 0 from trn_aba q r, Int.mul_zero, Int.zero_add] at e2
  have wz : 0 < wgt q z m := by omega
  have up : ∀ {x y : Int}, sqd q z * x = wgt q z m * y → (0 < x ↔ 0 < y) ∧ (x ≤ 0 ↔ y ≤ 0) := fun {x y} e => by
    have a1 := sg_pp (v := x) sp
    have a2 := sg_pp (v := y) wz
    rw [e] at a1
    omega
  have u1 := up e1
  have u2 := up e2
  have : InCone o q r m ↔ InCone o q r z := by
    unfold InCone
    rw [u1.1, u1.2, u2.1, u2.2]
  unfold out01
  simp only [this]
/-- A point of a chord lies on no edge, and is left of the polygon just where the chord leaves it within the corner. -/
theorem chord_at {ps : List Pt} (h : Sim ps) {i z : Nat} (hi : i < ps.length) (c : Cho ps ((i + 1) % ps.length) z) {m : Pt} (hm : onSeg (gp ps ((i + 1) % ps.length)) (gp ps z) m = true) (m1 : m ≠ gp ps ((i + 1) % ps.length)) (m2 : m ≠ gp ps z) :
    (∀ j, j < ps.length → onSeg (gp ps j) (gp ps ((j + 1) % ps.length)) m = false) ∧ wn ps m = Lft ps - out01 (gp ps i) (gp ps ((i + 1) % ps.length)) (gp ps ((i + 2) % ps.length)) (gp ps z) := by
  have hv := c.hi
  have hz := c.hk
  have h4 := c.four
  have hn : 0 < ps.length := by omega
  have mi := mod_next hi
  have mv := mod_next hv
  rw [mod2] at mv
  have hb : (i + 2) % ps.length < ps.length := Nat.mod_lt _ hn
  have n1 : i ≠ (i + 1) % ps.length := by split at mi <;> omega
  have n2 : (i + 2) % ps.length ≠ (i + 1) % ps.length := by split at mv <;> omega
  have z1 : z ≠ i := fun e => by subst e; exact c.n2 rfl
  have z2 : z ≠ (i + 2) % ps.length := fun e => c.n1 (by rw [mod2]; exact e)
  have hvz := sim_ne h hv hz c.ne
  have hm' : onSeg (gp ps z) (gp ps ((i + 1) % ps.length)) m = true := by rw [onSeg_swap]; exact hm
  -- the edges at the corner
  have D1 : Dj (gp ps ((i + 1) % ps.length)) (gp ps i) (gp ps z) m := dj_end hvz.symm (sim_ne h hv hi n1.symm) (by rw [onSeg_swap]; exact vertex_off h h4 hi hz z1 c.ne.symm) (by rw [onSeg_swap]; exact c.off i hi n1 z1.symm) hm' m1
  have D2 : Dj (gp ps ((i + 1) % ps.length)) (gp ps ((i + 2) % ps.length)) (gp ps z) m := dj_end hvz.symm (sim_ne h hv hb n2.symm) (by
    have := vertex_off h h4 hv hz c.ne.symm c.n1
    rw [mod2] at this
    exact this) (by rw [onSeg_swap]; exact c.off _ hb n2 z2.symm) hm' m1
  have far : ∀ j, j < ps.length → j ≠ i → j ≠ (i + 1) % ps.length → Dj (gp ps j) (gp ps ((j + 1) % ps.length)) (gp ps ((i + 1) % ps.length)) m := fun j hj j1 j2 => by
    have hj1 : (j + 1) % ps.length < ps.length := Nat.mod_lt _ hn
    have mj := mod_next hj
    have k1 : (j + 1) % ps.length ≠ (i + 1) % ps.length := fun e => by split at mi <;> split at mj <;> omega
    have jj : j ≠ (j + 1) % ps.length := by split at mj <;> omega
    by_cases e1 : j = z
    · subst e1
      exact dj_end hvz (sim_ne h hj hj1 jj) (vertex_off h h4 hj hv c.ne c.n2) (c.off _ hj1 k1 jj.symm) hm m2
    · by_cases e2 : (j + 1) % ps.length = z
      · have := dj_end (d := gp ps j) hvz (sim_ne h hz hj (Ne.symm e1)) (by
          rw [onSeg_swap]
          have := vertex_off h h4 hj hv (Ne.symm j2) (fun e => k1 e.symm)
          rw [e2] at this
          exact this) (c.off j hj j2 e1) hm m2
        rw [e2]
        exact this.swap1
      · exact dj_part (sim_ne h hj hj1 jj) (c.far j hj j2 k1 e1 e2) hm
  have o1 : Opp (gp ps i) (gp ps ((i + 1) % ps.length)) m := opp_on (sim_ne h hi hv n1) m1.symm (by
    rw [← Bool.not_eq_true]
    intro hh
    have := on_part hm hh
    rw [c.off i hi n1 z1.symm] at this
    cases this) (by rw [onSeg_swap]; exact D1.nr)
  have o2 : Opp (gp ps ((i + 2) % ps.length)) (gp ps ((i + 1) % ps.length)) m := opp_on (sim_ne h hb hv n2) m1.symm (by
    rw [← Bool.not_eq_true]
    intro hh
    have := on_part hm hh
    rw [c.off _ hb n2 z2.symm] at this
    cases this) (by rw [onSeg_swap]; exact D2.nr)
  refine ⟨fun j hj => ?_, ?_⟩
  · by_cases j1 : j = i
    · rw [j1, onSeg_swap]; exact D1.nr
    · by_cases j2 : j = (i + 1) % ps.length
      · rw [j2, mod2]; exact D2.nr
      · exact (far j hj j1 j2).nr
  · rw [wn_see h hi m1 far o1 o2, cone_part hvz hm m1]
/-- The cone of a corner that turns the other way around. -/
theorem cone_rev {o q r x : Pt} (hx : x ≠ q) (ho : o ≠ q) (hr : r ≠ q) (p1 : Opp o q r) (p2 : Opp o q x) (p3 : Opp r q x) : out01 r q o x = 1 - out01 o q r x := by
  have s1 := sector ho hr hx p1 p2 p3
  have p1' : Opp r q o := fun h => by
    have := p1 (by have : trn r q o = -trn o q r := by unfold trn; grind
                   omega)
    by_cases a : LowP q o <;> by_cases b : LowP q r <;> simp_all
  have s2 := sector hr ho hx p1' p3 p2
  have r1 := rho_rev ho hr p1
  omega
end Go.Proofs.Ytcebmcbglhkkfaa
/- Diagonals: what the two ways to tell them compute. No program in sight. -/
set_option linter.unusedVariables false
set_option linter.unusedSimpArgs false
namespace Go.Proofs.Ytcebmcbglhkkfaa
open Go.RowKit

/-! ### where a point lies -/
def onAny (ps : List Pt) (q : Pt) : Bool := (List.range ps.length).any fun j => onSeg (gp ps j) (gp ps ((j + 1) % ps.length)) q
def cwTo (ps : List Pt) (q : Pt) (k : Nat) : Int := sumN (fun j => cw (gp ps j) (gp ps ((j + 1) % ps.length)) q) k
def inK (ps : List Pt) (q : Pt) (k : Nat) : Int := if cwTo ps q k % 2 = 0 then -1 else 1
def locI (ps : List Pt) (q : Pt) : Int := if onAny ps q then 0 else inK ps q ps.length
theorem onAny_no {ps : List Pt} {q : Pt} : onAny ps q = false ↔ ∀ j, j < ps.length → onSeg (gp ps j) (gp ps ((j + 1) % ps.length)) q = false := by
  unfold onAny
  rw [List.any_eq_false]
  simp only [List.mem_range, Bool.not_eq_true]
theorem locI_off {ps : List Pt} {q : Pt} (h : ∀ j, j < ps.length → onSeg (gp ps j) (gp ps ((j + 1) % ps.length)) q = false) : locI ps q = if wn ps q % 2 = 0 then -1 else 1 := by
  unfold locI
  rw [onAny_no.2 h]
  rfl
/-! ### the edges of a diagonal -/
def midP (a b : Pt) : Pt := ⟨a.x + b.x, a.y + b.y⟩
/-- An edge that a diagonal may have beside it: by the common points. -/
def eI (ps : List Pt) (i k j : Nat) : Bool :=
  if isEndB (gp ps i, gp ps k) (gp ps j) || isEndB (gp ps i, gp ps k) (gp ps ((j + 1) % ps.length)) then decide ((cmn (gp ps i, gp ps k) (edgeAt ps j)).length = 1) else decide (relI (gp ps i, gp ps k) (edgeAt ps j) = 0)
/-- The same by places. -/
def eS (ps : List Pt) (i k j : Nat) : Bool :=
  if j = i ∨ j = k ∨ (j + 1) % ps.length = i ∨ (j + 1) % ps.length = k then !((decide (j ≠ i ∧ j ≠ k) && onSeg (gp ps i) (gp ps k) (gp ps j)) || (decide ((j + 1) % ps.length ≠ i ∧ (j + 1) % ps.length ≠ k) && onSeg (gp ps i) (gp ps k) (gp ps ((j + 1) % ps.length)))) else decide (relS (gp ps i, gp ps k) (edgeAt ps j) = 0)
/-- An edge at the end u of a segment u w; the edge's other end is x. -/
theorem e_eq {ps : List Pt} (h : Sim ps) (h4 : 4 ≤ ps.length) {i k j : Nat} (hi : i < ps.length) (hk : k < ps.length) (hj : j < ps.length) (hne : i ≠ k) (n1 : k ≠ (i + 1) % ps.length) (n2 : i ≠ (k + 1) % ps.length) : eI ps i k j = eS ps i k j := by
  have hn : 0 < ps.length := by omega
  have hj1 : (j + 1) % ps.length < ps.length := Nat.mod_lt _ hn
  have mj := mod_next hj
  have mi := mod_next hi
  have mk := mod_next hk
  have jj : j ≠ (j + 1) % ps.length := by split at mj <;> omega
  have hs : (gp ps i, gp ps k).1 ≠ (gp ps i, gp ps k).2 := sim_ne h hi hk hne
  have ht : (edgeAt ps j).1 ≠ (edgeAt ps j).2 := sim_ne h hj hj1 jj
  have inj : ∀ {a b : Nat}, a < ps.length → b < ps.length → (gp ps a = gp ps b ↔ a = b) := fun {a b} ha hb => ⟨gp_inj h.nodup ha hb, fun e => by rw [e]⟩
  have own : (isEndB (gp ps i, gp ps k) (gp ps j) || isEndB (gp ps i, gp ps k) (gp ps ((j + 1) % ps.length))) = true ↔ (j = i ∨ j = k ∨ (j + 1) % ps.length = i ∨ (j + 1) % ps.length = k) := by
    rw [Bool.or_eq_true, isEnd_iff, isEnd_iff]
    show (gp ps j = gp ps i ∨ gp ps j = gp ps k) ∨ (gp ps _ = gp ps i ∨ gp ps _ = gp ps k) ↔ _
    rw [inj hj hi, inj hj hk, inj hj1 hi, inj hj1 hk, or_assoc]
  have nee : gp ps i ≠ gp ps k := hs
  unfold eI eS
  by_cases o : j = i ∨ j = k ∨ (j + 1) % ps.length = i ∨ (j + 1) % ps.length = k
  · rw [if_pos (own.2 o), if_pos o]
    rcases o with e | e | e | e
    · subst e
      have := touch_len hs ht (u := gp ps j) (w := gp ps k) (x := gp ps ((j + 1) % ps.length)) (.inl ⟨rfl, rfl⟩) (.inl ⟨rfl, rfl⟩) (vertex_off h h4 hj hk hne.symm n1)
      rw [this]
      simp [jj.symm, n1.symm, onS]
    · subst e
      have := touch_len hs ht (u := gp ps j) (w := gp ps i) (x := gp ps ((j + 1) % ps.length)) (.inr ⟨rfl, rfl⟩) (.inl ⟨rfl, rfl⟩) (vertex_off h h4 hj hi hne n2)
      rw [this]
      simp [jj.symm, n2.symm, onS]
    · have ji : j ≠ i := fun e2 => by rw [e2] at e; rw [e2] at jj; exact jj e.symm
      have jk : j ≠ k := fun e2 => n2 (by rw [← e, e2])
      have V := vertex_off h h4 hj hk (Ne.symm jk) (by rw [e]; exact hne.symm)
      have E : edgeAt ps j = (gp ps j, gp ps i) := by unfold edgeAt; rw [e]
      have := touch_len hs ht (u := gp ps i) (w := gp ps k) (x := gp ps j) (.inl ⟨rfl, rfl⟩) (.inr ⟨by rw [E], by rw [E]⟩) (by unfold onS; exact V)
      rw [this, e]
      simp [ji, jk, onS]
    · have jk : j ≠ k := fun e2 => by rw [e2] at e; rw [e2] at jj; exact jj e.symm
      have ji : j ≠ i := fun e2 => n1 (by rw [← e, e2])
      have V := vertex_off h h4 hj hi (Ne.symm ji) (by rw [e]; exact hne)
      have E : edgeAt ps j = (gp ps j, gp ps k) := by unfold edgeAt; rw [e]
      have := touch_len hs ht (u := gp ps k) (w := gp ps i) (x := gp ps j) (.inr ⟨rfl, rfl⟩) (.inr ⟨by rw [E], by rw [E]⟩) (by unfold onS; exact V)
      rw [this, e]
      simp [ji, jk, onS]
  · rw [if_neg (fun hh => o (own.1 hh)), if_neg o, rel_eq hs ht]
/-- The edges' tests say that the segment is a chord. -/
theorem eS_cho {ps : List Pt} (h : Sim ps) {i k : Nat} (hi : i < ps.length) (hk : k < ps.length) (hne : i ≠ k) (n1 : k ≠ (i + 1) % ps.length) (n2 : i ≠ (k + 1) % ps.length) : (∀ j, j < ps.length → eS ps i k j = true) ↔ Cho ps i k := by
  have hn : 0 < ps.length := by omega
  have hs : (gp ps i, gp ps k).1 ≠ (gp ps i, gp ps k).2 := sim_ne h hi hk hne
  have ht : ∀ j, j < ps.length → (edgeAt ps j).1 ≠ (edgeAt ps j).2 := fun j hj => sim_ne h hj (Nat.mod_lt _ hn) (by have := mod_next hj; have := h.three; split at * <;> omega)
  constructor
  · intro hh
    have far : ∀ j, j < ps.length → j ≠ i → (j + 1) % ps.length ≠ i → j ≠ k → (j + 1) % ps.length ≠ k → Dj (gp ps j) (gp ps ((j + 1) % ps.length)) (gp ps i) (gp ps k) := fun j hj a b c d => by
      have := hh j hj
      unfold eS at this
      rw [if_neg (by rintro (e | e | e | e) <;> contradiction), decide_eq_true_eq, rel_eq hs (ht j hj)] at this
      exact (rel_dj this).turn
    refine ⟨hi, hk, hne, n1, n2, far, fun j hj a b => ?_⟩
    by_cases c : (j + 1) % ps.length = i ∨ (j + 1) % ps.length = k
    · have := hh j hj
      unfold eS at this
      rw [if_pos (.inr (.inr c))] at this
      simp only [Bool.not_eq_true', Bool.or_eq_false_iff, Bool.and_eq_false_iff] at this
      rcases this.1 with e | e
      · simp [a, b] at e
      · exact e
    · exact (far j hj a (fun e => c (.inl e)) b (fun e => c (.inr e))).na
  · intro c j hj
    unfold eS
    have hj1 : (j + 1) % ps.length < ps.length := Nat.mod_lt _ hn
    by_cases o : j = i ∨ j = k ∨ (j + 1) % ps.length = i ∨ (j + 1) % ps.length = k
    · rw [if_pos o]
      simp only [Bool.not_eq_true', Bool.or_eq_false_iff, Bool.and_eq_false_iff, decide_eq_false_iff_not]
      refine ⟨?_, ?_⟩
      · by_cases e : j ≠ i ∧ j ≠ k
        · exact .inr (c.off j hj e.1 e.2)
        · exact .inl e
      · by_cases e : (j + 1) % ps.length ≠ i ∧ (j + 1) % ps.length ≠ k
        · exact .inr (c.off _ hj1 e.1 e.2)
        · exact .inl e
    · rw [if_neg o, decide_eq_true_eq, rel_eq hs (ht j hj)]
      exact dj_rel (c.far j hj (fun e => o (.inl e)) (fun e => o (.inr (.inr (.inl e)))) (fun e => o (.inr (.inl e))) (fun e => o (.inr (.inr (.inr e))))).turn
/-! ### within -/
theorem mid_on (a b : Pt) : onSeg (scP 2 a) (scP 2 b) (midP a b) = true := by
  unfold onSeg
  simp only [Bool.and_eq_true, decide_eq_true_eq]
  refine ⟨by unfold trn scP midP; grind, ?_⟩
  have h1 := sq_nonneg' (a.x - b.x)
  have h2 := sq_nonneg' (a.y - b.y)
  have e : ((scP 2 a).x - (midP a b).x) * ((scP 2 b).x - (midP a b).x) + ((scP 2 a).y - (midP a b).y) * ((scP 2 b).y - (midP a b).y) = -((a.x - b.x) * (a.x - b.x) + (a.y - b.y) * (a.y - b.y)) := by unfold scP midP; grind
  omega
theorem mid_ne {a b : Pt} (h : a ≠ b) : midP a b ≠ scP 2 a ∧ midP a b ≠ scP 2 b := by
  unfold midP scP
  constructor
  · intro e
    simp only [Pt.mk.injEq] at e
    exact h (pt_eq (by omega) (by omega))
  · intro e
    simp only [Pt.mk.injEq] at e
    exact h (pt_eq (by omega) (by omega))
theorem out_sc {k : Int} (hk : 0 < k) (o q r x : Pt) : out01 (scP k o) (scP k q) (scP k r) (scP k x) = out01 o q r x := by
  have le : ∀ z : Int, k * k * z ≤ 0 ↔ z ≤ 0 := fun z => by have := (sc_pos hk z).1; omega
  have : InCone (scP k o) (scP k q) (scP k r) (scP k x) ↔ InCone o q r x := by
    unfold InCone
    simp only [trn_sc, (sc_pos hk _).1, le]
  unfold out01
  simp only [this]
/-- Within the corner, counterclockwise. -/
def coneB (ps : List Pt) (i k : Nat) : Bool :=
  if areaL ps < 0 then decide (InCone (gp ps ((i + 1) % ps.length)) (gp ps i) (gp ps ((i + ps.length - 1) % ps.length)) (gp ps k)) else decide (InCone (gp ps ((i + ps.length - 1) % ps.length)) (gp ps i) (gp ps ((i + 1) % ps.length)) (gp ps k))
theorem loc_cone {ps : List Pt} (h : Sim ps) {v z : Nat} (c : Cho ps v z) : locI (ps.map (scP 2)) (midP (gp ps v) (gp ps z)) = if coneB ps v z then 1 else -1 := by
  have hv := c.hi
  have hz := c.hk
  have h4 := c.four
  obtain ⟨hi, ev⟩ := pred_ex hv
  have hc := c
  generalize ei : (v + ps.length - 1) % ps.length = i at hi ev
  have e2 : (i + 2) % ps.length = (v + 1) % ps.length := by rw [← mod2, ev]
  rw [← ev] at c
  have k2 : (0 : Int) < 2 := by omega
  have hl : (ps.map (scP 2)).length = ps.length := List.length_map _
  have C := chord_at (sim_sc k2 h) (i := i) (z := z) (by rw [hl]; exact hi) (by rw [hl]; exact cho_sc k2 c) (m := midP (gp ps v) (gp ps z)) (by rw [hl, gp_sc, gp_sc, ev]; exact mid_on _ _) (by rw [hl, gp_sc, ev]; exact (mid_ne (sim_ne h hv hz hc.ne)).1) (by rw [gp_sc]; exact (mid_ne (sim_ne h hv hz hc.ne)).2)
  obtain ⟨C1, C2⟩ := C
  rw [locI_off C1, C2, hl, gp_sc, gp_sc, gp_sc, gp_sc, out_sc k2, Lft_sc k2, ev, e2]
  have S := sgn_ok _ ps rfl h
  have mi := mod_next hi
  have mv := mod_next hv
  have hb : (v + 1) % ps.length < ps.length := Nat.mod_lt _ (by omega)
  have niv : i ≠ v := by rw [ev] at mi; split at mi <;> omega
  have nbv : (v + 1) % ps.length ≠ v := by split at mv <;> omega
  have zi : z ≠ i := fun e => hc.n2 (by rw [e]; exact ev.symm)
  unfold coneB
  rw [ei]
  have oc := out_cases (gp ps i) (gp ps v) (gp ps ((v + 1) % ps.length)) (gp ps z)
  rcases S with ⟨s1, s2⟩ | ⟨s1, s2⟩
  · rw [if_neg (show ¬ areaL ps < 0 by omega), s1]
    rcases oc with ⟨o1, o2⟩ | ⟨o1, o2⟩
    · rw [o2, decide_eq_true o1]; rfl
    · rw [o2, decide_eq_false o1]; rfl
  · rw [if_pos s2, s1]
    have p1 : Opp (gp ps i) (gp ps v) (gp ps ((v + 1) % ps.length)) := by have := h.opp i hi; rw [ev, e2] at this; exact this
    have p2 : Opp (gp ps i) (gp ps v) (gp ps z) := opp_on (sim_ne h hi hv niv) (sim_ne h hv hz hc.ne) (hc.off i hi niv zi.symm) (by have := vertex_off h h4 hi hz zi (by rw [ev]; exact hc.ne.symm); rw [ev] at this; exact this)
    have p3 : Opp (gp ps ((v + 1) % ps.length)) (gp ps v) (gp ps z) := opp_on (sim_ne h hb hv nbv) (sim_ne h hv hz hc.ne) (hc.off _ hb nbv hc.n1.symm) (by rw [onSeg_swap]; exact vertex_off h h4 hv hz hc.ne.symm hc.n1)
    have R := cone_rev (sim_ne h hz hv hc.ne.symm) (sim_ne h hi hv niv) (sim_ne h hb hv nbv) p1 p2 p3
    have oc' := out_cases (gp ps ((v + 1) % ps.length)) (gp ps v) (gp ps i) (gp ps z)
    rcases oc' with ⟨o1, o2⟩ | ⟨o1, o2⟩
    · rw [decide_eq_true o1, show out01 (gp ps i) (gp ps v) (gp ps ((v + 1) % ps.length)) (gp ps z) = 1 by omega]; rfl
    · rw [decide_eq_false o1, show out01 (gp ps i) (gp ps v) (gp ps ((v + 1) % ps.length)) (gp ps z) = 0 by omega]; rfl
/-! ### diagonals, told in two ways -/
def diagI (ps : List Pt) (i k : Nat) : Bool := (decide (2 ≤ (k + ps.length - i) % ps.length) && decide ((k + ps.length - i) % ps.length + 2 ≤ ps.length)) && ((List.range ps.length).all (eI ps i k) && decide (locI (ps.map (scP 2)) (midP (gp ps i) (gp ps k)) = 1))
def diagS (ps : List Pt) (i k : Nat) : Bool := !(decide (i = k) || decide ((i + 1) % ps.length = k) || decide ((k + 1) % ps.length = i)) && ((List.range ps.length).all (eS ps i k) && coneB ps i k)
theorem apart_iff {n i k : Nat} (h3 : 3 ≤ n) (hi : i < n) (hk : k < n) : (2 ≤ (k + n - i) % n ∧ (k + n - i) % n + 2 ≤ n) ↔ (i ≠ k ∧ k ≠ (i + 1) % n ∧ i ≠ (k + 1) % n) := by
  have mi := mod_next hi
  have mk := mod_next hk
  by_cases h : i ≤ k
  · rw [show k + n - i = k - i + n by omega, Nat.add_mod_right, Nat.mod_eq_of_lt (show k - i < n by omega)]
    split at mi <;> split at mk <;> omega
  · rw [Nat.mod_eq_of_lt (show k + n - i < n by omega)]
    split at mi <;> split at mk <;> omega
theorem apart_four {n i k : Nat} (hi : i < n) (hk : k < n) (h : i ≠ k ∧ k ≠ (i + 1) % n ∧ i ≠ (k + 1) % n) : 4 ≤ n := by
  have mi := mod_next hi
  have mk := mod_next hk
  split at mi <;> split at mk <;> omega
theorem diagI_iff {ps : List Pt} (h : Sim ps) {i k : Nat} (hi : i < ps.length) (hk : k < ps.length) : diagI ps i k = true ↔ Cho ps i k ∧ locI (ps.map (scP 2)) (midP (gp ps i) (gp ps k)) = 1 := by
  unfold diagI
  simp only [Bool.and_eq_true, decide_eq_true_eq, List.all_eq_true, List.mem_range]
  rw [apart_iff h.three hi hk]
  constructor
  · rintro ⟨a, b, c⟩
    refine ⟨(eS_cho h hi hk a.1 a.2.1 a.2.2).1 fun j hj => ?_, c⟩
    rw [← e_eq h (apart_four hi hk a) hi hk hj a.1 a.2.1 a.2.2]
    exact b j hj
  · rintro ⟨a, c⟩
    have b := (eS_cho h hi hk a.ne a.n1 a.n2).2 a
    exact ⟨⟨a.ne, a.n1, a.n2⟩, fun j hj => by rw [e_eq h a.four hi hk hj a.ne a.n1 a.n2]; exact b j hj, c⟩
theorem diagS_iff {ps : List Pt} (h : Sim ps) {i k : Nat} (hi : i < ps.length) (hk : k < ps.length) : diagS ps i k = true ↔ Cho ps i k ∧ coneB ps i k = true := by
  unfold diagS
  simp only [Bool.and_eq_true, List.all_eq_true, List.mem_range, Bool.not_eq_true', Bool.or_eq_false_iff, decide_eq_false_iff_not]
  constructor
  · rintro ⟨⟨⟨a, a2⟩, a3⟩, b, c⟩
    exact ⟨(eS_cho h hi hk a (fun e => a2 e.symm) (fun e => a3 e.symm)).1 b, c⟩
  · rintro ⟨a, c⟩
    exact ⟨⟨⟨a.ne, fun e => a.n1 e.symm⟩, fun e => a.n2 e.symm⟩, (eS_cho h hi hk a.ne a.n1 a.n2).2 a, c⟩
theorem diag_eq {ps : List Pt} (h : Sim ps) {i k : Nat} (hi : i < ps.length) (hk : k < ps.length) : diagI ps i k = diagS ps i k := by
  rw [Bool.eq_iff_iff, diagI_iff h hi hk, diagS_iff h hi hk]
  constructor
  · rintro ⟨a, b⟩
    rw [loc_cone h a] at b
    refine ⟨a, ?_⟩
    cases hc : coneB ps i k
    · rw [hc] at b; simp at b
    · rfl
  · rintro ⟨a, b⟩
    refine ⟨a, ?_⟩
    rw [loc_cone h a, b]; rfl
theorem diag_symm {ps : List Pt} (h : Sim ps) {i k : Nat} (hi : i < ps.length) (hk : k < ps.length) : diagI ps k i = diagI ps i k := by
  rw [Bool.eq_iff_iff, diagI_iff h hi hk, diagI_iff h hk hi]
  have e : midP (gp ps k) (gp ps i) = midP (gp ps i) (gp ps k) := by unfold midP; rw [Int.add_comm, Int.add_comm (gp ps k).y]
  rw [e]
  exact ⟨fun ⟨a, b⟩ => ⟨a.symm, b⟩, fun ⟨a, b⟩ => ⟨a.symm, b⟩⟩
/-- A polygon with more than three corners has a diagonal (counterclockwise). -/
theorem diag_ex {ps : List Pt} (h : Sim ps) (h4 : 4 ≤ ps.length) (hL : Lft ps = 1) : ∃ i k, i < ps.length ∧ k < ps.length ∧ diagI ps i k = true := by
  obtain ⟨v, z, d, c, hd, ed, l1, l2⟩ := good_chord h h4 hL
  refine ⟨v, z, c.hi, c.hk, ?_⟩
  rw [diagI_iff h c.hi c.hk]
  refine ⟨c, ?_⟩
  rw [loc_cone h c]
  obtain ⟨hi, ev⟩ := pred_ex c.hi
  have S := sgn_ok _ ps rfl h
  unfold coneB
  rw [if_neg (show ¬ areaL ps < 0 by rcases S with h | h <;> omega)]
  generalize (v + ps.length - 1) % ps.length = i at hi ev
  have e2 : (i + 2) % ps.length = (v + 1) % ps.length := by rw [← mod2, ev]
  have CL := chord_lft h hi (by rw [ev]; exact c) hd (by rw [ev]; exact ed)
  rw [ev, e2, l1, l2, hL] at CL
  have oc := out_cases (gp ps i) (gp ps v) (gp ps ((v + 1) % ps.length)) (gp ps z)
  rcases oc with ⟨o1, _⟩ | ⟨_, o2⟩
  · rw [decide_eq_true o1]; rfl
  · omega
end Go.Proofs.Ytcebmcbglhkkfaa
/- Where a point lies of a convex polygon: both ways to tell it. No program in sight. -/
set_option linter.unusedVariables false
set_option linter.unusedSimpArgs false
namespace Go.Proofs.Ytcebmcbglhkkfaa
open Go.RowKit

theorem sep_id (u v a b q : Pt) : (u.y - v.y) * trn a b q = trn u v a * (b.y - q.y) + trn u v b * (q.y - a.y) - (b.y - a.y) * trn u v q := by unfold trn; grind
/-- Beyond a line that has the polygon at its other side nothing is left of it. -/
theorem wn_sep {ps : List Pt} {u v q : Pt} (hq : trn u v q < 0) (h : ∀ p ∈ ps, 0 ≤ trn u v p) (h0 : 0 < ps.length) : wn ps q = 0 := by
  have key : ∀ a b, 0 ≤ trn u v a → 0 ≤ trn u v b → a.y ≤ q.y → q.y < b.y → 0 < (u.y - v.y) * trn a b q := fun a b ha hb h1 h2 => by
    have e := sep_id u v a b q
    have p1 := Int.mul_nonneg ha (show 0 ≤ b.y - q.y by omega)
    have p2 := Int.mul_nonneg hb (show 0 ≤ q.y - a.y by omega)
    have p3 := Int.mul_pos (show 0 < b.y - a.y by omega) (show 0 < -trn u v q by omega)
    rw [Int.mul_neg] at p3
    omega
  have mem : ∀ k, k < ps.length → 0 ≤ trn u v (gp ps k) := fun k hk => h _ (gp_mem hk)
  unfold wn
  by_cases hα : 0 < u.y - v.y
  · have e : ∀ k, k < ps.length → cw (gp ps k) (gp ps ((k + 1) % ps.length)) q = (fun j => if q.y < (gp ps j).y then (1 : Int) else 0) ((k + 1) % ps.length) - (fun j => if q.y < (gp ps j).y then (1 : Int) else 0) k := fun k hk => by
      have m1 := mem k hk
      have m2 := mem _ (Nat.mod_lt (k + 1) h0)
      show cw (gp ps k) (gp ps ((k + 1) % ps.length)) q = (if q.y < (gp ps ((k + 1) % ps.length)).y then 1 else 0) - (if q.y < (gp ps k).y then 1 else 0)
      generalize gp ps k = a at *
      generalize gp ps ((k + 1) % ps.length) = b at *
      by_cases c1 : q.y < a.y
      · by_cases c2 : q.y < b.y
        · rw [cw_hi c1 c2, if_pos c1, if_pos c2]; rfl
        · have t := prod_pos (key b a m2 m1 (by omega) c1) hα
          have f := trn_flip b a q
          rw [cw_in2 (by omega) c1, if_pos (by omega), if_pos c1, if_neg c2]; rfl
      · by_cases c2 : q.y < b.y
        · have t := prod_pos (key a b m1 m2 (by omega) c2) hα
          rw [cw_in (by omega) c2, if_pos t, if_neg c1, if_pos c2]; rfl
        · rw [cw_lo (by omega) (by omega), if_neg c1, if_neg c2]; rfl
    rw [sumN_congr e]
    exact sumN_cyc (fun j => if q.y < (gp ps j).y then (1 : Int) else 0) h0
  · refine sumN_zero fun k hk => ?_
    have m1 := mem k hk
    have m2 := mem _ (Nat.mod_lt (k + 1) h0)
    generalize gp ps k = a at *
    generalize gp ps ((k + 1) % ps.length) = b at *
    have no : ∀ c d, 0 ≤ trn u v c → 0 ≤ trn u v d → c.y ≤ q.y → q.y < d.y → ¬ 0 < trn c d q := fun c d h1 h2 h3 h4 hh => by
      have := key c d h1 h2 h3 h4
      have := Int.mul_nonneg (show 0 ≤ -(u.y - v.y) by omega) (show 0 ≤ trn c d q by omega)
      rw [Int.neg_mul] at this
      omega
    have f := trn_flip b a q
    rcases cw_cases a b q with ⟨⟨x1, x2, x3⟩, _⟩ | ⟨⟨x1, x2, x3⟩, _⟩ | ⟨_, _, x⟩
    · exact absurd x3 (no a b m1 m2 x1 x2)
    · exact absurd (show 0 < trn b a q by omega) (no b a m2 m1 x1 x2)
    · exact x
theorem least_le {ps : List Pt} {q : Pt} : ∀ {k i : Nat}, i < k → leastTo ps q k ≤ sgn (trn (gp ps i) (gp ps ((i + 1) % ps.length)) q)
  | 0, i, h => absurd h (Nat.not_lt_zero _)
  | k + 1, i, h => by
    unfold leastTo
    rw [Int.min_def]
    by_cases e : i = k
    · subst e; split <;> omega
    · have := least_le (ps := ps) (q := q) (k := k) (i := i) (by omega)
      split <;> omega
theorem least_ex {ps : List Pt} {q : Pt} : ∀ k, leastTo ps q k = 1 ∨ ∃ i, i < k ∧ leastTo ps q k = sgn (trn (gp ps i) (gp ps ((i + 1) % ps.length)) q)
  | 0 => .inl rfl
  | k + 1 => by
    unfold leastTo
    rw [Int.min_def]
    split
    · rcases least_ex (ps := ps) (q := q) k with h | ⟨i, hi, h⟩
      · exact .inl h
      · exact .inr ⟨i, by omega, h⟩
    · exact .inr ⟨k, by omega, rfl⟩
theorem sgn_is (x : Int) : (0 < x ∧ sgn x = 1) ∨ (x = 0 ∧ sgn x = 0) ∨ (x < 0 ∧ sgn x = -1) := by
  rcases Int.lt_trichotomy x 0 with h | h | h
  · exact .inr (.inr ⟨h, sgn_neg h⟩)
  · exact .inr (.inl ⟨h, by rw [h]; rfl⟩)
  · exact .inl ⟨h, sgn_pos h⟩
/-- A point of an edge's line that is not beyond the edges beside it. -/
theorem on_between {d a v b q : Pt} (h0 : trn a v q = 0) (hd : 0 < trn d a v) (hb : 0 < trn a v b) (h1 : 0 ≤ trn d a q) (h2 : 0 ≤ trn v b q) : onSeg a v q = true := by
  have hav : a ≠ v := fun e => by subst e; rw [show trn a a b = 0 by unfold trn; grind] at hb; omega
  have sp := sqd_pos hav
  have e1 : sqd a v * trn d a q = wgt a v q * trn d a v := by unfold sqd wgt trn at *; grind
  have e2 : sqd a v * trn v b q = wgt v a q * trn a v b := by unfold sqd wgt trn at *; grind
  have w1 : 0 ≤ wgt a v q := by
    refine Classical.byContradiction fun hn => ?_
    have := mul_lt0 hd (show wgt a v q < 0 by omega)
    have := Int.mul_nonneg (show 0 ≤ sqd a v by omega) h1
    have e : trn d a v * wgt a v q = wgt a v q * trn d a v := Int.mul_comm _ _
    omega
  have w2 : 0 ≤ wgt v a q := by
    refine Classical.byContradiction fun hn => ?_
    have := mul_lt0 hb (show wgt v a q < 0 by omega)
    have := Int.mul_nonneg (show 0 ≤ sqd a v by omega) h2
    have e : trn a v b * wgt v a q = wgt v a q * trn a v b := Int.mul_comm _ _
    omega
  unfold onSeg
  rw [h0]
  simp only [decide_true, Bool.true_and, decide_eq_true_eq]
  refine Classical.byContradiction fun hn => ?_
  have e3 : sqd a v * ((a.x - q.x) * (v.x - q.x) + (a.y - q.y) * (v.y - q.y)) = -(wgt a v q * wgt v a q) := by unfold sqd wgt trn at *; grind
  have p1 := Int.mul_nonneg w1 w2
  have p2 := Int.mul_pos sp (show 0 < (a.x - q.x) * (v.x - q.x) + (a.y - q.y) * (v.y - q.y) by omega)
  omega
theorem conv_loc {ps : List Pt} (h : convB ps = true) (q : Pt) : locI ps q = leastTo ps q ps.length := by
  have hc := convB_conv h
  unfold convB leftB at h
  simp only [Bool.and_eq_true, List.all_eq_true, List.mem_range, decide_eq_true_eq] at h
  obtain ⟨hs, hl⟩ := h
  have S := sim_of hs
  have h3 := S.three
  have hn : 0 < ps.length := by omega
  have lo : ∀ {i v : Nat}, i < ps.length → v < ps.length → v ≠ i → v ≠ (i + 1) % ps.length → 0 < trn (gp ps i) (gp ps ((i + 1) % ps.length)) (gp ps v) := fun hi hv a b => left_of hc S.nodup hi hv a b
  have lo0 : ∀ {i v : Nat}, i < ps.length → v < ps.length → 0 ≤ trn (gp ps i) (gp ps ((i + 1) % ps.length)) (gp ps v) := fun {i v} hi hv => by
    by_cases a : v = i
    · rw [a, show trn (gp ps i) (gp ps ((i + 1) % ps.length)) (gp ps i) = 0 from trn_aba _ _]; omega
    · by_cases b : v = (i + 1) % ps.length
      · rw [b, show trn (gp ps i) (gp ps ((i + 1) % ps.length)) (gp ps ((i + 1) % ps.length)) = 0 from trn_abb _ _]; omega
      · have := lo hi hv a b; omega
  have bd := least_bd ps q ps.length
  by_cases hneg : ∃ j, j < ps.length ∧ trn (gp ps j) (gp ps ((j + 1) % ps.length)) q < 0
  · obtain ⟨j, hj, hq⟩ := hneg
    have L := least_neg (ps := ps) (q := q) hj hq
    have off : ∀ i, i < ps.length → onSeg (gp ps i) (gp ps ((i + 1) % ps.length)) q = false := fun i hi => by
      rw [← Bool.not_eq_true]
      intro hh
      have m0 := onS_iff hh
      obtain ⟨w1, w2, w3⟩ := seg_wgt hh
      have hi1 : (i + 1) % ps.length < ps.length := Nat.mod_lt _ hn
      have mi := mod_next hi
      have sp := sqd_pos (sim_ne S hi hi1 (by split at mi <;> omega))
      have s1 := sqd_nn (gp ps i) q
      have s2 := sqd_nn (gp ps ((i + 1) % ps.length)) q
      have e := seg_side m0 (gp ps j) (gp ps ((j + 1) % ps.length))
      have p1 := Int.mul_nonneg (show 0 ≤ wgt (gp ps ((i + 1) % ps.length)) (gp ps i) q by omega) (lo0 hj hi)
      have p2 := Int.mul_nonneg (show 0 ≤ wgt (gp ps i) (gp ps ((i + 1) % ps.length)) q by omega) (lo0 hj hi1)
      have p3 := mul_lt0 sp hq
      omega
    rw [locI_off off, wn_sep hq (fun p hp => by
      obtain ⟨k, hk, rfl⟩ := List.getElem_of_mem hp
      rw [← gp_lt hk]
      exact lo0 hj hk) hn]
    simp; omega
  · have nn : ∀ j, j < ps.length → 0 ≤ trn (gp ps j) (gp ps ((j + 1) % ps.length)) q := fun j hj => by
      refine Classical.byContradiction fun hh => hneg ⟨j, hj, by omega⟩
    by_cases hz : ∃ j, j < ps.length ∧ trn (gp ps j) (gp ps ((j + 1) % ps.length)) q = 0
    · obtain ⟨j, hj, hq⟩ := hz
      have L1 := least_le (ps := ps) (q := q) hj
      rw [hq] at L1
      have L1 : leastTo ps q ps.length ≤ 0 := L1
      have L2 : 0 ≤ leastTo ps q ps.length := by
        rcases least_ex (ps := ps) (q := q) ps.length with e | ⟨i, hi, e⟩
        · omega
        · have := nn i hi
          rcases sgn_is (trn (gp ps i) (gp ps ((i + 1) % ps.length)) q) with s | s | s <;> omega
      obtain ⟨hp, ep⟩ := pred_ex hj
      generalize (j + ps.length - 1) % ps.length = i at hp ep
      have hj1 : (j + 1) % ps.length < ps.length := Nat.mod_lt _ hn
      have c1 := hl i hp
      rw [ep, show (i + 2) % ps.length = (j + 1) % ps.length by rw [← mod2, ep]] at c1
      have c2 := hl j hj
      have n1 := nn i hp
      rw [ep] at n1
      have n2 := nn _ hj1
      rw [mod2] at n2
      have on := on_between hq c1 c2 n1 n2
      have : onAny ps q = true := by
        unfold onAny
        rw [List.any_eq_true]
        exact ⟨j, List.mem_range.2 hj, on⟩
      unfold locI
      rw [this]
      simp; omega
    · have pp : ∀ j, j < ps.length → 0 < trn (gp ps j) (gp ps ((j + 1) % ps.length)) q := fun j hj => by
        have := nn j hj
        refine Classical.byContradiction fun hh => hz ⟨j, hj, by omega⟩
      have L : leastTo ps q ps.length = 1 := by
        rcases least_ex (ps := ps) (q := q) ps.length with e | ⟨i, hi, e⟩
        · exact e
        · rw [e, sgn_pos (pp i hi)]
      have off : ∀ i, i < ps.length → onSeg (gp ps i) (gp ps ((i + 1) % ps.length)) q = false := fun i hi => onS_no (by have := pp i hi; omega)
      have hi : 0 < ps.length := hn
      have mi := mod_next hi
      have hv : (0 + 1) % ps.length < ps.length := Nat.mod_lt _ hn
      have mv := mod_next hv
      rw [mod2] at mv
      have q1 := pp 0 hi
      have q2 := pp _ hv
      rw [mod2] at q2
      have see := wn_see S hi (x := q) (fun e => by rw [e, show trn (gp ps 0) (gp ps ((0 + 1) % ps.length)) (gp ps ((0 + 1) % ps.length)) = 0 from trn_abb _ _] at q1; omega) (fun j hj j1 j2 => by
        have hj1 : (j + 1) % ps.length < ps.length := Nat.mod_lt _ hn
        have mj := mod_next hj
        have k1 : (0 + 1) % ps.length ≠ (j + 1) % ps.length := fun e => by split at mi <;> split at mj <;> omega
        have tv := lo hj hv (Ne.symm j2) k1
        have tq := pp j hj
        have inner : ∀ p, trn (gp ps j) (gp ps ((j + 1) % ps.length)) p = 0 → onSeg (gp ps ((0 + 1) % ps.length)) q p = false := fun p hp => by
          rw [← Bool.not_eq_true]
          intro hh
          have m0 := onS_iff hh
          obtain ⟨w1, w2, w3⟩ := seg_wgt hh
          have s1 := sqd_nn (gp ps ((0 + 1) % ps.length)) p
          have s2 := sqd_nn q p
          have e := seg_side m0 (gp ps j) (gp ps ((j + 1) % ps.length))
          rw [hp, Int.mul_zero] at e
          have vq : gp ps ((0 + 1) % ps.length) ≠ q := fun e => by rw [e, show trn (gp ps 0) q q = 0 from trn_abb _ _] at q1; omega
          have sp := sqd_pos vq
          rcases Int.lt_or_le 0 (wgt q (gp ps ((0 + 1) % ps.length)) p) with hw | hw
          · have p1 := Int.mul_pos hw tv
            have p2 := Int.mul_nonneg (show 0 ≤ wgt (gp ps ((0 + 1) % ps.length)) q p by omega) (show 0 ≤ trn (gp ps j) (gp ps ((j + 1) % ps.length)) q by omega)
            omega
          · have p1 := Int.mul_nonneg (show 0 ≤ wgt q (gp ps ((0 + 1) % ps.length)) p by omega) (show 0 ≤ trn (gp ps j) (gp ps ((j + 1) % ps.length)) (gp ps ((0 + 1) % ps.length)) by omega)
            have p2 := Int.mul_pos (show 0 < wgt (gp ps ((0 + 1) % ps.length)) q p by omega) tq
            omega
        exact ⟨onS_no (by omega), onS_no (by omega), inner _ (trn_aba _ _), inner _ (trn_abb _ _), fun hh => by rcases hh.1 with x | x <;> omega⟩) (fun e => by omega) (fun e => by
          have f := trn_flip (gp ps ((0 + 1) % ps.length)) (gp ps ((0 + 2) % ps.length)) q
          omega)
      rw [locI_off off, see, conv_Lft S hl, show out01 (gp ps 0) (gp ps ((0 + 1) % ps.length)) (gp ps ((0 + 2) % ps.length)) q = 0 from if_pos (.inl ⟨hl 0 hi, q1, q2⟩), L]
      rfl
end Go.Proofs.Ytcebmcbglhkkfaa
