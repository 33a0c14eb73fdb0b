
import Derived.Test.YtcebmcbglhkkfaaRelM
/- The signed crossings of a ray: an edge that does not meet a path. No program in sight. -/
set_option linter.unusedVariables false
set_option linter.unusedSimpArgs false
namespace Go.Proofs.Ytcebmcbglhkkfaa
open Go.RowKit

/-- The signed crossing of the edge a b with the ray to the east of q. -/
def cw (a b q : Pt) : Int := if a.y ≤ q.y ∧ q.y < b.y ∧ 0 < trn a b q then 1 else if b.y ≤ q.y ∧ q.y < a.y ∧ trn a b q < 0 then -1 else 0
/-- Whether x is east of the path q r. -/
def eastOf (q r x : Pt) : Int := if q.y < x.y ∧ x.y ≤ r.y ∧ trn q r x < 0 then 1 else if r.y < x.y ∧ x.y ≤ q.y ∧ 0 < trn q r x then -1 else 0
theorem trn_flip (a b c : Pt) : trn b a c = -trn a b c := by unfold trn; grind
theorem cw_swap (a b q : Pt) : cw b a q = -cw a b q := by
  unfold cw
  rw [trn_flip]
  split <;> split <;> (try split) <;> (try split) <;> omega
theorem east_swap (q r x : Pt) : eastOf r q x = -eastOf q r x := by
  unfold eastOf
  rw [trn_flip]
  split <;> split <;> (try split) <;> (try split) <;> omega
/-- Two segments without a common point. -/
structure Dj (a b q r : Pt) : Prop where
  nq : onSeg a b q = false
  nr : onSeg a b r = false
  na : onSeg q r a = false
  nb : onSeg q r b = false
  nx : ¬ (((0 < trn a b q ∧ trn a b r < 0) ∨ (trn a b q < 0 ∧ 0 < trn a b r)) ∧ ((0 < trn q r a ∧ trn q r b < 0) ∨ (trn q r a < 0 ∧ 0 < trn q r b)))
theorem onSeg_swap (a b p : Pt) : onSeg b a p = onSeg a b p := by
  unfold onSeg
  rw [trn_flip, Bool.eq_iff_iff]
  simp only [Bool.and_eq_true, decide_eq_true_eq]
  have e : (b.x - p.x) * (a.x - p.x) + (b.y - p.y) * (a.y - p.y) = (a.x - p.x) * (b.x - p.x) + (a.y - p.y) * (b.y - p.y) := by grind
  rw [e]
  omega
theorem Dj.swap1 {a b q r : Pt} (h : Dj a b q r) : Dj b a q r := by
  refine ⟨by rw [onSeg_swap]; exact h.nq, by rw [onSeg_swap]; exact h.nr, h.nb, h.na, ?_⟩
  have := h.nx
  rw [trn_flip a b q, trn_flip a b r]
  omega
theorem Dj.swap2 {a b q r : Pt} (h : Dj a b q r) : Dj a b r q := by
  refine ⟨h.nr, h.nq, by rw [onSeg_swap]; exact h.na, by rw [onSeg_swap]; exact h.nb, ?_⟩
  have := h.nx
  rw [trn_flip q r a, trn_flip q r b]
  omega
theorem Dj.turn {a b q r : Pt} (h : Dj a b q r) : Dj q r a b := ⟨h.na, h.nb, h.nq, h.nr, fun hh => h.nx ⟨hh.2, hh.1⟩⟩
theorem sgn_lt {u v : Int} (h1 : 0 < u) (h2 : v < 0) : sgn u * sgn v < 0 := by rw [sgn_pos h1, sgn_neg h2]; omega
theorem sgn_lt2 {u v : Int} (h1 : u < 0) (h2 : 0 < v) : sgn u * sgn v < 0 := by rw [sgn_neg h1, sgn_pos h2]; omega
theorem rel_dj {a b q r : Pt} (h : relI (a, b) (q, r) = 0) : Dj a b q r := by
  unfold relI relOf at h
  have h0 : (cmn (a, b) (q, r)).length = 0 := by
    by_cases h0 : (cmn (a, b) (q, r)).length = 0
    · exact h0
    · rw [if_neg h0] at h; split at h <;> omega
  rw [if_pos h0] at h
  have hc : crossB (a, b) (q, r) = false := by
    cases hx : crossB (a, b) (q, r)
    · rfl
    · rw [hx] at h; simp at h
  have hn : ∀ p, p ∉ cmn (a, b) (q, r) := fun p hp => by
    rw [List.length_eq_zero_iff] at h0
    rw [h0] at hp; cases hp
  have key : ∀ p, p ∈ [a, b, q, r] → onSeg a b p = true → onSeg q r p = true → False := fun p hp h1 h2 => by
    refine hn p (cmn_mem.2 ?_)
    unfold cmnA
    rw [List.mem_filter]
    exact ⟨hp, by rw [Bool.and_eq_true]; exact ⟨h1, h2⟩⟩
  refine ⟨?_, ?_, ?_, ?_, ?_⟩
  · rw [← Bool.not_eq_true]; exact fun hh => key q (by simp) hh (onSeg_end1 _ _)
  · rw [← Bool.not_eq_true]; exact fun hh => key r (by simp) hh (onSeg_end2 _ _)
  · rw [← Bool.not_eq_true]; exact fun hh => key a (by simp) (onSeg_end1 _ _) hh
  · rw [← Bool.not_eq_true]; exact fun hh => key b (by simp) (onSeg_end2 _ _) hh
  · rintro ⟨h1, h2⟩
    have : crossB (a, b) (q, r) = true := by
      unfold crossB
      rw [Bool.and_eq_true, decide_eq_true_eq, decide_eq_true_eq]
      refine ⟨?_, ?_⟩
      · rcases h1 with ⟨u, v⟩ | ⟨u, v⟩
        · exact sgn_lt u v
        · exact sgn_lt2 u v
      · rcases h2 with ⟨u, v⟩ | ⟨u, v⟩
        · exact sgn_lt u v
        · exact sgn_lt2 u v
    rw [hc] at this; cases this
theorem sq_nonneg' (x : Int) : 0 ≤ x * x := by
  rcases Int.le_total 0 x with h | h
  · exact Int.mul_nonneg h h
  · exact Int.mul_nonneg_of_nonpos_of_nonpos h h
/-- A point of the line of a b, between in height. -/
theorem on_of_y {a b p : Pt} (h : trn a b p = 0) (hy : a.y < b.y) (h1 : a.y ≤ p.y) (h2 : p.y ≤ b.y) : onSeg a b p = true := by
  unfold onSeg
  rw [h]
  simp only [decide_true, Bool.true_and, decide_eq_true_eq]
  have e1 : (a.x - p.x) * (b.y - a.y) = -((b.x - a.x) * (p.y - a.y)) := by unfold trn at h; grind
  have e2 : (b.x - p.x) * (b.y - a.y) = (b.x - a.x) * (b.y - p.y) := by unfold trn at h; grind
  have k : (a.x - p.x) * (b.x - p.x) ≤ 0 := by
    refine Classical.byContradiction fun hn => ?_
    have hd : 0 < (b.y - a.y) * (b.y - a.y) := Int.mul_pos (by omega) (by omega)
    have p1 : 0 < (a.x - p.x) * (b.x - p.x) * ((b.y - a.y) * (b.y - a.y)) := Int.mul_pos (by omega) hd
    have e3 : (a.x - p.x) * (b.x - p.x) * ((b.y - a.y) * (b.y - a.y)) = -(((b.x - a.x) * (b.x - a.x)) * ((p.y - a.y) * (b.y - p.y))) := by
      have : (a.x - p.x) * (b.x - p.x) * ((b.y - a.y) * (b.y - a.y)) = ((a.x - p.x) * (b.y - a.y)) * ((b.x - p.x) * (b.y - a.y)) := by grind
      rw [this, e1, e2]; grind
    have p2 : 0 ≤ ((b.x - a.x) * (b.x - a.x)) * ((p.y - a.y) * (b.y - p.y)) := Int.mul_nonneg (sq_nonneg' _) (Int.mul_nonneg (by omega) (by omega))
    omega
  have k2 : (a.y - p.y) * (b.y - p.y) ≤ 0 := by
    have := Int.mul_nonneg (show 0 ≤ p.y - a.y by omega) (show 0 ≤ b.y - p.y by omega)
    have e : (a.y - p.y) * (b.y - p.y) = -((p.y - a.y) * (b.y - p.y)) := by grind
    omega
  omega
/-- The sides in heights. -/
theorem side_y (a b q r c : Pt) (hc : trn a b c = 0) : trn q r c * (b.y - a.y) = -(trn a b q * (r.y - q.y)) - (trn a b r - trn a b q) * (c.y - q.y) := by
  unfold trn at *; grind
theorem side_ya (a b q r : Pt) : trn q r a * (b.y - a.y) = -(trn a b q * (r.y - q.y)) - (trn a b r - trn a b q) * (a.y - q.y) := side_y a b q r a (by unfold trn; grind)
theorem side_yb (a b q r : Pt) : trn q r b * (b.y - a.y) = -(trn a b q * (r.y - q.y)) - (trn a b r - trn a b q) * (b.y - q.y) := side_y a b q r b (by unfold trn; grind)
/-! Four ways in which two segments' heights overlap; d e: their heights; T S: sides. -/
theorem ovl3 {d e aq bq Tq Tr Sa Sb : Int} (hd : 0 < d) (he : 0 < e) (ia : Sa * d = -(Tq * e) - (Tr - Tq) * aq) (ib : Sb * d = -(Tq * e) - (Tr - Tq) * bq) (h1 : aq ≤ 0) (h2 : 0 < bq) (h3 : bq ≤ e) (hT : 0 < Tq) (hS : 0 < Sb) : Tr < 0 ∧ Sa < 0 := by
  have p1 : 0 < Sb * d := Int.mul_pos hS hd
  have p2 : 0 ≤ Tq * (e - bq) := Int.mul_nonneg (by omega) (by omega)
  have p3 : Tr * bq < 0 := by
    have e1 : Tr * bq = -(Sb * d) - Tq * (e - bq) := by grind
    omega
  have hr : Tr < 0 := by
    refine Classical.byContradiction fun hn => ?_
    have := Int.mul_nonneg (show 0 ≤ Tr by omega) (show 0 ≤ bq by omega)
    omega
  refine ⟨hr, ?_⟩
  have p4 : 0 < Tq * e := Int.mul_pos hT he
  have p5 : 0 ≤ (Tq - Tr) * (-aq) := Int.mul_nonneg (by omega) (by omega)
  have p6 : Sa * d < 0 := by
    have e1 : Sa * d = -(Tq * e) - (Tq - Tr) * (-aq) := by grind
    omega
  refine Classical.byContradiction fun hn => ?_
  have := Int.mul_nonneg (show 0 ≤ Sa by omega) (show 0 ≤ d by omega)
  omega
theorem ovl4 {d e aq bq Tq Tr Sa Sb : Int} (hd : 0 < d) (he : 0 < e) (ia : Sa * d = -(Tq * e) - (Tr - Tq) * aq) (ib : Sb * d = -(Tq * e) - (Tr - Tq) * bq) (h1 : 0 < aq) (h2 : aq ≤ e) (h3 : e < bq) (hT : 0 < Tr) (hS : 0 < Sa) : Tq < 0 ∧ Sb < 0 := by
  have p1 : 0 < Sa * d := Int.mul_pos hS hd
  have p2 : 0 ≤ Tr * aq := Int.mul_nonneg (by omega) (by omega)
  have p3 : Tq * (e - aq) < 0 := by
    have e1 : Tq * (e - aq) = -(Sa * d) - Tr * aq := by grind
    omega
  have hq : Tq < 0 := by
    refine Classical.byContradiction fun hn => ?_
    have := Int.mul_nonneg (show 0 ≤ Tq by omega) (show 0 ≤ e - aq by omega)
    omega
  refine ⟨hq, ?_⟩
  have p4 : 0 < Tr * e := Int.mul_pos hT he
  have p5 : 0 ≤ (Tr - Tq) * (bq - e) := Int.mul_nonneg (by omega) (by omega)
  have p6 : Sb * d < 0 := by
    have e1 : Sb * d = -(Tr * e) - (Tr - Tq) * (bq - e) := by grind
    omega
  refine Classical.byContradiction fun hn => ?_
  have := Int.mul_nonneg (show 0 ≤ Sb by omega) (show 0 ≤ d by omega)
  omega
theorem ovl5 {d e aq bq Tq Tr Sa Sb : Int} (hd : 0 < d) (he : 0 ≤ e) (ia : Sa * d = -(Tq * e) - (Tr - Tq) * aq) (ib : Sb * d = -(Tq * e) - (Tr - Tq) * bq) (h1 : aq ≤ 0) (h1' : 0 < e ∨ aq < 0) (h3 : e < bq) (hT : 0 < Tq) (hS : Tr < 0) : Sa < 0 ∧ 0 < Sb := by
  have p1 : 0 ≤ Tq * e := Int.mul_nonneg (by omega) he
  have p2 : 0 ≤ (Tq - Tr) * (-aq) := Int.mul_nonneg (by omega) (by omega)
  have p0 : 0 < Tq * e + (Tq - Tr) * (-aq) := by
    rcases h1' with h | h
    · have := Int.mul_pos hT h; omega
    · have := Int.mul_pos (show 0 < Tq - Tr by omega) (show 0 < -aq by omega); omega
  have p3 : Sa * d < 0 := by
    have e1 : Sa * d = -(Tq * e) - (Tq - Tr) * (-aq) := by grind
    omega
  have p4 : 0 < (Tq - Tr) * (bq - e) := Int.mul_pos (by omega) (by omega)
  have p5 : 0 ≤ -Tr * e := Int.mul_nonneg (by omega) he
  have p6 : 0 < Sb * d := by
    have e1 : Sb * d = -Tr * e + (Tq - Tr) * (bq - e) := by grind
    omega
  refine ⟨?_, ?_⟩
  · refine Classical.byContradiction fun hn => ?_
    have := Int.mul_nonneg (show 0 ≤ Sa by omega) (show 0 ≤ d by omega)
    omega
  · refine Classical.byContradiction fun hn => ?_
    have := Int.mul_nonneg (show 0 ≤ -Sb by omega) (show 0 ≤ d by omega)
    have e1 : -Sb * d = -(Sb * d) := by grind
    omega
theorem trn_ne {a b p : Pt} (h : onSeg a b p = false) (hy : a.y < b.y) (h1 : a.y ≤ p.y) (h2 : p.y ≤ b.y) : trn a b p ≠ 0 := fun h0 => by
  rw [on_of_y h0 hy h1 h2] at h; cases h
/-- On a level segment. -/
theorem on_level {a b p : Pt} (hy : a.y = b.y) (hp : p.y = a.y) (hx : (a.x - p.x) * (b.x - p.x) ≤ 0) : onSeg a b p = true := by
  unfold onSeg
  have h1 : trn a b p = 0 := by unfold trn; rw [hp, hy]; grind
  rw [h1]
  have h2 : (a.y - p.y) * (b.y - p.y) = 0 := by rw [hp]; simp
  rw [h2]
  simp; omega
theorem neg_id {S d T e R x : Int} (h : S * d = -(T * e) - (R - T) * x) : -S * d = -(-T * e) - (-R - -T) * x := by grind
theorem iff3 {a b q r : Pt} (h : Dj a b q r) (hab : a.y < b.y) (hqr : q.y < r.y) (h1 : a.y ≤ q.y) (h2 : q.y < b.y) (h3 : b.y ≤ r.y) : 0 < trn a b q ↔ trn q r b < 0 := by
  have ia := side_ya a b q r
  have ib := side_yb a b q r
  have nq := trn_ne h.nq hab h1 (by omega)
  have nb := trn_ne h.nb hqr (by omega) h3
  have hx := h.nx
  constructor
  · intro ht
    refine Classical.byContradiction fun hs => ?_
    obtain ⟨k1, k2⟩ := ovl3 (by omega) (by omega) ia ib (by omega) (by omega) (by omega) ht (by omega)
    exact hx ⟨.inl ⟨ht, k1⟩, .inr ⟨k2, by omega⟩⟩
  · intro hs
    refine Classical.byContradiction fun ht => ?_
    obtain ⟨k1, k2⟩ := ovl3 (by omega) (by omega) (neg_id ia) (neg_id ib) (by omega) (by omega) (by omega) (by omega) (by omega)
    exact hx ⟨.inr ⟨by omega, by omega⟩, .inl ⟨by omega, hs⟩⟩
theorem iff4 {a b q r : Pt} (h : Dj a b q r) (hab : a.y < b.y) (hqr : q.y < r.y) (h1 : q.y < a.y) (h2 : a.y ≤ r.y) (h3 : r.y < b.y) : 0 < trn a b r ↔ trn q r a < 0 := by
  have ia := side_ya a b q r
  have ib := side_yb a b q r
  have nr := trn_ne h.nr hab h2 (by omega)
  have na := trn_ne h.na hqr (by omega) h2
  have hx := h.nx
  constructor
  · intro ht
    refine Classical.byContradiction fun hs => ?_
    obtain ⟨k1, k2⟩ := ovl4 (by omega) (by omega) ia ib (by omega) (by omega) (by omega) ht (by omega)
    exact hx ⟨.inr ⟨k1, ht⟩, .inl ⟨by omega, k2⟩⟩
  · intro hs
    refine Classical.byContradiction fun ht => ?_
    obtain ⟨k1, k2⟩ := ovl4 (by omega) (by omega) (neg_id ia) (neg_id ib) (by omega) (by omega) (by omega) (by omega) (by omega)
    exact hx ⟨.inl ⟨by omega, by omega⟩, .inr ⟨hs, by omega⟩⟩
theorem iff5 {a b q r : Pt} (h : Dj a b q r) (hab : a.y < b.y) (hqr : q.y < r.y) (h1 : a.y ≤ q.y) (h3 : r.y < b.y) : 0 < trn a b q ↔ 0 < trn a b r := by
  have ia := side_ya a b q r
  have ib := side_yb a b q r
  have nq := trn_ne h.nq hab h1 (by omega)
  have nr := trn_ne h.nr hab (by omega) (by omega)
  have hx := h.nx
  constructor
  · intro ht
    refine Classical.byContradiction fun hs => ?_
    obtain ⟨k1, k2⟩ := ovl5 (by omega) (by omega) ia ib (by omega) (.inl (by omega)) (by omega) ht (by omega)
    exact hx ⟨.inl ⟨ht, by omega⟩, .inr ⟨k1, k2⟩⟩
  · intro hs
    refine Classical.byContradiction fun ht => ?_
    obtain ⟨k1, k2⟩ := ovl5 (by omega) (by omega) (neg_id ia) (neg_id ib) (by omega) (.inl (by omega)) (by omega) (by omega) (by omega)
    exact hx ⟨.inr ⟨by omega, hs⟩, .inl ⟨by omega, by omega⟩⟩
theorem iff6 {a b q r : Pt} (h : Dj a b q r) (hab : a.y < b.y) (hqr : q.y < r.y) (h1 : q.y < a.y) (h3 : b.y ≤ r.y) : trn q r b < 0 ↔ trn q r a < 0 := by
  have ia := side_ya q r a b
  have ib := side_yb q r a b
  have na := trn_ne h.na hqr (by omega) (by omega)
  have nb := trn_ne h.nb hqr (by omega) (by omega)
  have hx := h.nx
  by_cases e : b.y = r.y
  · -- the end of the one at the end of the other: third way, turned
    have hT := h.turn
    have k := iff3 hT.swap1.swap2
    constructor
    · intro hs
      refine Classical.byContradiction fun ht => ?_
      have nr := trn_ne h.nr hab (by omega) (by omega)
      have p : trn a b r * (r.y - q.y) = -(trn q r b * (b.y - a.y)) := by rw [ib, e]; grind
      have q1 : trn a b q * (r.y - q.y) = -(trn q r a * (b.y - a.y)) - (trn q r b - trn q r a) * (q.y - a.y) := ia
      have p1 : 0 < trn a b r := by
        refine Classical.byContradiction fun hn => ?_
        have := Int.mul_nonneg (show 0 ≤ -trn a b r by omega) (show 0 ≤ r.y - q.y by omega)
        have := Int.mul_pos (show 0 < -trn q r b by omega) (show 0 < b.y - a.y by omega)
        grind
      have p2 : trn a b q < 0 := by
        refine Classical.byContradiction fun hn => ?_
        have := Int.mul_nonneg (show 0 ≤ trn a b q by omega) (show 0 ≤ r.y - q.y by omega)
        have := Int.mul_pos (show 0 < trn q r a by omega) (show 0 < b.y - a.y by omega)
        have := Int.mul_pos (show 0 < trn q r a - trn q r b by omega) (show 0 < a.y - q.y by omega)
        grind
      exact hx ⟨.inr ⟨p2, p1⟩, .inl ⟨by omega, hs⟩⟩
    · intro hs
      refine Classical.byContradiction fun ht => ?_
      have p : trn a b r * (r.y - q.y) = -(trn q r b * (b.y - a.y)) := by rw [ib, e]; grind
      have q1 : trn a b q * (r.y - q.y) = -(trn q r a * (b.y - a.y)) - (trn q r b - trn q r a) * (q.y - a.y) := ia
      have p1 : trn a b r < 0 := by
        refine Classical.byContradiction fun hn => ?_
        have := Int.mul_nonneg (show 0 ≤ trn a b r by omega) (show 0 ≤ r.y - q.y by omega)
        have := Int.mul_pos (show 0 < trn q r b by omega) (show 0 < b.y - a.y by omega)
        grind
      have p2 : 0 < trn a b q := by
        refine Classical.byContradiction fun hn => ?_
        have := Int.mul_nonneg (show 0 ≤ -trn a b q by omega) (show 0 ≤ r.y - q.y by omega)
        have := Int.mul_pos (show 0 < -trn q r a by omega) (show 0 < b.y - a.y by omega)
        have := Int.mul_pos (show 0 < trn q r b - trn q r a by omega) (show 0 < a.y - q.y by omega)
        grind
      exact hx ⟨.inl ⟨p2, p1⟩, .inr ⟨hs, by omega⟩⟩
  · constructor
    · intro hs
      refine Classical.byContradiction fun ht => ?_
      obtain ⟨k1, k2⟩ := ovl5 (by omega) (by omega) ia ib (by omega) (.inl (by omega)) (by omega) (by omega) (by omega)
      exact hx ⟨.inr ⟨k1, k2⟩, .inl ⟨by omega, hs⟩⟩
    · intro hs
      refine Classical.byContradiction fun ht => ?_
      obtain ⟨k1, k2⟩ := ovl5 (by omega) (by omega) (neg_id ia) (neg_id ib) (by omega) (.inl (by omega)) (by omega) (by omega) (by omega)
      exact hx ⟨.inl ⟨by omega, by omega⟩, .inr ⟨hs, by omega⟩⟩
theorem ite_pair {p q : Prop} [Decidable p] [Decidable q] (h : p ↔ q) : (if p then (1 : Int) else 0) = if q then 1 else 0 := by
  by_cases hp : p
  · rw [if_pos hp, if_pos (h.1 hp)]
  · rw [if_neg hp, if_neg (fun hq => hp (h.2 hq))]
/-- With an edge and a path that go up. -/
theorem cw_up {a b q : Pt} (h : a.y < b.y) : cw a b q = if a.y ≤ q.y ∧ q.y < b.y ∧ 0 < trn a b q then 1 else 0 := by
  unfold cw
  split
  · rfl
  · rw [if_neg (by omega)]
theorem east_up {q r x : Pt} (h : q.y < r.y) : eastOf q r x = if q.y < x.y ∧ x.y ≤ r.y ∧ trn q r x < 0 then 1 else 0 := by
  unfold eastOf
  split
  · rfl
  · rw [if_neg (by omega)]
/-- The heart: a.y < b.y and q.y < r.y. -/
theorem path_up {a b q r : Pt} (h : Dj a b q r) (hab : a.y < b.y) (hqr : q.y < r.y) : cw a b q - cw a b r = eastOf q r b - eastOf q r a := by
  have i3 := iff3 h hab hqr
  have i4 := iff4 h hab hqr
  have i5 := iff5 h hab hqr
  have i6 := iff6 h hab hqr
  rw [cw_up hab, cw_up hab, east_up hqr, east_up hqr]
  clear h
  generalize trn a b q = Tq at *
  generalize trn a b r = Tr at *
  generalize trn q r a = Sa at *
  generalize trn q r b = Sb at *
  by_cases h1 : b.y ≤ q.y
  · rw [if_neg (by omega), if_neg (by omega), if_neg (by omega), if_neg (by omega)]
  by_cases h2 : r.y < a.y
  · rw [if_neg (by omega), if_neg (by omega), if_neg (by omega), if_neg (by omega)]
  by_cases h3 : a.y ≤ q.y <;> by_cases h4 : b.y ≤ r.y
  · have i := i3 h3 (by omega) h4
    clear i3 i4 i5 i6
    rw [if_neg (show ¬ (a.y ≤ r.y ∧ r.y < b.y ∧ 0 < Tr) by omega), if_neg (show ¬ (q.y < a.y ∧ a.y ≤ r.y ∧ Sa < 0) by omega)]
    rw [ite_pair (show (a.y ≤ q.y ∧ q.y < b.y ∧ 0 < Tq) ↔ (q.y < b.y ∧ b.y ≤ r.y ∧ Sb < 0) by omega)]
  · have i := i5 h3 (by omega)
    clear i3 i4 i5 i6
    rw [if_neg (show ¬ (q.y < b.y ∧ b.y ≤ r.y ∧ Sb < 0) by omega), if_neg (show ¬ (q.y < a.y ∧ a.y ≤ r.y ∧ Sa < 0) by omega)]
    rw [ite_pair (show (a.y ≤ q.y ∧ q.y < b.y ∧ 0 < Tq) ↔ (a.y ≤ r.y ∧ r.y < b.y ∧ 0 < Tr) by omega)]
    omega
  · have i := i6 (by omega) h4
    clear i3 i4 i5 i6
    rw [if_neg (show ¬ (a.y ≤ q.y ∧ q.y < b.y ∧ 0 < Tq) by omega), if_neg (show ¬ (a.y ≤ r.y ∧ r.y < b.y ∧ 0 < Tr) by omega)]
    rw [ite_pair (show (q.y < b.y ∧ b.y ≤ r.y ∧ Sb < 0) ↔ (q.y < a.y ∧ a.y ≤ r.y ∧ Sa < 0) by omega)]
    omega
  · have i := i4 (by omega) (by omega) (by omega)
    clear i3 i4 i5 i6
    rw [if_neg (show ¬ (a.y ≤ q.y ∧ q.y < b.y ∧ 0 < Tq) by omega), if_neg (show ¬ (q.y < b.y ∧ b.y ≤ r.y ∧ Sb < 0) by omega)]
    rw [ite_pair (show (a.y ≤ r.y ∧ r.y < b.y ∧ 0 < Tr) ↔ (q.y < a.y ∧ a.y ≤ r.y ∧ Sa < 0) by omega)]
theorem prod_neg {u v : Int} (h : u * v < 0) (hu : 0 < u) : v < 0 := by
  refine Classical.byContradiction fun hn => ?_
  have := Int.mul_nonneg (show 0 ≤ u by omega) (show 0 ≤ v by omega)
  omega
theorem prod_pos {u v : Int} (h : 0 < u * v) (hu : 0 < u) : 0 < v := by
  refine Classical.byContradiction fun hn => ?_
  have := Int.mul_nonneg (show 0 ≤ u by omega) (show 0 ≤ -v by omega)
  have e : u * -v = -(u * v) := by grind
  omega
theorem mul_lt0 {u v : Int} (hu : 0 < u) (hv : v < 0) : u * v < 0 := by
  have := Int.mul_pos hu (show 0 < -v by omega)
  have e : u * -v = -(u * v) := by grind
  omega
/-- A level edge a b has q r at its one side only. -/
theorem level_iff {a b q r : Pt} (h : Dj a b q r) (hab : a.y = b.y) (hqr : q.y < r.y) (h1 : q.y < a.y) (h2 : a.y ≤ r.y) (hs : trn q r a < 0) : trn q r b < 0 := by
  refine Classical.byContradiction fun ht => ?_
  have nb := trn_ne h.nb hqr (by omega) (by omega)
  have ia := side_ya q r a b
  have ib := side_yb q r a b
  rw [show b.y - a.y = 0 by omega, Int.mul_zero, Int.neg_zero, Int.zero_sub] at ia ib
  have p1 : 0 < (r.y - q.y) * trn a b q := by
    have := Int.mul_pos (show 0 < trn q r b - trn q r a by omega) (show 0 < a.y - q.y by omega)
    grind
  have p2 := prod_pos p1 (by omega)
  by_cases hr : r.y = a.y
  · have e1 : trn q r a = (r.y - q.y) * (r.x - a.x) := by unfold trn; rw [← hr]; grind
    have e2 : trn q r b = (r.y - q.y) * (r.x - b.x) := by unfold trn; rw [← hab, ← hr]; grind
    rw [e1] at hs
    have x1 := prod_neg hs (by omega)
    have x2 := prod_pos (show 0 < (r.y - q.y) * (r.x - b.x) by rw [← e2]; omega) (by omega)
    have := on_level (a := a) (b := b) (p := r) hab (by omega) (by
      have := mul_lt0 (show 0 < a.x - r.x by omega) (show b.x - r.x < 0 by omega)
      omega)
    rw [h.nr] at this; cases this
  · have p3 : (r.y - q.y) * trn a b r < 0 := by
      have := Int.mul_pos (show 0 < trn q r b - trn q r a by omega) (show 0 < r.y - a.y by omega)
      grind
    have p4 := prod_neg p3 (by omega)
    exact h.nx ⟨.inl ⟨p2, p4⟩, .inr ⟨hs, by omega⟩⟩
theorem level_edge {a b q r : Pt} (h : Dj a b q r) (hab : a.y = b.y) (hqr : q.y < r.y) : eastOf q r b = eastOf q r a := by
  rw [east_up hqr, east_up hqr]
  by_cases h1 : q.y < a.y ∧ a.y ≤ r.y
  · refine ite_pair ⟨fun hh => ⟨h1.1, h1.2, ?_⟩, fun hh => ⟨by omega, by omega, ?_⟩⟩
    · exact level_iff h.swap1 hab.symm hqr (by omega) (by omega) hh.2.2
    · exact level_iff h hab hqr (by omega) (by omega) hh.2.2
  · rw [if_neg (by omega), if_neg (by omega)]
theorem level_iff2 {a b q r : Pt} (h : Dj a b q r) (hab : a.y < b.y) (hqr : q.y = r.y) (h1 : a.y ≤ q.y) (h2 : q.y < b.y) (hs : 0 < trn a b q) : 0 < trn a b r := by
  refine Classical.byContradiction fun ht => ?_
  have nr := trn_ne h.nr hab (by omega) (by omega)
  have ia := side_ya a b q r
  have ib := side_yb a b q r
  rw [show r.y - q.y = 0 by omega, Int.mul_zero, Int.neg_zero, Int.zero_sub] at ia ib
  have p1 : 0 < (b.y - a.y) * trn q r b := by
    have := Int.mul_pos (show 0 < trn a b q - trn a b r by omega) (show 0 < b.y - q.y by omega)
    grind
  have p2 := prod_pos p1 (by omega)
  by_cases hr : a.y = q.y
  · have e1 : trn a b q = (b.y - a.y) * (a.x - q.x) := by unfold trn; rw [← hr]; grind
    have e2 : trn a b r = (b.y - a.y) * (a.x - r.x) := by unfold trn; rw [← hqr, ← hr]; grind
    rw [e1] at hs
    have x1 := prod_pos hs (by omega)
    have x2 := prod_neg (show (b.y - a.y) * (a.x - r.x) < 0 by rw [← e2]; omega) (by omega)
    have := on_level (a := q) (b := r) (p := a) hqr (by omega) (by
      have := mul_lt0 (show 0 < r.x - a.x by omega) (show q.x - a.x < 0 by omega)
      have e : (q.x - a.x) * (r.x - a.x) = (r.x - a.x) * (q.x - a.x) := Int.mul_comm _ _
      omega)
    rw [h.na] at this; cases this
  · have p3 : (b.y - a.y) * trn q r a < 0 := by
      have := Int.mul_pos (show 0 < trn a b q - trn a b r by omega) (show 0 < q.y - a.y by omega)
      grind
    have p4 := prod_neg p3 (by omega)
    exact h.nx ⟨.inl ⟨hs, by omega⟩, .inr ⟨p4, p2⟩⟩
theorem level_path {a b q r : Pt} (h : Dj a b q r) (hab : a.y < b.y) (hqr : q.y = r.y) : cw a b q = cw a b r := by
  rw [cw_up hab, cw_up hab]
  by_cases h1 : a.y ≤ q.y ∧ q.y < b.y
  · refine ite_pair ⟨fun hh => ⟨by omega, by omega, ?_⟩, fun hh => ⟨h1.1, h1.2, ?_⟩⟩
    · exact level_iff2 h hab hqr (by omega) (by omega) hh.2.2
    · exact level_iff2 h.swap2 hab hqr.symm (by omega) (by omega) hh.2.2
  · rw [if_neg (by omega), if_neg (by omega)]
theorem cw_level {a b q : Pt} (h : a.y = b.y) : cw a b q = 0 := by unfold cw; rw [if_neg (by omega), if_neg (by omega)]
theorem east_level {q r x : Pt} (h : q.y = r.y) : eastOf q r x = 0 := by unfold eastOf; rw [if_neg (by omega), if_neg (by omega)]
/-- An edge that a path does not meet: the crossings at the path's ends differ by what lies between. -/
theorem path_edge {a b q r : Pt} (h : Dj a b q r) : cw a b q - cw a b r = eastOf q r b - eastOf q r a := by
  rcases Int.lt_trichotomy a.y b.y with h1 | h1 | h1
  · rcases Int.lt_trichotomy q.y r.y with h2 | h2 | h2
    · exact path_up h h1 h2
    · rw [east_level h2, east_level h2, level_path h h1 h2]; omega
    · have := path_up h.swap2 h1 h2
      rw [east_swap q r, east_swap q r] at this
      omega
  · rw [cw_level h1, cw_level h1]
    rcases Int.lt_trichotomy q.y r.y with h2 | h2 | h2
    · rw [level_edge h h1 h2]; omega
    · rw [east_level h2, east_level h2]
    · have := level_edge h.swap2 h1 h2
      rw [east_swap q r, east_swap q r] at this
      omega
  · have hs := h.swap1
    rw [show cw a b q = -cw b a q from cw_swap b a q, show cw a b r = -cw b a r from cw_swap b a r]
    rcases Int.lt_trichotomy q.y r.y with h2 | h2 | h2
    · have := path_up hs h1 h2; omega
    · rw [east_level h2, east_level h2, level_path hs h1 h2]; omega
    · have := path_up hs.swap2 h1 h2
      rw [east_swap q r, east_swap q r] at this
      omega
end Go.Proofs.Ytcebmcbglhkkfaa
/- The number left of a simple polygon's edges is one number. No program in sight. -/
set_option linter.unusedVariables false
set_option linter.unusedSimpArgs false
namespace Go.Proofs.Ytcebmcbglhkkfaa
open Go.RowKit

/-- x is below q, or level with it and east of it. -/
def LowP (q x : Pt) : Prop := x.y < q.y ∨ (x.y = q.y ∧ q.x < x.x)
instance (q x : Pt) : Decidable (LowP q x) := by unfold LowP; exact inferInstance
/-- The way east lies left of the corner o q r. -/
def LeftE (o q r : Pt) : Prop := (0 < trn o q r ∧ LowP q r ∧ ¬ LowP q o) ∨ (¬ 0 < trn o q r ∧ (LowP q r ∨ ¬ LowP q o))
instance (o q r : Pt) : Decidable (LeftE o q r) := by unfold LeftE; exact inferInstance
def rho (o q r : Pt) : Int := if LeftE o q r then 0 else 1
def kap (q r : Pt) : Int := if LowP q r then 0 else 1
/-- A corner that does not turn back. -/
def Opp (o q r : Pt) : Prop := trn o q r = 0 → (LowP q o ↔ ¬ LowP q r)
theorem rho_cases (o q r : Pt) : (LeftE o q r ∧ rho o q r = 0) ∨ (¬ LeftE o q r ∧ rho o q r = 1) := by
  unfold rho; split
  · exact .inl ⟨by assumption, rfl⟩
  · exact .inr ⟨by assumption, rfl⟩
theorem kap_cases (q r : Pt) : (LowP q r ∧ kap q r = 0) ∨ (¬ LowP q r ∧ kap q r = 1) := by
  unfold kap; split
  · exact .inl ⟨by assumption, rfl⟩
  · exact .inr ⟨by assumption, rfl⟩
theorem cw_cases (a b q : Pt) : ((a.y ≤ q.y ∧ q.y < b.y ∧ 0 < trn a b q) ∧ cw a b q = 1) ∨ ((b.y ≤ q.y ∧ q.y < a.y ∧ trn a b q < 0) ∧ cw a b q = -1) ∨ (¬ (a.y ≤ q.y ∧ q.y < b.y ∧ 0 < trn a b q) ∧ ¬ (b.y ≤ q.y ∧ q.y < a.y ∧ trn a b q < 0) ∧ cw a b q = 0) := by
  unfold cw; split
  · exact .inl ⟨by assumption, rfl⟩
  · split
    · exact .inr (.inl ⟨by assumption, rfl⟩)
    · exact .inr (.inr ⟨by assumption, by assumption, rfl⟩)
theorem east_cases (q r x : Pt) : ((q.y < x.y ∧ x.y ≤ r.y ∧ trn q r x < 0) ∧ eastOf q r x = 1) ∨ ((r.y < x.y ∧ x.y ≤ q.y ∧ 0 < trn q r x) ∧ eastOf q r x = -1) ∨ (¬ (q.y < x.y ∧ x.y ≤ r.y ∧ trn q r x < 0) ∧ ¬ (r.y < x.y ∧ x.y ≤ q.y ∧ 0 < trn q r x) ∧ eastOf q r x = 0) := by
  unfold eastOf; split
  · exact .inl ⟨by assumption, rfl⟩
  · split
    · exact .inr (.inl ⟨by assumption, rfl⟩)
    · exact .inr (.inr ⟨by assumption, by assumption, rfl⟩)
theorem trn_ly {o q r : Pt} (h : o.y = q.y) : trn o q r = (r.y - q.y) * (q.x - o.x) := by unfold trn; rw [h]; grind
theorem trn_lr {o q r : Pt} (h : r.y = q.y) : trn o q r = (r.x - q.x) * (o.y - q.y) := by unfold trn; rw [h]; grind
theorem trn_ls {q r s : Pt} (h : s.y = r.y) : trn q r s = (r.y - q.y) * (r.x - s.x) := by unfold trn; rw [h]; grind
theorem trn_lq {q r s : Pt} (h : q.y = r.y) : trn q r s = (r.x - q.x) * (s.y - q.y) := by unfold trn; rw [h]; grind
theorem sg_pp {u v : Int} (hu : 0 < u) : (0 < u * v ↔ 0 < v) ∧ (u * v < 0 ↔ v < 0) :=
  ⟨⟨fun h => prod_pos h hu, fun h => Int.mul_pos hu h⟩, ⟨fun h => prod_neg h hu, fun h => mul_lt0 hu h⟩⟩
theorem sg_np {u v : Int} (hu : u < 0) : (0 < u * v ↔ v < 0) ∧ (u * v < 0 ↔ 0 < v) := by
  have := sg_pp (u := -u) (v := v) (by omega)
  rw [Int.neg_mul] at this
  omega
theorem arrive {o q r : Pt} (hqr : q ≠ r) (hoq : o ≠ q) (hop : Opp o q r) : eastOf q r o - cw o q r + rho o q r = kap q r := by
  have hT : trn q r o = trn o q r := (trn_rot o q r).symm
  have f1 := fun h : o.y = q.y => trn_ly (r := r) h
  have f2 := fun h : r.y = q.y => trn_lr (o := o) h
  have hne : q.x ≠ r.x ∨ q.y ≠ r.y := Classical.byContradiction fun hn => hqr (pt_eq (by omega) (by omega))
  have hne2 : o.x ≠ q.x ∨ o.y ≠ q.y := Classical.byContradiction fun hn => hoq (pt_eq (by omega) (by omega))
  unfold Opp at hop
  have e1 := east_cases q r o
  have e2 := cw_cases o q r
  have e3 := rho_cases o q r
  have e4 := kap_cases q r
  unfold LeftE at e3
  rw [hT] at e1
  clear hT
  generalize eastOf q r o = E at *
  generalize cw o q r = C at *
  generalize rho o q r = R at *
  generalize kap q r = K at *
  unfold LowP at *
  generalize trn o q r = T at *
  rcases Int.lt_trichotomy r.y q.y with h | h | h
  · have g : o.y = q.y → (0 < T ↔ q.x < o.x) ∧ (T < 0 ↔ o.x < q.x) := fun e => by
      have := sg_np (u := r.y - q.y) (v := q.x - o.x) (by omega)
      rw [← f1 e] at this
      omega
    clear f1 f2
    rcases e4 with ⟨k1, k2⟩ | ⟨k1, k2⟩ <;> rcases e3 with ⟨r1, r2⟩ | ⟨r1, r2⟩ <;> rcases e1 with ⟨u1, u2⟩ | ⟨u1, u2⟩ | ⟨u1, u1', u2⟩ <;> rcases e2 with ⟨v1, v2⟩ | ⟨v1, v2⟩ | ⟨v1, v1', v2⟩ <;> omega
  · have g : (q.x < r.x → (0 < T ↔ q.y < o.y) ∧ (T < 0 ↔ o.y < q.y)) ∧ (r.x < q.x → (0 < T ↔ o.y < q.y) ∧ (T < 0 ↔ q.y < o.y)) := by
      refine ⟨fun e => ?_, fun e => ?_⟩
      · have := sg_pp (u := r.x - q.x) (v := o.y - q.y) (by omega)
        rw [← f2 h] at this
        omega
      · have := sg_np (u := r.x - q.x) (v := o.y - q.y) (by omega)
        rw [← f2 h] at this
        omega
    clear f1 f2
    rcases e4 with ⟨k1, k2⟩ | ⟨k1, k2⟩ <;> rcases e3 with ⟨r1, r2⟩ | ⟨r1, r2⟩ <;> rcases e1 with ⟨u1, u2⟩ | ⟨u1, u2⟩ | ⟨u1, u1', u2⟩ <;> rcases e2 with ⟨v1, v2⟩ | ⟨v1, v2⟩ | ⟨v1, v1', v2⟩ <;> omega
  · have g : o.y = q.y → (0 < T ↔ o.x < q.x) ∧ (T < 0 ↔ q.x < o.x) := fun e => by
      have := sg_pp (u := r.y - q.y) (v := q.x - o.x) (by omega)
      rw [← f1 e] at this
      omega
    clear f1 f2
    rcases e4 with ⟨k1, k2⟩ | ⟨k1, k2⟩ <;> rcases e3 with ⟨r1, r2⟩ | ⟨r1, r2⟩ <;> rcases e1 with ⟨u1, u2⟩ | ⟨u1, u2⟩ | ⟨u1, u1', u2⟩ <;> rcases e2 with ⟨v1, v2⟩ | ⟨v1, v2⟩ | ⟨v1, v1', v2⟩ <;> omega
theorem leave {q r s : Pt} (hqr : q ≠ r) (hrs : r ≠ s) (hop : Opp q r s) : eastOf q r s - cw r s q + rho q r s = kap q r := by
  have hT : trn r s q = trn q r s := (trn_rot q r s).symm
  have f1 := fun h : s.y = r.y => trn_ls (q := q) h
  have f2 := fun h : q.y = r.y => trn_lq (s := s) h
  have hne : q.x ≠ r.x ∨ q.y ≠ r.y := Classical.byContradiction fun hn => hqr (pt_eq (by omega) (by omega))
  have hne2 : r.x ≠ s.x ∨ r.y ≠ s.y := Classical.byContradiction fun hn => hrs (pt_eq (by omega) (by omega))
  unfold Opp at hop
  have e1 := east_cases q r s
  have e2 := cw_cases r s q
  have e3 := rho_cases q r s
  have e4 := kap_cases q r
  unfold LeftE at e3
  rw [hT] at e2
  clear hT
  generalize eastOf q r s = E at *
  generalize cw r s q = C at *
  generalize rho q r s = R at *
  generalize kap q r = K at *
  unfold LowP at *
  generalize trn q r s = T at *
  rcases Int.lt_trichotomy r.y q.y with h | h | h
  · have g : s.y = r.y → (0 < T ↔ r.x < s.x) ∧ (T < 0 ↔ s.x < r.x) := fun e => by
      have := sg_np (u := r.y - q.y) (v := r.x - s.x) (by omega)
      rw [← f1 e] at this
      omega
    clear f1 f2
    rcases e4 with ⟨k1, k2⟩ | ⟨k1, k2⟩ <;> rcases e3 with ⟨r1, r2⟩ | ⟨r1, r2⟩ <;> rcases e1 with ⟨u1, u2⟩ | ⟨u1, u2⟩ | ⟨u1, u1', u2⟩ <;> rcases e2 with ⟨v1, v2⟩ | ⟨v1, v2⟩ | ⟨v1, v1', v2⟩ <;> omega
  · have g : (q.x < r.x → (0 < T ↔ q.y < s.y) ∧ (T < 0 ↔ s.y < q.y)) ∧ (r.x < q.x → (0 < T ↔ s.y < q.y) ∧ (T < 0 ↔ q.y < s.y)) := by
      refine ⟨fun e => ?_, fun e => ?_⟩
      · have := sg_pp (u := r.x - q.x) (v := s.y - q.y) (by omega)
        rw [← f2 h.symm] at this
        omega
      · have := sg_np (u := r.x - q.x) (v := s.y - q.y) (by omega)
        rw [← f2 h.symm] at this
        omega
    clear f1 f2
    rcases e4 with ⟨k1, k2⟩ | ⟨k1, k2⟩ <;> rcases e3 with ⟨r1, r2⟩ | ⟨r1, r2⟩ <;> rcases e1 with ⟨u1, u2⟩ | ⟨u1, u2⟩ | ⟨u1, u1', u2⟩ <;> rcases e2 with ⟨v1, v2⟩ | ⟨v1, v2⟩ | ⟨v1, v1', v2⟩ <;> omega
  · have g : s.y = r.y → (0 < T ↔ s.x < r.x) ∧ (T < 0 ↔ r.x < s.x) := fun e => by
      have := sg_pp (u := r.y - q.y) (v := r.x - s.x) (by omega)
      rw [← f1 e] at this
      omega
    clear f1 f2
    rcases e4 with ⟨k1, k2⟩ | ⟨k1, k2⟩ <;> rcases e3 with ⟨r1, r2⟩ | ⟨r1, r2⟩ <;> rcases e1 with ⟨u1, u2⟩ | ⟨u1, u2⟩ | ⟨u1, u1', u2⟩ <;> rcases e2 with ⟨v1, v2⟩ | ⟨v1, v2⟩ | ⟨v1, v1', v2⟩ <;> omega
end Go.Proofs.Ytcebmcbglhkkfaa
/- Simple polygons: the number left of the edges is one number. No program in sight. -/
set_option linter.unusedVariables false
set_option linter.unusedSimpArgs false
namespace Go.Proofs.Ytcebmcbglhkkfaa
open Go.RowKit

def sumN (f : Nat → Int) : Nat → Int
  | 0 => 0
  | k + 1 => sumN f k + f k
theorem sumN_congr {f g : Nat → Int} : ∀ {n : Nat}, (∀ k, k < n → f k = g k) → sumN f n = sumN g n
  | 0, _ => rfl
  | n + 1, h => by unfold sumN; rw [sumN_congr fun k hk => h k (by omega), h n (by omega)]
theorem sumN_add (f g : Nat → Int) : ∀ n, sumN (fun k => f k + g k) n = sumN f n + sumN g n
  | 0 => rfl
  | n + 1 => by unfold sumN; rw [sumN_add f g n]; omega
theorem sumN_sub (f g : Nat → Int) : ∀ n, sumN (fun k => f k - g k) n = sumN f n - sumN g n
  | 0 => rfl
  | n + 1 => by unfold sumN; rw [sumN_sub f g n]; omega
theorem sumN_one (j : Nat) (c : Int) : ∀ n, sumN (fun k => if k = j then c else 0) n = if j < n then c else 0
  | 0 => by simp [sumN]
  | n + 1 => by
    unfold sumN
    rw [sumN_one j c n]
    by_cases h : n = j
    · subst h; simp
    · rw [if_neg h]
      by_cases h2 : j < n
      · rw [if_pos h2, if_pos (by omega)]; omega
      · rw [if_neg h2, if_neg (by omega)]; rfl
theorem sumN_tele (f : Nat → Int) : ∀ n, sumN (fun k => f (k + 1) - f k) n = f n - f 0
  | 0 => by simp [sumN]
  | n + 1 => by unfold sumN; rw [sumN_tele f n]; omega
theorem sumN_cyc (E : Nat → Int) {n : Nat} (hn : 0 < n) : sumN (fun k => E ((k + 1) % n) - E k) n = 0 := by
  obtain ⟨m, rfl⟩ : ∃ m, n = m + 1 := ⟨n - 1, by omega⟩
  have h1 : sumN (fun k => E ((k + 1) % (m + 1)) - E k) m = sumN (fun k => E (k + 1) - E k) m := sumN_congr fun k hk => by
    rw [Nat.mod_eq_of_lt (by omega)]
  show sumN (fun k => E ((k + 1) % (m + 1)) - E k) m + (E ((m + 1) % (m + 1)) - E m) = 0
  rw [h1, sumN_tele, Nat.mod_self]; omega
/-- The signed crossings of the ray to the east of q, all edges together. -/
def wn (ps : List Pt) (q : Pt) : Int := sumN (fun k => cw (gp ps k) (gp ps ((k + 1) % ps.length)) q) ps.length
/-! ### corners -/
theorem two_cmn {s t : Sg} {p q : Pt} (hp : p ∈ cmnA s t) (hq : q ∈ cmnA s t) (h : p ≠ q) (hr : relI s t = 1) : False := by
  have h1 := cmn_mem.2 hp
  have h2 := cmn_mem.2 hq
  have hl : 2 ≤ (cmn s t).length := by
    match hc : cmn s t with
    | [] => rw [hc] at h1; cases h1
    | [x] =>
      rw [hc] at h1 h2
      simp only [List.mem_singleton] at h1 h2
      exact absurd (h1.trans h2.symm) h
    | x :: y :: r => simp
  unfold relI relOf at hr
  rw [if_neg (by omega), if_neg (by omega)] at hr
  omega
theorem dot_pos {u1 u2 v1 v2 : Int} (hc : u1 * v2 = u2 * v1) (hu : u1 ≠ 0 ∨ u2 ≠ 0) (hv : v1 ≠ 0 ∨ v2 ≠ 0) (hl : (u2 < 0 ∨ (u2 = 0 ∧ 0 < u1)) ↔ (v2 < 0 ∨ (v2 = 0 ∧ 0 < v1))) : 0 < u1 * v1 + u2 * v2 := by
  by_cases h2 : u2 = 0
  · subst h2
    have hu1 : u1 ≠ 0 := by omega
    have hv2 : v2 = 0 := by
      rw [Int.zero_mul] at hc
      exact (Int.mul_eq_zero.1 hc).resolve_left hu1
    subst hv2
    have : 0 < u1 * v1 := by
      by_cases hp : 0 < u1
      · exact Int.mul_pos hp (by omega)
      · have := Int.mul_pos (show 0 < -u1 by omega) (show 0 < -v1 by omega)
        rw [Int.neg_mul_neg] at this; exact this
    omega
  · have hv2 : v2 ≠ 0 := fun e => by
      subst e
      rw [Int.mul_zero] at hc
      have := (Int.mul_eq_zero.1 hc.symm).resolve_left h2
      omega
    have p2 : 0 < u2 * v2 := by
      by_cases hp : 0 < u2
      · exact Int.mul_pos hp (by omega)
      · have := Int.mul_pos (show 0 < -u2 by omega) (show 0 < -v2 by omega)
        rw [Int.neg_mul_neg] at this; exact this
    have p1 : 0 ≤ u1 * v1 := by
      refine Classical.byContradiction fun hn => ?_
      have h1 := mul_lt0 p2 (show u1 * v1 < 0 by omega)
      have h3 := sq_nonneg' (u1 * v2)
      have e : u2 * v2 * (u1 * v1) = (u1 * v2) * (u2 * v1) := by grind
      rw [e, ← hc] at h1
      omega
    omega
theorem opp_of {o q r : Pt} (hoq : o ≠ q) (hqr : q ≠ r) (hor : o ≠ r) (h : relI (q, r) (o, q) = 1 ∨ relI (o, q) (q, r) = 1) : Opp o q r := by
  intro ht
  refine Classical.byContradiction fun hn => ?_
  have hc : (o.x - q.x) * (r.y - q.y) = (o.y - q.y) * (r.x - q.x) := by unfold trn at ht; grind
  have hl : ((o.y - q.y < 0 ∨ (o.y - q.y = 0 ∧ 0 < o.x - q.x)) ↔ (r.y - q.y < 0 ∨ (r.y - q.y = 0 ∧ 0 < r.x - q.x))) := by
    unfold LowP at hn
    omega
  have hu : o.x - q.x ≠ 0 ∨ o.y - q.y ≠ 0 := Classical.byContradiction fun hh => hoq (pt_eq (by omega) (by omega))
  have hv : r.x - q.x ≠ 0 ∨ r.y - q.y ≠ 0 := Classical.byContradiction fun hh => hqr (pt_eq (by omega) (by omega))
  have hd := dot_pos hc hu hv hl
  have ht2 : trn q r o = 0 := by rw [← trn_rot]; exact ht
  have key : onSeg q r o = true ∨ onSeg o q r = true := by
    unfold onSeg
    rw [ht, ht2]
    simp only [decide_true, Bool.true_and, decide_eq_true_eq]
    refine Classical.byContradiction fun hk => ?_
    rw [not_or] at hk
    obtain ⟨k1, k2⟩ := hk
    -- u·u > u·v and v·v > u·v
    have e1 : (q.x - o.x) * (r.x - o.x) + (q.y - o.y) * (r.y - o.y) = ((o.x - q.x) * (o.x - q.x) + (o.y - q.y) * (o.y - q.y)) - ((o.x - q.x) * (r.x - q.x) + (o.y - q.y) * (r.y - q.y)) := by grind
    have e2 : (o.x - r.x) * (q.x - r.x) + (o.y - r.y) * (q.y - r.y) = ((r.x - q.x) * (r.x - q.x) + (r.y - q.y) * (r.y - q.y)) - ((o.x - q.x) * (r.x - q.x) + (o.y - q.y) * (r.y - q.y)) := by grind
    rw [e1] at k1
    rw [e2] at k2
    have e3 : ((o.x - q.x) * (o.x - q.x) + (o.y - q.y) * (o.y - q.y)) * ((r.x - q.x) * (r.x - q.x) + (r.y - q.y) * (r.y - q.y)) = ((o.x - q.x) * (r.x - q.x) + (o.y - q.y) * (r.y - q.y)) * ((o.x - q.x) * (r.x - q.x) + (o.y - q.y) * (r.y - q.y)) := by grind
    generalize (o.x - q.x) * (o.x - q.x) + (o.y - q.y) * (o.y - q.y) = U at *
    generalize (r.x - q.x) * (r.x - q.x) + (r.y - q.y) * (r.y - q.y) = V at *
    generalize (o.x - q.x) * (r.x - q.x) + (o.y - q.y) * (r.y - q.y) = D at *
    have m1 := Int.mul_pos (show 0 < U - D by omega) (show 0 < V by omega)
    have m2 := Int.mul_pos hd (show 0 < V - D by omega)
    grind
  rcases key with k | k
  · have m1 : q ∈ cmnA (q, r) (o, q) := by
      unfold cmnA; rw [List.mem_filter]
      exact ⟨by simp, by rw [Bool.and_eq_true]; exact ⟨onSeg_end1 _ _, onSeg_end2 _ _⟩⟩
    have m2 : o ∈ cmnA (q, r) (o, q) := by
      unfold cmnA; rw [List.mem_filter]
      exact ⟨by simp, by rw [Bool.and_eq_true]; exact ⟨k, onSeg_end1 _ _⟩⟩
    have m3 : q ∈ cmnA (o, q) (q, r) := by
      unfold cmnA; rw [List.mem_filter]
      exact ⟨by simp, by rw [Bool.and_eq_true]; exact ⟨onSeg_end2 _ _, onSeg_end1 _ _⟩⟩
    have m4 : o ∈ cmnA (o, q) (q, r) := by
      unfold cmnA; rw [List.mem_filter]
      exact ⟨by simp, by rw [Bool.and_eq_true]; exact ⟨onSeg_end1 _ _, k⟩⟩
    rcases h with h | h
    · exact two_cmn m2 m1 hoq h
    · exact two_cmn m4 m3 hoq h
  · have m1 : q ∈ cmnA (q, r) (o, q) := by
      unfold cmnA; rw [List.mem_filter]
      exact ⟨by simp, by rw [Bool.and_eq_true]; exact ⟨onSeg_end1 _ _, onSeg_end2 _ _⟩⟩
    have m2 : r ∈ cmnA (q, r) (o, q) := by
      unfold cmnA; rw [List.mem_filter]
      exact ⟨by simp, by rw [Bool.and_eq_true]; exact ⟨onSeg_end2 _ _, k⟩⟩
    have m3 : q ∈ cmnA (o, q) (q, r) := by
      unfold cmnA; rw [List.mem_filter]
      exact ⟨by simp, by rw [Bool.and_eq_true]; exact ⟨onSeg_end2 _ _, onSeg_end1 _ _⟩⟩
    have m4 : r ∈ cmnA (o, q) (q, r) := by
      unfold cmnA; rw [List.mem_filter]
      exact ⟨by simp, by rw [Bool.and_eq_true]; exact ⟨k, onSeg_end2 _ _⟩⟩
    rcases h with h | h
    · exact two_cmn m1 m2 hqr h
    · exact two_cmn m3 m4 hqr h
/-! ### simple polygons, from the test -/
structure Sim (ps : List Pt) : Prop where
  three : 3 ≤ ps.length
  nodup : ps.Nodup
  apart : ∀ i k, i < ps.length → k < ps.length → k ≠ i → k ≠ (i + 1) % ps.length → i ≠ (k + 1) % ps.length → Dj (gp ps k) (gp ps ((k + 1) % ps.length)) (gp ps i) (gp ps ((i + 1) % ps.length))
  opp : ∀ i, i < ps.length → Opp (gp ps i) (gp ps ((i + 1) % ps.length)) (gp ps ((i + 2) % ps.length))
theorem mod2 {n i : Nat} : ((i + 1) % n + 1) % n = (i + 2) % n := by rw [Nat.mod_add_mod]
theorem sim_of {ps : List Pt} (h : simB ps = true) : Sim ps := by
  unfold simB at h
  rw [Bool.and_eq_true] at h
  obtain ⟨h1, h2⟩ := h
  obtain ⟨_, h3, hd⟩ := ring_parts h1
  rw [pairsB_iff] at h2
  have far : ∀ i, i < ps.length → ∀ k, k < i → k ≠ (i + 1) % ps.length → i ≠ (k + 1) % ps.length → relI (edgeAt ps i) (edgeAt ps k) = 0 := fun i hi k hk a b => by
    have := h2 i hi k hk
    unfold pairI at this
    rw [beq_iff_eq] at this
    have mi := mod_next hi
    have mk := mod_next (show k < ps.length by omega)
    rw [if_neg (by
      unfold nextTo
      simp only [Bool.or_eq_true, decide_eq_true_eq, not_or]
      constructor
      · intro e; split at mk <;> omega
      · intro e; split at mi <;> omega)] at this
    exact this
  have near : ∀ i, i < ps.length → ∀ k, k < i → (i = k + 1 ∨ i + 1 = k + ps.length) → relI (edgeAt ps i) (edgeAt ps k) = 1 := fun i hi k hk a => by
    have := h2 i hi k hk
    unfold pairI at this
    rw [beq_iff_eq, if_pos (by unfold nextTo; simp only [Bool.or_eq_true, decide_eq_true_eq]; exact a)] at this
    exact this
  refine ⟨h3, hd, fun i k hi hk a b c => ?_, fun i hi => ?_⟩
  · rcases Nat.lt_or_gt_of_ne a with hlt | hlt
    · exact (rel_dj (far i hi k hlt b c)).turn
    · exact rel_dj (far k hk i hlt c b)
  · have mi := mod_next hi
    have hj : (i + 1) % ps.length < ps.length := Nat.mod_lt _ (by omega)
    have mj := mod_next hj
    rw [mod2] at mj
    have hk : (i + 2) % ps.length < ps.length := Nat.mod_lt _ (by omega)
    have n1 : gp ps i ≠ gp ps ((i + 1) % ps.length) := fun e => by have := gp_inj hd hi hj e; split at mi <;> omega
    have n2 : gp ps ((i + 1) % ps.length) ≠ gp ps ((i + 2) % ps.length) := fun e => by have := gp_inj hd hj hk e; split at mj <;> omega
    have n3 : gp ps i ≠ gp ps ((i + 2) % ps.length) := fun e => by have := gp_inj hd hi hk e; split at mi <;> split at mj <;> omega
    have e1 : edgeAt ps i = (gp ps i, gp ps ((i + 1) % ps.length)) := rfl
    have e2 : edgeAt ps ((i + 1) % ps.length) = (gp ps ((i + 1) % ps.length), gp ps ((i + 2) % ps.length)) := by unfold edgeAt; rw [mod2]
    refine opp_of n1 n2 n3 ?_
    rw [← e1, ← e2]
    by_cases hl : i + 1 = ps.length
    · rw [if_pos hl] at mi
      rw [mi]
      exact .inr (near i hi 0 (by omega) (.inr (by omega)))
    · rw [if_neg hl] at mi
      rw [mi]
      exact .inl (near (i + 1) (by omega) i (by omega) (.inl rfl))
end Go.Proofs.Ytcebmcbglhkkfaa
/- Simple polygons: the number left of the edges is one number; the corner farthest in order. No program in sight. -/
set_option linter.unusedVariables false
set_option linter.unusedSimpArgs false
namespace Go.Proofs.Ytcebmcbglhkkfaa
open Go.RowKit

theorem cw_a (a b : Pt) : cw a b a = 0 := by
  have h : trn a b a = 0 := trn_aba a b
  unfold cw; rw [h, if_neg (by omega), if_neg (by omega)]
theorem cw_b (a b : Pt) : cw a b b = 0 := by
  have h : trn a b b = 0 := trn_abb a b
  unfold cw; rw [h, if_neg (by omega), if_neg (by omega)]
theorem east_a (q r : Pt) : eastOf q r q = 0 := by
  have h : trn q r q = 0 := trn_aba q r
  unfold eastOf; rw [h, if_neg (by omega), if_neg (by omega)]
theorem east_b (q r : Pt) : eastOf q r r = 0 := by
  have h : trn q r r = 0 := trn_abb q r
  unfold eastOf; rw [h, if_neg (by omega), if_neg (by omega)]
theorem sim_ne {ps : List Pt} (h : Sim ps) {i k : Nat} (hi : i < ps.length) (hk : k < ps.length) (hne : i ≠ k) : gp ps i ≠ gp ps k := fun e => hne (gp_inj h.nodup hi hk e)
/-- Left of edge i. -/
def Lf (ps : List Pt) (i : Nat) : Int := wn ps (gp ps ((i + 1) % ps.length)) + rho (gp ps i) (gp ps ((i + 1) % ps.length)) (gp ps ((i + 2) % ps.length))
theorem Lf_next {ps : List Pt} (h : Sim ps) {i : Nat} (hi : i < ps.length) : Lf ps i = Lf ps ((i + 1) % ps.length) := by
  have h3 := h.three
  have mi := mod_next hi
  have hb : (i + 1) % ps.length < ps.length := Nat.mod_lt _ (by omega)
  have mb := mod_next hb
  rw [mod2] at mb
  have hc : (i + 2) % ps.length < ps.length := Nat.mod_lt _ (by omega)
  have mc := mod_next hc
  have ed : ((i + 2) % ps.length + 1) % ps.length = (i + 3) % ps.length := by rw [Nat.mod_add_mod]
  have ed2 : ((i + 1) % ps.length + 2) % ps.length = (i + 3) % ps.length := by rw [Nat.mod_add_mod]
  rw [ed] at mc
  have hd : (i + 3) % ps.length < ps.length := Nat.mod_lt _ (by omega)
  have o1 := h.opp i hi
  have o2 := h.opp _ hb
  rw [mod2, ed2] at o2
  have nab : i ≠ (i + 1) % ps.length := by split at mi <;> omega
  have nbc : (i + 1) % ps.length ≠ (i + 2) % ps.length := by split at mb <;> omega
  have nac : i ≠ (i + 2) % ps.length := by split at mi <;> split at mb <;> omega
  have ncd : (i + 2) % ps.length ≠ (i + 3) % ps.length := by split at mc <;> omega
  have A := arrive (sim_ne h hb hc nbc) (sim_ne h hi hb nab) o1
  have B := leave (sim_ne h hb hc nbc) (sim_ne h hc hd ncd) o2
  have hs : sumN (fun k => cw (gp ps k) (gp ps ((k + 1) % ps.length)) (gp ps ((i + 1) % ps.length)) - cw (gp ps k) (gp ps ((k + 1) % ps.length)) (gp ps ((i + 2) % ps.length))) ps.length = sumN (fun k => ((eastOf (gp ps ((i + 1) % ps.length)) (gp ps ((i + 2) % ps.length)) (gp ps ((k + 1) % ps.length)) - eastOf (gp ps ((i + 1) % ps.length)) (gp ps ((i + 2) % ps.length)) (gp ps k)) + (if k = i then eastOf (gp ps ((i + 1) % ps.length)) (gp ps ((i + 2) % ps.length)) (gp ps i) - cw (gp ps i) (gp ps ((i + 1) % ps.length)) (gp ps ((i + 2) % ps.length)) else 0)) + (if k = (i + 2) % ps.length then cw (gp ps ((i + 2) % ps.length)) (gp ps ((i + 3) % ps.length)) (gp ps ((i + 1) % ps.length)) - eastOf (gp ps ((i + 1) % ps.length)) (gp ps ((i + 2) % ps.length)) (gp ps ((i + 3) % ps.length)) else 0)) ps.length := by
    refine sumN_congr fun k hk => ?_
    by_cases k1 : k = i
    · subst k1
      rw [if_pos rfl, if_neg nac, cw_b, east_a]; omega
    · by_cases k2 : k = (i + 1) % ps.length
      · rw [k2, mod2, if_neg (fun e => nab e.symm), if_neg nbc, cw_a, cw_b, east_a, east_b]; omega
      · by_cases k3 : k = (i + 2) % ps.length
        · rw [k3, ed, if_neg (fun e => nac e.symm), if_pos rfl, cw_a, east_b]; omega
        · rw [if_neg k1, if_neg k3]
          have mk := mod_next hk
          have dj := h.apart ((i + 1) % ps.length) k hb hk k2 (by rw [mod2]; exact k3) (by split at mi <;> split at mk <;> omega)
          rw [mod2] at dj
          rw [path_edge dj]; omega
  rw [sumN_sub, sumN_add, sumN_add, sumN_one, sumN_one, if_pos hi, if_pos hc, sumN_cyc (fun k => eastOf (gp ps ((i + 1) % ps.length)) (gp ps ((i + 2) % ps.length)) (gp ps k)) (by omega)] at hs
  unfold Lf wn
  rw [mod2, ed2]
  omega
theorem Lf_all {ps : List Pt} (h : Sim ps) {i : Nat} (hi : i < ps.length) : Lf ps i = Lf ps 0 := by
  induction i with
  | zero => rfl
  | succ k ih =>
    have := Lf_next h (show k < ps.length by omega)
    rw [Nat.mod_eq_of_lt hi] at this
    rw [← this, ih (by omega)]
/-- The number left of the edges. -/
def Lft (ps : List Pt) : Int := Lf ps 0
theorem wn_at {ps : List Pt} (h : Sim ps) {i : Nat} (hi : i < ps.length) : wn ps (gp ps ((i + 1) % ps.length)) = Lft ps - rho (gp ps i) (gp ps ((i + 1) % ps.length)) (gp ps ((i + 2) % ps.length)) := by
  have := Lf_all h hi
  unfold Lft
  rw [← this]; unfold Lf; omega
/-! ### the corner farthest to the east -/
theorem cw_east {a b q : Pt} (ha : a.x ≤ q.x) (hb : b.x ≤ q.x) : cw a b q = 0 := by
  have e : trn a b q = (b.x - q.x) * (q.y - a.y) + (a.x - q.x) * (b.y - q.y) := by unfold trn; grind
  unfold cw
  split
  · rename_i h
    exfalso
    have h1 := Int.mul_nonneg (show 0 ≤ q.x - b.x by omega) (show 0 ≤ q.y - a.y by omega)
    have h2 := Int.mul_nonneg (show 0 ≤ q.x - a.x by omega) (show 0 ≤ b.y - q.y by omega)
    have e1 : (b.x - q.x) * (q.y - a.y) = -((q.x - b.x) * (q.y - a.y)) := by grind
    have e2 : (a.x - q.x) * (b.y - q.y) = -((q.x - a.x) * (b.y - q.y)) := by grind
    omega
  · split
    · rename_i h
      exfalso
      have h1 := Int.mul_nonneg (show 0 ≤ q.x - b.x by omega) (show 0 ≤ a.y - q.y by omega)
      have h2 := Int.mul_nonneg (show 0 ≤ q.x - a.x by omega) (show 0 ≤ q.y - b.y by omega)
      have e1 : (b.x - q.x) * (q.y - a.y) = (q.x - b.x) * (a.y - q.y) := by grind
      have e2 : (a.x - q.x) * (b.y - q.y) = (q.x - a.x) * (q.y - b.y) := by grind
      omega
    · rfl
theorem sumN_zero {f : Nat → Int} : ∀ {n : Nat}, (∀ k, k < n → f k = 0) → sumN f n = 0
  | 0, _ => rfl
  | n + 1, h => by unfold sumN; rw [sumN_zero fun k hk => h k (by omega), h n (by omega)]; rfl
theorem wn_east {ps : List Pt} {q : Pt} (h : ∀ p ∈ ps, p.x ≤ q.x) : wn ps q = 0 := by
  unfold wn
  exact sumN_zero fun k hk => cw_east (h _ (gp_mem hk)) (h _ (gp_mem (Nat.mod_lt _ (by omega))))
/-- The corner farthest in order turns: the number left is 1 or 0. -/
theorem Lft_max {ps : List Pt} (h : Sim ps) {i : Nat} (hi : i < ps.length) (hm : ∀ p ∈ ps, p = gp ps ((i + 1) % ps.length) ∨ ltP p (gp ps ((i + 1) % ps.length))) :
    (0 < trn (gp ps i) (gp ps ((i + 1) % ps.length)) (gp ps ((i + 2) % ps.length)) ∧ Lft ps = 1) ∨ (trn (gp ps i) (gp ps ((i + 1) % ps.length)) (gp ps ((i + 2) % ps.length)) < 0 ∧ Lft ps = 0) := by
  have h3 := h.three
  have mi := mod_next hi
  have hb : (i + 1) % ps.length < ps.length := Nat.mod_lt _ (by omega)
  have mb := mod_next hb
  rw [mod2] at mb
  have hc : (i + 2) % ps.length < ps.length := Nat.mod_lt _ (by omega)
  have nab : i ≠ (i + 1) % ps.length := by split at mi <;> omega
  have nbc : (i + 1) % ps.length ≠ (i + 2) % ps.length := by split at mb <;> omega
  have w := wn_at h hi
  rw [wn_east (q := gp ps ((i + 1) % ps.length)) (fun p hp => by
    rcases hm p hp with e | e
    · rw [e]; exact Int.le_refl _
    · unfold ltP at e; omega)] at w
  have ho := (hm _ (gp_mem hi)).resolve_left (sim_ne h hi hb nab)
  have hr := (hm _ (gp_mem hc)).resolve_left (sim_ne h hc hb nbc.symm)
  have op := h.opp i hi
  generalize gp ps i = o at *
  generalize gp ps ((i + 1) % ps.length) = q at *
  generalize gp ps ((i + 2) % ps.length) = r at *
  unfold ltP at ho hr
  -- trn = (q.x - o.x) (r.y - q.y) + (q.x - r.x) (q.y - o.y)
  have e : trn o q r = (q.x - o.x) * (r.y - q.y) + (q.x - r.x) * (q.y - o.y) := by unfold trn; grind
  clear hm hi hb hc mi mb nab nbc
  have hx1 : 0 ≤ q.x - o.x := by omega
  have hx2 : 0 ≤ q.x - r.x := by omega
  -- next below, previous not below: to the right
  have case1 : (r.y < q.y ∨ (r.y = q.y ∧ q.x < r.x)) → ¬ (o.y < q.y ∨ (o.y = q.y ∧ q.x < o.x)) → trn o q r < 0 := fun l1 l2 => by
    have p1 := Int.mul_pos (show 0 < q.x - o.x by omega) (show 0 < q.y - r.y by omega)
    have p2 := Int.mul_nonneg hx2 (show 0 ≤ o.y - q.y by omega)
    have e1 : (q.x - o.x) * (r.y - q.y) = -((q.x - o.x) * (q.y - r.y)) := by grind
    have e2 : (q.x - r.x) * (q.y - o.y) = -((q.x - r.x) * (o.y - q.y)) := by grind
    omega
  have case2 : ¬ (r.y < q.y ∨ (r.y = q.y ∧ q.x < r.x)) → (o.y < q.y ∨ (o.y = q.y ∧ q.x < o.x)) → 0 < trn o q r := fun l1 l2 => by
    have p1 := Int.mul_pos (show 0 < q.x - r.x by omega) (show 0 < q.y - o.y by omega)
    have p2 := Int.mul_nonneg hx1 (show 0 ≤ r.y - q.y by omega)
    omega
  have hT : trn o q r ≠ 0 := fun ht => by
    have op := op ht
    unfold LowP at op
    by_cases l1 : (o.y < q.y ∨ (o.y = q.y ∧ q.x < o.x))
    · have := case2 (op.1 l1) l1; omega
    · have := case1 (Classical.byContradiction fun hn => l1 (op.2 hn)) l1; omega
  rcases rho_cases o q r with ⟨hl, hr0⟩ | ⟨hl, hr1⟩
  · right
    refine ⟨?_, by omega⟩
    unfold LeftE LowP at hl
    rcases hl with ⟨k1, k2, k3⟩ | ⟨k1, k2⟩
    · have := case1 k2 k3; omega
    · omega
  · left
    refine ⟨?_, by omega⟩
    unfold LeftE LowP at hl
    refine Classical.byContradiction fun hn => ?_
    rw [not_or] at hl
    obtain ⟨_, k2⟩ := hl
    have k3 : ¬ ((r.y < q.y ∨ (r.y = q.y ∧ q.x < r.x)) ∨ ¬ (o.y < q.y ∨ (o.y = q.y ∧ q.x < o.x))) := fun hh => k2 ⟨hn, hh⟩
    rw [not_or] at k3
    have := case2 k3.1 (Classical.byContradiction fun hh => k3.2 hh)
    omega
end Go.Proofs.Ytcebmcbglhkkfaa
/- A corner a v b and an edge c d: which chords an edge can not meet. No program in sight. -/
set_option linter.unusedVariables false
set_option linter.unusedSimpArgs false
namespace Go.Proofs.Ytcebmcbglhkkfaa
open Go.RowKit

/-- In the closed triangle of a corner that turns to the left. -/
def InT (a v b p : Pt) : Prop := 0 ≤ trn a v p ∧ 0 ≤ trn v b p ∧ 0 ≤ trn b a p
def sqd (a b : Pt) : Int := (b.x - a.x) * (b.x - a.x) + (b.y - a.y) * (b.y - a.y)
theorem sqd_pos {a b : Pt} (h : a ≠ b) : 0 < sqd a b := by
  unfold sqd
  have h1 := sq_nonneg' (b.x - a.x)
  have h2 := sq_nonneg' (b.y - a.y)
  have hne : b.x - a.x ≠ 0 ∨ b.y - a.y ≠ 0 := Classical.byContradiction fun hh => h (pt_eq (by omega) (by omega))
  refine Classical.byContradiction fun hn => ?_
  have z1 : (b.x - a.x) * (b.x - a.x) = 0 := by omega
  have z2 : (b.y - a.y) * (b.y - a.y) = 0 := by omega
  have := Int.mul_eq_zero.1 z1
  have := Int.mul_eq_zero.1 z2
  omega
def wgt (a b p : Pt) : Int := (p.x - a.x) * (b.x - a.x) + (p.y - a.y) * (b.y - a.y)
/-- A point of a segment lies between its ends: the weights. -/
theorem seg_wgt {a b p : Pt} (h : onSeg a b p = true) : sqd a p ≤ wgt a b p ∧ sqd b p ≤ wgt b a p ∧ wgt a b p + wgt b a p = sqd a b := by
  unfold onSeg at h
  simp only [Bool.and_eq_true, decide_eq_true_eq] at h
  have e1 : wgt a b p = sqd a p - ((a.x - p.x) * (b.x - p.x) + (a.y - p.y) * (b.y - p.y)) := by unfold wgt sqd; grind
  have e2 : wgt b a p = sqd b p - ((a.x - p.x) * (b.x - p.x) + (a.y - p.y) * (b.y - p.y)) := by unfold wgt sqd; grind
  have e3 : wgt a b p + wgt b a p = sqd a b := by unfold wgt sqd; grind
  exact ⟨by omega, by omega, e3⟩
/-- Sides along a segment. -/
theorem seg_side {a b p : Pt} (h : trn a b p = 0) (u v : Pt) : sqd a b * trn u v p = wgt b a p * trn u v a + wgt a b p * trn u v b := by
  unfold sqd wgt trn at *; grind
theorem sqd_nn (a b : Pt) : 0 ≤ sqd a b := by
  unfold sqd
  have h1 := sq_nonneg' (b.x - a.x)
  have h2 := sq_nonneg' (b.y - a.y)
  omega
theorem nn_of {k x : Int} (hk : 0 < k) (h : 0 ≤ k * x) : 0 ≤ x := by
  refine Classical.byContradiction fun hn => ?_
  have := mul_lt0 hk (show x < 0 by omega)
  omega
theorem seg_inT {a v b p : Pt} (ht : 0 < trn a v b) (hab : a ≠ b) (h : onSeg b a p = true) : InT a v b p := by
  have hz := onS_iff h
  obtain ⟨w1, w2, w3⟩ := seg_wgt h
  have s1 := seg_side hz a v
  have s2 := seg_side hz v b
  have hs := sqd_pos hab.symm
  have n1 := sqd_nn b p
  have n2 := sqd_nn a p
  rw [show trn a v a = 0 from trn_aba a v] at s1
  rw [show trn v b b = 0 from trn_abb v b, show trn v b a = trn a v b by unfold trn; grind] at s2
  have m1 := Int.mul_nonneg (show 0 ≤ wgt a b p by omega) (show 0 ≤ trn a v b by omega)
  have m2 := Int.mul_nonneg (show 0 ≤ wgt b a p by omega) (show 0 ≤ trn a v b by omega)
  exact ⟨nn_of hs (by omega), nn_of hs (by omega), by rw [hz]; exact Int.le_refl _⟩
/-- Three corners and two points on one line. -/
theorem plk (a v b c d : Pt) : trn c d a * trn v b c + trn c d b * trn a v c + trn c d v * trn b a c = 0 := by unfold trn; grind
theorem plk2 (a v b c d : Pt) : trn c d a * trn v b d + trn c d b * trn a v d + trn c d v * trn b a d = 0 := by unfold trn; grind
theorem tri_t (a v b p : Pt) : trn a v p + trn v b p + trn b a p = trn a v b := by unfold trn; grind
/-- Two points on either side of a point, on one line. -/
theorem between_on {c d v a : Pt} (h0 : trn c d v = 0) (h : trn a v c < 0 ∧ 0 < trn a v d) : onSeg c d v = true := by
  refine Classical.byContradiction fun hn => ?_
  have hd : 0 < (c.x - v.x) * (d.x - v.x) + (c.y - v.y) * (d.y - v.y) := by
    unfold onSeg at hn
    rw [h0] at hn
    simp only [decide_true, Bool.true_and, decide_eq_true_eq] at hn
    omega
  -- c - v and d - v in one direction
  have e : sqd v c * trn a v d = ((c.x - v.x) * (d.x - v.x) + (c.y - v.y) * (d.y - v.y)) * trn a v c := by unfold sqd trn at *; grind
  have p1 := Int.mul_nonneg (sqd_nn v c) (show 0 ≤ trn a v d by omega)
  have p2 := mul_lt0 hd h.1
  omega
theorem neg_of {k x : Int} (hk : 0 < k) (h : k * x < 0) : x < 0 := prod_neg h hk
theorem ear_arith {sa sb sv Uc Vc Hc Ud Vd Hd t : Int} (hs : 0 < sa) (hb : sb < 0) (hh : 0 < Hc) (hd : Hd < 0) (ht : 0 < t) (P : sa * Vc + sb * Uc + sv * Hc = 0) (k1 : Hc * Ud - Hd * Uc = sa * t) (k2 : Hc * Vd - Hd * Vc = -(sb * t)) (hT : Uc < 0 ∨ Vc < 0) (x1 : Uc < 0 → 0 < Ud → ¬ sv < 0) (x2 : Vc < 0 → 0 < Vd → ¬ 0 < sv) : sv = 0 ∧ Uc < 0 ∧ 0 < Ud := by
  have q1 := Int.mul_pos hs ht
  have q2 : 0 < -(sb * t) := by have := Int.mul_pos (show 0 < -sb by omega) ht; rw [Int.neg_mul] at this; exact this
  have stepU : Uc < 0 → 0 < Ud := fun h => by
    have := Int.mul_pos (show 0 < -Hd by omega) (show 0 < -Uc by omega)
    rw [Int.neg_mul_neg] at this
    exact prod_pos (show 0 < Hc * Ud by omega) hh
  have stepV : Vc < 0 → 0 < Vd := fun h => by
    have := Int.mul_pos (show 0 < -Hd by omega) (show 0 < -Vc by omega)
    rw [Int.neg_mul_neg] at this
    exact prod_pos (show 0 < Hc * Vd by omega) hh
  by_cases hu : Uc < 0
  · have hsv := x1 hu (stepU hu)
    have p1 := Int.mul_pos (show 0 < -sb by omega) (show 0 < -Uc by omega)
    rw [Int.neg_mul_neg] at p1
    have p2 := Int.mul_nonneg (show 0 ≤ sv by omega) (show 0 ≤ Hc by omega)
    have hv := neg_of hs (show sa * Vc < 0 by omega)
    have := x2 hv (stepV hv)
    exact ⟨by omega, hu, stepU hu⟩
  · have hv := hT.resolve_left hu
    have hsv := x2 hv (stepV hv)
    have p1 := mul_lt0 hs hv
    have p2 := Int.mul_nonneg (show 0 ≤ -sv by omega) (show 0 ≤ Hc by omega)
    rw [Int.neg_mul] at p2
    have p3 := Int.mul_nonneg (show 0 ≤ -sb by omega) (show 0 ≤ Uc by omega)
    rw [Int.neg_mul] at p3
    omega
/-- The chord over an empty corner. -/
theorem chord_ear {a v b c d : Pt} (ht : 0 < trn a v b) (hab : a ≠ b) (hc : ¬ InT a v b c) (hd : ¬ InT a v b d) (h1 : Dj c d a v) (h2 : Dj c d v b) : Dj c d b a := by
  refine ⟨h2.nr, h1.nq, ?_, ?_, ?_⟩
  · rw [← Bool.not_eq_true]; exact fun hh => hc (seg_inT ht hab hh)
  · rw [← Bool.not_eq_true]; exact fun hh => hd (seg_inT ht hab hh)
  · intro hx
    have x1 := h1.nx
    have x2 := h2.nx
    have P := plk a v b c d
    have Q := plk2 a v b c d
    have k1 : trn b a c * trn a v d - trn b a d * trn a v c = trn c d a * trn a v b := by unfold trn; grind
    have k2 : trn b a c * trn v b d - trn b a d * trn v b c = -(trn c d b * trn a v b) := by unfold trn; grind
    have k3 : trn c d a - trn c d b = trn b a c - trn b a d := by unfold trn; grind
    have nv := h1.nr
    have bo := fun h0 hh => between_on (c := c) (d := d) (v := v) (a := a) h0 hh
    have bo2 := fun h0 hh => between_on (c := d) (d := c) (v := v) (a := a) h0 hh
    rw [show trn d c v = -trn c d v from trn_flip c d v, onSeg_swap c d v] at bo2
    have fin : onSeg c d v = true → False := fun hh => by rw [nv] at hh; cases hh
    unfold InT at hc hd
    clear h1 h2 nv hab
    generalize trn c d a = sa at *
    generalize trn c d b = sb at *
    generalize trn c d v = sv at *
    generalize trn a v c = Uc at *
    generalize trn v b c = Vc at *
    generalize trn b a c = Hc at *
    generalize trn a v d = Ud at *
    generalize trn v b d = Vd at *
    generalize trn b a d = Hd at *
    generalize trn a v b = t at *
    by_cases hH : 0 < Hc
    · obtain ⟨r1, r2, r3⟩ := ear_arith (sa := sa) (sb := sb) (sv := sv) (by omega) (by omega) hH (by omega) ht P k1 k2 (by omega) (fun u w => by omega) (fun u w => by omega)
      exact fin (bo r1 ⟨r2, r3⟩)
    · obtain ⟨r1, r2, r3⟩ := ear_arith (sa := -sa) (sb := -sb) (sv := -sv) (Uc := Ud) (Vc := Vd) (Hc := Hd) (Ud := Uc) (Vd := Vc) (Hd := Hc) (t := t) (by omega) (by omega) (by omega) (by omega) ht (by rw [Int.neg_mul, Int.neg_mul, Int.neg_mul]; omega) (by rw [Int.neg_mul]; omega) (by rw [Int.neg_mul]; omega) (by omega) (fun u w => by omega) (fun u w => by omega)
      exact fin (bo2 r1 ⟨r2, r3⟩)
/-- A point of the chord from the corner to z is farther than z. -/
theorem seg_far2 {a v b z c : Pt} (ht : 0 < trn a v b) (hz : InT a v b z) (hU : 0 < trn a v z) (hcz : c ≠ z) (h : onSeg v z c = true) : InT a v b c ∧ trn b a z < trn b a c := by
  have h0 := onS_iff h
  obtain ⟨w1, w2, w3⟩ := seg_wgt h
  have hvz : v ≠ z := fun e => by rw [← e] at hU; rw [show trn a v v = 0 from trn_abb a v] at hU; omega
  have hs := sqd_pos hvz
  have s1 := seg_side h0 a v
  have s2 := seg_side h0 v b
  have s3 := seg_side h0 b a
  have n1 := sqd_nn v c
  have n2 := sqd_nn z c
  have n3 := sqd_pos (show z ≠ c from hcz.symm)
  obtain ⟨z1, z2, z3⟩ := hz
  have T := tri_t a v b z
  rw [show trn a v v = 0 from trn_abb a v] at s1
  rw [show trn v b v = 0 from trn_aba v b] at s2
  rw [show trn b a v = trn a v b by unfold trn; grind] at s3
  have m1 := Int.mul_nonneg (show 0 ≤ wgt v z c by omega) (show 0 ≤ trn a v z by omega)
  have m2 := Int.mul_nonneg (show 0 ≤ wgt v z c by omega) (show 0 ≤ trn v b z by omega)
  have m3 := Int.mul_nonneg (show 0 ≤ wgt v z c by omega) (show 0 ≤ trn b a z by omega)
  have m4 := Int.mul_nonneg (show 0 ≤ wgt z v c by omega) (show 0 ≤ trn a v b by omega)
  have m5 := Int.mul_pos (show 0 < wgt z v c by omega) (show 0 < trn a v b - trn b a z by omega)
  refine ⟨⟨nn_of hs (by omega), nn_of hs (by omega), nn_of hs (by omega)⟩, ?_⟩
  have e : sqd v z * (trn b a c - trn b a z) = wgt z v c * (trn a v b - trn b a z) := by
    rw [Int.mul_sub, s3, ← w3]; grind
  have := prod_pos (show 0 < sqd v z * (trn b a c - trn b a z) by omega) hs
  omega
theorem far_arith {sa sb sv sz Uc Vc Hc Ud Vd Hd Uz Vz Hz t al be : Int} (hsv : 0 < sv) (hsz : sz < 0) (ha : 0 < al) (hb : 0 < be) (hU : 0 < Uz) (hV : 0 < Vz) (hHz : 0 ≤ Hz) (ht : Hz < t)
    (P : sa * Vc + sb * Uc + sv * Hc = 0) (Q : sa * Vd + sb * Ud + sv * Hd = 0)
    (e1 : be * Uc + al * Ud = sv * Uz) (e2 : be * Vc + al * Vd = sv * Vz) (e3 : be * Hc + al * Hd = sv * Hz - sz * t) (e4 : al + be = sv - sz)
    (hc : 0 ≤ Uc → 0 ≤ Vc → 0 ≤ Hc → Hc ≤ Hz) (hd : 0 ≤ Ud → 0 ≤ Vd → 0 ≤ Hd → Hd ≤ Hz)
    (x1 : Uc < 0 → 0 < Ud → ¬ sa < 0) (x2 : Vc < 0 → 0 < Vd → ¬ sb < 0) (y1 : Ud < 0 → 0 < Uc → ¬ sa < 0) (y2 : Vd < 0 → 0 < Vc → ¬ sb < 0) : False := by
  have q1 := Int.mul_pos hsv hU
  have q2 := Int.mul_pos hsv hV
  have q3 : 0 < sv * Hz - sz * t := by
    have := Int.mul_nonneg (show 0 ≤ sv by omega) hHz
    have h2 := Int.mul_pos (show 0 < -sz by omega) (show 0 < t by omega)
    rw [Int.neg_mul] at h2
    omega
  have sum : sa * (sv * Vz) + sb * (sv * Uz) + sv * (sv * Hz - sz * t) = 0 := by rw [← e1, ← e2, ← e3]; grind
  have q4 := Int.mul_pos hsv q3
  -- both not negative: no
  have no : ¬ (0 ≤ sa ∧ 0 ≤ sb) := fun ⟨g1, g2⟩ => by
    have := Int.mul_nonneg g1 (show 0 ≤ sv * Vz by omega)
    have := Int.mul_nonneg g2 (show 0 ≤ sv * Uz by omega)
    omega
  have key : ∀ {U V H U' V' k l : Int}, 0 < k → 0 < l → k * U + l * U' = sv * Uz → k * V + l * V' = sv * Vz → sa * V + sb * U + sv * H = 0 → Hz < H → (0 ≤ U → 0 ≤ V → 0 ≤ H → H ≤ Hz) → (U < 0 → 0 < U' → ¬ sa < 0) → (V < 0 → 0 < V' → ¬ sb < 0) → False := by
    intro U V H U' V' k l hk hl f1 f2 g hH hc x1 x2
    have st1 : U < 0 → 0 < U' := fun h => by
      have := mul_lt0 hk h
      exact prod_pos (show 0 < l * U' by omega) hl
    have st2 : V < 0 → 0 < V' := fun h => by
      have := mul_lt0 hk h
      exact prod_pos (show 0 < l * V' by omega) hl
    have p0 := Int.mul_pos hsv (show 0 < H by omega)
    by_cases hu : U < 0
    · have s1 := x1 hu (st1 hu)
      by_cases hv : V < 0
      · exact no ⟨by omega, by have := x2 hv (st2 hv); omega⟩
      · have := Int.mul_nonneg (show 0 ≤ sa by omega) (show 0 ≤ V by omega)
        refine no ⟨by omega, ?_⟩
        refine Classical.byContradiction fun hn => ?_
        have := Int.mul_pos (show 0 < -sb by omega) (show 0 < -U by omega)
        rw [Int.neg_mul_neg] at this
        omega
    · by_cases hv : V < 0
      · have s2 := x2 hv (st2 hv)
        have := Int.mul_nonneg (show 0 ≤ sb by omega) (show 0 ≤ U by omega)
        refine no ⟨?_, by omega⟩
        refine Classical.byContradiction fun hn => ?_
        have := Int.mul_pos (show 0 < -sa by omega) (show 0 < -V by omega)
        rw [Int.neg_mul_neg] at this
        omega
      · have := hc (by omega) (by omega) (by omega)
        omega
  by_cases hH : Hz < Hc
  · exact key hb ha e1 e2 P hH hc x1 x2
  · have hHd : Hz < Hd := by
      refine Classical.byContradiction fun hn => ?_
      have p1 := Int.mul_nonneg (show 0 ≤ be by omega) (show 0 ≤ Hz - Hc by omega)
      have p2 := Int.mul_nonneg (show 0 ≤ al by omega) (show 0 ≤ Hz - Hd by omega)
      have p3 := Int.mul_pos (show 0 < -sz by omega) (show 0 < t - Hz by omega)
      have e5 : be * (Hz - Hc) + al * (Hz - Hd) = (al + be) * Hz - (be * Hc + al * Hd) := by grind
      rw [e4, e3] at e5
      have e6 : (sv - sz) * Hz - (sv * Hz - sz * t) = -(-sz * (t - Hz)) := by grind
      omega
    exact key ha hb (by omega) (by omega) Q hHd hd y1 y2
/-- The chord to the farthest point of a corner. -/
theorem chord_far {a v b z c d : Pt} (ht : 0 < trn a v b) (hz : InT a v b z) (hU : 0 < trn a v z) (hV : 0 < trn v b z) (hcz : c ≠ z) (hdz : d ≠ z)
    (hc : InT a v b c → trn b a c ≤ trn b a z) (hd : InT a v b d → trn b a d ≤ trn b a z) (nv : onSeg c d v = false) (nz : onSeg c d z = false)
    (x1 : ¬ (((0 < trn c d a ∧ trn c d v < 0) ∨ (trn c d a < 0 ∧ 0 < trn c d v)) ∧ ((0 < trn a v c ∧ trn a v d < 0) ∨ (trn a v c < 0 ∧ 0 < trn a v d))))
    (x2 : ¬ (((0 < trn c d v ∧ trn c d b < 0) ∨ (trn c d v < 0 ∧ 0 < trn c d b)) ∧ ((0 < trn v b c ∧ trn v b d < 0) ∨ (trn v b c < 0 ∧ 0 < trn v b d)))) : Dj c d v z := by
  refine ⟨nv, nz, ?_, ?_, ?_⟩
  · rw [← Bool.not_eq_true]
    intro hh
    obtain ⟨q1, q2⟩ := seg_far2 ht hz hU hcz hh
    have := hc q1; omega
  · rw [← Bool.not_eq_true]
    intro hh
    obtain ⟨q1, q2⟩ := seg_far2 ht hz hU hdz hh
    have := hd q1; omega
  · intro hx
    have P := plk a v b c d
    have Q := plk2 a v b c d
    have T := tri_t a v b z
    obtain ⟨z1, z2, z3⟩ := hz
    have e1 : trn v z d * trn a v c - trn v z c * trn a v d = trn c d v * trn a v z := by unfold trn; grind
    have e2 : trn v z d * trn v b c - trn v z c * trn v b d = trn c d v * trn v b z := by unfold trn; grind
    have e3 : trn v z d * trn b a c - trn v z c * trn b a d = trn c d v * trn b a z - trn c d z * trn a v b := by unfold trn; grind
    have e4 : trn v z d - trn v z c = trn c d v - trn c d z := by unfold trn; grind
    unfold InT at hc hd
    generalize trn c d a = sa at *
    generalize trn c d b = sb at *
    generalize trn c d v = sv at *
    generalize trn c d z = sz at *
    generalize trn a v c = Uc at *
    generalize trn v b c = Vc at *
    generalize trn b a c = Hc at *
    generalize trn a v d = Ud at *
    generalize trn v b d = Vd at *
    generalize trn b a d = Hd at *
    generalize trn a v z = Uz at *
    generalize trn v b z = Vz at *
    generalize trn b a z = Hz at *
    generalize trn v z c = zc at *
    generalize trn v z d = zd at *
    generalize trn a v b = t at *
    by_cases hs : 0 < sv
    · exact far_arith (sa := sa) (sb := sb) (sv := sv) (sz := sz) (Uc := Uc) (Vc := Vc) (Hc := Hc) (Ud := Ud) (Vd := Vd) (Hd := Hd) (Uz := Uz) (Vz := Vz) (Hz := Hz) (t := t) (al := -zc) (be := zd) hs (by omega) (by omega) (by omega) hU hV z3 (by omega) P Q (by rw [Int.neg_mul]; omega) (by rw [Int.neg_mul]; omega) (by rw [Int.neg_mul]; omega) (by omega) (fun u w r => hc ⟨u, w, r⟩) (fun u w r => hd ⟨u, w, r⟩) (fun u w => by omega) (fun u w => by omega) (fun u w => by omega) (fun u w => by omega)
    · exact far_arith (sa := -sa) (sb := -sb) (sv := -sv) (sz := -sz) (Uc := Uc) (Vc := Vc) (Hc := Hc) (Ud := Ud) (Vd := Vd) (Hd := Hd) (Uz := Uz) (Vz := Vz) (Hz := Hz) (t := t) (al := zc) (be := -zd) (by omega) (by omega) (by omega) (by omega) hU hV z3 (by omega) (by rw [Int.neg_mul, Int.neg_mul, Int.neg_mul]; omega) (by rw [Int.neg_mul, Int.neg_mul, Int.neg_mul]; omega) (by rw [Int.neg_mul, Int.neg_mul]; omega) (by rw [Int.neg_mul, Int.neg_mul]; omega) (by rw [Int.neg_mul, Int.neg_mul, Int.neg_mul]; omega) (by omega) (fun u w r => hc ⟨u, w, r⟩) (fun u w r => hd ⟨u, w, r⟩) (fun u w => by omega) (fun u w => by omega) (fun u w => by omega) (fun u w => by omega)
end Go.Proofs.Ytcebmcbglhkkfaa
/- A simple polygon with more than three corners has a chord at each corner that turns. No program in sight. -/
set_option linter.unusedVariables false
set_option linter.unusedSimpArgs false
namespace Go.Proofs.Ytcebmcbglhkkfaa
open Go.RowKit

theorem vertex_off {ps : List Pt} (h : Sim ps) (h4 : 4 ≤ ps.length) {j k : Nat} (hj : j < ps.length) (hk : k < ps.length) (h1 : k ≠ j) (h2 : k ≠ (j + 1) % ps.length) : onSeg (gp ps j) (gp ps ((j + 1) % ps.length)) (gp ps k) = false := by
  by_cases h3 : j = (k + 1) % ps.length
  · obtain ⟨m, hm, em⟩ : ∃ m, m < ps.length ∧ (m + 1) % ps.length = k := by
      by_cases h0 : k = 0
      · exact ⟨ps.length - 1, by omega, by rw [h0, show ps.length - 1 + 1 = ps.length by omega, Nat.mod_self]⟩
      · exact ⟨k - 1, by omega, by rw [show k - 1 + 1 = k by omega]; exact Nat.mod_eq_of_lt hk⟩
    have mk := mod_next hk
    have mj := mod_next hj
    have mm := mod_next hm
    have dj := h.apart m j hm hj (by split at mk <;> split at mm <;> omega) (by rw [em]; exact h1.symm) (by split at mk <;> split at mm <;> split at mj <;> omega)
    rw [em] at dj
    exact dj.nr
  · exact (h.apart k j hk hj h1.symm h3 h2).nq
structure Cho (ps : List Pt) (i k : Nat) : Prop where
  hi : i < ps.length
  hk : k < ps.length
  ne : i ≠ k
  n1 : k ≠ (i + 1) % ps.length
  n2 : i ≠ (k + 1) % ps.length
  far : ∀ j, j < ps.length → j ≠ i → (j + 1) % ps.length ≠ i → j ≠ k → (j + 1) % ps.length ≠ k → Dj (gp ps j) (gp ps ((j + 1) % ps.length)) (gp ps i) (gp ps k)
  off : ∀ j, j < ps.length → j ≠ i → j ≠ k → onSeg (gp ps i) (gp ps k) (gp ps j) = false
theorem Cho.symm {ps : List Pt} {i k : Nat} (h : Cho ps i k) : Cho ps k i :=
  ⟨h.hk, h.hi, h.ne.symm, h.n2, h.n1, fun j a b c d e => (h.far j a d e b c).swap2, fun j a b c => by rw [onSeg_swap]; exact h.off j a c b⟩
theorem exists_max {P : Nat → Prop} (f : Nat → Int) {n : Nat} (h : ∃ j, j < n ∧ P j) : ∃ z, z < n ∧ P z ∧ ∀ j, j < n → P j → f j ≤ f z := by
  induction n with
  | zero => obtain ⟨j, hj, _⟩ := h; omega
  | succ n ih =>
    obtain ⟨j, hj, hp⟩ := h
    by_cases hn : P n
    · by_cases hx : ∃ j, j < n ∧ P j
      · obtain ⟨z, hz, pz, hm⟩ := ih hx
        by_cases hf : f n ≤ f z
        · exact ⟨z, by omega, pz, fun j hj pj => by
            by_cases e : j = n
            · rw [e]; exact hf
            · exact hm j (by omega) pj⟩
        · exact ⟨n, by omega, hn, fun j hj pj => by
            by_cases e : j = n
            · rw [e]; exact Int.le_refl _
            · have := hm j (by omega) pj; omega⟩
      · exact ⟨n, by omega, hn, fun j hj pj => by
          by_cases e : j = n
          · rw [e]; exact Int.le_refl _
          · exact absurd ⟨j, by omega, pj⟩ hx⟩
    · have hjn : j ≠ n := fun e => hn (e ▸ hp)
      obtain ⟨z, hz, pz, hm⟩ := ih ⟨j, by omega, hp⟩
      exact ⟨z, by omega, pz, fun j hj pj => by
        by_cases e : j = n
        · exact absurd (e ▸ pj) hn
        · exact hm j (by omega) pj⟩
/-- A point of the closed triangle on the line of a side is on the side. -/
theorem on_side {a v b z : Pt} (ht : 0 < trn a v b) (h0 : trn a v z = 0) (h1 : 0 ≤ trn v b z) (h2 : 0 ≤ trn b a z) : onSeg a v z = true := by
  unfold onSeg
  rw [h0]
  simp only [decide_true, Bool.true_and, decide_eq_true_eq]
  refine Classical.byContradiction fun hn => ?_
  have e : (trn a v b * trn a v b) * ((a.x - z.x) * (v.x - z.x) + (a.y - z.y) * (v.y - z.y)) = -((trn v b z * trn b a z) * sqd a v) := by
    have ex : trn a v b * (a.x - z.x) = trn b a z * (a.x - v.x) := by
      have : trn a v b * (a.x - z.x) = trn b a z * (a.x - v.x) + trn a v z * (a.x - b.x) := by unfold trn; grind
      rw [this, h0]; omega
    have ey : trn a v b * (a.y - z.y) = trn b a z * (a.y - v.y) := by
      have : trn a v b * (a.y - z.y) = trn b a z * (a.y - v.y) + trn a v z * (a.y - b.y) := by unfold trn; grind
      rw [this, h0]; omega
    have fx : trn a v b * (v.x - z.x) = trn v b z * (v.x - a.x) := by
      have : trn a v b * (v.x - z.x) = trn v b z * (v.x - a.x) + trn a v z * (v.x - b.x) := by unfold trn; grind
      rw [this, h0]; omega
    have fy : trn a v b * (v.y - z.y) = trn v b z * (v.y - a.y) := by
      have : trn a v b * (v.y - z.y) = trn v b z * (v.y - a.y) + trn a v z * (v.y - b.y) := by unfold trn; grind
      rw [this, h0]; omega
    have : (trn a v b * trn a v b) * ((a.x - z.x) * (v.x - z.x) + (a.y - z.y) * (v.y - z.y)) = (trn a v b * (a.x - z.x)) * (trn a v b * (v.x - z.x)) + (trn a v b * (a.y - z.y)) * (trn a v b * (v.y - z.y)) := by grind
    rw [this, ex, ey, fx, fy]
    unfold sqd; grind
  have p1 := Int.mul_pos (Int.mul_pos ht ht) (show 0 < (a.x - z.x) * (v.x - z.x) + (a.y - z.y) * (v.y - z.y) by omega)
  have p2 := Int.mul_nonneg (Int.mul_nonneg h1 h2) (sqd_nn a v)
  omega
/-- A corner of the polygon, its neighbours in either order, that turns to the left. -/
structure Cor (ps : List Pt) (ia iv ib : Nat) : Prop where
  ha : ia < ps.length
  hv : iv < ps.length
  hb : ib < ps.length
  av : ia ≠ iv
  vb : iv ≠ ib
  ab : ia ≠ ib
  inc1 : (iv + 1) % ps.length = ia ∨ (iv + 1) % ps.length = ib
  inc2 : ∀ j, j < ps.length → (j + 1) % ps.length = iv → j = ia ∨ j = ib
  fav : ∀ j, j < ps.length → j ≠ ia → (j + 1) % ps.length ≠ ia → j ≠ iv → (j + 1) % ps.length ≠ iv → Dj (gp ps j) (gp ps ((j + 1) % ps.length)) (gp ps ia) (gp ps iv)
  fvb : ∀ j, j < ps.length → j ≠ ib → (j + 1) % ps.length ≠ ib → j ≠ iv → (j + 1) % ps.length ≠ iv → Dj (gp ps j) (gp ps ((j + 1) % ps.length)) (gp ps iv) (gp ps ib)
  sa : ∀ k, k < ps.length → k ≠ ia → k ≠ iv → onSeg (gp ps ia) (gp ps iv) (gp ps k) = false
  sb : ∀ k, k < ps.length → k ≠ iv → k ≠ ib → onSeg (gp ps iv) (gp ps ib) (gp ps k) = false
  turn : 0 < trn (gp ps ia) (gp ps iv) (gp ps ib)
theorem cor_ear {ps : List Pt} (h : Sim ps) {ia iv ib : Nat} (c : Cor ps ia iv ib) (h4 : 4 ≤ ps.length) (hE : ∀ j, j < ps.length → j ≠ ia → j ≠ iv → j ≠ ib → ¬ InT (gp ps ia) (gp ps iv) (gp ps ib) (gp ps j)) : Cho ps ib ia := by
  have hab : gp ps ia ≠ gp ps ib := sim_ne h c.ha c.hb c.ab
  have mv := mod_next c.hv
  have ma := mod_next c.ha
  have mb := mod_next c.hb
  have i1 := c.inc1
  have i2 : ∀ j, j < ps.length → (j + 1) % ps.length = iv → j = ia ∨ j = ib := c.inc2
  have nadj : ia ≠ (ib + 1) % ps.length ∧ ib ≠ (ia + 1) % ps.length := by
    have hav := c.av; have hvb := c.vb; have haab := c.ab
    have ha := c.ha; have hb := c.hb; have hv := c.hv
    -- iv lies between ia and ib: one of them is before, the other behind
    obtain ⟨m, hm, em⟩ : ∃ m, m < ps.length ∧ (m + 1) % ps.length = iv := by
      by_cases h0 : iv = 0
      · exact ⟨ps.length - 1, by omega, by rw [h0, show ps.length - 1 + 1 = ps.length by omega, Nat.mod_self]⟩
      · exact ⟨iv - 1, by omega, by rw [show iv - 1 + 1 = iv by omega]; exact Nat.mod_eq_of_lt hv⟩
    have mm := mod_next hm
    have hmm := i2 m hm em
    constructor
    · intro e
      split at mv <;> split at ma <;> split at mb <;> split at mm <;> omega
    · intro e
      split at mv <;> split at ma <;> split at mb <;> split at mm <;> omega
  refine ⟨c.hb, c.ha, c.ab.symm, nadj.1, nadj.2, fun j hj a1 a2 a3 a4 => ?_, fun j hj a1 a2 => ?_⟩
  · have v1 : j ≠ iv := fun e => by subst e; rcases i1 with e | e
                                    · exact a4 e
                                    · exact a2 e
    have v2 : (j + 1) % ps.length ≠ iv := fun e => by rcases i2 j hj e with e | e
                                                      · exact a3 e
                                                      · exact a1 e
    exact chord_ear c.turn hab (hE j hj a3 v1 a1) (hE _ (Nat.mod_lt _ (by omega)) a4 v2 a2) (c.fav j hj a3 a4 v1 v2) (c.fvb j hj a1 a2 v1 v2)
  · by_cases e : j = iv
    · subst e
      refine onS_no ?_
      have := c.turn
      rw [show trn (gp ps ib) (gp ps ia) (gp ps j) = trn (gp ps ia) (gp ps j) (gp ps ib) by unfold trn; grind]
      omega
    · rw [← Bool.not_eq_true]
      exact fun hh => hE j hj a2 e a1 (seg_inT c.turn hab hh)
theorem cor_far {ps : List Pt} (h : Sim ps) {ia iv ib : Nat} (c : Cor ps ia iv ib) (h4 : 4 ≤ ps.length) (hE : ∃ j, j < ps.length ∧ (j ≠ ia ∧ j ≠ iv ∧ j ≠ ib ∧ InT (gp ps ia) (gp ps iv) (gp ps ib) (gp ps j))) :
    ∃ z, Cho ps iv z ∧ z ≠ ia ∧ z ≠ ib ∧ 0 < trn (gp ps ia) (gp ps iv) (gp ps z) ∧ 0 < trn (gp ps iv) (gp ps ib) (gp ps z) := by
  obtain ⟨z, hz, ⟨z1, z2, z3, zT⟩, hmax⟩ := exists_max (fun j => trn (gp ps ib) (gp ps ia) (gp ps j)) hE
  have hU : 0 < trn (gp ps ia) (gp ps iv) (gp ps z) := by
    refine Classical.byContradiction fun hn => ?_
    have := on_side c.turn (by have := zT.1; omega) zT.2.1 zT.2.2
    rw [c.sa z hz z1 z2] at this; cases this
  have hV : 0 < trn (gp ps iv) (gp ps ib) (gp ps z) := by
    refine Classical.byContradiction fun hn => ?_
    have := on_side (a := gp ps iv) (v := gp ps ib) (b := gp ps ia) (z := gp ps z) (by rw [← trn_rot]; exact c.turn) (by have := zT.2.1; omega) zT.2.2 zT.1
    rw [c.sb z hz z2 z3] at this; cases this
  have i1 := c.inc1
  have maxH : ∀ j, j < ps.length → j ≠ iv → InT (gp ps ia) (gp ps iv) (gp ps ib) (gp ps j) → trn (gp ps ib) (gp ps ia) (gp ps j) ≤ trn (gp ps ib) (gp ps ia) (gp ps z) := fun j hj hjv hT => by
    by_cases ja : j = ia
    · rw [ja, show trn (gp ps ib) (gp ps ia) (gp ps ia) = 0 from trn_abb _ _]; exact zT.2.2
    · by_cases jb : j = ib
      · rw [jb, show trn (gp ps ib) (gp ps ia) (gp ps ib) = 0 from trn_aba _ _]; exact zT.2.2
      · exact hmax j hj ⟨ja, hjv, jb, hT⟩
  refine ⟨z, ⟨c.hv, hz, fun e => z2 e.symm, fun e => ?_, fun e => ?_, fun j hj a1 a2 a3 a4 => ?_, fun j hj a1 a2 => ?_⟩, z1, z3, hU, hV⟩
  · rw [← e] at i1
    rcases i1 with e' | e'
    · exact z1 e'
    · exact z3 e'
  · rcases c.inc2 z hz e.symm with e' | e'
    · exact z1 e'
    · exact z3 e'
  · have hj1 : (j + 1) % ps.length < ps.length := Nat.mod_lt _ (by omega)
    refine chord_far c.turn zT hU hV (sim_ne h hj hz a3) (sim_ne h hj1 hz a4) (maxH j hj a1) (maxH _ hj1 a2) (vertex_off h h4 hj c.hv a1.symm a2.symm) (vertex_off h h4 hj hz a3.symm a4.symm) ?_ ?_
    · by_cases e1 : j = ia
      · rw [e1, show trn (gp ps ia) (gp ps iv) (gp ps ia) = 0 from trn_aba _ _]; omega
      · by_cases e2 : (j + 1) % ps.length = ia
        · rw [e2, show trn (gp ps ia) (gp ps iv) (gp ps ia) = 0 from trn_aba _ _]; omega
        · exact (c.fav j hj e1 e2 a1 a2).nx
    · by_cases e1 : j = ib
      · rw [e1, show trn (gp ps iv) (gp ps ib) (gp ps ib) = 0 from trn_abb _ _]; omega
      · by_cases e2 : (j + 1) % ps.length = ib
        · rw [e2, show trn (gp ps iv) (gp ps ib) (gp ps ib) = 0 from trn_abb _ _]; omega
        · exact (c.fvb j hj e1 e2 a1 a2).nx
  · rw [← Bool.not_eq_true]
    intro hh
    obtain ⟨q1, q2⟩ := seg_far2 c.turn zT hU (sim_ne h hj hz a2) hh
    have := maxH j hj a1 q1
    omega
/-- The corner behind edge i, neighbours in the order that turns to the left. -/
theorem cor_of {ps : List Pt} (h : Sim ps) (h4 : 4 ≤ ps.length) {i : Nat} (hi : i < ps.length) : (0 < trn (gp ps i) (gp ps ((i + 1) % ps.length)) (gp ps ((i + 2) % ps.length)) → Cor ps i ((i + 1) % ps.length) ((i + 2) % ps.length)) ∧ (trn (gp ps i) (gp ps ((i + 1) % ps.length)) (gp ps ((i + 2) % ps.length)) < 0 → Cor ps ((i + 2) % ps.length) ((i + 1) % ps.length) i) := by
  have mi := mod_next hi
  have hv : (i + 1) % ps.length < ps.length := Nat.mod_lt _ (by omega)
  have mv := mod_next hv
  rw [mod2] at mv
  have hb : (i + 2) % ps.length < ps.length := Nat.mod_lt _ (by omega)
  have av : i ≠ (i + 1) % ps.length := by split at mi <;> omega
  have vb : (i + 1) % ps.length ≠ (i + 2) % ps.length := by split at mv <;> omega
  have ab : i ≠ (i + 2) % ps.length := by split at mi <;> split at mv <;> omega
  have inc : ∀ j, j < ps.length → (j + 1) % ps.length = (i + 1) % ps.length → j = i := fun j hj e => by
    have mj := mod_next hj
    split at mi <;> split at mj <;> omega
  have fav : ∀ j, j < ps.length → j ≠ i → (j + 1) % ps.length ≠ i → j ≠ (i + 1) % ps.length → (j + 1) % ps.length ≠ (i + 1) % ps.length → Dj (gp ps j) (gp ps ((j + 1) % ps.length)) (gp ps i) (gp ps ((i + 1) % ps.length)) := fun j hj a1 a2 a3 a4 => h.apart i j hi hj a1 a3 a2.symm
  have fvb : ∀ j, j < ps.length → j ≠ (i + 2) % ps.length → (j + 1) % ps.length ≠ (i + 2) % ps.length → j ≠ (i + 1) % ps.length → (j + 1) % ps.length ≠ (i + 1) % ps.length → Dj (gp ps j) (gp ps ((j + 1) % ps.length)) (gp ps ((i + 1) % ps.length)) (gp ps ((i + 2) % ps.length)) := fun j hj a1 a2 a3 a4 => by
    have := h.apart ((i + 1) % ps.length) j hv hj a3 (by rw [mod2]; exact a1) a4.symm
    rw [mod2] at this
    exact this
  have sa : ∀ k, k < ps.length → k ≠ i → k ≠ (i + 1) % ps.length → onSeg (gp ps i) (gp ps ((i + 1) % ps.length)) (gp ps k) = false := fun k hk a b => vertex_off h h4 hi hk a b
  have sb : ∀ k, k < ps.length → k ≠ (i + 1) % ps.length → k ≠ (i + 2) % ps.length → onSeg (gp ps ((i + 1) % ps.length)) (gp ps ((i + 2) % ps.length)) (gp ps k) = false := fun k hk a b => by
    have := vertex_off h h4 hv hk a (by rw [mod2]; exact b)
    rw [mod2] at this
    exact this
  refine ⟨fun ht => ⟨hi, hv, hb, av, vb, ab, .inr mod2, fun j hj e => .inl (inc j hj e), fav, fvb, sa, sb, ht⟩, fun ht => ⟨hb, hv, hi, vb.symm, av.symm, ab.symm, .inl mod2, fun j hj e => .inr (inc j hj e), fun j hj a1 a2 a3 a4 => (fvb j hj a1 a2 a3 a4).swap2, fun j hj a1 a2 a3 a4 => (fav j hj a1 a2 a3 a4).swap2, fun k hk a b => by rw [onSeg_swap]; exact sb k hk b a, fun k hk a b => by rw [onSeg_swap]; exact sa k hk b a, ?_⟩⟩
  have : trn (gp ps ((i + 2) % ps.length)) (gp ps ((i + 1) % ps.length)) (gp ps i) = -trn (gp ps i) (gp ps ((i + 1) % ps.length)) (gp ps ((i + 2) % ps.length)) := by unfold trn; grind
  omega
end Go.Proofs.Ytcebmcbglhkkfaa
/- A chord cuts a simple polygon into two simple polygons. No program in sight. -/
set_option linter.unusedVariables false
set_option linter.unusedSimpArgs false
namespace Go.Proofs.Ytcebmcbglhkkfaa
open Go.RowKit

/-- The corners from i on, d steps. -/
def arc (ps : List Pt) (i d : Nat) : List Pt := (List.range (d + 1)).map fun j => gp ps ((i + j) % ps.length)
theorem arc_len (ps : List Pt) (i d : Nat) : (arc ps i d).length = d + 1 := by simp [arc]
theorem arc_at (ps : List Pt) {i d j : Nat} (h : j ≤ d) : gp (arc ps i d) j = gp ps ((i + j) % ps.length) := by
  rw [gp_lt (by rw [arc_len]; omega)]
  simp [arc]
theorem am {n i j : Nat} (hi : i < n) (hj : j ≤ n) : (i + j) % n = if i + j < n then i + j else i + j - n := by
  split
  · exact Nat.mod_eq_of_lt (by assumption)
  · rw [Nat.mod_eq_sub_mod (by omega)]
    exact Nat.mod_eq_of_lt (by omega)
theorem am_inj {n i j k : Nat} (hi : i < n) (hj : j < n) (hk : k < n) (e : (i + j) % n = (i + k) % n) : j = k := by
  rw [am hi (by omega), am hi (by omega)] at e
  split at e <;> split at e <;> omega
theorem am_succ (n i j : Nat) : ((i + j) % n + 1) % n = (i + (j + 1)) % n := by rw [Nat.mod_add_mod]; rfl
theorem am_succ2 (n i j : Nat) : ((i + j) % n + 2) % n = (i + (j + 2)) % n := by rw [Nat.mod_add_mod]; rfl
/-- A corner of which no end lies on the other's side. -/
theorem opp_on {o q r : Pt} (hoq : o ≠ q) (hqr : q ≠ r) (h1 : onSeg q r o = false) (h2 : onSeg o q r = false) : Opp o q r := by
  intro ht
  refine Classical.byContradiction fun hn => ?_
  have hc : (o.x - q.x) * (r.y - q.y) = (o.y - q.y) * (r.x - q.x) := by unfold trn at ht; grind
  have hl : ((o.y - q.y < 0 ∨ (o.y - q.y = 0 ∧ 0 < o.x - q.x)) ↔ (r.y - q.y < 0 ∨ (r.y - q.y = 0 ∧ 0 < r.x - q.x))) := by
    unfold LowP at hn
    omega
  have hu : o.x - q.x ≠ 0 ∨ o.y - q.y ≠ 0 := Classical.byContradiction fun hh => hoq (pt_eq (by omega) (by omega))
  have hv : r.x - q.x ≠ 0 ∨ r.y - q.y ≠ 0 := Classical.byContradiction fun hh => hqr (pt_eq (by omega) (by omega))
  have hd := dot_pos hc hu hv hl
  have ht2 : trn q r o = 0 := by rw [← trn_rot]; exact ht
  unfold onSeg at h1 h2
  rw [ht2] at h1
  rw [ht] at h2
  simp only [decide_true, Bool.true_and, decide_eq_false_iff_not] at h1 h2
  have e1 : (q.x - o.x) * (r.x - o.x) + (q.y - o.y) * (r.y - o.y) = ((o.x - q.x) * (o.x - q.x) + (o.y - q.y) * (o.y - q.y)) - ((o.x - q.x) * (r.x - q.x) + (o.y - q.y) * (r.y - q.y)) := by grind
  have e2 : (o.x - r.x) * (q.x - r.x) + (o.y - r.y) * (q.y - r.y) = ((r.x - q.x) * (r.x - q.x) + (r.y - q.y) * (r.y - q.y)) - ((o.x - q.x) * (r.x - q.x) + (o.y - q.y) * (r.y - q.y)) := by grind
  rw [e1] at h1
  rw [e2] at h2
  have e3 : ((o.x - q.x) * (o.x - q.x) + (o.y - q.y) * (o.y - q.y)) * ((r.x - q.x) * (r.x - q.x) + (r.y - q.y) * (r.y - q.y)) = ((o.x - q.x) * (r.x - q.x) + (o.y - q.y) * (r.y - q.y)) * ((o.x - q.x) * (r.x - q.x) + (o.y - q.y) * (r.y - q.y)) := by grind
  generalize (o.x - q.x) * (o.x - q.x) + (o.y - q.y) * (o.y - q.y) = U at *
  generalize (r.x - q.x) * (r.x - q.x) + (r.y - q.y) * (r.y - q.y) = V at *
  generalize (o.x - q.x) * (r.x - q.x) + (o.y - q.y) * (r.y - q.y) = D at *
  have m1 := Int.mul_pos (show 0 < U - D by omega) (show 0 < V by omega)
  have m2 := Int.mul_pos hd (show 0 < V - D by omega)
  grind
theorem Cho.four {ps : List Pt} {i k : Nat} (c : Cho ps i k) : 4 ≤ ps.length := by
  have h1 := c.hi; have h2 := c.hk; have h3 := c.ne; have h4 := c.n1; have h5 := c.n2
  have m1 := mod_next h1
  have m2 := mod_next h2
  split at m1 <;> split at m2 <;> omega
theorem arc_sim {ps : List Pt} (h : Sim ps) {i k d : Nat} (c : Cho ps i k) (hd : d < ps.length) (hk : (i + d) % ps.length = k) : 2 ≤ d ∧ d + 2 ≤ ps.length ∧ Sim (arc ps i d) := by
  have h4 := c.four
  have hi := c.hi
  have i0 : (i + 0) % ps.length = i := Nat.mod_eq_of_lt hi
  have ad := am hi (show d ≤ ps.length by omega)
  have hd2 : 2 ≤ d ∧ d + 2 ≤ ps.length := by
    have h3 := c.ne; have h5 := c.n1; have h6 := c.n2
    have m1 := mod_next hi
    have m2 := mod_next c.hk
    rw [hk] at ad
    split at ad <;> split at m1 <;> split at m2 <;> omega
  have lt : ∀ j, (i + j) % ps.length < ps.length := fun j => Nat.mod_lt _ (by omega)
  have nx : ∀ j, j < d → (j + 1) % (d + 1) = j + 1 := fun j hj => Nat.mod_eq_of_lt (by omega)
  have nd : (d + 1) % (d + 1) = 0 := Nat.mod_self _
  refine ⟨hd2.1, hd2.2, ⟨by rw [arc_len]; omega, ?_, fun a b ha hb n1 n2 n3 => ?_, fun a ha => ?_⟩⟩
  · unfold arc List.Nodup
    rw [List.pairwise_map]
    have := List.nodup_range (n := d + 1)
    refine List.Pairwise.imp_of_mem (fun {x y} hx hy hne e => ?_) this
    rw [List.mem_range] at hx hy
    exact hne (am_inj hi (by omega) (by omega) (gp_inj h.nodup (lt _) (lt _) e))
  · rw [arc_len] at ha hb n2 n3 ⊢
    by_cases ea : a = d
    · subst ea
      by_cases eb : b = a
      · exact absurd eb n1
      · rw [nd] at n2 ⊢
        rw [nx b (by omega)] at n3 ⊢
        rw [arc_at ps (by omega), arc_at ps (by omega), arc_at ps (Nat.le_refl _), arc_at ps (Nat.zero_le _), i0, hk]
        have := c.far ((i + b) % ps.length) (lt b) (fun e => n2 (am_inj hi (show b < ps.length by omega) (show 0 < ps.length by omega) (e.trans i0.symm)))
          (by rw [am_succ]; exact fun e => by have := am_inj hi (show b + 1 < ps.length by omega) (show 0 < ps.length by omega) (e.trans i0.symm); omega)
          (fun e => eb (am_inj hi (show b < ps.length by omega) hd (e.trans hk.symm)))
          (by rw [am_succ]; exact fun e => n3 (am_inj hi (show b + 1 < ps.length by omega) hd (e.trans hk.symm)).symm)
        rw [am_succ] at this
        exact this.swap2
    · rw [nx a (by omega)] at n2 ⊢
      by_cases eb : b = d
      · subst eb
        rw [nd] at n3 ⊢
        rw [arc_at ps (j := b) (Nat.le_refl _), arc_at ps (j := 0) (Nat.zero_le _), arc_at ps (j := a) (by omega), arc_at ps (j := a + 1) (by omega), i0, hk]
        have := c.far ((i + a) % ps.length) (lt a) (fun e => n3 (am_inj hi (show a < ps.length by omega) (show 0 < ps.length by omega) (e.trans i0.symm)))
          (by rw [am_succ]; exact fun e => by have := am_inj hi (show a + 1 < ps.length by omega) (show 0 < ps.length by omega) (e.trans i0.symm); omega)
          (fun e => ea (am_inj hi (show a < ps.length by omega) hd (e.trans hk.symm)))
          (by rw [am_succ]; exact fun e => n2 (am_inj hi (show a + 1 < ps.length by omega) hd (e.trans hk.symm)).symm)
        rw [am_succ] at this
        exact this.swap2.turn
      · rw [nx b (by omega)] at n3 ⊢
        rw [arc_at ps (by omega), arc_at ps (by omega), arc_at ps (by omega), arc_at ps (by omega)]
        have := h.apart ((i + a) % ps.length) ((i + b) % ps.length) (lt a) (lt b) (fun e => n1 (am_inj hi (by omega) (by omega) e)) (by rw [am_succ]; exact fun e => n2 (am_inj hi (by omega) (by omega) e)) (by rw [am_succ]; exact fun e => n3 (am_inj hi (by omega) (by omega) e))
        rw [am_succ, am_succ] at this
        exact this
  · rw [arc_len] at ha ⊢
    by_cases e1 : a + 2 ≤ d
    · rw [Nat.mod_eq_of_lt (show a + 1 < d + 1 by omega), Nat.mod_eq_of_lt (show a + 2 < d + 1 by omega), arc_at ps (by omega), arc_at ps (by omega), arc_at ps (by omega)]
      have := h.opp ((i + a) % ps.length) (lt a)
      rw [am_succ, am_succ2] at this
      exact this
    · by_cases e2 : a + 1 = d
      · have ed : d = a + 1 := e2.symm
        subst ed
        rw [Nat.mod_eq_of_lt (show a + 1 < a + 1 + 1 by omega), show (a + 2) % (a + 1 + 1) = 0 from Nat.mod_self _, arc_at ps (by omega), arc_at ps (Nat.le_refl _), arc_at ps (Nat.zero_le _), i0, hk]
        have na : (i + a) % ps.length ≠ k := fun e => by have := am_inj hi (show a < ps.length by omega) hd (e.trans hk.symm); omega
        have na2 : (i + a) % ps.length ≠ i := fun e => by have := am_inj hi (show a < ps.length by omega) (show 0 < ps.length by omega) (e.trans i0.symm); omega
        refine opp_on (sim_ne h (lt a) c.hk na) (sim_ne h c.hk hi c.ne.symm) (c.symm.off _ (lt a) na na2) ?_
        have := vertex_off h h4 (lt a) hi na2.symm (by rw [am_succ, hk]; exact c.ne)
        rw [am_succ, hk] at this
        exact this
      · have e3 : a = d := by omega
        subst e3
        rw [nd, show (a + 2) % (a + 1) = 1 by rw [show a + 2 = 1 + (a + 1) by omega, Nat.add_mod_right]; exact Nat.mod_eq_of_lt (by omega), arc_at ps (Nat.le_refl _), arc_at ps (Nat.zero_le _), arc_at ps (by omega), i0, hk]
        have nb : (i + 1) % ps.length ≠ i := fun e => by have := am_inj hi (show 1 < ps.length by omega) (show 0 < ps.length by omega) (e.trans i0.symm); omega
        have nb2 : (i + 1) % ps.length ≠ k := c.n1.symm
        refine opp_on (sim_ne h c.hk hi c.ne.symm) (sim_ne h hi (lt 1) nb.symm) (vertex_off h h4 hi c.hk c.ne.symm c.n1) (c.symm.off _ (lt 1) nb2 nb)
/-! ### sums over the edges -/
def edgeSum (F : Pt → Pt → Int) (ps : List Pt) : Int := sumN (fun k => F (gp ps k) (gp ps ((k + 1) % ps.length))) ps.length
theorem area_sum (ps : List Pt) : areaL ps = edgeSum crP ps := by
  unfold areaL edgeSum
  generalize hn : ps.length = n
  have : ∀ k, areaTo ps k = sumN (fun k => crP (gp ps k) (gp ps ((k + 1) % n))) k := fun k => by
    induction k with
    | zero => rfl
    | succ k ih => unfold areaTo sumN; rw [ih, hn]
  exact this n
theorem sumN_split (f : Nat → Int) (a : Nat) : ∀ b, sumN f (a + b) = sumN f a + sumN (fun j => f (a + j)) b
  | 0 => by simp [sumN]
  | b + 1 => by
    show sumN f (a + b) + f (a + b) = sumN f a + (sumN (fun j => f (a + j)) b + f (a + b))
    rw [sumN_split f a b]; omega
theorem sumN_shift (f : Nat → Int) {n i : Nat} (hi : i < n) : sumN (fun j => f ((i + j) % n)) n = sumN f n := by
  have e1 : n = (n - i) + i := by omega
  have e2 : sumN (fun j => f ((i + j) % n)) n = sumN (fun j => f ((i + j) % n)) (n - i) + sumN (fun j => f ((i + ((n - i) + j)) % n)) i := by
    have := sumN_split (fun j => f ((i + j) % n)) (n - i) i
    rw [← e1] at this
    exact this
  have e3 : sumN (fun j => f ((i + j) % n)) (n - i) = sumN (fun j => f (i + j)) (n - i) := sumN_congr fun j hj => by rw [Nat.mod_eq_of_lt (by omega)]
  have e4 : sumN (fun j => f ((i + ((n - i) + j)) % n)) i = sumN f i := sumN_congr fun j hj => by
    rw [show i + ((n - i) + j) = n + j by omega, Nat.add_mod_left, Nat.mod_eq_of_lt (by omega)]
  have e5 := sumN_split f i (n - i)
  rw [show i + (n - i) = n by omega] at e5
  rw [e2, e3, e4, e5]; omega
theorem arc_sum (F : Pt → Pt → Int) (ps : List Pt) {i d : Nat} (hi : i < ps.length) : edgeSum F (arc ps i d) = sumN (fun j => F (gp ps ((i + j) % ps.length)) (gp ps ((i + j + 1) % ps.length))) d + F (gp ps ((i + d) % ps.length)) (gp ps i) := by
  unfold edgeSum
  rw [arc_len]
  show sumN _ d + F (gp (arc ps i d) d) (gp (arc ps i d) ((d + 1) % (d + 1))) = _
  rw [Nat.mod_self, arc_at ps (Nat.le_refl _), arc_at ps (Nat.zero_le _), show (i + 0) % ps.length = i from Nat.mod_eq_of_lt hi]
  congr 1
  refine sumN_congr fun j hj => ?_
  rw [Nat.mod_eq_of_lt (show j + 1 < d + 1 by omega), arc_at ps (by omega), arc_at ps (by omega)]
  rfl
/-- A sum over the edges is the sum of those over the two parts. -/
theorem cut_sum (F : Pt → Pt → Int) (hF : ∀ a b, F b a = -F a b) (ps : List Pt) {i k d : Nat} (hi : i < ps.length) (hd : d ≤ ps.length) (hk : (i + d) % ps.length = k) (hkl : k < ps.length) : edgeSum F ps = edgeSum F (arc ps i d) + edgeSum F (arc ps k (ps.length - d)) := by
  rw [arc_sum F ps hi, arc_sum F ps hkl]
  have e1 : (k + (ps.length - d)) % ps.length = i := by
    rw [← hk, Nat.mod_add_mod, show i + d + (ps.length - d) = i + ps.length by omega, Nat.add_mod_right]
    exact Nat.mod_eq_of_lt hi
  rw [e1, hk, hF (gp ps k) (gp ps i)]
  have e2 := sumN_shift (fun m => F (gp ps m) (gp ps ((m + 1) % ps.length))) hi
  have e3 := sumN_split (fun j => F (gp ps ((i + j) % ps.length)) (gp ps ((i + j + 1) % ps.length))) d (ps.length - d)
  rw [show d + (ps.length - d) = ps.length by omega] at e3
  have e4 : sumN (fun j => F (gp ps ((i + (d + j)) % ps.length)) (gp ps ((i + (d + j) + 1) % ps.length))) (ps.length - d) = sumN (fun j => F (gp ps ((k + j) % ps.length)) (gp ps ((k + j + 1) % ps.length))) (ps.length - d) := sumN_congr fun j hj => by
    rw [← hk, Nat.mod_add_mod, show (i + d) % ps.length + j + 1 = (i + d) % ps.length + (j + 1) by omega, Nat.mod_add_mod]
    rw [show i + (d + j) = i + d + j by omega, show i + d + j + 1 = i + d + (j + 1) by omega]
  have e5 : sumN (fun j => F (gp ps ((i + j) % ps.length)) (gp ps (((i + j) % ps.length + 1) % ps.length))) ps.length = sumN (fun j => F (gp ps ((i + j) % ps.length)) (gp ps ((i + j + 1) % ps.length))) ps.length := sumN_congr fun j hj => by rw [Nat.mod_add_mod]
  unfold edgeSum
  rw [← e2, e5, e3, e4]
  omega
end Go.Proofs.Ytcebmcbglhkkfaa
/- The sign of a simple polygon's area. No program in sight. -/
set_option linter.unusedVariables false
set_option linter.unusedSimpArgs false
namespace Go.Proofs.Ytcebmcbglhkkfaa
open Go.RowKit

theorem one_low {U V H pa pv pb : Int} (h1 : pa ≤ 0) (h2 : 0 < pv) (h3 : 0 < pb) (e : U * pb + V * pa + H * pv = 0) (ht : 0 < U + V + H) (hn : ¬ (0 ≤ U ∧ 0 ≤ V ∧ 0 ≤ H)) : 0 < U ↔ H < 0 := by
  constructor
  · intro hu
    refine Classical.byContradiction fun hh => ?_
    have p1 := Int.mul_pos hu h3
    have p2 := Int.mul_nonneg (show 0 ≤ H by omega) (show 0 ≤ pv by omega)
    refine hn ⟨by omega, ?_, by omega⟩
    refine Classical.byContradiction fun hv => ?_
    have := Int.mul_nonneg (show 0 ≤ -V by omega) (show 0 ≤ -pa by omega)
    rw [Int.neg_mul_neg] at this
    omega
  · intro hh
    refine Classical.byContradiction fun hu => ?_
    have p1 := Int.mul_nonneg (show 0 ≤ -U by omega) (show 0 ≤ pb by omega)
    have p2 := Int.mul_pos (show 0 < -H by omega) h2
    rw [Int.neg_mul] at p1 p2
    have : 0 < V := by omega
    have p3 := Int.mul_nonneg (show 0 ≤ V by omega) (show 0 ≤ -pa by omega)
    rw [Int.mul_neg] at p3
    omega
theorem one_high {U V H pa pv pb : Int} (h1 : 0 < pa) (h2 : pv ≤ 0) (h3 : pb ≤ 0) (e : U * pb + V * pa + H * pv = 0) (ht : 0 < U + V + H) (hn : ¬ (0 ≤ U ∧ 0 ≤ V ∧ 0 ≤ H)) : 0 < H ↔ U < 0 := by
  constructor
  · intro hh
    refine Classical.byContradiction fun hu => ?_
    have p1 := Int.mul_nonneg (show 0 ≤ U by omega) (show 0 ≤ -pb by omega)
    have p2 := Int.mul_nonneg (show 0 ≤ H by omega) (show 0 ≤ -pv by omega)
    rw [Int.mul_neg] at p1 p2
    refine hn ⟨by omega, ?_, by omega⟩
    refine Classical.byContradiction fun hv => ?_
    have := Int.mul_pos (show 0 < -V by omega) h1
    rw [Int.neg_mul] at this
    omega
  · intro hu
    refine Classical.byContradiction fun hh => ?_
    have hv : 0 < V := by omega
    have p0 := Int.mul_pos hv h1
    have p1 := Int.mul_nonneg (show 0 ≤ -U by omega) (show 0 ≤ -pb by omega)
    have p2 := Int.mul_nonneg (show 0 ≤ -H by omega) (show 0 ≤ -pv by omega)
    rw [Int.neg_mul_neg] at p1 p2
    omega
theorem cw_in {a b q : Pt} (h1 : a.y ≤ q.y) (h2 : q.y < b.y) : cw a b q = if 0 < trn a b q then 1 else 0 := by
  rw [cw_up (by omega)]
  by_cases h : 0 < trn a b q
  · rw [if_pos ⟨h1, h2, h⟩, if_pos h]
  · rw [if_neg (fun hh => h hh.2.2), if_neg h]
theorem cw_in2 {a b q : Pt} (h1 : b.y ≤ q.y) (h2 : q.y < a.y) : cw a b q = if trn a b q < 0 then -1 else 0 := by
  rw [cw_swap b a q, cw_in h1 h2, trn_flip a b q]
  by_cases h : trn a b q < 0
  · rw [if_pos (show 0 < -trn a b q by omega), if_pos h]
  · rw [if_neg (show ¬ 0 < -trn a b q by omega), if_neg h]; rfl
theorem cw_lo {a b q : Pt} (h1 : a.y ≤ q.y) (h2 : b.y ≤ q.y) : cw a b q = 0 := by unfold cw; rw [if_neg (by omega), if_neg (by omega)]
theorem cw_hi {a b q : Pt} (h1 : q.y < a.y) (h2 : q.y < b.y) : cw a b q = 0 := by unfold cw; rw [if_neg (by omega), if_neg (by omega)]
theorem mom (a v b q : Pt) : trn a v q * (b.y - q.y) + trn v b q * (a.y - q.y) + trn b a q * (v.y - q.y) = 0 := by unfold trn; grind
/-- One corner below the ray. -/
theorem tri_low {a v b q : Pt} (ht : 0 < trn a v b) (hn : ¬ InT a v b q) (h1 : a.y ≤ q.y) (h2 : q.y < v.y) (h3 : q.y < b.y) : cw a v q + cw v b q + cw b a q = 0 := by
  have T := tri_t a v b q
  have i := one_low (by omega) (by omega) (by omega) (mom a v b q) (by omega) hn
  rw [cw_in h1 h2, cw_hi h2 h3, cw_in2 h1 h3]
  by_cases h : 0 < trn a v q
  · rw [if_pos h, if_pos (i.1 h)]; rfl
  · rw [if_neg h, if_neg (fun hh => h (i.2 hh))]; rfl
theorem tri_high {a v b q : Pt} (ht : 0 < trn a v b) (hn : ¬ InT a v b q) (h1 : q.y < a.y) (h2 : v.y ≤ q.y) (h3 : b.y ≤ q.y) : cw a v q + cw v b q + cw b a q = 0 := by
  have T := tri_t a v b q
  have i := one_high (by omega) (by omega) (by omega) (mom a v b q) (by omega) hn
  rw [cw_in2 h2 h1, cw_lo h2 h3, cw_in h3 h1]
  by_cases h : 0 < trn b a q
  · rw [if_pos h, if_pos (i.1 h)]; rfl
  · rw [if_neg h, if_neg (fun hh => h (i.2 hh))]; rfl
theorem inT_rot {a v b q : Pt} : InT v b a q ↔ InT a v b q := by unfold InT; exact ⟨fun ⟨x, y, z⟩ => ⟨z, x, y⟩, fun ⟨x, y, z⟩ => ⟨y, z, x⟩⟩
/-- Outside of a triangle nothing is left or right of it. -/
theorem tri_out {a v b q : Pt} (ht : 0 < trn a v b) (hn : ¬ InT a v b q) : cw a v q + cw v b q + cw b a q = 0 := by
  have t2 : 0 < trn v b a := by rw [← trn_rot]; exact ht
  have t3 : 0 < trn b a v := by rw [← trn_rot]; exact t2
  have n2 : ¬ InT v b a q := fun h => hn (inT_rot.1 h)
  have n3 : ¬ InT b a v q := fun h => n2 (inT_rot.1 h)
  by_cases ha : a.y ≤ q.y <;> by_cases hv : v.y ≤ q.y <;> by_cases hb : b.y ≤ q.y
  · rw [cw_lo ha hv, cw_lo hv hb, cw_lo hb ha]; rfl
  · have := tri_high t3 n3 (by omega) ha hv; omega
  · have := tri_high t2 n2 (by omega) hb ha; omega
  · exact tri_low ht hn ha (by omega) (by omega)
  · exact tri_high ht hn (by omega) hv hb
  · have := tri_low t2 n2 hv (by omega) (by omega); omega
  · have := tri_low t3 n3 hb (by omega) (by omega); omega
  · rw [cw_hi (by omega) (by omega), cw_hi (by omega) (by omega), cw_hi (by omega) (by omega)]; rfl
theorem wn_sum (ps : List Pt) (q : Pt) : wn ps q = edgeSum (fun a b => cw a b q) ps := rfl
theorem crP_swap (a b : Pt) : crP b a = -crP a b := by unfold crP; grind
theorem arc_mem {ps : List Pt} (h0 : 0 < ps.length) {i d : Nat} {p : Pt} (h : p ∈ arc ps i d) : p ∈ ps := by
  unfold arc at h
  obtain ⟨j, _, rfl⟩ := List.mem_map.1 h
  exact gp_mem (Nat.mod_lt _ h0)
/-- What is known of a simple polygon: left of the edges and the area. -/
def SgnOk (ps : List Pt) : Prop := (Lft ps = 1 ∧ 0 < areaL ps) ∨ (Lft ps = 0 ∧ areaL ps < 0)
theorem last_corner {ps : List Pt} (h : Sim ps) : ∃ i, i < ps.length ∧ ∀ p ∈ ps, p = gp ps ((i + 1) % ps.length) ∨ ltP p (gp ps ((i + 1) % ps.length)) := by
  have h3 := h.three
  obtain ⟨m, hm, hmax⟩ := set_max (l := ps) (fun e => by rw [e] at h3; simp at h3)
  obtain ⟨j, hj, rfl⟩ := gp_of_mem hm
  obtain ⟨i, hi, ei⟩ : ∃ i, i < ps.length ∧ (i + 1) % ps.length = j := by
    by_cases h0 : j = 0
    · exact ⟨ps.length - 1, by omega, by rw [h0, show ps.length - 1 + 1 = ps.length by omega, Nat.mod_self]⟩
    · exact ⟨j - 1, by omega, by rw [show j - 1 + 1 = j by omega]; exact Nat.mod_eq_of_lt hj⟩
  exact ⟨i, hi, by rw [ei]; exact hmax⟩
theorem area3 (a b c : Pt) : areaL [a, b, c] = trn a b c := by
  unfold areaL
  simp [areaTo, gp]
  unfold crP trn; grind
theorem sgn_3 {ps : List Pt} (h : Sim ps) (h3 : ps.length = 3) : SgnOk ps := by
  obtain ⟨i, hi, hm⟩ := last_corner h
  have L := Lft_max h hi hm
  match ps, h3 with
  | [a, b, c], _ =>
    have ar := area3 a b c
    have r1 : trn b c a = trn a b c := (trn_rot a b c).symm
    have r2 : trn c a b = trn a b c := by rw [← trn_rot b c a]; exact r1
    unfold SgnOk
    rw [ar]
    simp only [List.length_cons, List.length_nil] at hi L
    match i, hi with
    | 0, _ =>
      have L' : (0 < trn a b c ∧ Lft [a, b, c] = 1) ∨ (trn a b c < 0 ∧ Lft [a, b, c] = 0) := L
      omega
    | 1, _ =>
      have L' : (0 < trn b c a ∧ Lft [a, b, c] = 1) ∨ (trn b c a < 0 ∧ Lft [a, b, c] = 0) := L
      omega
    | 2, _ =>
      have L' : (0 < trn c a b ∧ Lft [a, b, c] = 1) ∨ (trn c a b < 0 ∧ Lft [a, b, c] = 0) := L
      omega
end Go.Proofs.Ytcebmcbglhkkfaa
/- The sign of a simple polygon's area is that of its corner farthest in order, and what lies left of its edges. No program in sight. -/
set_option linter.unusedVariables false
set_option linter.unusedSimpArgs false
namespace Go.Proofs.Ytcebmcbglhkkfaa
open Go.RowKit

theorem dist_ex {n i k : Nat} (hi : i < n) (hk : k < n) : ∃ d, d < n ∧ (i + d) % n = k := by
  by_cases h : i ≤ k
  · exact ⟨k - i, by omega, by rw [show i + (k - i) = k by omega]; exact Nat.mod_eq_of_lt hk⟩
  · refine ⟨k + n - i, by omega, ?_⟩
    rw [show i + (k + n - i) = k + n by omega, Nat.add_mod_right]
    exact Nat.mod_eq_of_lt hk
theorem back {n i d k : Nat} (hi : i < n) (hd : d ≤ n) (hk : (i + d) % n = k) : (k + (n - d)) % n = i := by
  rw [← hk, Nat.mod_add_mod, show i + d + (n - d) = i + n by omega, Nat.add_mod_right]
  exact Nat.mod_eq_of_lt hi
theorem sgn_sum {ps : List Pt} {i k d : Nat} (hi : i < ps.length) (hd : d ≤ ps.length) (hk : (i + d) % ps.length = k) (hkl : k < ps.length) : areaL ps = areaL (arc ps i d) + areaL (arc ps k (ps.length - d)) ∧ ∀ q, wn ps q = wn (arc ps i d) q + wn (arc ps k (ps.length - d)) q :=
  ⟨by rw [area_sum, area_sum, area_sum]; exact cut_sum crP crP_swap ps hi hd hk hkl, fun q => by rw [wn_sum, wn_sum, wn_sum]; exact cut_sum _ (fun a b => cw_swap a b q) ps hi hd hk hkl⟩
theorem tri_sums (F : Pt → Pt → Int) {ps : List Pt} {i : Nat} (hi : i < ps.length) : edgeSum F (arc ps i 2) = F (gp ps i) (gp ps ((i + 1) % ps.length)) + F (gp ps ((i + 1) % ps.length)) (gp ps ((i + 2) % ps.length)) + F (gp ps ((i + 2) % ps.length)) (gp ps i) := by
  rw [arc_sum F ps hi]
  show 0 + F (gp ps ((i + 0) % ps.length)) (gp ps ((i + 0 + 1) % ps.length)) + F (gp ps ((i + 1) % ps.length)) (gp ps ((i + 1 + 1) % ps.length)) + _ = _
  rw [show (i + 0) % ps.length = i from Nat.mod_eq_of_lt hi]
  show 0 + F (gp ps i) (gp ps ((i + 1) % ps.length)) + F (gp ps ((i + 1) % ps.length)) (gp ps ((i + 2) % ps.length)) + _ = _
  omega
theorem cr_tri (a b c : Pt) : crP a b + crP b c + crP c a = trn a b c := by unfold crP trn; grind
/-- A chord from the farthest corner. -/
theorem far_case {ps : List Pt} (h : Sim ps) (ih : ∀ m, m < ps.length → ∀ qs : List Pt, qs.length = m → Sim qs → SgnOk qs) {i z : Nat} (hi : i < ps.length) (c : Cho ps ((i + 1) % ps.length) z)
    (hm : ∀ p ∈ ps, p = gp ps ((i + 1) % ps.length) ∨ ltP p (gp ps ((i + 1) % ps.length))) (L : Int) :
    (0 < trn (gp ps z) (gp ps ((i + 1) % ps.length)) (gp ps ((i + 2) % ps.length)) → 0 < trn (gp ps i) (gp ps ((i + 1) % ps.length)) (gp ps z) → 0 < areaL ps) ∧
    (trn (gp ps z) (gp ps ((i + 1) % ps.length)) (gp ps ((i + 2) % ps.length)) < 0 → trn (gp ps i) (gp ps ((i + 1) % ps.length)) (gp ps z) < 0 → areaL ps < 0) := by
  have hv := c.hi
  have hz := c.hk
  obtain ⟨d, hd, ed⟩ := dist_ex hv hz
  obtain ⟨d2, dn, S1⟩ := arc_sim h c hd ed
  have eb := back hv (by omega) ed
  obtain ⟨_, _, S2⟩ := arc_sim h c.symm (d := ps.length - d) (by omega) eb
  have hn : 0 < ps.length := by omega
  have v0 : ((i + 1) % ps.length + 0) % ps.length = (i + 1) % ps.length := Nat.mod_eq_of_lt hv
  have z0 : (z + 0) % ps.length = z := Nat.mod_eq_of_lt hz
  have A := (sgn_sum hv (show d ≤ ps.length by omega) ed hz).1
  have I1 := ih (d + 1) (by omega) _ (arc_len ps _ d) S1
  have I2 := ih (ps.length - d + 1) (by omega) _ (arc_len ps _ _) S2
  have M1 := Lft_max S1 (i := d) (by rw [arc_len]; omega) (fun p hp => by
    rw [arc_len, Nat.mod_self, arc_at ps (Nat.zero_le _), v0]
    exact hm p (arc_mem hn hp))
  rw [arc_len, Nat.mod_self, show (d + 2) % (d + 1) = 1 by rw [show d + 2 = 1 + (d + 1) by omega, Nat.add_mod_right]; exact Nat.mod_eq_of_lt (by omega), arc_at ps (Nat.le_refl _), arc_at ps (Nat.zero_le _), arc_at ps (by omega), v0, ed, mod2] at M1
  have hl : (z + (ps.length - d - 1)) % ps.length = i := by
    have e1 := am_succ ps.length z (ps.length - d - 1)
    rw [show ps.length - d - 1 + 1 = ps.length - d by omega, eb] at e1
    have m1 := mod_next hi
    have m2 := mod_next (show (z + (ps.length - d - 1)) % ps.length < ps.length from Nat.mod_lt _ hn)
    have l1 : (z + (ps.length - d - 1)) % ps.length < ps.length := Nat.mod_lt _ hn
    split at m1 <;> split at m2 <;> omega
  have M2 := Lft_max S2 (i := ps.length - d - 1) (by rw [arc_len]; omega) (fun p hp => by
    rw [arc_len, show ps.length - d - 1 + 1 = ps.length - d by omega, Nat.mod_eq_of_lt (by omega), arc_at ps (Nat.le_refl _), eb]
    exact hm p (arc_mem hn hp))
  rw [arc_len, show ps.length - d - 1 + 1 = ps.length - d by omega, Nat.mod_eq_of_lt (show ps.length - d < ps.length - d + 1 by omega), show ps.length - d - 1 + 2 = ps.length - d + 1 by omega, Nat.mod_self, arc_at ps (by omega), arc_at ps (Nat.le_refl _), arc_at ps (Nat.zero_le _), z0, eb, hl] at M2
  unfold SgnOk at I1 I2
  constructor
  · intro t1 t2; omega
  · intro t1 t2; omega
/-- A chord over an empty corner. -/
theorem ear_case {ps : List Pt} (h : Sim ps) (ih : ∀ m, m < ps.length → ∀ qs : List Pt, qs.length = m → Sim qs → SgnOk qs) {i : Nat} (hi : i < ps.length) (c : Cho ps ((i + 2) % ps.length) i)
    (hout : ∀ j, j < ps.length → j ≠ i → j ≠ (i + 1) % ps.length → j ≠ (i + 2) % ps.length → cw (gp ps i) (gp ps ((i + 1) % ps.length)) (gp ps j) + cw (gp ps ((i + 1) % ps.length)) (gp ps ((i + 2) % ps.length)) (gp ps j) + cw (gp ps ((i + 2) % ps.length)) (gp ps i) (gp ps j) = 0) :
    ∃ A : Int, areaL ps = A + trn (gp ps i) (gp ps ((i + 1) % ps.length)) (gp ps ((i + 2) % ps.length)) ∧ ((Lft ps = 1 ∧ 0 < A) ∨ (Lft ps = 0 ∧ A < 0)) := by
  have h4 := c.four
  have hb := c.hi
  have ed : ((i + 2) % ps.length + (ps.length - 2)) % ps.length = i := by
    rw [Nat.mod_add_mod, show i + 2 + (ps.length - 2) = i + ps.length by omega, Nat.add_mod_right]
    exact Nat.mod_eq_of_lt hi
  obtain ⟨d2, dn, S1⟩ := arc_sim h c (d := ps.length - 2) (by omega) ed
  obtain ⟨A, W⟩ := sgn_sum hb (show ps.length - 2 ≤ ps.length by omega) ed hi
  rw [show ps.length - (ps.length - 2) = 2 by omega] at A W
  have A2 : areaL (arc ps i 2) = trn (gp ps i) (gp ps ((i + 1) % ps.length)) (gp ps ((i + 2) % ps.length)) := by
    rw [area_sum, tri_sums crP hi, cr_tri]
  have I1 := ih (ps.length - 2 + 1) (by omega) _ (arc_len ps _ _) S1
  have b0 : ((i + 2) % ps.length + 0) % ps.length = (i + 2) % ps.length := Nat.mod_eq_of_lt hb
  have w1 := wn_at S1 (i := 0) (by rw [arc_len]; omega)
  rw [arc_len, Nat.mod_eq_of_lt (show 0 + 1 < ps.length - 2 + 1 by omega), Nat.mod_eq_of_lt (show 0 + 2 < ps.length - 2 + 1 by omega), arc_at ps (show 0 + 1 ≤ ps.length - 2 by omega), arc_at ps (Nat.zero_le _), arc_at ps (show 0 + 2 ≤ ps.length - 2 by omega), b0] at w1
  have w2 := wn_at h hb
  have hu : ((i + 2) % ps.length + 1) % ps.length < ps.length := Nat.mod_lt _ (by omega)
  have m1 := mod_next hi
  have hv : (i + 1) % ps.length < ps.length := Nat.mod_lt _ (by omega)
  have m2 := mod_next hv
  rw [mod2] at m2
  have m3 := mod_next hb
  have o := hout _ hu (by split at m1 <;> split at m2 <;> split at m3 <;> omega) (by split at m1 <;> split at m2 <;> split at m3 <;> omega) (by split at m3 <;> omega)
  have w3 := W (gp ps (((i + 2) % ps.length + 1) % ps.length))
  have w4 : wn (arc ps i 2) (gp ps (((i + 2) % ps.length + 1) % ps.length)) = 0 := by rw [wn_sum, tri_sums _ hi]; exact o
  have e01 : ((i + 2) % ps.length + (0 + 1)) % ps.length = ((i + 2) % ps.length + 1) % ps.length := rfl
  have e02 : ((i + 2) % ps.length + (0 + 2)) % ps.length = ((i + 2) % ps.length + 2) % ps.length := rfl
  rw [e01, e02] at w1
  refine ⟨areaL (arc ps ((i + 2) % ps.length) (ps.length - 2)), by rw [A, A2], ?_⟩
  unfold SgnOk at I1
  have : Lft (arc ps ((i + 2) % ps.length) (ps.length - 2)) = Lft ps := by omega
  rw [this] at I1
  exact I1
theorem sgn_ok : ∀ (n : Nat) (ps : List Pt), ps.length = n → Sim ps → SgnOk ps := by
  intro n
  induction n using Nat.strongRecOn with
  | ind n ih =>
    intro ps hn h
    by_cases h3 : ps.length = 3
    · exact sgn_3 h h3
    have h4 : 4 ≤ ps.length := by have := h.three; omega
    have ih' : ∀ m, m < ps.length → ∀ qs : List Pt, qs.length = m → Sim qs → SgnOk qs := fun m hm qs hq hs => ih m (by omega) qs hq hs
    obtain ⟨i, hi, hm⟩ := last_corner h
    have L := Lft_max h hi hm
    obtain ⟨c1, c2⟩ := cor_of h h4 hi
    have fl : ∀ a b c : Pt, trn c b a = -trn a b c := fun a b c => by unfold trn; grind
    unfold SgnOk
    rcases L with ⟨t, L⟩ | ⟨t, L⟩
    · have c := c1 t
      by_cases hE : ∃ j, j < ps.length ∧ (j ≠ i ∧ j ≠ (i + 1) % ps.length ∧ j ≠ (i + 2) % ps.length ∧ InT (gp ps i) (gp ps ((i + 1) % ps.length)) (gp ps ((i + 2) % ps.length)) (gp ps j))
      · obtain ⟨z, ch, _, _, u, w⟩ := cor_far h c h4 hE
        have := (far_case h ih' hi ch hm 0).1 (by rw [trn_rot]; exact w) u
        exact .inl ⟨L, this⟩
      · have hE' : ∀ j, j < ps.length → j ≠ i → j ≠ (i + 1) % ps.length → j ≠ (i + 2) % ps.length → ¬ InT (gp ps i) (gp ps ((i + 1) % ps.length)) (gp ps ((i + 2) % ps.length)) (gp ps j) := fun j a b c d e => hE ⟨j, a, b, c, d, e⟩
        obtain ⟨A, e1, e2⟩ := ear_case h ih' hi (cor_ear h c h4 hE') (fun j a b c d => tri_out t (hE' j a b c d))
        omega
    · have c := c2 t
      have t' : 0 < trn (gp ps ((i + 2) % ps.length)) (gp ps ((i + 1) % ps.length)) (gp ps i) := c.turn
      by_cases hE : ∃ j, j < ps.length ∧ (j ≠ (i + 2) % ps.length ∧ j ≠ (i + 1) % ps.length ∧ j ≠ i ∧ InT (gp ps ((i + 2) % ps.length)) (gp ps ((i + 1) % ps.length)) (gp ps i) (gp ps j))
      · obtain ⟨z, ch, _, _, u, w⟩ := cor_far h c h4 hE
        have k1 := fl (gp ps ((i + 2) % ps.length)) (gp ps ((i + 1) % ps.length)) (gp ps z)
        have k2 : trn (gp ps i) (gp ps ((i + 1) % ps.length)) (gp ps z) = -trn (gp ps ((i + 1) % ps.length)) (gp ps i) (gp ps z) := trn_flip _ _ _
        have := (far_case h ih' hi ch hm 0).2 (by omega) (by omega)
        exact .inr ⟨L, this⟩
      · have hE' : ∀ j, j < ps.length → j ≠ (i + 2) % ps.length → j ≠ (i + 1) % ps.length → j ≠ i → ¬ InT (gp ps ((i + 2) % ps.length)) (gp ps ((i + 1) % ps.length)) (gp ps i) (gp ps j) := fun j a b c d e => hE ⟨j, a, b, c, d, e⟩
        obtain ⟨A, e1, e2⟩ := ear_case h ih' hi (cor_ear h c h4 hE').symm (fun j a b c d => by
          have := tri_out t' (hE' j a d c b)
          rw [cw_swap (gp ps ((i + 2) % ps.length)) (gp ps ((i + 1) % ps.length)), cw_swap (gp ps ((i + 1) % ps.length)) (gp ps i), cw_swap (gp ps i) (gp ps ((i + 2) % ps.length))]
          omega)
        omega
/-- The area of a simple polygon is not nothing, and its sign tells which side lies within. -/
theorem area_sgn {ps : List Pt} (h : simB ps = true) : (Lft ps = 1 ∧ 0 < areaL ps) ∨ (Lft ps = 0 ∧ areaL ps < 0) := sgn_ok _ ps rfl (sim_of h)
end Go.Proofs.Ytcebmcbglhkkfaa
/- What is seen from a corner of a simple polygon: left or right. No program in sight. -/
set_option linter.unusedVariables false
set_option linter.unusedSimpArgs false
namespace Go.Proofs.Ytcebmcbglhkkfaa
open Go.RowKit

/-- Three ways upward: what turns left twice turns left. -/
theorem up_trans {ux uy vx vy wx wy : Int} (hu : 0 < uy ∨ (uy = 0 ∧ ux < 0)) (hv : 0 < vy ∨ (vy = 0 ∧ vx < 0)) (hw : 0 < wy ∨ (wy = 0 ∧ wx < 0)) (hA : 0 ≤ vx * uy - vy * ux) (hC : 0 < wx * vy - wy * vx) : 0 < wx * uy - wy * ux := by
  have id : (wx * uy - wy * ux) * vy = (vx * uy - vy * ux) * wy + (wx * vy - wy * vx) * uy := by grind
  rcases hv with hv | ⟨hv, hvx⟩
  · rcases hu with hu | ⟨hu, hux⟩
    · have p1 := Int.mul_nonneg hA (show 0 ≤ wy by omega)
      have p2 := Int.mul_pos hC hu
      have p3 : 0 < vy * (wx * uy - wy * ux) := by rw [Int.mul_comm]; omega
      exact prod_pos p3 hv
    · subst hu
      rcases hw with hw | ⟨hw, hwx⟩
      · have := Int.mul_pos hw (show 0 < -ux by omega)
        rw [Int.mul_neg] at this
        omega
      · subst hw
        exfalso
        have := Int.mul_pos (show 0 < -wx by omega) hv
        rw [Int.neg_mul] at this
        omega
  · subst hv
    have hwy : 0 < wy := by
      rcases hw with hw | ⟨hw, _⟩
      · exact hw
      · subst hw; omega
    rcases hu with hu | ⟨hu, hux⟩
    · exfalso
      have := Int.mul_pos (show 0 < -vx by omega) hu
      rw [Int.neg_mul] at this
      omega
    · subst hu
      have := Int.mul_pos hwy (show 0 < -ux by omega)
      rw [Int.mul_neg] at this
      omega
theorem up_trans2 {ux uy vx vy wx wy : Int} (hu : 0 < uy ∨ (uy = 0 ∧ ux < 0)) (hv : 0 < vy ∨ (vy = 0 ∧ vx < 0)) (hw : 0 < wy ∨ (wy = 0 ∧ wx < 0)) (hA : 0 < vx * uy - vy * ux) (hC : 0 ≤ wx * vy - wy * vx) : 0 < wx * uy - wy * ux := by
  refine Classical.byContradiction fun hn => ?_
  -- otherwise w is left of u, and u left of v: so w is left of v
  by_cases h0 : wx * vy - wy * vx = 0
  · have id : (wx * uy - wy * ux) * vy = (vx * uy - vy * ux) * wy + (wx * vy - wy * vx) * uy := by grind
    have id2 : (wx * uy - wy * ux) * vx = (vx * uy - vy * ux) * wx + (wx * vy - wy * vx) * ux := by grind
    rw [h0] at id id2
    rcases hv with hv | ⟨hv, hvx⟩
    · rcases hw with hw | ⟨hw, hwx⟩
      · have := Int.mul_pos hA hw
        have p3 : 0 < vy * (wx * uy - wy * ux) := by rw [Int.mul_comm]; omega
        have := prod_pos p3 hv
        omega
      · subst hw
        have := Int.mul_pos (show 0 < -wx by omega) hv
        rw [Int.neg_mul] at this
        omega
    · subst hv
      have hwx : wx < 0 := by
        rcases hw with hw | ⟨hw, hwx⟩
        · have := Int.mul_pos hw (show 0 < -vx by omega)
          rw [Int.mul_neg] at this
          omega
        · exact hwx
      have := Int.mul_pos hA (show 0 < -wx by omega)
      rw [Int.mul_neg] at this
      have p3 : 0 < -vx * (wx * uy - wy * ux) := by
        rw [Int.neg_mul, Int.mul_comm vx]; omega
      have := prod_pos p3 (show 0 < -vx by omega)
      omega
  · have := up_trans hu hv hw (by omega) (show 0 < wx * vy - wy * vx by omega)
    omega
def turnOf (ux uy vx vy : Int) : Int := vx * uy - vy * ux
/-- All that the signs of three turns may be, the ways all upward. -/
theorem up_all {ux uy vx vy wx wy : Int} (hu : 0 < uy ∨ (uy = 0 ∧ ux < 0)) (hv : 0 < vy ∨ (vy = 0 ∧ vx < 0)) (hw : 0 < wy ∨ (wy = 0 ∧ wx < 0)) :
    (0 ≤ turnOf ux uy vx vy → 0 < turnOf vx vy wx wy → 0 < turnOf ux uy wx wy) ∧ (0 < turnOf ux uy vx vy → 0 ≤ turnOf vx vy wx wy → 0 < turnOf ux uy wx wy) ∧
    (turnOf ux uy vx vy ≤ 0 → turnOf vx vy wx wy < 0 → turnOf ux uy wx wy < 0) ∧ (turnOf ux uy vx vy < 0 → turnOf vx vy wx wy ≤ 0 → turnOf ux uy wx wy < 0) := by
  unfold turnOf
  refine ⟨up_trans hu hv hw, up_trans2 hu hv hw, fun a b => ?_, fun a b => ?_⟩
  · have := up_trans2 (ux := wx) (uy := wy) (vx := vx) (vy := vy) (wx := ux) (wy := uy) hw hv hu (by grind) (by grind)
    grind
  · have := up_trans (ux := wx) (uy := wy) (vx := vx) (vy := vy) (wx := ux) (wy := uy) hw hv hu (by grind) (by grind)
    grind
theorem turn_neg1 (ux uy vx vy : Int) : turnOf (-ux) (-uy) vx vy = -turnOf ux uy vx vy := by unfold turnOf; grind
theorem turn_neg2 (ux uy vx vy : Int) : turnOf ux uy (-vx) (-vy) = -turnOf ux uy vx vy := by unfold turnOf; grind
theorem trn_turn (o q r : Pt) : trn o q r = turnOf (o.x - q.x) (o.y - q.y) (r.x - q.x) (r.y - q.y) := by unfold trn turnOf; grind
/-- x strictly left of the corner o q r. -/
def InCone (o q r x : Pt) : Prop := (0 < trn o q r ∧ 0 < trn o q x ∧ 0 < trn q r x) ∨ (¬ 0 < trn o q r ∧ ¬ (trn o q x ≤ 0 ∧ trn q r x ≤ 0))
instance (o q r x : Pt) : Decidable (InCone o q r x) := by unfold InCone; exact inferInstance
def out01 (o q r x : Pt) : Int := if InCone o q r x then 0 else 1
theorem out_cases (o q r x : Pt) : (InCone o q r x ∧ out01 o q r x = 0) ∨ (¬ InCone o q r x ∧ out01 o q r x = 1) := by
  unfold out01; split
  · exact .inl ⟨by assumption, rfl⟩
  · exact .inr ⟨by assumption, rfl⟩
/-- The three corners at q add up. -/
theorem sector {o q r x : Pt} (ho : o ≠ q) (hr : r ≠ q) (hx : x ≠ q) (p1 : Opp o q r) (p2 : Opp o q x) (p3 : Opp r q x) : rho o q r + rho r q x = rho o q x + out01 o q r x := by
  have c1 := rho_cases o q r
  have c2 := rho_cases r q x
  have c3 := rho_cases o q x
  have c4 := out_cases o q r x
  have e : trn q r x = -trn r q x := trn_flip r q x
  unfold LeftE at c1 c2 c3
  unfold InCone at c4
  unfold Opp at p1 p2 p3
  rw [e] at c4
  have lo : LowP q o ∨ (0 < o.y - q.y ∨ (o.y - q.y = 0 ∧ o.x - q.x < 0)) := by
    unfold LowP
    have : o.x ≠ q.x ∨ o.y ≠ q.y := Classical.byContradiction fun hh => ho (pt_eq (by omega) (by omega))
    omega
  have lr : LowP q r ∨ (0 < r.y - q.y ∨ (r.y - q.y = 0 ∧ r.x - q.x < 0)) := by
    unfold LowP
    have : r.x ≠ q.x ∨ r.y ≠ q.y := Classical.byContradiction fun hh => hr (pt_eq (by omega) (by omega))
    omega
  have lx : LowP q x ∨ (0 < x.y - q.y ∨ (x.y - q.y = 0 ∧ x.x - q.x < 0)) := by
    unfold LowP
    have : x.x ≠ q.x ∨ x.y ≠ q.y := Classical.byContradiction fun hh => hx (pt_eq (by omega) (by omega))
    omega
  have neg : ∀ y : Pt, LowP q y → (0 < -(y.y - q.y) ∨ (-(y.y - q.y) = 0 ∧ -(y.x - q.x) < 0)) := fun y h => by unfold LowP at h; omega
  have nl : ∀ y : Pt, (0 < y.y - q.y ∨ (y.y - q.y = 0 ∧ y.x - q.x < 0)) → ¬ LowP q y := fun y h hl => by unfold LowP at hl; omega
  rw [trn_turn o q r, trn_turn o q x, trn_turn r q x] at c4
  rw [trn_turn o q r] at c1 p1
  rw [trn_turn r q x] at c2 p3
  rw [trn_turn o q x] at c3 p2
  generalize rho o q r = R1 at *
  generalize rho r q x = R2 at *
  generalize rho o q x = R3 at *
  generalize out01 o q r x = R4 at *
  rcases lo with lo | lo <;> rcases lr with lr | lr <;> rcases lx with lx | lx
  · have k := up_all (neg o lo) (neg r lr) (neg x lx)
    simp only [turn_neg1, turn_neg2, Int.neg_neg] at k
    clear neg nl 
    generalize turnOf (o.x - q.x) (o.y - q.y) (r.x - q.x) (r.y - q.y) = A at *
    generalize turnOf (r.x - q.x) (r.y - q.y) (x.x - q.x) (x.y - q.y) = C at *
    generalize turnOf (o.x - q.x) (o.y - q.y) (x.x - q.x) (x.y - q.y) = B at *
    simp only [lo, lr, lx, true_and, and_true, not_true, not_false_iff, and_false, false_and, or_false, false_or, true_or, or_true, iff_true, iff_false, true_iff, false_iff, imp_false] at c1 c2 c3 p1 p2 p3
    omega
  · have k := up_all (neg o lo) (neg r lr) lx
    have glx := nl x lx
    simp only [turn_neg1, turn_neg2, Int.neg_neg] at k
    clear neg nl lx
    generalize turnOf (o.x - q.x) (o.y - q.y) (r.x - q.x) (r.y - q.y) = A at *
    generalize turnOf (r.x - q.x) (r.y - q.y) (x.x - q.x) (x.y - q.y) = C at *
    generalize turnOf (o.x - q.x) (o.y - q.y) (x.x - q.x) (x.y - q.y) = B at *
    simp only [lo, lr, glx, true_and, and_true, not_true, not_false_iff, and_false, false_and, or_false, false_or, true_or, or_true, iff_true, iff_false, true_iff, false_iff, imp_false] at c1 c2 c3 p1 p2 p3
    omega
  · have k := up_all (neg o lo) lr (neg x lx)
    have glr := nl r lr
    simp only [turn_neg1, turn_neg2, Int.neg_neg] at k
    clear neg nl lr
    generalize turnOf (o.x - q.x) (o.y - q.y) (r.x - q.x) (r.y - q.y) = A at *
    generalize turnOf (r.x - q.x) (r.y - q.y) (x.x - q.x) (x.y - q.y) = C at *
    generalize turnOf (o.x - q.x) (o.y - q.y) (x.x - q.x) (x.y - q.y) = B at *
    simp only [lo, glr, lx, true_and, and_true, not_true, not_false_iff, and_false, false_and, or_false, false_or, true_or, or_true, iff_true, iff_false, true_iff, false_iff, imp_false] at c1 c2 c3 p1 p2 p3
    omega
  · have k := up_all (neg o lo) lr lx
    have glr := nl r lr
    have glx := nl x lx
    simp only [turn_neg1, turn_neg2, Int.neg_neg] at k
    clear neg nl lr lx
    generalize turnOf (o.x - q.x) (o.y - q.y) (r.x - q.x) (r.y - q.y) = A at *
    generalize turnOf (r.x - q.x) (r.y - q.y) (x.x - q.x) (x.y - q.y) = C at *
    generalize turnOf (o.x - q.x) (o.y - q.y) (x.x - q.x) (x.y - q.y) = B at *
    simp only [lo, glr, glx, true_and, and_true, not_true, not_false_iff, and_false, false_and, or_false, false_or, true_or, or_true, iff_true, iff_false, true_iff, false_iff, imp_false] at c1 c2 c3 p1 p2 p3
    omega
  · have k := up_all lo (neg r lr) (neg x lx)
    have glo := nl o lo
    simp only [turn_neg1, turn_neg2, Int.neg_neg] at k
    clear neg nl lo
    generalize turnOf (o.x - q.x) (o.y - q.y) (r.x - q.x) (r.y - q.y) = A at *
    generalize turnOf (r.x - q.x) (r.y - q.y) (x.x - q.x) (x.y - q.y) = C at *
    generalize turnOf (o.x - q.x) (o.y - q.y) (x.x - q.x) (x.y - q.y) = B at *
    simp only [glo, lr, lx, true_and, and_true, not_true, not_false_iff, and_false, false_and, or_false, false_or, true_or, or_true, iff_true, iff_false, true_iff, false_iff, imp_false] at c1 c2 c3 p1 p2 p3
    omega
  · have k := up_all lo (neg r lr) lx
    have glo := nl o lo
    have glx := nl x lx
    simp only [turn_neg1, turn_neg2, Int.neg_neg] at k
    clear neg nl lo lx
    generalize turnOf (o.x - q.x) (o.y - q.y) (r.x - q.x) (r.y - q.y) = A at *
    generalize turnOf (r.x - q.x) (r.y - q.y) (x.x - q.x) (x.y - q.y) = C at *
    generalize turnOf (o.x - q.x) (o.y - q.y) (x.x - q.x) (x.y - q.y) = B at *
    simp only [glo, lr, glx, true_and, and_true, not_true, not_false_iff, and_false, false_and, or_false, false_or, true_or, or_true, iff_true, iff_false, true_iff, false_iff, imp_false] at c1 c2 c3 p1 p2 p3
    omega
  · have k := up_all lo lr (neg x lx)
    have glo := nl o lo
    have glr := nl r lr
    simp only [turn_neg1, turn_neg2, Int.neg_neg] at k
    clear neg nl lo lr
    generalize turnOf (o.x - q.x) (o.y - q.y) (r.x - q.x) (r.y - q.y) = A at *
    generalize turnOf (r.x - q.x) (r.y - q.y) (x.x - q.x) (x.y - q.y) = C at *
    generalize turnOf (o.x - q.x) (o.y - q.y) (x.x - q.x) (x.y - q.y) = B at *
    simp only [glo, glr, lx, true_and, and_true, not_true, not_false_iff, and_false, false_and, or_false, false_or, true_or, or_true, iff_true, iff_false, true_iff, false_iff, imp_false] at c1 c2 c3 p1 p2 p3
    omega
  · have k := up_all lo lr lx
    have glo := nl o lo
    have glr := nl r lr
    have glx := nl x lx
    clear neg nl lo lr lx
    generalize turnOf (o.x - q.x) (o.y - q.y) (r.x - q.x) (r.y - q.y) = A at *
    generalize turnOf (r.x - q.x) (r.y - q.y) (x.x - q.x) (x.y - q.y) = C at *
    generalize turnOf (o.x - q.x) (o.y - q.y) (x.x - q.x) (x.y - q.y) = B at *
    simp only [glo, glr, glx, true_and, and_true, not_true, not_false_iff, and_false, false_and, or_false, false_or, true_or, or_true, iff_true, iff_false, true_iff, false_iff, imp_false] at c1 c2 c3 p1 p2 p3
    omega
/-- What is seen from a corner: left of the polygon or not. -/
theorem wn_see {ps : List Pt} (h : Sim ps) {i : Nat} (hi : i < ps.length) {x : Pt} (hx : x ≠ gp ps ((i + 1) % ps.length))
    (far : ∀ j, j < ps.length → j ≠ i → j ≠ (i + 1) % ps.length → Dj (gp ps j) (gp ps ((j + 1) % ps.length)) (gp ps ((i + 1) % ps.length)) x)
    (o1 : Opp (gp ps i) (gp ps ((i + 1) % ps.length)) x) (o2 : Opp (gp ps ((i + 2) % ps.length)) (gp ps ((i + 1) % ps.length)) x) :
    wn ps x = Lft ps - out01 (gp ps i) (gp ps ((i + 1) % ps.length)) (gp ps ((i + 2) % ps.length)) x := by
  have h3 := h.three
  have mi := mod_next hi
  have hb : (i + 1) % ps.length < ps.length := Nat.mod_lt _ (by omega)
  have mb := mod_next hb
  rw [mod2] at mb
  have hc : (i + 2) % ps.length < ps.length := Nat.mod_lt _ (by omega)
  have nab : i ≠ (i + 1) % ps.length := by split at mi <;> omega
  have nbc : (i + 1) % ps.length ≠ (i + 2) % ps.length := by split at mb <;> omega
  have w := wn_at h hi
  have noq := sim_ne h hi hb nab
  have nrq := sim_ne h hc hb nbc.symm
  have A := arrive hx.symm noq o1
  have B := arrive hx.symm nrq o2
  have S := sector noq nrq hx (h.opp i hi) o1 o2
  have hs : sumN (fun k => cw (gp ps k) (gp ps ((k + 1) % ps.length)) (gp ps ((i + 1) % ps.length)) - cw (gp ps k) (gp ps ((k + 1) % ps.length)) x) ps.length = sumN (fun k => ((eastOf (gp ps ((i + 1) % ps.length)) x (gp ps ((k + 1) % ps.length)) - eastOf (gp ps ((i + 1) % ps.length)) x (gp ps k)) + (if k = i then eastOf (gp ps ((i + 1) % ps.length)) x (gp ps i) - cw (gp ps i) (gp ps ((i + 1) % ps.length)) x else 0)) + (if k = (i + 1) % ps.length then cw (gp ps ((i + 2) % ps.length)) (gp ps ((i + 1) % ps.length)) x - eastOf (gp ps ((i + 1) % ps.length)) x (gp ps ((i + 2) % ps.length)) else 0)) ps.length := by
    refine sumN_congr fun k hk => ?_
    by_cases k1 : k = i
    · subst k1
      rw [if_pos rfl, if_neg nab, cw_b, east_a]; omega
    · by_cases k2 : k = (i + 1) % ps.length
      · rw [k2, mod2, if_neg (fun e => nab e.symm), if_pos rfl, cw_a, east_a, cw_swap (gp ps ((i + 1) % ps.length)) (gp ps ((i + 2) % ps.length))]; omega
      · rw [if_neg k1, if_neg k2, path_edge (far k hk k1 k2)]; omega
  rw [sumN_sub, sumN_add, sumN_add, sumN_one, sumN_one, if_pos hi, if_pos hb, sumN_cyc (fun k => eastOf (gp ps ((i + 1) % ps.length)) x (gp ps k)) (by omega)] at hs
  unfold wn at w ⊢
  omega
end Go.Proofs.Ytcebmcbglhkkfaa
/- Every simple polygon has two ears. No program in sight. -/
set_option linter.unusedVariables false
set_option linter.unusedSimpArgs false
namespace Go.Proofs.Ytcebmcbglhkkfaa
open Go.RowKit

theorem rho_rev {o q r : Pt} (ho : o ≠ q) (hr : r ≠ q) (p : Opp o q r) : rho r q o = 1 - rho o q r := by
  have c1 := rho_cases o q r
  have c2 := rho_cases r q o
  have e : trn r q o = -trn o q r := by unfold trn; grind
  unfold LeftE at c1 c2
  unfold Opp at p
  rw [e] at c2
  -- two ways that are both low or both high, and do not turn: not so
  by_cases lo : LowP q o <;> by_cases lr : LowP q r <;> simp only [lo, lr, true_and, and_true, not_true, not_false_iff, and_false, false_and, or_false, false_or, true_or, or_true, iff_true, iff_false, true_iff, false_iff, imp_false] at c1 c2 p <;> omega
theorem lft01 {ps : List Pt} (h : Sim ps) : Lft ps = 0 ∨ Lft ps = 1 := by
  rcases sgn_ok _ ps rfl h with h | h
  · exact .inr h.1
  · exact .inl h.1
/-- What a chord's parts have left: from the cone at its end. -/
theorem chord_lft {ps : List Pt} (h : Sim ps) {i z d : Nat} (hi : i < ps.length) (c : Cho ps ((i + 1) % ps.length) z) (hd : d < ps.length) (ed : ((i + 1) % ps.length + d) % ps.length = z) :
    Lft (arc ps ((i + 1) % ps.length) d) + Lft (arc ps z (ps.length - d)) = Lft ps + 1 - out01 (gp ps i) (gp ps ((i + 1) % ps.length)) (gp ps ((i + 2) % ps.length)) (gp ps z) := by
  have hv := c.hi
  have hz := c.hk
  obtain ⟨d2, dn, S1⟩ := arc_sim h c hd ed
  have eb := back hv (by omega) ed
  obtain ⟨_, _, S2⟩ := arc_sim h c.symm (d := ps.length - d) (by omega) eb
  have hn : 0 < ps.length := by omega
  have h4 := c.four
  have v0 : ((i + 1) % ps.length + 0) % ps.length = (i + 1) % ps.length := Nat.mod_eq_of_lt hv
  have z0 : (z + 0) % ps.length = z := Nat.mod_eq_of_lt hz
  have W := (sgn_sum hv (show d ≤ ps.length by omega) ed hz).2 (gp ps ((i + 1) % ps.length))
  have w0 := wn_at h hi
  have w1 := wn_at S1 (i := d) (by rw [arc_len]; omega)
  rw [arc_len, Nat.mod_self, show (d + 2) % (d + 1) = 1 by rw [show d + 2 = 1 + (d + 1) by omega, Nat.add_mod_right]; exact Nat.mod_eq_of_lt (by omega), arc_at ps (j := d) (Nat.le_refl _), arc_at ps (j := 0) (Nat.zero_le _), arc_at ps (j := 1) (by omega), v0, ed, mod2] at w1
  have hl : (z + (ps.length - d - 1)) % ps.length = i := by
    have e1 := am_succ ps.length z (ps.length - d - 1)
    rw [show ps.length - d - 1 + 1 = ps.length - d by omega, eb] at e1
    have m1 := mod_next hi
    have m2 := mod_next (show (z + (ps.length - d - 1)) % ps.length < ps.length from Nat.mod_lt _ hn)
    have l1 : (z + (ps.length - d - 1)) % ps.length < ps.length := Nat.mod_lt _ hn
    split at m1 <;> split at m2 <;> omega
  have w2 := wn_at S2 (i := ps.length - d - 1) (by rw [arc_len]; omega)
  rw [arc_len, show ps.length - d - 1 + 1 = ps.length - d by omega, Nat.mod_eq_of_lt (show ps.length - d < ps.length - d + 1 by omega), show ps.length - d - 1 + 2 = ps.length - d + 1 by omega, Nat.mod_self, arc_at ps (j := ps.length - d - 1) (by omega), arc_at ps (j := ps.length - d) (Nat.le_refl _), arc_at ps (j := 0) (Nat.zero_le _), z0, eb, hl] at w2
  -- corners
  have mi := mod_next hi
  have mv := mod_next hv
  rw [mod2] at mv
  have hb : (i + 2) % ps.length < ps.length := Nat.mod_lt _ hn
  have n1 : i ≠ (i + 1) % ps.length := by split at mi <;> omega
  have n2 : (i + 2) % ps.length ≠ (i + 1) % ps.length := by split at mv <;> omega
  have z1 : z ≠ i := fun e => by subst e; exact c.n2 rfl
  have z2 : z ≠ (i + 2) % ps.length := fun e => c.n1 (by rw [mod2]; exact e)
  have o1 : Opp (gp ps i) (gp ps ((i + 1) % ps.length)) (gp ps z) := opp_on (sim_ne h hi hv n1) (sim_ne h hv hz c.ne) (c.off i hi n1 z1.symm) (vertex_off h h4 hi hz z1 c.ne.symm)
  have o2 : Opp (gp ps ((i + 2) % ps.length)) (gp ps ((i + 1) % ps.length)) (gp ps z) := opp_on (sim_ne h hb hv n2) (sim_ne h hv hz c.ne) (c.off _ hb n2 z2.symm) (by
    rw [onSeg_swap]
    have := vertex_off h h4 hv hz c.ne.symm c.n1
    rw [mod2] at this
    exact this)
  have S := sector (sim_ne h hi hv n1) (sim_ne h hb hv n2) (sim_ne h hz hv c.ne.symm) (h.opp i hi) o1 o2
  have R := rho_rev (sim_ne h hb hv n2) (sim_ne h hz hv c.ne.symm) o2
  omega
/-- A corner that can be cut off. -/
def EarAt (ps : List Pt) (i : Nat) : Prop := 0 < trn (gp ps i) (gp ps ((i + 1) % ps.length)) (gp ps ((i + 2) % ps.length)) ∧ ∀ j, j < ps.length → j ≠ i → j ≠ (i + 1) % ps.length → j ≠ (i + 2) % ps.length → ¬ InT (gp ps i) (gp ps ((i + 1) % ps.length)) (gp ps ((i + 2) % ps.length)) (gp ps j)
/-- A point within an ear lies left of the polygon. -/
theorem ear_see {qs : List Pt} (h : Sim qs) {i : Nat} (hi : i < qs.length) (hE : EarAt qs i) {x : Pt} (hx : ∀ j, j < qs.length → gp qs j ≠ x) (hT : InT (gp qs i) (gp qs ((i + 1) % qs.length)) (gp qs ((i + 2) % qs.length)) x)
    (hU : 0 < trn (gp qs i) (gp qs ((i + 1) % qs.length)) x) (hV : 0 < trn (gp qs ((i + 1) % qs.length)) (gp qs ((i + 2) % qs.length)) x) (off : ∀ j, j < qs.length → onSeg (gp qs j) (gp qs ((j + 1) % qs.length)) x = false) : wn qs x = Lft qs := by
  have h3 := h.three
  have mi := mod_next hi
  have hv : (i + 1) % qs.length < qs.length := Nat.mod_lt _ (by omega)
  have mv := mod_next hv
  rw [mod2] at mv
  have hb : (i + 2) % qs.length < qs.length := Nat.mod_lt _ (by omega)
  have mb := mod_next hb
  have nav : i ≠ (i + 1) % qs.length := by split at mi <;> omega
  have nvb : (i + 1) % qs.length ≠ (i + 2) % qs.length := by split at mv <;> omega
  have nab : i ≠ (i + 2) % qs.length := by split at mi <;> split at mv <;> omega
  have ht := hE.1
  have hin : ∀ j, j < qs.length → j ≠ (i + 1) % qs.length → InT (gp qs i) (gp qs ((i + 1) % qs.length)) (gp qs ((i + 2) % qs.length)) (gp qs j) → trn (gp qs ((i + 2) % qs.length)) (gp qs i) (gp qs j) ≤ trn (gp qs ((i + 2) % qs.length)) (gp qs i) x := fun j hj n hh => by
    by_cases ja : j = i
    · rw [ja, show trn (gp qs ((i + 2) % qs.length)) (gp qs i) (gp qs i) = 0 from trn_abb _ _]; exact hT.2.2
    · by_cases jb : j = (i + 2) % qs.length
      · rw [jb, show trn (gp qs ((i + 2) % qs.length)) (gp qs i) (gp qs ((i + 2) % qs.length)) = 0 from trn_aba _ _]; exact hT.2.2
      · exact absurd hh (hE.2 j hj ja n jb)
  have see := wn_see h hi (x := x) (fun e => hx _ hv e.symm) (fun j hj j1 j2 => by
    have hj1 : (j + 1) % qs.length < qs.length := Nat.mod_lt _ (by omega)
    have mj := mod_next hj
    have k1 : (j + 1) % qs.length ≠ (i + 1) % qs.length := fun e => by split at mi <;> split at mj <;> omega
    refine chord_far ht hT hU hV (hx j hj) (hx _ hj1) (hin j hj j2) (hin _ hj1 k1) ?_ (off j hj) ?_ ?_
    · by_cases e1 : j = (i + 2) % qs.length
      · by_cases e2 : (j + 1) % qs.length = i
        · refine onS_no ?_
          rw [e2, e1, show trn (gp qs ((i + 2) % qs.length)) (gp qs i) (gp qs ((i + 1) % qs.length)) = trn (gp qs i) (gp qs ((i + 1) % qs.length)) (gp qs ((i + 2) % qs.length)) by unfold trn; grind]
          omega
        · exact (h.apart i j hi hj j1 j2 (fun e => e2 e.symm)).nr
      · have := (h.apart ((i + 1) % qs.length) j hv hj j2 (by rw [mod2]; exact e1) k1.symm).nq
        exact this
    · by_cases e2 : (j + 1) % qs.length = i
      · rw [e2, show trn (gp qs i) (gp qs ((i + 1) % qs.length)) (gp qs i) = 0 from trn_aba _ _]; omega
      · exact (h.apart i j hi hj j1 j2 (fun e => e2 e.symm)).nx
    · by_cases e1 : j = (i + 2) % qs.length
      · rw [e1, show trn (gp qs ((i + 1) % qs.length)) (gp qs ((i + 2) % qs.length)) (gp qs ((i + 2) % qs.length)) = 0 from trn_abb _ _]; omega
      · have := (h.apart ((i + 1) % qs.length) j hv hj j2 (by rw [mod2]; exact e1) k1.symm).nx
        rw [mod2] at this
        exact this) (fun e => by omega) (fun e => by
      have : trn (gp qs ((i + 2) % qs.length)) (gp qs ((i + 1) % qs.length)) x = -trn (gp qs ((i + 1) % qs.length)) (gp qs ((i + 2) % qs.length)) x := trn_flip _ _ _
      omega)
  rcases out_cases (gp qs i) (gp qs ((i + 1) % qs.length)) (gp qs ((i + 2) % qs.length)) x with ⟨_, e⟩ | ⟨e, _⟩
  · omega
  · exact absurd (.inl ⟨ht, hU, hV⟩) e
end Go.Proofs.Ytcebmcbglhkkfaa
/- Every simple polygon with more than three corners has two ears that are not neighbours. No program in sight. -/
set_option linter.unusedVariables false
set_option linter.unusedSimpArgs false
namespace Go.Proofs.Ytcebmcbglhkkfaa
open Go.RowKit

theorem Lft_tri {ps : List Pt} (h : Sim ps) (h3 : ps.length = 3) (t : 0 < areaL ps) : Lft ps = 1 := by
  rcases sgn_ok _ ps rfl h with h | h
  · exact h.1
  · omega
/-- What is left over when an ear is cut off. -/
theorem ear_rest {ps : List Pt} (h : Sim ps) {i : Nat} (hi : i < ps.length) (c : Cho ps ((i + 2) % ps.length) i) (hE : EarAt ps i) :
    Lft (arc ps i 2) = 1 ∧ Lft (arc ps ((i + 2) % ps.length) (ps.length - 2)) = Lft ps := by
  have h4 := c.four
  have hb := c.hi
  have ed : ((i + 2) % ps.length + (ps.length - 2)) % ps.length = i := by
    rw [Nat.mod_add_mod, show i + 2 + (ps.length - 2) = i + ps.length by omega, Nat.add_mod_right]
    exact Nat.mod_eq_of_lt hi
  obtain ⟨d2, dn, S1⟩ := arc_sim h c (d := ps.length - 2) (by omega) ed
  obtain ⟨_, _, S2⟩ := arc_sim h c.symm (d := 2) (by omega) rfl
  obtain ⟨A, W⟩ := sgn_sum hb (show ps.length - 2 ≤ ps.length by omega) ed hi
  rw [show ps.length - (ps.length - 2) = 2 by omega] at A W
  have A2 : areaL (arc ps i 2) = trn (gp ps i) (gp ps ((i + 1) % ps.length)) (gp ps ((i + 2) % ps.length)) := by
    rw [area_sum, tri_sums crP hi, cr_tri]
  refine ⟨Lft_tri S2 (arc_len _ _ _) (by rw [A2]; exact hE.1), ?_⟩
  have b0 : ((i + 2) % ps.length + 0) % ps.length = (i + 2) % ps.length := Nat.mod_eq_of_lt hb
  have w1 := wn_at S1 (i := 0) (by rw [arc_len]; omega)
  rw [arc_len, Nat.mod_eq_of_lt (show 0 + 1 < ps.length - 2 + 1 by omega), Nat.mod_eq_of_lt (show 0 + 2 < ps.length - 2 + 1 by omega), arc_at ps (show 0 + 1 ≤ ps.length - 2 by omega), arc_at ps (Nat.zero_le _), arc_at ps (show 0 + 2 ≤ ps.length - 2 by omega), b0] at w1
  have w2 := wn_at h hb
  have hu : ((i + 2) % ps.length + 1) % ps.length < ps.length := Nat.mod_lt _ (by omega)
  have m1 := mod_next hi
  have hv : (i + 1) % ps.length < ps.length := Nat.mod_lt _ (by omega)
  have m2 := mod_next hv
  rw [mod2] at m2
  have m3 := mod_next hb
  have o := tri_out hE.1 (hE.2 _ hu (by split at m1 <;> split at m2 <;> split at m3 <;> omega) (by split at m1 <;> split at m2 <;> split at m3 <;> omega) (by split at m3 <;> omega))
  have w3 := W (gp ps (((i + 2) % ps.length + 1) % ps.length))
  have w4 : wn (arc ps i 2) (gp ps (((i + 2) % ps.length + 1) % ps.length)) = 0 := by rw [wn_sum, tri_sums _ hi]; exact o
  have e01 : ((i + 2) % ps.length + (0 + 1)) % ps.length = ((i + 2) % ps.length + 1) % ps.length := rfl
  have e02 : ((i + 2) % ps.length + (0 + 2)) % ps.length = ((i + 2) % ps.length + 2) % ps.length := rfl
  rw [e01, e02] at w1
  omega
/-- A chord that lies within. -/
theorem good_chord {ps : List Pt} (h : Sim ps) (h4 : 4 ≤ ps.length) (hL : Lft ps = 1) : ∃ i k d, Cho ps i k ∧ d < ps.length ∧ (i + d) % ps.length = k ∧ Lft (arc ps i d) = 1 ∧ Lft (arc ps k (ps.length - d)) = 1 := by
  obtain ⟨i, hi, hm⟩ := last_corner h
  have t : 0 < trn (gp ps i) (gp ps ((i + 1) % ps.length)) (gp ps ((i + 2) % ps.length)) := by
    rcases Lft_max h hi hm with h | h
    · exact h.1
    · omega
  have c := (cor_of h h4 hi).1 t
  by_cases hE : ∃ j, j < ps.length ∧ (j ≠ i ∧ j ≠ (i + 1) % ps.length ∧ j ≠ (i + 2) % ps.length ∧ InT (gp ps i) (gp ps ((i + 1) % ps.length)) (gp ps ((i + 2) % ps.length)) (gp ps j))
  · obtain ⟨z, ch, _, _, u, w⟩ := cor_far h c h4 hE
    obtain ⟨d, hd, ed⟩ := dist_ex ch.hi ch.hk
    have L := chord_lft h hi ch hd ed
    obtain ⟨_, _, S1⟩ := arc_sim h ch hd ed
    have eb := back ch.hi (by omega) ed
    have d0 : 0 < d := Nat.pos_of_ne_zero fun e => by
      subst e
      rw [show ((i + 1) % ps.length + 0) % ps.length = (i + 1) % ps.length from Nat.mod_eq_of_lt ch.hi] at ed
      exact ch.ne ed
    obtain ⟨_, _, S2⟩ := arc_sim h ch.symm (d := ps.length - d) (by omega) eb
    have l1 := lft01 S1
    have l2 := lft01 S2
    have o : out01 (gp ps i) (gp ps ((i + 1) % ps.length)) (gp ps ((i + 2) % ps.length)) (gp ps z) = 0 := if_pos (.inl ⟨t, u, w⟩)
    exact ⟨_, z, d, ch, hd, ed, by omega, by omega⟩
  · have hE' : EarAt ps i := ⟨t, fun j a b c d e => hE ⟨j, a, b, c, d, e⟩⟩
    have ch := cor_ear h c h4 hE'.2
    obtain ⟨l1, l2⟩ := ear_rest h hi ch hE'
    exact ⟨i, _, 2, ch.symm, by omega, rfl, l1, by rw [l2]; exact hL⟩
/-- An ear of a chord's part, not at the chord's ends, is an ear of the whole. -/
theorem part_ear {ps : List Pt} (h : Sim ps) (hL : Lft ps = 1) {i k d : Nat} (c : Cho ps i k) (hd : d < ps.length) (ed : (i + d) % ps.length = k) (L1 : Lft (arc ps i d) = 1) (L2 : Lft (arc ps k (ps.length - d)) = 1) {a : Nat} (ha : a + 2 ≤ d) (hE : EarAt (arc ps i d) a) : EarAt ps ((i + a) % ps.length) := by
  have hi := c.hi
  have hk := c.hk
  have h4 := c.four
  have hn : 0 < ps.length := by omega
  obtain ⟨d2, dn, S1⟩ := arc_sim h c hd ed
  have eb := back hi (by omega) ed
  obtain ⟨_, _, S2⟩ := arc_sim h c.symm (d := ps.length - d) (by omega) eb
  have hE' := hE
  unfold EarAt at hE
  rw [arc_len, Nat.mod_eq_of_lt (show a + 1 < d + 1 by omega), Nat.mod_eq_of_lt (show a + 2 < d + 1 by omega), arc_at ps (j := a) (by omega), arc_at ps (j := a + 1) (by omega), arc_at ps (j := a + 2) (by omega)] at hE
  obtain ⟨ht, hI⟩ := hE
  have i0 : (i + 0) % ps.length = i := Nat.mod_eq_of_lt hi
  have lt : ∀ j, (i + j) % ps.length < ps.length := fun j => Nat.mod_lt _ hn
  refine ⟨by rw [am_succ, am_succ2]; exact ht, fun j hj j1 j2 j3 hT => ?_⟩
  rw [am_succ] at j2
  rw [am_succ2] at j3
  rw [am_succ, am_succ2] at hT
  obtain ⟨m, hm, em⟩ := dist_ex hi hj
  by_cases hmd : m ≤ d
  · refine hI m (by omega) (fun e => j1 (by rw [← em, e])) (fun e => j2 (by rw [← em, e])) (fun e => j3 (by rw [← em, e])) ?_
    rw [arc_at ps hmd, em]; exact hT
  · -- a corner of the other part
    have ji : j ≠ i := fun e => by have := am_inj hi hm hn (em.trans (e.trans i0.symm)); omega
    have jk : j ≠ k := fun e => by have := am_inj hi hm hd (em.trans (e.trans ed.symm)); omega
    have nin : ∀ b, b ≤ d → j ≠ (i + b) % ps.length := fun b hb e => by have := am_inj hi hm (show b < ps.length by omega) (em.trans e); omega
    have ne : ∀ b, b ≤ d → gp ps ((i + b) % ps.length) ≠ gp ps j := fun b hb e => nin b hb (gp_inj h.nodup (lt b) hj e).symm
    have offE : ∀ b, b < d → onSeg (gp ps ((i + b) % ps.length)) (gp ps ((i + (b + 1)) % ps.length)) (gp ps j) = false := fun b hb => by
      have := vertex_off h h4 (lt b) hj (nin b (by omega)) (by rw [am_succ]; exact nin (b + 1) (by omega))
      rw [am_succ] at this
      exact this
    have hU : 0 < trn (gp ps ((i + a) % ps.length)) (gp ps ((i + (a + 1)) % ps.length)) (gp ps j) := by
      refine Classical.byContradiction fun hn0 => ?_
      have h0 : trn (gp ps ((i + a) % ps.length)) (gp ps ((i + (a + 1)) % ps.length)) (gp ps j) = 0 := by have := hT.1; omega
      have := on_side ht h0 hT.2.1 hT.2.2
      rw [offE a (by omega)] at this
      cases this
    have hV : 0 < trn (gp ps ((i + (a + 1)) % ps.length)) (gp ps ((i + (a + 2)) % ps.length)) (gp ps j) := by
      refine Classical.byContradiction fun hn0 => ?_
      have h0 : trn (gp ps ((i + (a + 1)) % ps.length)) (gp ps ((i + (a + 2)) % ps.length)) (gp ps j) = 0 := by have := hT.2.1; omega
      have := on_side (a := gp ps ((i + (a + 1)) % ps.length)) (v := gp ps ((i + (a + 2)) % ps.length)) (b := gp ps ((i + a) % ps.length)) (by rw [show trn (gp ps ((i + (a + 1)) % ps.length)) (gp ps ((i + (a + 2)) % ps.length)) (gp ps ((i + a) % ps.length)) = trn (gp ps ((i + a) % ps.length)) (gp ps ((i + (a + 1)) % ps.length)) (gp ps ((i + (a + 2)) % ps.length)) by unfold trn; grind]; exact ht) h0 hT.2.2 hT.1
      have o2 := offE (a + 1) (by omega)
      rw [show a + 1 + 1 = a + 2 from rfl] at o2
      rw [o2] at this
      cases this
    have s1 := ear_see S1 (i := a) (by rw [arc_len]; omega) hE' (x := gp ps j) (fun b hb => by rw [arc_len] at hb; rw [arc_at ps (by omega)]; exact ne b (by omega))
      (by rw [arc_len, Nat.mod_eq_of_lt (show a + 1 < d + 1 by omega), Nat.mod_eq_of_lt (show a + 2 < d + 1 by omega), arc_at ps (j := a) (by omega), arc_at ps (j := a + 1) (by omega), arc_at ps (j := a + 2) (by omega)]; exact hT)
      (by rw [arc_len, Nat.mod_eq_of_lt (show a + 1 < d + 1 by omega), arc_at ps (j := a) (by omega), arc_at ps (j := a + 1) (by omega)]; exact hU)
      (by rw [arc_len, Nat.mod_eq_of_lt (show a + 1 < d + 1 by omega), Nat.mod_eq_of_lt (show a + 2 < d + 1 by omega), arc_at ps (j := a + 1) (by omega), arc_at ps (j := a + 2) (by omega)]; exact hV)
      (fun b hb => by
        rw [arc_len] at hb ⊢
        by_cases eb : b = d
        · subst eb
          rw [Nat.mod_self, arc_at ps (j := b) (Nat.le_refl _), arc_at ps (j := 0) (Nat.zero_le _), i0, ed, onSeg_swap]
          exact c.off j hj ji jk
        · rw [Nat.mod_eq_of_lt (show b + 1 < d + 1 by omega), arc_at ps (j := b) (by omega), arc_at ps (j := b + 1) (by omega)]
          exact offE b (by omega))
    -- from the other part
    obtain ⟨q, hq⟩ : ∃ q, m = d + q + 1 := ⟨m - d - 1, by omega⟩
    have ek : ∀ b, (k + b) % ps.length = (i + (d + b)) % ps.length := fun b => by rw [← ed, Nat.mod_add_mod, Nat.add_assoc]
    have w2 := wn_at S2 (i := q) (by rw [arc_len]; omega)
    rw [arc_len, Nat.mod_eq_of_lt (show q + 1 < ps.length - d + 1 by omega), Nat.mod_eq_of_lt (show q + 2 < ps.length - d + 1 by omega), arc_at ps (j := q) (by omega), arc_at ps (j := q + 1) (by omega), arc_at ps (j := q + 2) (by omega), ek, ek, ek] at w2
    have w0 := wn_at h (lt (d + q))
    rw [am_succ, am_succ2] at w0
    rw [show d + (q + 1) = m by omega, show d + (q + 2) = m + 1 by omega, em] at w2
    rw [show d + q + 1 = m by omega, show d + q + 2 = m + 1 by omega, em] at w0
    have W := (sgn_sum hi (show d ≤ ps.length by omega) ed hk).2 (gp ps j)
    omega
/-- Two ears that are not neighbours. -/
theorem two_ears : ∀ (n : Nat) (ps : List Pt), ps.length = n → Sim ps → 4 ≤ ps.length → Lft ps = 1 → ∃ a b, a < ps.length ∧ b < ps.length ∧ a ≠ b ∧ b ≠ (a + 1) % ps.length ∧ a ≠ (b + 1) % ps.length ∧ EarAt ps a ∧ EarAt ps b := by
  intro n
  induction n using Nat.strongRecOn with
  | ind n ih =>
    intro ps hn h h4 hL
    obtain ⟨i, k, d, c, hd, ed, L1, L2⟩ := good_chord h h4 hL
    have hi := c.hi
    have hk := c.hk
    obtain ⟨d2, dn, S1⟩ := arc_sim h c hd ed
    have eb := back hi (by omega) ed
    obtain ⟨_, _, S2⟩ := arc_sim h c.symm (d := ps.length - d) (by omega) eb
    have pick : ∀ (qs : List Pt), qs.length < n → Sim qs → Lft qs = 1 → ∃ a, a + 2 < qs.length ∧ EarAt qs a := fun qs hq S L => by
      have q3 := S.three
      by_cases e3 : qs.length = 3
      · refine ⟨0, by omega, ?_, ?_⟩
        · have A : 0 < areaL qs := by rcases sgn_ok _ qs rfl S with h | h <;> omega
          match qs, e3 with
          | [x, y, z], _ => rw [area3] at A; exact A
        · intro j hj j1 j2 j3
          rw [e3] at j2 j3
          omega
      · obtain ⟨a, b, ha, hb, ne, n1, n2, ea, ebr⟩ := ih qs.length hq qs rfl S (by omega) L
        have ma := mod_next ha
        have mb := mod_next hb
        by_cases h2 : a + 2 < qs.length
        · exact ⟨a, h2, ea⟩
        · exact ⟨b, by split at ma <;> split at mb <;> omega, ebr⟩
    obtain ⟨a, ha, ea⟩ := pick _ (by rw [arc_len]; omega) S1 L1
    obtain ⟨b, hb, ebr⟩ := pick _ (by rw [arc_len]; omega) S2 L2
    rw [arc_len] at ha hb
    have A := part_ear h hL c hd ed L1 L2 (by omega) ea
    have B := part_ear h hL c.symm (d := ps.length - d) (by omega) eb L2 (by rw [show ps.length - (ps.length - d) = d by omega]; exact L1) (by omega) ebr
    have ek : (k + b) % ps.length = (i + (d + b)) % ps.length := by rw [← ed, Nat.mod_add_mod, Nat.add_assoc]
    rw [ek] at B
    refine ⟨_, _, Nat.mod_lt _ (by omega), Nat.mod_lt _ (by omega), fun e => ?_, fun e => ?_, fun e => ?_, A, B⟩
    · have := am_inj hi (show a < ps.length by omega) (show d + b < ps.length by omega) e; omega
    · rw [am_succ] at e
      have := am_inj hi (show d + b < ps.length by omega) (show a + 1 < ps.length by omega) e; omega
    · rw [am_succ] at e
      by_cases e0 : d + b + 1 = ps.length
      · omega
      · have := am_inj hi (show a < ps.length by omega) (show d + b + 1 < ps.length by omega) e; omega
end Go.Proofs.Ytcebmcbglhkkfaa
/- A simple polygon that turns left at each corner is convex. No program in sight. -/
set_option linter.unusedVariables false
set_option linter.unusedSimpArgs false
namespace Go.Proofs.Ytcebmcbglhkkfaa
open Go.RowKit

/-- Any three corners in order turn left. -/
def CI (ps : List Pt) : Prop := ∀ a b c, a < b → b < c → c < ps.length → 0 < trn (gp ps a) (gp ps b) (gp ps c)
theorem trn_r1 (a b c : Pt) : trn b c a = trn a b c := by unfold trn; grind
theorem trn_r2 (a b c : Pt) : trn c a b = trn a b c := by unfold trn; grind
theorem plu (o a b c d : Pt) : trn o a b * trn o c d - trn o a c * trn o b d + trn o a d * trn o b c = 0 := by unfold trn; grind
/-- Four ways around a point: the two in the middle. -/
theorem plu_mid {o a b c d : Pt} (hab : 0 < trn o a b) (hac : 0 < trn o a c) (had : 0 < trn o a d) (hbc : 0 < trn o b c) (hcd : 0 < trn o c d) : 0 < trn o b d := by
  have e := plu o a b c d
  have p1 := Int.mul_pos hab hcd
  have p2 := Int.mul_pos had hbc
  exact prod_pos (u := trn o a c) (by omega) hac
/-- Behind an ear the corner at its end still turns left. -/
theorem ear_next {a v b c : Pt} (ht : 0 < trn a v b) (hc : 0 < trn v b c) (hI : ¬ InT a v b c) (hD : Dj a v b c) : 0 < trn a b c := by
  refine Classical.byContradiction fun hn => ?_
  have e1 : trn b a c = -trn a b c := by unfold trn; grind
  have e2 : trn b c a = trn a b c := trn_r1 a b c
  have e3 : trn b c v = trn v b c := trn_r1 v b c
  have hU : trn a v c < 0 := Classical.byContradiction fun h => hI ⟨by omega, by omega, by omega⟩
  by_cases h0 : trn a b c = 0
  · have := between_on (c := b) (d := c) (v := a) (a := v) (by omega) (by
      have f1 : trn v a b = -trn a v b := trn_flip a v b
      have f2 : trn v a c = -trn a v c := trn_flip a v c
      omega)
    rw [hD.na] at this
    cases this
  · exact hD.nx ⟨.inl ⟨ht, hU⟩, .inr ⟨by omega, by omega⟩⟩
theorem ear_prev {d a v b : Pt} (ht : 0 < trn a v b) (hd : 0 < trn d a v) (hI : ¬ InT a v b d) (hD : Dj d a v b) : 0 < trn d a b := by
  refine Classical.byContradiction fun hn => ?_
  have e1 : trn b a d = -trn d a b := by unfold trn; grind
  have e2 : trn a v d = trn d a v := trn_r1 d a v
  have e3 : trn v b a = trn a v b := trn_r1 a v b
  have hV : trn v b d < 0 := Classical.byContradiction fun h => hI ⟨by omega, by omega, by omega⟩
  by_cases h0 : trn d a b = 0
  · have := between_on (c := d) (d := a) (v := b) (a := v) h0 (by omega)
    rw [hD.nr] at this
    cases this
  · exact hD.nx ⟨.inl ⟨hd, by omega⟩, .inr ⟨by omega, by omega⟩⟩
/-- Places turned around a ring. -/
theorem CI_turn {ps : List Pt} {s : Nat} (hs : s < ps.length) (h : CI (arc ps s (ps.length - 1))) : CI ps := by
  intro a b c hab hbc hc
  have at' : ∀ x, x < ps.length → ∃ p, p < ps.length ∧ gp (arc ps s (ps.length - 1)) p = gp ps x ∧ ((s ≤ x ∧ p + s = x) ∨ (x < s ∧ p + s = x + ps.length)) := fun x hx => by
    obtain ⟨p, hp, ep⟩ := dist_ex hs hx
    refine ⟨p, hp, by rw [arc_at ps (by omega), ep], ?_⟩
    rw [am hs (by omega)] at ep
    split at ep <;> omega
  obtain ⟨pa, ha1, ha2, ha3⟩ := at' a (by omega)
  obtain ⟨pb, hb1, hb2, hb3⟩ := at' b (by omega)
  obtain ⟨pc, hc1, hc2, hc3⟩ := at' c hc
  rw [← ha2, ← hb2, ← hc2]
  have hl : (arc ps s (ps.length - 1)).length = ps.length := by rw [arc_len]; omega
  by_cases h1 : pa < pb
  · by_cases h2 : pb < pc
    · exact h pa pb pc h1 h2 (by omega)
    · rw [← trn_r2]; exact h pc pa pb (by omega) h1 (by omega)
  · rw [← trn_r1]; exact h pb pc pa (by omega) (by omega) (by omega)
/-- One corner more, ahead of the closing edge. -/
theorem CI_more {qs : List Pt} {m : Nat} (hq : qs.length = m + 1) (hm : 2 ≤ m) (h : CI qs) {v : Pt} (h1 : 0 < trn (gp qs m) v (gp qs 0)) (h2 : 0 < trn v (gp qs 0) (gp qs 1)) (h3 : 0 < trn (gp qs (m - 1)) (gp qs m) v) :
    ∀ j k, j < k → k < m + 1 → 0 < trn (gp qs j) (gp qs k) v := by
  have A : ∀ k, 0 < k → k < m + 1 → 0 < trn (gp qs 0) (gp qs k) v := fun k h0 hk => by
    have b1 : 0 < trn (gp qs 0) (gp qs 1) v := by rw [trn_r1]; exact h2
    have bm : 0 < trn (gp qs 0) (gp qs m) v := by rw [← trn_r1, trn_r1]; rw [← trn_r1]; exact h1
    by_cases k1 : k = 1
    · rw [k1]; exact b1
    · by_cases km : k = m
      · rw [km]; exact bm
      · exact plu_mid (h 0 1 k (by omega) (by omega) (by omega)) (h 0 1 m (by omega) (by omega) (by omega)) b1 (h 0 k m (by omega) (by omega) (by omega)) bm
  have B : ∀ k, k < m → 0 < trn (gp qs k) (gp qs m) v := fun k hk => by
    by_cases k0 : k = 0
    · rw [k0]; exact A m (by omega) (by omega)
    · by_cases k1 : k = m - 1
      · rw [k1]; exact h3
      · -- around the corner m: v, 0, k, m - 1
        have x1 : 0 < trn (gp qs m) (gp qs 0) (gp qs k) := by rw [trn_r2]; exact h 0 k m (by omega) (by omega) (by omega)
        have x2 : 0 < trn (gp qs m) (gp qs 0) (gp qs (m - 1)) := by rw [trn_r2]; exact h 0 (m - 1) m (by omega) (by omega) (by omega)
        have x3 : 0 < trn (gp qs m) (gp qs k) (gp qs (m - 1)) := by rw [trn_r2]; exact h k (m - 1) m (by omega) (by omega) (by omega)
        have x4 : 0 < trn (gp qs m) v (gp qs (m - 1)) := by rw [trn_r1]; exact h3
        have e := plu (gp qs m) v (gp qs 0) (gp qs k) (gp qs (m - 1))
        have p1 := Int.mul_pos h1 x3
        have p2 := Int.mul_pos x4 x1
        have : 0 < trn (gp qs m) v (gp qs k) := by
          refine prod_pos (u := trn (gp qs m) (gp qs 0) (gp qs (m - 1))) ?_ x2
          have : trn (gp qs m) (gp qs 0) (gp qs (m - 1)) * trn (gp qs m) v (gp qs k) = trn (gp qs m) v (gp qs k) * trn (gp qs m) (gp qs 0) (gp qs (m - 1)) := Int.mul_comm _ _
          omega
        rw [← trn_r1]; exact this
  intro j k hjk hk
  by_cases j0 : j = 0
  · rw [j0]; exact A k (by omega) hk
  · by_cases km : k = m
    · rw [km]; exact B j (by omega)
    · -- around the corner j: k, m, v, 0
      have x1 : 0 < trn (gp qs j) (gp qs k) (gp qs m) := h j k m hjk (by omega) (by omega)
      have x2 : 0 < trn (gp qs j) (gp qs m) (gp qs 0) := by rw [trn_r1]; exact h 0 j m (by omega) (by omega) (by omega)
      have x3 : 0 < trn (gp qs j) (gp qs k) (gp qs 0) := by rw [trn_r1]; exact h 0 j k (by omega) (by omega) (by omega)
      have x4 : 0 < trn (gp qs j) v (gp qs 0) := by rw [trn_r1]; exact A j (by omega) (by omega)
      have x5 := B j (by omega)
      have e := plu (gp qs j) (gp qs k) (gp qs m) v (gp qs 0)
      have p1 := Int.mul_pos x1 x4
      have p2 := Int.mul_pos x3 x5
      refine prod_pos (u := trn (gp qs j) (gp qs m) (gp qs 0)) ?_ x2
      have : trn (gp qs j) (gp qs m) (gp qs 0) * trn (gp qs j) (gp qs k) v = trn (gp qs j) (gp qs k) v * trn (gp qs j) (gp qs m) (gp qs 0) := Int.mul_comm _ _
      omega
theorem left_conv : ∀ (n : Nat) (ps : List Pt), ps.length = n → Sim ps → (∀ i, i < ps.length → 0 < trn (gp ps i) (gp ps ((i + 1) % ps.length)) (gp ps ((i + 2) % ps.length))) → CI ps := by
  intro n
  induction n using Nat.strongRecOn with
  | ind n ih =>
    intro ps hn h hl
    have h3 := h.three
    by_cases e3 : ps.length = 3
    · intro a b c hab hbc hc
      obtain rfl : a = 0 := by omega
      obtain rfl : b = 1 := by omega
      obtain rfl : c = 2 := by omega
      have := hl 0 (by omega)
      rw [e3] at this
      exact this
    · have h4 : 4 ≤ ps.length := by omega
      have hL : Lft ps = 1 := by
        obtain ⟨i, hi, hm⟩ := last_corner h
        have := hl i hi
        rcases Lft_max h hi hm with h | h
        · exact h.2
        · omega
      obtain ⟨i, _, hi, _, _, _, _, hE, _⟩ := two_ears n ps hn h h4 hL
      have c := (cor_of h h4 hi).1 hE.1
      have ch := cor_ear h c h4 hE.2
      have hb := ch.hi
      have ed : ((i + 2) % ps.length + (ps.length - 2)) % ps.length = i := by
        rw [Nat.mod_add_mod, show i + 2 + (ps.length - 2) = i + ps.length by omega, Nat.add_mod_right]
        exact Nat.mod_eq_of_lt hi
      obtain ⟨d2, dn, S1⟩ := arc_sim h ch (d := ps.length - 2) (by omega) ed
      have lt : ∀ j, (i + j) % ps.length < ps.length := fun j => Nat.mod_lt _ (by omega)
      have i0 : (i + 0) % ps.length = i := Nat.mod_eq_of_lt hi
      have pl : ∀ j, ((i + 2) % ps.length + j) % ps.length = (i + (2 + j)) % ps.length := fun j => by rw [Nat.mod_add_mod, Nat.add_assoc]
      have qa : ∀ j, j ≤ ps.length - 2 → gp (arc ps ((i + 2) % ps.length) (ps.length - 2)) j = gp ps ((i + (2 + j)) % ps.length) := fun j hj => by rw [arc_at ps hj, pl]
      have ri : ∀ j k, j < ps.length → k < ps.length → (i + j) % ps.length = (i + k) % ps.length → j = k := fun j k hj hk e => am_inj hi hj hk e
      have wrap : ∀ j, (i + (ps.length + j)) % ps.length = (i + j) % ps.length := fun j => by rw [show i + (ps.length + j) = i + j + ps.length by omega, Nat.add_mod_right]
      have hlw : ∀ j, 0 < trn (gp ps ((i + j) % ps.length)) (gp ps ((i + (j + 1)) % ps.length)) (gp ps ((i + (j + 2)) % ps.length)) := fun j => by
        have := hl _ (lt j)
        rw [am_succ, am_succ2] at this
        exact this
      have hout : ∀ j, 3 ≤ j → j < ps.length → ¬ InT (gp ps i) (gp ps ((i + 1) % ps.length)) (gp ps ((i + 2) % ps.length)) (gp ps ((i + j) % ps.length)) := fun j h3 hj => hE.2 _ (lt j) (fun e => by have := ri j 0 hj (by omega) (e.trans i0.symm); omega) (fun e => by have := ri j 1 hj (by omega) e; omega) (fun e => by have := ri j 2 hj (by omega) e; omega)
      have dj : ∀ j k, j < ps.length → k < ps.length → j ≠ k → j ≠ k + 1 → k ≠ j + 1 → ¬ (j = 0 ∧ k + 1 = ps.length) → ¬ (k = 0 ∧ j + 1 = ps.length) → Dj (gp ps ((i + j) % ps.length)) (gp ps ((i + (j + 1)) % ps.length)) (gp ps ((i + k) % ps.length)) (gp ps ((i + (k + 1)) % ps.length)) := fun j k hj hk n1 n2 n3 n4 n5 => by
        have := h.apart _ _ (lt k) (lt j) (fun e => n1 (ri j k hj hk e)) (by
          rw [am_succ]; intro e
          by_cases ek : k + 1 = ps.length
          · rw [ek, show (i + ps.length) % ps.length = (i + 0) % ps.length by rw [Nat.add_mod_right]; rfl] at e
            have := ri j 0 hj (by omega) e
            omega
          · have := ri j (k + 1) hj (by omega) e; omega) (by
          rw [am_succ]; intro e
          by_cases ek : j + 1 = ps.length
          · rw [ek, show (i + ps.length) % ps.length = (i + 0) % ps.length by rw [Nat.add_mod_right]; rfl] at e
            have := ri k 0 hk (by omega) e
            omega
          · have := ri k (j + 1) hk (by omega) e; omega)
        rw [am_succ, am_succ] at this
        exact this
      have e1 : (i + 1) % ps.length = (i + (0 + 1)) % ps.length := rfl
      have hc : 0 < trn (gp ps i) (gp ps ((i + 2) % ps.length)) (gp ps ((i + 3) % ps.length)) := by
        have D := dj 0 2 (by omega) (by omega) (by omega) (by omega) (by omega) (by omega) (by omega)
        rw [i0] at D
        exact ear_next hE.1 (hlw 1) (hout 3 (by omega) (by omega)) D
      have hd : 0 < trn (gp ps ((i + (ps.length - 1)) % ps.length)) (gp ps i) (gp ps ((i + 2) % ps.length)) := by
        have D := dj (ps.length - 1) 1 (by omega) (by omega) (by omega) (by omega) (by omega) (by omega) (by omega)
        have L := hlw (ps.length - 1)
        rw [show ps.length - 1 + 1 = ps.length + 0 by omega, wrap, i0] at D
        rw [show ps.length - 1 + 1 = ps.length + 0 by omega, show ps.length - 1 + 2 = ps.length + 1 by omega, wrap, wrap, i0] at L
        exact ear_prev hE.1 L (hout (ps.length - 1) (by omega) (by omega)) D
      have IH := ih (ps.length - 1) (by omega) (arc ps ((i + 2) % ps.length) (ps.length - 2)) (by rw [arc_len]; omega) S1 (fun j hj => by
        rw [arc_len] at hj ⊢
        by_cases j1 : j + 2 ≤ ps.length - 2
        · rw [Nat.mod_eq_of_lt (show j + 1 < ps.length - 2 + 1 by omega), Nat.mod_eq_of_lt (show j + 2 < ps.length - 2 + 1 by omega), qa j (by omega), qa (j + 1) (by omega), qa (j + 2) (by omega)]
          exact hlw (2 + j)
        · by_cases j2 : j + 1 = ps.length - 2
          · rw [Nat.mod_eq_of_lt (show j + 1 < ps.length - 2 + 1 by omega), show (j + 2) % (ps.length - 2 + 1) = 0 by rw [show j + 2 = ps.length - 2 + 1 by omega]; exact Nat.mod_self _, qa j (by omega), qa (j + 1) (by omega), qa 0 (by omega), show 2 + j = ps.length - 1 by omega, show 2 + (j + 1) = ps.length + 0 by omega, wrap, i0]
            exact hd
          · have j3 : j = ps.length - 2 := by omega
            subst j3
            rw [Nat.mod_self, show (ps.length - 2 + 2) % (ps.length - 2 + 1) = 1 by rw [show ps.length - 2 + 2 = 1 + (ps.length - 2 + 1) by omega, Nat.add_mod_right]; exact Nat.mod_eq_of_lt (by omega), qa (ps.length - 2) (by omega), qa 0 (by omega), qa 1 (by omega), show 2 + (ps.length - 2) = ps.length + 0 by omega, wrap, i0]
            exact hc)
      have hb2 : (i + 2) % ps.length < ps.length := lt 2
      refine CI_turn hb2 ?_
      have ql : (arc ps ((i + 2) % ps.length) (ps.length - 2)).length = ps.length - 2 + 1 := arc_len _ _ _
      have M := CI_more (qs := arc ps ((i + 2) % ps.length) (ps.length - 2)) (m := ps.length - 2) ql (by omega) IH (v := gp ps ((i + 1) % ps.length))
        (by rw [qa _ (Nat.le_refl _), qa 0 (by omega), show 2 + (ps.length - 2) = ps.length + 0 by omega, wrap, i0]; exact hE.1)
        (by rw [qa 0 (by omega), qa 1 (by omega)]; exact hlw 1)
        (by
          rw [qa _ (Nat.le_refl _), qa (ps.length - 2 - 1) (by omega), show 2 + (ps.length - 2) = ps.length + 0 by omega, show 2 + (ps.length - 2 - 1) = ps.length - 1 by omega, wrap, i0]
          have L := hlw (ps.length - 1)
          rw [show ps.length - 1 + 1 = ps.length + 0 by omega, show ps.length - 1 + 2 = ps.length + 1 by omega, wrap, wrap, i0] at L
          exact L)
      have ra : ∀ j, j ≤ ps.length - 2 → gp (arc ps ((i + 2) % ps.length) (ps.length - 1)) j = gp (arc ps ((i + 2) % ps.length) (ps.length - 2)) j := fun j hj => by rw [arc_at ps (by omega), arc_at ps hj]
      have rv : gp (arc ps ((i + 2) % ps.length) (ps.length - 1)) (ps.length - 1) = gp ps ((i + 1) % ps.length) := by rw [arc_at ps (Nat.le_refl _), pl, show 2 + (ps.length - 1) = ps.length + 1 by omega, wrap]
      intro a b c hab hbc hcl
      rw [arc_len] at hcl
      rw [ra a (by omega), ra b (by omega)]
      by_cases ec : c = ps.length - 1
      · rw [ec, rv]; exact M a b hab (by omega)
      · rw [ra c (by omega)]; exact IH a b c hab hbc (by rw [ql]; omega)
/-- The same, said of parts of the list. -/
theorem CI_conv {ps : List Pt} (h : CI ps) : ConvP ps := by
  intro a b c hs
  obtain ⟨is, e, hp⟩ := List.sublist_eq_map_getElem hs
  match is, e, hp with
  | [i, j, k], e, hp =>
    simp only [List.map_cons, List.map_nil, List.cons.injEq, and_true] at e
    obtain ⟨e1, e2, e3⟩ := e
    simp only [List.pairwise_cons, List.mem_cons, List.not_mem_nil, or_false, forall_eq_or_imp, forall_eq, false_imp_iff, implies_true, List.Pairwise.nil, and_true] at hp
    have := h i.1 j.1 k.1 hp.1.1 hp.2 k.2
    rw [gp_lt i.2, gp_lt j.2, gp_lt k.2] at this
    rw [e1, e2, e3]
    exact this
theorem convB_conv {ps : List Pt} (h : convB ps = true) : ConvP ps := by
  unfold convB leftB at h
  simp only [Bool.and_eq_true, List.all_eq_true, List.mem_range, decide_eq_true_eq] at h
  exact CI_conv (left_conv _ ps rfl (sim_of h.1) h.2)
end Go.Proofs.Ytcebmcbglhkkfaa
/- Simple, told back: a ring of the curve theorem is simple by the program's test; rings turned and reversed. -/
set_option linter.unusedVariables false
set_option linter.unusedSimpArgs false
namespace Go.Proofs.Ytcebmcbglhkkfaa
open Go.RowKit

theorem len_one {l : List Pt} {a : Pt} (hd : l.Nodup) (ha : a ∈ l) : l.length = 1 ↔ ∀ q ∈ l, q = a := by
  constructor
  · intro h q hq
    match l, h with
    | [x], _ =>
      simp only [List.mem_cons, List.not_mem_nil, or_false] at ha hq
      rw [hq, ha]
  · intro h
    match l, hd with
    | [], _ => cases ha
    | [x], _ => rfl
    | x :: y :: r, hd =>
      exfalso
      have h1 := h x (by simp)
      have h2 := h y (by simp)
      rw [List.nodup_cons] at hd
      exact hd.1 (by rw [h1, ← h2]; simp)
theorem touch_len {s t : Sg} (hs : s.1 ≠ s.2) (ht : t.1 ≠ t.2) {u w x : Pt} (hsu : (s.1 = u ∧ s.2 = w) ∨ (s.1 = w ∧ s.2 = u)) (htu : (t.1 = u ∧ t.2 = x) ∨ (t.1 = x ∧ t.2 = u)) (hw : onS t w = false) :
    decide ((cmn s t).length = 1) = !onS s x := by
  have mem : ∀ q, q ∈ cmn s t ↔ q = u ∨ (q = x ∧ onS s x = true) := fun q => by
    rw [cmn_mem]
    unfold cmnA
    rw [List.mem_filter]
    simp only [List.mem_cons, List.not_mem_nil, or_false, Bool.and_eq_true]
    have us : onS s u = true := by
      rcases hsu with ⟨h, _⟩ | ⟨_, h⟩
      · rw [← h]; exact onSeg_end1 _ _
      · rw [← h]; exact onSeg_end2 _ _
    have ut : onS t u = true := by
      rcases htu with ⟨h, _⟩ | ⟨_, h⟩
      · rw [← h]; exact onSeg_end1 _ _
      · rw [← h]; exact onSeg_end2 _ _
    have xt : onS t x = true := by
      rcases htu with ⟨_, h⟩ | ⟨h, _⟩
      · rw [← h]; exact onSeg_end2 _ _
      · rw [← h]; exact onSeg_end1 _ _
    constructor
    · rintro ⟨hm, h1, h2⟩
      have nw : q ≠ w := fun e => by rw [e, hw] at h2; cases h2
      have : q = u ∨ q = x := by
        rcases hsu with ⟨e1, e2⟩ | ⟨e1, e2⟩ <;> rcases htu with ⟨e3, e4⟩ | ⟨e3, e4⟩ <;> rw [e1, e2, e3, e4] at hm <;> rcases hm with h | h | h | h <;> first | exact absurd h nw | exact .inl h | exact .inr h
      rcases this with h | h
      · exact .inl h
      · exact .inr ⟨h, by rw [← h]; exact h1⟩
    · rintro (h | ⟨h, h1⟩)
      · subst h
        refine ⟨?_, us, ut⟩
        rcases hsu with ⟨e1, e2⟩ | ⟨e1, e2⟩
        · exact .inl e1.symm
        · exact .inr (.inl e2.symm)
      · subst h
        refine ⟨?_, h1, xt⟩
        rcases htu with ⟨e1, e2⟩ | ⟨e1, e2⟩
        · exact .inr (.inr (.inr e2.symm))
        · exact .inr (.inr (.inl e1.symm))
  have hux : u ≠ x := by
    rcases htu with ⟨e1, e2⟩ | ⟨e1, e2⟩
    · rw [← e1, ← e2]; exact ht
    · rw [← e1, ← e2]; exact ht.symm
  have L := len_one (cmn_nodup hs ht) ((mem u).2 (.inl rfl))
  rw [Bool.eq_iff_iff, decide_eq_true_eq, L]
  simp only [Bool.not_eq_true']
  constructor
  · intro hh
    rw [← Bool.not_eq_true]
    exact fun hx => hux (hh x ((mem x).2 (.inr ⟨rfl, hx⟩))).symm
  · intro hx q hq
    rcases (mem q).1 hq with h | ⟨_, h⟩
    · exact h
    · rw [hx] at h; cases h
theorem dj_rel {a b q r : Pt} (h : Dj a b q r) : relI (a, b) (q, r) = 0 := by
  have e : cmn (a, b) (q, r) = [] := by
    rw [List.eq_nil_iff_forall_not_mem]
    intro p hp
    rw [cmn_mem] at hp
    unfold cmnA at hp
    rw [List.mem_filter] at hp
    simp only [List.mem_cons, List.not_mem_nil, or_false, Bool.and_eq_true, onS] at hp
    obtain ⟨h0, h1, h2⟩ := hp
    rcases h0 with e | e | e | e <;> subst e
    · rw [h.na] at h2; cases h2
    · rw [h.nb] at h2; cases h2
    · rw [h.nq] at h1; cases h1
    · rw [h.nr] at h1; cases h1
  have x : crossB (a, b) (q, r) = false := by
    rw [← Bool.not_eq_true]
    unfold crossB
    rw [Bool.and_eq_true, decide_eq_true_eq, decide_eq_true_eq]
    rintro ⟨h1, h2⟩
    have un : ∀ {u v : Int}, sgn u * sgn v < 0 → (0 < u ∧ v < 0) ∨ (u < 0 ∧ 0 < v) := fun {u v} hh => by
      rcases Int.lt_trichotomy u 0 with hu | hu | hu <;> rcases Int.lt_trichotomy v 0 with hv | hv | hv
      · rw [sgn_neg hu, sgn_neg hv] at hh; omega
      · subst hv; rw [show sgn 0 = 0 from rfl] at hh; omega
      · exact .inr ⟨hu, hv⟩
      · subst hu; rw [show sgn 0 = 0 from rfl] at hh; omega
      · subst hu; rw [show sgn 0 = 0 from rfl] at hh; omega
      · subst hu; rw [show sgn 0 = 0 from rfl] at hh; omega
      · exact .inl ⟨hu, hv⟩
      · subst hv; rw [show sgn 0 = 0 from rfl] at hh; omega
      · rw [sgn_pos hu, sgn_pos hv] at hh; omega
    exact h.nx ⟨un h1, un h2⟩
  unfold relI
  rw [e, x]; rfl
theorem pred_ex {n v : Nat} (hv : v < n) : (v + n - 1) % n < n ∧ ((v + n - 1) % n + 1) % n = v := by
  refine ⟨Nat.mod_lt _ (by omega), ?_⟩
  rw [Nat.mod_add_mod, show v + n - 1 + 1 = v + n by omega, Nat.add_mod_right]
  exact Nat.mod_eq_of_lt hv
theorem conv_Lft {ps : List Pt} (h : Sim ps) (hl : ∀ i, i < ps.length → 0 < trn (gp ps i) (gp ps ((i + 1) % ps.length)) (gp ps ((i + 2) % ps.length))) : Lft ps = 1 := by
  obtain ⟨i, hi, hm⟩ := last_corner h
  have := hl i hi
  rcases Lft_max h hi hm with h | h
  · exact h.2
  · omega

theorem pt_ne {p q : Pt} (h : p ≠ q) : p.x - q.x ≠ 0 ∨ p.y - q.y ≠ 0 := by
  by_cases a : p.x = q.x
  · by_cases b : p.y = q.y
    · exact absurd (by cases p; cases q; simp_all) h
    · exact .inr (by omega)
  · exact .inl (by omega)
theorem opp_off {o q r : Pt} (hoq : o ≠ q) (hqr : q ≠ r) (p : Opp o q r) : onSeg o q r = false ∧ onSeg q r o = false := by
  by_cases h0 : trn o q r = 0
  · have hl := p h0
    have n1 := pt_ne hoq
    have n2 := pt_ne hqr
    have D := dot_pos (u1 := o.x - q.x) (u2 := o.y - q.y) (v1 := q.x - r.x) (v2 := q.y - r.y) (by unfold trn at h0; grind) n1 n2 (by unfold LowP at hl; omega)
    have S1 := sq_nonneg' (q.x - r.x)
    have S2 := sq_nonneg' (q.y - r.y)
    have S3 := sq_nonneg' (o.x - q.x)
    have S4 := sq_nonneg' (o.y - q.y)
    constructor
    · rw [← Bool.not_eq_true]
      intro h
      unfold onSeg at h
      simp only [Bool.and_eq_true, decide_eq_true_eq] at h
      have e : (o.x - r.x) * (q.x - r.x) + (o.y - r.y) * (q.y - r.y) = ((o.x - q.x) * (q.x - r.x) + (o.y - q.y) * (q.y - r.y)) + ((q.x - r.x) * (q.x - r.x) + (q.y - r.y) * (q.y - r.y)) := by grind
      omega
    · rw [← Bool.not_eq_true]
      intro h
      unfold onSeg at h
      simp only [Bool.and_eq_true, decide_eq_true_eq] at h
      have e : (q.x - o.x) * (r.x - o.x) + (q.y - o.y) * (r.y - o.y) = ((o.x - q.x) * (q.x - r.x) + (o.y - q.y) * (q.y - r.y)) + ((o.x - q.x) * (o.x - q.x) + (o.y - q.y) * (o.y - q.y)) := by grind
      omega
  · exact ⟨onS_no h0, onS_no (by rw [show trn q r o = trn o q r by unfold trn; grind]; exact h0)⟩
theorem Opp.rev {o q r : Pt} (p : Opp o q r) : Opp r q o := fun h => by
  have := p (by unfold trn at *; grind)
  by_cases a : LowP q o <;> by_cases b : LowP q r <;> simp_all
theorem rel_one {s t : Sg} (h : (cmn s t).length = 1) : relI s t = 1 := by unfold relI relOf; rw [h]; rfl
theorem adj_rel {ps : List Pt} (h : Sim ps) {j : Nat} (hj : j < ps.length) : relI (edgeAt ps ((j + 1) % ps.length)) (edgeAt ps j) = 1 ∧ relI (edgeAt ps j) (edgeAt ps ((j + 1) % ps.length)) = 1 := by
  have h3 := h.three
  have h1 : (j + 1) % ps.length < ps.length := Nat.mod_lt _ (by omega)
  have h2 : (j + 2) % ps.length < ps.length := Nat.mod_lt _ (by omega)
  have m1 := mod_next hj
  have m2 := mod_next h1
  rw [mod2] at m2
  have n1 : gp ps j ≠ gp ps ((j + 1) % ps.length) := sim_ne h hj h1 (by split at m1 <;> omega)
  have n2 : gp ps ((j + 1) % ps.length) ≠ gp ps ((j + 2) % ps.length) := sim_ne h h1 h2 (by split at m2 <;> omega)
  obtain ⟨o1, o2⟩ := opp_off n1 n2 (h.opp j hj)
  have e1 : edgeAt ps j = (gp ps j, gp ps ((j + 1) % ps.length)) := rfl
  have e2 : edgeAt ps ((j + 1) % ps.length) = (gp ps ((j + 1) % ps.length), gp ps ((j + 2) % ps.length)) := by unfold edgeAt; rw [mod2]
  rw [e1, e2]
  constructor
  · refine rel_one (of_decide_eq_true ?_)
    rw [touch_len (s := (gp ps ((j + 1) % ps.length), gp ps ((j + 2) % ps.length))) (t := (gp ps j, gp ps ((j + 1) % ps.length))) n2 n1 (u := gp ps ((j + 1) % ps.length)) (w := gp ps ((j + 2) % ps.length)) (x := gp ps j) (.inl ⟨rfl, rfl⟩) (.inr ⟨rfl, rfl⟩) o1]
    unfold onS
    rw [o2]; rfl
  · refine rel_one (of_decide_eq_true ?_)
    rw [touch_len (s := (gp ps j, gp ps ((j + 1) % ps.length))) (t := (gp ps ((j + 1) % ps.length), gp ps ((j + 2) % ps.length))) n1 n2 (u := gp ps ((j + 1) % ps.length)) (w := gp ps j) (x := gp ps ((j + 2) % ps.length)) (.inr ⟨rfl, rfl⟩) (.inl ⟨rfl, rfl⟩) o2]
    unfold onS
    rw [o1]; rfl
/-- A ring of the curve theorem with valid points is simple by the test. -/
theorem sim_simB {ps : List Pt} (h : Sim ps) (hl : listOk ps = true) : simB ps = true := by
  have h3 := h.three
  unfold simB
  rw [Bool.and_eq_true]
  refine ⟨?_, ?_⟩
  · unfold ringB
    rw [hl, decide_eq_true h3, decide_eq_true (sortP_nodup h.nodup)]; rfl
  · rw [pairsB_iff]
    intro i hi k hk
    have hkl : k < ps.length := by omega
    have mi := mod_next hi
    have mk := mod_next hkl
    unfold pairI
    rw [beq_iff_eq]
    by_cases hn : i = k + 1 ∨ i + 1 = k + ps.length
    · rw [if_pos (by unfold nextTo; simp only [Bool.or_eq_true, decide_eq_true_eq]; exact hn)]
      rcases hn with hn | hn
      · have e : i = (k + 1) % ps.length := by split at mk <;> omega
        rw [e]; exact (adj_rel h hkl).1
      · have e : k = (i + 1) % ps.length := by split at mi <;> omega
        rw [e]; exact (adj_rel h hi).2
    · rw [if_neg (by unfold nextTo; simp only [Bool.or_eq_true, decide_eq_true_eq]; exact hn)]
      exact dj_rel (h.apart k i hkl hi (by omega) (by split at mk <;> omega) (by split at mi <;> omega))
theorem nodup_of {ps : List Pt} (h : ∀ i j, i < ps.length → j < ps.length → gp ps i = gp ps j → i = j) : ps.Nodup := by
  unfold List.Nodup
  rw [List.pairwise_iff_getElem]
  intro i j hi hj hij e
  have := h i j hi hj (by rw [gp_lt hi, gp_lt hj]; exact e)
  omega
theorem rot_ix {n k j : Nat} : (k + (j + 1) % n) % n = ((k + j) % n + 1) % n := by rw [Nat.add_mod_mod, Nat.mod_add_mod]; rfl
theorem rot_ix2 {n k j : Nat} : (k + (j + 2) % n) % n = ((k + j) % n + 2) % n := by rw [Nat.add_mod_mod, Nat.mod_add_mod]; rfl
theorem sim_rot {ps qs : List Pt} (h : Sim ps) (hl : qs.length = ps.length) {k : Nat} (hk : k < ps.length) (he : ∀ j, j < ps.length → gp qs j = gp ps ((k + j) % ps.length)) : Sim qs := by
  have h3 := h.three
  have lt : ∀ j, (k + j) % ps.length < ps.length := fun j => Nat.mod_lt _ (by omega)
  have lm : ∀ j, j % ps.length < ps.length := fun j => Nat.mod_lt _ (by omega)
  have inj : ∀ {i j}, i < ps.length → j < ps.length → (k + i) % ps.length = (k + j) % ps.length → i = j := fun hi hj e => am_inj hk hi hj e
  refine ⟨by rw [hl]; exact h3, nodup_of fun i j hi hj e => ?_, fun i j hi hj n1 n2 n3 => ?_, fun i hi => ?_⟩
  · rw [hl] at hi hj
    rw [he i hi, he j hj] at e
    exact inj hi hj (gp_inj h.nodup (lt _) (lt _) e)
  · rw [hl] at hi hj n2 n3 ⊢
    rw [he i hi, he j hj, he _ (lm _), he _ (lm _), rot_ix, rot_ix]
    exact h.apart _ _ (lt i) (lt j) (fun e => n1 (inj hj hi e)) (fun e => n2 (inj hj (lm _) (by rw [rot_ix]; exact e))) (fun e => n3 (inj hi (lm _) (by rw [rot_ix]; exact e)))
  · rw [hl] at hi ⊢
    rw [he i hi, he _ (lm _), he _ (lm _), rot_ix, rot_ix2]
    exact h.opp _ (lt i)
theorem rev_ix {n j : Nat} (hj : j < n) : (n - 1 - (j + 1) % n + 1) % n = n - 1 - j := by
  have := mod_next hj
  split at this
  · rw [this, show n - 1 - 0 + 1 = n by omega, Nat.mod_self]; omega
  · rw [this, Nat.mod_eq_of_lt (by omega)]; omega
theorem sim_rev {ps qs : List Pt} (h : Sim ps) (hl : qs.length = ps.length) (he : ∀ j, j < ps.length → gp qs j = gp ps (ps.length - 1 - j)) : Sim qs := by
  have h3 := h.three
  have lm : ∀ j, j % ps.length < ps.length := fun j => Nat.mod_lt _ (by omega)
  have lr : ∀ j, ps.length - 1 - j < ps.length := fun j => by omega
  refine ⟨by rw [hl]; exact h3, nodup_of fun i j hi hj e => ?_, fun i j hi hj n1 n2 n3 => ?_, fun i hi => ?_⟩
  · rw [hl] at hi hj
    rw [he i hi, he j hj] at e
    have := gp_inj h.nodup (lr _) (lr _) e
    omega
  · rw [hl] at hi hj n2 n3 ⊢
    have l1 := lm (i + 1)
    have l2 := lm (j + 1)
    rw [he i hi, he j hj, he _ l1, he _ l2]
    have D := h.apart (ps.length - 1 - (i + 1) % ps.length) (ps.length - 1 - (j + 1) % ps.length) (lr _) (lr _)
      (fun e => n1 (by have a1 := mod_next hi; have a2 := mod_next hj; split at a1 <;> split at a2 <;> omega)) (by rw [rev_ix hi]; omega) (by rw [rev_ix hj]; omega)
    rw [rev_ix hi, rev_ix hj] at D
    exact D.swap1.swap2
  · rw [hl] at hi ⊢
    have l1 := lm (i + 1)
    have l2 := lm (i + 2)
    rw [he i hi, he _ l1, he _ l2]
    have e2 := rev_ix l1
    rw [mod2] at e2
    have P := h.opp (ps.length - 1 - (i + 2) % ps.length) (lr _)
    rw [e2] at P
    have e3 : (ps.length - 1 - (i + 2) % ps.length + 2) % ps.length = ps.length - 1 - i := by
      rw [← rev_ix hi, ← e2, mod2]
    rw [e3] at P
    exact P.rev
/-! ### lists -/
theorem gp_app1 {a b : List Pt} {i : Nat} (h : i < a.length) : gp (a ++ b) i = gp a i := by
  unfold gp; rw [List.getD_eq_getElem?_getD, List.getD_eq_getElem?_getD, List.getElem?_append_left h]
theorem gp_app2 {a b : List Pt} {i : Nat} (h : a.length ≤ i) : gp (a ++ b) i = gp b (i - a.length) := by
  unfold gp; rw [List.getD_eq_getElem?_getD, List.getD_eq_getElem?_getD, List.getElem?_append_right h]
def rotP (ps : List Pt) (k : Nat) : List Pt := ps.drop k ++ ps.take k
theorem rotP_len (ps : List Pt) (k : Nat) : (rotP ps k).length = ps.length := by unfold rotP; simp; omega
theorem gp_drop (ps : List Pt) (k i : Nat) : gp (ps.drop k) i = gp ps (k + i) := by
  unfold gp; simp [List.getD_eq_getElem?_getD]
theorem gp_take {ps : List Pt} {k i : Nat} (h : i < k) : gp (ps.take k) i = gp ps i := by
  unfold gp; simp [List.getD_eq_getElem?_getD, List.getElem?_take, h]
theorem rotP_at {ps : List Pt} {k : Nat} (hk : k < ps.length) {j : Nat} (hj : j < ps.length) : gp (rotP ps k) j = gp ps ((k + j) % ps.length) := by
  unfold rotP
  rw [am hk (show j ≤ ps.length by omega)]
  by_cases h : k + j < ps.length
  · rw [if_pos h, gp_app1 (by rw [List.length_drop]; omega), gp_drop]
  · rw [if_neg h, gp_app2 (by rw [List.length_drop]; omega), List.length_drop, gp_take (by omega)]
    congr 1; omega
theorem rev_at {ps : List Pt} {j : Nat} (hj : j < ps.length) : gp ps.reverse j = gp ps (ps.length - 1 - j) := by
  unfold gp; rw [List.getD_eq_getElem?_getD, List.getD_eq_getElem?_getD, List.getElem?_reverse hj]
theorem rotP_mem {ps : List Pt} {k : Nat} {p : Pt} : p ∈ rotP ps k ↔ p ∈ ps := by
  unfold rotP
  rw [List.mem_append, or_comm, ← List.mem_append, List.take_append_drop]
theorem simB_rot {ps : List Pt} (h : simB ps = true) {k : Nat} (hk : k < ps.length) (hl : listOk (rotP ps k) = true) : simB (rotP ps k) = true := sim_simB (sim_rot (sim_of h) (rotP_len ps k) hk (fun j hj => rotP_at hk hj)) hl
theorem simB_rev {ps : List Pt} (h : simB ps = true) (hl : listOk ps.reverse = true) : simB ps.reverse = true := sim_simB (sim_rev (sim_of h) (List.length_reverse ..) (fun j hj => rev_at hj)) hl
end Go.Proofs.Ytcebmcbglhkkfaa
/- The canonical form of a polygon; a convex ring that begins with its least point is its own hull. -/
set_option linter.unusedVariables false
set_option linter.unusedSimpArgs false
namespace Go.Proofs.Ytcebmcbglhkkfaa

/-! ### a convex ring is its own hull -/
theorem pw_ext {R : Pt → Pt → Prop} (hx : ∀ a b, R a b → R b a → False) : ∀ {l l' : List Pt}, l.Pairwise R → l'.Pairwise R → (∀ q, q ∈ l ↔ q ∈ l') → l = l'
  | [], [], _, _, _ => rfl
  | [], b :: r, _, _, h => absurd ((h b).2 (by simp)) (by simp)
  | a :: r, [], _, _, h => absurd ((h a).1 (by simp)) (by simp)
  | a :: r, b :: s, h1, h2, h => by
    rw [List.pairwise_cons] at h1 h2
    have hab : a = b := by
      by_cases e : a = b
      · exact e
      · exfalso
        have ha : a ∈ s := by
          have := (h a).1 (by simp)
          rw [List.mem_cons] at this
          exact this.resolve_left e
        have hb : b ∈ r := by
          have := (h b).2 (by simp)
          rw [List.mem_cons] at this
          exact this.resolve_left (fun e2 => e e2.symm)
        exact hx _ _ (h1.1 b hb) (h2.1 a ha)
    subst hab
    congr 1
    refine pw_ext hx h1.2 h2.2 fun q => ?_
    constructor
    · intro hq
      have := (h q).1 (by simp [hq])
      rw [List.mem_cons] at this
      rcases this with e | hs
      · subst e; exact absurd (h1.1 q hq) (fun r => hx _ _ r r)
      · exact hs
    · intro hq
      have := (h q).2 (by simp [hq])
      rw [List.mem_cons] at this
      rcases this with e | hs
      · subst e; exact absurd (h2.1 q hq) (fun r => hx _ _ r r)
      · exact hs
/-- No point with all others strictly on one side is above a segment and below another one. -/
theorem no_low {A B : Int} {p s t : Pt} (h1 : ltP s p) (h2 : ltP p t) (ht : trn s p t ≤ 0) (fs : 0 < A * (s.x - p.x) + B * (s.y - p.y)) (ft : 0 < A * (t.x - p.x) + B * (t.y - p.y)) : B < 0 := by
  have l0 : 0 ≤ t.x - p.x := by unfold ltP at h2; omega
  have m0 : 0 ≤ p.x - s.x := by unfold ltP at h1; omega
  have e : (t.x - p.x) * (A * (s.x - p.x) + B * (s.y - p.y)) + (p.x - s.x) * (A * (t.x - p.x) + B * (t.y - p.y)) = B * trn s p t := by unfold trn; grind
  by_cases hB : B < 0
  · exact hB
  · exfalso
    have hle : B * trn s p t ≤ 0 := by
      have := Int.mul_nonneg (show 0 ≤ B by omega) (show 0 ≤ -(trn s p t) by omega)
      rw [Int.mul_neg] at this; omega
    by_cases z1 : t.x = p.x
    · by_cases z2 : p.x = s.x
      · have y1 : s.y < p.y := by unfold ltP at h1; omega
        rw [show s.x - p.x = 0 by omega, Int.mul_zero] at fs
        have := Int.mul_nonneg (show 0 ≤ B by omega) (show 0 ≤ p.y - s.y by omega)
        have e2 : B * (s.y - p.y) = -(B * (p.y - s.y)) := by grind
        omega
      · have := Int.mul_pos (show 0 < p.x - s.x by omega) ft
        rw [show t.x - p.x = 0 by omega, Int.zero_mul] at e
        rw [show t.x - p.x = 0 by omega] at this
        omega
    · have q1 := Int.mul_pos (show 0 < t.x - p.x by omega) fs
      have q2 := Int.mul_nonneg m0 (Int.le_of_lt ft)
      omega
theorem conv_mem {c : List Pt} (hc : ConvP c) (hd : c.Nodup) (h3 : 3 ≤ c.length) {p : Pt} (hp : p ∈ c) : p ∈ hullOf c := by
  obtain ⟨j, hj, rfl⟩ := gp_of_mem hp
  obtain ⟨i, hi, hij⟩ : ∃ i, i < c.length ∧ (i + 1) % c.length = j := ⟨_, (pred_ex hj).1, (pred_ex hj).2⟩
  have hn : (j + 1) % c.length < c.length := Nat.mod_lt _ (by omega)
  have mi := mod_next hi
  have mj := mod_next hj
  have F : ∀ v, v < c.length → v ≠ j → 0 < ((gp c i).y - (gp c ((j + 1) % c.length)).y) * ((gp c v).x - (gp c j).x) + ((gp c ((j + 1) % c.length)).x - (gp c i).x) * ((gp c v).y - (gp c j).y) := fun v hv hvj => by
    have e : ((gp c i).y - (gp c ((j + 1) % c.length)).y) * ((gp c v).x - (gp c j).x) + ((gp c ((j + 1) % c.length)).x - (gp c i).x) * ((gp c v).y - (gp c j).y) = trn (gp c i) (gp c j) (gp c v) + trn (gp c j) (gp c ((j + 1) % c.length)) (gp c v) := by unfold trn; grind
    rw [e]
    have g1 : v = i ∨ 0 < trn (gp c i) (gp c j) (gp c v) := by
      by_cases e : v = i
      · exact .inl e
      · have := left_of hc hd hi hv e (by rw [hij]; exact hvj)
        rw [hij] at this
        exact .inr this
    have g2 : v = (j + 1) % c.length ∨ 0 < trn (gp c j) (gp c ((j + 1) % c.length)) (gp c v) := by
      by_cases e : v = (j + 1) % c.length
      · exact .inl e
      · exact .inr (left_of hc hd hj hv hvj e)
    have z1 : v = i → trn (gp c i) (gp c j) (gp c v) = 0 := fun e => by rw [e]; exact trn_aba _ _
    have z2 : v = (j + 1) % c.length → trn (gp c j) (gp c ((j + 1) % c.length)) (gp c v) = 0 := fun e => by rw [e]; exact trn_abb _ _
    have ne : ¬ (v = i ∧ v = (j + 1) % c.length) := by rintro ⟨a, b⟩; split at mi <;> split at mj <;> omega
    rcases g1 with g1 | g1
    · rcases g2 with g2 | g2
      · exact absurd ⟨g1, g2⟩ ne
      · have := z1 g1; omega
    · rcases g2 with g2 | g2
      · have := z2 g2; omega
      · omega
  have FM : ∀ q, q ∈ c → q ≠ gp c j → 0 < ((gp c i).y - (gp c ((j + 1) % c.length)).y) * (q.x - (gp c j).x) + ((gp c ((j + 1) % c.length)).x - (gp c i).x) * (q.y - (gp c j).y) := fun q hq hne => by
    obtain ⟨v, hv, rfl⟩ := gp_of_mem hq
    exact F v hv (fun e => hne (by rw [e]))
  rw [hullOf_mem]
  by_cases h1 : gp c j ∈ lowL c
  · exact .inl h1
  by_cases h2 : gp c j ∈ upL c
  · exact .inr h2
  exfalso
  obtain ⟨s, t, hs, ht, l1, l2, le⟩ := low_cover hp (fun hh => h1 (lowL_mem.2 ⟨hp, hh⟩))
  obtain ⟨s', t', hs', ht', l1', l2', le'⟩ := up_cover hp (fun hh => h2 (upL_mem.2 ⟨hp, hh⟩))
  have ne1 := ltP_ne l1
  have ne2 := ltP_ne l2
  have ne3 := ltP_ne l1'
  have ne4 := ltP_ne l2'
  have b1 := no_low l1 l2 le (FM s (lowL_mem.1 hs).1 ne1) (FM t (lowL_mem.1 ht).1 ne2.symm)
  have f3 := FM s' (upL_mem.1 hs').1 ne3.symm
  have f4 := FM t' (upL_mem.1 ht').1 ne4
  have b2 := no_low (A := -((gp c i).y - (gp c ((j + 1) % c.length)).y)) (B := -((gp c ((j + 1) % c.length)).x - (gp c i).x)) (p := negP (gp c j)) (s := negP s') (t := negP t') (negP_lt.2 l1') (negP_lt.2 l2') (by rw [negP_trn]; exact le') (by unfold negP; simp only; grind) (by unfold negP; simp only; grind)
  omega
theorem hull_of_conv {c : List Pt} (hc : ConvP c) (hd : c.Nodup) (h3 : 3 ≤ c.length) (hm : ∀ q ∈ c, q = gp c 0 ∨ ltP (gp c 0) q) : hullOf c = c := by
  match c, hc, hd, h3, hm with
  | a :: b :: r, hc, hd, h3, hm =>
    have e0 : gp (a :: b :: r) 0 = a := rfl
    rw [e0] at hm
    have hmem : ∀ q, q ∈ hullOf (a :: b :: r) ↔ q ∈ a :: b :: r := fun q => ⟨hullOf_sub, conv_mem hc hd h3⟩
    have hab : a ≠ b := fun e => by rw [List.nodup_cons] at hd; exact hd.1 (by rw [e]; simp)
    have h2 : ¬ (sortP (a :: b :: r)).length < 2 := by have := sort_two (l := a :: b :: r) (by simp) (by simp) hab; omega
    have ha := (min_low (l := a :: b :: r) (m := a) (by simp) hm).1
    obtain ⟨m, m1, m2, m3⟩ := asc_min (lowL_asc (a :: b :: r)) (fun e => by rw [e] at ha; cases ha)
    have ema : m = a := by
      rcases m3 a ha with e | e
      · exact e.symm
      · rcases hm m (lowL_mem.1 m1).1 with e2 | e2
        · exact e2
        · exfalso; unfold ltP at e e2; omega
    obtain ⟨x, x1, x2⟩ := set_max (l := a :: b :: r) (by simp)
    have hx := (max_low x1 x2).1
    have hxa : x ≠ a := fun e => by
      rcases x2 b (by simp) with e2 | e2
      · exact hab (by rw [e2, e])
      · rcases hm b (by simp) with e3 | e3
        · exact hab e3.symm
        · rw [e] at e2; unfold ltP at e2 e3; omega
    obtain ⟨r', hr'⟩ : ∃ r', hullOf (a :: b :: r) = a :: r' := by
      unfold hullOf
      rw [if_neg h2]
      match hl : lowL (a :: b :: r), m2, hx, m1 with
      | [y], m2, hx, m1 =>
        simp only [List.head?_cons, Option.some.injEq] at m2
        simp only [List.mem_cons, List.not_mem_nil, or_false] at hx
        exact absurd (by rw [hx, m2, ema]) hxa
      | y :: z :: t, m2, hx, m1 =>
        simp only [List.head?_cons, Option.some.injEq] at m2
        exact ⟨_, by rw [List.dropLast_cons_cons, List.cons_append, m2, ema]⟩
    have hc' := hull_conv (a :: b :: r)
    have hd' := hullOf_nodup (a :: b :: r)
    rw [hr'] at hmem hc' hd' ⊢
    congr 1
    have P1 : (b :: r).Pairwise fun u v => 0 < trn a u v := List.pairwise_iff_forall_sublist.2 fun {u v} h => hc a u v (h.cons_cons a)
    have P2 : r'.Pairwise fun u v => 0 < trn a u v := List.pairwise_iff_forall_sublist.2 fun {u v} h => hc' a u v (h.cons_cons a)
    rw [List.nodup_cons] at hd hd'
    refine pw_ext (fun u v h1 h2 => by have : trn a v u = -trn a u v := (by unfold trn; grind); omega) P2 P1 fun q => ?_
    have := hmem q
    rw [List.mem_cons, List.mem_cons (l := b :: r)] at this
    constructor
    · intro hq
      rcases this.1 (.inr hq) with e | e
      · exact absurd (by rw [← e]; exact hq) hd'.1
      · exact e
    · intro hq
      rcases this.2 (.inr hq) with e | e
      · exact absurd (by rw [← e]; exact hq) hd.1
      · exact e
/-! ### the canonical form -/
def minTo (q : List Pt) : Nat → Nat
  | 0 => 0
  | k + 1 => if ltP (gp q k) (gp q (minTo q k)) then k else minTo q k
theorem minTo_lt {q : List Pt} (h0 : 0 < q.length) : ∀ k, k ≤ q.length → minTo q k < q.length
  | 0, _ => h0
  | k + 1, h => by
    unfold minTo
    split
    · omega
    · exact minTo_lt h0 k (by omega)
theorem minTo_le {q : List Pt} : ∀ (k j : Nat), j < k → ¬ ltP (gp q j) (gp q (minTo q k))
  | k + 1, j, h => by
    unfold minTo
    have ih := minTo_le (q := q) k
    split
    · rename_i hl
      by_cases e : j = k
      · subst e; unfold ltP; omega
      · have := ih j (by omega)
        unfold ltP at *; omega
    · rename_i hl
      by_cases e : j = k
      · subst e; exact hl
      · exact ih j (by omega)
def minIx (q : List Pt) : Nat := minTo q q.length
def canL (ps : List Pt) : List Pt := rotP (if areaL ps < 0 then ps.reverse else ps) (minIx (if areaL ps < 0 then ps.reverse else ps))
theorem min_only {q : List Pt} (hd : q.Nodup) {m : Nat} (hm : m < q.length) (h : ∀ j, j < q.length → ¬ ltP (gp q j) (gp q m)) : m = minIx q := by
  have h1 := minTo_lt (q := q) (by omega) q.length (Nat.le_refl _)
  have h2 := h (minIx q) h1
  have h3 := minTo_le (q := q) q.length m hm
  refine gp_inj hd hm h1 ?_
  unfold minIx at *
  generalize gp q m = a at *
  generalize gp q (minTo q q.length) = b at *
  unfold ltP at h2 h3
  cases a; cases b
  simp only [Pt.mk.injEq]
  simp only at h2 h3
  omega
theorem gp_ext {a b : List Pt} (hl : a.length = b.length) (h : ∀ j, j < a.length → gp a j = gp b j) : a = b := by
  refine List.ext_getElem hl fun j h1 h2 => ?_
  have := h j h1
  rw [gp_lt h1, gp_lt h2] at this
  exact this
theorem rot_can {q : List Pt} (hd : q.Nodup) {k : Nat} (hk : k < q.length) : rotP (rotP q k) (minIx (rotP q k)) = rotP q (minIx q) := by
  have hm : minIx (rotP q k) < q.length := by have := minTo_lt (q := rotP q k) (by rw [rotP_len]; omega) (rotP q k).length (Nat.le_refl _); rw [rotP_len] at this; unfold minIx; rw [rotP_len]; exact this
  have hM : (k + minIx (rotP q k)) % q.length = minIx q := by
    refine min_only hd (Nat.mod_lt _ (by omega)) fun j hj => ?_
    rw [← rotP_at hk hm]
    obtain ⟨i, hi, e⟩ := gp_of_mem (rotP_mem (k := k).2 (gp_mem hj))
    rw [← e]
    exact minTo_le _ i hi
  refine gp_ext (by rw [rotP_len, rotP_len, rotP_len]) fun j hj => ?_
  rw [rotP_len, rotP_len] at hj
  rw [rotP_at (by rw [rotP_len]; exact hm) (by rw [rotP_len]; exact hj), rotP_len, rotP_at hk (Nat.mod_lt _ (by omega)), rotP_at (by rw [← hM]; exact Nat.mod_lt _ (by omega)) hj, ← hM, Nat.mod_add_mod, Nat.add_mod_mod, Nat.add_assoc]
theorem rev_rot {ps : List Pt} {k : Nat} (hk : k ≤ ps.length) : (rotP ps k).reverse = rotP ps.reverse (ps.length - k) := by
  unfold rotP
  rw [List.reverse_append, List.drop_reverse, List.take_reverse, show ps.length - (ps.length - k) = k by omega]
/-! areas -/
theorem sumN_flip : ∀ (n : Nat) (f : Nat → Int), sumN (fun i => f (n - 1 - i)) n = sumN f n
  | 0, f => rfl
  | n + 1, f => by
    have h1 := sumN_split f 1 n
    have h2 := sumN_flip n (fun x => f (1 + x))
    rw [Nat.add_comm 1 n] at h1
    rw [h1]
    show sumN (fun i => f (n + 1 - 1 - i)) n + f (n + 1 - 1 - n) = sumN f 1 + _
    rw [← h2]
    have h3 : sumN (fun i => f (n + 1 - 1 - i)) n = sumN (fun i => f (1 + (n - 1 - i))) n := sumN_congr fun i hi => by rw [show n + 1 - 1 - i = 1 + (n - 1 - i) by omega]
    rw [h3, show n + 1 - 1 - n = 0 by omega]
    have h4 : sumN f 1 = f 0 := by simp [sumN]
    omega
theorem edge_rot (F : Pt → Pt → Int) {ps : List Pt} {k : Nat} (hk : k < ps.length) : edgeSum F (rotP ps k) = edgeSum F ps := by
  unfold edgeSum
  rw [rotP_len]
  have h := sumN_shift (fun m => F (gp ps m) (gp ps ((m + 1) % ps.length))) hk
  rw [← h]
  exact sumN_congr fun j hj => by rw [rotP_at hk hj, rotP_at hk (Nat.mod_lt _ (by omega)), rot_ix]
theorem edge_rev (F : Pt → Pt → Int) (hF : ∀ a b, F b a = -F a b) (ps : List Pt) : edgeSum F ps.reverse = -edgeSum F ps := by
  unfold edgeSum
  rw [List.length_reverse]
  by_cases h0 : ps.length = 0
  · rw [h0]; simp [sumN]
  have h1 : sumN (fun j => F (gp ps.reverse j) (gp ps.reverse ((j + 1) % ps.length))) ps.length = sumN (fun j => -F (gp ps (ps.length - 1 - (j + 1) % ps.length)) (gp ps ((ps.length - 1 - (j + 1) % ps.length + 1) % ps.length))) ps.length := sumN_congr fun j hj => by
    rw [rev_at hj, rev_at (Nat.mod_lt _ (by omega)), rev_ix hj, hF]
  have h2 := sumN_flip ps.length (fun m => -F (gp ps m) (gp ps ((m + 1) % ps.length)))
  have h3 : sumN (fun j => -F (gp ps (ps.length - 1 - (j + 1) % ps.length)) (gp ps ((ps.length - 1 - (j + 1) % ps.length + 1) % ps.length))) ps.length = sumN (fun i => -F (gp ps (ps.length - 1 - i)) (gp ps ((ps.length - 1 - i + 1) % ps.length))) ps.length := by
    by_cases h1' : ps.length = 1
    · rw [h1']; simp [sumN]
    · have := sumN_shift (fun i => -F (gp ps (ps.length - 1 - i)) (gp ps ((ps.length - 1 - i + 1) % ps.length))) (n := ps.length) (i := 1) (by omega)
      rw [← this]
      exact sumN_congr fun j hj => by rw [Nat.add_comm 1 j]
  rw [h1, h3, h2]
  have : ∀ (f : Nat → Int) n, sumN (fun m => -f m) n = -sumN f n := fun f n => by
    have := sumN_sub (fun _ => 0) f n
    simp only [Int.zero_sub] at this
    rw [this, show sumN (fun _ => (0 : Int)) n = 0 from sumN_zero fun _ _ => rfl]
    omega
  exact this _ _
theorem area_rot {ps : List Pt} {k : Nat} (hk : k < ps.length) : areaL (rotP ps k) = areaL ps := by rw [area_sum, area_sum, edge_rot crP hk]
theorem area_rev (ps : List Pt) : areaL ps.reverse = -areaL ps := by rw [area_sum, area_sum, edge_rev crP crP_swap]
theorem can_rot {ps : List Pt} (hd : ps.Nodup) {k : Nat} (hk : k < ps.length) : canL (rotP ps k) = canL ps := by
  unfold canL
  rw [area_rot hk]
  by_cases h : areaL ps < 0
  · simp only [if_pos h]
    rw [rev_rot (Nat.le_of_lt hk)]
    by_cases h0 : k = 0
    · subst h0
      have e : rotP ps.reverse (ps.length - 0) = ps.reverse := by
        unfold rotP
        rw [Nat.sub_zero, List.drop_of_length_le (by rw [List.length_reverse]; omega), List.take_of_length_le (by rw [List.length_reverse]; omega)]; rfl
      rw [e]
    · exact rot_can (List.pairwise_reverse.2 (hd.imp fun h => h.symm)) (by rw [List.length_reverse]; omega)
  · simp only [if_neg h]
    exact rot_can hd hk
theorem can_rev {ps : List Pt} (h : areaL ps ≠ 0) : canL ps.reverse = canL ps := by
  unfold canL
  rw [area_rev]
  by_cases ha : areaL ps < 0
  · rw [if_neg (by omega), if_pos ha]
  · rw [if_pos (by omega), if_neg ha, List.reverse_reverse]
theorem can_len (ps : List Pt) : (canL ps).length = ps.length := by
  unfold canL
  rw [rotP_len]
  split
  · exact List.length_reverse ..
  · rfl
theorem can_mem {ps : List Pt} {q : Pt} : q ∈ canL ps ↔ q ∈ ps := by
  unfold canL
  rw [rotP_mem]
  split
  · exact List.mem_reverse
  · rfl
theorem listOk_mem {ps qs : List Pt} (h : listOk ps = true) (hl : qs.length = ps.length) (hm : ∀ q, q ∈ qs → q ∈ ps) : listOk qs = true := by
  unfold listOk allOk at *
  simp only [Bool.and_eq_true, decide_eq_true_eq, List.all_eq_true] at *
  exact ⟨by omega, fun q hq => h.2 q (hm q hq)⟩
theorem simB_listOk {ps : List Pt} (h : simB ps = true) : listOk ps = true := by
  unfold simB at h
  rw [Bool.and_eq_true] at h
  exact (ring_parts h.1).1
theorem rot_sim {ps : List Pt} (h : simB ps = true) {k : Nat} (hk : k < ps.length) : simB (rotP ps k) = true := simB_rot h hk (listOk_mem (simB_listOk h) (rotP_len ps k) fun q hq => rotP_mem.1 hq)
theorem rev_sim {ps : List Pt} (h : simB ps = true) : simB ps.reverse = true := simB_rev h (listOk_mem (simB_listOk h) (List.length_reverse ..) fun q hq => List.mem_reverse.1 hq)
theorem can_sim {ps : List Pt} (h : simB ps = true) : simB (canL ps) = true ∧ 0 < areaL (canL ps) ∧ ∀ q ∈ canL ps, q = gp (canL ps) 0 ∨ ltP (gp (canL ps) 0) q := by
  have S := sim_of h
  have h3 := S.three
  have key : ∀ qs : List Pt, simB qs = true → 0 < areaL qs → simB (rotP qs (minIx qs)) = true ∧ 0 < areaL (rotP qs (minIx qs)) ∧ ∀ q ∈ rotP qs (minIx qs), q = gp (rotP qs (minIx qs)) 0 ∨ ltP (gp (rotP qs (minIx qs)) 0) q := fun qs hq ha => by
    have q3 := (sim_of hq).three
    have hm : minIx qs < qs.length := minTo_lt (q := qs) (by omega) qs.length (Nat.le_refl _)
    refine ⟨rot_sim hq hm, by rw [area_rot hm]; exact ha, fun q hq => ?_⟩
    rw [rotP_at hm (by omega), Nat.add_zero, Nat.mod_eq_of_lt hm]
    obtain ⟨j, hj, e⟩ := gp_of_mem (rotP_mem.1 hq)
    have := minTo_le (q := qs) qs.length j hj
    rw [e] at this
    unfold minIx
    generalize gp qs (minTo qs qs.length) = b at *
    by_cases e2 : q = b
    · exact .inl e2
    · right
      have := pt_ne e2
      unfold ltP at *
      omega
  unfold canL
  rcases area_sgn h with ⟨_, ha⟩ | ⟨_, ha⟩
  · rw [if_neg (by omega)]
    exact key ps h ha
  · rw [if_pos ha]
    exact key _ (rev_sim h) (by rw [area_rev]; omega)
/-! ### IsConvex -/
theorem arc_rot {ps : List Pt} {k : Nat} (hk : k < ps.length) : arc ps k (ps.length - 1) = rotP ps k := by
  refine gp_ext (by rw [arc_len, rotP_len]; omega) fun j hj => ?_
  rw [arc_len] at hj
  rw [arc_at ps (by omega), rotP_at hk (by omega)]
theorem conv_CI {ps : List Pt} (h : ConvP ps) : CI ps := fun a b c h1 h2 h3 => by
  refine h _ _ _ ?_
  have e : [gp ps a, gp ps b, gp ps c] = [⟨a, by omega⟩, ⟨b, by omega⟩, ⟨c, h3⟩].map (fun i : Fin ps.length => ps[i]) := by
    simp only [List.map_cons, List.map_nil]
    rw [gp_lt (show a < ps.length by omega), gp_lt (show b < ps.length by omega), gp_lt h3]; rfl
  rw [e]
  refine List.map_getElem_sublist ?_
  simp only [List.pairwise_cons, List.mem_cons, List.not_mem_nil, or_false, forall_eq_or_imp, forall_eq, false_imp_iff, implies_true, List.Pairwise.nil, and_true]
  exact ⟨⟨h1, Nat.lt_trans h1 h2⟩, h2⟩
theorem CI_rot {ps : List Pt} {k : Nat} (hk : k < ps.length) (h : CI ps) : CI (rotP ps k) := by
  by_cases h0 : k = 0
  · subst h0
    have : rotP ps 0 = ps := by unfold rotP; simp
    rw [this]; exact h
  · have l : (rotP ps k).length = ps.length := rotP_len ps k
    refine CI_turn (s := ps.length - k) (by omega) ?_
    rw [arc_rot (by omega)]
    have : rotP (rotP ps k) (ps.length - k) = ps := by
      refine gp_ext (by rw [rotP_len, rotP_len]) fun j hj => ?_
      rw [rotP_len, rotP_len] at hj
      rw [rotP_at (by omega) (by omega), l, rotP_at hk (Nat.mod_lt _ (by omega)), Nat.add_mod_mod, show k + (ps.length - k + j) = j + ps.length by omega, Nat.add_mod_right, Nat.mod_eq_of_lt hj]
    rw [this]; exact h
theorem conv_can {ps : List Pt} (h : simB ps = true) : convB ps = (decide (0 < areaL ps) && decide (canL ps = hullOf ps)) := by
  have S := sim_of h
  have h3 := S.three
  obtain ⟨c1, c2, c3⟩ := can_sim h
  have hm : minIx ps < ps.length := minTo_lt (q := ps) (by omega) ps.length (Nat.le_refl _)
  rw [Bool.eq_iff_iff, Bool.and_eq_true, decide_eq_true_eq, decide_eq_true_eq]
  have hh : hullOf (canL ps) = hullOf ps := hull_set fun q => can_mem
  constructor
  · intro hc
    have hl := hc
    unfold convB leftB at hl
    simp only [Bool.and_eq_true, List.all_eq_true, List.mem_range, decide_eq_true_eq] at hl
    have L1 := conv_Lft S hl.2
    have ha : 0 < areaL ps := by rcases area_sgn h with ⟨_, ha⟩ | ⟨h0, _⟩ <;> omega
    refine ⟨ha, ?_⟩
    rw [← hh]
    refine (hull_of_conv ?_ (sim_of c1).nodup (sim_of c1).three c3).symm
    unfold canL
    rw [if_neg (by omega)]
    exact CI_conv (CI_rot hm (conv_CI (convB_conv hc)))
  · rintro ⟨ha, hc⟩
    have hC : ConvP (canL ps) := by rw [hc]; exact hull_conv ps
    have hr : canL ps = rotP ps (minIx ps) := by unfold canL; rw [if_neg (by omega)]
    have C : CI ps := CI_turn (s := minIx ps) hm (by rw [arc_rot hm, ← hr]; exact conv_CI hC)
    exact conv_conv (simB_listOk h) (CI_conv C) S.nodup h3
end Go.Proofs.Ytcebmcbglhkkfaa
