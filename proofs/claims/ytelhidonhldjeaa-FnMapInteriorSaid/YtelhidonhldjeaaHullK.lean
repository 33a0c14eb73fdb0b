/- When the hull of some points has the origin: if and only if no direction leads away from all of them. No program in sight. -/
import Derived.Test.YtelhidonhldjeaaHullC
set_option linter.unusedVariables false
set_option linter.unusedSimpArgs false
namespace Go.Proofs.Ytelhidonhldjeaa
open Go.RowKit

def origin : Pt := ⟨0, 0⟩
/-- The program's test. -/
def meetI : List Pt → Bool
  | [] => false
  | [a] => decide (a = origin)
  | [a, b] => onSeg a b origin
  | h => (ring h).all fun e => decide (0 ≤ trn e.1 e.2 origin)
def HasO (l : List Pt) : Prop := ∀ x y, ∃ p, p ∈ l ∧ 0 ≤ dotP p x y
theorem sqz {u v : Int} (h : u * u + v * v ≤ 0) : u = 0 ∧ v = 0 := by
  have nn : ∀ a : Int, 0 ≤ a * a := fun a => by
    rcases Int.le_total 0 a with h | h
    · exact Int.mul_nonneg h h
    · have := Int.mul_nonneg (a := -a) (b := -a) (by omega) (by omega); rwa [Int.neg_mul_neg] at this
  have pos : ∀ a : Int, a ≠ 0 → 0 < a * a := fun a ha => by
    rcases Int.lt_trichotomy a 0 with h1 | h1 | h1
    · have := Int.mul_pos (a := -a) (b := -a) (by omega) (by omega); rw [Int.neg_mul_neg] at this; omega
    · exact absurd h1 ha
    · exact Int.mul_pos h1 h1
  refine ⟨Decidable.byContradiction fun hu => ?_, Decidable.byContradiction fun hv => ?_⟩
  · have := pos u hu; have := nn v; omega
  · have := pos v hv; have := nn u; omega
theorem dotP_origin (x y : Int) : dotP origin x y = 0 := by unfold dotP origin; simp
/-- A hull of one or two vertices, and what it holds. -/
theorem seg_has {a b : Pt} (h : onSeg a b origin = true) (x y : Int) : 0 ≤ dotP a x y ∨ 0 ≤ dotP b x y := by
  unfold onSeg at h
  simp only [Bool.and_eq_true, decide_eq_true_eq] at h
  obtain ⟨h1, h2⟩ := h
  have e1 : a.x * b.y - a.y * b.x = 0 := by unfold trn origin at h1; simp at h1; grind
  have e2 : a.x * b.x + a.y * b.y ≤ 0 := by unfold origin at h2; simpa using h2
  refine Decidable.byContradiction fun hn => ?_
  have n1 : dotP a x y < 0 := by omega
  have n2 : dotP b x y < 0 := by omega
  have p := Int.mul_pos_of_neg_of_neg n1 n2
  -- (a·d)(b·d) + (a×d)(b×d) = (a·b)(d·d)
  have k1 : dotP a x y * dotP b x y + (a.x * y - a.y * x) * (b.x * y - b.y * x) = (a.x * b.x + a.y * b.y) * (x * x + y * y) := by unfold dotP; grind
  have k2 : dotP a x y * (b.x * y - b.y * x) = dotP b x y * (a.x * y - a.y * x) := by
    have : dotP a x y * (b.x * y - b.y * x) - dotP b x y * (a.x * y - a.y * x) = -((a.x * b.y - a.y * b.x) * (x * x + y * y)) := by unfold dotP; grind
    rw [e1] at this
    simp at this
    omega
  have nn : 0 ≤ x * x + y * y := by
    have sq : ∀ a : Int, 0 ≤ a * a := fun a => by
      rcases Int.le_total 0 a with h | h
      · exact Int.mul_nonneg h h
      · have := Int.mul_nonneg (a := -a) (b := -a) (by omega) (by omega); rwa [Int.neg_mul_neg] at this
    have := sq x; have := sq y; omega
  have k3 := Int.mul_nonpos_of_nonpos_of_nonneg e2 nn
  -- the two cross products have one sign
  have k4 : 0 ≤ (a.x * y - a.y * x) * (b.x * y - b.y * x) := by
    rcases Int.lt_trichotomy (a.x * y - a.y * x) 0 with g | g | g
    · have : 0 < dotP b x y * (a.x * y - a.y * x) := Int.mul_pos_of_neg_of_neg n2 g
      have g2 : b.x * y - b.y * x < 0 := by
        refine Decidable.byContradiction fun hh => ?_
        have := Int.mul_nonpos_of_nonpos_of_nonneg (Int.le_of_lt n1) (show 0 ≤ b.x * y - b.y * x by omega)
        omega
      exact Int.le_of_lt (Int.mul_pos_of_neg_of_neg g g2)
    · rw [g]; simp
    · have : dotP b x y * (a.x * y - a.y * x) < 0 := Int.mul_neg_of_neg_of_pos n2 g
      have g2 : 0 < b.x * y - b.y * x := by
        refine Decidable.byContradiction fun hh => ?_
        have := Int.mul_nonneg_of_nonpos_of_nonpos (Int.le_of_lt n1) (show b.x * y - b.y * x ≤ 0 by omega)
        omega
      exact Int.le_of_lt (Int.mul_pos g g2)
  omega
/-- A direction that leads away from both ends of a segment that has not the origin. -/
theorem seg_not {a b : Pt} (h : onSeg a b origin = false) : ∃ x y, dotP a x y < 0 ∧ dotP b x y < 0 := by
  unfold onSeg at h
  by_cases h1 : trn a b origin = 0
  · rw [decide_eq_true h1, Bool.true_and] at h
    have h2 := of_decide_eq_false h
    have e2 : 0 < a.x * b.x + a.y * b.y := by unfold origin at h2; simp at h2; omega
    have nn : ∀ a : Int, 0 ≤ a * a := fun a => by
      rcases Int.le_total 0 a with h | h
      · exact Int.mul_nonneg h h
      · have := Int.mul_nonneg (a := -a) (b := -a) (by omega) (by omega); rwa [Int.neg_mul_neg] at this
    refine ⟨-(a.x + b.x), -(a.y + b.y), ?_, ?_⟩
    · have : dotP a (-(a.x + b.x)) (-(a.y + b.y)) = -(a.x * a.x + a.y * a.y) - (a.x * b.x + a.y * b.y) := by unfold dotP; grind
      have := nn a.x; have := nn a.y; omega
    · have : dotP b (-(a.x + b.x)) (-(a.y + b.y)) = -(b.x * b.x + b.y * b.y) - (a.x * b.x + a.y * b.y) := by unfold dotP; grind
      have := nn b.x; have := nn b.y; omega
  · have e1 : trn a b origin = dotP a (-(a.y - b.y)) (a.x - b.x) := by unfold trn dotP origin; grind
    have e2 : dotP b (-(a.y - b.y)) (a.x - b.x) = dotP a (-(a.y - b.y)) (a.x - b.x) := by unfold dotP; grind
    have e3 : dotP a (a.y - b.y) (-(a.x - b.x)) = -dotP a (-(a.y - b.y)) (a.x - b.x) := by unfold dotP; grind
    have e4 : dotP b (a.y - b.y) (-(a.x - b.x)) = -dotP b (-(a.y - b.y)) (a.x - b.x) := by unfold dotP; grind
    by_cases hp : 0 < trn a b origin
    · exact ⟨a.y - b.y, -(a.x - b.x), by omega, by omega⟩
    · exact ⟨-(a.y - b.y), a.x - b.x, by omega, by omega⟩
theorem trn_dot (a b p : Pt) : trn a b p = dotP p (-(b.y - a.y)) (b.x - a.x) + trn a b origin := by unfold trn dotP origin; grind
theorem inside_far {l : List Pt} {q : Pt} (hlen : 3 ≤ (hullOf l).length) (hi : Inside (hullOf l) q) (x y : Int) : ∃ p, p ∈ l ∧ dotP q x y ≤ dotP p x y := by
  have hc := hull_conv l
  match hh : hullOf l, hlen with
  | a :: b :: c :: r, _ =>
    rw [hh] at hc hi
    obtain ⟨u, v, s, k0, k1, k2, k3⟩ := in_fan hc hi
    have mem : ∀ z ∈ a :: b :: c :: r, z ∈ l := fun z hz => hullOf_sub (by rw [hh]; exact hz)
    rcases tri_far k1 k2 k3 k0 x y with g | g | g
    · exact ⟨a, mem a (by simp), g⟩
    · exact ⟨u, mem u (s.subset (by simp)), g⟩
    · exact ⟨v, mem v (s.subset (by simp)), g⟩
/-- All points lie inside of the hull's edges. -/
theorem all_inside {l : List Pt} {q : Pt} (hq : q ∈ l) : Inside (hullOf l) q := by
  intro e he
  obtain ⟨v, hv, hd⟩ := hull_far hq (-(-(e.2.y - e.1.y))) (-(e.2.x - e.1.x))
  have e1 : ∀ p : Pt, dotP p (-(-(e.2.y - e.1.y))) (-(e.2.x - e.1.x)) = -dotP p (-(e.2.y - e.1.y)) (e.2.x - e.1.x) := fun p => by unfold dotP; grind
  rw [e1, e1] at hd
  have t1 := trn_dot e.1 e.2 q
  have t2 := trn_dot e.1 e.2 v
  have : 0 ≤ trn e.1 e.2 v := by
    rcases edge_left (hull_conv l) he hv with h | h | h
    · rw [h, trn_aba]; omega
    · rw [h, trn_abb]; omega
    · omega
  omega
theorem meet_iff {l : List Pt} (hl : l ≠ []) : meetI (hullOf l) = true ↔ HasO l := by
  have hc := hull_conv l
  have sub : ∀ z, z ∈ hullOf l → z ∈ l := fun z hz => hullOf_sub hz
  have far : ∀ {x y : Int} {p : Pt}, p ∈ l → ∃ v, v ∈ hullOf l ∧ dotP p x y ≤ dotP v x y := fun hp => hull_far hp _ _
  match hh : hullOf l with
  | [] =>
    exfalso
    cases l with
    | nil => exact hl rfl
    | cons p l =>
      obtain ⟨v, hv, _⟩ := far (x := 0) (y := 0) (by simp : p ∈ p :: l)
      rw [hh] at hv; cases hv
  | [a] =>
    rw [hh] at sub
    constructor
    · intro h x y
      have : a = origin := of_decide_eq_true h
      exact ⟨a, sub a (by simp), by rw [this, dotP_origin]; omega⟩
    · intro h
      refine decide_eq_true (Classical.byContradiction fun hn => ?_)
      obtain ⟨p, hp, hd⟩ := h (-a.x) (-a.y)
      obtain ⟨v, hv, hd2⟩ := far (x := -a.x) (y := -a.y) hp
      rw [hh] at hv
      have := List.mem_singleton.1 hv
      subst this
      have e : dotP v (-v.x) (-v.y) = -(v.x * v.x + v.y * v.y) := by unfold dotP; grind
      obtain ⟨z1, z2⟩ := sqz (u := v.x) (v := v.y) (by omega)
      exact hn (by cases v; simp at z1 z2; simp [origin, z1, z2])
  | [a, b] =>
    rw [hh] at sub
    constructor
    · intro h x y
      rcases seg_has h x y with g | g
      · exact ⟨a, sub a (by simp), g⟩
      · exact ⟨b, sub b (by simp), g⟩
    · intro h
      refine Classical.byContradiction fun hn => ?_
      have hn : onSeg a b origin = false := by rw [← Bool.not_eq_true]; exact hn
      obtain ⟨x, y, n1, n2⟩ := seg_not hn
      obtain ⟨p, hp, hd⟩ := h x y
      obtain ⟨v, hv, hd2⟩ := far (x := x) (y := y) hp
      rw [hh] at hv
      rcases List.mem_cons.1 hv with e | e
      · subst e; omega
      · have := List.mem_singleton.1 e; subst this; omega
  | a :: b :: c :: r =>
    have em : meetI (a :: b :: c :: r) = true ↔ Inside (hullOf l) origin := by
      rw [hh]
      show ((ring (a :: b :: c :: r)).all fun e => decide (0 ≤ trn e.1 e.2 origin)) = true ↔ _
      rw [List.all_eq_true]
      constructor
      · intro h e he; exact of_decide_eq_true (h e he)
      · intro h e he; exact decide_eq_true (h e he)
    rw [em]
    constructor
    · intro h x y
      obtain ⟨p, hp, hd⟩ := inside_far (by rw [hh]; simp) h x y
      rw [dotP_origin] at hd
      exact ⟨p, hp, hd⟩
    · intro h e he
      refine Decidable.byContradiction fun hn => ?_
      obtain ⟨p, hp, hd⟩ := h (-(-(e.2.y - e.1.y))) (-(e.2.x - e.1.x))
      have e1 : dotP p (-(-(e.2.y - e.1.y))) (-(e.2.x - e.1.x)) = -dotP p (-(e.2.y - e.1.y)) (e.2.x - e.1.x) := by unfold dotP; grind
      have := all_inside hp e he
      have := trn_dot e.1 e.2 p
      omega
end Go.Proofs.Ytelhidonhldjeaa
