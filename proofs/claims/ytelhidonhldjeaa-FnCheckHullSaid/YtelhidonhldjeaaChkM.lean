
/- Plain: a vertex of a hull is in no triangle of other points; what is checked to be a hull is the hull. -/
import Derived.Test.YtelhidonhldjeaaHullK
import Derived.Test.YtelhidonhldjeaaRelM
import Derived.Test.YtelhidonhldjeaaCanM
set_option linter.unusedVariables false
set_option linter.unusedSimpArgs false
namespace Go.Proofs.Ytelhidonhldjeaa
open Go.RowKit

theorem lt_tri (a b : Pt) : ltP a b ∨ a = b ∨ ltP b a := by
  by_cases h : a = b
  · exact .inr (.inl h)
  · have : a.x ≠ b.x ∨ a.y ≠ b.y := by
      by_cases hx : a.x = b.x
      · exact .inr fun hy => h (by cases a; cases b; simp_all)
      · exact .inl hx
    unfold ltP; omega
/-- Weights of a point in a triangle. -/
theorem tri_x (u v w q : Pt) : trn u v w * (q.x - u.x) = trn w u q * (v.x - u.x) + trn u v q * (w.x - u.x) := by unfold trn; grind
theorem tri_y (u v w q : Pt) : trn u v w * (q.y - u.y) = trn w u q * (v.y - u.y) + trn u v q * (w.y - u.y) := by unfold trn; grind
theorem tri_w (u v w q : Pt) : trn u v q + trn v w q + trn w u q = trn u v w := by unfold trn; grind
theorem tri_qx (u v w q : Pt) : trn v w q * (u.x - q.x) + trn w u q * (v.x - q.x) + trn u v q * (w.x - q.x) = 0 := by unfold trn; grind
theorem tri_qy (u v w q : Pt) : trn v w q * (u.y - q.y) + trn w u q * (v.y - q.y) + trn u v q * (w.y - q.y) = 0 := by unfold trn; grind
theorem mul_np {k x : Int} (hk : 0 ≤ k) (hx : x ≤ 0) : k * x ≤ 0 := by
  have := Int.mul_nonneg hk (show 0 ≤ -x by omega)
  rw [Int.mul_neg] at this; omega
theorem mul_z {k x : Int} (h : k * x = 0) (hk : 0 < k) : x = 0 := by
  rcases Int.mul_eq_zero.1 h with h | h
  · omega
  · exact h
/-- The least corner of a triangle comes before all its points. -/
theorem tri_min {u v w q : Pt} (ht : 0 < trn u v w) (h1 : 0 ≤ trn u v q) (h3 : 0 ≤ trn w u q) (huv : ltP u v) (huw : ltP u w) (hq : q ≠ u) : ltP u q := by
  have ex := tri_x u v w q
  have ey := tri_y u v w q
  have n1 := Int.mul_nonneg h3 (show 0 ≤ v.x - u.x by unfold ltP at huv; omega)
  have n2 := Int.mul_nonneg h1 (show 0 ≤ w.x - u.x by unfold ltP at huw; omega)
  have hx : 0 ≤ q.x - u.x := by
    refine Classical.byContradiction fun hn => ?_
    have := Int.mul_neg_of_pos_of_neg ht (show q.x - u.x < 0 by omega)
    omega
  by_cases h0 : q.x - u.x = 0
  · rw [h0, Int.mul_zero] at ex
    have z1 : trn w u q * (v.x - u.x) = 0 := by omega
    have z2 : trn u v q * (w.x - u.x) = 0 := by omega
    have y1 : 0 ≤ trn w u q * (v.y - u.y) := by
      rcases Int.mul_eq_zero.1 z1 with z | z
      · rw [z, Int.zero_mul]; exact Int.le_refl _
      · exact Int.mul_nonneg h3 (by unfold ltP at huv; omega)
    have y2 : 0 ≤ trn u v q * (w.y - u.y) := by
      rcases Int.mul_eq_zero.1 z2 with z | z
      · rw [z, Int.zero_mul]; exact Int.le_refl _
      · exact Int.mul_nonneg h1 (by unfold ltP at huw; omega)
    have hy : 0 ≤ q.y - u.y := by
      refine Classical.byContradiction fun hn => ?_
      have := Int.mul_neg_of_pos_of_neg ht (show q.y - u.y < 0 by omega)
      omega
    by_cases hy0 : q.y - u.y = 0
    · exact absurd (pt_eq (show q.x = u.x by omega) (show q.y = u.y by omega)) hq
    · unfold ltP; omega
  · unfold ltP; omega
/-- No point of a triangle comes behind all its corners. -/
theorem tri_max {u v w q : Pt} (ht : 0 < trn u v w) (h1 : 0 ≤ trn u v q) (h2 : 0 ≤ trn v w q) (h3 : 0 ≤ trn w u q) (a : ltP u q) (b : ltP v q) (c : ltP w q) : False := by
  have e := tri_w u v w q
  have ex := tri_qx u v w q
  have ey := tri_qy u v w q
  have n1 := mul_np h2 (show u.x - q.x ≤ 0 by unfold ltP at a; omega)
  have n2 := mul_np h3 (show v.x - q.x ≤ 0 by unfold ltP at b; omega)
  have n3 := mul_np h1 (show w.x - q.x ≤ 0 by unfold ltP at c; omega)
  have key : ∀ {k : Int} {p : Pt}, 0 ≤ k → ltP p q → k * (p.x - q.x) = 0 → k * (p.y - q.y) ≤ 0 ∧ (0 < k → k * (p.y - q.y) < 0) := fun {k p} hk hp hz => by
    rcases Int.mul_eq_zero.1 hz with z | z
    · rw [z, Int.zero_mul]; exact ⟨Int.le_refl _, fun h => by omega⟩
    · have : p.y - q.y < 0 := by unfold ltP at hp; omega
      exact ⟨mul_np hk (by omega), fun h => Int.mul_neg_of_pos_of_neg h this⟩
  have k1 := key h2 a (by omega)
  have k2 := key h3 b (by omega)
  have k3 := key h1 c (by omega)
  have : 0 < trn v w q ∨ 0 < trn w u q ∨ 0 < trn u v q := by omega
  rcases this with h | h | h
  · have := k1.2 h; omega
  · have := k2.2 h; omega
  · have := k3.2 h; omega
def Over (P : Pt → Prop) (q : Pt) : Prop := ∃ s t, P s ∧ P t ∧ ltP s q ∧ ltP q t ∧ trn s q t ≤ 0
def Under (P : Pt → Prop) (q : Pt) : Prop := ∃ s t, P s ∧ P t ∧ ltP s q ∧ ltP q t ∧ 0 ≤ trn s q t
theorem tri_first {P : Pt → Prop} {u v w q : Pt} (pu : P u) (pv : P v) (pw : P w) (ht : 0 < trn u v w) (h1 : 0 ≤ trn u v q) (h2 : 0 ≤ trn v w q) (h3 : 0 ≤ trn w u q) (huv : ltP u v) (huw : ltP u w) (qu : q ≠ u) (qv : q ≠ v) (qw : q ≠ w) : Over P q ∧ Under P q := by
  have hu := tri_min ht h1 h3 huv huw qu
  have e1 : trn u q v = -trn u v q := by unfold trn; grind
  have e2 : trn v q w = -trn v w q := by unfold trn; grind
  have e3 : trn u q w = trn w u q := by unfold trn; grind
  have e4 : trn w q v = trn v w q := by unfold trn; grind
  constructor
  · rcases lt_tri q v with h | h | h
    · exact ⟨u, v, pu, pv, hu, h, by omega⟩
    · exact absurd h qv
    · rcases lt_tri q w with k | k | k
      · exact ⟨v, w, pv, pw, h, k, by omega⟩
      · exact absurd k qw
      · exact (tri_max ht h1 h2 h3 hu h k).elim
  · rcases lt_tri q w with h | h | h
    · exact ⟨u, w, pu, pw, hu, h, by omega⟩
    · exact absurd h qw
    · rcases lt_tri q v with k | k | k
      · exact ⟨w, v, pw, pv, h, k, by omega⟩
      · exact absurd k qv
      · exact (tri_max ht h1 h2 h3 hu k h).elim
theorem tri_ne {u v w : Pt} (ht : 0 < trn u v w) : u ≠ v ∧ v ≠ w ∧ w ≠ u := by
  refine ⟨?_, ?_, ?_⟩ <;> rintro rfl <;> (unfold trn at ht) <;> first | (simp at ht; done) | (have : ∀ a b c d : Int, (a - a) * b - (c - c) * d = 0 := fun a b c d => by simp; simp at ht; omega) | (exfalso; revert ht; simp; grind) | (exfalso; revert ht; grind)
theorem tri_both {P : Pt → Prop} {u v w q : Pt} (pu : P u) (pv : P v) (pw : P w) (ht : 0 < trn u v w) (h1 : 0 ≤ trn u v q) (h2 : 0 ≤ trn v w q) (h3 : 0 ≤ trn w u q) (qu : q ≠ u) (qv : q ≠ v) (qw : q ≠ w) : Over P q ∧ Under P q := by
  obtain ⟨n1, n2, n3⟩ := tri_ne ht
  have r1 : trn v w u = trn u v w := trn_r1 u v w
  have r2 : trn w u v = trn u v w := trn_r2 u v w
  rcases lt_tri u v with a | a | a
  · rcases lt_tri u w with b | b | b
    · exact tri_first pu pv pw ht h1 h2 h3 a b qu qv qw
    · exact absurd b.symm n3
    · have : ltP w v := by unfold ltP at *; omega
      exact tri_first pw pu pv (by omega) h3 h1 h2 b this qw qu qv
  · exact absurd a n1
  · rcases lt_tri v w with b | b | b
    · exact tri_first pv pw pu (by omega) h2 h3 h1 b a qv qw qu
    · exact absurd b n2
    · have : ltP w u := by unfold ltP at *; omega
      exact tri_first pw pu pv (by omega) h3 h1 h2 this b qw qu qv
theorem seg_both {P : Pt → Prop} {a b q : Pt} (pa : P a) (pb : P b) (h : onSeg a b q = true) (qa : q ≠ a) (qb : q ≠ b) : Over P q ∧ Under P q := by
  have h0 := onS_iff h
  have e : trn a q b = -trn a b q := by unfold trn; grind
  have e' : trn b q a = trn a b q := by unfold trn; grind
  unfold onSeg at h
  simp only [Bool.and_eq_true, decide_eq_true_eq] at h
  obtain ⟨_, hd⟩ := h
  have nn : ∀ {x y : Int}, 0 ≤ x → 0 ≤ y → 0 ≤ x * y := fun hx hy => Int.mul_nonneg hx hy
  -- both before q or both behind q is impossible
  have key : ∀ {s t : Pt}, trn s t q = 0 → (s.x - q.x) * (t.x - q.x) + (s.y - q.y) * (t.y - q.y) ≤ 0 → ltP s q → ltP t q → False := fun {s t} hz hd hs ht => by
    unfold ltP at hs ht
    by_cases c1 : s.x < q.x
    · by_cases c2 : t.x < q.x
      · have p1 := Int.mul_pos (show 0 < q.x - s.x by omega) (show 0 < q.x - t.x by omega)
        have e1 : (q.x - s.x) * (q.x - t.x) = (s.x - q.x) * (t.x - q.x) := by grind
        -- the cross product: slopes agree
        have hz' : (t.x - q.x) * (s.y - q.y) = (t.y - q.y) * (s.x - q.x) := by unfold trn at hz; grind
        have e2 : (s.x - q.x) * (t.x - q.x) * ((s.y - q.y) * (t.y - q.y)) = ((t.x - q.x) * (s.y - q.y)) * ((s.x - q.x) * (t.y - q.y)) := by grind
        have e3 : (s.x - q.x) * (t.x - q.x) * ((s.y - q.y) * (t.y - q.y)) = ((t.y - q.y) * (s.x - q.x)) * ((t.y - q.y) * (s.x - q.x)) := by rw [e2, hz']; grind
        have sq : 0 ≤ ((t.y - q.y) * (s.x - q.x)) * ((t.y - q.y) * (s.x - q.x)) := sq_nonneg' _
        have : 0 ≤ (s.y - q.y) * (t.y - q.y) := by
          refine Classical.byContradiction fun hn => ?_
          have := Int.mul_neg_of_pos_of_neg (show 0 < (s.x - q.x) * (t.x - q.x) by omega) (show (s.y - q.y) * (t.y - q.y) < 0 by omega)
          omega
        omega
      · have t1 : t.x - q.x = 0 := by omega
        have t2 : t.y - q.y < 0 := by omega
        have hz' : (t.x - q.x) * (s.y - q.y) = (t.y - q.y) * (s.x - q.x) := by unfold trn at hz; grind
        rw [t1, Int.zero_mul] at hz'
        rcases Int.mul_eq_zero.1 hz'.symm with z | z <;> omega
    · have s1 : s.x - q.x = 0 := by omega
      have s2 : s.y - q.y < 0 := by omega
      by_cases c2 : t.x < q.x
      · have hz' : (t.x - q.x) * (s.y - q.y) = (t.y - q.y) * (s.x - q.x) := by unfold trn at hz; grind
        rw [s1, Int.mul_zero] at hz'
        rcases Int.mul_eq_zero.1 hz' with z | z <;> omega
      · have t1 : t.x - q.x = 0 := by omega
        have t2 : t.y - q.y < 0 := by omega
        have := Int.mul_pos (show 0 < -(s.y - q.y) by omega) (show 0 < -(t.y - q.y) by omega)
        rw [Int.neg_mul_neg] at this
        rw [s1, Int.zero_mul] at hd
        omega
  have neg : ∀ p : Pt, ltP q p → ltP ⟨2 * q.x - p.x, 2 * q.y - p.y⟩ q := fun p hp => by unfold ltP at *; simp only; omega
  rcases lt_tri a q with x | x | x
  · rcases lt_tri b q with y | y | y
    · exact (key h0 hd x y).elim
    · exact absurd y.symm qb
    · exact ⟨⟨a, b, pa, pb, x, y, by omega⟩, ⟨a, b, pa, pb, x, y, by omega⟩⟩
  · exact absurd x.symm qa
  · rcases lt_tri b q with y | y | y
    · exact ⟨⟨b, a, pb, pa, y, x, by omega⟩, ⟨b, a, pb, pa, y, x, by omega⟩⟩
    · exact absurd y.symm qb
    · refine (key (s := ⟨2 * q.x - a.x, 2 * q.y - a.y⟩) (t := ⟨2 * q.x - b.x, 2 * q.y - b.y⟩) ?_ ?_ (neg a x) (neg b y)).elim
      · have : trn (⟨2 * q.x - a.x, 2 * q.y - a.y⟩ : Pt) ⟨2 * q.x - b.x, 2 * q.y - b.y⟩ q = trn a b q := by unfold trn; grind
        rw [this]; exact h0
      · have : (2 * q.x - a.x - q.x) * (2 * q.x - b.x - q.x) + (2 * q.y - a.y - q.y) * (2 * q.y - b.y - q.y) = (a.x - q.x) * (b.x - q.x) + (a.y - q.y) * (b.y - q.y) := by grind
        show (2 * q.x - a.x - q.x) * (2 * q.x - b.x - q.x) + (2 * q.y - a.y - q.y) * (2 * q.y - b.y - q.y) ≤ 0
        rw [this]; exact hd
/-- A vertex of the hull is in no triangle of three other points. -/
theorem hull_corner {l : List Pt} {q a b c : Pt} (hq : q ∈ hullOf l) (ha : a ∈ l) (hb : b ∈ l) (hc : c ∈ l) (ht : triB a b c q = true) : q = a ∨ q = b ∨ q = c := by
  refine Classical.byContradiction fun hn => ?_
  have qa : q ≠ a := fun e => hn (.inl e)
  have qb : q ≠ b := fun e => hn (.inr (.inl e))
  have qc : q ≠ c := fun e => hn (.inr (.inr e))
  have both : Over (· ∈ l) q ∧ Under (· ∈ l) q := by
    rcases Int.lt_trichotomy (trn a b c) 0 with h | h | h
    · have s1 : trn a c b = -trn a b c := by unfold trn; grind
      have s2 : trn a c q = -trn c a q := by unfold trn; grind
      have s3 : trn c b q = -trn b c q := by unfold trn; grind
      have s4 : trn b a q = -trn a b q := by unfold trn; grind
      unfold triB at ht
      rw [sgn_neg h, if_neg (by omega)] at ht
      simp only [Bool.and_eq_true, decide_eq_true_eq] at ht
      have np : ∀ {x : Int}, 0 ≤ sgn x * -1 → x ≤ 0 := fun {x} hx => by unfold sgn at hx; split at hx <;> (try split at hx) <;> omega
      exact tri_both ha hc hb (by omega) (by have := np ht.2; omega) (by have := np ht.1.2; omega) (by have := np ht.1.1; omega) qa qc qb
    · unfold triB at ht
      rw [if_pos (sgn_zero h)] at ht
      simp only [Bool.or_eq_true, Bool.and_eq_true, decide_eq_true_eq] at ht
      rcases ht with ((e | e) | e) | e
      · exact absurd e.symm qa
      · exact seg_both ha hb e.2 qa qb
      · exact seg_both hb hc e.2 qb qc
      · exact seg_both ha hc e.2 qa qc
    · unfold triB at ht
      rw [sgn_pos h, if_neg (by omega)] at ht
      simp only [Bool.and_eq_true, decide_eq_true_eq] at ht
      have np : ∀ {x : Int}, 0 ≤ sgn x * 1 → 0 ≤ x := fun {x} hx => by unfold sgn at hx; split at hx <;> (try split at hx) <;> omega
      exact tri_both ha hb hc h (np ht.1.1) (np ht.1.2) (np ht.2) qa qb qc
  rcases hullOf_mem.1 hq with h | h
  · obtain ⟨s, t, hs, htt, h1, h2, h3⟩ := both.1
    have := (lowL_mem.1 h).2 s hs t htt h1 h2
    omega
  · obtain ⟨s, t, hs, htt, h1, h2, h3⟩ := both.2
    have := (upL_mem.1 h).2 t htt s hs h2 h1
    have e : trn t q s = -trn s q t := by unfold trn; grind
    omega
end Go.Proofs.Ytelhidonhldjeaa
