
/- Triangles that have a point, in plain words: a hull has the origin iff one of its vertices' triangles has. No program in sight. -/
import Derived.Test.YtelhidonhldjeaaHullK
set_option linter.unusedVariables false
set_option linter.unusedSimpArgs false
namespace Go.Proofs.Ytelhidonhldjeaa
open Go.RowKit

def triB (a b c q : Pt) : Bool :=
  if sgn (trn a b c) = 0 then decide (a = q) || (decide (a ≠ b) && onSeg a b q) || (decide (b ≠ c) && onSeg b c q) || (decide (a ≠ c) && onSeg a c q)
  else decide (0 ≤ sgn (trn a b q) * sgn (trn a b c)) && decide (0 ≤ sgn (trn b c q) * sgn (trn a b c)) && decide (0 ≤ sgn (trn c a q) * sgn (trn a b c))
theorem sgn_ge {u : Int} (h : 0 ≤ sgn u) : 0 ≤ u := by unfold sgn at h; split at h <;> omega
theorem sgn_le {u : Int} (h : sgn u ≤ 0) : u ≤ 0 := by
  unfold sgn at h
  split at h
  · omega
  · split at h <;> omega
theorem tri_has {a b c : Pt} (h : triB a b c origin = true) (x y : Int) : 0 ≤ dotP a x y ∨ 0 ≤ dotP b x y ∨ 0 ≤ dotP c x y := by
  unfold triB at h
  split at h
  · simp only [Bool.or_eq_true, Bool.and_eq_true, decide_eq_true_eq] at h
    rcases h with ((h | h) | h) | h
    · subst h; exact .inl (by rw [dotP_origin]; exact Int.le_refl 0)
    · rcases seg_has h.2 x y with h | h
      · exact .inl h
      · exact .inr (.inl h)
    · rcases seg_has h.2 x y with h | h
      · exact .inr (.inl h)
      · exact .inr (.inr h)
    · rcases seg_has h.2 x y with h | h
      · exact .inl h
      · exact .inr (.inr h)
  · rename_i h0
    simp only [Bool.and_eq_true, decide_eq_true_eq] at h
    obtain ⟨⟨h1, h2⟩, h3⟩ := h
    have hd := dotP_origin x y
    rcases Int.lt_trichotomy (trn a b c) 0 with ht | ht | ht
    · rw [sgn_neg ht] at h1 h2 h3
      have g1 := sgn_le (u := trn a b origin) (by omega)
      have g2 := sgn_le (u := trn b c origin) (by omega)
      have g3 := sgn_le (u := trn c a origin) (by omega)
      have e0 := trn_swap a b c
      rcases tri_far (a := b) (b := a) (c := c) (q := origin) (by rw [trn_swap]; omega) (by rw [trn_swap]; omega) (by rw [trn_swap]; omega) (by omega) x y with h | h | h <;> omega
    · exact absurd (sgn_zero ht) h0
    · rw [sgn_pos ht] at h1 h2 h3
      have g1 := sgn_ge (u := trn a b origin) (by omega)
      have g2 := sgn_ge (u := trn b c origin) (by omega)
      have g3 := sgn_ge (u := trn c a origin) (by omega)
      rcases tri_far g1 g2 g3 ht x y with h | h | h <;> omega
def WitB (h : List Pt) (q : Pt) : Prop := ∃ i k n, i ≤ k ∧ k ≤ n ∧ n < h.length ∧ triB (gp h i) (gp h k) (gp h n) q = true
theorem gp_succ (a : Pt) (r : List Pt) (i : Nat) : gp (a :: r) (i + 1) = gp r i := by simp [gp]
theorem sub1_idx : ∀ {h : List Pt} {x : Pt}, [x].Sublist h → ∃ i, i < h.length ∧ gp h i = x := fun hs => gp_of_mem (hs.subset (by simp))
theorem sub2_idx : ∀ {h : List Pt} {x y : Pt}, [x, y].Sublist h → ∃ i k, i < k ∧ k < h.length ∧ gp h i = x ∧ gp h k = y
  | [], _, _, hs => by cases hs
  | a :: r, x, y, hs => by
    cases hs with
    | cons _ hs =>
      obtain ⟨i, k, h1, h2, h3, h4⟩ := sub2_idx hs
      exact ⟨i + 1, k + 1, by omega, by simpa using h2, by rw [gp_succ]; exact h3, by rw [gp_succ]; exact h4⟩
    | cons_cons _ hs =>
      obtain ⟨k, h2, h4⟩ := sub1_idx hs
      exact ⟨0, k + 1, by omega, by simpa using h2, rfl, by rw [gp_succ]; exact h4⟩
theorem sub3_idx : ∀ {h : List Pt} {x y z : Pt}, [x, y, z].Sublist h → ∃ i k n, i < k ∧ k < n ∧ n < h.length ∧ gp h i = x ∧ gp h k = y ∧ gp h n = z
  | [], _, _, _, hs => by cases hs
  | a :: r, x, y, z, hs => by
    cases hs with
    | cons _ hs =>
      obtain ⟨i, k, n, h1, h2, h3, h4, h5, h6⟩ := sub3_idx hs
      exact ⟨i + 1, k + 1, n + 1, by omega, by omega, by simpa using h3, by rw [gp_succ]; exact h4, by rw [gp_succ]; exact h5, by rw [gp_succ]; exact h6⟩
    | cons_cons _ hs =>
      obtain ⟨k, n, h1, h2, h3, h4⟩ := sub2_idx hs
      exact ⟨0, k + 1, n + 1, by omega, by omega, by simpa using h2, rfl, by rw [gp_succ]; exact h3, by rw [gp_succ]; exact h4⟩
theorem wit_iff {l : List Pt} (hl : l ≠ []) : WitB (hullOf l) origin ↔ meetI (hullOf l) = true := by
  constructor
  · rintro ⟨i, k, n, h1, h2, h3, ht⟩
    rw [meet_iff hl]
    intro x y
    rcases tri_has ht x y with h | h | h
    · exact ⟨_, hullOf_sub (gp_mem (show i < (hullOf l).length by omega)), h⟩
    · exact ⟨_, hullOf_sub (gp_mem (show k < (hullOf l).length by omega)), h⟩
    · exact ⟨_, hullOf_sub (gp_mem h3), h⟩
  · intro hm
    have hc := hull_conv l
    have hd := hullOf_nodup l
    match hh : hullOf l, hm, hc, hd with
    | [], hm, _, _ => cases hm
    | [a], hm, _, _ =>
      have : a = origin := of_decide_eq_true hm
      refine ⟨0, 0, 0, Nat.le_refl _, Nat.le_refl _, by simp, ?_⟩
      show triB a a a origin = true
      unfold triB
      rw [if_pos (sgn_zero (trn_aab a a)), decide_eq_true this]; simp
    | [a, b], hm, _, hd =>
      have hab : a ≠ b := by simp at hd; exact hd
      refine ⟨0, 0, 1, Nat.le_refl _, by omega, by simp, ?_⟩
      show triB a a b origin = true
      unfold triB
      rw [if_pos (sgn_zero (trn_aab a b))]
      have hm : onSeg a b origin = true := hm
      simp [hm, hab]
    | a :: b :: c :: r, hm, hc, _ =>
      have hi : Inside (a :: b :: c :: r) origin := fun e he => of_decide_eq_true (List.all_eq_true.1 hm e he)
      obtain ⟨u, v, hs, h1, h2, h3, h4⟩ := in_fan hc hi
      obtain ⟨i, k, n, g1, g2, g3, e1, e2, e3⟩ := sub3_idx hs
      refine ⟨i, k, n, by omega, by omega, g3, ?_⟩
      rw [e1, e2, e3]
      unfold triB
      have s0 : ∀ {u : Int}, 0 ≤ u → 0 ≤ sgn u := fun {u} h => by unfold sgn; split <;> (try split) <;> omega
      rw [sgn_pos h1, if_neg (by omega)]
      simp only [Int.mul_one, decide_eq_true (s0 h2), decide_eq_true (s0 h3), decide_eq_true (s0 h4), Bool.and_self]
end Go.Proofs.Ytelhidonhldjeaa
