
/- The program's test of a convex polygon, and the place of a point in a convex polygon. -/
import Derived.Test.YtkkmioffclpmfaaGreatSimI
set_option linter.unusedVariables false
set_option linter.unusedSimpArgs false
namespace Go.Proofs.YtkkmioffclpmfaaGreat
open Go.RowKit

theorem convB_no {ps : List Pt} (h : simB ps = false) : convB ps = false := by unfold convB; rw [h]; rfl
theorem convB_at {ps : List Pt} {i : Nat} (hi : i < ps.length) (h : ¬ 0 < trn (gp ps i) (gp ps ((i + 1) % ps.length)) (gp ps ((i + 2) % ps.length))) : convB ps = false := by
  have : leftB ps = false := by
    rw [← Bool.not_eq_true]
    unfold leftB
    rw [List.all_eq_true]
    intro hh
    have := hh i (List.mem_range.2 hi)
    exact h (of_decide_eq_true this)
  unfold convB; rw [this, Bool.and_false]
theorem convB_yes {ps : List Pt} (h : simB ps = true) (h2 : ∀ i, i < ps.length → 0 < trn (gp ps i) (gp ps ((i + 1) % ps.length)) (gp ps ((i + 2) % ps.length))) : convB ps = true := by
  unfold convB leftB; rw [h, Bool.true_and, List.all_eq_true]
  exact fun i hi => decide_eq_true (h2 i (List.mem_range.1 hi))
theorem simB_parts {ps : List Pt} (h : simB ps = true) : (∀ p ∈ ps, (-100000 ≤ p.x ∧ p.x ≤ 100000) ∧ (-100000 ≤ p.y ∧ p.y ≤ 100000)) ∧ 3 ≤ ps.length ∧ ps.length ≤ 20 ∧ listOk ps = true ∧ ps.Nodup := by
  unfold simB at h
  simp only [Bool.and_eq_true] at h
  obtain ⟨h1, h2, h3⟩ := ring_parts h.1
  obtain ⟨h4, h5⟩ := listOk_InB h1
  exact ⟨h4, h2, h5, h1, h3⟩
theorem locC_1 {ps : List Pt} {q : Pt} (h : convB ps = false) : locC ps q = 2 := by unfold locC; rw [h]; rfl
theorem locC_2 {ps : List Pt} {q : Pt} (h : vP q.x q.y = false) : locC ps q = 2 := by unfold locC; rw [h]; simp
theorem locC_3 {ps : List Pt} {q : Pt} (h : convB ps = true) (h2 : vP q.x q.y = true) : locC ps q = leastTo ps q ps.length := by unfold locC; rw [h, h2]; rfl
end Go.Proofs.YtkkmioffclpmfaaGreat
