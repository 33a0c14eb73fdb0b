/- Hulls apart: each point of the one is right of an edge of the other. No program in sight. -/
import Derived.Test.YtoendanihhocjaaRelM
import Derived.Test.YtoendanihhocjaaMeetI
set_option linter.unusedVariables false
set_option linter.unusedSimpArgs false
namespace Go.Proofs.Ytoendanihhocjaa
open Go.RowKit

/-- A point of a, hulls apart: it is right of an edge of b's hull. -/
theorem apart_right {a b : List Pt} {q : Pt} (hB : bothL a b = true) (hm : meetOf a b = false) (h3 : 3 ≤ (hullOf b).length) (hq : q ∈ a) : leastTo (hullOf b) q (hullOf b).length < 0 := by
  by_cases hi : Inside (hullOf b) q
  · exfalso
    rw [meetOf_yes hB] at hm
    have hne : sumsL a (b.map negP) ≠ [] := by
      cases b with
      | nil => simp [hullOf, sortP] at h3
      | cons x r =>
        intro e
        have : addP q (negP x) ∈ sumsL a ((x :: r).map negP) := sumsL_mem.2 ⟨q, negP x, hq, by simp, rfl⟩
        rw [e] at this; cases this
    have := (meet_iff hne).2 fun x y => by
      obtain ⟨p, hp, hd⟩ := inside_far h3 hi x y
      obtain ⟨p, hp, hd⟩ := inside_far h3 hi (-x) (-y)
      refine ⟨addP q (negP p), sumsL_mem.2 ⟨q, negP p, hq, List.mem_map.2 ⟨p, hp, rfl⟩, rfl⟩, ?_⟩
      unfold dotP at hd ⊢
      unfold addP negP
      simp only at hd ⊢
      grind
    rw [this] at hm; cases hm
  · unfold Inside at hi
    have : ∃ e, e ∈ ring (hullOf b) ∧ trn e.1 e.2 q < 0 := by
      refine Classical.byContradiction fun hn => hi fun e he => ?_
      refine Classical.byContradiction fun h => hn ⟨e, he, by omega⟩
    obtain ⟨e, he, hneg⟩ := this
    rw [ring_edges] at he
    obtain ⟨i, hil, rfl⟩ := edgesL_mem.1 he
    exact least_neg hil hneg
end Go.Proofs.Ytoendanihhocjaa
