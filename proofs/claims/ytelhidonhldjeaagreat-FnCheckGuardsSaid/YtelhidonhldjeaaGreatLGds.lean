
/- FnGuardsOf: the law's walk. -/
import Derived.Test.YtelhidonhldjeaaGreatGds
import Derived.Test.YtelhidonhldjeaaGreatGrd
import Derived.Test.YtelhidonhldjeaaGreatDrawA
import Derived.Test.YtelhidonhldjeaaGreatEqI
set_option linter.unusedVariables false
set_option linter.unusedSimpArgs false
namespace Go.Proofs.YtelhidonhldjeaaGreat
open Go.RowKit

theorem hasN_mem {gs : List Int} {x : Int} (h : x ∈ gs) : hasN gs x = true := by
  obtain ⟨i, hi, rfl⟩ := List.getElem_of_mem h
  unfold hasN
  exact any_range_yes hi (by rw [gi_lt hi]; exact beq_self_eq_true _)
theorem grd_all {ps : List Pt} {ts : List TI} {gs : List Int} (h : chkT ps ts = true) (hin : ∀ x ∈ gs, 0 ≤ x ∧ x ≤ (ps.length : Int) - 1) (hs : ∀ j, j < ts.length → (gt ts j).a ∈ gs ∨ (gt ts j).b ∈ gs ∨ (gt ts j).c ∈ gs) : grdB ps ts gs = true := by
  have e1 : (List.range gs.length).any (fun i => !inN ps.length (gi gs i)) = false := any_range_no fun i hi => by
    have := hin _ (show gi gs i ∈ gs by rw [gi_lt hi]; exact List.getElem_mem hi)
    unfold inN
    rw [decide_eq_true this.1, decide_eq_true this.2]; rfl
  have e2 : (List.range ts.length).any (fun j => !seenB gs (gt ts j)) = false := any_range_no fun j hj => by
    unfold seenB
    rcases hs j hj with e | e | e
    · rw [hasN_mem e]; rfl
    · rw [hasN_mem e]; simp
    · rw [hasN_mem e]; simp
  unfold grdB
  rw [h, e1, e2]; rfl
theorem grdV_ok {ps : List Pt} (h : grdV ps ≠ []) : clipB ps = true ∧ grdB ps (triI ps) (grdV ps) = true := by
  have hok : clipB ps = true := by
    rw [← Bool.not_eq_false]
    intro hh
    exact h (by unfold grdV; rw [if_neg (by rw [hh]; decide)])
  refine ⟨hok, ?_⟩
  have hT := chk_col (tri_chk hok)
  unfold grdV
  rw [if_pos hok]
  obtain ⟨k, k0, k2, e⟩ := bestG_is (colL ((triI ps).map toN) ps.length)
  rw [e]
  exact grd_all (tri_chk hok) (fun x hx => grp_in hT hx) (fun j hj => grp_sees hT ⟨k0, k2⟩ hj)
end Go.Proofs.YtelhidonhldjeaaGreat
