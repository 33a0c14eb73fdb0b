
import Derived.Test.YtcebmcbglhkkfaaRing
import Derived.Test.YtcebmcbglhkkfaaCanM
import Derived.Test.YtcebmcbglhkkfaaSorted
import Derived.Test.YtcebmcbglhkkfaaSimI
import Derived.Test.YtcebmcbglhkkfaaSimS
import Derived.Test.YtcebmcbglhkkfaaSHull
import Derived.Test.YtcebmcbglhkkfaaTri
import Derived.Test.YtcebmcbglhkkfaaSlay
import Derived.Test.YtcebmcbglhkkfaaSlayI
import Derived.Test.YtcebmcbglhkkfaaConv
import Derived.Shelf.SlicesE.Reverse
/- Plain: the program's canonical form is the reference's. -/
set_option linter.unusedVariables false
set_option linter.unusedSimpArgs false
namespace Go.Proofs.Ytcebmcbglhkkfaa
open Go.RowKit

/-- The vertices in the order of the program's indices. -/
def ctP (ps : List Pt) : List Pt := (List.range ps.length).map fun i => gp ps (rgI ps i)
theorem ctP_len (ps : List Pt) : (ctP ps).length = ps.length := by simp [ctP]
theorem ctP_at {ps : List Pt} {i : Nat} (hi : i < ps.length) : gp (ctP ps) i = gp ps (rgI ps i) := by
  rw [gp_lt (by rw [ctP_len]; exact hi)]
  simp [ctP]
theorem ctP_eq (ps : List Pt) (h0 : 0 < ps.length) : ctP ps = if areaL ps < 0 then rotP ps.reverse (ps.length - 1) else ps := by
  refine gp_ext (by split <;> simp [ctP_len, rotP_len]) fun j hj => ?_
  rw [ctP_len] at hj
  rw [ctP_at hj]
  by_cases h : areaL ps < 0
  · rw [if_pos h, rotP_at (by simp; omega) (by simp; omega), List.length_reverse, rev_at (Nat.mod_lt _ (by omega))]
    unfold rgI
    rw [if_pos h]
    congr 1
    by_cases e : j = 0
    · subst e
      rw [Nat.sub_zero, Nat.mod_self, Nat.add_zero, Nat.mod_eq_of_lt (show ps.length - 1 < ps.length by omega)]; omega
    · rw [Nat.mod_eq_of_lt (show ps.length - j < ps.length by omega), show ps.length - 1 + j = j - 1 + ps.length by omega, Nat.add_mod_right, Nat.mod_eq_of_lt (show j - 1 < ps.length by omega)]; omega
  · rw [if_neg h]
    unfold rgI
    rw [if_neg h]
theorem ctP_mem {ps : List Pt} {q : Pt} : q ∈ ctP ps ↔ q ∈ ps := by
  by_cases h0 : 0 < ps.length
  · rw [ctP_eq ps h0]
    split
    · rw [rotP_mem, List.mem_reverse]
    · exact Iff.rfl
  · have : ps = [] := List.eq_nil_of_length_eq_zero (by omega)
    subst this; simp [ctP]
theorem can_ct {ps : List Pt} (hd : ps.Nodup) (h0 : 0 < ps.length) : canL ps = rotP (ctP ps) (minIx (ctP ps)) := by
  rw [ctP_eq ps h0]
  unfold canL
  by_cases h : areaL ps < 0
  · simp only [if_pos h]
    rw [rot_can ((List.reverse_perm ps).nodup_iff.2 hd) (by rw [List.length_reverse]; omega)]
  · simp only [if_neg h]
def lpt (ps : List Pt) : Pt := gp (sortP ps) 0
theorem lpt_min {ps : List Pt} (h0 : 0 < ps.length) : lpt ps ∈ ps ∧ ∀ q ∈ ps, q = lpt ps ∨ ltP (lpt ps) q := by
  obtain ⟨m, h1, h2, h3⟩ := asc_min (sortP_asc ps) (ne_sort (by intro e; rw [e] at h0; cases h0))
  have e : lpt ps = m := by
    unfold lpt
    cases h : sortP ps with
    | nil => rw [h] at h2; cases h2
    | cons a r => rw [h] at h2; injection h2
  rw [e]
  exact ⟨sortP_mem.1 h1, fun q hq => h3 q (sortP_mem.2 hq)⟩
theorem can_prog {ps : List Pt} (hd : ps.Nodup) (h0 : 0 < ps.length) :
    ∃ m, m < ps.length ∧ firstIdx (fun i => decide (gp ps (rgI ps i) = lpt ps)) ps.length = (m : Int) ∧ ∀ j, j < ps.length → gp (canL ps) j = gp ps (rgI ps ((m + j) % ps.length)) := by
  have hlq := ctP_len ps
  have hm : minIx (ctP ps) < ps.length := by have := minTo_lt (q := ctP ps) (by omega) (ctP ps).length (Nat.le_refl _); unfold minIx; omega
  have hdq : (ctP ps).Nodup := by
    rw [ctP_eq ps h0]; split
    · unfold rotP
      exact (List.Perm.nodup_iff (List.perm_append_comm.trans (by rw [List.take_append_drop]))).2 ((List.reverse_perm ps).nodup_iff.2 hd)
    · exact hd
  obtain ⟨l1, l2⟩ := lpt_min h0
  have eM : gp (ctP ps) (minIx (ctP ps)) = lpt ps := by
    rcases l2 _ (ctP_mem.1 (gp_mem (show minIx (ctP ps) < (ctP ps).length by omega))) with e | e
    · exact e
    · obtain ⟨j, hj, e2⟩ := gp_of_mem (ctP_mem.2 l1)
      rw [← e2] at e
      exact absurd e (minTo_le _ j hj)
  refine ⟨minIx (ctP ps), hm, firstIdx_at hm (decide_eq_true (by rw [← ctP_at hm]; exact eM)) fun j hj => decide_eq_false fun e => ?_, fun j hj => ?_⟩
  · rw [← ctP_at (by omega), ← eM] at e
    have := gp_inj hdq (by omega) (by omega) e
    omega
  · rw [can_ct hd h0, rotP_at (by omega) (by omega), hlq, ctP_at (Nat.mod_lt _ (by omega))]
theorem can_nil : canL [] = [] := rfl
def canO (ps : List Pt) : List Pt := if simB ps then canL ps else []
end Go.Proofs.Ytcebmcbglhkkfaa
/- Canonical: the program's and the reference's. -/
set_option linter.unusedVariables false
set_option linter.unusedSimpArgs false
namespace Go.Proofs.Ytcebmcbglhkkfaa
open Go.RowKit Go.Shelf Go.Sort Go.Lib

def idTo (k : Nat) : List Int := (List.range k).map fun i : Nat => ((i : Nat) : Int)
theorem idTo_len (k : Nat) : (idTo k).length = k := by simp [idTo]
theorem idTo_succ (k : Nat) : idTo (k + 1) = idTo k ++ [(k : Int)] := by unfold idTo; rw [List.range_succ, List.map_append]; rfl
theorem idTo_cons (k : Nat) : idTo (k + 1) = (0 : Int) :: (idTo k).map (· + 1) := by
  unfold idTo
  rw [List.range_succ_eq_map, List.map_cons, List.map_map, List.map_map]
  simp [Function.comp_def]
theorem rgL_pos {ps : List Pt} (h : 0 ≤ areaL ps) : rgL ps = idTo ps.length := by
  unfold rgL rgTo idTo rgI
  exact List.map_congr_left fun i _ => by rw [if_neg (by omega)]
theorem rgL_neg {ps : List Pt} {m : Nat} (h : areaL ps < 0) (hm : ps.length = m + 1) : rgL ps = (0 : Int) :: ((idTo m).map (· + 1)).reverse := by
  refine List.ext_getElem (by simp [rgL, rgTo_len, idTo_len, hm]) fun j h1 h2 => ?_
  have hj : j < m + 1 := by rw [← hm]; simpa [rgL, rgTo_len] using h1
  have e : (rgL ps)[j] = (rgI ps j : Int) := by rw [← gi_lt h1, rgL_at (by omega)]
  rw [e]
  unfold rgI
  rw [if_pos h, hm]
  cases j with
  | zero => simp
  | succ j =>
    rw [Nat.mod_eq_of_lt (by omega)]
    simp [idTo]
    omega
theorem box_ext' (w : World) (v : Value) (T : TypeId) (y : World) : (ext (w.alloc (.cells #[v] T)) y).cell? ⟨w.heap.size, 0, none⟩ = some v ∧ w.heap.size + 1 ≤ (ext (w.alloc (.cells #[v] T)) y).heap.size ∧ Below w.heap.size w (ext (w.alloc (.cells #[v] T)) y) := by
  have h1 : (w.alloc (.cells #[v] T)).heap.size = w.heap.size + 1 := by simp
  refine ⟨((ext_below (w.alloc (.cells #[v] T)) y).cell (p := ⟨w.heap.size, 0, none⟩) (show w.heap.size < (w.alloc (.cells #[v] T)).heap.size by omega)).trans ?_, by rw [← h1]; exact ext_size _ y, ?_⟩
  · simp
  · exact (by (repeat' (first | (with_reducible first | exact Below.refl _ _ | assumption | refine below_ext _ ?_ ?_ | refine Below.alloc ?_ ?_ _ | refine Below.drew ?_ | refine below_drewN ?_ _ | refine le_drewN _ ?_ | refine Below.setCell ?_ ?_ _ | exact Nat.le_refl _ | refine le_ext _ ?_ | refine le_alloc _ ?_ | refine le_setCell _ _ ?_ | refine le_drew ?_) | omega | (simp; done) | (simp; omega))))
theorem can_bd {ps : List Pt} (h : simB ps = true) : canO ps = canL ps := by unfold canO; rw [if_pos h]
theorem can_no {ps : List Pt} (h : simB ps = false) : canO ps = [] := by unfold canO; rw [h]; rfl
end Go.Proofs.Ytcebmcbglhkkfaa
