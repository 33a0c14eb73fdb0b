
/- Minkowski sums, in plain words. No program in sight. -/
import Derived.Test.YtoendanihhocjaaSupM
import Derived.Test.YtoendanihhocjaaAreaI
set_option linter.unusedVariables false
set_option linter.unusedSimpArgs false
namespace Go.Proofs.Ytoendanihhocjaa
open Go.RowKit

theorem mink_cases (a b : List Pt) : minkOf a b = ([], false) ∨ (bothL a b = true ∧ allOk (hullOf (sumsL a b)) = true ∧ minkOf a b = (hullOf (sumsL a b), true)) := by
  by_cases h1 : bothL a b = true
  · by_cases h2 : allOk (hullOf (sumsL a b)) = true
    · exact .inr ⟨h1, h2, minkOf_yes h1 h2⟩
    · exact .inl (minkOf_bad (eq_false_of_ne_true h2))
  · exact .inl (minkOf_no (eq_false_of_ne_true h1))
theorem mink_comm (a b : List Pt) : minkOf b a = minkOf a b := by unfold minkOf; rw [bothL_comm b a, hull_sums_comm b a]
theorem mink_len (a b : List Pt) : (minkOf a b).1.length ≤ 1000 := by
  rcases mink_cases a b with e | ⟨h1, _, e⟩ <;> rw [e]
  · exact Nat.zero_le _
  · have := (sums_20 h1).2.2.1
    have := hullOf_len' (sumsL a b)
    show (hullOf (sumsL a b)).length ≤ 1000
    omega
theorem mink_InB (a b : List Pt) : InB (minkOf a b).1 := by
  rcases mink_cases a b with e | ⟨h1, h2, e⟩ <;> rw [e]
  · intro p hp; cases hp
  · exact allOk_InB h2
theorem listOk_mk {ps : List Pt} (h1 : allOk ps = true) (h2 : ps.length ≤ 20) : listOk ps = true := by unfold listOk; simp [h1, h2]
theorem hullL_self {ps : List Pt} (h : listOk ps = true) (hh : ∃ l, ps = hullOf l) : hullL ps = ps := by
  obtain ⟨l, rfl⟩ := hh
  unfold hullL
  rw [if_pos h, hull_hull]
theorem crP_dbl (a b : Pt) : crP (dblP a) (dblP b) = 4 * crP a b := by unfold crP dblP; grind
theorem gp_map {f : Pt → Pt} {ps : List Pt} {i : Nat} (h : i < ps.length) : gp (ps.map f) i = f (gp ps i) := by
  rw [gp_lt (by rw [List.length_map]; exact h), gp_lt h, List.getElem_map]
theorem areaTo_dbl (ps : List Pt) : ∀ k, k ≤ ps.length → areaTo (ps.map dblP) k = 4 * areaTo ps k
  | 0, _ => rfl
  | k + 1, h => by
    have ih := areaTo_dbl ps k (by omega)
    have hj : (k + 1) % ps.length < ps.length := Nat.mod_lt _ (by omega)
    unfold areaTo
    rw [List.length_map, ih, gp_map (by omega), gp_map hj, crP_dbl]
    omega
theorem areaL_dbl (ps : List Pt) : areaL (ps.map dblP) = 4 * areaL ps := by unfold areaL; rw [List.length_map]; exact areaTo_dbl ps _ (Nat.le_refl _)
theorem mink_self {a : List Pt} (h : (minkOf a a).2 = true) : hullArea (minkOf a a).1 = 4 * hullArea a := by
  rcases mink_cases a a with e | ⟨h1, h2, e⟩
  · rw [e] at h; cases h
  · rw [e]
    have ha := (bothL_parts h1).1
    have hs : hullOf (sumsL a a) = (hullOf a).map dblP := hull_self a
    have hl : (hullOf (sumsL a a)).length ≤ 20 := by rw [hs, List.length_map]; exact Nat.le_trans (hullOf_len' a) (listOk_InB' ha)
    unfold hullArea
    rw [if_pos ha, if_pos (listOk_mk h2 hl), hull_hull, hs, areaL_dbl]
theorem mink_point {a : List Pt} (h1 : listOk a = true) (h2 : a ≠ []) (hn : ∀ p ∈ a, (-900 ≤ p.x ∧ p.x ≤ 900) ∧ (-900 ≤ p.y ∧ p.y ≤ 900)) : minkOf a [⟨3, -2⟩] = ((hullL a).map (fun p => addP p ⟨3, -2⟩), true) := by
  have hb : bothL a [⟨3, -2⟩] = true := bothL_mk h1 (by decide) h2 (by simp)
  have e : hullOf (sumsL a [⟨3, -2⟩]) = (hullOf a).map fun p => addP p ⟨3, -2⟩ := hull_move a _
  have hall : allOk (hullOf (sumsL a [⟨3, -2⟩])) = true := by
    rw [e]
    refine List.all_eq_true.2 fun p hp => ?_
    obtain ⟨q, hq, rfl⟩ := List.mem_map.1 hp
    have := hn q (hullOf_sub hq)
    unfold Pt.ok
    rw [vP_iff]
    unfold addP
    simp only
    omega
  rw [minkOf_yes hb hall, e]
  unfold hullL
  rw [if_pos h1]
theorem hullArea_bd (ps : List Pt) : -400000000000 ≤ hullArea ps ∧ hullArea ps ≤ 400000000000 := by
  unfold hullArea
  split
  · rename_i h
    obtain ⟨h1, h2⟩ := listOk_InB h
    have h3 := hullOf_len' ps
    have := areaTo_bd (ps := hullOf ps) (fun p hp => h1 p (hullOf_sub hp)) _ (Nat.le_refl _)
    unfold areaL
    have h4 : ((hullOf ps).length : Int) ≤ 20 := by omega
    omega
  · omega
end Go.Proofs.Ytoendanihhocjaa
