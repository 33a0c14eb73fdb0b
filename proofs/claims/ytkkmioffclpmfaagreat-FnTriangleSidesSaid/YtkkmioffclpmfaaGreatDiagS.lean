
/- The reference's diagonals. -/
import Derived.Test.YtkkmioffclpmfaaGreatLoc
import Derived.Test.YtkkmioffclpmfaaGreatRing
import Derived.Test.YtkkmioffclpmfaaGreatSimS
import Derived.Test.YtkkmioffclpmfaaGreatCanM
set_option linter.unusedVariables false
set_option linter.unusedSimpArgs false
namespace Go.Proofs.YtkkmioffclpmfaaGreat
open Go.RowKit

theorem diagS_no {ps : List Pt} {i k : Nat} (h : i = k ∨ (i + 1) % ps.length = k ∨ (k + 1) % ps.length = i) : diagS ps i k = false := by
  unfold diagS
  rw [← Bool.not_eq_true]
  simp only [Bool.and_eq_true, Bool.not_eq_true', Bool.or_eq_false_iff, decide_eq_false_iff_not]
  intro hh
  omega
theorem diagS_at {ps : List Pt} {i k j : Nat} (hj : j < ps.length) (h : eS ps i k j = false) : diagS ps i k = false := by
  unfold diagS
  rw [← Bool.not_eq_true]
  simp only [Bool.and_eq_true, List.all_eq_true, List.mem_range]
  exact fun hh => by rw [hh.2.1 j hj] at h; cases h
theorem diagS_last {ps : List Pt} {i k : Nat} (h1 : ¬ (i = k ∨ (i + 1) % ps.length = k ∨ (k + 1) % ps.length = i)) (h2 : ∀ j, j < ps.length → eS ps i k j = true) : diagS ps i k = coneB ps i k := by
  unfold diagS
  rw [decide_eq_false (fun e => h1 (.inl e)), decide_eq_false (fun e => h1 (.inr (.inl e))), decide_eq_false (fun e => h1 (.inr (.inr e))), List.all_eq_true.2 fun j hj => h2 j (List.mem_range.1 hj)]
  rfl
theorem ring_neg {n i : Nat} (hi : i < n) (h2 : 2 ≤ n) : (n - ((n - i) % n + n - 1) % n) % n = (i + 1) % n ∧ (n - ((n - i) % n + 1) % n) % n = (i + n - 1) % n := by
  have a1 : (n - i) % n = if i = 0 then 0 else n - i := by
    split
    · rename_i h; subst h; rw [Nat.sub_zero, Nat.mod_self]
    · exact Nat.mod_eq_of_lt (by omega)
  have a2 := mod_next hi
  have a3 : (i + n - 1) % n = if i = 0 then n - 1 else i - 1 := by
    split
    · rename_i h; subst h; rw [Nat.zero_add]; exact Nat.mod_eq_of_lt (by omega)
    · rw [show i + n - 1 = i - 1 + n by omega, Nat.add_mod_right]; exact Nat.mod_eq_of_lt (by omega)
  rw [a1, a3]
  by_cases h0 : i = 0
  · subst h0
    rw [if_pos rfl, if_pos rfl, Nat.zero_add, Nat.zero_add, Nat.mod_eq_of_lt (show n - 1 < n by omega), Nat.mod_eq_of_lt (show 1 < n by omega)]
    exact ⟨by rw [show n - (n - 1) = 1 by omega, Nat.mod_eq_of_lt (show 1 < n by omega)], Nat.mod_eq_of_lt (by omega)⟩
  · rw [if_neg h0, if_neg h0, show n - i + n - 1 = n - i - 1 + n by omega, Nat.add_mod_right, Nat.mod_eq_of_lt (show n - i - 1 < n by omega)]
    refine ⟨by rw [show n - (n - i - 1) = i + 1 by omega], ?_⟩
    by_cases h1 : i = 1
    · subst h1
      rw [show n - 1 + 1 = n by omega, Nat.mod_self, Nat.sub_zero, Nat.mod_self]
    · rw [Nat.mod_eq_of_lt (show n - i + 1 < n by omega), show n - (n - i + 1) = i - 1 by omega]
      exact Nat.mod_eq_of_lt (by omega)
theorem rg_at {ps : List Pt} (h3 : 3 ≤ ps.length) {i : Nat} (hi : i < ps.length) :
    gi (rgL ps) (rgI ps i) = (i : Int) ∧ gi (rgL ps) ((rgI ps i + ps.length - 1) % ps.length) = ((if areaL ps < 0 then (i + 1) % ps.length else (i + ps.length - 1) % ps.length : Nat) : Int) ∧ gi (rgL ps) ((rgI ps i + 1) % ps.length) = ((if areaL ps < 0 then (i + ps.length - 1) % ps.length else (i + 1) % ps.length : Nat) : Int) := by
  have lm : ∀ j, j % ps.length < ps.length := fun j => Nat.mod_lt _ (by omega)
  rw [rgL_at (rgI_lt hi), rgL_at (lm _), rgL_at (lm _), rgI_inv hi]
  refine ⟨rfl, ?_⟩
  by_cases h : areaL ps < 0
  · unfold rgI
    simp only [if_pos h]
    have := ring_neg hi (show 2 ≤ ps.length by omega)
    simp only [this.1, this.2]
    first | done | (refine ⟨?_, ?_⟩ <;> first | rfl | trivial | simp) | trivial
  · unfold rgI
    simp only [if_neg h]
    first | done | (refine ⟨?_, ?_⟩ <;> first | rfl | trivial | simp) | trivial
theorem mod_or {n k m : Nat} (hk : k < n) (h : m = (k + 1) % n) : (k + 1 = n ∧ m = 0) ∨ (k + 1 < n ∧ m = k + 1) := by
  have := mod_next hk
  split at this <;> omega
end Go.Proofs.YtkkmioffclpmfaaGreat
