
/- The lists of lattice points inside of a polygon: plain. -/
import Derived.Test.YtcebmcbglhkkfaaLatM
import Derived.Test.YtcebmcbglhkkfaaPoly
set_option linter.unusedVariables false
set_option linter.unusedSimpArgs false
namespace Go.Proofs.Ytcebmcbglhkkfaa
open Go.RowKit

/-! ### the rectangle around a polygon -/
def lowX (ps : List Pt) : Nat → Int
  | 0 => (gp ps 0).x
  | k + 1 => min (lowX ps k) (gp ps k).x
def lowY (ps : List Pt) : Nat → Int
  | 0 => (gp ps 0).y
  | k + 1 => min (lowY ps k) (gp ps k).y
def topX (ps : List Pt) : Nat → Int
  | 0 => (gp ps 0).x
  | k + 1 => max (topX ps k) (gp ps k).x
def topY (ps : List Pt) : Nat → Int
  | 0 => (gp ps 0).y
  | k + 1 => max (topY ps k) (gp ps k).y
theorem box_at (ps : List Pt) : ∀ k i : Nat, i < k → lowX ps k ≤ (gp ps i).x ∧ (gp ps i).x ≤ topX ps k ∧ lowY ps k ≤ (gp ps i).y ∧ (gp ps i).y ≤ topY ps k
  | 0, i, h => by omega
  | k + 1, i, h => by
    show min (lowX ps k) (gp ps k).x ≤ _ ∧ _ ≤ max (topX ps k) (gp ps k).x ∧ min (lowY ps k) (gp ps k).y ≤ _ ∧ _ ≤ max (topY ps k) (gp ps k).y
    by_cases e : i = k
    · subst e; omega
    · have := box_at ps k i (by omega); omega
theorem box_bd {ps : List Pt} {B : Int} (hb : ∀ p ∈ ps, (-B ≤ p.x ∧ p.x ≤ B) ∧ -B ≤ p.y ∧ p.y ≤ B) (h0 : 0 < ps.length) : ∀ k, k ≤ ps.length → (-B ≤ lowX ps k ∧ lowX ps k ≤ topX ps k ∧ topX ps k ≤ B) ∧ -B ≤ lowY ps k ∧ lowY ps k ≤ topY ps k ∧ topY ps k ≤ B
  | 0, _ => by
    have := hb _ (gp_mem h0)
    show (-B ≤ (gp ps 0).x ∧ (gp ps 0).x ≤ (gp ps 0).x ∧ (gp ps 0).x ≤ B) ∧ -B ≤ (gp ps 0).y ∧ (gp ps 0).y ≤ (gp ps 0).y ∧ (gp ps 0).y ≤ B
    omega
  | k + 1, hk => by
    have h1 := box_bd hb h0 k (by omega)
    have h2 := hb _ (gp_mem (show k < ps.length by omega))
    show (-B ≤ min (lowX ps k) (gp ps k).x ∧ min (lowX ps k) (gp ps k).x ≤ max (topX ps k) (gp ps k).x ∧ max (topX ps k) (gp ps k).x ≤ B) ∧ -B ≤ min (lowY ps k) (gp ps k).y ∧ min (lowY ps k) (gp ps k).y ≤ max (topY ps k) (gp ps k).y ∧ max (topY ps k) (gp ps k).y ≤ B
    omega
/-! ### the list -/
/-- The points of one column below place j that are inside. -/
def colT (ps : List Pt) (x Y : Int) : Nat → List Pt
  | 0 => []
  | j + 1 => if locI ps ⟨x, Y + (j : Nat)⟩ = 1 then colT ps x Y j ++ [⟨x, Y + (j : Nat)⟩] else colT ps x Y j
def latT (ps : List Pt) (X Y : Int) (n : Nat) : Nat → List Pt
  | 0 => []
  | k + 1 => latT ps X Y n k ++ colT ps (X + (k : Nat)) Y n
theorem colT_len (ps : List Pt) (x Y : Int) : ∀ n, ((colT ps x Y n).length : Int) = sumN (fun j => if locI ps ⟨x, Y + (j : Nat)⟩ = 1 then 1 else 0) n
  | 0 => rfl
  | n + 1 => by
    show ((if locI ps ⟨x, Y + (n : Nat)⟩ = 1 then colT ps x Y n ++ [⟨x, Y + (n : Nat)⟩] else colT ps x Y n).length : Int) = sumN (fun j => if locI ps ⟨x, Y + (j : Nat)⟩ = 1 then 1 else 0) n + (if locI ps ⟨x, Y + (n : Nat)⟩ = 1 then 1 else 0)
    rw [← colT_len ps x Y n]
    split
    · rw [List.length_append]; simp
    · omega
theorem colT_le (ps : List Pt) (x Y : Int) : ∀ n, (colT ps x Y n).length ≤ n
  | 0 => Nat.le_refl _
  | n + 1 => by
    have := colT_le ps x Y n
    show (if locI ps ⟨x, Y + (n : Nat)⟩ = 1 then colT ps x Y n ++ [⟨x, Y + (n : Nat)⟩] else colT ps x Y n).length ≤ n + 1
    split
    · rw [List.length_append]; simp; exact this
    · omega
theorem latT_le (ps : List Pt) (X Y : Int) (n : Nat) : ∀ m, (latT ps X Y n m).length ≤ m * n
  | 0 => Nat.zero_le _
  | m + 1 => by
    have h1 := latT_le ps X Y n m
    have h2 := colT_le ps (X + (m : Nat)) Y n
    show (latT ps X Y n m ++ colT ps (X + (m : Nat)) Y n).length ≤ _
    rw [List.length_append, Nat.succ_mul]; omega
theorem latT_len (ps : List Pt) (X Y : Int) (n : Nat) : ∀ m, ((latT ps X Y n m).length : Int) = sumN (fun k => sumN (fun j => if locI ps ⟨X + (k : Nat), Y + (j : Nat)⟩ = 1 then 1 else 0) n) m
  | 0 => rfl
  | m + 1 => by
    show ((latT ps X Y n m ++ colT ps (X + (m : Nat)) Y n).length : Int) = sumN _ m + sumN (fun j => if locI ps ⟨X + (m : Nat), Y + (j : Nat)⟩ = 1 then 1 else 0) n
    rw [← latT_len ps X Y n m, ← colT_len, List.length_append]; push_cast; rfl
theorem colT_in {ps : List Pt} {x Y : Int} : ∀ {n : Nat}, ∀ q ∈ colT ps x Y n, locI ps q = 1 ∧ q.x = x ∧ Y ≤ q.y ∧ q.y < Y + n
  | 0, q, h => by cases h
  | n + 1, q, h => by
    have h : q ∈ (if locI ps ⟨x, Y + (n : Nat)⟩ = 1 then colT ps x Y n ++ [⟨x, Y + (n : Nat)⟩] else colT ps x Y n) := h
    split at h
    · rename_i hl
      rcases List.mem_append.1 h with h | h
      · have := colT_in q h
        exact ⟨this.1, this.2.1, this.2.2.1, by have := this.2.2.2; omega⟩
      · rw [List.mem_singleton.1 h]
        exact ⟨hl, rfl, by show Y ≤ Y + (n : Int); omega, by show Y + (n : Int) < _; omega⟩
    · have := colT_in q h
      exact ⟨this.1, this.2.1, this.2.2.1, by have := this.2.2.2; omega⟩
theorem latT_in {ps : List Pt} {X Y : Int} {n : Nat} : ∀ {m : Nat}, ∀ q ∈ latT ps X Y n m, locI ps q = 1 ∧ X ≤ q.x ∧ q.x < X + m ∧ Y ≤ q.y ∧ q.y < Y + n
  | 0, q, h => by cases h
  | m + 1, q, h => by
    have h : q ∈ latT ps X Y n m ++ colT ps (X + (m : Nat)) Y n := h
    rcases List.mem_append.1 h with h | h
    · obtain ⟨a, b, c, d⟩ := latT_in q h
      exact ⟨a, b, by omega, d⟩
    · obtain ⟨a, b, c⟩ := colT_in q h
      exact ⟨a, by omega, by omega, c⟩
def latW (ps : List Pt) : Nat := (topX ps ps.length - lowX ps ps.length + 1).toNat
def latH (ps : List Pt) : Nat := (topY ps ps.length - lowY ps ps.length + 1).toNat
/-- What LatticeInside answers. -/
def latV (ps : List Pt) : List Pt := if simB ps = true ∧ latW ps * latH ps ≤ 1000 then latT ps (lowX ps ps.length) (lowY ps ps.length) (latH ps) (latW ps) else []
theorem latV_len (ps : List Pt) : (latV ps).length ≤ 1000 := by
  unfold latV
  split
  · rename_i h
    exact Nat.le_trans (latT_le ps _ _ _ _) h.2
  · exact Nat.zero_le _
theorem latV_count {ps : List Pt} (h : latV ps ≠ []) : simB ps = true ∧ ((latV ps).length : Int) = intrL ps ∧ ∀ q ∈ latV ps, locI ps q = 1 ∧ (-1000 ≤ q.x ∧ q.x ≤ 1000) ∧ -1000 ≤ q.y ∧ q.y ≤ 1000 := by
  unfold latV at h ⊢
  split at h
  · rename_i hh
    rw [if_pos hh]
    have hs := hh.1
    have hn := (sim_of hs).three
    have h3 : ∀ p ∈ ps, (-1000 ≤ p.x ∧ p.x ≤ 1000) ∧ -1000 ≤ p.y ∧ p.y ≤ 1000 := simB_P3 hs
    obtain ⟨b1, b2⟩ := box_bd h3 (by omega) ps.length (Nat.le_refl _)
    have P := pick_poly hs (X := lowX ps ps.length) (Y := lowY ps ps.length) (m := latW ps) (n := latH ps) fun p hp => by
      obtain ⟨i, hi, rfl⟩ := gp_of_mem hp
      have := box_at ps ps.length i hi
      unfold InBox latW latH
      omega
    refine ⟨hs, ?_, fun q hq => ?_⟩
    · rw [latT_len, sumN_comm]
      unfold boxS at P
      unfold intrL
      rw [← P]
      exact (Int.mul_tdiv_cancel_left _ (by omega)).symm
    · obtain ⟨a, c1, c2, c3, c4⟩ := latT_in q hq
      unfold latW at c2
      unfold latH at c4
      exact ⟨a, by omega, by omega⟩
  · exact absurd rfl h
end Go.Proofs.Ytcebmcbglhkkfaa
