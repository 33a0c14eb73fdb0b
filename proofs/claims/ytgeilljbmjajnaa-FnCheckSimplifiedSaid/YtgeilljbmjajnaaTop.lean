/- Which point of a path is kept between two others: the program's way and the reference's way come to one. No program in sight. -/
import Derived.Test.YtgeilljbmjajnaaCheck
set_option linter.unusedVariables false
set_option linter.unusedSimpArgs false
namespace Go.Proofs.Ytgeilljbmjajnaa
open Go.RowKit

section
variable (ps : List Pt) (most : Int) (f t : Nat)
def gtB (i j : Nat) : Bool := decide (devAtN ps f t j * devAtD ps f t i < devAtN ps f t i * devAtD ps f t j)
def ovB (i : Nat) : Bool := decide (most * devAtD ps f t i < devAtN ps f t i)
def nzB (i : Nat) : Bool := decide (0 < devAtN ps f t i)
/-- The program's best after k points. -/
def ibest : Nat → Option Nat
  | 0 => none
  | k + 1 => match ibest k with
    | none => if ovB ps most f t (f + 1 + k) then some (f + 1 + k) else none
    | some b => if gtB ps f t (f + 1 + k) b then some (f + 1 + k) else some b
/-- The reference's. -/
def sbest : Nat → Option Nat
  | 0 => none
  | k + 1 => match sbest k with
    | none => if nzB ps f t (f + 1 + k) then some (f + 1 + k) else none
    | some b => if gtB ps f t (f + 1 + k) b then some (f + 1 + k) else some b
end

section
variable {ps : List Pt} {most : Int} {f t : Nat}
theorem ibest_bd : ∀ {k b : Nat}, ibest ps most f t k = some b → f < b ∧ b < f + 1 + k
  | 0, b, h => by cases h
  | k + 1, b, h => by
    rw [ibest] at h
    cases hb : ibest ps most f t k with
    | none =>
      rw [hb] at h; simp only at h
      split at h
      · injection h with h; omega
      · cases h
    | some c =>
      rw [hb] at h; simp only at h
      have := ibest_bd hb
      split at h
      · injection h with h; omega
      · injection h with h; omega
theorem sbest_bd : ∀ {k b : Nat}, sbest ps f t k = some b → f < b ∧ b < f + 1 + k
  | 0, b, h => by cases h
  | k + 1, b, h => by
    rw [sbest] at h
    cases hb : sbest ps f t k with
    | none =>
      rw [hb] at h; simp only at h
      split at h
      · injection h with h; omega
      · cases h
    | some c =>
      rw [hb] at h; simp only at h
      have := sbest_bd hb
      split at h
      · injection h with h; omega
      · injection h with h; omega

theorem cross_gt {a b c d m : Int} (hm : 0 ≤ m) (hb : 1 ≤ b) (hd : 1 ≤ d) (h1 : a ≤ m * b) (h2 : m * d < c) : a * d < c * b := by
  have e1 : a * d ≤ m * b * d := Int.mul_le_mul_of_nonneg_right h1 (by omega)
  have e2 : m * d * b < c * b := Int.mul_lt_mul_of_pos_right h2 (by omega)
  have e3 : m * b * d = m * d * b := by rw [Int.mul_assoc, Int.mul_comm b d, ← Int.mul_assoc]
  omega
theorem cross_ov {a b c d m : Int} (hm : 0 ≤ m) (hb : 1 ≤ b) (hd : 1 ≤ d) (h1 : m * b < a) (h2 : a * d < c * b) : m * d < c := by
  have e1 : m * b * d < a * d := Int.mul_lt_mul_of_pos_right h1 (by omega)
  have e3 : m * b * d = m * d * b := by rw [Int.mul_assoc, Int.mul_comm b d, ← Int.mul_assoc]
  exact Int.lt_of_mul_lt_mul_right (a := b) (by omega) (by omega)

/-- The two are one but for what lies not over the bound. -/
theorem best_one (hm : 0 ≤ most) (hD : ∀ i, i < t → 1 ≤ devAtD ps f t i) : ∀ k, f + 1 + k ≤ t →
    (ibest ps most f t k = none → ∀ b, sbest ps f t k = some b → ovB ps most f t b = false) ∧ (∀ b, ibest ps most f t k = some b → sbest ps f t k = some b ∧ ovB ps most f t b = true)
  | 0, _ => ⟨fun _ b h => (by cases h), fun b h => (by cases h)⟩
  | k + 1, hk => by
    obtain ⟨h1, h2⟩ := best_one hm hD k (by omega)
    rw [ibest, sbest]
    have hDi := hD (f + 1 + k) (by omega)
    cases hi : ibest ps most f t k with
    | none =>
      have h1 := h1 hi
      simp only
      cases hs : sbest ps f t k with
      | none =>
        simp only
        by_cases ho : ovB ps most f t (f + 1 + k) = true
        · have hn : nzB ps f t (f + 1 + k) = true := by
            have ho := of_decide_eq_true ho
            have := Int.mul_nonneg hm (b := devAtD ps f t (f + 1 + k)) (by omega)
            exact decide_eq_true (by omega)
          rw [if_pos ho, if_pos hn]
          exact ⟨fun h => (by cases h), fun b h => by injection h with h; subst h; exact ⟨rfl, ho⟩⟩
        · rw [if_neg ho]
          refine ⟨fun _ b h => ?_, fun b h => by cases h⟩
          split at h
          · injection h with h; subst h; simpa using ho
          · cases h
      | some c =>
        have hc := h1 c hs
        have hcb := sbest_bd hs
        have hDc := hD c (by omega)
        simp only
        by_cases ho : ovB ps most f t (f + 1 + k) = true
        · have hg : gtB ps f t (f + 1 + k) c = true := by
            have ho := of_decide_eq_true ho
            have hc := of_decide_eq_false hc
            exact decide_eq_true (cross_gt hm hDc hDi (by omega) ho)
          rw [if_pos ho, if_pos hg]
          exact ⟨fun h => (by cases h), fun b h => by injection h with h; subst h; exact ⟨rfl, ho⟩⟩
        · rw [if_neg ho]
          refine ⟨fun _ b h => ?_, fun b h => by cases h⟩
          split at h
          · injection h with h; subst h; simpa using ho
          · injection h with h; subst h; exact hc
    | some c =>
      obtain ⟨hs, hc⟩ := h2 c hi
      have hcb := sbest_bd hs
      have hDc := hD c (by omega)
      rw [hs]
      simp only
      by_cases hg : gtB ps f t (f + 1 + k) c = true
      · rw [if_pos hg]
        refine ⟨fun h => (by cases h), fun b h => ?_⟩
        injection h with h; subst h
        have hc := of_decide_eq_true hc
        have hg := of_decide_eq_true hg
        exact ⟨rfl, decide_eq_true (cross_ov hm hDc hDi hc hg)⟩
      · rw [if_neg hg]
        exact ⟨fun h => (by cases h), fun b h => by injection h with h; subst h; exact ⟨rfl, hc⟩⟩
end

/-- The point that is kept between f and t, if there is one. -/
def topOf (ps : List Pt) (most : Int) (f t : Nat) : Option Nat := ibest ps most f t (t - (f + 1))
theorem topOf_bd {ps : List Pt} {most : Int} {f t b : Nat} (h : topOf ps most f t = some b) : f < b ∧ b < t := by
  have := ibest_bd h; omega
/-- The points that are kept strictly between f and t. -/
def keepL (ps : List Pt) (most : Int) : Nat → Nat → Nat → List Int
  | 0, _, _ => []
  | n + 1, f, t => match topOf ps most f t with
    | none => []
    | some b => keepL ps most n f b ++ (b : Int) :: keepL ps most n b t
def keepOf (ps : List Pt) (most : Int) (f t : Nat) : List Int := keepL ps most (t - f) f t
theorem keepL_more {ps : List Pt} {most : Int} : ∀ (n m f t : Nat), t - f ≤ n → n ≤ m → keepL ps most m f t = keepL ps most n f t
  | 0, 0, _, _, _, _ => rfl
  | 0, m + 1, f, t, h, _ => by
    rw [keepL, keepL]
    cases hb : topOf ps most f t with
    | none => rfl
    | some b => have := topOf_bd hb; omega
  | n + 1, 0, _, _, _, h => by omega
  | n + 1, m + 1, f, t, h, hm => by
    rw [keepL, keepL]
    cases hb : topOf ps most f t with
    | none => rfl
    | some b =>
      have := topOf_bd hb
      simp only
      rw [keepL_more n m f b (by omega) (by omega), keepL_more n m b t (by omega) (by omega)]
theorem keepOf_none {ps : List Pt} {most : Int} {f t : Nat} (h : topOf ps most f t = none) : keepOf ps most f t = [] := by
  unfold keepOf
  cases t - f with
  | zero => rfl
  | succ n => rw [keepL, h]
theorem keepOf_some {ps : List Pt} {most : Int} {f t b : Nat} (h : topOf ps most f t = some b) : keepOf ps most f t = keepOf ps most f b ++ (b : Int) :: keepOf ps most b t := by
  have hb := topOf_bd h
  unfold keepOf
  obtain ⟨n, hn⟩ : ∃ n, t - f = n + 1 := ⟨t - f - 1, by omega⟩
  rw [hn, keepL, h]
  simp only
  rw [keepL_more (b - f) n f b (by omega) (by omega), keepL_more (t - b) n b t (by omega) (by omega)]
theorem keepL_len {ps : List Pt} {most : Int} : ∀ (n f t : Nat), (keepL ps most n f t).length ≤ t - f - 1
  | 0, _, _ => by simp [keepL]
  | n + 1, f, t => by
    rw [keepL]
    cases hb : topOf ps most f t with
    | none => simp
    | some b =>
      have := topOf_bd hb
      have h1 := keepL_len (ps := ps) (most := most) n f b
      have h2 := keepL_len (ps := ps) (most := most) n b t
      simp only [List.length_append, List.length_cons]
      omega
def simplifyOf (ps : List Pt) (most : Int) : List Int :=
  if pathOk ps && inB most 0 8000000 then (0 :: keepOf ps most 0 (ps.length - 1)) ++ [((ps.length - 1 : Nat) : Int)] else []
end Go.Proofs.Ytgeilljbmjajnaa
