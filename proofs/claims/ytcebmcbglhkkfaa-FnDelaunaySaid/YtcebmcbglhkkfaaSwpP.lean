
import Derived.Test.YtcebmcbglhkkfaaSwpO
/- The sweep: the first points on one line; the whole. No program in sight. -/
set_option linter.unusedVariables false
set_option linter.unusedSimpArgs false
namespace Go.Proofs.Ytcebmcbglhkkfaa
open Go.RowKit

/-- The ring of points on one line: forth and back. -/
def flatR (n : Nat) : List Nat := List.range n ++ (List.range (n - 2)).map fun j => n - 2 - j
theorem flat_len {n : Nat} (h : 2 ≤ n) : (flatR n).length = 2 * (n - 1) := by unfold flatR; simp; omega
def flV (q j : Nat) : Nat := if j ≤ q then j else 2 * q - j
theorem flat_at {n j : Nat} (h : 2 ≤ n) (hj : j < 2 * (n - 1)) : gn (flatR n) j = flV (n - 1) j := by
  unfold flatR flV
  by_cases c : j < n
  · rw [gn_left (by simpa using c), if_pos (by omega), gn_lt (by simpa using c)]; simp
  · obtain ⟨e, rfl⟩ : ∃ e, j = n + e := ⟨j - n, by omega⟩
    have := gn_right (A := List.range n) (B := (List.range (n - 2)).map fun j => n - 2 - j) (i := e)
    rw [List.length_range] at this
    rw [this, if_neg (by omega), gn_lt (by simp; omega)]
    simp; omega
theorem flat_gm {n : Nat} (h : 2 ≤ n) (j : Nat) : gm (flatR n) j = flV (n - 1) (j % (2 * (n - 1))) := by
  unfold gm
  rw [flat_len h]
  exact flat_at h (Nat.mod_lt _ (by omega))
section
variable {ps : List Pt} {n : Nat}
/-- The first n points lie on one line. -/
def Line (ps : List Pt) (n : Nat) : Prop := ∀ d, d < n → trn (gp ps 0) (gp ps 1) (gp ps d) = 0
theorem Line.from0 (h : Line ps n) (hO : Ord ps) (hn : n ≤ ps.length) (h2 : 2 ≤ n) {i j : Nat} (hi : i < n) (hj : j < n) : trn (gp ps 0) (gp ps i) (gp ps j) = 0 := by
  rcases Nat.eq_zero_or_pos i with e | e
  · subst e; exact trn_aab _ _
  rcases Nat.eq_zero_or_pos j with e' | e'
  · subst e'; exact trn_aba _ _
  have li := hO 0 i e (by omega)
  have lj := hO 0 j e' (by omega)
  have l1 := hO 0 1 (by omega) (by omega)
  have ai := h i hi
  have aj := h j hj
  rw [trn_2] at ai aj ⊢
  have fi := cr_flip (gp ps 0) (gp ps 1) (gp ps 0) (gp ps i)
  have fj := cr_flip (gp ps 0) (gp ps 1) (gp ps 0) (gp ps j)
  have fij := cr_flip (gp ps 0) (gp ps i) (gp ps 0) (gp ps j)
  have a := cr_trans li l1 lj (by omega) (by omega)
  have b := cr_trans lj l1 li (by omega) (by omega)
  omega
theorem Line.any (h : Line ps n) (hO : Ord ps) (hn : n ≤ ps.length) (h2 : 2 ≤ n) {i j k : Nat} (hi : i < n) (hj : j < n) (hk : k < n) : trn (gp ps i) (gp ps j) (gp ps k) = 0 := by
  have a := h.from0 hO hn h2 hi hj
  have b := h.from0 hO hn h2 hj hk
  have c := h.from0 hO hn h2 hk hi
  have e : trn (gp ps i) (gp ps j) (gp ps k) = trn (gp ps 0) (gp ps i) (gp ps j) + trn (gp ps 0) (gp ps j) (gp ps k) + trn (gp ps 0) (gp ps k) (gp ps i) := by unfold trn; grind
  omega
/-- Forward edges of the line see n alike. -/
theorem Line.sees (h : Line ps n) (hO : Ord ps) (hn : n < ps.length) (h2 : 2 ≤ n) {i j : Nat} (hij : i < j) (hj : j < n) :
    (trn (gp ps 0) (gp ps 1) (gp ps n) < 0 → trn (gp ps i) (gp ps j) (gp ps n) < 0) ∧ (0 < trn (gp ps 0) (gp ps 1) (gp ps n) → 0 < trn (gp ps i) (gp ps j) (gp ps n)) := by
  have l1 := hO 0 1 (by omega) (by omega)
  have lij := hO i j hij (by omega)
  have lin := hO i n (by omega) hn
  have e1 : cr (gp ps 0) (gp ps 1) (gp ps i) (gp ps n) = trn (gp ps 0) (gp ps 1) (gp ps n) := by
    have := h i (by omega)
    have e : cr (gp ps 0) (gp ps 1) (gp ps i) (gp ps n) = trn (gp ps 0) (gp ps 1) (gp ps n) - trn (gp ps 0) (gp ps 1) (gp ps i) := by unfold trn cr; grind
    omega
  have e2 : cr (gp ps 0) (gp ps 1) (gp ps i) (gp ps j) = 0 := by
    have a := h i (by omega)
    have b := h j hj
    have e : cr (gp ps 0) (gp ps 1) (gp ps i) (gp ps j) = trn (gp ps 0) (gp ps 1) (gp ps j) - trn (gp ps 0) (gp ps 1) (gp ps i) := by unfold trn cr; grind
    omega
  have f1 := cr_flip (gp ps 0) (gp ps 1) (gp ps i) (gp ps n)
  have f2 := cr_flip (gp ps 0) (gp ps 1) (gp ps i) (gp ps j)
  have f3 := cr_flip (gp ps i) (gp ps j) (gp ps i) (gp ps n)
  constructor
  · intro hs
    have := cr_trans_l lin l1 lij (by omega) (by omega)
    rw [trn_2]; omega
  · intro hs
    have := cr_trans_r lij l1 lin (by omega) (by omega)
    rw [trn_2]; omega
theorem mod_succ {m j : Nat} (hm : 0 < m) : (j + 1) % m = if j % m + 1 = m then 0 else j % m + 1 := by
  have ht : j % m < m := Nat.mod_lt _ hm
  rw [← Nat.mod_add_mod]
  split
  · rename_i e; rw [e, Nat.mod_self]
  · exact Nat.mod_eq_of_lt (by omega)
/-- Two neighbours of the line's ring. -/
theorem flat_pair (h2 : 2 ≤ n) (j : Nat) : (∃ i, i + 1 < n ∧ gm (flatR n) j = i ∧ gm (flatR n) (j + 1) = i + 1 ∧ j % (2 * (n - 1)) = i) ∨ (∃ i, i + 1 < n ∧ gm (flatR n) j = i + 1 ∧ gm (flatR n) (j + 1) = i ∧ j % (2 * (n - 1)) = 2 * (n - 1) - (i + 1)) := by
  rw [flat_gm h2, flat_gm h2, mod_succ (show 0 < 2 * (n - 1) by omega)]
  have hj : j % (2 * (n - 1)) < 2 * (n - 1) := Nat.mod_lt _ (by omega)
  generalize j % (2 * (n - 1)) = i at *
  unfold flV
  by_cases c : i < n - 1
  · exact .inl ⟨i, by omega, by rw [if_pos (by omega)], by rw [if_neg (show ¬ (i + 1 = 2 * (n - 1)) by omega), if_pos (by omega)], rfl⟩
  · right
    refine ⟨2 * (n - 1) - i - 1, by omega, ?_, ?_, by omega⟩
    · split <;> omega
    · by_cases e : i + 1 = 2 * (n - 1)
      · rw [if_pos e, if_pos (by omega)]; omega
      · rw [if_neg e]; split <;> omega
theorem flat_rg (h : Line ps n) (hO : Ord ps) (hn : n ≤ ps.length) (h2 : 2 ≤ n) : Rg ps n (flatR n) where
  two := by rw [flat_len h2]; omega
  lt := fun j => by rcases flat_pair h2 j with ⟨i, hi, a, _⟩ | ⟨i, hi, a, _⟩ <;> rw [a] <;> omega
  ne := fun j => by rcases flat_pair h2 j with ⟨i, hi, a, b, _⟩ | ⟨i, hi, a, b, _⟩ <;> rw [a, b] <;> omega
  left := fun j d hd => by
    rcases flat_pair h2 j with ⟨i, hi, a, b, _⟩ | ⟨i, hi, a, b, _⟩ <;> rw [a, b, h.any hO hn h2 (by omega) (by omega) hd] <;> exact Int.le_refl _
  bet := fun j d hd _ hb => by
    unfold Btw at hb
    rcases flat_pair h2 j with ⟨i, hi, a, b, _⟩ | ⟨i, hi, a, b, _⟩ <;> rw [a, b] at hb <;> omega
  crn := fun j e => by
    rcases flat_pair h2 j with ⟨i, hi, a, b, _⟩ | ⟨i, hi, a, b, _⟩
    · rcases flat_pair h2 (j + 1) with ⟨i', hi', a', b', _⟩ | ⟨i', hi', a', b', c'⟩
      · rw [a', ] at b
        rw [show j + 1 + 1 = j + 2 from rfl] at b'
        rw [a, b'] at e; omega
      · left
        intro d hd
        have c := mod_succ (j := j) (show 0 < 2 * (n - 1) by omega)
        rcases flat_pair h2 j with ⟨i2, hi2, a2, b2, c2⟩ | ⟨i2, hi2, a2, b2, c2⟩
        · rw [b2]; rw [b2] at a'; split at c <;> omega
        · omega
    · rcases flat_pair h2 (j + 1) with ⟨i', hi', a', b', c'⟩ | ⟨i', hi', a', b', c'⟩
      · right
        intro d hd
        have c := mod_succ (j := j) (show 0 < 2 * (n - 1) by omega)
        rcases flat_pair h2 j with ⟨i2, hi2, a2, b2, c2⟩ | ⟨i2, hi2, a2, b2, c2⟩
        · omega
        · rw [b2]; rw [b2] at a'; split at c <;> omega
      · rw [show j + 1 + 1 = j + 2 from rfl] at b'
        rw [a, b'] at e; omega
theorem flat_sum {F : Nat → Nat → Int} (hF : ∀ x y, F y x = -F x y) (h2 : 2 ≤ n) : ChF F (flatR n) = 0 := by
  unfold ChF
  rw [flat_len h2, show 2 * (n - 1) = (n - 1) + (n - 1) by omega, sumN_split]
  have a1 : sumN (fun j => F (gm (flatR n) j) (gm (flatR n) (j + 1))) (n - 1) = sumN (fun j => F j (j + 1)) (n - 1) := sumN_congr fun j hj => by
    rcases flat_pair h2 j with ⟨i, hi, a, b, c⟩ | ⟨i, hi, a, b, c⟩
    · rw [Nat.mod_eq_of_lt (by omega)] at c; rw [a, b, c]
    · rw [Nat.mod_eq_of_lt (by omega)] at c; omega
  have a2 : sumN (fun j => F (gm (flatR n) (n - 1 + j)) (gm (flatR n) (n - 1 + j + 1))) (n - 1) = sumN (fun j => -F (n - 1 - 1 - j) (n - 1 - 1 - j + 1)) (n - 1) := sumN_congr fun j hj => by
    rcases flat_pair h2 (n - 1 + j) with ⟨i, hi, a, b, c⟩ | ⟨i, hi, a, b, c⟩
    · rw [Nat.mod_eq_of_lt (by omega)] at c; omega
    · rw [Nat.mod_eq_of_lt (by omega)] at c
      rw [a, b, hF i (i + 1), show i = n - 1 - 1 - j by omega]
  rw [a1, a2, sumN_neg]
  have := sumN_flip (n - 1) (fun j => F j (j + 1))
  rw [this]; omega
/-- The first point off the line. -/
theorem flat_add (h : Line ps n) (hO : Ord ps) (hn : n < ps.length) (h2 : 2 ≤ n) (hx : trn (gp ps 0) (gp ps 1) (gp ps n) ≠ 0) :
    Fat ps (n + 1) (ringTo ps (flatR n) n (flatR n).length) ∧ (newTo ps (flatR n) n (flatR n).length).length + (ringTo ps (flatR n) n (flatR n).length).length + 2 = 2 * (n + 1) ∧
    (∀ F : Nat → Nat → Int, (∀ x y, F y x = -F x y) → ChF F (ringTo ps (flatR n) n (flatR n).length) = TF F (newTo ps (flatR n) n (flatR n).length)) ∧
    ∀ t ∈ newTo ps (flatR n) n (flatR n).length, ptT t (n + 1) ∧ 0 < trnT ps t ∧ EmpT ps t := by
  have R := flat_rg h hO (Nat.le_of_lt hn) h2
  have L := flat_len h2
  have hc : ∀ j, gm (flatR n) j = gm (flatR n) (j + 2) → trn (gp ps (gm (flatR n) j)) (gp ps (gm (flatR n) (j + 1))) (gp ps n) ≠ 0 := fun j _ => by
    rcases flat_pair h2 j with ⟨i, hi, a, b, _⟩ | ⟨i, hi, a, b, _⟩
    · rw [a, b]
      have := h.sees hO hn h2 (i := i) (j := i + 1) (by omega) (by omega)
      omega
    · rw [a, b]
      have := h.sees hO hn h2 (i := i) (j := i + 1) (by omega) (by omega)
      have := trn_swap (gp ps (i + 1)) (gp ps i) (gp ps n)
      omega
  have gz : ∀ s i, rG (flatR n) s i = flV (n - 1) ((s + i) % (2 * (n - 1))) := fun s i => flat_gm h2 (s + i)
  rcases Int.lt_or_gt_of_ne hx with c | c
  · have hR : Run ps (flatR n) n 0 (n - 1) := ⟨by omega, by omega, by omega, fun i hi => by
      have e : rG (flatR n) 0 i = gm (flatR n) i := by unfold rG; rw [Nat.zero_add]
      have e' : rG (flatR n) 0 (i + 1) = gm (flatR n) (i + 1) := by unfold rG; rw [Nat.zero_add]
      rw [e, e']
      rw [L] at hi
      rcases flat_pair h2 i with ⟨k, hk, a, b, d⟩ | ⟨k, hk, a, b, d⟩
      · rw [Nat.mod_eq_of_lt hi] at d
        rw [a, b]
        have := (h.sees hO hn h2 (i := k) (j := k + 1) (by omega) (by omega)).1 c
        omega
      · rw [Nat.mod_eq_of_lt hi] at d
        rw [a, b]
        have := (h.sees hO hn h2 (i := k) (j := k + 1) (by omega) (by omega)).1 c
        have := trn_swap (gp ps (k + 1)) (gp ps k) (gp ps n)
        omega⟩
    obtain ⟨f1, f2, f3, f4, f5⟩ := R.add hO hn hR hc (fun i j hi hj hil hjl e => by
      rw [gz, gz, Nat.zero_add, Nat.zero_add] at e
      rw [L] at hil hjl
      rw [Nat.mod_eq_of_lt hil, Nat.mod_eq_of_lt hjl] at e
      unfold flV at e
      split at e <;> split at e <;> omega) ⟨0, .inl rfl, by omega, by rw [gz]; simp [flV]⟩
    refine ⟨f1, by omega, fun F hF => ?_, f5⟩
    rw [f4 F hF, flat_sum hF h2]; omega
  · have hR : Run ps (flatR n) n (n - 1) (n - 1) := ⟨by omega, by omega, by omega, fun i hi => by
      have e : rG (flatR n) (n - 1) i = gm (flatR n) (n - 1 + i) := rfl
      have e' : rG (flatR n) (n - 1) (i + 1) = gm (flatR n) (n - 1 + i + 1) := rfl
      rw [e, e']
      rw [L] at hi
      have hmod : (n - 1 + i) % (2 * (n - 1)) = if i < n - 1 then n - 1 + i else i - (n - 1) := by
        split
        · exact Nat.mod_eq_of_lt (by omega)
        · rw [Nat.mod_eq_sub_mod (by omega), Nat.mod_eq_of_lt (by omega)]; omega
      rcases flat_pair h2 (n - 1 + i) with ⟨k, hk, a, b, d⟩ | ⟨k, hk, a, b, d⟩
      · rw [hmod] at d
        rw [a, b]
        have := (h.sees hO hn h2 (i := k) (j := k + 1) (by omega) (by omega)).2 c
        split at d <;> omega
      · rw [hmod] at d
        rw [a, b]
        have := (h.sees hO hn h2 (i := k) (j := k + 1) (by omega) (by omega)).2 c
        have := trn_swap (gp ps (k + 1)) (gp ps k) (gp ps n)
        split at d <;> omega⟩
    have hmod : ∀ i, i < 2 * (n - 1) → (n - 1 + i) % (2 * (n - 1)) = if i < n - 1 then n - 1 + i else i - (n - 1) := fun i hi => by
      split
      · exact Nat.mod_eq_of_lt (by omega)
      · rw [Nat.mod_eq_sub_mod (by omega), Nat.mod_eq_of_lt (by omega)]; omega
    obtain ⟨f1, f2, f3, f4, f5⟩ := R.add hO hn hR hc (fun i j hi hj hil hjl e => by
      rw [gz, gz] at e
      rw [L] at hil hjl
      rw [hmod i hil, hmod j hjl] at e
      unfold flV at e
      split at e <;> split at e <;> split at e <;> split at e <;> omega) ⟨n - 1, .inr (Nat.le_refl _), by omega, by
        rw [gz, hmod _ (by omega), if_neg (by omega)]; simp [flV]⟩
    refine ⟨f1, by omega, fun F hF => ?_, f5⟩
    rw [f4 F hF, flat_sum hF h2]; omega
/-- The sweep behind the first n points (on one line): f points more. -/
def swS (ps : List Pt) (n : Nat) : Nat → List Nat × List Tri3
  | 0 => (flatR n, [])
  | f + 1 => (ringTo ps (swS ps n f).1 (n + f) (swS ps n f).1.length, (swS ps n f).2 ++ newTo ps (swS ps n f).1 (n + f) (swS ps n f).1.length)
theorem ptT.more {t : Tri3} {n m : Nat} (h : ptT t n) (hm : n ≤ m) : ptT t m := ⟨Nat.lt_of_lt_of_le h.1 hm, Nat.lt_of_lt_of_le h.2.1 hm, Nat.lt_of_lt_of_le h.2.2 hm⟩
theorem swS_main (h : Line ps n) (hO : Ord ps) (h2 : 2 ≤ n) (hx : trn (gp ps 0) (gp ps 1) (gp ps n) ≠ 0) : ∀ f, n + f < ps.length →
    Fat ps (n + f + 1) (swS ps n (f + 1)).1 ∧ (swS ps n (f + 1)).2.length + (swS ps n (f + 1)).1.length + 2 = 2 * (n + f + 1) ∧
    (∀ F : Nat → Nat → Int, (∀ x y, F y x = -F x y) → ChF F (swS ps n (f + 1)).1 = TF F (swS ps n (f + 1)).2) ∧
    ∀ t ∈ (swS ps n (f + 1)).2, ptT t (n + f + 1) ∧ 0 < trnT ps t ∧ EmpT ps t
  | 0, hf => by
    obtain ⟨a, b, c, d⟩ := flat_add h hO (show n < ps.length by omega) h2 hx
    show Fat ps (n + 1) (ringTo ps (flatR n) n (flatR n).length) ∧ ([] ++ newTo ps (flatR n) n (flatR n).length).length + _ + 2 = 2 * (n + 1) ∧ _
    rw [List.nil_append]
    exact ⟨a, b, c, d⟩
  | f + 1, hf => by
    obtain ⟨a, b, c, d⟩ := swS_main h hO h2 hx f (by omega)
    obtain ⟨s, k, hR⟩ := a.run hO (show n + f + 1 < ps.length by omega)
    have hk := hR.lt
    obtain ⟨f1, f2, f3, f4, f5⟩ := a.toRg.add hO (show n + f + 1 < ps.length by omega) hR (fun j e => absurd e (a.fat j)) (fun i j _ _ hi hj e => by
      have e1 : gm (swS ps n (f + 1)).1 ((s + i) % (swS ps n (f + 1)).1.length) = gm (swS ps n (f + 1)).1 ((s + j) % (swS ps n (f + 1)).1.length) := by rw [gm_mod, gm_mod]; exact e
      have e2 := gm_inj a.nodup (Nat.mod_lt _ (by omega)) (Nat.mod_lt _ (by omega)) e1
      have hs := hR.start
      rcases Nat.lt_or_ge (s + i) (swS ps n (f + 1)).1.length with p | p <;> rcases Nat.lt_or_ge (s + j) (swS ps n (f + 1)).1.length with q | q
      · rw [Nat.mod_eq_of_lt p, Nat.mod_eq_of_lt q] at e2; omega
      · rw [Nat.mod_eq_of_lt p, Nat.mod_eq_sub_mod q, Nat.mod_eq_of_lt (by omega)] at e2; omega
      · rw [Nat.mod_eq_of_lt q, Nat.mod_eq_sub_mod p, Nat.mod_eq_of_lt (by omega)] at e2; omega
      · rw [Nat.mod_eq_sub_mod p, Nat.mod_eq_of_lt (by omega), Nat.mod_eq_sub_mod q, Nat.mod_eq_of_lt (by omega)] at e2; omega) (by
      obtain ⟨j, hj⟩ := a.mn
      have hs := hR.start
      have m0 : 0 < (swS ps n (f + 1)).1.length := by omega
      -- the place of 0 as seen from s
      obtain ⟨i, hi, e⟩ : ∃ i, i < (swS ps n (f + 1)).1.length ∧ rG (swS ps n (f + 1)).1 s i = 0 := by
        have hjm : j % (swS ps n (f + 1)).1.length < (swS ps n (f + 1)).1.length := Nat.mod_lt _ m0
        rw [← gm_mod] at hj
        generalize j % (swS ps n (f + 1)).1.length = j' at *
        rcases Nat.lt_or_ge j' s with p | p
        · exact ⟨j' + (swS ps n (f + 1)).1.length - s, by omega, by unfold rG; rw [show s + (j' + (swS ps n (f + 1)).1.length - s) = j' + (swS ps n (f + 1)).1.length by omega, gm_add]; exact hj⟩
        · exact ⟨j' - s, by omega, by unfold rG; rw [show s + (j' - s) = j' by omega]; exact hj⟩
      by_cases c0 : i = 0 ∨ k ≤ i
      · exact ⟨i, c0, hi, e⟩
      · exfalso
        have s1 := (hR.at_ (i - 1) (by omega)).2 (by omega)
        have s2 := (hR.at_ i hi).2 (by omega)
        rw [show i - 1 + 1 = i by omega] at s1
        have g1 : gm (swS ps n (f + 1)).1 (s + (i - 1) + 1) = rG (swS ps n (f + 1)).1 s i := by rw [show s + (i - 1) + 1 = s + i by omega]; rfl
        have g2 : gm (swS ps n (f + 1)).1 (s + (i - 1) + 2) = rG (swS ps n (f + 1)).1 s (i + 1) := by rw [show s + (i - 1) + 2 = s + (i + 1) by omega]; rfl
        exact a.toRg.first_not hO (show n + f + 1 < ps.length by omega) (j := s + (i - 1)) (by rw [g1]; exact e) (by rw [g1]; exact s1) (by rw [g1, g2]; exact s2))
    refine ⟨f1, ?_, fun F hF => ?_, fun t ht => ?_⟩
    · show ((swS ps n (f + 1)).2 ++ newTo ps (swS ps n (f + 1)).1 (n + (f + 1)) (swS ps n (f + 1)).1.length).length + (ringTo ps (swS ps n (f + 1)).1 (n + (f + 1)) (swS ps n (f + 1)).1.length).length + 2 = 2 * (n + (f + 1) + 1)
      have e : n + (f + 1) = n + f + 1 := rfl
      rw [e, List.length_append]
      omega
    · show ChF F (ringTo ps (swS ps n (f + 1)).1 (n + f + 1) (swS ps n (f + 1)).1.length) = TF F ((swS ps n (f + 1)).2 ++ newTo ps (swS ps n (f + 1)).1 (n + f + 1) (swS ps n (f + 1)).1.length)
      rw [TF_app, ← c F hF, f4 F hF]
    · have ht : t ∈ (swS ps n (f + 1)).2 ++ newTo ps (swS ps n (f + 1)).1 (n + f + 1) (swS ps n (f + 1)).1.length := ht
      rcases List.mem_append.1 ht with ht | ht
      · obtain ⟨x, y, z⟩ := d t ht
        exact ⟨x.more (by omega), y, z⟩
      · exact f5 t ht
end
end Go.Proofs.Ytcebmcbglhkkfaa
