
/- Groups of vertices by color: plain. -/
import Derived.Test.YtkkmioffclpmfaaGreatChkTM
set_option linter.unusedVariables false
set_option linter.unusedSimpArgs false
namespace Go.Proofs.YtkkmioffclpmfaaGreat
open Go.RowKit

/-- The vertices ahead of i with color k. -/
def grpK (cs : List Int) (k : Int) : Nat → List Int
  | 0 => []
  | i + 1 => if gi cs i = k then grpK cs k i ++ [(i : Int)] else grpK cs k i
def grp (cs : List Int) (k : Int) : List Int := grpK cs k cs.length
def pickG (a b : List Int) : List Int := if b.length < a.length then b else a
def bestG (cs : List Int) : List Int := pickG (pickG (grp cs 0) (grp cs 1)) (grp cs 2)
/-- The best of the first groups. -/
def bstG (cs : List Int) : Nat → List Int
  | 0 => []
  | 1 => grp cs 0
  | k + 2 => pickG (bstG cs (k + 1)) (grp cs ((k + 1 : Nat) : Int))
theorem bstG_three (cs : List Int) : bstG cs 3 = bestG cs := rfl
theorem grpK_len (cs : List Int) (k : Int) : ∀ i, (grpK cs k i).length ≤ i
  | 0 => Nat.le_refl _
  | i + 1 => by
    have := grpK_len cs k i
    unfold grpK
    split
    · rw [List.length_append]; simp; exact this
    · omega
theorem grp_len (cs : List Int) (k : Int) : (grp cs k).length ≤ cs.length := grpK_len cs k _
theorem grpK_sum (cs : List Int) : ∀ i, (grpK cs 0 i).length + (grpK cs 1 i).length + (grpK cs 2 i).length ≤ i
  | 0 => Nat.le_refl _
  | i + 1 => by
    have := grpK_sum cs i
    unfold grpK
    by_cases h0 : gi cs i = 0
    · rw [if_pos h0, if_neg (by omega), if_neg (by omega), List.length_append]; simp; omega
    · rw [if_neg h0]
      by_cases h1 : gi cs i = 1
      · rw [if_pos h1, if_neg (by omega), List.length_append]; simp; omega
      · rw [if_neg h1]
        by_cases h2 : gi cs i = 2
        · rw [if_pos h2, List.length_append]; simp; omega
        · rw [if_neg h2]; omega
theorem mem_grpK {cs : List Int} {k x : Int} : ∀ {i : Nat}, x ∈ grpK cs k i ↔ ∃ j : Nat, j < i ∧ x = j ∧ gi cs j = k
  | 0 => by
    constructor
    · intro h; cases h
    · rintro ⟨j, hj, _⟩; omega
  | i + 1 => by
    unfold grpK
    constructor
    · intro h
      split at h
      · rename_i hk
        rcases List.mem_append.1 h with h | h
        · obtain ⟨j, hj, e⟩ := mem_grpK.1 h
          exact ⟨j, by omega, e⟩
        · exact ⟨i, by omega, List.mem_singleton.1 h, hk⟩
      · obtain ⟨j, hj, e⟩ := mem_grpK.1 h
        exact ⟨j, by omega, e⟩
    · rintro ⟨j, hj, e1, e2⟩
      by_cases hji : j = i
      · subst hji
        rw [if_pos e2]
        exact List.mem_append.2 (.inr (List.mem_singleton.2 e1))
      · have h := mem_grpK.2 ⟨j, show j < i by omega, e1, e2⟩
        split
        · exact List.mem_append.2 (.inl h)
        · exact h
theorem pickG_or (a b : List Int) : (pickG a b = a ∨ pickG a b = b) ∧ (pickG a b).length ≤ a.length ∧ (pickG a b).length ≤ b.length := by
  unfold pickG
  split
  · exact ⟨.inr rfl, by omega, Nat.le_refl _⟩
  · exact ⟨.inl rfl, Nat.le_refl _, by omega⟩
theorem bestG_is (cs : List Int) : ∃ k : Int, 0 ≤ k ∧ k ≤ 2 ∧ bestG cs = grp cs k := by
  unfold bestG
  rcases (pickG_or (pickG (grp cs 0) (grp cs 1)) (grp cs 2)).1 with h | h
  · rw [h]
    rcases (pickG_or (grp cs 0) (grp cs 1)).1 with h | h
    · exact ⟨0, by omega, by omega, h⟩
    · exact ⟨1, by omega, by omega, h⟩
  · exact ⟨2, by omega, by omega, h⟩
theorem bestG_third (cs : List Int) : (bestG cs).length * 3 ≤ cs.length := by
  have h1 := pickG_or (pickG (grp cs 0) (grp cs 1)) (grp cs 2)
  have h2 := pickG_or (grp cs 0) (grp cs 1)
  have h3 : (grp cs 0).length + (grp cs 1).length + (grp cs 2).length ≤ cs.length := grpK_sum cs _
  unfold bestG
  omega
theorem bstG_len (cs : List Int) : ∀ k, (bstG cs k).length ≤ cs.length
  | 0 => Nat.zero_le _
  | 1 => grp_len cs 0
  | k + 2 => Nat.le_trans (pickG_or (bstG cs (k + 1)) _).2.2 (grp_len cs _)
theorem bstG_next (cs : List Int) (k : Nat) : bstG cs (k + 1) = if k = 0 ∨ (grp cs (k : Int)).length < (bstG cs k).length then grp cs (k : Int) else bstG cs k := by
  match k with
  | 0 => rw [if_pos (.inl rfl)]; rfl
  | k + 1 =>
    show pickG (bstG cs (k + 1)) (grp cs ((k + 1 : Nat) : Int)) = _
    unfold pickG
    by_cases h : (grp cs ((k + 1 : Nat) : Int)).length < (bstG cs (k + 1)).length
    · rw [if_pos h, if_pos (.inr h)]
    · rw [if_neg h, if_neg (by omega)]
/-- What GuardsOf answers. -/
def grdV (ps : List Pt) : List Int := if clipB ps = true then bestG (colL ((triI ps).map toN) ps.length) else []
theorem triI_toN (ps : List Pt) : (triI ps).map toN = triL ps := map_toN_ofN _
structure TriCol (ps : List Pt) (ts : List TI) (cs : List Int) : Prop where
  len : cs.length = ps.length
  tri : ∀ j, j < ts.length → ∃ a b c : Nat, gt ts j = ⟨a, b, c⟩ ∧ a < ps.length ∧ b < ps.length ∧ c < ps.length ∧ gi cs a ≠ gi cs b ∧ gi cs b ≠ gi cs c ∧ gi cs a ≠ gi cs c
  rng : ∀ j, j < ps.length → 0 ≤ gi cs j ∧ gi cs j ≤ 2
  zero : gi cs 0 = 0
/-- The colors of accepted triangles. -/
theorem chk_col {ps : List Pt} {ts : List TI} (h : chkT ps ts = true) : TriCol ps ts (colL (ts.map toN) ps.length) := by
  obtain ⟨hok, hl, ht, _, _⟩ := chk_parts h
  have h0 : 0 < ps.length := by omega
  obtain ⟨c1, c2, c3, c4⟩ := col_found h0 (chk_in h) (chk_color h)
  refine ⟨c1, fun j hj => ?_, c3, c4⟩
  have hm := ht _ (gt_mem hj)
  have hin : tIn ps.length (gt ts j) = true := by
    unfold tOk at hm
    rw [Bool.and_eq_true] at hm
    exact hm.1
  obtain ⟨a, b, c, et, la, lb, lc⟩ := tIn_iff.1 hin
  have hd := fit_diff c2 (chk_in h) (fun j hj => (c3 j hj).1) (List.mem_map.2 ⟨_, gt_mem hj, rfl⟩)
  have e : toN (gt ts j) = ⟨a, b, c⟩ := by rw [et]; simp [toN]
  rw [e] at hd
  exact ⟨a, b, c, et, la, lb, lc, hd⟩
theorem three_cols {x y z k : Int} (hx : 0 ≤ x ∧ x ≤ 2) (hy : 0 ≤ y ∧ y ≤ 2) (hz : 0 ≤ z ∧ z ≤ 2) (h1 : x ≠ y) (h2 : y ≠ z) (h3 : x ≠ z) (hk : 0 ≤ k ∧ k ≤ 2) : x = k ∨ y = k ∨ z = k := by omega
/-- The vertices of one color see all triangles. -/
theorem grp_sees {ps : List Pt} {ts : List TI} {cs : List Int} (h : TriCol ps ts cs) {k : Int} (hk : 0 ≤ k ∧ k ≤ 2) {j : Nat} (hj : j < ts.length) : (gt ts j).a ∈ grp cs k ∨ (gt ts j).b ∈ grp cs k ∨ (gt ts j).c ∈ grp cs k := by
  obtain ⟨a, b, c, et, la, lb, lc, d1, d2, d3⟩ := h.tri j hj
  rw [et]
  rcases three_cols (h.rng a la) (h.rng b lb) (h.rng c lc) d1 d2 d3 hk with e | e | e
  · exact .inl (mem_grpK.2 ⟨a, by rw [h.len]; exact la, rfl, e⟩)
  · exact .inr (.inl (mem_grpK.2 ⟨b, by rw [h.len]; exact lb, rfl, e⟩))
  · exact .inr (.inr (mem_grpK.2 ⟨c, by rw [h.len]; exact lc, rfl, e⟩))
theorem grp_in {ps : List Pt} {ts : List TI} {cs : List Int} (h : TriCol ps ts cs) {k x : Int} (hx : x ∈ grp cs k) : 0 ≤ x ∧ x ≤ (ps.length : Int) - 1 := by
  obtain ⟨j, hj, rfl, _⟩ := mem_grpK.1 hx
  rw [h.len] at hj
  omega
theorem grdV_third (ps : List Pt) : (grdV ps).length * 3 ≤ ps.length := by
  unfold grdV
  split
  · rename_i h
    have := bestG_third (colL ((triI ps).map toN) ps.length)
    rw [(chk_col (tri_chk h)).len] at this
    exact this
  · simp
end Go.Proofs.YtkkmioffclpmfaaGreat
