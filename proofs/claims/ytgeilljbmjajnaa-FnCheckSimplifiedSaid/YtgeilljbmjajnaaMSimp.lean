/- The laws on simplified paths, in plain words: what is kept is accepted; a large tolerance keeps the ends; without one, what is left out lies on a segment. No program in sight. -/
import Derived.Test.YtgeilljbmjajnaaTop
set_option linter.unusedVariables false
set_option linter.unusedSimpArgs false
namespace Go.Proofs.Ytgeilljbmjajnaa
open Go.RowKit

/-- Each two neighbours of a list meet R. -/
def Chn (R : Int → Int → Prop) : List Int → Prop
  | [] => True
  | [_] => True
  | a :: b :: l => R a b ∧ Chn R (b :: l)
theorem Chn.join {R : Int → Int → Prop} {b : Int} {l2 : List Int} : ∀ {l1 : List Int}, Chn R (l1 ++ [b]) → Chn R (b :: l2) → Chn R (l1 ++ b :: l2)
  | [], _, h => h
  | [a], h, h' => ⟨h.1, h'⟩
  | a :: a' :: l, h, h' => ⟨h.1, Chn.join (l1 := a' :: l) h.2 h'⟩
theorem Chn.at {R : Int → Int → Prop} : ∀ {l : List Int}, Chn R l → ∀ i, i < l.length → 1 ≤ i → R (gi l (i - 1)) (gi l i)
  | [], _, i, hi, _ => by simp at hi
  | [a], _, i, hi, h1 => by simp at hi; omega
  | a :: b :: l, h, i, hi, h1 => by
    by_cases h2 : i = 1
    · subst h2; exact h.1
    · obtain ⟨k, rfl⟩ : ∃ k, i = k + 2 := ⟨i - 2, by omega⟩
      have := Chn.at h.2 (k + 1) (by simp at hi ⊢; omega) (by omega)
      simpa [gi] using this
theorem Chn.mono {R R' : Int → Int → Prop} (hr : ∀ a b, R a b → R' a b) : ∀ {l : List Int}, Chn R l → Chn R' l
  | [], _ => trivial
  | [_], _ => trivial
  | _ :: _ :: _, h => ⟨hr _ _ h.1, Chn.mono hr h.2⟩

theorem ibest_none {ps : List Pt} {most : Int} {f t : Nat} : ∀ {k : Nat}, ibest ps most f t k = none → ∀ i, i < k → ovB ps most f t (f + 1 + i) = false
  | 0, _, i, hi => by omega
  | k + 1, h, i, hi => by
    rw [ibest] at h
    cases hb : ibest ps most f t k with
    | none =>
      rw [hb] at h; simp only at h
      by_cases ho : ovB ps most f t (f + 1 + k) = true
      · rw [if_pos ho] at h; cases h
      · rcases Nat.lt_or_ge i k with h1 | h1
        · exact ibest_none hb i h1
        · have : i = k := by omega
          subst this; simpa using ho
    | some c =>
      rw [hb] at h; simp only at h
      split at h <;> cases h
def stepR (ps : List Pt) (most : Int) (a b : Int) : Prop := 0 ≤ a ∧ a < b ∧ b ≤ (ps.length : Int) - 1 ∧ spanOk ps most a.toNat b.toNat = true
theorem span_top {ps : List Pt} {most : Int} {f t : Nat} (hm : 0 ≤ most) (h : topOf ps most f t = none) : spanOk ps most f t = true := by
  refine span_yes fun j h1 h2 => ?_
  rcases Nat.lt_or_ge f j with h3 | h3
  · have := ibest_none h (j - (f + 1)) (by omega)
    rw [show f + 1 + (j - (f + 1)) = j from by omega] at this
    exact this
  · have : j = f := by omega
    subst this
    exact over_self hm _ _
theorem keep_chain {ps : List Pt} {most : Int} (hm : 0 ≤ most) : ∀ (d f t : Nat), t - f ≤ d → f < t → t < ps.length → Chn (stepR ps most) (((f : Int) :: keepOf ps most f t) ++ [(t : Int)])
  | 0, f, t, h, h1, _ => by omega
  | d + 1, f, t, h, h1, h2 => by
    cases hb : topOf ps most f t with
    | none =>
      rw [keepOf_none hb]
      exact ⟨⟨by omega, by omega, by omega, by simpa using span_top hm hb⟩, trivial⟩
    | some b =>
      have hbd := topOf_bd hb
      rw [keepOf_some hb]
      have e1 := keep_chain (ps := ps) (most := most) hm d f b (by omega) (by omega) (by omega)
      have e2 := keep_chain (ps := ps) (most := most) hm d b t (by omega) (by omega) (by omega)
      have := Chn.join (l1 := (f : Int) :: keepOf ps most f b) (b := (b : Int)) (l2 := keepOf ps most b t ++ [(t : Int)]) (by simpa using e1) (by simpa using e2)
      simpa using this
theorem simplifyOf_eq {ps : List Pt} {most : Int} (h1 : pathOk ps = true) (h2 : inB most 0 8000000 = true) : simplifyOf ps most = (0 :: keepOf ps most 0 (ps.length - 1)) ++ [((ps.length - 1 : Nat) : Int)] := by
  unfold simplifyOf; rw [h1, h2]; rfl
theorem gi_last (l : List Int) (x : Int) : gi (l ++ [x]) ((l ++ [x]).length - 1) = x := by
  unfold gi; rw [List.getD_eq_getElem?_getD]; simp
theorem simplify_chain {ps : List Pt} {most : Int} (h1 : pathOk ps = true) (h2 : inB most 0 8000000 = true) : Chn (stepR ps most) (simplifyOf ps most) := by
  have hl := pathOk_len h1
  rw [simplifyOf_eq h1 h2]
  have := keep_chain (ps := ps) (inB_iff.1 h2).1 (ps.length - 1) 0 (ps.length - 1) (by omega) (by omega) (by omega)
  simpa using this
/-- What is kept is accepted. -/
theorem check_simplify {ps : List Pt} {most : Int} (h1 : pathOk ps = true) (h2 : inB most 0 8000000 = true) : checkOk ps most (simplifyOf ps most) = true := by
  have hl := pathOk_len h1
  have hc := simplify_chain h1 h2
  refine checkOk_7 h1 h2 ?_ ?_ ?_ fun i hi h3 => ?_
  · rw [simplifyOf_eq h1 h2]; simp
  · rw [simplifyOf_eq h1 h2]; rfl
  · rw [simplifyOf_eq h1 h2, gi_last]; omega
  · obtain ⟨a1, a2, a3, a4⟩ := hc.at i hi h3
    unfold stepOk
    rw [a4, inB_iff.2 ⟨by omega, by omega⟩]; rfl
theorem simplify_ne {ps : List Pt} {most : Int} (h : simplifyOf ps most ≠ []) : pathOk ps = true ∧ inB most 0 8000000 = true := by
  unfold simplifyOf at h
  split at h
  · rename_i hh; simpa using hh
  · exact absurd rfl h

/-! ### a large tolerance -/
theorem lagrange (a b p : Pt) : trn a b p * trn a b p + inn a b p * inn a b p = dst a b * dst a p := by unfold trn inn dst; grind
theorem dev_le {a b p : Pt} (ha : inR a) (hb : inR b) (hp : inR p) : devN a b p ≤ 8000000 * devD a b p := by
  unfold devN devD
  split
  · have := dst_bd ha hp; omega
  · split
    · have := dst_bd hb hp; omega
    · have h1 := lagrange a b p
      have h2 := sq_nn (inn a b p)
      have h3 := dst_bd ha hp
      have h4 := dst_bd ha hb
      have h5 := Int.mul_le_mul_of_nonneg_left h3.2 h4.1
      have h6 : dst a b * 8000000 = 8000000 * dst a b := Int.mul_comm _ _
      omega
theorem big_none {ps : List Pt} (h : allOk ps = true) {f t : Nat} (hf : f < ps.length) (ht : t < ps.length) : ∀ k, f + 1 + k ≤ t → ibest ps 8000000 f t k = none
  | 0, _ => rfl
  | k + 1, hk => by
    rw [ibest, big_none h hf ht k (by omega)]
    simp only
    rw [if_neg]
    have := dev_le (inR_ok h hf) (inR_ok h ht) (inR_ok h (i := f + 1 + k) (by omega))
    unfold ovB devAtN devAtD
    simp only [decide_eq_true_eq]
    omega
theorem simplify_big {ps : List Pt} (h1 : pathOk ps = true) : simplifyOf ps 8000000 = [0, (ps.length : Int) - 1] := by
  have hl := pathOk_len h1
  rw [simplifyOf_eq h1 (inB_iff.2 ⟨by omega, by omega⟩), keepOf_none]
  · show [(0 : Int), ((ps.length - 1 : Nat) : Int)] = _
    rw [show ((ps.length - 1 : Nat) : Int) = (ps.length : Int) - 1 from by omega]
  · unfold topOf
    exact big_none (listOk_all (pathOk_list h1)) (by omega) (by omega) _ (by omega)

/-! ### what is accepted with a smaller tolerance, with a larger one too; all indices -/
theorem over_mono {m m' : Int} {a b p : Pt} (ha : inR a) (hb : inR b) (hm : m ≤ m') (h : over m a b p = false) : over m' a b p = false := by
  unfold over at *
  have h := of_decide_eq_false h
  have hd := (devD_bd (p := p) ha hb).1
  have := Int.mul_le_mul_of_nonneg_right hm (show 0 ≤ devD a b p by omega)
  exact decide_eq_false (by omega)
theorem span_at {ps : List Pt} {most : Int} {f t : Nat} (h : spanOk ps most f t = true) {j : Nat} (h1 : f < j) (h2 : j < t) : over most (gp ps f) (gp ps t) (gp ps j) = false := by
  unfold spanOk at h
  rw [Bool.not_eq_true', List.any_eq_false] at h
  have := h (j - (f + 1)) (List.mem_range.2 (by omega))
  rw [show f + 1 + (j - (f + 1)) = j from by omega, Bool.not_eq_true] at this
  exact this
theorem check_parts {ps : List Pt} {most : Int} {zs : List Int} (h : checkOk ps most zs = true) : pathOk ps = true ∧ inB most 0 8000000 = true ∧ 2 ≤ zs.length ∧ gi zs 0 = 0 ∧ gi zs (zs.length - 1) = ps.length - 1 ∧ ∀ i, i < zs.length → 1 ≤ i → stepOk ps most zs i = true := by
  unfold checkOk at h
  simp only [Bool.and_eq_true, decide_eq_true_eq] at h
  exact ⟨h.1, h.2.1, h.2.2.1, h.2.2.2.1, h.2.2.2.2.1, h.2.2.2.2.2⟩
theorem check_mono {ps : List Pt} {m m' : Int} {zs : List Int} (h : checkOk ps m zs = true) (hm : m ≤ m') (h8 : m' ≤ 8000000) : checkOk ps m' zs = true := by
  obtain ⟨h1, h2, h3, h4, h5, h6⟩ := check_parts h
  have hin := inB_iff.1 h2
  have hall := listOk_all (pathOk_list h1)
  have hl := pathOk_len h1
  have hbd := step_bd (ps := ps) (most := m) h4 (by omega) zs.length h6
  refine checkOk_7 h1 (inB_iff.2 ⟨by omega, by omega⟩) h3 h4 h5 fun i hi h7 => ?_
  have hs := h6 i hi h7
  unfold stepOk at hs ⊢
  simp only [Bool.and_eq_true] at hs ⊢
  refine ⟨hs.1, span_yes fun j h8 h9 => ?_⟩
  have b1 := hbd (i - 1) (by omega)
  have b2 := hbd i hi
  rcases Nat.lt_or_ge (gi zs (i - 1)).toNat j with h3 | h3
  · exact over_mono (inR_ok hall (by omega)) (inR_ok hall (by omega)) hm (span_at hs.2 h3 h9)
  · have : j = (gi zs (i - 1)).toNat := by omega
    subst this
    exact over_self (by omega) _ _
def allIdx (n : Nat) : List Int := (List.range n).map fun (i : Nat) => (i : Int)
theorem gi_all {n i : Nat} (h : i < n) : gi (allIdx n) i = i := by unfold gi allIdx; rw [List.getD_eq_getElem?_getD]; simp [h]
theorem allIdx_len (n : Nat) : (allIdx n).length = n := by simp [allIdx]
theorem allIdx_succ (n : Nat) : allIdx (n + 1) = allIdx n ++ [(n : Int)] := by simp [allIdx, List.range_succ]
theorem check_all {ps : List Pt} (h1 : pathOk ps = true) : checkOk ps 0 (allIdx ps.length) = true := by
  have hl := pathOk_len h1
  refine checkOk_7 h1 (inB_iff.2 ⟨by omega, by omega⟩) (by rw [allIdx_len]; omega) (by rw [gi_all (by omega)]; rfl) (by rw [allIdx_len, gi_all (by omega)]; omega) fun i hi h7 => ?_
  rw [allIdx_len] at hi
  unfold stepOk
  rw [gi_all hi, gi_all (by omega), inB_iff.2 ⟨by omega, by omega⟩]
  simp only [Bool.true_and]
  refine span_yes fun j h8 h9 => ?_
  have : j = ((i - 1 : Nat) : Int).toNat := by omega
  subst this
  exact over_self (by omega) _ _

/-! ### no tolerance -/
theorem over_zero {a b p : Pt} (hab : a ≠ b) (h : over 0 a b p = false) : onSeg a b p = true := by
  unfold over at h
  have h := of_decide_eq_false h
  have hs1 := sq_nn (a.x - p.x)
  have hs2 := sq_nn (a.y - p.y)
  have hs3 := sq_nn (b.x - p.x)
  have hs4 := sq_nn (b.y - p.y)
  have zz : ∀ u v : Int, u * u + v * v ≤ 0 → u = 0 ∧ v = 0 := fun u v huv => by
    refine ⟨Decidable.byContradiction fun hu => ?_, Decidable.byContradiction fun hv => ?_⟩
    · have := sq_pos hu; have := sq_nn v; omega
    · have := sq_pos hv; have := sq_nn u; omega
  unfold onSeg
  simp only [Bool.and_eq_true, decide_eq_true_eq]
  by_cases h1 : inn a b p ≤ 0
  · rw [devN_1 h1] at h
    obtain ⟨e1, e2⟩ := zz (p.x - a.x) (p.y - a.y) (by unfold dst at h; omega)
    have hx : p.x = a.x := by omega
    have hy : p.y = a.y := by omega
    unfold trn; rw [hx, hy]; simp
  · by_cases h2 : inn b a p ≤ 0
    · rw [devN_2 h1 h2] at h
      obtain ⟨e1, e2⟩ := zz (p.x - b.x) (p.y - b.y) (by unfold dst at h; omega)
      have hx : p.x = b.x := by omega
      have hy : p.y = b.y := by omega
      unfold trn; rw [hx, hy]; simp
      exact Int.sub_eq_zero.2 (Int.mul_comm _ _)
    · rw [devN_3 h1 h2] at h
      have h3 : trn a b p = 0 := Decidable.byContradiction fun hu => by have := sq_pos hu; omega
      refine ⟨h3, ?_⟩
      -- inn a b p * inn b a p = dst a b * (..) when trn = 0
      have key : inn a b p * inn b a p = -(dst a b * ((a.x - p.x) * (b.x - p.x) + (a.y - p.y) * (b.y - p.y))) + trn a b p * trn a b p := by unfold inn dst trn; grind
      rw [h3] at key
      have hp := Int.mul_pos (show 0 < inn a b p by omega) (show 0 < inn b a p by omega)
      have hd := dst_pos hab
      refine Decidable.byContradiction fun hc => ?_
      have := Int.mul_nonneg (show 0 ≤ dst a b by omega) (show 0 ≤ (a.x - p.x) * (b.x - p.x) + (a.y - p.y) * (b.y - p.y) by omega)
      omega
theorem exact_on {ps : List Pt} (h1 : pathOk ps = true) {k : Nat} (hk : k < (simplifyOf ps 0).length) (hk1 : 1 ≤ k) {i : Nat} (hi1 : gi (simplifyOf ps 0) (k - 1) < i) (hi2 : (i : Int) < gi (simplifyOf ps 0) k)
    (hne : gp ps (gi (simplifyOf ps 0) (k - 1)).toNat ≠ gp ps (gi (simplifyOf ps 0) k).toNat) : onSeg (gp ps (gi (simplifyOf ps 0) (k - 1)).toNat) (gp ps (gi (simplifyOf ps 0) k).toNat) (gp ps i) = true := by
  obtain ⟨a1, a2, a3, a4⟩ := (simplify_chain h1 (inB_iff.2 ⟨by omega, by omega⟩)).at k hk hk1
  exact over_zero hne (span_at a4 (by omega) (by omega))
end Go.Proofs.Ytgeilljbmjajnaa
