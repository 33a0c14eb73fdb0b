

/- The program's 'sorted': Clone, SortFunc, Compact, Clip at points. -/
import Derived.Test.YtelhidonhldjeaaSlay
import Derived.Test.YtelhidonhldjeaaOrd
import Derived.Test.YtelhidonhldjeaaVals
import Derived.Test.YtelhidonhldjeaaHullK
import Derived.Test.YtelhidonhldjeaaCompact
import Derived.Test.YtelhidonhldjeaaFunc
set_option linter.unusedVariables false
set_option linter.unusedSimpArgs false
namespace Go.Proofs.Ytelhidonhldjeaa
open Go.RowKit Go.Shelf Go.Sort Go.Lib

def encPt (p : Pt) : List Value := [.int .i64 p.x, .int .i64 p.y]
def cmpPt (p q : Pt) : Int := orI (sgn (p.x - q.x)) (sgn (p.y - q.y))
theorem cmpPt_lt (p q : Pt) : ltOf cmpPt p q = decide (ltP p q) := by
  unfold ltOf
  rw [Bool.eq_iff_iff, decide_eq_true_iff, decide_eq_true_iff]
  unfold cmpPt orI sgn ltP
  repeat' split
  all_goals (constructor <;> intro <;> omega)
theorem swoPt : SWO (ltOf cmpPt) where
  irrefl x := by rw [cmpPt_lt]; exact decide_eq_false (ltP_irr x)
  trans x y z h1 h2 := by rw [cmpPt_lt] at *; exact decide_eq_true (ltP_trans (of_decide_eq_true h1) (of_decide_eq_true h2))
  ntrans x y z h1 h2 := by
    rw [cmpPt_lt] at *
    have h1 := of_decide_eq_false h1
    have h2 := of_decide_eq_false h2
    exact decide_eq_false (by unfold ltP at *; omega)
set_option maxHeartbeats 400000 in
theorem comparePt_grow (a b c d : Int) (w : World) : Calls Try.prog 115 #[.agg #[.int .i64 a, .int .i64 b], .agg #[.int .i64 c, .int .i64 d]] w fun e w' => e = .returned (.int .i64 (orI (sgn (a - c)) (sgn (b - d)))) ∧ ∃ q os', w' = grow (w.drewN q) os' := by
  go_enter Try.func115, Try.ntmps115
  go_wp2
  go_region_held3 (fun W => W.cell? ⟨w.heap.size, 0, none⟩ = some (.int .i64 a) ∧ W.cell? ⟨w.heap.size, 1, none⟩ = some (.int .i64 b) ∧ W.cell? ⟨w.heap.size + 1, 0, none⟩ = some (.int .i64 c) ∧ W.cell? ⟨w.heap.size + 1, 1, none⟩ = some (.int .i64 d)) (refine ⟨?_, ?_, ?_, ?_⟩ <;> simp [go_sem, ↓IntWalk.iteOmega]) (first | (go_at_call 147; refine (Comparei_any _ _ _).mono ?_; rintro e w' ⟨rfl, rfl⟩) | (go_at_call 146; refine (Or_any (sgn (a - c)) (sgn (b - d)) _ _ _ (by simp [go_sem]) (by simp [go_sem])).mono ?_; rintro e w' ⟨rfl, rfl⟩))
  go_wp2
  go_returns
  exact ⟨rfl, 1, _, by rw [alloc_eq_grow, alloc_eq_grow, alloc_eq_grow, grow_grow, grow_grow]; rfl⟩
theorem cmpLaysPt (blk off size : Nat) (w : World) : CmpLays Try.prog 115 #[] encPt 2 cmpPt blk off size w := fun _ _ _ _ x y => comparePt_grow x.x x.y y.x y.y _
theorem flat_get (qs : List Pt) (j : Nat) (h : j < qs.length * 2) : (flatK encPt 2 qs.toArray)[j]! = (ptVals qs)[j]'(by rw [ptVals_len]; exact h) := by
  rw [get_flatK encPt 2 qs.toArray j (by simpa using h)]
  have h2 : j / 2 < qs.length := by omega
  have e : qs.toArray[j / 2]! = gp qs (j / 2) := by
    rw [gp_lt h2]; simp [h2]
  rw [e]
  obtain ⟨q1, q2⟩ := ptVals_at qs (j / 2) h2
  have hj : j < (ptVals qs).length := by rw [ptVals_len]; exact h
  have : (ptVals qs)[j]? = some ((ptVals qs)[j]) := List.getElem?_eq_getElem hj
  rcases Nat.mod_two_eq_zero_or_one j with hm | hm
  · rw [show j / 2 * 2 = j from by omega, this] at q1
    injection q1 with q1
    rw [q1, hm]; rfl
  · rw [show j / 2 * 2 + 1 = j from by omega, this] at q2
    injection q2 with q2
    rw [q2, hm]; rfl
/-- The world behind the sort: the row holds qs. -/
theorem own_sorted {w : World} {base g n c : Nat} {ps qs : List Pt} (h : OwnP w base (.slice (some ⟨g, 0, none⟩) n c) ps) (hq : qs.length = n) (m : Nat) (os : Array Obj) :
    OwnP (sortWorldK encPt 2 w g 0 m qs.toArray os) base (.slice (some ⟨g, 0, none⟩) n c) qs ∧ Below base w (sortWorldK encPt 2 w g 0 m qs.toArray os) := by
  have hl := h.pts.1
  unfold OwnP at h ⊢
  rcases h.2 with ⟨hv, h1⟩ | ⟨g', cap, cur, hv, hg, hgg, hnc, hcm, hsz, htk⟩
  · cases hv
  · injection hv with e1 e2 e3
    injection e1 with e1
    injection e1 with e1
    subst e1 e3
    have glt := (Array.getElem?_eq_some_iff.1 hgg).1
    have hcell : (sortWorldK encPt 2 w g 0 m qs.toArray os).heap[g]? = some (.cells (putCells id 0 (flatK encPt 2 qs.toArray) cur) 39 (0, 0)) := by
      unfold sortWorldK
      rw [heap_grow_old _ _ (by rw [size_putRowK]; exact glt)]
      show ((Sort.ahead w m).heap.modify g _)[g]? = _
      rw [Array.getElem?_modify, if_pos rfl]
      show Option.map _ (w.heap[g]?) = _
      rw [hgg]; rfl
    refine ⟨⟨by rw [ptVals_len], .inr ⟨g, c, _, by rw [hq], hg, hcell, by omega, hcm, by simp [putCells, hsz], ?_⟩⟩, rfl, rfl, rfl, ?_, fun k hk => ?_⟩
    · apply List.ext_getElem
      · simp [putCells, ptVals_len]; omega
      · intro j h1 h2
        have hj : j < qs.length * 2 := by rw [← ptVals_len]; exact h2
        rw [List.getElem_take]
        simp only [putCells, Array.getElem_toList, Array.getElem_mapIdx, size_flatK, List.size_toArray]
        rw [if_pos (by omega), Nat.sub_zero, id_eq, flat_get qs j hj]
    · unfold sortWorldK
      show w.heap.size ≤ ((putRowK encPt 2 (Sort.ahead w m) g 0 qs.toArray).heap ++ os).size
      rw [Array.size_append, size_putRowK]
      exact Nat.le_add_right _ _
    · unfold sortWorldK
      rw [heap_grow_old _ _ (by rw [size_putRowK]; exact Nat.lt_of_lt_of_le hk (Nat.le_trans hg (Nat.le_of_lt glt)))]
      show ((Sort.ahead w m).heap.modify g _)[k]? = _
      rw [Array.getElem?_modify, if_neg (by omega)]; rfl
theorem sort_any (ps : List Pt) (n c base g : Nat) (w : World) (hm : n ≤ 1000) (hown : OwnP w base (.slice (some ⟨g, 0, none⟩) n c) ps) :
    Calls Try.prog 114 #[.slice (some ⟨g, 0, none⟩) n c, .func (.func 115) #[] #[]] w fun e w' => e = .returned (.tuple #[]) ∧ ∃ qs : List Pt, qs.Perm ps ∧ (∀ i j, i < j → j < qs.length → ¬ ltP (gp qs j) (gp qs i)) ∧ OwnP w' base (.slice (some ⟨g, 0, none⟩) n c) qs ∧ Below base w w' := by
  have hl := hown.pts.1
  by_cases h0 : n = 0
  · subst h0
    have he : ps = [] := List.eq_nil_of_length_eq_zero hl
    subst he
    refine (AnyF.slices_SortFunc_none { Try.sortPt with } (some ⟨g, 0, none⟩) c _ w).mono ?_
    rintro e w' ⟨rfl, rfl⟩
    exact ⟨rfl, [], List.Perm.refl _, fun i j _ hj => by simp at hj, hown, Below.refl _ _⟩
  · obtain ⟨gb, hgb, g1, g2, hfr, hcs⟩ := hown.head (by omega)
    injection hgb with hgb
    injection hgb with hgb
    subst hgb
    have hH : HoldsK encPt 2 w g 0 ps.toArray := by
      intro j hj
      have hj' : j < ps.length * 2 := by simpa using hj
      refine ⟨?_, hfr _⟩
      rw [id_eq, flat_get ps j hj', Nat.zero_add]
      obtain ⟨c1, c2⟩ := hcs (j / 2) (by omega)
      obtain ⟨q1, q2⟩ := ptVals_at ps (j / 2) (by omega)
      have hjl : j < (ptVals ps).length := by rw [ptVals_len]; exact hj'
      rcases Nat.mod_two_eq_zero_or_one j with hm | hm
      · rw [show j / 2 * 2 = j from by omega] at q1 c1
        rw [List.getElem?_eq_getElem hjl] at q1
        rw [c1, ← q1]
      · rw [show j / 2 * 2 + 1 = j from by omega] at q2 c2
        rw [List.getElem?_eq_getElem hjl] at q2
        rw [c2, ← q2]
    have hcon := AnyQ.slices_SortFunc_total Try.sortPt 2 Try.isAgg39 Try.sizeOf39 encPt (fun _ => rfl) (fun x v hv => by simp [encPt] at hv; rcases hv with rfl | rfl <;> rfl) cmpPt swoPt 115 #[] g 0 c ps.toArray w
      (enters _ Try.func115 (by kernel_rfl) rfl) (cmpLaysPt g 0 _ w) hH g2 (by simp; omega) (fun x y h1 h2 => by
        rw [cmpPt_lt] at h1 h2
        have h1 := of_decide_eq_false h1
        have h2 := of_decide_eq_false h2
        rcases ltP_tri x y with h | h | h
        · exact absurd h h1
        · exact h
        · exact absurd h h2)
    simp only [List.size_toArray, hl] at hcon
    refine hcon.mono ?_
    rintro e w' ⟨rfl, m, os, rfl⟩
    have hp := List.mergeSort_perm ps fun x y => !ltOf cmpPt y x
    have hsrt : (ps.mergeSort fun x y => !ltOf cmpPt y x).Pairwise fun x y => (!ltOf cmpPt y x) = true := by
      apply List.pairwise_mergeSort
      · intro a b c h1 h2
        rw [cmpPt_lt] at *
        simp only [Bool.not_eq_true', decide_eq_false_iff_not] at *
        unfold ltP at *; omega
      · intro a b
        rw [cmpPt_lt, cmpPt_lt]
        rcases ltP_tri a b with h | h | h
        · have := ltP_asymm h; simp [this]
        · subst h; simp [ltP_irr]
        · have := ltP_asymm h; simp [this]
    have hlq : (ps.mergeSort fun x y => !ltOf cmpPt y x).length = n := by rw [hp.length_eq, hl]
    obtain ⟨k1, k2⟩ := own_sorted hown hlq m os
    refine ⟨rfl, _, hp, fun i j hij hj => ?_, k1, k2⟩
    have := List.pairwise_iff_getElem.1 hsrt i j (by omega) hj hij
    rw [cmpPt_lt] at this
    rw [gp_lt hj, gp_lt (by omega)]
    simpa using this
end Go.Proofs.Ytelhidonhldjeaa
