
import Derived.Test.YtlggmjofglmjcaaDoorApp
import Derived.Test.YtlggmjofglmjcaaDoorHullK
import Derived.Lib.SliceRun
import Derived.BigQuiet
import Derived.Outline
import Derived.Test.YtlggmjofglmjcaaDoorSlay
import Derived.Test.YtlggmjofglmjcaaDoorOrd
import Derived.Test.YtlggmjofglmjcaaDoorFunc
/- The library's Compact at points that the call owns. -/
set_option linter.unusedVariables false
set_option linter.unusedSimpArgs false
namespace Go.Proofs.YtlggmjofglmjcaaDoor
open Go.RowKit

/-- The first t of ds, those left out that are as the one ahead of them. -/
def cmpL (ds : List Pt) : Nat → List Pt
  | 0 => []
  | t + 1 => if 1 ≤ t ∧ gp ds t = gp ds (t - 1) then cmpL ds t else cmpL ds t ++ [gp ds t]
theorem cmpL_len (ds : List Pt) : ∀ t, (cmpL ds t).length ≤ t
  | 0 => Nat.le_refl _
  | t + 1 => by
    have := cmpL_len ds t
    rw [cmpL]
    split
    · omega
    · rw [List.length_append]; simp; omega
theorem cmpL_all {ds : List Pt} : ∀ {t : Nat}, t ≤ ds.length → (∀ i, 1 ≤ i → i < t → gp ds i ≠ gp ds (i - 1)) → cmpL ds t = ds.take t
  | 0, _, _ => rfl
  | t + 1, ht, h => by
    rw [cmpL, if_neg (fun hh => h t hh.1 (by omega) hh.2), cmpL_all (by omega) (fun i h1 h2 => h i h1 (by omega)), gp_lt (by omega), List.take_succ_eq_append_getElem (by omega)]
theorem cmpL_mem {ds : List Pt} : ∀ {t : Nat} {q : Pt}, t ≤ ds.length → (q ∈ cmpL ds t ↔ ∃ i, i < t ∧ gp ds i = q)
  | 0, q, _ => by simp [cmpL]
  | t + 1, q, ht => by
    have ih := cmpL_mem (ds := ds) (t := t) (q := q) (by omega)
    rw [cmpL]
    split
    · rename_i hh
      rw [ih]
      constructor
      · rintro ⟨i, h1, h2⟩; exact ⟨i, by omega, h2⟩
      · rintro ⟨i, h1, h2⟩
        by_cases e : i = t
        · subst e; exact ⟨i - 1, by omega, by rw [← hh.2]; exact h2⟩
        · exact ⟨i, by omega, h2⟩
    · rw [List.mem_append, List.mem_singleton, ih]
      constructor
      · rintro (⟨i, h1, h2⟩ | h)
        · exact ⟨i, by omega, h2⟩
        · exact ⟨t, by omega, h.symm⟩
      · rintro ⟨i, h1, h2⟩
        by_cases e : i = t
        · subst e; exact .inr h2.symm
        · exact .inl ⟨i, by omega, h2⟩
theorem cmpL_asc {ds : List Pt} (hs : ∀ i j, i < j → j < ds.length → ¬ ltP (gp ds j) (gp ds i)) : ∀ {t : Nat}, t ≤ ds.length → Asc (cmpL ds t)
  | 0, _ => List.Pairwise.nil
  | t + 1, ht => by
    have ih := cmpL_asc hs (t := t) (by omega)
    rw [cmpL]
    split
    · exact ih
    · rename_i hh
      refine List.pairwise_append.2 ⟨ih, by simp, fun q hq r hr => ?_⟩
      rw [List.mem_singleton.1 hr]
      obtain ⟨i, hi, rfl⟩ := (cmpL_mem (by omega)).1 hq
      rcases ltP_tri (gp ds i) (gp ds t) with h | h | h
      · exact h
      · exfalso
        have h1 := hs (t - 1) t (by omega) (by omega)
        by_cases e : i = t - 1
        · subst e; exact hh ⟨by omega, h.symm⟩
        · have h2 := hs i (t - 1) (by omega) (by omega)
          rcases ltP_tri (gp ds t) (gp ds (t - 1)) with k | k | k
          · exact h1 k
          · exact hh ⟨by omega, k⟩
          · rw [← h] at k; exact h2 k
      · exact absurd h (hs i t hi (by omega))
/-- What clear lays. -/
theorem own_tail {g : Nat} {T : TypeId} (N : Nat) : ∀ (vs : List Value) (o : Nat) (w : World) (cur : Array Value), w.heap[g]? = some (.cells cur T (0, 0)) → N ≤ o →
    (∃ cur', (w.setCells g o vs).heap[g]? = some (.cells cur' T (0, 0)) ∧ cur'.size = cur.size ∧ cur'.toList.take N = cur.toList.take N) ∧ But w (w.setCells g o vs) g
  | [], o, w, cur, h, _ => ⟨⟨cur, h, rfl, rfl⟩, But.refl _ _⟩
  | v :: vs, o, w, cur, h, hN => by
    have h1 : (w.setCell ⟨g, o, none⟩ v).heap[g]? = some (.cells (cur.setIfInBounds o v) T (0, 0)) := by simp [World.setCell, Array.getElem?_modify, h]
    obtain ⟨⟨cur', k1, k2, k3⟩, k4⟩ := own_tail N vs (o + 1) _ _ h1 (by omega)
    refine ⟨⟨cur', k1, by rw [k2]; simp, ?_⟩, ?_⟩
    · rw [k3]
      have : (cur.setIfInBounds o v).toList = cur.toList.set o v := by simp
      rw [this, List.take_set_of_le (by omega)]
    · have hb := (But.refl w g).set o v
      exact ⟨k4.os, k4.tape, k4.output, k4.size.trans hb.size, fun k hk => (k4.block k hk).trans (hb.block k hk)⟩
theorem OwnP.clear {w : World} {base g : Nat} {n c : Nat} {ps : List Pt} (h : OwnP w base (.slice (some ⟨g, 0, none⟩) n c) ps) {k : Nat} (hk : k ≤ n) (vs : List Value) :
    OwnP (w.setCells g (k * 2) vs) base (.slice (some ⟨g, 0, none⟩) k c) (ps.take k) ∧ But w (w.setCells g (k * 2) vs) g := by
  have hl := h.pts.1
  unfold OwnP at h ⊢
  rcases h.2 with ⟨hv, h1⟩ | ⟨g', cap, cur, hv, hg, hgg, hnc, hcm, hsz, htk⟩
  · cases hv
  · injection hv with e1 e2 e3
    injection e1 with e1
    injection e1 with e1
    subst e1 e3
    obtain ⟨⟨cur', k1, k2, k3⟩, k4⟩ := own_tail (k * 2) vs (k * 2) w cur hgg (Nat.le_refl _)
    refine ⟨⟨by rw [ptVals_len], .inr ⟨g, c, cur', by rw [List.length_take, Nat.min_eq_left (by omega)], hg, k1, by rw [List.length_take]; omega, hcm, by rw [k2]; exact hsz, ?_⟩⟩, k4⟩
    rw [List.length_take, Nat.min_eq_left (by omega), k3, ← ptVals_take, ← htk, List.take_take, Nat.min_eq_left (by omega)]
end Go.Proofs.YtlggmjofglmjcaaDoor

/- The program's 'sorted': Clone, SortFunc, Compact, Clip at points. -/
set_option linter.unusedVariables false
set_option linter.unusedSimpArgs false
namespace Go.Proofs.YtlggmjofglmjcaaDoor
open Go.RowKit Go.Shelf Go.Sort Go.Lib

def encPt (p : Pt) : List Value := [.int .i64 p.x, .int .i64 p.y]
def cmpPt (p q : Pt) : Int := orI (sgn (p.x - q.x)) (sgn (p.y - q.y))
theorem cmpPt_lt (p q : Pt) : ltOf cmpPt p q = decide (ltP p q) := by
  unfold ltOf
  rw [Bool.eq_iff_iff, decide_eq_true_iff, decide_eq_true_iff]
  unfold cmpPt orI sgn ltP
  repeat' split
  all_goals (constructor <;> intro <;> omega)
theorem swoPt : SWO (ltOf cmpPt) where
  irrefl x := by rw [cmpPt_lt]; exact decide_eq_false (ltP_irr x)
  trans x y z h1 h2 := by rw [cmpPt_lt] at *; exact decide_eq_true (ltP_trans (of_decide_eq_true h1) (of_decide_eq_true h2))
  ntrans x y z h1 h2 := by
    rw [cmpPt_lt] at *
    have h1 := of_decide_eq_false h1
    have h2 := of_decide_eq_false h2
    exact decide_eq_false (by unfold ltP at *; omega)
theorem flat_get (qs : List Pt) (j : Nat) (h : j < qs.length * 2) : (flatK encPt 2 qs.toArray)[j]! = (ptVals qs)[j]'(by rw [ptVals_len]; exact h) := by
  rw [get_flatK encPt 2 qs.toArray j (by simpa using h)]
  have h2 : j / 2 < qs.length := by omega
  have e : qs.toArray[j / 2]! = gp qs (j / 2) := by
    rw [gp_lt h2]; simp [h2]
  rw [e]
  obtain ⟨q1, q2⟩ := ptVals_at qs (j / 2) h2
  have hj : j < (ptVals qs).length := by rw [ptVals_len]; exact h
  have : (ptVals qs)[j]? = some ((ptVals qs)[j]) := List.getElem?_eq_getElem hj
  rcases Nat.mod_two_eq_zero_or_one j with hm | hm
  · rw [show j / 2 * 2 = j from by omega, this] at q1
    injection q1 with q1
    rw [q1, hm]; rfl
  · rw [show j / 2 * 2 + 1 = j from by omega, this] at q2
    injection q2 with q2
    rw [q2, hm]; rfl
/-- The world behind the sort: the row holds qs. -/
theorem own_sorted {w : World} {base g n c : Nat} {ps qs : List Pt} (h : OwnP w base (.slice (some ⟨g, 0, none⟩) n c) ps) (hq : qs.length = n) (m : Nat) (os : Array Obj) :
    OwnP (sortWorldK encPt 2 w g 0 m qs.toArray os) base (.slice (some ⟨g, 0, none⟩) n c) qs ∧ Below base w (sortWorldK encPt 2 w g 0 m qs.toArray os) := by
  have hl := h.pts.1
  unfold OwnP at h ⊢
  rcases h.2 with ⟨hv, h1⟩ | ⟨g', cap, cur, hv, hg, hgg, hnc, hcm, hsz, htk⟩
  · cases hv
  · injection hv with e1 e2 e3
    injection e1 with e1
    injection e1 with e1
    subst e1 e3
    have glt := (Array.getElem?_eq_some_iff.1 hgg).1
    have hcell : (sortWorldK encPt 2 w g 0 m qs.toArray os).heap[g]? = some (.cells (putCells id 0 (flatK encPt 2 qs.toArray) cur) 57 (0, 0)) := by
      unfold sortWorldK
      rw [heap_grow_old _ _ (by rw [size_putRowK]; exact glt)]
      show ((Sort.ahead w m).heap.modify g _)[g]? = _
      rw [Array.getElem?_modify, if_pos rfl]
      show Option.map _ (w.heap[g]?) = _
      rw [hgg]; rfl
    refine ⟨⟨by rw [ptVals_len], .inr ⟨g, c, _, by rw [hq], hg, hcell, by omega, hcm, by simp [putCells, hsz], ?_⟩⟩, rfl, rfl, rfl, ?_, fun k hk => ?_⟩
    · apply List.ext_getElem
      · simp [putCells, ptVals_len]; omega
      · intro j h1 h2
        have hj : j < qs.length * 2 := by rw [← ptVals_len]; exact h2
        rw [List.getElem_take]
        simp only [putCells, Array.getElem_toList, Array.getElem_mapIdx, size_flatK, List.size_toArray]
        rw [if_pos (by omega), Nat.sub_zero, id_eq, flat_get qs j hj]
    · unfold sortWorldK
      show w.heap.size ≤ ((putRowK encPt 2 (Sort.ahead w m) g 0 qs.toArray).heap ++ os).size
      rw [Array.size_append, size_putRowK]
      exact Nat.le_add_right _ _
    · unfold sortWorldK
      rw [heap_grow_old _ _ (by rw [size_putRowK]; exact Nat.lt_of_lt_of_le hk (Nat.le_trans hg (Nat.le_of_lt glt)))]
      show ((Sort.ahead w m).heap.modify g _)[k]? = _
      rw [Array.getElem?_modify, if_neg (by omega)]; rfl
end Go.Proofs.YtlggmjofglmjcaaDoor
/- The program's 'sorted'. -/
set_option linter.unusedVariables false
set_option linter.unusedSimpArgs false
namespace Go.Proofs.YtlggmjofglmjcaaDoor
open Go.RowKit

/-- The slice at A is a row of points of the call's own, at block base or later; its block may be longer. -/
def PRow (w : World) (base : Nat) (A : Option Addr) (ps : List Pt) : Prop :=
  0 < ps.length → ∃ g m f, A = some ⟨g, 0, none⟩ ∧ base ≤ g ∧ ps.length * 2 ≤ m ∧ RowAt w g 57 m f ∧ ∀ j, j < ps.length * 2 → f j = ptCell ps j
theorem PRow.nil (w : World) (base : Nat) (A : Option Addr) : PRow w base A [] := fun h => absurd h (Nat.lt_irrefl 0)
theorem PRow.below {w W : World} {base : Nat} {A : Option Addr} {ps : List Pt} (h : PRow w base A ps) (hb : Below w.heap.size w W) : PRow W base A ps := fun h0 => by
  obtain ⟨g, m, f, hA, hg, hm, hr, hf⟩ := h h0
  exact ⟨g, m, f, hA, hg, hm, hr.below hb hr.lt, hf⟩
theorem PRow.more {w : World} {base base' : Nat} {A : Option Addr} {ps : List Pt} (h : PRow w base A ps) (hb : base' ≤ base) : PRow w base' A ps := fun h0 => by
  obtain ⟨g, m, f, hA, hg, hm, hr, hf⟩ := h h0
  exact ⟨g, m, f, hA, Nat.le_trans hb hg, hm, hr, hf⟩
theorem PRow.pts {w : World} {base : Nat} {A : Option Addr} {ps : List Pt} (h : PRow w base A ps) : PtsAt w w.heap.size A ps := fun h0 => by
  obtain ⟨g, m, f, hA, hg, hm, hr, hf⟩ := h h0
  refine ⟨g, 0, hA, hr.lt, fun i hi => ?_⟩
  have h1 := hr.cell (j := i * 2) (by omega)
  have h2 := hr.cell (j := i * 2 + 1) (by omega)
  rw [hf _ (by omega), ptCell_even] at h1
  rw [hf _ (by omega), ptCell_odd] at h2
  rw [Nat.zero_add]
  exact ⟨h1, h2⟩
theorem OwnP.prow {w : World} {base : Nat} {A : Option Addr} {n c : Nat} {ps : List Pt} (h : OwnP w base (.slice A n c) ps) : ps.length = n ∧ PRow w base A ps := by
  have hp := h.pts
  refine ⟨hp.1, fun h0 => ?_⟩
  have hh := h.head (by have := hp.1; omega)
  obtain ⟨gb, hA, hg, _, _, hcs⟩ := hh
  unfold OwnP at h
  rcases h.2 with ⟨hv, h1⟩ | ⟨g, cp, cur, hv, hg2, hgg, hnc, hcm, hsz, htk⟩
  · omega
  · injection hv with e1 e2 e3
    subst e1
    injection hA with hA
    injection hA with hA
    subst hA
    refine ⟨g, cur.size, fun j => cur.getD j undef, rfl, hg, by omega, ⟨cur, hgg, rfl, fun j hj => by simp [hj]⟩, fun j hj => ?_⟩
    obtain ⟨c1, c2⟩ := hcs (j / 2) (by have := hp.1; omega)
    rw [heap_cell hgg] at c1 c2
    show cur.getD j undef = _
    unfold ptCell
    rcases Nat.mod_two_eq_zero_or_one j with hm | hm
    · rw [if_pos hm]
      rw [show j / 2 * 2 = j from by omega] at c1
      rw [Array.getD_eq_getD_getElem?, c1]; rfl
    · rw [if_neg (by omega)]
      rw [show j / 2 * 2 + 1 = j from by omega] at c2
      rw [Array.getD_eq_getD_getElem?, c2]; rfl
/-- Where a slice lies: nil with nothing in it, or at a plain place. -/
def Plain (A : Option Addr) (n : Nat) : Prop := (A = none → n = 0) ∧ ∀ b o s, A = some ⟨b, o, s⟩ → s = none
theorem Plain.some {b o n : Nat} : Plain (some ⟨b, o, none⟩) n := ⟨(fun h => by cases h), (fun b o s h => by injection h with h; injection h with _ _ h; exact h.symm)⟩
theorem Plain.none {n : Nat} (h : n = 0) : Plain none n := ⟨fun _ => h, (fun b o s h => by cases h)⟩
theorem OwnP.form {w : World} {base : Nat} {A : Option Addr} {n c : Nat} {ps : List Pt} (h : OwnP w base (.slice A n c) ps) : Plain A n ∧ (A = none → c = 0) := by
  unfold OwnP at h
  rcases h.2 with ⟨hv, h1⟩ | ⟨g, cap, cur, hv, _⟩
  · injection hv with e1 e2 e3
    subst e1 e2 e3
    exact ⟨Plain.none rfl, fun _ => rfl⟩
  · injection hv with e1 e2 e3
    subst e1
    exact ⟨Plain.some, (fun h => by cases h)⟩
set_option maxHeartbeats 400000 in
theorem clipP_any (A : Option Addr) (n c : Nat) (w : World) (hn : n ≤ c) (hc : c ≤ 9223372036854775807) (hA : Plain A n) :
    Calls Tryd.prog 55 #[.slice A n c] w fun e w' => e = .returned (.slice A n n) ∧ w = w' := by
  cases A with
  | none =>
    have := hA.1 rfl
    subst this
    go_enter Tryd.func55, Tryd.ntmps55
    go_wp2
    go_ret
    exact ⟨rfl, rfl⟩
  | some a =>
    go_enter Tryd.func55, Tryd.ntmps55
    go_wp2
    go_ret
    exact ⟨rfl, rfl⟩
theorem sortP_of {ps qs : List Pt} (hp : qs.Perm ps) (hs : ∀ i j, i < j → j < qs.length → ¬ ltP (gp qs j) (gp qs i)) : cmpL qs qs.length = sortP ps :=
  asc_ext (cmpL_asc hs (Nat.le_refl _)) (sortP_asc ps) fun q => by
    rw [cmpL_mem (Nat.le_refl _), sortP_mem, ← hp.mem_iff]
    constructor
    · rintro ⟨i, hi, rfl⟩; exact gp_mem hi
    · intro h; exact gp_of_mem h
end Go.Proofs.YtlggmjofglmjcaaDoor
