
/- The helpers of the laws that mark pairs and look for the marks (printed off XSorted and XMarkP by tools/genpair.py). -/
import Derived.Test.YtklbcmgkladdeaaHelp
import Derived.Test.YtklbcmgkladdeaaMarkP
import Derived.Test.YtklbcmgkladdeaaPairs
set_option linter.unusedVariables false
set_option linter.unusedSimpArgs false
namespace Go.Proofs.Ytklbcmgkladdeaa
open Go.RowKit
/-- The slice at A is a row of points of the call's own, at block base or later; its block may be longer. -/
def RRow (w : World) (base : Nat) (A : Option Addr) (ps : List Pt) : Prop :=
  0 < ps.length → ∃ g m f, A = some ⟨g, 0, none⟩ ∧ base ≤ g ∧ ps.length * 2 ≤ m ∧ RowAt w g 51 m f ∧ ∀ j, j < ps.length * 2 → f j = ptCell ps j
theorem RRow.nil (w : World) (base : Nat) (A : Option Addr) : RRow w base A [] := fun h => absurd h (Nat.lt_irrefl 0)
theorem RRow.below {w W : World} {base : Nat} {A : Option Addr} {ps : List Pt} (h : RRow w base A ps) (hb : Below w.heap.size w W) : RRow W base A ps := fun h0 => by
  obtain ⟨g, m, f, hA, hg, hm, hr, hf⟩ := h h0
  exact ⟨g, m, f, hA, hg, hm, hr.below hb hr.lt, hf⟩
theorem RRow.more {w : World} {base base' : Nat} {A : Option Addr} {ps : List Pt} (h : RRow w base A ps) (hb : base' ≤ base) : RRow w base' A ps := fun h0 => by
  obtain ⟨g, m, f, hA, hg, hm, hr, hf⟩ := h h0
  exact ⟨g, m, f, hA, Nat.le_trans hb hg, hm, hr, hf⟩
theorem RRow.pts {w : World} {base : Nat} {A : Option Addr} {ps : List Pt} (h : RRow w base A ps) : PtsAt w w.heap.size A ps := fun h0 => by
  obtain ⟨g, m, f, hA, hg, hm, hr, hf⟩ := h h0
  refine ⟨g, 0, hA, hr.lt, fun i hi => ?_⟩
  have h1 := hr.cell (j := i * 2) (by omega)
  have h2 := hr.cell (j := i * 2 + 1) (by omega)
  rw [hf _ (by omega), ptCell_even] at h1
  rw [hf _ (by omega), ptCell_odd] at h2
  rw [Nat.zero_add]
  exact ⟨h1, h2⟩
theorem OwnR.rrow {w : World} {base : Nat} {A : Option Addr} {n c : Nat} {ps : List Pt} (h : OwnR w base (.slice A n c) ps) : ps.length = n ∧ RRow w base A ps := by
  have hp := h.pts
  refine ⟨hp.1, fun h0 => ?_⟩
  have hh := h.head (by have := hp.1; omega)
  obtain ⟨gb, hA, hg, _, _, hcs⟩ := hh
  unfold OwnR at h
  rcases h.2 with ⟨hv, h1⟩ | ⟨g, cp, cur, hv, hg2, hgg, hnc, hcm, hsz, htk⟩
  · omega
  · injection hv with e1 e2 e3
    subst e1
    injection hA with hA
    injection hA with hA
    subst hA
    refine ⟨g, cur.size, fun j => cur.getD j undef, rfl, hg, by omega, ⟨cur, hgg, rfl, fun j hj => by simp [hj]⟩, fun j hj => ?_⟩
    obtain ⟨c1, c2⟩ := hcs (j / 2) (by have := hp.1; omega)
    rw [heap_cell hgg] at c1 c2
    show cur.getD j undef = _
    unfold ptCell
    rcases Nat.mod_two_eq_zero_or_one j with hm | hm
    · rw [if_pos hm]
      rw [show j / 2 * 2 = j from by omega] at c1
      rw [Array.getD_eq_getD_getElem?, c1]; rfl
    · rw [if_neg (by omega)]
      rw [show j / 2 * 2 + 1 = j from by omega] at c2
      rw [Array.getD_eq_getD_getElem?, c2]; rfl
theorem RRow.but {w W : World} {base g : Nat} {A : Option Addr} {ps : List Pt} (h : RRow w base A ps) (hb : But w W g) (hg : g < base) : RRow W base A ps := fun h0 => by
  obtain ⟨g', m, f, hA, hg', hm, hr, hf⟩ := h h0
  exact ⟨g', m, f, hA, hg', hm, hr.but hb (by omega), hf⟩
/-- The first n points of the row at A have been marked from 1 on. -/
def MarkedR (w : World) (base : Nat) (A : Option Addr) (n : Nat) : Prop := 0 < n → ∃ g m f, A = some ⟨g, 0, none⟩ ∧ base ≤ g ∧ n * 2 ≤ m ∧ RowAt w g 51 m (markCell 1 (n * 2) f)
theorem MarkedR.below {w W : World} {base : Nat} {A : Option Addr} {n : Nat} (h : MarkedR w base A n) (hb : Below w.heap.size w W) : MarkedR W base A n := fun h0 => by
  obtain ⟨g', m, f, hA, hg', hm, hr⟩ := h h0
  exact ⟨g', m, f, hA, hg', hm, hr.below hb hr.lt⟩
end Go.Proofs.Ytklbcmgkladdeaa
