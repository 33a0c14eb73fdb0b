
/- The program's 'sorted'. -/
import Derived.Test.YtelhidonhldjeaaSort
set_option linter.unusedVariables false
set_option linter.unusedSimpArgs false
namespace Go.Proofs.Ytelhidonhldjeaa
open Go.RowKit

/-- The slice at A is a row of points of the call's own, at block base or later; its block may be longer. -/
def PRow (w : World) (base : Nat) (A : Option Addr) (ps : List Pt) : Prop :=
  0 < ps.length → ∃ g m f, A = some ⟨g, 0, none⟩ ∧ base ≤ g ∧ ps.length * 2 ≤ m ∧ RowAt w g 39 m f ∧ ∀ j, j < ps.length * 2 → f j = ptCell ps j
theorem PRow.nil (w : World) (base : Nat) (A : Option Addr) : PRow w base A [] := fun h => absurd h (Nat.lt_irrefl 0)
theorem PRow.below {w W : World} {base : Nat} {A : Option Addr} {ps : List Pt} (h : PRow w base A ps) (hb : Below w.heap.size w W) : PRow W base A ps := fun h0 => by
  obtain ⟨g, m, f, hA, hg, hm, hr, hf⟩ := h h0
  exact ⟨g, m, f, hA, hg, hm, hr.below hb hr.lt, hf⟩
theorem PRow.more {w : World} {base base' : Nat} {A : Option Addr} {ps : List Pt} (h : PRow w base A ps) (hb : base' ≤ base) : PRow w base' A ps := fun h0 => by
  obtain ⟨g, m, f, hA, hg, hm, hr, hf⟩ := h h0
  exact ⟨g, m, f, hA, Nat.le_trans hb hg, hm, hr, hf⟩
theorem PRow.pts {w : World} {base : Nat} {A : Option Addr} {ps : List Pt} (h : PRow w base A ps) : PtsAt w w.heap.size A ps := fun h0 => by
  obtain ⟨g, m, f, hA, hg, hm, hr, hf⟩ := h h0
  refine ⟨g, 0, hA, hr.lt, fun i hi => ?_⟩
  have h1 := hr.cell (j := i * 2) (by omega)
  have h2 := hr.cell (j := i * 2 + 1) (by omega)
  rw [hf _ (by omega), ptCell_even] at h1
  rw [hf _ (by omega), ptCell_odd] at h2
  rw [Nat.zero_add]
  exact ⟨h1, h2⟩
theorem OwnP.prow {w : World} {base : Nat} {A : Option Addr} {n c : Nat} {ps : List Pt} (h : OwnP w base (.slice A n c) ps) : ps.length = n ∧ PRow w base A ps := by
  have hp := h.pts
  refine ⟨hp.1, fun h0 => ?_⟩
  have hh := h.head (by have := hp.1; omega)
  obtain ⟨gb, hA, hg, _, _, hcs⟩ := hh
  unfold OwnP at h
  rcases h.2 with ⟨hv, h1⟩ | ⟨g, cp, cur, hv, hg2, hgg, hnc, hcm, hsz, htk⟩
  · omega
  · injection hv with e1 e2 e3
    subst e1
    injection hA with hA
    injection hA with hA
    subst hA
    refine ⟨g, cur.size, fun j => cur.getD j undef, rfl, hg, by omega, ⟨cur, hgg, rfl, fun j hj => by simp [hj]⟩, fun j hj => ?_⟩
    obtain ⟨c1, c2⟩ := hcs (j / 2) (by have := hp.1; omega)
    rw [heap_cell hgg] at c1 c2
    show cur.getD j undef = _
    unfold ptCell
    rcases Nat.mod_two_eq_zero_or_one j with hm | hm
    · rw [if_pos hm]
      rw [show j / 2 * 2 = j from by omega] at c1
      rw [Array.getD_eq_getD_getElem?, c1]; rfl
    · rw [if_neg (by omega)]
      rw [show j / 2 * 2 + 1 = j from by omega] at c2
      rw [Array.getD_eq_getD_getElem?, c2]; rfl
/-- Where a slice lies: nil with nothing in it, or at a plain place. -/
def Plain (A : Option Addr) (n : Nat) : Prop := (A = none → n = 0) ∧ ∀ b o s, A = some ⟨b, o, s⟩ → s = none
theorem Plain.some {b o n : Nat} : Plain (some ⟨b, o, none⟩) n := ⟨(fun h => by cases h), (fun b o s h => by injection h with h; injection h with _ _ h; exact h.symm)⟩
theorem Plain.none {n : Nat} (h : n = 0) : Plain none n := ⟨fun _ => h, (fun b o s h => by cases h)⟩
theorem OwnP.form {w : World} {base : Nat} {A : Option Addr} {n c : Nat} {ps : List Pt} (h : OwnP w base (.slice A n c) ps) : Plain A n ∧ (A = none → c = 0) := by
  unfold OwnP at h
  rcases h.2 with ⟨hv, h1⟩ | ⟨g, cap, cur, hv, _⟩
  · injection hv with e1 e2 e3
    subst e1 e2 e3
    exact ⟨Plain.none rfl, fun _ => rfl⟩
  · injection hv with e1 e2 e3
    subst e1
    exact ⟨Plain.some, (fun h => by cases h)⟩
set_option maxHeartbeats 400000 in
theorem clipP_any (A : Option Addr) (n c : Nat) (w : World) (hn : n ≤ c) (hc : c ≤ 9223372036854775807) (hA : Plain A n) :
    Calls Try.prog 116 #[.slice A n c] w fun e w' => e = .returned (.slice A n n) ∧ w = w' := by
  cases A with
  | none =>
    have := hA.1 rfl
    subst this
    go_enter Try.func116, Try.ntmps116
    go_wp2
    go_ret
    exact ⟨rfl, rfl⟩
  | some a =>
    go_enter Try.func116, Try.ntmps116
    go_wp2
    go_ret
    exact ⟨rfl, rfl⟩
theorem cloneP_any (ps : List Pt) (A : Option Addr) (n c : Nat) (w : World) (hn : ps.length = n) (hm : n ≤ 1000) (hs : PtsAt w w.heap.size A ps) (hA : Plain A n) :
    Calls Try.prog 113 #[.slice A n c] w fun e w' => ∃ v, e = .returned v ∧ OwnP w' w.heap.size v ps ∧ Below w.heap.size w w' := by
  obtain ⟨i0, hi, hz0, hz1, hz2⟩ := info_parts ptElt.inf
  match A, hA, hs with
  | none, hA, hs =>
    have e := hA.1 rfl
    subst e
    have he : ps = [] := List.eq_nil_of_length_eq_zero hn
    subst he
    refine (AnyE.slices_Clone_nil Try.clonePt 0 c w).mono ?_
    rintro e w' ⟨rfl, rfl⟩
    exact ⟨_, rfl, OwnP.nil _ _, Below.refl _ _⟩
  | some ⟨b, o, s⟩, hA, hs =>
    have e := hA.2 b o s rfl
    subst e
    refine (AnyE.slices_Clone Try.clonePt i0 (.agg #[.int .i64 0, .int .i64 0]) 2 16 hi hz0 hz1 hz2 rfl (by decide) Try.sizeOf39 b o n c (ptVals ps) w (by rw [ptVals_len, hn]) (by unfold maxLen; omega) (by omega) (fun j u hu => ?_) (ptVals_one ps)).mono ?_
    · have := src_cells hs.src j u hu
      rwa [add_plain] at this
    · rintro e w' ⟨v, rfl, h1, _, h2⟩
      exact ⟨v, rfl, by unfold OwnP; rw [hn]; exact h1, h2⟩
theorem sortP_of {ps qs : List Pt} (hp : qs.Perm ps) (hs : ∀ i j, i < j → j < qs.length → ¬ ltP (gp qs j) (gp qs i)) : cmpL qs qs.length = sortP ps :=
  asc_ext (cmpL_asc hs (Nat.le_refl _)) (sortP_asc ps) fun q => by
    rw [cmpL_mem (Nat.le_refl _), sortP_mem, ← hp.mem_iff]
    constructor
    · rintro ⟨i, hi, rfl⟩; exact gp_mem hi
    · intro h; exact gp_of_mem h
set_option maxHeartbeats 400000 in
theorem compact0_any (A : Option Addr) (c : Nat) (w : World) : Calls Try.prog 117 #[.slice A 0 c] w fun e w' => e = .returned (.slice A 0 c) ∧ w = w' := by
  go_enter Try.func117, Try.ntmps117
  go_wp2
  go_ret
  exact ⟨rfl, rfl⟩
set_option maxHeartbeats 1000000 in
theorem sorted_any (ps : List Pt) (A : Option Addr) (n c : Nat) (w : World) (hn : ps.length = n) (hm : n ≤ 1000) (hs : PtsAt w w.heap.size A ps) (hA : Plain A n) :
    Calls Try.prog 65 #[.slice A n c] w fun e w' => ∃ A' n' c', e = .returned (.slice A' n' c') ∧ (sortP ps).length = n' ∧ n' ≤ c' ∧ c' ≤ 9223372036854775807 ∧ PRow w' w.heap.size A' (sortP ps) ∧ Plain A' n' ∧ ∃ x, w' = ext w x := by
  go_enter Try.func65, Try.ntmps65
  go_wp2_with fail
  refine (cloneP_any ps A n c _ hn hm hs hA).mono ?_
  rintro e w1 ⟨v, rfl, hown, hb1⟩
  obtain ⟨A1, n1, c1, rfl⟩ := hown.slice
  have hl1 := hown.pts.1
  have e1 : n1 = n := by omega
  subst e1
  by_cases h0 : n1 = 0
  · subst h0
    have he : ps = [] := List.eq_nil_of_length_eq_zero hl1
    subst he
    have F1 := hown.form
    have HB : Hid (∃ x, w1 = ext w x) := hide (ext_mk hb1)
    have hcc : c1 ≤ 9223372036854775807 := by have := hown.pts.2.2.1; unfold maxLen at this; exact this
    clear hown hb1
    go_wp2_with fail
    refine (AnyF.slices_SortFunc_none { Try.sortPt with } A1 c1 _ _).mono ?_
    rintro e w2 ⟨rfl, rfl⟩
    go_wp2_with (first | (go_at_call 117; refine (compact0_any _ _ _).mono ?_; rintro e w' ⟨rfl, rfl⟩) | (go_at_call 116; refine (clipP_any _ _ _ _ (Nat.zero_le _) hcc F1.1).mono ?_; rintro e w' ⟨rfl, rfl⟩))
    go_ret
    exact ⟨_, _, _, rfl, rfl, Nat.le_refl _, by omega, PRow.nil _ _ _, F1.1, HB.out⟩
  · obtain ⟨gb, rfl, g1, g2, _, _⟩ := hown.head (by omega)
    have OWN := hide hown
    have hs1 := hb1.size
    clear hown
    go_wp2_with fail
    refine (sort_any ps n1 c1 w.heap.size gb _ hm OWN.out).mono ?_
    rintro e w2 ⟨rfl, qs, hp, hso, hown2, hb2⟩
    have OWN2 := hide hown2
    have SO := hide (sortP_of hp hso)
    have hlq : qs.length = n1 := by rw [hp.length_eq]; exact hl1
    rw [hlq] at SO
    have hs2 := hb2.size
    clear hp hso hown2 hlq
    go_wp2_with fail
    refine (compact_any qs n1 c1 w.heap.size gb _ hm (by omega) (by omega) OWN2.out).mono ?_
    rintro e w3 ⟨v3, rfl, hown3, hb3⟩
    obtain ⟨A3, n3, c3, rfl⟩ := hown3.slice
    rw [SO.out] at hown3
    have P3 := hown3.prow
    have F3 := hown3.form
    have hc3 := hown3.pts.2
    have hc31 := hc3.1
    have hc32 : c3 ≤ 9223372036854775807 := by have := hc3.2.1; unfold maxLen at this; exact this
    have P3H := hide P3
    have HB : Hid (∃ x, w3 = ext w x) := hide (ext_mk ((hb1.trans hb2).trans hb3))
    clear hown3 hc3 P3
    go_wp2_with (go_at_call 116; refine (clipP_any _ _ _ _ hc31 hc32 F3.1).mono ?_; rintro e w' ⟨rfl, rfl⟩)
    go_ret
    exact ⟨_, _, _, rfl, P3H.out.1, Nat.le_refl _, by omega, P3H.out.2, F3.1, HB.out⟩
end Go.Proofs.Ytelhidonhldjeaa
