
/- MinkowskiSum: the reference's and the program's. -/
import Derived.Test.YtoendanihhocjaaHullI
import Derived.Test.YtoendanihhocjaaSums
set_option linter.unusedVariables false
set_option linter.unusedSimpArgs false
namespace Go.Proofs.Ytoendanihhocjaa
open Go.RowKit

def bothL (a b : List Pt) : Bool := listOk a && listOk b && decide (0 < a.length) && decide (0 < b.length)
def minkOf (a b : List Pt) : List Pt × Bool := if (bothL a b && allOk (hullOf (sumsL a b))) = true then (hullOf (sumsL a b), true) else ([], false)
theorem minkOf_no {a b : List Pt} (h : bothL a b = false) : minkOf a b = ([], false) := by unfold minkOf; rw [h]; simp
theorem lOk_len {a : List Pt} (h : listOk a = true) : a.length ≤ 20 := by unfold listOk at h; simp at h; exact h.1
theorem lOk_all {a : List Pt} (h : listOk a = true) : allOk a = true := by unfold listOk at h; simp at h; exact h.2
theorem allOk_InB {a : List Pt} (h : allOk a = true) : InB a := fun p hp => by
  have := vP_iff.1 (List.all_eq_true.1 h p hp)
  omega
theorem InB_sums {a b : List Pt} (h1 : allOk a = true) (h2 : allOk b = true) : InB (sumsL a b) := fun r hr => by
  obtain ⟨p, q, hp, hq, rfl⟩ := sumsL_mem.1 hr
  have := vP_iff.1 (List.all_eq_true.1 h1 p hp)
  have := vP_iff.1 (List.all_eq_true.1 h2 q hq)
  unfold addP
  simp only
  omega
set_option maxHeartbeats 1000000 in
theorem bothOk_any (a b : List Pt) (A1 A2 : Option Addr) (n1 c1 n2 c2 : Nat) (w : World) (h1 : a.length = n1) (h2 : b.length = n2) (m1 : n1 ≤ 2000000) (m2 : n2 ≤ 2000000) (s1 : PtsAt w w.heap.size A1 a) (s2 : PtsAt w w.heap.size A2 b) :
    Calls Try.prog 48 #[.slice A1 n1 c1, .slice A2 n2 c2] w fun e w' => e = .returned (.bool (bothL a b)) ∧ ∃ x, w' = ext w x := by
  have HB : Hid (bothL a b = (listOk a && listOk b && decide (0 < n1) && decide (0 < n2))) := hide (by unfold bothL; rw [h1, h2])
  by_cases ha : listOk a = true
  · have HC1 : Hid (∀ W, Below w.heap.size w W → Calls Try.prog 39 #[.slice A1 n1 c1] W fun e w' => e = .returned (.bool true) ∧ ∃ m, w' = ext W m) := hide (fun W hbw => (listOk_any a A1 n1 c1 W h1 m1 (s1.to hbw)).mono (fun e w' hh => ⟨by rw [hh.1, ha], hh.2⟩))
    by_cases hb : listOk b = true
    · have HC2 : Hid (∀ W, Below w.heap.size w W → Calls Try.prog 39 #[.slice A2 n2 c2] W fun e w' => e = .returned (.bool true) ∧ ∃ m, w' = ext W m) := hide (fun W hbw => (listOk_any b A2 n2 c2 W h2 m2 (s2.to hbw)).mono (fun e w' hh => ⟨by rw [hh.1, hb], hh.2⟩))
      by_cases hz1 : 0 < n1 <;> by_cases hz2 : 0 < n2
      all_goals
        have R := hide HB.out
        rw [ha, hb] at R
        have RR := hide R.out
        clear HB ha hb h1 h2 s1 s2
        go_enter Try.func48, Try.ntmps48
        go_wp2_with fail
        refine (HC1.out _ (by (repeat' (first | (with_reducible exact Below.refl _ _) | (with_reducible assumption) | (with_reducible refine below_ext _ ?_ ?_) | (with_reducible refine Below.alloc ?_ ?_ _) | (with_reducible refine Below.drew ?_) | (with_reducible refine below_drewN ?_ _) | (with_reducible refine le_drewN _ ?_) | (with_reducible refine Below.setCell ?_ ?_ _) | (with_reducible exact Nat.le_refl _) | (with_reducible refine le_ext _ ?_) | (with_reducible refine le_alloc _ ?_) | (with_reducible refine le_setCell _ _ ?_) | (with_reducible refine le_drew ?_) | omega | (simp; done) | (simp; omega))))).mono ?_
        rintro e w' ⟨rfl, hw'⟩; have hzy := ext_sz hw'; obtain ⟨y, rfl⟩ := hw'; (try simp at hzy)
        go_wp2_with fail
        refine (HC2.out _ (by (repeat' (first | (with_reducible exact Below.refl _ _) | (with_reducible assumption) | (with_reducible refine below_ext _ ?_ ?_) | (with_reducible refine Below.alloc ?_ ?_ _) | (with_reducible refine Below.drew ?_) | (with_reducible refine below_drewN ?_ _) | (with_reducible refine le_drewN _ ?_) | (with_reducible refine Below.setCell ?_ ?_ _) | (with_reducible exact Nat.le_refl _) | (with_reducible refine le_ext _ ?_) | (with_reducible refine le_alloc _ ?_) | (with_reducible refine le_setCell _ _ ?_) | (with_reducible refine le_drew ?_) | omega | (simp; done) | (simp; omega))))).mono ?_
        rintro e w' ⟨rfl, hw'⟩; have hzy2 := ext_sz hw'; obtain ⟨y2, rfl⟩ := hw'; (try simp at hzy2)
        go_wp2_with fail
        go_ret
        exact ⟨ret_bool (by rw [RR.out]; simp; omega), (ext_mk (by (repeat' (first | (with_reducible exact Below.refl _ _) | (with_reducible assumption) | (with_reducible refine below_ext _ ?_ ?_) | (with_reducible refine Below.alloc ?_ ?_ _) | (with_reducible refine Below.drew ?_) | (with_reducible refine below_drewN ?_ _) | (with_reducible refine le_drewN _ ?_) | (with_reducible refine Below.setCell ?_ ?_ _) | (with_reducible exact Nat.le_refl _) | (with_reducible refine le_ext _ ?_) | (with_reducible refine le_alloc _ ?_) | (with_reducible refine le_setCell _ _ ?_) | (with_reducible refine le_drew ?_) | omega | (simp; done) | (simp; omega)))))⟩
    · have hb := eq_false_of_ne_true hb
      have HC2 : Hid (∀ W, Below w.heap.size w W → Calls Try.prog 39 #[.slice A2 n2 c2] W fun e w' => e = .returned (.bool false) ∧ ∃ m, w' = ext W m) := hide (fun W hbw => (listOk_any b A2 n2 c2 W h2 m2 (s2.to hbw)).mono (fun e w' hh => ⟨by rw [hh.1, hb], hh.2⟩))
      have RR : Hid (bothL a b = false) := hide (by rw [HB.out, hb]; simp)
      clear HB ha hb h1 h2 s1 s2
      go_enter Try.func48, Try.ntmps48
      go_wp2_with fail
      refine (HC1.out _ (by (repeat' (first | (with_reducible exact Below.refl _ _) | (with_reducible assumption) | (with_reducible refine below_ext _ ?_ ?_) | (with_reducible refine Below.alloc ?_ ?_ _) | (with_reducible refine Below.drew ?_) | (with_reducible refine below_drewN ?_ _) | (with_reducible refine le_drewN _ ?_) | (with_reducible refine Below.setCell ?_ ?_ _) | (with_reducible exact Nat.le_refl _) | (with_reducible refine le_ext _ ?_) | (with_reducible refine le_alloc _ ?_) | (with_reducible refine le_setCell _ _ ?_) | (with_reducible refine le_drew ?_) | omega | (simp; done) | (simp; omega))))).mono ?_
      rintro e w' ⟨rfl, hw'⟩; have hzy := ext_sz hw'; obtain ⟨y, rfl⟩ := hw'; (try simp at hzy)
      go_wp2_with fail
      refine (HC2.out _ (by (repeat' (first | (with_reducible exact Below.refl _ _) | (with_reducible assumption) | (with_reducible refine below_ext _ ?_ ?_) | (with_reducible refine Below.alloc ?_ ?_ _) | (with_reducible refine Below.drew ?_) | (with_reducible refine below_drewN ?_ _) | (with_reducible refine le_drewN _ ?_) | (with_reducible refine Below.setCell ?_ ?_ _) | (with_reducible exact Nat.le_refl _) | (with_reducible refine le_ext _ ?_) | (with_reducible refine le_alloc _ ?_) | (with_reducible refine le_setCell _ _ ?_) | (with_reducible refine le_drew ?_) | omega | (simp; done) | (simp; omega))))).mono ?_
      rintro e w' ⟨rfl, hw'⟩; have hzy2 := ext_sz hw'; obtain ⟨y2, rfl⟩ := hw'; (try simp at hzy2)
      go_wp2_with fail
      go_ret
      exact ⟨ret_bool RR.out.symm, (ext_mk (by (repeat' (first | (with_reducible exact Below.refl _ _) | (with_reducible assumption) | (with_reducible refine below_ext _ ?_ ?_) | (with_reducible refine Below.alloc ?_ ?_ _) | (with_reducible refine Below.drew ?_) | (with_reducible refine below_drewN ?_ _) | (with_reducible refine le_drewN _ ?_) | (with_reducible refine Below.setCell ?_ ?_ _) | (with_reducible exact Nat.le_refl _) | (with_reducible refine le_ext _ ?_) | (with_reducible refine le_alloc _ ?_) | (with_reducible refine le_setCell _ _ ?_) | (with_reducible refine le_drew ?_) | omega | (simp; done) | (simp; omega)))))⟩
  · have ha := eq_false_of_ne_true ha
    have HC1 : Hid (∀ W, Below w.heap.size w W → Calls Try.prog 39 #[.slice A1 n1 c1] W fun e w' => e = .returned (.bool false) ∧ ∃ m, w' = ext W m) := hide (fun W hbw => (listOk_any a A1 n1 c1 W h1 m1 (s1.to hbw)).mono (fun e w' hh => ⟨by rw [hh.1, ha], hh.2⟩))
    have RR : Hid (bothL a b = false) := hide (by rw [HB.out, ha]; simp)
    clear HB ha h1 h2 s1 s2
    go_enter Try.func48, Try.ntmps48
    go_wp2_with fail
    refine (HC1.out _ (by (repeat' (first | (with_reducible exact Below.refl _ _) | (with_reducible assumption) | (with_reducible refine below_ext _ ?_ ?_) | (with_reducible refine Below.alloc ?_ ?_ _) | (with_reducible refine Below.drew ?_) | (with_reducible refine below_drewN ?_ _) | (with_reducible refine le_drewN _ ?_) | (with_reducible refine Below.setCell ?_ ?_ _) | (with_reducible exact Nat.le_refl _) | (with_reducible refine le_ext _ ?_) | (with_reducible refine le_alloc _ ?_) | (with_reducible refine le_setCell _ _ ?_) | (with_reducible refine le_drew ?_) | omega | (simp; done) | (simp; omega))))).mono ?_
    rintro e w' ⟨rfl, hw'⟩; have hzy := ext_sz hw'; obtain ⟨y, rfl⟩ := hw'; (try simp at hzy)
    go_wp2_with fail
    go_ret
    exact ⟨ret_bool RR.out.symm, (ext_mk (by (repeat' (first | (with_reducible exact Below.refl _ _) | (with_reducible assumption) | (with_reducible refine below_ext _ ?_ ?_) | (with_reducible refine Below.alloc ?_ ?_ _) | (with_reducible refine Below.drew ?_) | (with_reducible refine below_drewN ?_ _) | (with_reducible refine le_drewN _ ?_) | (with_reducible refine Below.setCell ?_ ?_ _) | (with_reducible exact Nat.le_refl _) | (with_reducible refine le_ext _ ?_) | (with_reducible refine le_alloc _ ?_) | (with_reducible refine le_setCell _ _ ?_) | (with_reducible refine le_drew ?_) | omega | (simp; done) | (simp; omega)))))⟩
theorem sums_20 {a b : List Pt} (h : bothL a b = true) : a.length ≤ 20 ∧ b.length ≤ 20 ∧ (sumsL a b).length ≤ 1000 ∧ InB a ∧ InB b ∧ InB (sumsL a b) := by
  unfold bothL at h
  simp only [Bool.and_eq_true] at h
  obtain ⟨⟨⟨ha, hb⟩, _⟩, _⟩ := h
  have la := lOk_len ha
  have lb := lOk_len hb
  have := Nat.mul_le_mul la lb
  exact ⟨la, lb, by rw [sumsL_len]; omega, allOk_InB (lOk_all ha), allOk_InB (lOk_all hb), InB_sums (lOk_all ha) (lOk_all hb)⟩
theorem minkOf_yes {a b : List Pt} (h : bothL a b = true) (h2 : allOk (hullOf (sumsL a b)) = true) : minkOf a b = (hullOf (sumsL a b), true) := by unfold minkOf; rw [h, h2]; simp
theorem minkOf_bad {a b : List Pt} (h2 : allOk (hullOf (sumsL a b)) = false) : minkOf a b = ([], false) := by unfold minkOf; rw [h2]; simp
set_option maxHeartbeats 1000000 in
theorem iMink_any (a b : List Pt) (A1 A2 : Option Addr) (n1 c1 n2 c2 : Nat) (w : World) (h1 : a.length = n1) (h2 : b.length = n2) (m1 : n1 ≤ 2000000) (m2 : n2 ≤ 2000000) (s1 : PtsAt w w.heap.size A1 a) (s2 : PtsAt w w.heap.size A2 b) :
    Calls Try.prog 22 #[.slice A1 n1 c1, .slice A2 n2 c2] w fun e w' => ∃ A' n' c', e = .returned (.tuple #[.slice A' n' c', .bool (minkOf a b).2]) ∧ (minkOf a b).1.length = n' ∧ n' ≤ c' ∧ c' ≤ 9223372036854775807 ∧ PRow w' w.heap.size A' (minkOf a b).1 ∧ Plain A' n' ∧ ∃ x, w' = ext w x := by
  have HB := hide (bothOk_any a b A1 A2 n1 c1 n2 c2 w h1 h2 m1 m2 s1 s2)
  by_cases hB : bothL a b = true
  · obtain ⟨la, lb, ls, ba, bb, bs⟩ := sums_20 hB
    have HS := hide (fun W (hb : Below w.heap.size w W) => sums_any a b A1 A2 n1 c1 n2 c2 W h1 h2 (by omega) (by omega) ba bb (s1.to hb) (s2.to hb))
    have hBH := hide hB
    rw [hB] at HB
    have HB2 := hide HB.out
    clear HB hB h1 h2 s1 s2
    have HV := hide (fun A4 n4 c4 W l4 l4m hW => allValid_any (hullOf (sumsL a b)) A4 n4 c4 W l4 l4m hW)
    have HLN := hide (hullOf_len' (sumsL a b))
    by_cases hV : allOk (hullOf (sumsL a b)) = true
    · have M := hide (minkOf_yes hBH.out hV)
      rw [hV] at HV
      have HV2 := hide HV.out
      clear HV hV
      rw [M.out]
      go_enter Try.func22, Try.ntmps22
      go_wp2_with fail
      refine HB2.out.mono ?_
      rintro e w' ⟨rfl, hw'⟩; have hzy := ext_sz hw'; obtain ⟨y, rfl⟩ := hw'; (try simp at hzy)
      go_wp2_with fail
      refine (HS.out _ (by (repeat' (first | (with_reducible exact Below.refl _ _) | (with_reducible assumption) | (with_reducible refine below_ext _ ?_ ?_) | (with_reducible refine Below.alloc ?_ ?_ _) | (with_reducible refine Below.drew ?_) | (with_reducible refine below_drewN ?_ _) | (with_reducible refine le_drewN _ ?_) | (with_reducible refine Below.setCell ?_ ?_ _) | (with_reducible exact Nat.le_refl _) | (with_reducible refine le_ext _ ?_) | (with_reducible refine le_alloc _ ?_) | (with_reducible refine le_setCell _ _ ?_) | (with_reducible refine le_drew ?_) | omega | (simp; done) | (simp; omega))))).mono ?_
      rintro e w2 ⟨v2, rfl, hown2, x2, rfl⟩
      obtain ⟨A3, n3, c3, rfl⟩ := hown2.slice
      have l3 := hown2.pts.1
      have p3 := hown2.pts.2.2.2
      have f3 := hown2.form.1
      have HH := hide (fun W hW => hull_any (sumsL a b) A3 n3 c3 W l3 (by omega) bs hW f3)
      have P3 := hide p3
      clear hown2 p3 f3
      go_wp2_with fail
      refine (HH.out _ P3.out).mono ?_
      rintro e w4 ⟨A4, n4, c4, rfl, l4, q4, q4b, p4, f4, x4, rfl⟩
      have P4 := hide p4
      have F4 := hide f4
      have L4 := hide l4
      have l4m : n4 ≤ 2000000 := by have := HLN.out; omega
      clear p4 f4 l4
      go_wp2_with fail
      refine (HV2.out _ _ _ _ L4.out l4m P4.out.pts).mono ?_
      rintro e w' ⟨rfl, hw'⟩; have hzy5 := ext_sz hw'; obtain ⟨y5, rfl⟩ := hw'; (try simp at hzy5)
      go_wp2
      ((try simp only [Exit.inBlock, Exit.then]); refine bodyPost_ret (by simp [results, Try.results22, go_sem, ↓IntWalk.iteOmega]; try rfl) rfl ?_)
      exact ⟨_, _, _, rfl, L4.out, q4, q4b, (P4.out.below (ext_below _ _)).more ((show Below w.heap.size w _ from (by (repeat' (first | (with_reducible exact Below.refl _ _) | (with_reducible assumption) | (with_reducible refine below_ext _ ?_ ?_) | (with_reducible refine Below.alloc ?_ ?_ _) | (with_reducible refine Below.drew ?_) | (with_reducible refine below_drewN ?_ _) | (with_reducible refine le_drewN _ ?_) | (with_reducible refine Below.setCell ?_ ?_ _) | (with_reducible exact Nat.le_refl _) | (with_reducible refine le_ext _ ?_) | (with_reducible refine le_alloc _ ?_) | (with_reducible refine le_setCell _ _ ?_) | (with_reducible refine le_drew ?_) | omega | (simp; done) | (simp; omega))))).size), F4.out, (ext_mk (by (repeat' (first | (with_reducible exact Below.refl _ _) | (with_reducible assumption) | (with_reducible refine below_ext _ ?_ ?_) | (with_reducible refine Below.alloc ?_ ?_ _) | (with_reducible refine Below.drew ?_) | (with_reducible refine below_drewN ?_ _) | (with_reducible refine le_drewN _ ?_) | (with_reducible refine Below.setCell ?_ ?_ _) | (with_reducible exact Nat.le_refl _) | (with_reducible refine le_ext _ ?_) | (with_reducible refine le_alloc _ ?_) | (with_reducible refine le_setCell _ _ ?_) | (with_reducible refine le_drew ?_) | omega | (simp; done) | (simp; omega)))))⟩
    · have hV := eq_false_of_ne_true hV
      have M := hide (minkOf_bad hV)
      rw [hV] at HV
      have HV2 := hide HV.out
      clear HV hV
      rw [M.out]
      go_enter Try.func22, Try.ntmps22
      go_wp2_with fail
      refine HB2.out.mono ?_
      rintro e w' ⟨rfl, hw'⟩; have hzy := ext_sz hw'; obtain ⟨y, rfl⟩ := hw'; (try simp at hzy)
      go_wp2_with fail
      refine (HS.out _ (by (repeat' (first | (with_reducible exact Below.refl _ _) | (with_reducible assumption) | (with_reducible refine below_ext _ ?_ ?_) | (with_reducible refine Below.alloc ?_ ?_ _) | (with_reducible refine Below.drew ?_) | (with_reducible refine below_drewN ?_ _) | (with_reducible refine le_drewN _ ?_) | (with_reducible refine Below.setCell ?_ ?_ _) | (with_reducible exact Nat.le_refl _) | (with_reducible refine le_ext _ ?_) | (with_reducible refine le_alloc _ ?_) | (with_reducible refine le_setCell _ _ ?_) | (with_reducible refine le_drew ?_) | omega | (simp; done) | (simp; omega))))).mono ?_
      rintro e w2 ⟨v2, rfl, hown2, x2, rfl⟩
      obtain ⟨A3, n3, c3, rfl⟩ := hown2.slice
      have l3 := hown2.pts.1
      have p3 := hown2.pts.2.2.2
      have f3 := hown2.form.1
      have HH := hide (fun W hW => hull_any (sumsL a b) A3 n3 c3 W l3 (by omega) bs hW f3)
      have P3 := hide p3
      clear hown2 p3 f3
      go_wp2_with fail
      refine (HH.out _ P3.out).mono ?_
      rintro e w4 ⟨A4, n4, c4, rfl, l4, q4, q4b, p4, f4, x4, rfl⟩
      have P4 := hide p4
      have F4 := hide f4
      have L4 := hide l4
      have l4m : n4 ≤ 2000000 := by have := HLN.out; omega
      clear p4 f4 l4
      go_wp2_with fail
      refine (HV2.out _ _ _ _ L4.out l4m P4.out.pts).mono ?_
      rintro e w' ⟨rfl, hw'⟩; have hzy5 := ext_sz hw'; obtain ⟨y5, rfl⟩ := hw'; (try simp at hzy5)
      go_wp2
      ((try simp only [Exit.inBlock, Exit.then]); refine bodyPost_ret (by simp [results, Try.results22, go_sem, ↓IntWalk.iteOmega]; try rfl) rfl ?_)
      exact ⟨_, _, _, rfl, rfl, Nat.le_refl _, by omega, PRow.nil _ _ _, Plain.none rfl, (ext_mk (by (repeat' (first | (with_reducible exact Below.refl _ _) | (with_reducible assumption) | (with_reducible refine below_ext _ ?_ ?_) | (with_reducible refine Below.alloc ?_ ?_ _) | (with_reducible refine Below.drew ?_) | (with_reducible refine below_drewN ?_ _) | (with_reducible refine le_drewN _ ?_) | (with_reducible refine Below.setCell ?_ ?_ _) | (with_reducible exact Nat.le_refl _) | (with_reducible refine le_ext _ ?_) | (with_reducible refine le_alloc _ ?_) | (with_reducible refine le_setCell _ _ ?_) | (with_reducible refine le_drew ?_) | omega | (simp; done) | (simp; omega)))))⟩
  · have hB := eq_false_of_ne_true hB
    have M := hide (minkOf_no hB)
    rw [hB] at HB
    have HB2 := hide HB.out
    clear HB hB h1 h2 s1 s2
    rw [M.out]
    go_enter Try.func22, Try.ntmps22
    go_wp2_with fail
    refine HB2.out.mono ?_
    rintro e w' ⟨rfl, hw'⟩; have hzy := ext_sz hw'; obtain ⟨y, rfl⟩ := hw'; (try simp at hzy)
    go_wp2
    ((try simp only [Exit.inBlock, Exit.then]); refine bodyPost_ret (by simp [results, Try.results22, go_sem, ↓IntWalk.iteOmega]; try rfl) rfl ?_)
    exact ⟨_, _, _, rfl, rfl, Nat.le_refl _, by omega, PRow.nil _ _ _, Plain.none rfl, (ext_mk (by (repeat' (first | (with_reducible exact Below.refl _ _) | (with_reducible assumption) | (with_reducible refine below_ext _ ?_ ?_) | (with_reducible refine Below.alloc ?_ ?_ _) | (with_reducible refine Below.drew ?_) | (with_reducible refine below_drewN ?_ _) | (with_reducible refine le_drewN _ ?_) | (with_reducible refine Below.setCell ?_ ?_ _) | (with_reducible exact Nat.le_refl _) | (with_reducible refine le_ext _ ?_) | (with_reducible refine le_alloc _ ?_) | (with_reducible refine le_setCell _ _ ?_) | (with_reducible refine le_drew ?_) | omega | (simp; done) | (simp; omega)))))⟩
theorem allOk_bad {ps : List Pt} (h : ∀ i, i < ps.length → vP (pX ps i) (pY ps i) = true) : allOk ps = true := allOk_of h
set_option maxHeartbeats 1000000 in
theorem sMinkYes (a b : List Pt) (A1 A2 : Option Addr) (n1 c1 n2 c2 : Nat) (w : World) (h1 : a.length = n1) (h2 : b.length = n2) (m1 : n1 ≤ 2000000) (m2 : n2 ≤ 2000000) (s1 : PtsAt w w.heap.size A1 a) (s2 : PtsAt w w.heap.size A2 b) (hB : bothL a b = true) :
    Calls Try.prog 20 #[.slice A1 n1 c1, .slice A2 n2 c2] w fun e w' => ∃ v, e = .returned (.tuple #[v, .bool (minkOf a b).2]) ∧ OwnP w' w.heap.size v (minkOf a b).1 ∧ ∃ x, w' = ext w x := by
  obtain ⟨la, lb, ls, ba, bb, bs⟩ := sums_20 hB
  have hBH := hide hB
  unfold bothL at hB
  simp only [Bool.and_eq_true] at hB
  obtain ⟨⟨⟨ha, hb⟩, hz1⟩, hz2⟩ := hB
  have hz1 := of_decide_eq_true hz1
  have hz2 := of_decide_eq_true hz2
  have HC1 : Hid (∀ W, Below w.heap.size w W → Calls Try.prog 43 #[.slice A1 n1 c1] W fun e w' => e = .returned (.bool true) ∧ ∃ m, w' = ext W m) := hide (fun W hbw => (validPoints_any a A1 n1 c1 W h1 m1 (s1.to hbw)).mono (fun e w' hh => ⟨by rw [hh.1, ha], hh.2⟩))
  have HC2 : Hid (∀ W, Below w.heap.size w W → Calls Try.prog 43 #[.slice A2 n2 c2] W fun e w' => e = .returned (.bool true) ∧ ∃ m, w' = ext W m) := hide (fun W hbw => (validPoints_any b A2 n2 c2 W h2 m2 (s2.to hbw)).mono (fun e w' hh => ⟨by rw [hh.1, hb], hh.2⟩))
  have HH1 := hide (fun W (hb : Below w.heap.size w W) => shull_any a A1 n1 c1 W h1 (by omega) ba (s1.to hb))
  have HH2 := hide (fun W (hb : Below w.heap.size w W) => shull_any b A2 n2 c2 W h2 (by omega) bb (s2.to hb))
  have LA := hide (hullOf_len' a)
  have LB := hide (hullOf_len' b)
  have BA : Hid (InB (hullOf a)) := hide (fun p hp => ba p (hullOf_sub hp))
  have BB : Hid (InB (hullOf b)) := hide (fun p hp => bb p (hullOf_sub hp))
  have BS : Hid (InB (sumsL (hullOf a) (hullOf b))) := hide (fun r hr => by
    obtain ⟨p, q, hp, hq, rfl⟩ := sumsL_mem.1 hr
    exact bs _ (sumsL_mem.2 ⟨p, q, hullOf_sub hp, hullOf_sub hq, rfl⟩))
  have hza : ((n1 : Int) == 0) = false := by rw [beq_eq_false_iff_ne]; omega
  have hzb : ((n2 : Int) == 0) = false := by rw [beq_eq_false_iff_ne]; omega
  have g1 : n1 ≤ 20 := by omega
  have g2 : n2 ≤ 20 := by omega
  have LA2 : (hullOf a).length ≤ 20 := by have := LA.out; omega
  have LB2 : (hullOf b).length ≤ 20 := by have := LB.out; omega
  clear ha hb h1 h2 s1 s2 ba bb bs hz1 hz2 la lb ls
  go_enter Try.func20, Try.ntmps20
  go_wp2_with fail
  refine (HC1.out _ (by (repeat' (first | (with_reducible exact Below.refl _ _) | (with_reducible assumption) | (with_reducible refine below_ext _ ?_ ?_) | (with_reducible refine Below.alloc ?_ ?_ _) | (with_reducible refine Below.drew ?_) | (with_reducible refine below_drewN ?_ _) | (with_reducible refine le_drewN _ ?_) | (with_reducible refine Below.setCell ?_ ?_ _) | (with_reducible exact Nat.le_refl _) | (with_reducible refine le_ext _ ?_) | (with_reducible refine le_alloc _ ?_) | (with_reducible refine le_setCell _ _ ?_) | (with_reducible refine le_drew ?_) | omega | (simp; done) | (simp; omega))))).mono ?_
  rintro e w' ⟨rfl, hw'⟩; have hzy1 := ext_sz hw'; obtain ⟨y1, rfl⟩ := hw'; (try simp at hzy1)
  go_wp2_with fail
  refine (HC2.out _ (by (repeat' (first | (with_reducible exact Below.refl _ _) | (with_reducible assumption) | (with_reducible refine below_ext _ ?_ ?_) | (with_reducible refine Below.alloc ?_ ?_ _) | (with_reducible refine Below.drew ?_) | (with_reducible refine below_drewN ?_ _) | (with_reducible refine le_drewN _ ?_) | (with_reducible refine Below.setCell ?_ ?_ _) | (with_reducible exact Nat.le_refl _) | (with_reducible refine le_ext _ ?_) | (with_reducible refine le_alloc _ ?_) | (with_reducible refine le_setCell _ _ ?_) | (with_reducible refine le_drew ?_) | omega | (simp; done) | (simp; omega))))).mono ?_
  rintro e w' ⟨rfl, hw'⟩; have hzy2 := ext_sz hw'; obtain ⟨y2, rfl⟩ := hw'; (try simp at hzy2)
  go_wp2_with fail
  refine (HH1.out _ (by (repeat' (first | (with_reducible exact Below.refl _ _) | (with_reducible assumption) | (with_reducible refine below_ext _ ?_ ?_) | (with_reducible refine Below.alloc ?_ ?_ _) | (with_reducible refine Below.drew ?_) | (with_reducible refine below_drewN ?_ _) | (with_reducible refine le_drewN _ ?_) | (with_reducible refine Below.setCell ?_ ?_ _) | (with_reducible exact Nat.le_refl _) | (with_reducible refine le_ext _ ?_) | (with_reducible refine le_alloc _ ?_) | (with_reducible refine le_setCell _ _ ?_) | (with_reducible refine le_drew ?_) | omega | (simp; done) | (simp; omega))))).mono ?_
  rintro e w3 ⟨v3, rfl, hown3, x3, rfl⟩
  obtain ⟨A3, n3, c3, rfl⟩ := hown3.slice
  have l3 := hide hown3.pts.1
  have p3 := hide hown3.pts.2.2.2
  clear hown3
  go_wp2_with fail
  refine (HH2.out _ (by (repeat' (first | (with_reducible exact Below.refl _ _) | (with_reducible assumption) | (with_reducible refine below_ext _ ?_ ?_) | (with_reducible refine Below.alloc ?_ ?_ _) | (with_reducible refine Below.drew ?_) | (with_reducible refine below_drewN ?_ _) | (with_reducible refine le_drewN _ ?_) | (with_reducible refine Below.setCell ?_ ?_ _) | (with_reducible exact Nat.le_refl _) | (with_reducible refine le_ext _ ?_) | (with_reducible refine le_alloc _ ?_) | (with_reducible refine le_setCell _ _ ?_) | (with_reducible refine le_drew ?_) | omega | (simp; done) | (simp; omega))))).mono ?_
  rintro e w4 ⟨v4, rfl, hown4, x4, rfl⟩
  obtain ⟨A4, n4, c4, rfl⟩ := hown4.slice
  have l4 := hide hown4.pts.1
  have p4 := hide hown4.pts.2.2.2
  have p3b := hide (p3.out.to (ext_below _ x4))
  clear hown4
  have z3 : n3 ≤ 20 := by have := l3.out; omega
  have z4 : n4 ≤ 20 := by have := l4.out; omega
  go_wp2_with fail
  refine (ssums_any (hullOf a) (hullOf b) A3 A4 n3 c3 n4 c4 _ l3.out l4.out (by omega) (by omega) BA.out BB.out p3b.out p4.out).mono ?_
  rintro e w5 ⟨v5, rfl, hown5, x5, rfl⟩
  obtain ⟨A5, n5, c5, rfl⟩ := hown5.slice
  have l5 := hide hown5.pts.1
  have p5 := hide hown5.pts.2.2.2
  clear hown5
  have z5 : n5 ≤ 1000 := by
    have h := l5.out
    rw [sumsL_len, l3.out, l4.out] at h
    have := Nat.mul_le_mul z3 z4
    omega
  go_wp2_with fail
  refine (shull_any (sumsL (hullOf a) (hullOf b)) A5 n5 c5 _ l5.out z5 BS.out p5.out).mono ?_
  rintro e w6 ⟨v6, rfl, hown6, x6, rfl⟩
  obtain ⟨A6, n6, c6, rfl⟩ := hown6.slice
  rw [← hull_sums] at hown6
  have l6 := hide hown6.pts.1
  have O6 := hide hown6
  have P6 := hide hown6.pts.2.2.2
  have z6 : n6 ≤ 1000 := by
    have h := hullOf_len' (sumsL (hullOf a) (hullOf b))
    rw [← hull_sums, l6.out, l5.out] at h
    omega
  have BF := hide (show Below w.heap.size w (ext (ext (ext (ext (ext (ext w y1) y2) x3) x4) x5) x6) from (by (repeat' (first | (with_reducible exact Below.refl _ _) | (with_reducible assumption) | (with_reducible refine below_ext _ ?_ ?_) | (with_reducible refine Below.alloc ?_ ?_ _) | (with_reducible refine Below.drew ?_) | (with_reducible refine below_drewN ?_ _) | (with_reducible refine le_drewN _ ?_) | (with_reducible refine Below.setCell ?_ ?_ _) | (with_reducible exact Nat.le_refl _) | (with_reducible refine le_ext _ ?_) | (with_reducible refine le_alloc _ ?_) | (with_reducible refine le_setCell _ _ ?_) | (with_reducible refine le_drew ?_) | omega | (simp; done) | (simp; omega)))))
  have BZ : w.heap.size ≤ (ext (ext (ext (ext (ext w y1) y2) x3) x4) x5).heap.size := (show Below w.heap.size w (ext (ext (ext (ext (ext w y1) y2) x3) x4) x5) from (by (repeat' (first | (with_reducible exact Below.refl _ _) | (with_reducible assumption) | (with_reducible refine below_ext _ ?_ ?_) | (with_reducible refine Below.alloc ?_ ?_ _) | (with_reducible refine Below.drew ?_) | (with_reducible refine below_drewN ?_ _) | (with_reducible refine le_drewN _ ?_) | (with_reducible refine Below.setCell ?_ ?_ _) | (with_reducible exact Nat.le_refl _) | (with_reducible refine le_ext _ ?_) | (with_reducible refine le_alloc _ ?_) | (with_reducible refine le_setCell _ _ ?_) | (with_reducible refine le_drew ?_) | omega | (simp; done) | (simp; omega))))).size
  generalize hW6 : ext (ext (ext (ext (ext (ext w y1) y2) x3) x4) x5) x6 = w6 at *
  generalize hW5 : ext (ext (ext (ext (ext w y1) y2) x3) x4) x5 = w5 at *
  clear hown6 hW6 hW5 p3 p3b p4 p5
  go_wp2
  go_loopw [7] (fun u7 wr => ∃ k : Nat, k ≤ n6 ∧ u7 = .int .i64 k ∧ Hid (∀ j, j < k → vP (pX (hullOf (sumsL a b)) j) (pY (hullOf (sumsL a b)) j) = true) ∧ Below w6.heap.size w6 wr) (fun u7 _ => n6 - (intOf u7).toNat)
  case atStart => exact ⟨0, Nat.zero_le _, rfl, fun j hj => by omega, (by (repeat' (first | (with_reducible exact Below.refl _ _) | (with_reducible assumption) | (with_reducible refine below_ext _ ?_ ?_) | (with_reducible refine Below.alloc ?_ ?_ _) | (with_reducible refine Below.drew ?_) | (with_reducible refine below_drewN ?_ _) | (with_reducible refine le_drewN _ ?_) | (with_reducible refine Below.setCell ?_ ?_ _) | (with_reducible exact Nat.le_refl _) | (with_reducible refine le_ext _ ?_) | (with_reducible refine le_alloc _ ?_) | (with_reducible refine le_setCell _ _ ?_) | (with_reducible refine le_drew ?_) | omega | (simp; done) | (simp; omega))))⟩
  case round =>
    obtain ⟨k, hk, rfl, hp, hbel⟩ := hrel
    have hsz := hbel.size
    by_cases hlt : k < n6
    · obtain ⟨b6, o6, rfl, hb6, hc6⟩ := P6.out (by rw [l6.out]; omega)
      obtain ⟨hx0, hy0⟩ := hc6 k (by rw [l6.out]; omega)
      have hx := (hbel.cell (p := ⟨b6, o6 + k * 2, none⟩) hb6).trans hx0
      have hy := (hbel.cell (p := ⟨b6, o6 + k * 2 + 1, none⟩) hb6).trans hy0
      clear hc6 hx0 hy0
      by_cases hv : vP (pX (hullOf (sumsL a b)) k) (pY (hullOf (sumsL a b)) k) = true
      · have HV := hide hv
        have CV : Hid (∀ W, Calls Try.prog 46 #[.agg #[.int .i64 (pX (hullOf (sumsL a b)) k), .int .i64 (pY (hullOf (sumsL a b)) k)]] W fun e w' => e = .returned (.bool true) ∧ ∃ n, w' = ext W n) := hide (fun W => (svalid_any _ _ W).mono (fun e w' hh => ⟨by rw [hh.1, hv], hh.2⟩))
        clear hv
        go_wp2_with fail
        refine (CV.out _).mono ?_
        rintro e w' ⟨rfl, hw'⟩; have hzy := ext_sz hw'; obtain ⟨y, rfl⟩ := hw'; (try simp at hzy)
        go_wp2
        exact ⟨⟨k + 1, by omega, by go_num, hide (fun j hj => by
          by_cases e : j = k
          · subst e; exact HV.out
          · exact hp.out j (by omega)), Below.trans hbel (by (repeat' (first | (with_reducible exact Below.refl _ _) | (with_reducible assumption) | (with_reducible refine below_ext _ ?_ ?_) | (with_reducible refine Below.alloc ?_ ?_ _) | (with_reducible refine Below.drew ?_) | (with_reducible refine below_drewN ?_ _) | (with_reducible refine le_drewN _ ?_) | (with_reducible refine Below.setCell ?_ ?_ _) | (with_reducible exact Nat.le_refl _) | (with_reducible refine le_ext _ ?_) | (with_reducible refine le_alloc _ ?_) | (with_reducible refine le_setCell _ _ ?_) | (with_reducible refine le_drew ?_) | omega | (simp; done) | (simp; omega))))⟩, by simp [intOf]; omega⟩
      · have hv := eq_false_of_ne_true hv
        have CV : Hid (∀ W, Calls Try.prog 46 #[.agg #[.int .i64 (pX (hullOf (sumsL a b)) k), .int .i64 (pY (hullOf (sumsL a b)) k)]] W fun e w' => e = .returned (.bool false) ∧ ∃ n, w' = ext W n) := hide (fun W => (svalid_any _ _ W).mono (fun e w' hh => ⟨by rw [hh.1, hv], hh.2⟩))
        have M := hide (minkOf_bad (a := a) (b := b) (allOk_not (i := k) (by rw [l6.out]; exact hlt) hv))
        clear hv
        go_wp2_with fail
        refine (CV.out _).mono ?_
        rintro e w' ⟨rfl, hw'⟩; have hzy := ext_sz hw'; obtain ⟨y, rfl⟩ := hw'; (try simp at hzy)
        go_wp2
        rw [M.out]
        ((try simp only [Exit.inBlock, Exit.then]); refine bodyPost_ret (by simp [results, Try.results20, go_sem, ↓IntWalk.iteOmega]; try rfl) rfl ?_)
        exact ⟨_, rfl, OwnP.nil _ _, ext_mk (BF.out.trans ((hbel.trans (by (repeat' (first | (with_reducible exact Below.refl _ _) | (with_reducible assumption) | (with_reducible refine below_ext _ ?_ ?_) | (with_reducible refine Below.alloc ?_ ?_ _) | (with_reducible refine Below.drew ?_) | (with_reducible refine below_drewN ?_ _) | (with_reducible refine le_drewN _ ?_) | (with_reducible refine Below.setCell ?_ ?_ _) | (with_reducible exact Nat.le_refl _) | (with_reducible refine le_ext _ ?_) | (with_reducible refine le_alloc _ ?_) | (with_reducible refine le_setCell _ _ ?_) | (with_reducible refine le_drew ?_) | omega | (simp; done) | (simp; omega))))).mono BF.out.size))⟩
    · have : k = n6 := by omega
      subst this
      have M := hide (minkOf_yes (a := a) (b := b) hBH.out (allOk_of (fun i hi => hp.out i (by rw [← l6.out]; exact hi))))
      go_wp2
      ((try simp only [Exit.inBlock, Exit.then]); refine bodyPost_ret (by simp [results, Try.results20, go_sem, ↓IntWalk.iteOmega]; try rfl) rfl ?_)
      rw [M.out]
      exact ⟨_, rfl, (O6.out.below hbel).base BZ, ext_mk (BF.out.trans (hbel.mono BF.out.size))⟩
set_option maxHeartbeats 1000000 in
theorem sMinkNo (a b : List Pt) (A1 A2 : Option Addr) (n1 c1 n2 c2 : Nat) (w : World) (h1 : a.length = n1) (h2 : b.length = n2) (m1 : n1 ≤ 2000000) (m2 : n2 ≤ 2000000) (s1 : PtsAt w w.heap.size A1 a) (s2 : PtsAt w w.heap.size A2 b) (hB : bothL a b = false) :
    Calls Try.prog 20 #[.slice A1 n1 c1, .slice A2 n2 c2] w fun e w' => ∃ v, e = .returned (.tuple #[v, .bool (minkOf a b).2]) ∧ OwnP w' w.heap.size v (minkOf a b).1 ∧ ∃ x, w' = ext w x := by
  have M := hide (minkOf_no hB)
  by_cases ha : listOk a = true
  · have HC1 : Hid (∀ W, Below w.heap.size w W → Calls Try.prog 43 #[.slice A1 n1 c1] W fun e w' => e = .returned (.bool true) ∧ ∃ m, w' = ext W m) := hide (fun W hbw => (validPoints_any a A1 n1 c1 W h1 m1 (s1.to hbw)).mono (fun e w' hh => ⟨by rw [hh.1, ha], hh.2⟩))
    by_cases hb : listOk b = true
    · have HC2 : Hid (∀ W, Below w.heap.size w W → Calls Try.prog 43 #[.slice A2 n2 c2] W fun e w' => e = .returned (.bool true) ∧ ∃ m, w' = ext W m) := hide (fun W hbw => (validPoints_any b A2 n2 c2 W h2 m2 (s2.to hbw)).mono (fun e w' hh => ⟨by rw [hh.1, hb], hh.2⟩))
      by_cases hz1 : n1 = 0
      · subst hz1
        clear hB ha hb h1 h2 s1 s2
        go_enter Try.func20, Try.ntmps20
        go_wp2_with fail
        refine (HC1.out _ (by (repeat' (first | (with_reducible exact Below.refl _ _) | (with_reducible assumption) | (with_reducible refine below_ext _ ?_ ?_) | (with_reducible refine Below.alloc ?_ ?_ _) | (with_reducible refine Below.drew ?_) | (with_reducible refine below_drewN ?_ _) | (with_reducible refine le_drewN _ ?_) | (with_reducible refine Below.setCell ?_ ?_ _) | (with_reducible exact Nat.le_refl _) | (with_reducible refine le_ext _ ?_) | (with_reducible refine le_alloc _ ?_) | (with_reducible refine le_setCell _ _ ?_) | (with_reducible refine le_drew ?_) | omega | (simp; done) | (simp; omega))))).mono ?_
        rintro e w' ⟨rfl, hw'⟩; have hzy1 := ext_sz hw'; obtain ⟨y1, rfl⟩ := hw'; (try simp at hzy1)
        go_wp2_with fail
        refine (HC2.out _ (by (repeat' (first | (with_reducible exact Below.refl _ _) | (with_reducible assumption) | (with_reducible refine below_ext _ ?_ ?_) | (with_reducible refine Below.alloc ?_ ?_ _) | (with_reducible refine Below.drew ?_) | (with_reducible refine below_drewN ?_ _) | (with_reducible refine le_drewN _ ?_) | (with_reducible refine Below.setCell ?_ ?_ _) | (with_reducible exact Nat.le_refl _) | (with_reducible refine le_ext _ ?_) | (with_reducible refine le_alloc _ ?_) | (with_reducible refine le_setCell _ _ ?_) | (with_reducible refine le_drew ?_) | omega | (simp; done) | (simp; omega))))).mono ?_
        rintro e w' ⟨rfl, hw'⟩; have hzy2 := ext_sz hw'; obtain ⟨y2, rfl⟩ := hw'; (try simp at hzy2)
        go_wp2
        ((try simp only [Exit.inBlock, Exit.then]); refine bodyPost_ret (by simp [results, Try.results20, go_sem, ↓IntWalk.iteOmega]; try rfl) rfl ?_)
        rw [M.out]
        exact ⟨_, rfl, OwnP.nil _ _, (ext_mk (by (repeat' (first | (with_reducible exact Below.refl _ _) | (with_reducible assumption) | (with_reducible refine below_ext _ ?_ ?_) | (with_reducible refine Below.alloc ?_ ?_ _) | (with_reducible refine Below.drew ?_) | (with_reducible refine below_drewN ?_ _) | (with_reducible refine le_drewN _ ?_) | (with_reducible refine Below.setCell ?_ ?_ _) | (with_reducible exact Nat.le_refl _) | (with_reducible refine le_ext _ ?_) | (with_reducible refine le_alloc _ ?_) | (with_reducible refine le_setCell _ _ ?_) | (with_reducible refine le_drew ?_) | omega | (simp; done) | (simp; omega)))))⟩
      · have hza : ((n1 : Int) == 0) = false := by rw [beq_eq_false_iff_ne]; omega
        have hz2 : n2 = 0 := by
          unfold bothL at hB
          rw [ha, hb, h1, h2] at hB
          simp at hB
          omega
        subst hz2
        clear hB ha hb h1 h2 s1 s2 hz1
        go_enter Try.func20, Try.ntmps20
        go_wp2_with fail
        refine (HC1.out _ (by (repeat' (first | (with_reducible exact Below.refl _ _) | (with_reducible assumption) | (with_reducible refine below_ext _ ?_ ?_) | (with_reducible refine Below.alloc ?_ ?_ _) | (with_reducible refine Below.drew ?_) | (with_reducible refine below_drewN ?_ _) | (with_reducible refine le_drewN _ ?_) | (with_reducible refine Below.setCell ?_ ?_ _) | (with_reducible exact Nat.le_refl _) | (with_reducible refine le_ext _ ?_) | (with_reducible refine le_alloc _ ?_) | (with_reducible refine le_setCell _ _ ?_) | (with_reducible refine le_drew ?_) | omega | (simp; done) | (simp; omega))))).mono ?_
        rintro e w' ⟨rfl, hw'⟩; have hzy1 := ext_sz hw'; obtain ⟨y1, rfl⟩ := hw'; (try simp at hzy1)
        go_wp2_with fail
        refine (HC2.out _ (by (repeat' (first | (with_reducible exact Below.refl _ _) | (with_reducible assumption) | (with_reducible refine below_ext _ ?_ ?_) | (with_reducible refine Below.alloc ?_ ?_ _) | (with_reducible refine Below.drew ?_) | (with_reducible refine below_drewN ?_ _) | (with_reducible refine le_drewN _ ?_) | (with_reducible refine Below.setCell ?_ ?_ _) | (with_reducible exact Nat.le_refl _) | (with_reducible refine le_ext _ ?_) | (with_reducible refine le_alloc _ ?_) | (with_reducible refine le_setCell _ _ ?_) | (with_reducible refine le_drew ?_) | omega | (simp; done) | (simp; omega))))).mono ?_
        rintro e w' ⟨rfl, hw'⟩; have hzy2 := ext_sz hw'; obtain ⟨y2, rfl⟩ := hw'; (try simp at hzy2)
        go_wp2
        ((try simp only [Exit.inBlock, Exit.then]); refine bodyPost_ret (by simp [results, Try.results20, go_sem, ↓IntWalk.iteOmega]; try rfl) rfl ?_)
        rw [M.out]
        exact ⟨_, rfl, OwnP.nil _ _, (ext_mk (by (repeat' (first | (with_reducible exact Below.refl _ _) | (with_reducible assumption) | (with_reducible refine below_ext _ ?_ ?_) | (with_reducible refine Below.alloc ?_ ?_ _) | (with_reducible refine Below.drew ?_) | (with_reducible refine below_drewN ?_ _) | (with_reducible refine le_drewN _ ?_) | (with_reducible refine Below.setCell ?_ ?_ _) | (with_reducible exact Nat.le_refl _) | (with_reducible refine le_ext _ ?_) | (with_reducible refine le_alloc _ ?_) | (with_reducible refine le_setCell _ _ ?_) | (with_reducible refine le_drew ?_) | omega | (simp; done) | (simp; omega)))))⟩
    · have hb := eq_false_of_ne_true hb
      have HC2 : Hid (∀ W, Below w.heap.size w W → Calls Try.prog 43 #[.slice A2 n2 c2] W fun e w' => e = .returned (.bool false) ∧ ∃ m, w' = ext W m) := hide (fun W hbw => (validPoints_any b A2 n2 c2 W h2 m2 (s2.to hbw)).mono (fun e w' hh => ⟨by rw [hh.1, hb], hh.2⟩))
      clear hB ha hb h1 h2 s1 s2
      go_enter Try.func20, Try.ntmps20
      go_wp2_with fail
      refine (HC1.out _ (by (repeat' (first | (with_reducible exact Below.refl _ _) | (with_reducible assumption) | (with_reducible refine below_ext _ ?_ ?_) | (with_reducible refine Below.alloc ?_ ?_ _) | (with_reducible refine Below.drew ?_) | (with_reducible refine below_drewN ?_ _) | (with_reducible refine le_drewN _ ?_) | (with_reducible refine Below.setCell ?_ ?_ _) | (with_reducible exact Nat.le_refl _) | (with_reducible refine le_ext _ ?_) | (with_reducible refine le_alloc _ ?_) | (with_reducible refine le_setCell _ _ ?_) | (with_reducible refine le_drew ?_) | omega | (simp; done) | (simp; omega))))).mono ?_
      rintro e w' ⟨rfl, hw'⟩; have hzy1 := ext_sz hw'; obtain ⟨y1, rfl⟩ := hw'; (try simp at hzy1)
      go_wp2_with fail
      refine (HC2.out _ (by (repeat' (first | (with_reducible exact Below.refl _ _) | (with_reducible assumption) | (with_reducible refine below_ext _ ?_ ?_) | (with_reducible refine Below.alloc ?_ ?_ _) | (with_reducible refine Below.drew ?_) | (with_reducible refine below_drewN ?_ _) | (with_reducible refine le_drewN _ ?_) | (with_reducible refine Below.setCell ?_ ?_ _) | (with_reducible exact Nat.le_refl _) | (with_reducible refine le_ext _ ?_) | (with_reducible refine le_alloc _ ?_) | (with_reducible refine le_setCell _ _ ?_) | (with_reducible refine le_drew ?_) | omega | (simp; done) | (simp; omega))))).mono ?_
      rintro e w' ⟨rfl, hw'⟩; have hzy2 := ext_sz hw'; obtain ⟨y2, rfl⟩ := hw'; (try simp at hzy2)
      go_wp2
      ((try simp only [Exit.inBlock, Exit.then]); refine bodyPost_ret (by simp [results, Try.results20, go_sem, ↓IntWalk.iteOmega]; try rfl) rfl ?_)
      rw [M.out]
      exact ⟨_, rfl, OwnP.nil _ _, (ext_mk (by (repeat' (first | (with_reducible exact Below.refl _ _) | (with_reducible assumption) | (with_reducible refine below_ext _ ?_ ?_) | (with_reducible refine Below.alloc ?_ ?_ _) | (with_reducible refine Below.drew ?_) | (with_reducible refine below_drewN ?_ _) | (with_reducible refine le_drewN _ ?_) | (with_reducible refine Below.setCell ?_ ?_ _) | (with_reducible exact Nat.le_refl _) | (with_reducible refine le_ext _ ?_) | (with_reducible refine le_alloc _ ?_) | (with_reducible refine le_setCell _ _ ?_) | (with_reducible refine le_drew ?_) | omega | (simp; done) | (simp; omega)))))⟩
  · have ha := eq_false_of_ne_true ha
    have HC1 : Hid (∀ W, Below w.heap.size w W → Calls Try.prog 43 #[.slice A1 n1 c1] W fun e w' => e = .returned (.bool false) ∧ ∃ m, w' = ext W m) := hide (fun W hbw => (validPoints_any a A1 n1 c1 W h1 m1 (s1.to hbw)).mono (fun e w' hh => ⟨by rw [hh.1, ha], hh.2⟩))
    clear hB ha h1 h2 s1 s2
    go_enter Try.func20, Try.ntmps20
    go_wp2_with fail
    refine (HC1.out _ (by (repeat' (first | (with_reducible exact Below.refl _ _) | (with_reducible assumption) | (with_reducible refine below_ext _ ?_ ?_) | (with_reducible refine Below.alloc ?_ ?_ _) | (with_reducible refine Below.drew ?_) | (with_reducible refine below_drewN ?_ _) | (with_reducible refine le_drewN _ ?_) | (with_reducible refine Below.setCell ?_ ?_ _) | (with_reducible exact Nat.le_refl _) | (with_reducible refine le_ext _ ?_) | (with_reducible refine le_alloc _ ?_) | (with_reducible refine le_setCell _ _ ?_) | (with_reducible refine le_drew ?_) | omega | (simp; done) | (simp; omega))))).mono ?_
    rintro e w' ⟨rfl, hw'⟩; have hzy1 := ext_sz hw'; obtain ⟨y1, rfl⟩ := hw'; (try simp at hzy1)
    go_wp2
    ((try simp only [Exit.inBlock, Exit.then]); refine bodyPost_ret (by simp [results, Try.results20, go_sem, ↓IntWalk.iteOmega]; try rfl) rfl ?_)
    rw [M.out]
    exact ⟨_, rfl, OwnP.nil _ _, (ext_mk (by (repeat' (first | (with_reducible exact Below.refl _ _) | (with_reducible assumption) | (with_reducible refine below_ext _ ?_ ?_) | (with_reducible refine Below.alloc ?_ ?_ _) | (with_reducible refine Below.drew ?_) | (with_reducible refine below_drewN ?_ _) | (with_reducible refine le_drewN _ ?_) | (with_reducible refine Below.setCell ?_ ?_ _) | (with_reducible exact Nat.le_refl _) | (with_reducible refine le_ext _ ?_) | (with_reducible refine le_alloc _ ?_) | (with_reducible refine le_setCell _ _ ?_) | (with_reducible refine le_drew ?_) | omega | (simp; done) | (simp; omega)))))⟩

theorem sMink_any (a b : List Pt) (A1 A2 : Option Addr) (n1 c1 n2 c2 : Nat) (w : World) (h1 : a.length = n1) (h2 : b.length = n2) (m1 : n1 ≤ 2000000) (m2 : n2 ≤ 2000000) (s1 : PtsAt w w.heap.size A1 a) (s2 : PtsAt w w.heap.size A2 b) :
    Calls Try.prog 20 #[.slice A1 n1 c1, .slice A2 n2 c2] w fun e w' => ∃ v, e = .returned (.tuple #[v, .bool (minkOf a b).2]) ∧ OwnP w' w.heap.size v (minkOf a b).1 ∧ ∃ x, w' = ext w x := by
  by_cases hB : bothL a b = true
  · exact sMinkYes a b A1 A2 n1 c1 n2 c2 w h1 h2 m1 m2 s1 s2 hB
  · exact sMinkNo a b A1 A2 n1 c1 n2 c2 w h1 h2 m1 m2 s1 s2 (eq_false_of_ne_true hB)
end Go.Proofs.Ytoendanihhocjaa
