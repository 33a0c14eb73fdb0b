
/- The program's Hull and HullArea. -/
import Derived.Test.YtnddfdhfefconaaGreatDoorRelM
import Derived.Test.YtnddfdhfefconaaGreatDoorHullI
set_option linter.unusedVariables false
set_option linter.unusedSimpArgs false
namespace Go.Proofs.YtnddfdhfefconaaGreatDoor
open Go.RowKit

def hullL (ps : List Pt) : List Pt := if listOk ps = true then hullOf ps else []
def hullArea (ps : List Pt) : Int := if listOk ps = true then areaL (hullOf ps) else -1
set_option maxHeartbeats 1000000 in
theorem iHull_any (ps : List Pt) (A : Option Addr) (n c : Nat) (w : World) (hn : ps.length = n) (hm : n ≤ 2000000) (hpl : Plain A n) (hs : PtsAt w w.heap.size A ps) :
    Calls Tryz.prog 12 #[.slice A n c] w fun e w' => ∃ A' n' c', e = .returned (.slice A' n' c') ∧ (hullL ps).length = n' ∧ n' ≤ c' ∧ c' ≤ 9223372036854775807 ∧ PRow w' w.heap.size A' (hullL ps) ∧ Plain A' n' ∧ ∃ x, w' = ext w x := by
  have HC := hide (listOk_any ps A n c w hn hm hs)
  by_cases h : listOk ps = true
  · obtain ⟨hib, hle⟩ := listOk_InB h
    have HH := hide (fun (W : World) (hb : Below w.heap.size w W) => hull_any ps A n c W hn (by omega) hib (hs.to hb) hpl)
    have HE : Hid (hullL ps = hullOf ps) := hide (if_pos h)
    rw [h] at HC
    have HC2 := hide HC.out
    rw [HE.out]
    clear HC h hib hn hs
    go_enter Tryz.func12, Tryz.ntmps12
    go_wp2_with fail
    refine HC2.out.mono ?_
    rintro e w' ⟨rfl, hw'⟩; have hzy := ext_sz hw'; obtain ⟨y, rfl⟩ := hw'; (try simp at hzy)
    go_wp2_with fail
    refine (HH.out _ (by (repeat' (first | (with_reducible first | exact Below.refl _ _ | assumption | refine below_ext _ ?_ ?_ | refine Below.alloc ?_ ?_ _ | refine Below.drew ?_ | refine below_drewN ?_ _ | refine le_drewN _ ?_ | refine Below.setCell ?_ ?_ _ | exact Nat.le_refl _ | refine le_ext _ ?_ | refine le_alloc _ ?_ | refine le_setCell _ _ ?_ | refine le_drew ?_) | omega | (simp; done) | (simp; omega))))).mono ?_
    rintro e w4 ⟨A4, n4, c4, rfl, l4, q4, q4b, p4, f4, x4, rfl⟩
    have K := hide (And.intro l4 (And.intro p4 f4))
    clear l4 p4 f4
    go_wp2
    go_ret
    exact ⟨_, _, _, rfl, K.out.1, q4, q4b, K.out.2.1.more (by omega), K.out.2.2, (ext_mk (by (repeat' (first | (with_reducible first | exact Below.refl _ _ | assumption | refine below_ext _ ?_ ?_ | refine Below.alloc ?_ ?_ _ | refine Below.drew ?_ | refine below_drewN ?_ _ | refine le_drewN _ ?_ | refine Below.setCell ?_ ?_ _ | exact Nat.le_refl _ | refine le_ext _ ?_ | refine le_alloc _ ?_ | refine le_setCell _ _ ?_ | refine le_drew ?_) | omega | (simp; done) | (simp; omega)))))⟩
  · have h := eq_false_of_ne_true h
    have HE : Hid (hullL ps = []) := hide (if_neg (by rw [h]; simp))
    rw [h] at HC
    have HC2 := hide HC.out
    rw [HE.out]
    clear HC h hn hs
    go_enter Tryz.func12, Tryz.ntmps12
    go_wp2_with fail
    refine HC2.out.mono ?_
    rintro e w' ⟨rfl, hw'⟩; have hzy := ext_sz hw'; obtain ⟨y, rfl⟩ := hw'; (try simp at hzy)
    go_wp2
    go_ret
    exact ⟨_, _, _, rfl, rfl, Nat.le_refl _, by omega, PRow.nil _ _ _, Plain.none rfl, (ext_mk (by (repeat' (first | (with_reducible first | exact Below.refl _ _ | assumption | refine below_ext _ ?_ ?_ | refine Below.alloc ?_ ?_ _ | refine Below.drew ?_ | refine below_drewN ?_ _ | refine le_drewN _ ?_ | refine Below.setCell ?_ ?_ _ | exact Nat.le_refl _ | refine le_ext _ ?_ | refine le_alloc _ ?_ | refine le_setCell _ _ ?_ | refine le_drew ?_) | omega | (simp; done) | (simp; omega)))))⟩
set_option maxHeartbeats 1000000 in
theorem iHullArea_any (ps : List Pt) (A : Option Addr) (n c : Nat) (w : World) (hn : ps.length = n) (hm : n ≤ 2000000) (hpl : Plain A n) (hs : PtsAt w w.heap.size A ps) :
    Calls Tryz.prog 90 #[.slice A n c] w fun e w' => e = .returned (.int .i64 (hullArea ps)) ∧ ∃ x, w' = ext w x := by
  have HC := hide (listOk_any ps A n c w hn hm hs)
  by_cases h : listOk ps = true
  · obtain ⟨hib, hle⟩ := listOk_InB h
    have HH := hide (fun (W : World) (hb : Below w.heap.size w W) => hull_any ps A n c W hn (by omega) hib (hs.to hb) hpl)
    have HE : Hid (hullArea ps = areaL (hullOf ps)) := hide (if_pos h)
    have HLE := hide (hullOf_len' ps)
    have HIB : Hid (∀ p ∈ hullOf ps, (-100000 ≤ p.x ∧ p.x ≤ 100000) ∧ -100000 ≤ p.y ∧ p.y ≤ 100000) := hide (fun p hp => hib p (hullOf_sub hp))
    rw [h] at HC
    have HC2 := hide HC.out
    clear HC h hib hs
    go_enter Tryz.func90, Tryz.ntmps90
    go_wp2_with fail
    refine HC2.out.mono ?_
    rintro e w' ⟨rfl, hw'⟩; have hzy := ext_sz hw'; obtain ⟨y, rfl⟩ := hw'; (try simp at hzy)
    go_wp2_with fail
    refine (HH.out _ (by (repeat' (first | (with_reducible first | exact Below.refl _ _ | assumption | refine below_ext _ ?_ ?_ | refine Below.alloc ?_ ?_ _ | refine Below.drew ?_ | refine below_drewN ?_ _ | refine le_drewN _ ?_ | refine Below.setCell ?_ ?_ _ | exact Nat.le_refl _ | refine le_ext _ ?_ | refine le_alloc _ ?_ | refine le_setCell _ _ ?_ | refine le_drew ?_) | omega | (simp; done) | (simp; omega))))).mono ?_
    rintro e w4 ⟨A4, n4, c4, rfl, l4, q4, q4b, p4, f4, x4, rfl⟩
    have L4 := hide l4
    have P4 := hide p4.pts
    have n4m : n4 ≤ 1000 := by have := HLE.out; omega
    clear l4 p4 f4
    go_wp2_with fail
    refine (area_any (hullOf ps) A4 n4 c4 _ L4.out n4m HIB.out P4.out).mono ?_
    rintro e w' ⟨rfl, hw'⟩; have hzy5 := ext_sz hw'; obtain ⟨y5, rfl⟩ := hw'; (try simp at hzy5)
    go_wp2
    go_ret
    exact ⟨ret_int HE.out.symm, (ext_mk (by (repeat' (first | (with_reducible first | exact Below.refl _ _ | assumption | refine below_ext _ ?_ ?_ | refine Below.alloc ?_ ?_ _ | refine Below.drew ?_ | refine below_drewN ?_ _ | refine le_drewN _ ?_ | refine Below.setCell ?_ ?_ _ | exact Nat.le_refl _ | refine le_ext _ ?_ | refine le_alloc _ ?_ | refine le_setCell _ _ ?_ | refine le_drew ?_) | omega | (simp; done) | (simp; omega)))))⟩
  · have h := eq_false_of_ne_true h
    have HE : Hid (hullArea ps = -1) := hide (if_neg (by rw [h]; simp))
    rw [h] at HC
    have HC2 := hide HC.out
    clear HC h hn hs
    go_enter Tryz.func90, Tryz.ntmps90
    go_wp2_with fail
    refine HC2.out.mono ?_
    rintro e w' ⟨rfl, hw'⟩; have hzy := ext_sz hw'; obtain ⟨y, rfl⟩ := hw'; (try simp at hzy)
    go_wp2
    go_ret
    exact ⟨ret_int HE.out.symm, (ext_mk (by (repeat' (first | (with_reducible first | exact Below.refl _ _ | assumption | refine below_ext _ ?_ ?_ | refine Below.alloc ?_ ?_ _ | refine Below.drew ?_ | refine below_drewN ?_ _ | refine le_drewN _ ?_ | refine Below.setCell ?_ ?_ _ | exact Nat.le_refl _ | refine le_ext _ ?_ | refine le_alloc _ ?_ | refine le_setCell _ _ ?_ | refine le_drew ?_) | omega | (simp; done) | (simp; omega)))))⟩
end Go.Proofs.YtnddfdhfefconaaGreatDoor
