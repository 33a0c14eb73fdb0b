
/- DoubleArea, BoundaryCount, InteriorCount: the program's and the reference's. -/
import Derived.Test.YtnddfdhfefconaaGreatDoorPoly
set_option linter.unusedVariables false
set_option linter.unusedSimpArgs false
namespace Go.Proofs.YtnddfdhfefconaaGreatDoor
open Go.RowKit

theorem intr_1 {ps : List Pt} (h : simB ps = false) : intr ps = -1 := by unfold intr; rw [h]; rfl
theorem intr_2 {ps : List Pt} (h : simB ps = true) : intr ps = (absI (areaL ps) - bndL ps + 2).tdiv 2 := by unfold intr; rw [h]; rfl
theorem bnd_1 {ps : List Pt} (h : simB ps = false) : bnd ps = -1 := by unfold bnd; rw [h]; rfl
theorem bnd_2 {ps : List Pt} (h : simB ps = true) : bnd ps = bndL ps := by unfold bnd; rw [h]; rfl
theorem dblA_1 {ps : List Pt} (h : simB ps = false) : dblA ps = 0 := by unfold dblA; rw [h]; rfl
theorem dblA_2 {ps : List Pt} (h : simB ps = true) : dblA ps = areaL ps := by unfold dblA; rw [h]; rfl
theorem simB_nums {ps : List Pt} (h : simB ps = true) : (∀ p ∈ ps, (-1000 ≤ p.x ∧ p.x ≤ 1000) ∧ -1000 ≤ p.y ∧ p.y ≤ 1000) ∧ ps.length ≤ 20 ∧ (-40000000 ≤ areaL ps ∧ areaL ps ≤ 40000000) ∧ (0 ≤ bndL ps ∧ bndL ps ≤ 40000) := by
  have h3 := simB_P3 h
  have h20 : ps.length ≤ 20 := by
    unfold simB at h
    simp only [Bool.and_eq_true] at h
    exact (listOk_InB (ring_parts h.1).1).2
  have a := areaTo_bd3 h3 ps.length (Nat.le_refl _)
  have b := bndTo_bd h3 ps.length (Nat.le_refl _)
  exact ⟨h3, h20, by unfold areaL; omega, by unfold bndL; omega⟩
set_option maxHeartbeats 1000000 in
theorem iInt_any (ps : List Pt) (A : Option Addr) (n c : Nat) (w : World) (hn : ps.length = n) (hm : n ≤ 2000000) (hA : Plain A n) (hs : PtsAt w w.heap.size A ps) :
    Calls Tryz.prog 92 #[.slice A n c] w fun e w' => e = .returned (.int .i64 (intr ps)) ∧ ∃ x, w' = ext w x := by
  have HC := hide (simple_any ps A n c w hn hm hA hs)
  by_cases hok : simB ps = true
  · rw [hok] at HC
    obtain ⟨h3, h20, ha, hb⟩ := simB_nums hok
    have HV := hide (intr_2 hok)
    have AR := hide (fun (W : World) (hbw : Below w.heap.size w W) => area_any ps A n c W hn (by omega) (fun p hp => by have := h3 p hp; omega) (hs.to hbw))
    have BR := hide (fun (W : World) (hbw : Below w.heap.size w W) => onEdges_any ps A n c W hn (by omega) h3 (hs.to hbw))
    have an := absI_eq (areaL ps)
    have an2 := absI_nn (areaL ps)
    have tb := tdiv2_bd (absI (areaL ps) - bndL ps + 2) (M := 100000000) (by omega)
    have i1 : IntKind.i64.wrap (absI (areaL ps) - bndL ps) = absI (areaL ps) - bndL ps := IntWalk.i64_in _ (by omega)
    have i2 : IntKind.i64.wrap (absI (areaL ps) - bndL ps + 2) = absI (areaL ps) - bndL ps + 2 := IntWalk.i64_in _ (by omega)
    have i3 : IntKind.i64.wrap ((absI (areaL ps) - bndL ps + 2).tdiv 2) = (absI (areaL ps) - bndL ps + 2).tdiv 2 := IntWalk.i64_in _ (by omega)
    have AA := hide (fun W => iabs_any (areaL ps) W (by omega))
    clear hok hn hs h3 an
    go_enter Tryz.func92, Tryz.ntmps92
    go_wp2_with fail
    refine HC.out.mono ?_
    rintro e w' ⟨rfl, hw'⟩; have hzy1 := ext_sz hw'; obtain ⟨y1, rfl⟩ := hw'; (try simp at hzy1)
    go_wp2_with fail
    refine (AR.out _ (by (repeat' (first | (with_reducible first | exact Below.refl _ _ | assumption | refine below_ext _ ?_ ?_ | refine Below.alloc ?_ ?_ _ | refine Below.drew ?_ | refine below_drewN ?_ _ | refine le_drewN _ ?_ | refine Below.setCell ?_ ?_ _ | exact Nat.le_refl _ | refine le_ext _ ?_ | refine le_alloc _ ?_ | refine le_setCell _ _ ?_ | refine le_drew ?_) | omega | (simp; done) | (simp; omega))))).mono ?_
    rintro e w' ⟨rfl, hw'⟩; have hzy2 := ext_sz hw'; obtain ⟨y2, rfl⟩ := hw'; (try simp at hzy2)
    go_wp2_with fail
    refine (AA.out _).mono ?_
    rintro e w' ⟨rfl, rfl⟩
    go_wp2_with fail
    refine (BR.out _ (by (repeat' (first | (with_reducible first | exact Below.refl _ _ | assumption | refine below_ext _ ?_ ?_ | refine Below.alloc ?_ ?_ _ | refine Below.drew ?_ | refine below_drewN ?_ _ | refine le_drewN _ ?_ | refine Below.setCell ?_ ?_ _ | exact Nat.le_refl _ | refine le_ext _ ?_ | refine le_alloc _ ?_ | refine le_setCell _ _ ?_ | refine le_drew ?_) | omega | (simp; done) | (simp; omega))))).mono ?_
    rintro e w' ⟨rfl, hw'⟩; have hzy3 := ext_sz hw'; obtain ⟨y3, rfl⟩ := hw'; (try simp at hzy3)
    go_wp2_with fail
    go_ret
    exact ⟨ret_int HV.out.symm, (ext_mk (by (repeat' (first | (with_reducible first | exact Below.refl _ _ | assumption | refine below_ext _ ?_ ?_ | refine Below.alloc ?_ ?_ _ | refine Below.drew ?_ | refine below_drewN ?_ _ | refine le_drewN _ ?_ | refine Below.setCell ?_ ?_ _ | exact Nat.le_refl _ | refine le_ext _ ?_ | refine le_alloc _ ?_ | refine le_setCell _ _ ?_ | refine le_drew ?_) | omega | (simp; done) | (simp; omega)))))⟩
  · rw [eq_false_of_ne_true hok] at HC
    have HV := hide (intr_1 (eq_false_of_ne_true hok))
    clear hok hn hs
    go_enter Tryz.func92, Tryz.ntmps92
    go_wp2_with fail
    refine HC.out.mono ?_
    rintro e w' ⟨rfl, hw'⟩; have hzy1 := ext_sz hw'; obtain ⟨y1, rfl⟩ := hw'; (try simp at hzy1)
    go_wp2_with fail
    go_ret
    exact ⟨ret_int HV.out.symm, (ext_mk (by (repeat' (first | (with_reducible first | exact Below.refl _ _ | assumption | refine below_ext _ ?_ ?_ | refine Below.alloc ?_ ?_ _ | refine Below.drew ?_ | refine below_drewN ?_ _ | refine le_drewN _ ?_ | refine Below.setCell ?_ ?_ _ | exact Nat.le_refl _ | refine le_ext _ ?_ | refine le_alloc _ ?_ | refine le_setCell _ _ ?_ | refine le_drew ?_) | omega | (simp; done) | (simp; omega)))))⟩
set_option maxHeartbeats 1000000 in
theorem sInt_any (ps : List Pt) (A : Option Addr) (n c : Nat) (w : World) (hn : ps.length = n) (hm : n ≤ 2000000) (hs : PtsAt w w.heap.size A ps) :
    Calls Tryz.prog 70 #[.slice A n c] w fun e w' => e = .returned (.int .i64 (intr ps)) ∧ ∃ x, w' = ext w x := by
  have HC := hide (isSimple_any ps A n c w hn hm hs)
  by_cases hok : simB ps = true
  · rw [hok] at HC
    obtain ⟨h3, h20, ha, hb⟩ := simB_nums hok
    have HV := hide (intr_2 hok)
    have AR := hide (fun (W : World) (hbw : Below w.heap.size w W) => sarea_any ps A n c W hn (by omega) h3 (hs.to hbw))
    have BR := hide (fun (W : World) (hbw : Below w.heap.size w W) => sbnd_any ps A n c W hn (by omega) h3 (hs.to hbw))
    have an := absI_eq (areaL ps)
    have an2 := absI_nn (areaL ps)
    have tb := tdiv2_bd (absI (areaL ps) - bndL ps + 2) (M := 100000000) (by omega)
    have i1 : IntKind.i64.wrap (absI (areaL ps) - bndL ps) = absI (areaL ps) - bndL ps := IntWalk.i64_in _ (by omega)
    have i2 : IntKind.i64.wrap (absI (areaL ps) - bndL ps + 2) = absI (areaL ps) - bndL ps + 2 := IntWalk.i64_in _ (by omega)
    have i3 : IntKind.i64.wrap ((absI (areaL ps) - bndL ps + 2).tdiv 2) = (absI (areaL ps) - bndL ps + 2).tdiv 2 := IntWalk.i64_in _ (by omega)
    have AA := hide (fun W => sabs_any (areaL ps) W (by omega))
    clear hok hn hs h3 an
    go_enter Tryz.func70, Tryz.ntmps70
    go_wp2_with fail
    refine HC.out.mono ?_
    rintro e w' ⟨rfl, hw'⟩; have hzy1 := ext_sz hw'; obtain ⟨y1, rfl⟩ := hw'; (try simp at hzy1)
    go_wp2_with fail
    refine (AR.out _ (by (repeat' (first | (with_reducible first | exact Below.refl _ _ | assumption | refine below_ext _ ?_ ?_ | refine Below.alloc ?_ ?_ _ | refine Below.drew ?_ | refine below_drewN ?_ _ | refine le_drewN _ ?_ | refine Below.setCell ?_ ?_ _ | exact Nat.le_refl _ | refine le_ext _ ?_ | refine le_alloc _ ?_ | refine le_setCell _ _ ?_ | refine le_drew ?_) | omega | (simp; done) | (simp; omega))))).mono ?_
    rintro e w' ⟨rfl, hw'⟩; have hzy2 := ext_sz hw'; obtain ⟨y2, rfl⟩ := hw'; (try simp at hzy2)
    go_wp2_with fail
    refine (AA.out _).mono ?_
    rintro e w' ⟨rfl, rfl⟩
    go_wp2_with fail
    refine (BR.out _ (by (repeat' (first | (with_reducible first | exact Below.refl _ _ | assumption | refine below_ext _ ?_ ?_ | refine Below.alloc ?_ ?_ _ | refine Below.drew ?_ | refine below_drewN ?_ _ | refine le_drewN _ ?_ | refine Below.setCell ?_ ?_ _ | exact Nat.le_refl _ | refine le_ext _ ?_ | refine le_alloc _ ?_ | refine le_setCell _ _ ?_ | refine le_drew ?_) | omega | (simp; done) | (simp; omega))))).mono ?_
    rintro e w' ⟨rfl, hw'⟩; have hzy3 := ext_sz hw'; obtain ⟨y3, rfl⟩ := hw'; (try simp at hzy3)
    go_wp2_with fail
    go_ret
    exact ⟨ret_int HV.out.symm, (ext_mk (by (repeat' (first | (with_reducible first | exact Below.refl _ _ | assumption | refine below_ext _ ?_ ?_ | refine Below.alloc ?_ ?_ _ | refine Below.drew ?_ | refine below_drewN ?_ _ | refine le_drewN _ ?_ | refine Below.setCell ?_ ?_ _ | exact Nat.le_refl _ | refine le_ext _ ?_ | refine le_alloc _ ?_ | refine le_setCell _ _ ?_ | refine le_drew ?_) | omega | (simp; done) | (simp; omega)))))⟩
  · rw [eq_false_of_ne_true hok] at HC
    have HV := hide (intr_1 (eq_false_of_ne_true hok))
    clear hok hn hs
    go_enter Tryz.func70, Tryz.ntmps70
    go_wp2_with fail
    refine HC.out.mono ?_
    rintro e w' ⟨rfl, hw'⟩; have hzy1 := ext_sz hw'; obtain ⟨y1, rfl⟩ := hw'; (try simp at hzy1)
    go_wp2_with fail
    go_ret
    exact ⟨ret_int HV.out.symm, (ext_mk (by (repeat' (first | (with_reducible first | exact Below.refl _ _ | assumption | refine below_ext _ ?_ ?_ | refine Below.alloc ?_ ?_ _ | refine Below.drew ?_ | refine below_drewN ?_ _ | refine le_drewN _ ?_ | refine Below.setCell ?_ ?_ _ | exact Nat.le_refl _ | refine le_ext _ ?_ | refine le_alloc _ ?_ | refine le_setCell _ _ ?_ | refine le_drew ?_) | omega | (simp; done) | (simp; omega)))))⟩
end Go.Proofs.YtnddfdhfefconaaGreatDoor
