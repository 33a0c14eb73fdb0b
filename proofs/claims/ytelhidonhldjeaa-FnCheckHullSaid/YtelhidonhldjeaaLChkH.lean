
/- FnCheckHull: the law's walk. -/
import Derived.Test.YtelhidonhldjeaaDrwD
import Derived.Test.YtelhidonhldjeaaHlp2
import Derived.Test.YtelhidonhldjeaaChkU
import Derived.Test.YtelhidonhldjeaaChkV
set_option linter.unusedVariables false
set_option linter.unusedSimpArgs false
namespace Go.Proofs.Ytelhidonhldjeaa
open Go.RowKit

set_option maxRecDepth 20000 in
set_option maxHeartbeats 2000000 in
theorem lawChkH (n c : Nat) (A : Option Addr) (w : World) (hn : n ≤ c) (hc : c ≤ 9223372036854775807) (hA : BytesAt w w.heap.size A n) :
    Calls Try.prog 8 #[.slice A n c] w fun e w' => e = .returned (.bool true) ∧ Below w.heap.size w w' := by
  by_cases hle : n ≤ 1048576
  · have hd : decide ((1048576 : Int) < (n : Int)) = false := decide_eq_false (by omega)
    go_enter Try.func8, Try.ntmps8
    go_wp2_with fail
    refine (drawChk_any n c A _ hn hc hA).mono ?_
    rintro e w1 ⟨A1, B1, Z1, n1, c1, m1, d1, r1, f1, ps, hs, zss, rfl, l1, l2, k1, k2, k3, F1, F2, P1, P2, R1, BL⟩
    have IC := hide (fun (W : World) (hb : Below w1.heap.size w1 W) => iChkG_any ps hs zss A1 B1 Z1 n1 c1 m1 d1 r1 f1 W l1 l2 k1 k2 k3 F1 F2 (P1.to hb) (P2.to hb) (R1.below hb))
    have SC := hide (fun (W : World) (hb : Below w1.heap.size w1 W) => sChk_any ps hs zss A1 B1 Z1 n1 c1 m1 d1 r1 f1 W l1 l2 k1 k2 k3 (P1.to hb) (P2.to hb) (R1.below hb))
    have HU := hide (fun (W : World) (hb : Below w1.heap.size w1 W) => iHull_any ps A1 n1 c1 W l1 (by omega) F1 (P1.to hb))
    have PH := hide P2
    have LH := hide l2
    have LP := hide l1
    have s1 := BL.size
    have CK := hide (hull_checked (ps := ps) (hs := hs) (zss := zss))
    have CO := hide (fun h : chkB ps hs zss = true => (chk_iff.1 h).1)
    clear hA l1 l2 F1 F2 P1 P2 R1
    go_wp2_with fail
    refine (IC.out _ (Below.refl _ _)).mono ?_
    rintro e w' ⟨rfl, hw'⟩; have hzy1 := ext_sz hw'; obtain ⟨y1, rfl⟩ := hw'; (try simp at hzy1)
    go_wp2_with fail
    refine (SC.out _ (by (repeat' (first | (with_reducible exact Below.refl _ _) | (with_reducible assumption) | (with_reducible refine below_ext _ ?_ ?_) | (with_reducible refine Below.alloc ?_ ?_ _) | (with_reducible refine Below.drew ?_) | (with_reducible refine below_drewN ?_ _) | (with_reducible refine le_drewN _ ?_) | (with_reducible refine Below.setCell ?_ ?_ _) | (with_reducible exact Nat.le_refl _) | (with_reducible refine le_ext _ ?_) | (with_reducible refine le_alloc _ ?_) | (with_reducible refine le_setCell _ _ ?_) | (with_reducible refine le_drew ?_) | omega | (simp; done) | (simp; omega))))).mono ?_
    rintro e w' ⟨rfl, hw'⟩; have hzy2 := ext_sz hw'; obtain ⟨y2, rfl⟩ := hw'; (try simp at hzy2)
    by_cases h : chkB ps hs zss = true
    · have eh : hullL ps = hs := by unfold hullL; rw [if_pos (CO.out h), CK.out h]
      have HU2 := hide (fun (W : World) (hb : Below w1.heap.size w1 W) => HU.out W hb)
      rw [eh] at HU2
      rw [h]
      clear h HU IC SC CK CO eh
      go_wp2_with fail
      refine (HU2.out _ (by (repeat' (first | (with_reducible exact Below.refl _ _) | (with_reducible assumption) | (with_reducible refine below_ext _ ?_ ?_) | (with_reducible refine Below.alloc ?_ ?_ _) | (with_reducible refine Below.drew ?_) | (with_reducible refine below_drewN ?_ _) | (with_reducible refine le_drewN _ ?_) | (with_reducible refine Below.setCell ?_ ?_ _) | (with_reducible exact Nat.le_refl _) | (with_reducible refine le_ext _ ?_) | (with_reducible refine le_alloc _ ?_) | (with_reducible refine le_setCell _ _ ?_) | (with_reducible refine le_drew ?_) | omega | (simp; done) | (simp; omega))))).mono ?_
      rintro e w4 ⟨A4, n4, c4, rfl, l4, q4, q4b, p4, f4, hx4⟩
      have B4 := hide (ext_bel hx4)
      have Q4 := hide p4.pts
      have L4 := hide l4
      have B2 := hide (show Below w1.heap.size w1 (ext (ext w1 y1) y2) from (by (repeat' (first | (with_reducible exact Below.refl _ _) | (with_reducible assumption) | (with_reducible refine below_ext _ ?_ ?_) | (with_reducible refine Below.alloc ?_ ?_ _) | (with_reducible refine Below.drew ?_) | (with_reducible refine below_drewN ?_ _) | (with_reducible refine le_drewN _ ?_) | (with_reducible refine Below.setCell ?_ ?_ _) | (with_reducible exact Nat.le_refl _) | (with_reducible refine le_ext _ ?_) | (with_reducible refine le_alloc _ ?_) | (with_reducible refine le_setCell _ _ ?_) | (with_reducible refine le_drew ?_) | omega | (simp; done) | (simp; omega)))))
      have BB := hide (B2.out.trans (B4.out.mono B2.out.size))
      have m1n : n4 = m1 := by rw [← LH.out]; exact l4.symm
      have EQ := hide (equalPoints_any hs hs B1 A4 m1 d1 n4 c4 w4 LH.out L4.out (by omega) (by omega) (PH.out.to BB.out) Q4.out |>.mono (fun e w' hh => And.intro (hh.1.trans (ret_bool (decide_eq_true rfl))) hh.2))
      clear hx4 p4 l4 m1n
      go_wp2_with fail
      refine EQ.out.mono ?_
      rintro e w' ⟨rfl, hw'⟩; have hzy5 := ext_sz hw'; obtain ⟨y5, rfl⟩ := hw'; (try simp at hzy5)
      go_wp2
      go_ret
      exact ⟨rfl, (BL.trans (BB.out.mono s1)).trans ((ext_below w4 y5).mono (Nat.le_trans s1 BB.out.size))⟩
    · have h := eq_false_of_ne_true h
      rw [h]
      clear HU IC SC CK CO h
      go_wp2
      go_ret
      exact ⟨rfl, BL.trans (Below.mono (by (repeat' (first | (with_reducible exact Below.refl _ _) | (with_reducible assumption) | (with_reducible refine below_ext _ ?_ ?_) | (with_reducible refine Below.alloc ?_ ?_ _) | (with_reducible refine Below.drew ?_) | (with_reducible refine below_drewN ?_ _) | (with_reducible refine le_drewN _ ?_) | (with_reducible refine Below.setCell ?_ ?_ _) | (with_reducible exact Nat.le_refl _) | (with_reducible refine le_ext _ ?_) | (with_reducible refine le_alloc _ ?_) | (with_reducible refine le_setCell _ _ ?_) | (with_reducible refine le_drew ?_) | omega | (simp; done) | (simp; omega)))) s1)⟩
  · have hd : decide ((1048576 : Int) < (n : Int)) = true := decide_eq_true (by omega)
    go_enter Try.func8, Try.ntmps8
    go_wp2
    go_ret
    exact ⟨rfl, (by (repeat' (first | (with_reducible exact Below.refl _ _) | (with_reducible assumption) | (with_reducible refine below_ext _ ?_ ?_) | (with_reducible refine Below.alloc ?_ ?_ _) | (with_reducible refine Below.drew ?_) | (with_reducible refine below_drewN ?_ _) | (with_reducible refine le_drewN _ ?_) | (with_reducible refine Below.setCell ?_ ?_ _) | (with_reducible exact Nat.le_refl _) | (with_reducible refine le_ext _ ?_) | (with_reducible refine le_alloc _ ?_) | (with_reducible refine le_setCell _ _ ?_) | (with_reducible refine le_drew ?_) | omega | (simp; done) | (simp; omega))))⟩
end Go.Proofs.Ytelhidonhldjeaa
