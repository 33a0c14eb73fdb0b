
/- FnMinkowskiArea: the law's walk. -/
import Derived.Test.YtoendanihhocjaaAreaM
import Derived.Test.YtoendanihhocjaaDrawH
import Derived.Test.YtoendanihhocjaaHlp2
set_option linter.unusedVariables false
set_option linter.unusedSimpArgs false
namespace Go.Proofs.Ytoendanihhocjaa
open Go.RowKit

set_option maxHeartbeats 4000000 in
theorem lawMkArea (n c : Nat) (A : Option Addr) (w : World) (hn : n ≤ c) (hc : c ≤ 9223372036854775807) (hA : BytesAt w w.heap.size A n) :
    Calls Try.prog 7 #[.slice A n c] w fun e w' => e = .returned (.bool true) ∧ Below w.heap.size w w' := by
  by_cases hle : n ≤ 1048576
  · have hd : decide ((1048576 : Int) < (n : Int)) = false := decide_eq_false (by omega)
    go_enter Try.func7, Try.ntmps7
    go_wp2_with fail
    refine (drawMink_any n c A _ hn hc hA).mono ?_
    rintro e w1 ⟨v1, ps, v2, qs, rfl, o1, lp, cbp, o2, lq, cbq, B1⟩
    obtain ⟨A1, n1, c1, rfl⟩ := o1.slice
    obtain ⟨A2, n2, c2, rfl⟩ := o2.slice
    have h1 := hide o1.pts.1
    have h2 := hide o2.pts.1
    have P1 := hide o1.pts.2.2.2
    have P2 := hide o2.pts.2.2.2
    have F1 := hide o1.form.1
    have o2form := o2.form.1
    have k1 : n1 ≤ 21 := by have := h1.out; omega
    have k2 : n2 ≤ 21 := by have := h2.out; omega
    have IM := hide (fun (W : World) (hb : Below w1.heap.size w1 W) => iMink_any ps qs A1 A2 n1 c1 n2 c2 W h1.out h2.out (by omega) (by omega) (P1.out.to hb) (P2.out.to hb))
    have SM := hide (fun (W : World) (hb : Below w1.heap.size w1 W) => sMink_any ps qs A1 A2 n1 c1 n2 c2 W h1.out h2.out (by omega) (by omega) (P1.out.to hb) (P2.out.to hb))
    have LM := mink_len ps qs
    have s1 := B1.size
    clear cbp cbq o1 o2 hA
    have FB := hide o2form
    have CA := hide (fun (W : World) (hb : Below w1.heap.size w1 W) => iHullArea_any ps A1 n1 c1 W h1.out (by omega) F1.out (P1.out.to hb))
    have CB := hide (fun (W : World) (hb : Below w1.heap.size w1 W) => iHullArea_any qs A2 n2 c2 W h2.out (by omega) FB.out (P2.out.to hb))
    have ba := hullArea_bd ps
    have bb := hullArea_bd qs
    by_cases hV : (minkOf ps qs).2 = true
    · have HSUM := hide (fun hl => mink_area hV hl)
      have bl := hullArea_bd (minkOf ps qs).1
      rw [hV] at IM SM
      clear hV
      generalize (minkOf ps qs).1 = L at *
      go_wp2_with fail
      refine (IM.out _ (Below.refl _ _)).mono ?_
      rintro e w3 ⟨A3, n3, c3, rfl, l3, q3, qb3, pr3, pl3, hx3⟩
      have D3 := ext_bel hx3
      have zz3 := D3.size
      (try simp at zz3)
      clear hx3
      have L3 := hide l3
      have K3 := hide pr3
      have F3 := hide pl3
      have k3 : n3 ≤ 1000 := by have := L3.out; omega
      clear l3 pr3 pl3
      go_wp2_with fail
      refine (SM.out _ D3).mono ?_
      rintro e w4 ⟨v4, rfl, own4, hx4⟩
      have D4 := ext_bel hx4
      have zz4 := D4.size
      (try simp at zz4)
      clear hx4
      obtain ⟨A4, n4, c4, rfl⟩ := own4.slice
      have L4 := hide own4.pts.1
      have P4 := hide own4.pts.2.2.2
      have K4 := hide (K3.out.below D4)
      have k4 : n4 ≤ 1000 := by have := L4.out; omega
      have C4 := D3.trans (D4.mono D3.size)
      have t4 := C4.size
      clear own4 K3
      have EQ := hide (fun (W : World) (hb : Below w4.heap.size w4 W) => equalPoints_any L L A3 A4 n3 c3 n4 c4 W L3.out L4.out (by omega) (by omega) (K4.out.pts.to hb) (P4.out.to hb))
      rw [decide_eq_true (rfl : L = L)] at EQ
      go_wp2_with fail
      refine (EQ.out _ (Below.refl _ _)).mono ?_
      rintro e w' ⟨rfl, hw'⟩; have hzy5 := ext_sz hw'; obtain ⟨y5, rfl⟩ := hw'; (try simp at hzy5)
      by_cases h20 : n3 ≤ 20
      · have hg : decide ((20 : Int) < (n3 : Int)) = false := decide_eq_false (by omega)
        have HS := HSUM.out (by rw [L3.out]; exact h20)
        have CL := hide (fun (W : World) (hb : Below w4.heap.size w4 W) => iHullArea_any L A3 n3 c3 W L3.out (by omega) F3.out (K4.out.pts.to hb))
        clear HSUM
        generalize hullArea ps = X at *
        generalize hullArea qs = Y at *
        generalize hullArea L = Z at *
        go_wp2_with fail
        refine (CL.out _ (by (repeat' (first | (with_reducible exact Below.refl _ _) | (with_reducible assumption) | (with_reducible refine below_ext _ ?_ ?_) | (with_reducible refine Below.alloc ?_ ?_ _) | (with_reducible refine Below.drew ?_) | (with_reducible refine below_drewN ?_ _) | (with_reducible refine le_drewN _ ?_) | (with_reducible refine Below.setCell ?_ ?_ _) | (with_reducible exact Nat.le_refl _) | (with_reducible refine le_ext _ ?_) | (with_reducible refine le_alloc _ ?_) | (with_reducible refine le_setCell _ _ ?_) | (with_reducible refine le_drew ?_) | omega | (simp; done) | (simp; omega))))).mono ?_
        rintro e w' ⟨rfl, hw'⟩; have hzy6 := ext_sz hw'; obtain ⟨y6, rfl⟩ := hw'; (try simp at hzy6)
        go_wp2_with fail
        refine (CA.out _ (C4.trans (by (repeat' (first | (with_reducible exact Below.refl _ _) | (with_reducible assumption) | (with_reducible refine below_ext _ ?_ ?_) | (with_reducible refine Below.alloc ?_ ?_ _) | (with_reducible refine Below.drew ?_) | (with_reducible refine below_drewN ?_ _) | (with_reducible refine le_drewN _ ?_) | (with_reducible refine Below.setCell ?_ ?_ _) | (with_reducible exact Nat.le_refl _) | (with_reducible refine le_ext _ ?_) | (with_reducible refine le_alloc _ ?_) | (with_reducible refine le_setCell _ _ ?_) | (with_reducible refine le_drew ?_) | omega | (simp; done) | (simp; omega)))))).mono ?_
        rintro e w' ⟨rfl, hw'⟩; have hzy7 := ext_sz hw'; obtain ⟨y7, rfl⟩ := hw'; (try simp at hzy7)
        go_wp2_with fail
        refine (CB.out _ (C4.trans (by (repeat' (first | (with_reducible exact Below.refl _ _) | (with_reducible assumption) | (with_reducible refine below_ext _ ?_ ?_) | (with_reducible refine Below.alloc ?_ ?_ _) | (with_reducible refine Below.drew ?_) | (with_reducible refine below_drewN ?_ _) | (with_reducible refine le_drewN _ ?_) | (with_reducible refine Below.setCell ?_ ?_ _) | (with_reducible exact Nat.le_refl _) | (with_reducible refine le_ext _ ?_) | (with_reducible refine le_alloc _ ?_) | (with_reducible refine le_setCell _ _ ?_) | (with_reducible refine le_drew ?_) | omega | (simp; done) | (simp; omega)))))).mono ?_
        rintro e w' ⟨rfl, hw'⟩; have hzy8 := ext_sz hw'; obtain ⟨y8, rfl⟩ := hw'; (try simp at hzy8)
        go_wp2
        go_ret
        exact ⟨ret_bool (by first | (simp; done) | (simp; omega)), B1.trans ((C4.trans (by (repeat' (first | (with_reducible exact Below.refl _ _) | (with_reducible assumption) | (with_reducible refine below_ext _ ?_ ?_) | (with_reducible refine Below.alloc ?_ ?_ _) | (with_reducible refine Below.drew ?_) | (with_reducible refine below_drewN ?_ _) | (with_reducible refine le_drewN _ ?_) | (with_reducible refine Below.setCell ?_ ?_ _) | (with_reducible exact Nat.le_refl _) | (with_reducible refine le_ext _ ?_) | (with_reducible refine le_alloc _ ?_) | (with_reducible refine le_setCell _ _ ?_) | (with_reducible refine le_drew ?_) | omega | (simp; done) | (simp; omega))))).mono s1)⟩
      · have hg : decide ((20 : Int) < (n3 : Int)) = true := decide_eq_true (by omega)
        go_wp2_with fail
        refine (EQ.out _ (by (repeat' (first | (with_reducible exact Below.refl _ _) | (with_reducible assumption) | (with_reducible refine below_ext _ ?_ ?_) | (with_reducible refine Below.alloc ?_ ?_ _) | (with_reducible refine Below.drew ?_) | (with_reducible refine below_drewN ?_ _) | (with_reducible refine le_drewN _ ?_) | (with_reducible refine Below.setCell ?_ ?_ _) | (with_reducible exact Nat.le_refl _) | (with_reducible refine le_ext _ ?_) | (with_reducible refine le_alloc _ ?_) | (with_reducible refine le_setCell _ _ ?_) | (with_reducible refine le_drew ?_) | omega | (simp; done) | (simp; omega))))).mono ?_
        rintro e w' ⟨rfl, hw'⟩; have hzy6 := ext_sz hw'; obtain ⟨y6, rfl⟩ := hw'; (try simp at hzy6)
        go_wp2
        go_ret
        exact ⟨rfl, B1.trans ((C4.trans (by (repeat' (first | (with_reducible exact Below.refl _ _) | (with_reducible assumption) | (with_reducible refine below_ext _ ?_ ?_) | (with_reducible refine Below.alloc ?_ ?_ _) | (with_reducible refine Below.drew ?_) | (with_reducible refine below_drewN ?_ _) | (with_reducible refine le_drewN _ ?_) | (with_reducible refine Below.setCell ?_ ?_ _) | (with_reducible exact Nat.le_refl _) | (with_reducible refine le_ext _ ?_) | (with_reducible refine le_alloc _ ?_) | (with_reducible refine le_setCell _ _ ?_) | (with_reducible refine le_drew ?_) | omega | (simp; done) | (simp; omega))))).mono s1)⟩
    · rw [eq_false_of_ne_true hV] at IM SM
      clear hV
      generalize (minkOf ps qs).1 = L at *
      go_wp2_with fail
      refine (IM.out _ (Below.refl _ _)).mono ?_
      rintro e w3 ⟨A3, n3, c3, rfl, l3, q3, qb3, pr3, pl3, hx3⟩
      have D3 := ext_bel hx3
      have zz3 := D3.size
      (try simp at zz3)
      clear hx3
      have L3 := hide l3
      have K3 := hide pr3
      have F3 := hide pl3
      have k3 : n3 ≤ 1000 := by have := L3.out; omega
      clear l3 pr3 pl3
      go_wp2_with fail
      refine (SM.out _ D3).mono ?_
      rintro e w4 ⟨v4, rfl, own4, hx4⟩
      have D4 := ext_bel hx4
      have zz4 := D4.size
      (try simp at zz4)
      clear hx4
      obtain ⟨A4, n4, c4, rfl⟩ := own4.slice
      have L4 := hide own4.pts.1
      have P4 := hide own4.pts.2.2.2
      have K4 := hide (K3.out.below D4)
      have k4 : n4 ≤ 1000 := by have := L4.out; omega
      have C4 := D3.trans (D4.mono D3.size)
      have t4 := C4.size
      clear own4 K3
      have EQ := hide (fun (W : World) (hb : Below w4.heap.size w4 W) => equalPoints_any L L A3 A4 n3 c3 n4 c4 W L3.out L4.out (by omega) (by omega) (K4.out.pts.to hb) (P4.out.to hb))
      rw [decide_eq_true (rfl : L = L)] at EQ
      go_wp2_with fail
      refine (EQ.out _ (Below.refl _ _)).mono ?_
      rintro e w' ⟨rfl, hw'⟩; have hzy5 := ext_sz hw'; obtain ⟨y5, rfl⟩ := hw'; (try simp at hzy5)
      go_wp2_with fail
      refine (EQ.out _ (by (repeat' (first | (with_reducible exact Below.refl _ _) | (with_reducible assumption) | (with_reducible refine below_ext _ ?_ ?_) | (with_reducible refine Below.alloc ?_ ?_ _) | (with_reducible refine Below.drew ?_) | (with_reducible refine below_drewN ?_ _) | (with_reducible refine le_drewN _ ?_) | (with_reducible refine Below.setCell ?_ ?_ _) | (with_reducible exact Nat.le_refl _) | (with_reducible refine le_ext _ ?_) | (with_reducible refine le_alloc _ ?_) | (with_reducible refine le_setCell _ _ ?_) | (with_reducible refine le_drew ?_) | omega | (simp; done) | (simp; omega))))).mono ?_
      rintro e w' ⟨rfl, hw'⟩; have hzy6 := ext_sz hw'; obtain ⟨y6, rfl⟩ := hw'; (try simp at hzy6)
      go_wp2
      go_ret
      exact ⟨rfl, B1.trans ((C4.trans (by (repeat' (first | (with_reducible exact Below.refl _ _) | (with_reducible assumption) | (with_reducible refine below_ext _ ?_ ?_) | (with_reducible refine Below.alloc ?_ ?_ _) | (with_reducible refine Below.drew ?_) | (with_reducible refine below_drewN ?_ _) | (with_reducible refine le_drewN _ ?_) | (with_reducible refine Below.setCell ?_ ?_ _) | (with_reducible exact Nat.le_refl _) | (with_reducible refine le_ext _ ?_) | (with_reducible refine le_alloc _ ?_) | (with_reducible refine le_setCell _ _ ?_) | (with_reducible refine le_drew ?_) | omega | (simp; done) | (simp; omega))))).mono s1)⟩
  · skip
    have hd : decide ((1048576 : Int) < (n : Int)) = true := decide_eq_true (by omega)
    go_enter Try.func7, Try.ntmps7
    go_wp2
    go_ret
    exact ⟨rfl, (by (repeat' (first | (with_reducible exact Below.refl _ _) | (with_reducible assumption) | (with_reducible refine below_ext _ ?_ ?_) | (with_reducible refine Below.alloc ?_ ?_ _) | (with_reducible refine Below.drew ?_) | (with_reducible refine below_drewN ?_ _) | (with_reducible refine le_drewN _ ?_) | (with_reducible refine Below.setCell ?_ ?_ _) | (with_reducible exact Nat.le_refl _) | (with_reducible refine le_ext _ ?_) | (with_reducible refine le_alloc _ ?_) | (with_reducible refine le_setCell _ _ ?_) | (with_reducible refine le_drew ?_) | omega | (simp; done) | (simp; omega))))⟩
end Go.Proofs.Ytoendanihhocjaa
