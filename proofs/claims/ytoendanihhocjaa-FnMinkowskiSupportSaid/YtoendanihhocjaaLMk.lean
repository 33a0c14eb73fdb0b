
/- FnMinkowskiSum, FnMinkowskiSelf, FnMinkowskiPoint, FnMinkowskiSupport: the laws' walks. -/
import Derived.Test.YtoendanihhocjaaMkM
import Derived.Test.YtoendanihhocjaaDrawH
import Derived.Test.YtoendanihhocjaaHlp2
set_option linter.unusedVariables false
set_option linter.unusedSimpArgs false
namespace Go.Proofs.Ytoendanihhocjaa
open Go.RowKit

set_option maxHeartbeats 4000000 in
theorem lawMkSum (n c : Nat) (A : Option Addr) (w : World) (hn : n ≤ c) (hc : c ≤ 9223372036854775807) (hA : BytesAt w w.heap.size A n) :
    Calls Try.prog 5 #[.slice A n c] w fun e w' => e = .returned (.bool true) ∧ Below w.heap.size w w' := by
  by_cases hle : n ≤ 1048576
  · have hd : decide ((1048576 : Int) < (n : Int)) = false := decide_eq_false (by omega)
    go_enter Try.func5, Try.ntmps5
    go_wp2_with fail
    refine (drawMink_any n c A _ hn hc hA).mono ?_
    rintro e w1 ⟨v1, ps, v2, qs, rfl, o1, lp, cbp, o2, lq, cbq, B1⟩
    obtain ⟨A1, n1, c1, rfl⟩ := o1.slice
    obtain ⟨A2, n2, c2, rfl⟩ := o2.slice
    have h1 := hide o1.pts.1
    have h2 := hide o2.pts.1
    have P1 := hide o1.pts.2.2.2
    have P2 := hide o2.pts.2.2.2
    have F1 := hide o1.form.1
    have k1 : n1 ≤ 21 := by have := h1.out; omega
    have k2 : n2 ≤ 21 := by have := h2.out; omega
    have IM := hide (fun (W : World) (hb : Below w1.heap.size w1 W) => iMink_any ps qs A1 A2 n1 c1 n2 c2 W h1.out h2.out (by omega) (by omega) (P1.out.to hb) (P2.out.to hb))
    have SM := hide (fun (W : World) (hb : Below w1.heap.size w1 W) => sMink_any ps qs A1 A2 n1 c1 n2 c2 W h1.out h2.out (by omega) (by omega) (P1.out.to hb) (P2.out.to hb))
    have LM := mink_len ps qs
    have s1 := B1.size
    clear cbp cbq o1 o2 hA
    have IB := hide (fun (W : World) (hb : Below w1.heap.size w1 W) => iMink_any qs ps A2 A1 n2 c2 n1 c1 W h2.out h1.out (by omega) (by omega) (P2.out.to hb) (P1.out.to hb))
    rw [mink_comm ps qs] at IB
    by_cases hV : (minkOf ps qs).2 = true
    · have HS : Hid ((minkOf ps qs).1.length ≤ 20 → hullL (minkOf ps qs).1 = (minkOf ps qs).1) := hide (fun hl => by
        rcases mink_cases ps qs with e | ⟨h1, h2, e⟩
        · rw [e] at hV; cases hV
        · rw [e] at hl ⊢; exact hullL_self (listOk_mk h2 hl) ⟨_, rfl⟩)
      rw [hV] at IM SM IB
      clear hV
      generalize (minkOf ps qs).1 = L at *
      go_wp2_with fail
      refine (IM.out _ (Below.refl _ _)).mono ?_
      rintro e w3 ⟨A3, n3, c3, rfl, l3, q3, qb3, pr3, pl3, hx3⟩
      have D3 := ext_bel hx3
      have zz3 := D3.size
      (try simp at zz3)
      clear hx3
      have L3 := hide l3
      have K3 := hide pr3
      have F3 := hide pl3
      have k3 : n3 ≤ 1000 := by have := L3.out; omega
      clear l3 pr3 pl3
      go_wp2_with fail
      refine (SM.out _ D3).mono ?_
      rintro e w4 ⟨v4, rfl, own4, hx4⟩
      have D4 := ext_bel hx4
      have zz4 := D4.size
      (try simp at zz4)
      clear hx4
      obtain ⟨A4, n4, c4, rfl⟩ := own4.slice
      have L4 := hide own4.pts.1
      have P4 := hide own4.pts.2.2.2
      have K4 := hide (K3.out.below D4)
      have k4 : n4 ≤ 1000 := by have := L4.out; omega
      have C4 := D3.trans (D4.mono D3.size)
      have t4 := C4.size
      clear own4 K3
      have EQ := hide (fun (W : World) (hb : Below w4.heap.size w4 W) => equalPoints_any L L A3 A4 n3 c3 n4 c4 W L3.out L4.out (by omega) (by omega) (K4.out.pts.to hb) (P4.out.to hb))
      rw [decide_eq_true (rfl : L = L)] at EQ
      go_wp2_with fail
      refine (EQ.out _ (Below.refl _ _)).mono ?_
      rintro e w' ⟨rfl, hw'⟩; have hzy5 := ext_sz hw'; obtain ⟨y5, rfl⟩ := hw'; (try simp at hzy5)
      go_wp2_with fail
      refine (IB.out _ (C4.trans (by (repeat' (first | (with_reducible exact Below.refl _ _) | (with_reducible assumption) | (with_reducible refine below_ext _ ?_ ?_) | (with_reducible refine Below.alloc ?_ ?_ _) | (with_reducible refine Below.drew ?_) | (with_reducible refine below_drewN ?_ _) | (with_reducible refine le_drewN _ ?_) | (with_reducible refine Below.setCell ?_ ?_ _) | (with_reducible exact Nat.le_refl _) | (with_reducible refine le_ext _ ?_) | (with_reducible refine le_alloc _ ?_) | (with_reducible refine le_setCell _ _ ?_) | (with_reducible refine le_drew ?_) | omega | (simp; done) | (simp; omega)))))).mono ?_
      rintro e w6 ⟨A6, n6, c6, rfl, l6, q6, qb6, pr6, pl6, hx6⟩
      have D6 := ext_bel hx6
      have zz6 := D6.size
      (try simp at zz6)
      clear hx6
      have C6 : Below w4.heap.size w4 w6 := Below.trans (by (repeat' (first | (with_reducible exact Below.refl _ _) | (with_reducible assumption) | (with_reducible refine below_ext _ ?_ ?_) | (with_reducible refine Below.alloc ?_ ?_ _) | (with_reducible refine Below.drew ?_) | (with_reducible refine below_drewN ?_ _) | (with_reducible refine le_drewN _ ?_) | (with_reducible refine Below.setCell ?_ ?_ _) | (with_reducible exact Nat.le_refl _) | (with_reducible refine le_ext _ ?_) | (with_reducible refine le_alloc _ ?_) | (with_reducible refine le_setCell _ _ ?_) | (with_reducible refine le_drew ?_) | omega | (simp; done) | (simp; omega)))) (D6.mono hzy5)
      have L6 := hide l6
      have P6 := hide pr6.pts
      have k6 : n6 ≤ 1000 := by have := L6.out; omega
      have s6 := C6.size
      have t6 := Nat.le_trans t4 s6
      have E6 := hide (fun (W : World) (hb : Below w6.heap.size w6 W) => equalPoints_any L L A6 A3 n6 c6 n3 c3 W L6.out L3.out (by omega) (by omega) (P6.out.to hb) (K4.out.pts.to (C6.trans (hb.mono s6))))
      rw [decide_eq_true (rfl : L = L)] at E6
      clear l6 pr6 pl6
      by_cases h20 : n3 ≤ 20
      · have hg : decide ((20 : Int) < (n3 : Int)) = false := decide_eq_false (by omega)
        have HSL : Hid (hullL L = L) := hide (HS.out (by rw [L3.out]; exact h20))
        have IH := hide (fun (W : World) (hb : Below w4.heap.size w4 W) => iHull_any L A3 n3 c3 W L3.out (by omega) F3.out (K4.out.pts.to hb))
        rw [HSL.out] at IH
        go_wp2_with fail
        refine (E6.out _ (Below.refl _ _)).mono ?_
        rintro e w' ⟨rfl, hw'⟩; have hzy7 := ext_sz hw'; obtain ⟨y7, rfl⟩ := hw'; (try simp at hzy7)
        go_wp2_with fail
        refine (IH.out _ (C6.trans (by (repeat' (first | (with_reducible exact Below.refl _ _) | (with_reducible assumption) | (with_reducible refine below_ext _ ?_ ?_) | (with_reducible refine Below.alloc ?_ ?_ _) | (with_reducible refine Below.drew ?_) | (with_reducible refine below_drewN ?_ _) | (with_reducible refine le_drewN _ ?_) | (with_reducible refine Below.setCell ?_ ?_ _) | (with_reducible exact Nat.le_refl _) | (with_reducible refine le_ext _ ?_) | (with_reducible refine le_alloc _ ?_) | (with_reducible refine le_setCell _ _ ?_) | (with_reducible refine le_drew ?_) | omega | (simp; done) | (simp; omega)))))).mono ?_
        rintro e w8 ⟨A8, n8, c8, rfl, l8, q8, qb8, pr8, pl8, hx8⟩
        have D8 := ext_bel hx8
        have zz8 := D8.size
        (try simp at zz8)
        clear hx8
        have C8 : Below w4.heap.size w4 w8 := C6.trans (Below.trans (by (repeat' (first | (with_reducible exact Below.refl _ _) | (with_reducible assumption) | (with_reducible refine below_ext _ ?_ ?_) | (with_reducible refine Below.alloc ?_ ?_ _) | (with_reducible refine Below.drew ?_) | (with_reducible refine below_drewN ?_ _) | (with_reducible refine le_drewN _ ?_) | (with_reducible refine Below.setCell ?_ ?_ _) | (with_reducible exact Nat.le_refl _) | (with_reducible refine le_ext _ ?_) | (with_reducible refine le_alloc _ ?_) | (with_reducible refine le_setCell _ _ ?_) | (with_reducible refine le_drew ?_) | omega | (simp; done) | (simp; omega)))) (D8.mono (Nat.le_trans s6 hzy7)))
        have t8 := Nat.le_trans t4 C8.size
        have L8 := hide l8
        have P8 := hide pr8.pts
        have k8 : n8 ≤ 1000 := by have := L8.out; have := L3.out; omega
        clear l8 pr8 pl8
        go_wp2_with fail
        refine (equalPoints_any L L A8 A3 n8 c8 n3 c3 _ L8.out L3.out (by omega) (by omega) P8.out (K4.out.pts.to C8)).mono ?_
        rw [decide_eq_true (rfl : L = L)]
        rintro e w' ⟨rfl, hw'⟩; have hzy9 := ext_sz hw'; obtain ⟨y9, rfl⟩ := hw'; (try simp at hzy9)
        go_wp2
        go_ret
        exact ⟨rfl, B1.trans ((C4.trans (C8.mono C4.size |>.trans (by (repeat' (first | (with_reducible exact Below.refl _ _) | (with_reducible assumption) | (with_reducible refine below_ext _ ?_ ?_) | (with_reducible refine Below.alloc ?_ ?_ _) | (with_reducible refine Below.drew ?_) | (with_reducible refine below_drewN ?_ _) | (with_reducible refine le_drewN _ ?_) | (with_reducible refine Below.setCell ?_ ?_ _) | (with_reducible exact Nat.le_refl _) | (with_reducible refine le_ext _ ?_) | (with_reducible refine le_alloc _ ?_) | (with_reducible refine le_setCell _ _ ?_) | (with_reducible refine le_drew ?_) | omega | (simp; done) | (simp; omega)))))).mono s1)⟩
      · have hg : decide ((20 : Int) < (n3 : Int)) = true := decide_eq_true (by omega)
        go_wp2_with fail
        refine (E6.out _ (Below.refl _ _)).mono ?_
        rintro e w' ⟨rfl, hw'⟩; have hzy7 := ext_sz hw'; obtain ⟨y7, rfl⟩ := hw'; (try simp at hzy7)
        go_wp2
        go_ret
        exact ⟨rfl, B1.trans ((C4.trans (C6.mono C4.size |>.trans (by (repeat' (first | (with_reducible exact Below.refl _ _) | (with_reducible assumption) | (with_reducible refine below_ext _ ?_ ?_) | (with_reducible refine Below.alloc ?_ ?_ _) | (with_reducible refine Below.drew ?_) | (with_reducible refine below_drewN ?_ _) | (with_reducible refine le_drewN _ ?_) | (with_reducible refine Below.setCell ?_ ?_ _) | (with_reducible exact Nat.le_refl _) | (with_reducible refine le_ext _ ?_) | (with_reducible refine le_alloc _ ?_) | (with_reducible refine le_setCell _ _ ?_) | (with_reducible refine le_drew ?_) | omega | (simp; done) | (simp; omega)))))).mono s1)⟩
    · rw [eq_false_of_ne_true hV] at IM SM
      clear hV
      generalize (minkOf ps qs).1 = L at *
      go_wp2_with fail
      refine (IM.out _ (Below.refl _ _)).mono ?_
      rintro e w3 ⟨A3, n3, c3, rfl, l3, q3, qb3, pr3, pl3, hx3⟩
      have D3 := ext_bel hx3
      have zz3 := D3.size
      (try simp at zz3)
      clear hx3
      have L3 := hide l3
      have K3 := hide pr3
      have F3 := hide pl3
      have k3 : n3 ≤ 1000 := by have := L3.out; omega
      clear l3 pr3 pl3
      go_wp2_with fail
      refine (SM.out _ D3).mono ?_
      rintro e w4 ⟨v4, rfl, own4, hx4⟩
      have D4 := ext_bel hx4
      have zz4 := D4.size
      (try simp at zz4)
      clear hx4
      obtain ⟨A4, n4, c4, rfl⟩ := own4.slice
      have L4 := hide own4.pts.1
      have P4 := hide own4.pts.2.2.2
      have K4 := hide (K3.out.below D4)
      have k4 : n4 ≤ 1000 := by have := L4.out; omega
      have C4 := D3.trans (D4.mono D3.size)
      have t4 := C4.size
      clear own4 K3
      have EQ := hide (fun (W : World) (hb : Below w4.heap.size w4 W) => equalPoints_any L L A3 A4 n3 c3 n4 c4 W L3.out L4.out (by omega) (by omega) (K4.out.pts.to hb) (P4.out.to hb))
      rw [decide_eq_true (rfl : L = L)] at EQ
      go_wp2_with fail
      refine (EQ.out _ (Below.refl _ _)).mono ?_
      rintro e w' ⟨rfl, hw'⟩; have hzy5 := ext_sz hw'; obtain ⟨y5, rfl⟩ := hw'; (try simp at hzy5)
      go_wp2_with fail
      refine (EQ.out _ (by (repeat' (first | (with_reducible exact Below.refl _ _) | (with_reducible assumption) | (with_reducible refine below_ext _ ?_ ?_) | (with_reducible refine Below.alloc ?_ ?_ _) | (with_reducible refine Below.drew ?_) | (with_reducible refine below_drewN ?_ _) | (with_reducible refine le_drewN _ ?_) | (with_reducible refine Below.setCell ?_ ?_ _) | (with_reducible exact Nat.le_refl _) | (with_reducible refine le_ext _ ?_) | (with_reducible refine le_alloc _ ?_) | (with_reducible refine le_setCell _ _ ?_) | (with_reducible refine le_drew ?_) | omega | (simp; done) | (simp; omega))))).mono ?_
      rintro e w' ⟨rfl, hw'⟩; have hzy6 := ext_sz hw'; obtain ⟨y6, rfl⟩ := hw'; (try simp at hzy6)
      go_wp2
      go_ret
      exact ⟨rfl, B1.trans ((C4.trans (by (repeat' (first | (with_reducible exact Below.refl _ _) | (with_reducible assumption) | (with_reducible refine below_ext _ ?_ ?_) | (with_reducible refine Below.alloc ?_ ?_ _) | (with_reducible refine Below.drew ?_) | (with_reducible refine below_drewN ?_ _) | (with_reducible refine le_drewN _ ?_) | (with_reducible refine Below.setCell ?_ ?_ _) | (with_reducible exact Nat.le_refl _) | (with_reducible refine le_ext _ ?_) | (with_reducible refine le_alloc _ ?_) | (with_reducible refine le_setCell _ _ ?_) | (with_reducible refine le_drew ?_) | omega | (simp; done) | (simp; omega))))).mono s1)⟩
  · skip
    have hd : decide ((1048576 : Int) < (n : Int)) = true := decide_eq_true (by omega)
    go_enter Try.func5, Try.ntmps5
    go_wp2
    go_ret
    exact ⟨rfl, (by (repeat' (first | (with_reducible exact Below.refl _ _) | (with_reducible assumption) | (with_reducible refine below_ext _ ?_ ?_) | (with_reducible refine Below.alloc ?_ ?_ _) | (with_reducible refine Below.drew ?_) | (with_reducible refine below_drewN ?_ _) | (with_reducible refine le_drewN _ ?_) | (with_reducible refine Below.setCell ?_ ?_ _) | (with_reducible exact Nat.le_refl _) | (with_reducible refine le_ext _ ?_) | (with_reducible refine le_alloc _ ?_) | (with_reducible refine le_setCell _ _ ?_) | (with_reducible refine le_drew ?_) | omega | (simp; done) | (simp; omega))))⟩
set_option maxHeartbeats 4000000 in
theorem lawMkSelf (n c : Nat) (A : Option Addr) (w : World) (hn : n ≤ c) (hc : c ≤ 9223372036854775807) (hA : BytesAt w w.heap.size A n) :
    Calls Try.prog 8 #[.slice A n c] w fun e w' => e = .returned (.bool true) ∧ Below w.heap.size w w' := by
  by_cases hle : n ≤ 1048576
  · have hd : decide ((1048576 : Int) < (n : Int)) = false := decide_eq_false (by omega)
    go_enter Try.func8, Try.ntmps8
    go_wp2_with fail
    refine (drawMink_any n c A _ hn hc hA).mono ?_
    rintro e w1 ⟨v1, ps, v2, qs, rfl, o1, lp, cbp, o2, lq, cbq, B1⟩
    obtain ⟨A1, n1, c1, rfl⟩ := o1.slice
    obtain ⟨A2, n2, c2, rfl⟩ := o2.slice
    have h1 := hide o1.pts.1
    have h2 := hide o2.pts.1
    have P1 := hide o1.pts.2.2.2
    have P2 := hide o2.pts.2.2.2
    have F1 := hide o1.form.1
    have k1 : n1 ≤ 21 := by have := h1.out; omega
    have k2 : n2 ≤ 21 := by have := h2.out; omega
    have IM := hide (fun (W : World) (hb : Below w1.heap.size w1 W) => iMink_any ps qs A1 A2 n1 c1 n2 c2 W h1.out h2.out (by omega) (by omega) (P1.out.to hb) (P2.out.to hb))
    have SM := hide (fun (W : World) (hb : Below w1.heap.size w1 W) => sMink_any ps qs A1 A2 n1 c1 n2 c2 W h1.out h2.out (by omega) (by omega) (P1.out.to hb) (P2.out.to hb))
    have LM := mink_len ps qs
    have s1 := B1.size
    clear cbp cbq o1 o2 hA
    have IS := hide (fun (W : World) (hb : Below w1.heap.size w1 W) => iMink_any ps ps A1 A1 n1 c1 n1 c1 W h1.out h1.out (by omega) (by omega) (P1.out.to hb) (P1.out.to hb))
    have HA1 := hide (fun (W : World) (hb : Below w1.heap.size w1 W) => iHullArea_any ps A1 n1 c1 W h1.out (by omega) F1.out (P1.out.to hb))
    have LS := mink_len ps ps
    have AB := hullArea_bd ps
    have HV := hide (fun h => mink_self (a := ps) h)
    generalize (minkOf ps qs).1 = L at *
    generalize (minkOf ps qs).2 = V at *
    generalize (minkOf ps ps).1 = M at *
    have hV : (V != V) = false := by simp
    have hV2 : (V == V) = true := by simp
    go_wp2_with fail
    refine (IM.out _ (Below.refl _ _)).mono ?_
    rintro e w3 ⟨A3, n3, c3, rfl, l3, q3, qb3, pr3, pl3, hx3⟩
    have D3 := ext_bel hx3
    have zz3 := D3.size
    (try simp at zz3)
    clear hx3
    have L3 := hide l3
    have K3 := hide pr3
    have F3 := hide pl3
    have k3 : n3 ≤ 1000 := by have := L3.out; omega
    clear l3 pr3 pl3
    go_wp2_with fail
    refine (SM.out _ D3).mono ?_
    rintro e w4 ⟨v4, rfl, own4, hx4⟩
    have D4 := ext_bel hx4
    have zz4 := D4.size
    (try simp at zz4)
    clear hx4
    obtain ⟨A4, n4, c4, rfl⟩ := own4.slice
    have L4 := hide own4.pts.1
    have P4 := hide own4.pts.2.2.2
    have K4 := hide (K3.out.below D4)
    have k4 : n4 ≤ 1000 := by have := L4.out; omega
    have C4 := D3.trans (D4.mono D3.size)
    have t4 := C4.size
    clear own4 K3
    have EQ := hide (fun (W : World) (hb : Below w4.heap.size w4 W) => equalPoints_any L L A3 A4 n3 c3 n4 c4 W L3.out L4.out (by omega) (by omega) (K4.out.pts.to hb) (P4.out.to hb))
    rw [decide_eq_true (rfl : L = L)] at EQ
    by_cases hU : (minkOf ps ps).2 = true
    · have HA2 := HV.out hU
      rw [hU] at IS
      have HAE := hide HA2
      clear hU HA2
      generalize hullArea ps = R at *
      go_wp2_with fail
      refine (IS.out _ C4).mono ?_
      rintro e w6 ⟨A6, n6, c6, rfl, l6, q6, qb6, pr6, pl6, hx6⟩
      have D6 := ext_bel hx6
      have zz6 := D6.size
      (try simp at zz6)
      clear hx6
      have t6 := Nat.le_trans t4 D6.size
      have L6 := hide l6
      have F6 := hide pl6
      have P6 := hide pr6.pts
      have k6 : n6 ≤ 1000 := by have := L6.out; omega
      clear l6 pr6 pl6
      go_wp2_with fail
      refine (EQ.out _ D6).mono ?_
      rintro e w' ⟨rfl, hw'⟩; have hzy7 := ext_sz hw'; obtain ⟨y7, rfl⟩ := hw'; (try simp at hzy7)
      go_wp2_with fail
      refine (iHullArea_any M A6 n6 c6 _ L6.out (by omega) F6.out (P6.out.to (by (repeat' (first | (with_reducible exact Below.refl _ _) | (with_reducible assumption) | (with_reducible refine below_ext _ ?_ ?_) | (with_reducible refine Below.alloc ?_ ?_ _) | (with_reducible refine Below.drew ?_) | (with_reducible refine below_drewN ?_ _) | (with_reducible refine le_drewN _ ?_) | (with_reducible refine Below.setCell ?_ ?_ _) | (with_reducible exact Nat.le_refl _) | (with_reducible refine le_ext _ ?_) | (with_reducible refine le_alloc _ ?_) | (with_reducible refine le_setCell _ _ ?_) | (with_reducible refine le_drew ?_) | omega | (simp; done) | (simp; omega)))))).mono ?_
      rw [HAE.out]
      rintro e w' ⟨rfl, hw'⟩; have hzy8 := ext_sz hw'; obtain ⟨y8, rfl⟩ := hw'; (try simp at hzy8)
      go_wp2_with fail
      refine (HA1.out _ (C4.trans ((D6.trans (by (repeat' (first | (with_reducible exact Below.refl _ _) | (with_reducible assumption) | (with_reducible refine below_ext _ ?_ ?_) | (with_reducible refine Below.alloc ?_ ?_ _) | (with_reducible refine Below.drew ?_) | (with_reducible refine below_drewN ?_ _) | (with_reducible refine le_drewN _ ?_) | (with_reducible refine Below.setCell ?_ ?_ _) | (with_reducible exact Nat.le_refl _) | (with_reducible refine le_ext _ ?_) | (with_reducible refine le_alloc _ ?_) | (with_reducible refine le_setCell _ _ ?_) | (with_reducible refine le_drew ?_) | omega | (simp; done) | (simp; omega))))).mono t4))).mono ?_
      rintro e w' ⟨rfl, hw'⟩; have hzy9 := ext_sz hw'; obtain ⟨y9, rfl⟩ := hw'; (try simp at hzy9)
      go_wp2
      go_ret
      exact ⟨ret_bool (by simp), B1.trans ((C4.trans ((D6.trans (by (repeat' (first | (with_reducible exact Below.refl _ _) | (with_reducible assumption) | (with_reducible refine below_ext _ ?_ ?_) | (with_reducible refine Below.alloc ?_ ?_ _) | (with_reducible refine Below.drew ?_) | (with_reducible refine below_drewN ?_ _) | (with_reducible refine le_drewN _ ?_) | (with_reducible refine Below.setCell ?_ ?_ _) | (with_reducible exact Nat.le_refl _) | (with_reducible refine le_ext _ ?_) | (with_reducible refine le_alloc _ ?_) | (with_reducible refine le_setCell _ _ ?_) | (with_reducible refine le_drew ?_) | omega | (simp; done) | (simp; omega))))).mono t4)).mono s1)⟩
    · rw [eq_false_of_ne_true hU] at IS
      clear hU
      go_wp2_with fail
      refine (IS.out _ C4).mono ?_
      rintro e w6 ⟨A6, n6, c6, rfl, l6, q6, qb6, pr6, pl6, hx6⟩
      have D6 := ext_bel hx6
      have zz6 := D6.size
      (try simp at zz6)
      clear hx6
      clear l6 pr6 pl6
      go_wp2_with fail
      refine (EQ.out _ D6).mono ?_
      rintro e w' ⟨rfl, hw'⟩; have hzy7 := ext_sz hw'; obtain ⟨y7, rfl⟩ := hw'; (try simp at hzy7)
      go_wp2_with fail
      refine (EQ.out _ (D6.trans (by (repeat' (first | (with_reducible exact Below.refl _ _) | (with_reducible assumption) | (with_reducible refine below_ext _ ?_ ?_) | (with_reducible refine Below.alloc ?_ ?_ _) | (with_reducible refine Below.drew ?_) | (with_reducible refine below_drewN ?_ _) | (with_reducible refine le_drewN _ ?_) | (with_reducible refine Below.setCell ?_ ?_ _) | (with_reducible exact Nat.le_refl _) | (with_reducible refine le_ext _ ?_) | (with_reducible refine le_alloc _ ?_) | (with_reducible refine le_setCell _ _ ?_) | (with_reducible refine le_drew ?_) | omega | (simp; done) | (simp; omega)))))).mono ?_
      rintro e w' ⟨rfl, hw'⟩; have hzy8 := ext_sz hw'; obtain ⟨y8, rfl⟩ := hw'; (try simp at hzy8)
      go_wp2
      go_ret
      exact ⟨rfl, B1.trans ((C4.trans ((D6.trans (by (repeat' (first | (with_reducible exact Below.refl _ _) | (with_reducible assumption) | (with_reducible refine below_ext _ ?_ ?_) | (with_reducible refine Below.alloc ?_ ?_ _) | (with_reducible refine Below.drew ?_) | (with_reducible refine below_drewN ?_ _) | (with_reducible refine le_drewN _ ?_) | (with_reducible refine Below.setCell ?_ ?_ _) | (with_reducible exact Nat.le_refl _) | (with_reducible refine le_ext _ ?_) | (with_reducible refine le_alloc _ ?_) | (with_reducible refine le_setCell _ _ ?_) | (with_reducible refine le_drew ?_) | omega | (simp; done) | (simp; omega))))).mono t4)).mono s1)⟩
  · skip
    have hd : decide ((1048576 : Int) < (n : Int)) = true := decide_eq_true (by omega)
    go_enter Try.func8, Try.ntmps8
    go_wp2
    go_ret
    exact ⟨rfl, (by (repeat' (first | (with_reducible exact Below.refl _ _) | (with_reducible assumption) | (with_reducible refine below_ext _ ?_ ?_) | (with_reducible refine Below.alloc ?_ ?_ _) | (with_reducible refine Below.drew ?_) | (with_reducible refine below_drewN ?_ _) | (with_reducible refine le_drewN _ ?_) | (with_reducible refine Below.setCell ?_ ?_ _) | (with_reducible exact Nat.le_refl _) | (with_reducible refine le_ext _ ?_) | (with_reducible refine le_alloc _ ?_) | (with_reducible refine le_setCell _ _ ?_) | (with_reducible refine le_drew ?_) | omega | (simp; done) | (simp; omega))))⟩
set_option maxHeartbeats 4000000 in
theorem lawMkPoint (n c : Nat) (A : Option Addr) (w : World) (hn : n ≤ c) (hc : c ≤ 9223372036854775807) (hA : BytesAt w w.heap.size A n) :
    Calls Try.prog 9 #[.slice A n c] w fun e w' => e = .returned (.bool true) ∧ Below w.heap.size w w' := by
  by_cases hle : n ≤ 1048576
  · have hd : decide ((1048576 : Int) < (n : Int)) = false := decide_eq_false (by omega)
    go_enter Try.func9, Try.ntmps9
    go_wp2_with fail
    refine (drawMink_any n c A _ hn hc hA).mono ?_
    rintro e w1 ⟨v1, ps, v2, qs, rfl, o1, lp, cbp, o2, lq, cbq, B1⟩
    obtain ⟨A1, n1, c1, rfl⟩ := o1.slice
    obtain ⟨A2, n2, c2, rfl⟩ := o2.slice
    have h1 := hide o1.pts.1
    have h2 := hide o2.pts.1
    have P1 := hide o1.pts.2.2.2
    have P2 := hide o2.pts.2.2.2
    have F1 := hide o1.form.1
    have k1 : n1 ≤ 21 := by have := h1.out; omega
    have k2 : n2 ≤ 21 := by have := h2.out; omega
    have IM := hide (fun (W : World) (hb : Below w1.heap.size w1 W) => iMink_any ps qs A1 A2 n1 c1 n2 c2 W h1.out h2.out (by omega) (by omega) (P1.out.to hb) (P2.out.to hb))
    have SM := hide (fun (W : World) (hb : Below w1.heap.size w1 W) => sMink_any ps qs A1 A2 n1 c1 n2 c2 W h1.out h2.out (by omega) (by omega) (P1.out.to hb) (P2.out.to hb))
    have LM := mink_len ps qs
    have s1 := B1.size
    clear cbp cbq o1 o2 hA
    have NE := hide (fun (W : World) (hb : Below w1.heap.size w1 W) => near_any ps A1 n1 c1 W h1.out (by omega) (P1.out.to hb))
    have IH := hide (fun (W : World) (hb : Below w1.heap.size w1 W) => iHull_any ps A1 n1 c1 W h1.out (by omega) F1.out (P1.out.to hb))
    have IP := hide (fun (W : World) (g : Nat) (hb : Below w1.heap.size w1 W) (hg : PtsAt W W.heap.size (some ⟨g, 0, none⟩) [⟨3, -2⟩]) => iMink_any ps [⟨3, -2⟩] A1 (some ⟨g, 0, none⟩) n1 c1 1 1 W h1.out rfl (by omega) (by omega) (P1.out.to hb) hg)
    by_cases hV : (minkOf ps qs).2 = true
    · have HB : listOk ps = true ∧ ps ≠ [] := by
        rcases mink_cases ps qs with e | ⟨h1, h2, e⟩
        · rw [e] at hV; cases hV
        · exact ⟨(bothL_parts h1).1, (bothL_parts h1).2.2.1⟩
      rw [hV] at IM SM
      clear hV
      generalize (minkOf ps qs).1 = L at *
      go_wp2_with fail
      refine (IM.out _ (Below.refl _ _)).mono ?_
      rintro e w3 ⟨A3, n3, c3, rfl, l3, q3, qb3, pr3, pl3, hx3⟩
      have D3 := ext_bel hx3
      have zz3 := D3.size
      (try simp at zz3)
      clear hx3
      have L3 := hide l3
      have K3 := hide pr3
      have F3 := hide pl3
      have k3 : n3 ≤ 1000 := by have := L3.out; omega
      clear l3 pr3 pl3
      go_wp2_with fail
      refine (SM.out _ D3).mono ?_
      rintro e w4 ⟨v4, rfl, own4, hx4⟩
      have D4 := ext_bel hx4
      have zz4 := D4.size
      (try simp at zz4)
      clear hx4
      obtain ⟨A4, n4, c4, rfl⟩ := own4.slice
      have L4 := hide own4.pts.1
      have P4 := hide own4.pts.2.2.2
      have K4 := hide (K3.out.below D4)
      have k4 : n4 ≤ 1000 := by have := L4.out; omega
      have C4 := D3.trans (D4.mono D3.size)
      have t4 := C4.size
      clear own4 K3
      have EQ := hide (fun (W : World) (hb : Below w4.heap.size w4 W) => equalPoints_any L L A3 A4 n3 c3 n4 c4 W L3.out L4.out (by omega) (by omega) (K4.out.pts.to hb) (P4.out.to hb))
      rw [decide_eq_true (rfl : L = L)] at EQ
      go_wp2_with fail
      refine (EQ.out _ (Below.refl _ _)).mono ?_
      rintro e w' ⟨rfl, hw'⟩; have hzy5 := ext_sz hw'; obtain ⟨y5, rfl⟩ := hw'; (try simp at hzy5)
      by_cases hN : nearP ps = true
      · have ME := hide (mink_point HB.1 HB.2 (nearP_iff.1 hN))
        have HIB : Hid (InB (hullL ps)) := hide (by
          unfold hullL
          rw [if_pos HB.1]
          exact fun p hp => (listOk_InB HB.1).1 p (hullOf_sub hp))
        rw [ME.out] at IP
        rw [hN] at NE
        have HLL : (hullL ps).length ≤ 1000 := by unfold hullL; rw [if_pos HB.1]; have := hullOf_len' ps; omega
        clear HB hN
        go_wp2_with fail
        refine (NE.out _ (C4.trans (by (repeat' (first | (with_reducible exact Below.refl _ _) | (with_reducible assumption) | (with_reducible refine below_ext _ ?_ ?_) | (with_reducible refine Below.alloc ?_ ?_ _) | (with_reducible refine Below.drew ?_) | (with_reducible refine below_drewN ?_ _) | (with_reducible refine le_drewN _ ?_) | (with_reducible refine Below.setCell ?_ ?_ _) | (with_reducible exact Nat.le_refl _) | (with_reducible refine le_ext _ ?_) | (with_reducible refine le_alloc _ ?_) | (with_reducible refine le_setCell _ _ ?_) | (with_reducible refine le_drew ?_) | omega | (simp; done) | (simp; omega)))))).mono ?_
        rintro e w' ⟨rfl, hw'⟩; have hzy6 := ext_sz hw'; obtain ⟨y6, rfl⟩ := hw'; (try simp at hzy6)
        go_wp2_with fail
        refine (IP.out _ _ (C4.trans (by (repeat' (first | (with_reducible exact Below.refl _ _) | (with_reducible assumption) | (with_reducible refine below_ext _ ?_ ?_) | (with_reducible refine Below.alloc ?_ ?_ _) | (with_reducible refine Below.drew ?_) | (with_reducible refine below_drewN ?_ _) | (with_reducible refine le_drewN _ ?_) | (with_reducible refine Below.setCell ?_ ?_ _) | (with_reducible exact Nat.le_refl _) | (with_reducible refine le_ext _ ?_) | (with_reducible refine le_alloc _ ?_) | (with_reducible refine le_setCell _ _ ?_) | (with_reducible refine le_drew ?_) | omega | (simp; done) | (simp; omega))))) (fun _ => ⟨_, _, rfl, by simp, fun i hi => by
          have : i = 0 := by simp at hi; exact hi
          subst this
          exact ⟨(heap_cell (heap_alloc_new _ _) 0).trans rfl, (heap_cell (heap_alloc_new _ _) 1).trans rfl⟩⟩)).mono ?_
        rintro e w7 ⟨A7, n7, c7, rfl, l7, q7, qb7, pr7, pl7, hx7⟩
        have D7 := ext_bel hx7
        have zz7 := D7.size
        (try simp at zz7)
        clear hx7
        have C7 : Below w4.heap.size w4 w7 := Below.trans (b := (ext (ext w4 y5) y6).alloc _) (by (repeat' (first | (with_reducible exact Below.refl _ _) | (with_reducible assumption) | (with_reducible refine below_ext _ ?_ ?_) | (with_reducible refine Below.alloc ?_ ?_ _) | (with_reducible refine Below.drew ?_) | (with_reducible refine below_drewN ?_ _) | (with_reducible refine le_drewN _ ?_) | (with_reducible refine Below.setCell ?_ ?_ _) | (with_reducible exact Nat.le_refl _) | (with_reducible refine le_ext _ ?_) | (with_reducible refine le_alloc _ ?_) | (with_reducible refine le_setCell _ _ ?_) | (with_reducible refine le_drew ?_) | omega | (simp; done) | (simp; omega)))) (D7.mono (by first | (simp; done) | (simp; omega)))
        have t7 := Nat.le_trans t4 C7.size
        have L7 := hide l7
        have P7 := hide pr7.pts
        have k7 : n7 ≤ 1000 := by have := L7.out; simp at this; omega
        clear l7 pr7 pl7
        go_wp2_with fail
        refine (IH.out _ (C4.trans (C7.mono t4))).mono ?_
        rintro e w8 ⟨A8, n8, c8, rfl, l8, q8, qb8, pr8, pl8, hx8⟩
        have D8 := ext_bel hx8
        have zz8 := D8.size
        (try simp at zz8)
        clear hx8
        have t8 := Nat.le_trans t7 D8.size
        have L8 := hide l8
        have P8 := hide pr8.pts
        have k8 : n8 ≤ 1000 := by have := L8.out; omega
        clear l8 pr8 pl8
        go_wp2_with fail
        refine (moved_any (hullL ps) 3 (-2) A8 n8 c8 _ L8.out k8 (by omega) (by omega) HIB.out P8.out).mono ?_
        rintro e w9 ⟨v9, rfl, own9, hx9⟩
        have D9 := ext_bel hx9
        have zz9 := D9.size
        (try simp at zz9)
        clear hx9
        obtain ⟨A9, n9, c9, rfl⟩ := own9.slice
        have L9 := hide own9.pts.1
        have P9 := hide own9.pts.2.2.2
        have k9 : n9 ≤ 1000 := by have := L9.out; rw [List.length_map] at this; omega
        have t9 := Nat.le_trans t8 D9.size
        clear own9
        go_wp2_with fail
        refine (equalPoints_any ((hullL ps).map fun p => addP p ⟨3, -2⟩) ((hullL ps).map fun p => addP p ⟨3, -2⟩) A7 A9 n7 c7 n9 c9 _ L7.out L9.out (by omega) (by omega) (P7.out.to (D8.trans (D9.mono D8.size))) P9.out).mono ?_
        rw [decide_eq_true (rfl : ((hullL ps).map fun p => addP p ⟨3, -2⟩) = ((hullL ps).map fun p => addP p ⟨3, -2⟩))]
        rintro e w' ⟨rfl, hw'⟩; have hzy10 := ext_sz hw'; obtain ⟨y10, rfl⟩ := hw'; (try simp at hzy10)
        go_wp2
        go_ret
        exact ⟨rfl, B1.trans ((C4.trans (C7.mono t4 |>.trans ((D8.trans ((D9.trans (by (repeat' (first | (with_reducible exact Below.refl _ _) | (with_reducible assumption) | (with_reducible refine below_ext _ ?_ ?_) | (with_reducible refine Below.alloc ?_ ?_ _) | (with_reducible refine Below.drew ?_) | (with_reducible refine below_drewN ?_ _) | (with_reducible refine le_drewN _ ?_) | (with_reducible refine Below.setCell ?_ ?_ _) | (with_reducible exact Nat.le_refl _) | (with_reducible refine le_ext _ ?_) | (with_reducible refine le_alloc _ ?_) | (with_reducible refine le_setCell _ _ ?_) | (with_reducible refine le_drew ?_) | omega | (simp; done) | (simp; omega))))).mono D8.size)).mono t7))).mono s1)⟩
      · rw [eq_false_of_ne_true hN] at NE
        clear hN HB
        go_wp2_with fail
        refine (NE.out _ (C4.trans (by (repeat' (first | (with_reducible exact Below.refl _ _) | (with_reducible assumption) | (with_reducible refine below_ext _ ?_ ?_) | (with_reducible refine Below.alloc ?_ ?_ _) | (with_reducible refine Below.drew ?_) | (with_reducible refine below_drewN ?_ _) | (with_reducible refine le_drewN _ ?_) | (with_reducible refine Below.setCell ?_ ?_ _) | (with_reducible exact Nat.le_refl _) | (with_reducible refine le_ext _ ?_) | (with_reducible refine le_alloc _ ?_) | (with_reducible refine le_setCell _ _ ?_) | (with_reducible refine le_drew ?_) | omega | (simp; done) | (simp; omega)))))).mono ?_
        rintro e w' ⟨rfl, hw'⟩; have hzy6 := ext_sz hw'; obtain ⟨y6, rfl⟩ := hw'; (try simp at hzy6)
        go_wp2_with fail
        refine (EQ.out _ (by (repeat' (first | (with_reducible exact Below.refl _ _) | (with_reducible assumption) | (with_reducible refine below_ext _ ?_ ?_) | (with_reducible refine Below.alloc ?_ ?_ _) | (with_reducible refine Below.drew ?_) | (with_reducible refine below_drewN ?_ _) | (with_reducible refine le_drewN _ ?_) | (with_reducible refine Below.setCell ?_ ?_ _) | (with_reducible exact Nat.le_refl _) | (with_reducible refine le_ext _ ?_) | (with_reducible refine le_alloc _ ?_) | (with_reducible refine le_setCell _ _ ?_) | (with_reducible refine le_drew ?_) | omega | (simp; done) | (simp; omega))))).mono ?_
        rintro e w' ⟨rfl, hw'⟩; have hzy7 := ext_sz hw'; obtain ⟨y7, rfl⟩ := hw'; (try simp at hzy7)
        go_wp2
        go_ret
        exact ⟨rfl, B1.trans ((C4.trans (by (repeat' (first | (with_reducible exact Below.refl _ _) | (with_reducible assumption) | (with_reducible refine below_ext _ ?_ ?_) | (with_reducible refine Below.alloc ?_ ?_ _) | (with_reducible refine Below.drew ?_) | (with_reducible refine below_drewN ?_ _) | (with_reducible refine le_drewN _ ?_) | (with_reducible refine Below.setCell ?_ ?_ _) | (with_reducible exact Nat.le_refl _) | (with_reducible refine le_ext _ ?_) | (with_reducible refine le_alloc _ ?_) | (with_reducible refine le_setCell _ _ ?_) | (with_reducible refine le_drew ?_) | omega | (simp; done) | (simp; omega))))).mono s1)⟩
    · rw [eq_false_of_ne_true hV] at IM SM
      clear hV
      generalize (minkOf ps qs).1 = L at *
      go_wp2_with fail
      refine (IM.out _ (Below.refl _ _)).mono ?_
      rintro e w3 ⟨A3, n3, c3, rfl, l3, q3, qb3, pr3, pl3, hx3⟩
      have D3 := ext_bel hx3
      have zz3 := D3.size
      (try simp at zz3)
      clear hx3
      have L3 := hide l3
      have K3 := hide pr3
      have F3 := hide pl3
      have k3 : n3 ≤ 1000 := by have := L3.out; omega
      clear l3 pr3 pl3
      go_wp2_with fail
      refine (SM.out _ D3).mono ?_
      rintro e w4 ⟨v4, rfl, own4, hx4⟩
      have D4 := ext_bel hx4
      have zz4 := D4.size
      (try simp at zz4)
      clear hx4
      obtain ⟨A4, n4, c4, rfl⟩ := own4.slice
      have L4 := hide own4.pts.1
      have P4 := hide own4.pts.2.2.2
      have K4 := hide (K3.out.below D4)
      have k4 : n4 ≤ 1000 := by have := L4.out; omega
      have C4 := D3.trans (D4.mono D3.size)
      have t4 := C4.size
      clear own4 K3
      have EQ := hide (fun (W : World) (hb : Below w4.heap.size w4 W) => equalPoints_any L L A3 A4 n3 c3 n4 c4 W L3.out L4.out (by omega) (by omega) (K4.out.pts.to hb) (P4.out.to hb))
      rw [decide_eq_true (rfl : L = L)] at EQ
      go_wp2_with fail
      refine (EQ.out _ (Below.refl _ _)).mono ?_
      rintro e w' ⟨rfl, hw'⟩; have hzy5 := ext_sz hw'; obtain ⟨y5, rfl⟩ := hw'; (try simp at hzy5)
      go_wp2_with fail
      refine (EQ.out _ (by (repeat' (first | (with_reducible exact Below.refl _ _) | (with_reducible assumption) | (with_reducible refine below_ext _ ?_ ?_) | (with_reducible refine Below.alloc ?_ ?_ _) | (with_reducible refine Below.drew ?_) | (with_reducible refine below_drewN ?_ _) | (with_reducible refine le_drewN _ ?_) | (with_reducible refine Below.setCell ?_ ?_ _) | (with_reducible exact Nat.le_refl _) | (with_reducible refine le_ext _ ?_) | (with_reducible refine le_alloc _ ?_) | (with_reducible refine le_setCell _ _ ?_) | (with_reducible refine le_drew ?_) | omega | (simp; done) | (simp; omega))))).mono ?_
      rintro e w' ⟨rfl, hw'⟩; have hzy6 := ext_sz hw'; obtain ⟨y6, rfl⟩ := hw'; (try simp at hzy6)
      go_wp2
      go_ret
      exact ⟨rfl, B1.trans ((C4.trans (by (repeat' (first | (with_reducible exact Below.refl _ _) | (with_reducible assumption) | (with_reducible refine below_ext _ ?_ ?_) | (with_reducible refine Below.alloc ?_ ?_ _) | (with_reducible refine Below.drew ?_) | (with_reducible refine below_drewN ?_ _) | (with_reducible refine le_drewN _ ?_) | (with_reducible refine Below.setCell ?_ ?_ _) | (with_reducible exact Nat.le_refl _) | (with_reducible refine le_ext _ ?_) | (with_reducible refine le_alloc _ ?_) | (with_reducible refine le_setCell _ _ ?_) | (with_reducible refine le_drew ?_) | omega | (simp; done) | (simp; omega))))).mono s1)⟩
  · skip
    have hd : decide ((1048576 : Int) < (n : Int)) = true := decide_eq_true (by omega)
    go_enter Try.func9, Try.ntmps9
    go_wp2
    go_ret
    exact ⟨rfl, (by (repeat' (first | (with_reducible exact Below.refl _ _) | (with_reducible assumption) | (with_reducible refine below_ext _ ?_ ?_) | (with_reducible refine Below.alloc ?_ ?_ _) | (with_reducible refine Below.drew ?_) | (with_reducible refine below_drewN ?_ _) | (with_reducible refine le_drewN _ ?_) | (with_reducible refine Below.setCell ?_ ?_ _) | (with_reducible exact Nat.le_refl _) | (with_reducible refine le_ext _ ?_) | (with_reducible refine le_alloc _ ?_) | (with_reducible refine le_setCell _ _ ?_) | (with_reducible refine le_drew ?_) | omega | (simp; done) | (simp; omega))))⟩
set_option maxHeartbeats 4000000 in
theorem lawMkSup (n c : Nat) (A : Option Addr) (n' c' : Nat) (A' : Option Addr) (w : World) (hn : n ≤ c) (hc : c ≤ 9223372036854775807) (hA : BytesAt w w.heap.size A n) (hn' : n' ≤ 9223372036854775807) :
    Calls Try.prog 10 #[.slice A n c, .slice A' n' c'] w fun e w' => e = .returned (.bool true) ∧ Below w.heap.size w w' := by
  by_cases hle : n ≤ 1048576
  · have hd : decide ((1048576 : Int) < (n : Int)) = false := decide_eq_false (by omega)
    by_cases hle' : n' ≤ 1048576
    · have hd' : decide ((1048576 : Int) < (n' : Int)) = false := decide_eq_false (by omega)
      have e1 : Int.tmod (n' : Int) 15 = (n' : Int) % 15 := Int.tmod_eq_emod_of_nonneg (by omega)
      have e2 : Int.tdiv (n' : Int) 3 = (n' : Int) / 3 := Int.tdiv_eq_ediv_of_nonneg (by omega)
      have e3 : Int.tmod ((n' : Int) / 3) 15 = ((n' : Int) / 3) % 15 := Int.tmod_eq_emod_of_nonneg (by omega)
      obtain ⟨X, hX⟩ : ∃ X : Int, X = (n' : Int) % 15 - 7 := ⟨_, rfl⟩
      obtain ⟨Y, hY⟩ : ∃ Y : Int, Y = ((n' : Int) / 3) % 15 - 7 := ⟨_, rfl⟩
      have hXb : -7 ≤ X ∧ X ≤ 7 := by omega
      have hYb : -7 ≤ Y ∧ Y ≤ 7 := by omega
      have HX := hide hX
      have HY := hide hY
      clear hX hY
      go_enter Try.func10, Try.ntmps10
      go_wp2_with fail
      refine (drawMink_any n c A _ hn hc hA).mono ?_
      rintro e w1 ⟨v1, ps, v2, qs, rfl, o1, lp, cbp, o2, lq, cbq, B1⟩
      obtain ⟨A1, n1, c1, rfl⟩ := o1.slice
      obtain ⟨A2, n2, c2, rfl⟩ := o2.slice
      have h1 := hide o1.pts.1
      have h2 := hide o2.pts.1
      have P1 := hide o1.pts.2.2.2
      have P2 := hide o2.pts.2.2.2
      have F1 := hide o1.form.1
      have k1 : n1 ≤ 21 := by have := h1.out; omega
      have k2 : n2 ≤ 21 := by have := h2.out; omega
      have IM := hide (fun (W : World) (hb : Below w1.heap.size w1 W) => iMink_any ps qs A1 A2 n1 c1 n2 c2 W h1.out h2.out (by omega) (by omega) (P1.out.to hb) (P2.out.to hb))
      have SM := hide (fun (W : World) (hb : Below w1.heap.size w1 W) => sMink_any ps qs A1 A2 n1 c1 n2 c2 W h1.out h2.out (by omega) (by omega) (P1.out.to hb) (P2.out.to hb))
      have LM := mink_len ps qs
      have s1 := B1.size
      clear cbp cbq o1 o2 hA
      by_cases hV : (minkOf ps qs).2 = true
      · have HC : bothL ps qs = true ∧ allOk (hullOf (sumsL ps qs)) = true ∧ (minkOf ps qs).1 = hullOf (sumsL ps qs) := by
          rcases mink_cases ps qs with e | ⟨h1, h2, e⟩
          · rw [e] at hV; cases hV
          · exact ⟨h1, h2, by rw [e]⟩
        obtain ⟨hb, hall, hLe⟩ := HC
        obtain ⟨q1, q2, q3, q4⟩ := bothL_parts hb
        have hvp : vP X Y = true := by rw [vP_iff]; omega
        have SA : SupOk ps X Y := ⟨q1, fun e => q3 (List.eq_nil_of_length_eq_zero e), hvp⟩
        have SB : SupOk qs X Y := ⟨q2, fun e => q4 (List.eq_nil_of_length_eq_zero e), hvp⟩
        have ba := support_bd SA
        have bb := support_bd SB
        have HSUM : Hid ((minkOf ps qs).1.length ≤ 20 → supportOf (minkOf ps qs).1 X Y = supportOf ps X Y + supportOf qs X Y) := hide (fun hl => by
          rw [hLe] at hl ⊢
          refine support_sums SA SB ⟨listOk_mk hall hl, ?_, hvp⟩
          have := hull_pos (l := sumsL ps qs) (fun e => by
            have h := sumsL_len ps qs
            rw [e] at h
            have h2 := Nat.mul_pos (List.length_pos_iff.2 q3) (List.length_pos_iff.2 q4)
            simp only [List.length_nil] at h
            omega)
          omega)
        rw [hV] at IM SM
        have CA := hide (fun (W : World) (hb : Below w1.heap.size w1 W) => iSupport_any ps X Y A1 n1 c1 W h1.out (by omega) (P1.out.to hb))
        have CB := hide (fun (W : World) (hb : Below w1.heap.size w1 W) => iSupport_any qs X Y A2 n2 c2 W h2.out (by omega) (P2.out.to hb))
        clear hV hb hall hLe q1 q2 q3 q4 SA SB hvp
        generalize (minkOf ps qs).1 = L at *
        generalize supportOf ps X Y = SX at *
        generalize supportOf qs X Y = SY at *
        go_wp2_with fail
        refine (IM.out _ (Below.refl _ _)).mono ?_
        rintro e w3 ⟨A3, n3, c3, rfl, l3, q3, qb3, pr3, pl3, hx3⟩
        have D3 := ext_bel hx3
        have zz3 := D3.size
        (try simp at zz3)
        clear hx3
        have L3 := hide l3
        have K3 := hide pr3
        have F3 := hide pl3
        have k3 : n3 ≤ 1000 := by have := L3.out; omega
        clear l3 pr3 pl3
        go_wp2_with fail
        refine (SM.out _ D3).mono ?_
        rintro e w4 ⟨v4, rfl, own4, hx4⟩
        have D4 := ext_bel hx4
        have zz4 := D4.size
        (try simp at zz4)
        clear hx4
        obtain ⟨A4, n4, c4, rfl⟩ := own4.slice
        have L4 := hide own4.pts.1
        have P4 := hide own4.pts.2.2.2
        have K4 := hide (K3.out.below D4)
        have k4 : n4 ≤ 1000 := by have := L4.out; omega
        have C4 := D3.trans (D4.mono D3.size)
        have t4 := C4.size
        clear own4 K3
        have EQ := hide (fun (W : World) (hb : Below w4.heap.size w4 W) => equalPoints_any L L A3 A4 n3 c3 n4 c4 W L3.out L4.out (by omega) (by omega) (K4.out.pts.to hb) (P4.out.to hb))
        rw [decide_eq_true (rfl : L = L)] at EQ
        go_wp2_with fail
        refine (EQ.out _ (Below.refl _ _)).mono ?_
        rintro e w' ⟨rfl, hw'⟩; have hzy5 := ext_sz hw'; obtain ⟨y5, rfl⟩ := hw'; (try simp at hzy5)
        by_cases h20 : n3 ≤ 20
        · have hg : decide ((20 : Int) < (n3 : Int)) = false := decide_eq_false (by omega)
          have HS := hide (HSUM.out (by rw [L3.out]; exact h20))
          have CL := hide (fun (W : World) (hb : Below w4.heap.size w4 W) => iSupport_any L X Y A3 n3 c3 W L3.out (by omega) (K4.out.pts.to hb))
          rw [HS.out] at CL
          have CU : Hid (∀ (W : World) (hb : Below w4.heap.size w4 W) (B : Option Addr) (k d : Nat) (v : Int), ((B, k, d, v) = (A3, n3, c3, SX + SY) ∨ (B, k, d, v) = (A1, n1, c1, SX) ∨ (B, k, d, v) = (A2, n2, c2, SY)) → Calls Try.prog 15 #[.slice B k d, .agg #[.int .i64 X, .int .i64 Y]] W fun e w' => e = .returned (.int .i64 v) ∧ ∃ m, w' = ext W m) := hide (fun W hb B k d v h => by
            rcases h with h | h | h
            · simp only [Prod.mk.injEq] at h
              obtain ⟨rfl, rfl, rfl, rfl⟩ := h
              exact CL.out W hb
            · simp only [Prod.mk.injEq] at h
              obtain ⟨rfl, rfl, rfl, rfl⟩ := h
              exact CA.out W (C4.trans (hb.mono t4))
            · simp only [Prod.mk.injEq] at h
              obtain ⟨rfl, rfl, rfl, rfl⟩ := h
              exact CB.out W (C4.trans (hb.mono t4)))
          clear CL CA CB HSUM
          have g1 : (n' : Int) % 15 - 7 = X := HX.out.symm
          have g2 : (n' : Int) / 3 % 15 - 7 = Y := HY.out.symm
          have i3 : IntKind.i64.wrap (SX + SY) = SX + SY := IntWalk.i64_in _ (by omega)
          go_wp2_with fail
          refine wp_region_ext (by kernel_rfl) (by kernel_rfl) ?_
          repeat (go_big_quiet_step ((first | (go_at_call 15; exact Calls.in_ext (CU.out _ (by (repeat' (first | (with_reducible exact Below.refl _ _) | (with_reducible assumption) | (with_reducible refine below_ext _ ?_ ?_) | (with_reducible refine Below.alloc ?_ ?_ _) | (with_reducible refine Below.drew ?_) | (with_reducible refine below_drewN ?_ _) | (with_reducible refine le_drewN _ ?_) | (with_reducible refine Below.setCell ?_ ?_ _) | (with_reducible exact Nat.le_refl _) | (with_reducible refine le_ext _ ?_) | (with_reducible refine le_alloc _ ?_) | (with_reducible refine le_setCell _ _ ?_) | (with_reducible refine le_drew ?_) | omega | (simp; done) | (simp; omega)))) _ _ _ _ (by first | exact .inl rfl | exact .inr (.inl rfl) | exact .inr (.inr rfl)))))))
          refine wpQuiet_nil ?_
          rintro _ hnq
          have hzq := ext_sz hnq
          obtain ⟨nq, rfl⟩ := hnq
          (try simp at hzq)
          go_wp2
          go_ret
          exact ⟨ret_bool (by simp), B1.trans ((C4.trans (by (repeat' (first | (with_reducible exact Below.refl _ _) | (with_reducible assumption) | (with_reducible refine below_ext _ ?_ ?_) | (with_reducible refine Below.alloc ?_ ?_ _) | (with_reducible refine Below.drew ?_) | (with_reducible refine below_drewN ?_ _) | (with_reducible refine le_drewN _ ?_) | (with_reducible refine Below.setCell ?_ ?_ _) | (with_reducible exact Nat.le_refl _) | (with_reducible refine le_ext _ ?_) | (with_reducible refine le_alloc _ ?_) | (with_reducible refine le_setCell _ _ ?_) | (with_reducible refine le_drew ?_) | omega | (simp; done) | (simp; omega))))).mono s1)⟩
        · have hg : decide ((20 : Int) < (n3 : Int)) = true := decide_eq_true (by omega)
          go_wp2_with fail
          refine (EQ.out _ (by (repeat' (first | (with_reducible exact Below.refl _ _) | (with_reducible assumption) | (with_reducible refine below_ext _ ?_ ?_) | (with_reducible refine Below.alloc ?_ ?_ _) | (with_reducible refine Below.drew ?_) | (with_reducible refine below_drewN ?_ _) | (with_reducible refine le_drewN _ ?_) | (with_reducible refine Below.setCell ?_ ?_ _) | (with_reducible exact Nat.le_refl _) | (with_reducible refine le_ext _ ?_) | (with_reducible refine le_alloc _ ?_) | (with_reducible refine le_setCell _ _ ?_) | (with_reducible refine le_drew ?_) | omega | (simp; done) | (simp; omega))))).mono ?_
          rintro e w' ⟨rfl, hw'⟩; have hzy6 := ext_sz hw'; obtain ⟨y6, rfl⟩ := hw'; (try simp at hzy6)
          go_wp2
          go_ret
          exact ⟨rfl, B1.trans ((C4.trans (by (repeat' (first | (with_reducible exact Below.refl _ _) | (with_reducible assumption) | (with_reducible refine below_ext _ ?_ ?_) | (with_reducible refine Below.alloc ?_ ?_ _) | (with_reducible refine Below.drew ?_) | (with_reducible refine below_drewN ?_ _) | (with_reducible refine le_drewN _ ?_) | (with_reducible refine Below.setCell ?_ ?_ _) | (with_reducible exact Nat.le_refl _) | (with_reducible refine le_ext _ ?_) | (with_reducible refine le_alloc _ ?_) | (with_reducible refine le_setCell _ _ ?_) | (with_reducible refine le_drew ?_) | omega | (simp; done) | (simp; omega))))).mono s1)⟩
      · rw [eq_false_of_ne_true hV] at IM SM
        clear hV
        generalize (minkOf ps qs).1 = L at *
        go_wp2_with fail
        refine (IM.out _ (Below.refl _ _)).mono ?_
        rintro e w3 ⟨A3, n3, c3, rfl, l3, q3, qb3, pr3, pl3, hx3⟩
        have D3 := ext_bel hx3
        have zz3 := D3.size
        (try simp at zz3)
        clear hx3
        have L3 := hide l3
        have K3 := hide pr3
        have F3 := hide pl3
        have k3 : n3 ≤ 1000 := by have := L3.out; omega
        clear l3 pr3 pl3
        go_wp2_with fail
        refine (SM.out _ D3).mono ?_
        rintro e w4 ⟨v4, rfl, own4, hx4⟩
        have D4 := ext_bel hx4
        have zz4 := D4.size
        (try simp at zz4)
        clear hx4
        obtain ⟨A4, n4, c4, rfl⟩ := own4.slice
        have L4 := hide own4.pts.1
        have P4 := hide own4.pts.2.2.2
        have K4 := hide (K3.out.below D4)
        have k4 : n4 ≤ 1000 := by have := L4.out; omega
        have C4 := D3.trans (D4.mono D3.size)
        have t4 := C4.size
        clear own4 K3
        have EQ := hide (fun (W : World) (hb : Below w4.heap.size w4 W) => equalPoints_any L L A3 A4 n3 c3 n4 c4 W L3.out L4.out (by omega) (by omega) (K4.out.pts.to hb) (P4.out.to hb))
        rw [decide_eq_true (rfl : L = L)] at EQ
        go_wp2_with fail
        refine (EQ.out _ (Below.refl _ _)).mono ?_
        rintro e w' ⟨rfl, hw'⟩; have hzy5 := ext_sz hw'; obtain ⟨y5, rfl⟩ := hw'; (try simp at hzy5)
        go_wp2_with fail
        refine (EQ.out _ (by (repeat' (first | (with_reducible exact Below.refl _ _) | (with_reducible assumption) | (with_reducible refine below_ext _ ?_ ?_) | (with_reducible refine Below.alloc ?_ ?_ _) | (with_reducible refine Below.drew ?_) | (with_reducible refine below_drewN ?_ _) | (with_reducible refine le_drewN _ ?_) | (with_reducible refine Below.setCell ?_ ?_ _) | (with_reducible exact Nat.le_refl _) | (with_reducible refine le_ext _ ?_) | (with_reducible refine le_alloc _ ?_) | (with_reducible refine le_setCell _ _ ?_) | (with_reducible refine le_drew ?_) | omega | (simp; done) | (simp; omega))))).mono ?_
        rintro e w' ⟨rfl, hw'⟩; have hzy6 := ext_sz hw'; obtain ⟨y6, rfl⟩ := hw'; (try simp at hzy6)
        go_wp2
        go_ret
        exact ⟨rfl, B1.trans ((C4.trans (by (repeat' (first | (with_reducible exact Below.refl _ _) | (with_reducible assumption) | (with_reducible refine below_ext _ ?_ ?_) | (with_reducible refine Below.alloc ?_ ?_ _) | (with_reducible refine Below.drew ?_) | (with_reducible refine below_drewN ?_ _) | (with_reducible refine le_drewN _ ?_) | (with_reducible refine Below.setCell ?_ ?_ _) | (with_reducible exact Nat.le_refl _) | (with_reducible refine le_ext _ ?_) | (with_reducible refine le_alloc _ ?_) | (with_reducible refine le_setCell _ _ ?_) | (with_reducible refine le_drew ?_) | omega | (simp; done) | (simp; omega))))).mono s1)⟩
    · have hd' : decide ((1048576 : Int) < (n' : Int)) = true := decide_eq_true (by omega)
      go_enter Try.func10, Try.ntmps10
      go_wp2
      go_ret
      exact ⟨rfl, (by (repeat' (first | (with_reducible exact Below.refl _ _) | (with_reducible assumption) | (with_reducible refine below_ext _ ?_ ?_) | (with_reducible refine Below.alloc ?_ ?_ _) | (with_reducible refine Below.drew ?_) | (with_reducible refine below_drewN ?_ _) | (with_reducible refine le_drewN _ ?_) | (with_reducible refine Below.setCell ?_ ?_ _) | (with_reducible exact Nat.le_refl _) | (with_reducible refine le_ext _ ?_) | (with_reducible refine le_alloc _ ?_) | (with_reducible refine le_setCell _ _ ?_) | (with_reducible refine le_drew ?_) | omega | (simp; done) | (simp; omega))))⟩
  · skip
    have hd : decide ((1048576 : Int) < (n : Int)) = true := decide_eq_true (by omega)
    go_enter Try.func10, Try.ntmps10
    go_wp2
    go_ret
    exact ⟨rfl, (by (repeat' (first | (with_reducible exact Below.refl _ _) | (with_reducible assumption) | (with_reducible refine below_ext _ ?_ ?_) | (with_reducible refine Below.alloc ?_ ?_ _) | (with_reducible refine Below.drew ?_) | (with_reducible refine below_drewN ?_ _) | (with_reducible refine le_drewN _ ?_) | (with_reducible refine Below.setCell ?_ ?_ _) | (with_reducible exact Nat.le_refl _) | (with_reducible refine le_ext _ ?_) | (with_reducible refine le_alloc _ ?_) | (with_reducible refine le_setCell _ _ ?_) | (with_reducible refine le_drew ?_) | omega | (simp; done) | (simp; omega))))⟩
end Go.Proofs.Ytoendanihhocjaa
