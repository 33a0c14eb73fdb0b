
/- FnSplitPolygon: the law's walk. -/
import Derived.Test.YtklbcmgkladdeaaSpl
import Derived.Test.YtklbcmgkladdeaaDrawQ
import Derived.Test.YtklbcmgkladdeaaCount
import Derived.Test.YtklbcmgkladdeaaHlp2
set_option linter.unusedVariables false
set_option linter.unusedSimpArgs false
namespace Go.Proofs.Ytklbcmgkladdeaa
open Go.RowKit

set_option maxHeartbeats 400000 in
theorem iSim2_any (ps : List Pt) (A : Option Addr) (n c : Nat) (w : World) (hn : ps.length = n) (hm : n ≤ 2000000) (hA : Plain A n) (hs : PtsAt w w.heap.size A ps) :
    Calls Try.prog 14 #[.slice A n c] w fun e w' => e = .returned (.bool (simB ps)) ∧ ∃ x, w' = ext w x := by
  have HC := hide (simple_any ps A n c w hn hm hA hs)
  clear hn hs
  go_enter Try.func14, Try.ntmps14
  go_wp2_with fail
  refine HC.out.mono ?_
  rintro e w' ⟨rfl, hw'⟩; have hzy1 := ext_sz hw'; obtain ⟨y1, rfl⟩ := hw'; (try simp at hzy1)
  go_wp2_with fail
  go_ret
  exact ⟨rfl, (ext_mk (by (repeat' (first | (with_reducible exact Below.refl _ _) | (with_reducible assumption) | (with_reducible refine below_ext _ ?_ ?_) | (with_reducible refine Below.alloc ?_ ?_ _) | (with_reducible refine Below.drew ?_) | (with_reducible refine below_drewN ?_ _) | (with_reducible refine le_drewN _ ?_) | (with_reducible refine Below.setCell ?_ ?_ _) | (with_reducible exact Nat.le_refl _) | (with_reducible refine le_ext _ ?_) | (with_reducible refine le_alloc _ ?_) | (with_reducible refine le_setCell _ _ ?_) | (with_reducible refine le_drew ?_) | omega | (simp; done) | (simp; omega)))))⟩
set_option maxRecDepth 20000 in
set_option maxHeartbeats 2000000 in
theorem lawSpl (n c : Nat) (A : Option Addr) (w : World) (hn : n ≤ c) (hc : c ≤ 9223372036854775807) (hA : BytesAt w w.heap.size A n) :
    Calls Try.prog 4 #[.slice A n c] w fun e w' => e = .returned (.bool true) ∧ Below w.heap.size w w' := by
  by_cases hle : n ≤ 1048576
  · have hd : decide ((1048576 : Int) < (n : Int)) = false := decide_eq_false (by omega)
    go_enter Try.func4, Try.ntmps4
    go_wp2_with fail
    refine (drawSplit_any n c A _ hn hc hA).mono ?_
    rintro e w1 ⟨v1, ps, i, k, rfl, o1, lp, cbp, B1⟩
    obtain ⟨A1, n1, c1, rfl⟩ := o1.slice
    have h1 := hide o1.pts.1
    have P1 := hide o1.pts.2.2.2
    have F1 := hide o1.form.1
    have k1 : n1 ≤ 9 := by have := h1.out; omega
    have IC := hide (fun (W : World) (hb : Below w1.heap.size w1 W) => iSplit_any ps i k A1 n1 c1 W h1.out (by omega) F1.out (P1.out.to hb))
    have SC := hide (fun (W : World) (hb : Below w1.heap.size w1 W) => sSplit_any ps i k A1 n1 c1 W h1.out (by omega) (P1.out.to hb))
    have ID := hide (fun (W : World) (hb : Below w1.heap.size w1 W) => iDbl_any ps A1 n1 c1 W h1.out (by omega) F1.out (P1.out.to hb))
    have s1 := B1.size
    clear o1 hA cbp
    by_cases hd1 : dgB ps i k = true
    · obtain ⟨hok, a, b, rfl, rfl, ha, hb, hdg⟩ := dgB_sim hd1
      obtain ⟨sa, sb, sA, sL⟩ := split_law hok ha hb hdg
      rw [hd1, prt_yes, prt_yes] at IC SC
      rw [dblA_2 hok] at ID
      generalize arc ps a (dstN ps.length a b) = L1 at *
      generalize arc ps b (dstN ps.length b a) = L2 at *
      have DA1 := dblA_2 sa
      have DA2 := dblA_2 sb
      obtain ⟨_, k2, ba1, _⟩ := simB_nums sa
      obtain ⟨_, k3, ba2, _⟩ := simB_nums sb
      obtain ⟨_, _, ba3, _⟩ := simB_nums hok
      have SA := hide sa
      have SB := hide sb
      clear hok sa sb hd1 hdg
      go_wp2_with fail
      refine (IC.out _ (by (repeat' (first | (with_reducible exact Below.refl _ _) | (with_reducible assumption) | (with_reducible refine below_ext _ ?_ ?_) | (with_reducible refine Below.alloc ?_ ?_ _) | (with_reducible refine Below.drew ?_) | (with_reducible refine below_drewN ?_ _) | (with_reducible refine le_drewN _ ?_) | (with_reducible refine Below.setCell ?_ ?_ _) | (with_reducible exact Nat.le_refl _) | (with_reducible refine le_ext _ ?_) | (with_reducible refine le_alloc _ ?_) | (with_reducible refine le_setCell _ _ ?_) | (with_reducible refine le_drew ?_) | omega | (simp; done) | (simp; omega))))).mono ?_
      rintro e w2 ⟨A2, n2, c2, A3, n3, c3, b0, rfl, l2, l3, pr2, pr3, _, _, _, pl2, pl3, hx2⟩
      have E2 := hide (ext_bel hx2)
      have R2 := hide pr2.pts
      have R3 := hide pr3.pts
      have L2h := hide l2
      have L3h := hide l3
      clear pr2 pr3 hx2
      go_wp2_with fail
      refine (SC.out _ E2.out).mono ?_
      rintro e w3 ⟨v4, v5, rfl, o4, o5, hx3⟩
      obtain ⟨A4, n4, c4, rfl⟩ := o4.slice
      obtain ⟨A5, n5, c5, rfl⟩ := o5.slice
      have L4h := hide o4.pts.1
      have L5h := hide o5.pts.1
      have R4 := hide o4.pts.2.2.2
      have R5 := hide o5.pts.2.2.2
      have E3 := hide (ext_bel hx3)
      have D3 := hide (E2.out.trans (E3.out.mono E2.out.size))
      clear o4 o5 hx3
      have m2 : n2 ≤ 2000000 := by have := L2h.out; omega
      have m3 : n3 ≤ 2000000 := by have := L3h.out; omega
      have m4 : n4 ≤ 2000000 := by have := L4h.out; omega
      have m5 : n5 ≤ 2000000 := by have := L5h.out; omega
      have P2a : Hid (∀ W, Below w3.heap.size w3 W → PtsAt W W.heap.size A2 L1) := hide (fun W hb => (R2.out.to E3.out).to hb)
      have P3a : Hid (∀ W, Below w3.heap.size w3 W → PtsAt W W.heap.size A3 L2) := hide (fun W hb => (R3.out.to E3.out).to hb)
      have P4a : Hid (∀ W, Below w3.heap.size w3 W → PtsAt W W.heap.size A4 L1) := hide (fun W hb => R4.out.to hb)
      have P5a : Hid (∀ W, Below w3.heap.size w3 W → PtsAt W W.heap.size A5 L2) := hide (fun W hb => R5.out.to hb)
      have EQ1 : Hid (∀ W, Below w3.heap.size w3 W → Calls Try.prog 13 #[.slice A2 n2 c2, .slice A4 n4 c4] W fun e w' => e = .returned (.bool true) ∧ ∃ m, w' = ext W m) := hide (fun W hb =>
        (equalPoints_any L1 L1 A2 A4 n2 c2 n4 c4 W L2h.out L4h.out m2 m4 (P2a.out W hb) (P4a.out W hb)).mono (fun e w' hh => ⟨by rw [hh.1]; simp, hh.2⟩))
      have EQ2 : Hid (∀ W, Below w3.heap.size w3 W → Calls Try.prog 13 #[.slice A3 n3 c3, .slice A5 n5 c5] W fun e w' => e = .returned (.bool true) ∧ ∃ m, w' = ext W m) := hide (fun W hb =>
        (equalPoints_any L2 L2 A3 A5 n3 c3 n5 c5 W L3h.out L5h.out m3 m5 (P3a.out W hb) (P5a.out W hb)).mono (fun e w' hh => ⟨by rw [hh.1]; simp, hh.2⟩))
      have IS1 := hide (fun (W : World) (hb : Below w3.heap.size w3 W) => iSim2_any L1 A2 n2 c2 W L2h.out m2 pl2 (P2a.out W hb))
      have IS2 := hide (fun (W : World) (hb : Below w3.heap.size w3 W) => iSim2_any L2 A3 n3 c3 W L3h.out m3 pl3 (P3a.out W hb))
      have ID1 := hide (fun (W : World) (hb : Below w3.heap.size w3 W) => iDbl_any L1 A2 n2 c2 W L2h.out m2 pl2 (P2a.out W hb))
      have ID2 := hide (fun (W : World) (hb : Below w3.heap.size w3 W) => iDbl_any L2 A3 n3 c3 W L3h.out m3 pl3 (P3a.out W hb))
      have ID3 := hide (fun (W : World) (hb : Below w3.heap.size w3 W) => ID.out W (D3.out.trans (hb.mono D3.out.size)))
      rw [SA.out] at IS1
      rw [SB.out] at IS2
      rw [DA1] at ID1
      rw [DA2] at ID2
      have sAh := hide sA
      have sLh : Hid (n2 + n3 = n1 + 2) := hide (by have h1 := h1.out; have h2 := L2h.out; have h3 := L3h.out; omega)
      clear DA1 DA2 sA sL l2 l3 P2a P3a P4a P5a R2 R3 R4 R5 IC SC ID L2h L3h L4h L5h
      generalize areaL L1 = x1 at *
      generalize areaL L2 = x2 at *
      generalize areaL ps = x3 at *
      have w1' : IntKind.i64.wrap (x1 + x2) = x1 + x2 := IntWalk.i64_in _ (by omega)
      have d1 : ((x1 + x2) == x3) = true := by rw [beq_iff_eq]; exact sAh.out
      have w2' : IntKind.i64.wrap ((n2 : Int) + (n3 : Int)) = (n2 : Int) + (n3 : Int) := IntWalk.i64_in _ (by have := sLh.out; omega)
      have w3' : IntKind.i64.wrap ((n1 : Int) + 2) = (n1 : Int) + 2 := IntWalk.i64_in _ (by omega)
      have d2 : (((n2 : Int) + (n3 : Int)) == ((n1 : Int) + 2)) = true := by rw [beq_iff_eq]; have := sLh.out; omega
      have s3 := D3.out.size
      have B3 := hide (B1.trans (D3.out.mono s1))
      go_wp2_with fail
      refine (EQ1.out _ (by (repeat' (first | (with_reducible exact Below.refl _ _) | (with_reducible assumption) | (with_reducible refine below_ext _ ?_ ?_) | (with_reducible refine Below.alloc ?_ ?_ _) | (with_reducible refine Below.drew ?_) | (with_reducible refine below_drewN ?_ _) | (with_reducible refine le_drewN _ ?_) | (with_reducible refine Below.setCell ?_ ?_ _) | (with_reducible exact Nat.le_refl _) | (with_reducible refine le_ext _ ?_) | (with_reducible refine le_alloc _ ?_) | (with_reducible refine le_setCell _ _ ?_) | (with_reducible refine le_drew ?_) | omega | (simp; done) | (simp; omega))))).mono ?_
      rintro e w' ⟨rfl, hw'⟩; have hzy1 := ext_sz hw'; obtain ⟨y1, rfl⟩ := hw'; (try simp at hzy1)
      go_wp2_with fail
      refine (EQ2.out _ (by (repeat' (first | (with_reducible exact Below.refl _ _) | (with_reducible assumption) | (with_reducible refine below_ext _ ?_ ?_) | (with_reducible refine Below.alloc ?_ ?_ _) | (with_reducible refine Below.drew ?_) | (with_reducible refine below_drewN ?_ _) | (with_reducible refine le_drewN _ ?_) | (with_reducible refine Below.setCell ?_ ?_ _) | (with_reducible exact Nat.le_refl _) | (with_reducible refine le_ext _ ?_) | (with_reducible refine le_alloc _ ?_) | (with_reducible refine le_setCell _ _ ?_) | (with_reducible refine le_drew ?_) | omega | (simp; done) | (simp; omega))))).mono ?_
      rintro e w' ⟨rfl, hw'⟩; have hzy2 := ext_sz hw'; obtain ⟨y2, rfl⟩ := hw'; (try simp at hzy2)
      go_wp2_with fail
      refine (IS1.out _ (by (repeat' (first | (with_reducible exact Below.refl _ _) | (with_reducible assumption) | (with_reducible refine below_ext _ ?_ ?_) | (with_reducible refine Below.alloc ?_ ?_ _) | (with_reducible refine Below.drew ?_) | (with_reducible refine below_drewN ?_ _) | (with_reducible refine le_drewN _ ?_) | (with_reducible refine Below.setCell ?_ ?_ _) | (with_reducible exact Nat.le_refl _) | (with_reducible refine le_ext _ ?_) | (with_reducible refine le_alloc _ ?_) | (with_reducible refine le_setCell _ _ ?_) | (with_reducible refine le_drew ?_) | omega | (simp; done) | (simp; omega))))).mono ?_
      rintro e w' ⟨rfl, hw'⟩; have hzy3 := ext_sz hw'; obtain ⟨y3, rfl⟩ := hw'; (try simp at hzy3)
      go_wp2_with fail
      refine (IS2.out _ (by (repeat' (first | (with_reducible exact Below.refl _ _) | (with_reducible assumption) | (with_reducible refine below_ext _ ?_ ?_) | (with_reducible refine Below.alloc ?_ ?_ _) | (with_reducible refine Below.drew ?_) | (with_reducible refine below_drewN ?_ _) | (with_reducible refine le_drewN _ ?_) | (with_reducible refine Below.setCell ?_ ?_ _) | (with_reducible exact Nat.le_refl _) | (with_reducible refine le_ext _ ?_) | (with_reducible refine le_alloc _ ?_) | (with_reducible refine le_setCell _ _ ?_) | (with_reducible refine le_drew ?_) | omega | (simp; done) | (simp; omega))))).mono ?_
      rintro e w' ⟨rfl, hw'⟩; have hzy4 := ext_sz hw'; obtain ⟨y4, rfl⟩ := hw'; (try simp at hzy4)
      go_wp2_with fail
      refine (ID1.out _ (by (repeat' (first | (with_reducible exact Below.refl _ _) | (with_reducible assumption) | (with_reducible refine below_ext _ ?_ ?_) | (with_reducible refine Below.alloc ?_ ?_ _) | (with_reducible refine Below.drew ?_) | (with_reducible refine below_drewN ?_ _) | (with_reducible refine le_drewN _ ?_) | (with_reducible refine Below.setCell ?_ ?_ _) | (with_reducible exact Nat.le_refl _) | (with_reducible refine le_ext _ ?_) | (with_reducible refine le_alloc _ ?_) | (with_reducible refine le_setCell _ _ ?_) | (with_reducible refine le_drew ?_) | omega | (simp; done) | (simp; omega))))).mono ?_
      rintro e w' ⟨rfl, hw'⟩; have hzy5 := ext_sz hw'; obtain ⟨y5, rfl⟩ := hw'; (try simp at hzy5)
      go_wp2_with fail
      refine (ID2.out _ (by (repeat' (first | (with_reducible exact Below.refl _ _) | (with_reducible assumption) | (with_reducible refine below_ext _ ?_ ?_) | (with_reducible refine Below.alloc ?_ ?_ _) | (with_reducible refine Below.drew ?_) | (with_reducible refine below_drewN ?_ _) | (with_reducible refine le_drewN _ ?_) | (with_reducible refine Below.setCell ?_ ?_ _) | (with_reducible exact Nat.le_refl _) | (with_reducible refine le_ext _ ?_) | (with_reducible refine le_alloc _ ?_) | (with_reducible refine le_setCell _ _ ?_) | (with_reducible refine le_drew ?_) | omega | (simp; done) | (simp; omega))))).mono ?_
      rintro e w' ⟨rfl, hw'⟩; have hzy6 := ext_sz hw'; obtain ⟨y6, rfl⟩ := hw'; (try simp at hzy6)
      go_wp2_with fail
      refine (ID3.out _ (by (repeat' (first | (with_reducible exact Below.refl _ _) | (with_reducible assumption) | (with_reducible refine below_ext _ ?_ ?_) | (with_reducible refine Below.alloc ?_ ?_ _) | (with_reducible refine Below.drew ?_) | (with_reducible refine below_drewN ?_ _) | (with_reducible refine le_drewN _ ?_) | (with_reducible refine Below.setCell ?_ ?_ _) | (with_reducible exact Nat.le_refl _) | (with_reducible refine le_ext _ ?_) | (with_reducible refine le_alloc _ ?_) | (with_reducible refine le_setCell _ _ ?_) | (with_reducible refine le_drew ?_) | omega | (simp; done) | (simp; omega))))).mono ?_
      rintro e w' ⟨rfl, hw'⟩; have hzy7 := ext_sz hw'; obtain ⟨y7, rfl⟩ := hw'; (try simp at hzy7)
      go_wp2_with fail
      go_ret
      exact ⟨rfl, B3.out.trans (Below.mono (show Below w3.heap.size w3 _ from (by (repeat' (first | (with_reducible exact Below.refl _ _) | (with_reducible assumption) | (with_reducible refine below_ext _ ?_ ?_) | (with_reducible refine Below.alloc ?_ ?_ _) | (with_reducible refine Below.drew ?_) | (with_reducible refine below_drewN ?_ _) | (with_reducible refine le_drewN _ ?_) | (with_reducible refine Below.setCell ?_ ?_ _) | (with_reducible exact Nat.le_refl _) | (with_reducible refine le_ext _ ?_) | (with_reducible refine le_alloc _ ?_) | (with_reducible refine le_setCell _ _ ?_) | (with_reducible refine le_drew ?_) | omega | (simp; done) | (simp; omega))))) (Nat.le_trans s1 s3))⟩
    · have hd1 := eq_false_of_ne_true hd1
      rw [hd1, prt_no, prt_no] at IC SC
      clear hd1 ID
      go_wp2_with fail
      refine (IC.out _ (by (repeat' (first | (with_reducible exact Below.refl _ _) | (with_reducible assumption) | (with_reducible refine below_ext _ ?_ ?_) | (with_reducible refine Below.alloc ?_ ?_ _) | (with_reducible refine Below.drew ?_) | (with_reducible refine below_drewN ?_ _) | (with_reducible refine le_drewN _ ?_) | (with_reducible refine Below.setCell ?_ ?_ _) | (with_reducible exact Nat.le_refl _) | (with_reducible refine le_ext _ ?_) | (with_reducible refine le_alloc _ ?_) | (with_reducible refine le_setCell _ _ ?_) | (with_reducible refine le_drew ?_) | omega | (simp; done) | (simp; omega))))).mono ?_
      rintro e w2 ⟨A2, n2, c2, A3, n3, c3, b0, rfl, l2, l3, pr2, pr3, _, _, _, pl2, pl3, hx2⟩
      have E2 := hide (ext_bel hx2)
      have R2 := hide pr2.pts
      have R3 := hide pr3.pts
      have L2h := hide l2
      have L3h := hide l3
      clear pr2 pr3 hx2 l2 l3
      go_wp2_with fail
      refine (SC.out _ E2.out).mono ?_
      rintro e w3 ⟨v4, v5, rfl, o4, o5, hx3⟩
      obtain ⟨A4, n4, c4, rfl⟩ := o4.slice
      obtain ⟨A5, n5, c5, rfl⟩ := o5.slice
      have L4h := hide o4.pts.1
      have L5h := hide o5.pts.1
      have R4 := hide o4.pts.2.2.2
      have R5 := hide o5.pts.2.2.2
      have E3 := hide (ext_bel hx3)
      have D3 := hide (E2.out.trans (E3.out.mono E2.out.size))
      clear o4 o5 hx3
      have m2 : n2 ≤ 2000000 := by have : 0 = n2 := L2h.out; omega
      have m3 : n3 ≤ 2000000 := by have : 0 = n3 := L3h.out; omega
      have m4 : n4 ≤ 2000000 := by have : 0 = n4 := L4h.out; omega
      have m5 : n5 ≤ 2000000 := by have : 0 = n5 := L5h.out; omega
      have EQ1 : Hid (∀ W, Below w3.heap.size w3 W → Calls Try.prog 13 #[.slice A2 n2 c2, .slice A4 n4 c4] W fun e w' => e = .returned (.bool true) ∧ ∃ m, w' = ext W m) := hide (fun W hb =>
        (equalPoints_any [] [] A2 A4 n2 c2 n4 c4 W L2h.out L4h.out m2 m4 ((R2.out.to E3.out).to hb) (R4.out.to hb)).mono (fun e w' hh => ⟨by rw [hh.1]; simp, hh.2⟩))
      have EQ2 : Hid (∀ W, Below w3.heap.size w3 W → Calls Try.prog 13 #[.slice A3 n3 c3, .slice A5 n5 c5] W fun e w' => e = .returned (.bool true) ∧ ∃ m, w' = ext W m) := hide (fun W hb =>
        (equalPoints_any [] [] A3 A5 n3 c3 n5 c5 W L3h.out L5h.out m3 m5 ((R3.out.to E3.out).to hb) (R5.out.to hb)).mono (fun e w' hh => ⟨by rw [hh.1]; simp, hh.2⟩))
      have s3 := D3.out.size
      have B3 := hide (B1.trans (D3.out.mono s1))
      clear R2 R3 R4 R5 IC SC
      go_wp2_with fail
      refine (EQ1.out _ (by (repeat' (first | (with_reducible exact Below.refl _ _) | (with_reducible assumption) | (with_reducible refine below_ext _ ?_ ?_) | (with_reducible refine Below.alloc ?_ ?_ _) | (with_reducible refine Below.drew ?_) | (with_reducible refine below_drewN ?_ _) | (with_reducible refine le_drewN _ ?_) | (with_reducible refine Below.setCell ?_ ?_ _) | (with_reducible exact Nat.le_refl _) | (with_reducible refine le_ext _ ?_) | (with_reducible refine le_alloc _ ?_) | (with_reducible refine le_setCell _ _ ?_) | (with_reducible refine le_drew ?_) | omega | (simp; done) | (simp; omega))))).mono ?_
      rintro e w' ⟨rfl, hw'⟩; have hzy1 := ext_sz hw'; obtain ⟨y1, rfl⟩ := hw'; (try simp at hzy1)
      go_wp2_with fail
      refine (EQ2.out _ (by (repeat' (first | (with_reducible exact Below.refl _ _) | (with_reducible assumption) | (with_reducible refine below_ext _ ?_ ?_) | (with_reducible refine Below.alloc ?_ ?_ _) | (with_reducible refine Below.drew ?_) | (with_reducible refine below_drewN ?_ _) | (with_reducible refine le_drewN _ ?_) | (with_reducible refine Below.setCell ?_ ?_ _) | (with_reducible exact Nat.le_refl _) | (with_reducible refine le_ext _ ?_) | (with_reducible refine le_alloc _ ?_) | (with_reducible refine le_setCell _ _ ?_) | (with_reducible refine le_drew ?_) | omega | (simp; done) | (simp; omega))))).mono ?_
      rintro e w' ⟨rfl, hw'⟩; have hzy2 := ext_sz hw'; obtain ⟨y2, rfl⟩ := hw'; (try simp at hzy2)
      go_wp2_with fail
      refine (EQ1.out _ (by (repeat' (first | (with_reducible exact Below.refl _ _) | (with_reducible assumption) | (with_reducible refine below_ext _ ?_ ?_) | (with_reducible refine Below.alloc ?_ ?_ _) | (with_reducible refine Below.drew ?_) | (with_reducible refine below_drewN ?_ _) | (with_reducible refine le_drewN _ ?_) | (with_reducible refine Below.setCell ?_ ?_ _) | (with_reducible exact Nat.le_refl _) | (with_reducible refine le_ext _ ?_) | (with_reducible refine le_alloc _ ?_) | (with_reducible refine le_setCell _ _ ?_) | (with_reducible refine le_drew ?_) | omega | (simp; done) | (simp; omega))))).mono ?_
      rintro e w' ⟨rfl, hw'⟩; have hzy3 := ext_sz hw'; obtain ⟨y3, rfl⟩ := hw'; (try simp at hzy3)
      go_wp2_with fail
      refine (EQ2.out _ (by (repeat' (first | (with_reducible exact Below.refl _ _) | (with_reducible assumption) | (with_reducible refine below_ext _ ?_ ?_) | (with_reducible refine Below.alloc ?_ ?_ _) | (with_reducible refine Below.drew ?_) | (with_reducible refine below_drewN ?_ _) | (with_reducible refine le_drewN _ ?_) | (with_reducible refine Below.setCell ?_ ?_ _) | (with_reducible exact Nat.le_refl _) | (with_reducible refine le_ext _ ?_) | (with_reducible refine le_alloc _ ?_) | (with_reducible refine le_setCell _ _ ?_) | (with_reducible refine le_drew ?_) | omega | (simp; done) | (simp; omega))))).mono ?_
      rintro e w' ⟨rfl, hw'⟩; have hzy4 := ext_sz hw'; obtain ⟨y4, rfl⟩ := hw'; (try simp at hzy4)
      go_wp2_with fail
      go_ret
      exact ⟨rfl, B3.out.trans (Below.mono (show Below w3.heap.size w3 _ from (by (repeat' (first | (with_reducible exact Below.refl _ _) | (with_reducible assumption) | (with_reducible refine below_ext _ ?_ ?_) | (with_reducible refine Below.alloc ?_ ?_ _) | (with_reducible refine Below.drew ?_) | (with_reducible refine below_drewN ?_ _) | (with_reducible refine le_drewN _ ?_) | (with_reducible refine Below.setCell ?_ ?_ _) | (with_reducible exact Nat.le_refl _) | (with_reducible refine le_ext _ ?_) | (with_reducible refine le_alloc _ ?_) | (with_reducible refine le_setCell _ _ ?_) | (with_reducible refine le_drew ?_) | omega | (simp; done) | (simp; omega))))) (Nat.le_trans s1 s3))⟩
  · skip
    have hd : decide ((1048576 : Int) < (n : Int)) = true := decide_eq_true (by omega)
    go_enter Try.func4, Try.ntmps4
    go_wp2
    go_ret
    exact ⟨rfl, (by (repeat' (first | (with_reducible exact Below.refl _ _) | (with_reducible assumption) | (with_reducible refine below_ext _ ?_ ?_) | (with_reducible refine Below.alloc ?_ ?_ _) | (with_reducible refine Below.drew ?_) | (with_reducible refine below_drewN ?_ _) | (with_reducible refine le_drewN _ ?_) | (with_reducible refine Below.setCell ?_ ?_ _) | (with_reducible exact Nat.le_refl _) | (with_reducible refine le_ext _ ?_) | (with_reducible refine le_alloc _ ?_) | (with_reducible refine le_setCell _ _ ?_) | (with_reducible refine le_drew ?_) | omega | (simp; done) | (simp; omega))))⟩
end Go.Proofs.Ytklbcmgkladdeaa
