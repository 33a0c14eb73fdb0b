
/- FnIsConvex: the law's walk. -/
import Derived.Test.YtdneaakpdibkmaaCan
import Derived.Test.YtdneaakpdibkmaaConvS
import Derived.Test.YtdneaakpdibkmaaDrawD
import Derived.Test.YtdneaakpdibkmaaCount
import Derived.Test.YtdneaakpdibkmaaAreaI
import Derived.Test.YtdneaakpdibkmaaHlp2
set_option linter.unusedVariables false
set_option linter.unusedSimpArgs false
namespace Go.Proofs.Ytdneaakpdibkmaa
open Go.RowKit

set_option maxHeartbeats 400000 in
theorem iSim3_any (ps : List Pt) (A : Option Addr) (n c : Nat) (w : World) (hn : ps.length = n) (hm : n ≤ 2000000) (hA : Plain A n) (hs : PtsAt w w.heap.size A ps) :
    Calls Try.prog 30 #[.slice A n c] w fun e w' => e = .returned (.bool (simB ps)) ∧ ∃ x, w' = ext w x := by
  have HC := hide (simple_any ps A n c w hn hm hA hs)
  clear hn hs
  go_enter Try.func30, Try.ntmps30
  go_wp2_with fail
  refine HC.out.mono ?_
  rintro e w' ⟨rfl, hw'⟩; have hzy1 := ext_sz hw'; obtain ⟨y1, rfl⟩ := hw'; (try simp at hzy1)
  go_wp2_with fail
  go_ret
  exact ⟨rfl, (ext_mk (by (repeat' (first | (with_reducible exact Below.refl _ _) | (with_reducible assumption) | (with_reducible refine below_ext _ ?_ ?_) | (with_reducible refine Below.alloc ?_ ?_ _) | (with_reducible refine Below.drew ?_) | (with_reducible refine below_drewN ?_ _) | (with_reducible refine le_drewN _ ?_) | (with_reducible refine Below.setCell ?_ ?_ _) | (with_reducible exact Nat.le_refl _) | (with_reducible refine le_ext _ ?_) | (with_reducible refine le_alloc _ ?_) | (with_reducible refine le_setCell _ _ ?_) | (with_reducible refine le_drew ?_) | omega | (simp; done) | (simp; omega)))))⟩
set_option maxHeartbeats 4000000 in
theorem lawIsConv (n c : Nat) (A : Option Addr) (w : World) (hn : n ≤ c) (hc : c ≤ 9223372036854775807) (hA : BytesAt w w.heap.size A n) :
    Calls Try.prog 9 #[.slice A n c] w fun e w' => e = .returned (.bool true) ∧ Below w.heap.size w w' := by
  by_cases hle : n ≤ 1048576
  · have hd : decide ((1048576 : Int) < (n : Int)) = false := decide_eq_false (by omega)
    go_enter Try.func9, Try.ntmps9
    go_wp2_with fail
    refine (drawConv_any n c A _ hn hc hA).mono ?_
    rintro e w1 ⟨v1, ps, rfl, o1, lp, cbp, B1⟩
    obtain ⟨A1, n1, c1, rfl⟩ := o1.slice
    have h1 := hide o1.pts.1
    have P1 := hide o1.pts.2.2.2
    have F1 := hide o1.form.1
    have k1 : n1 ≤ 10 := by have := h1.out; omega
    have IC := hide (fun (W : World) (hb : Below w1.heap.size w1 W) => iConv_any ps A1 n1 c1 W h1.out (by omega) F1.out (P1.out.to hb))
    have SC := hide (fun (W : World) (hb : Below w1.heap.size w1 W) => sConv_any ps A1 n1 c1 W h1.out (by omega) (P1.out.to hb))
    have IS := hide (fun (W : World) (hb : Below w1.heap.size w1 W) => iSim3_any ps A1 n1 c1 W h1.out (by omega) F1.out (P1.out.to hb))
    have ID := hide (fun (W : World) (hb : Below w1.heap.size w1 W) => iDbl_any ps A1 n1 c1 W h1.out (by omega) F1.out (P1.out.to hb))
    have CA := hide (fun (W : World) (hb : Below w1.heap.size w1 W) => iCan_any ps A1 n1 c1 W h1.out (by omega) F1.out (P1.out.to hb))
    have HU := hide (fun (W : World) (hb : Below w1.heap.size w1 W) => iHull_any ps A1 n1 c1 W h1.out (by omega) F1.out (P1.out.to hb))
    have s1 := B1.size
    clear o1 hA cbp P1 F1
    by_cases hok : simB ps = true
    · have KC := conv_can hok
      have DA := dblA_2 hok
      have LK := (simB_parts hok).2.2.2.1
      have HL : hullL ps = hullOf ps := if_pos LK
      have LH : (hullOf ps).length ≤ 2000000 := by
        have := hullOf_len' ps
        omega
      have LC : (canO ps).length ≤ 2000000 := by rw [can_bd hok, can_len]; omega
      have EC : canO ps = canL ps := can_bd hok
      rw [hok] at IS
      rw [DA] at ID
      rw [EC] at LC CA
      rw [HL] at HU
      have VV : ∀ b : Bool, (b != b) = false := fun b => by simp
      by_cases ha : 0 < areaL ps
      · rw [decide_eq_true ha, Bool.true_and] at KC
        have d1 : decide (0 < areaL ps) = true := decide_eq_true ha
        have d2 : (decide (canL ps = hullOf ps) == decide (canL ps = hullOf ps)) = true := by simp
        have d3 : (decide (canL ps = hullOf ps) != decide (canL ps = hullOf ps)) = false := by simp
        rw [KC] at IC SC
        clear KC DA LK HL hok EC ha VV
        generalize hL1 : canL ps = L1 at *
        generalize hL2 : hullOf ps = L2 at *
        generalize areaL ps = ar at *
        clear hL1 hL2
        go_wp2_with fail
        refine (IC.out _ (by (repeat' (first | (with_reducible exact Below.refl _ _) | (with_reducible assumption) | (with_reducible refine below_ext _ ?_ ?_) | (with_reducible refine Below.alloc ?_ ?_ _) | (with_reducible refine Below.drew ?_) | (with_reducible refine below_drewN ?_ _) | (with_reducible refine le_drewN _ ?_) | (with_reducible refine Below.setCell ?_ ?_ _) | (with_reducible exact Nat.le_refl _) | (with_reducible refine le_ext _ ?_) | (with_reducible refine le_alloc _ ?_) | (with_reducible refine le_setCell _ _ ?_) | (with_reducible refine le_drew ?_) | omega | (simp; done) | (simp; omega))))).mono ?_
        rintro e w' ⟨rfl, hw'⟩; have hzy1 := ext_sz hw'; obtain ⟨y1, rfl⟩ := hw'; (try simp at hzy1)
        go_wp2_with fail
        refine (SC.out _ (by (repeat' (first | (with_reducible exact Below.refl _ _) | (with_reducible assumption) | (with_reducible refine below_ext _ ?_ ?_) | (with_reducible refine Below.alloc ?_ ?_ _) | (with_reducible refine Below.drew ?_) | (with_reducible refine below_drewN ?_ _) | (with_reducible refine le_drewN _ ?_) | (with_reducible refine Below.setCell ?_ ?_ _) | (with_reducible exact Nat.le_refl _) | (with_reducible refine le_ext _ ?_) | (with_reducible refine le_alloc _ ?_) | (with_reducible refine le_setCell _ _ ?_) | (with_reducible refine le_drew ?_) | omega | (simp; done) | (simp; omega))))).mono ?_
        rintro e w' ⟨rfl, hw'⟩; have hzy2 := ext_sz hw'; obtain ⟨y2, rfl⟩ := hw'; (try simp at hzy2)
        go_wp2_with fail
        refine (IS.out _ (by (repeat' (first | (with_reducible exact Below.refl _ _) | (with_reducible assumption) | (with_reducible refine below_ext _ ?_ ?_) | (with_reducible refine Below.alloc ?_ ?_ _) | (with_reducible refine Below.drew ?_) | (with_reducible refine below_drewN ?_ _) | (with_reducible refine le_drewN _ ?_) | (with_reducible refine Below.setCell ?_ ?_ _) | (with_reducible exact Nat.le_refl _) | (with_reducible refine le_ext _ ?_) | (with_reducible refine le_alloc _ ?_) | (with_reducible refine le_setCell _ _ ?_) | (with_reducible refine le_drew ?_) | omega | (simp; done) | (simp; omega))))).mono ?_
        rintro e w' ⟨rfl, hw'⟩; have hzy3 := ext_sz hw'; obtain ⟨y3, rfl⟩ := hw'; (try simp at hzy3)
        go_wp2_with fail
        refine (ID.out _ (by (repeat' (first | (with_reducible exact Below.refl _ _) | (with_reducible assumption) | (with_reducible refine below_ext _ ?_ ?_) | (with_reducible refine Below.alloc ?_ ?_ _) | (with_reducible refine Below.drew ?_) | (with_reducible refine below_drewN ?_ _) | (with_reducible refine le_drewN _ ?_) | (with_reducible refine Below.setCell ?_ ?_ _) | (with_reducible exact Nat.le_refl _) | (with_reducible refine le_ext _ ?_) | (with_reducible refine le_alloc _ ?_) | (with_reducible refine le_setCell _ _ ?_) | (with_reducible refine le_drew ?_) | omega | (simp; done) | (simp; omega))))).mono ?_
        rintro e w' ⟨rfl, hw'⟩; have hzy4 := ext_sz hw'; obtain ⟨y4, rfl⟩ := hw'; (try simp at hzy4)
        go_wp2_with fail
        refine (CA.out _ (by (repeat' (first | (with_reducible exact Below.refl _ _) | (with_reducible assumption) | (with_reducible refine below_ext _ ?_ ?_) | (with_reducible refine Below.alloc ?_ ?_ _) | (with_reducible refine Below.drew ?_) | (with_reducible refine below_drewN ?_ _) | (with_reducible refine le_drewN _ ?_) | (with_reducible refine Below.setCell ?_ ?_ _) | (with_reducible exact Nat.le_refl _) | (with_reducible refine le_ext _ ?_) | (with_reducible refine le_alloc _ ?_) | (with_reducible refine le_setCell _ _ ?_) | (with_reducible refine le_drew ?_) | omega | (simp; done) | (simp; omega))))).mono ?_
        rintro e w5 ⟨v5, rfl, o5, hx5⟩
        obtain ⟨A5, n5, c5, rfl⟩ := o5.slice
        have l5 := o5.pts.1
        have P5 := hide o5.pts.2.2.2
        have E5 := ext_bel hx5
        clear o5 hx5
        have B6 := (show Below w1.heap.size w1 (ext (ext (ext (ext w1 y1) y2) y3) y4) from (by (repeat' (first | (with_reducible exact Below.refl _ _) | (with_reducible assumption) | (with_reducible refine below_ext _ ?_ ?_) | (with_reducible refine Below.alloc ?_ ?_ _) | (with_reducible refine Below.drew ?_) | (with_reducible refine below_drewN ?_ _) | (with_reducible refine le_drewN _ ?_) | (with_reducible refine Below.setCell ?_ ?_ _) | (with_reducible exact Nat.le_refl _) | (with_reducible refine le_ext _ ?_) | (with_reducible refine le_alloc _ ?_) | (with_reducible refine le_setCell _ _ ?_) | (with_reducible refine le_drew ?_) | omega | (simp; done) | (simp; omega)))))
        have D5 : Hid (Below w1.heap.size w1 w5) := hide (B6.trans (E5.mono B6.size))
        clear B6
        go_wp2_with fail
        refine (HU.out _ D5.out).mono ?_
        rintro e w6 ⟨A6, n6, c6, rfl, l6, q6, qb6, pr6, pl6, hx6⟩
        have E6 := ext_bel hx6
        clear hx6
        go_wp2_with fail
        have D6 : Hid (Below w1.heap.size w1 w6) := hide (D5.out.trans (E6.mono D5.out.size))
        refine (equalPoints_any L1 L2 _ _ _ _ _ _ _ l5 l6 (by omega) (by omega) (P5.out.to E6) pr6.pts).mono ?_
        rintro e w7 ⟨rfl, hx7⟩
        have E7 := ext_bel hx7
        clear hx7
        go_wp2_with fail
        go_ret
        exact ⟨rfl, B1.trans ((D6.out.trans (E7.mono D6.out.size)).mono s1)⟩
      · rw [decide_eq_false ha, Bool.false_and] at KC
        have d1 : decide (0 < areaL ps) = false := decide_eq_false ha
        rw [KC] at IC SC
        clear KC DA LK HL hok EC ha VV
        generalize areaL ps = ar at *
        go_wp2_with fail
        refine (IC.out _ (by (repeat' (first | (with_reducible exact Below.refl _ _) | (with_reducible assumption) | (with_reducible refine below_ext _ ?_ ?_) | (with_reducible refine Below.alloc ?_ ?_ _) | (with_reducible refine Below.drew ?_) | (with_reducible refine below_drewN ?_ _) | (with_reducible refine le_drewN _ ?_) | (with_reducible refine Below.setCell ?_ ?_ _) | (with_reducible exact Nat.le_refl _) | (with_reducible refine le_ext _ ?_) | (with_reducible refine le_alloc _ ?_) | (with_reducible refine le_setCell _ _ ?_) | (with_reducible refine le_drew ?_) | omega | (simp; done) | (simp; omega))))).mono ?_
        rintro e w' ⟨rfl, hw'⟩; have hzy1 := ext_sz hw'; obtain ⟨y1, rfl⟩ := hw'; (try simp at hzy1)
        go_wp2_with fail
        refine (SC.out _ (by (repeat' (first | (with_reducible exact Below.refl _ _) | (with_reducible assumption) | (with_reducible refine below_ext _ ?_ ?_) | (with_reducible refine Below.alloc ?_ ?_ _) | (with_reducible refine Below.drew ?_) | (with_reducible refine below_drewN ?_ _) | (with_reducible refine le_drewN _ ?_) | (with_reducible refine Below.setCell ?_ ?_ _) | (with_reducible exact Nat.le_refl _) | (with_reducible refine le_ext _ ?_) | (with_reducible refine le_alloc _ ?_) | (with_reducible refine le_setCell _ _ ?_) | (with_reducible refine le_drew ?_) | omega | (simp; done) | (simp; omega))))).mono ?_
        rintro e w' ⟨rfl, hw'⟩; have hzy2 := ext_sz hw'; obtain ⟨y2, rfl⟩ := hw'; (try simp at hzy2)
        go_wp2_with fail
        refine (IS.out _ (by (repeat' (first | (with_reducible exact Below.refl _ _) | (with_reducible assumption) | (with_reducible refine below_ext _ ?_ ?_) | (with_reducible refine Below.alloc ?_ ?_ _) | (with_reducible refine Below.drew ?_) | (with_reducible refine below_drewN ?_ _) | (with_reducible refine le_drewN _ ?_) | (with_reducible refine Below.setCell ?_ ?_ _) | (with_reducible exact Nat.le_refl _) | (with_reducible refine le_ext _ ?_) | (with_reducible refine le_alloc _ ?_) | (with_reducible refine le_setCell _ _ ?_) | (with_reducible refine le_drew ?_) | omega | (simp; done) | (simp; omega))))).mono ?_
        rintro e w' ⟨rfl, hw'⟩; have hzy3 := ext_sz hw'; obtain ⟨y3, rfl⟩ := hw'; (try simp at hzy3)
        go_wp2_with fail
        refine (ID.out _ (by (repeat' (first | (with_reducible exact Below.refl _ _) | (with_reducible assumption) | (with_reducible refine below_ext _ ?_ ?_) | (with_reducible refine Below.alloc ?_ ?_ _) | (with_reducible refine Below.drew ?_) | (with_reducible refine below_drewN ?_ _) | (with_reducible refine le_drewN _ ?_) | (with_reducible refine Below.setCell ?_ ?_ _) | (with_reducible exact Nat.le_refl _) | (with_reducible refine le_ext _ ?_) | (with_reducible refine le_alloc _ ?_) | (with_reducible refine le_setCell _ _ ?_) | (with_reducible refine le_drew ?_) | omega | (simp; done) | (simp; omega))))).mono ?_
        rintro e w' ⟨rfl, hw'⟩; have hzy4 := ext_sz hw'; obtain ⟨y4, rfl⟩ := hw'; (try simp at hzy4)
        go_wp2_with fail
        go_ret
        exact ⟨rfl, B1.trans (Below.mono (by (repeat' (first | (with_reducible exact Below.refl _ _) | (with_reducible assumption) | (with_reducible refine below_ext _ ?_ ?_) | (with_reducible refine Below.alloc ?_ ?_ _) | (with_reducible refine Below.drew ?_) | (with_reducible refine below_drewN ?_ _) | (with_reducible refine le_drewN _ ?_) | (with_reducible refine Below.setCell ?_ ?_ _) | (with_reducible exact Nat.le_refl _) | (with_reducible refine le_ext _ ?_) | (with_reducible refine le_alloc _ ?_) | (with_reducible refine le_setCell _ _ ?_) | (with_reducible refine le_drew ?_) | omega | (simp; done) | (simp; omega)))) s1)⟩
    · have hok := eq_false_of_ne_true hok
      have KC : convB ps = false := by unfold convB; rw [hok]; rfl
      rw [KC] at IC SC
      rw [hok] at IS
      clear KC hok
      go_wp2_with fail
      refine (IC.out _ (by (repeat' (first | (with_reducible exact Below.refl _ _) | (with_reducible assumption) | (with_reducible refine below_ext _ ?_ ?_) | (with_reducible refine Below.alloc ?_ ?_ _) | (with_reducible refine Below.drew ?_) | (with_reducible refine below_drewN ?_ _) | (with_reducible refine le_drewN _ ?_) | (with_reducible refine Below.setCell ?_ ?_ _) | (with_reducible exact Nat.le_refl _) | (with_reducible refine le_ext _ ?_) | (with_reducible refine le_alloc _ ?_) | (with_reducible refine le_setCell _ _ ?_) | (with_reducible refine le_drew ?_) | omega | (simp; done) | (simp; omega))))).mono ?_
      rintro e w' ⟨rfl, hw'⟩; have hzy1 := ext_sz hw'; obtain ⟨y1, rfl⟩ := hw'; (try simp at hzy1)
      go_wp2_with fail
      refine (SC.out _ (by (repeat' (first | (with_reducible exact Below.refl _ _) | (with_reducible assumption) | (with_reducible refine below_ext _ ?_ ?_) | (with_reducible refine Below.alloc ?_ ?_ _) | (with_reducible refine Below.drew ?_) | (with_reducible refine below_drewN ?_ _) | (with_reducible refine le_drewN _ ?_) | (with_reducible refine Below.setCell ?_ ?_ _) | (with_reducible exact Nat.le_refl _) | (with_reducible refine le_ext _ ?_) | (with_reducible refine le_alloc _ ?_) | (with_reducible refine le_setCell _ _ ?_) | (with_reducible refine le_drew ?_) | omega | (simp; done) | (simp; omega))))).mono ?_
      rintro e w' ⟨rfl, hw'⟩; have hzy2 := ext_sz hw'; obtain ⟨y2, rfl⟩ := hw'; (try simp at hzy2)
      go_wp2_with fail
      refine (IS.out _ (by (repeat' (first | (with_reducible exact Below.refl _ _) | (with_reducible assumption) | (with_reducible refine below_ext _ ?_ ?_) | (with_reducible refine Below.alloc ?_ ?_ _) | (with_reducible refine Below.drew ?_) | (with_reducible refine below_drewN ?_ _) | (with_reducible refine le_drewN _ ?_) | (with_reducible refine Below.setCell ?_ ?_ _) | (with_reducible exact Nat.le_refl _) | (with_reducible refine le_ext _ ?_) | (with_reducible refine le_alloc _ ?_) | (with_reducible refine le_setCell _ _ ?_) | (with_reducible refine le_drew ?_) | omega | (simp; done) | (simp; omega))))).mono ?_
      rintro e w' ⟨rfl, hw'⟩; have hzy3 := ext_sz hw'; obtain ⟨y3, rfl⟩ := hw'; (try simp at hzy3)
      go_wp2_with fail
      refine (SC.out _ (by (repeat' (first | (with_reducible exact Below.refl _ _) | (with_reducible assumption) | (with_reducible refine below_ext _ ?_ ?_) | (with_reducible refine Below.alloc ?_ ?_ _) | (with_reducible refine Below.drew ?_) | (with_reducible refine below_drewN ?_ _) | (with_reducible refine le_drewN _ ?_) | (with_reducible refine Below.setCell ?_ ?_ _) | (with_reducible exact Nat.le_refl _) | (with_reducible refine le_ext _ ?_) | (with_reducible refine le_alloc _ ?_) | (with_reducible refine le_setCell _ _ ?_) | (with_reducible refine le_drew ?_) | omega | (simp; done) | (simp; omega))))).mono ?_
      rintro e w' ⟨rfl, hw'⟩; have hzy4 := ext_sz hw'; obtain ⟨y4, rfl⟩ := hw'; (try simp at hzy4)
      go_wp2_with fail
      go_ret
      exact ⟨rfl, B1.trans (Below.mono (by (repeat' (first | (with_reducible exact Below.refl _ _) | (with_reducible assumption) | (with_reducible refine below_ext _ ?_ ?_) | (with_reducible refine Below.alloc ?_ ?_ _) | (with_reducible refine Below.drew ?_) | (with_reducible refine below_drewN ?_ _) | (with_reducible refine le_drewN _ ?_) | (with_reducible refine Below.setCell ?_ ?_ _) | (with_reducible exact Nat.le_refl _) | (with_reducible refine le_ext _ ?_) | (with_reducible refine le_alloc _ ?_) | (with_reducible refine le_setCell _ _ ?_) | (with_reducible refine le_drew ?_) | omega | (simp; done) | (simp; omega)))) s1)⟩
  · skip
    have hd : decide ((1048576 : Int) < (n : Int)) = true := decide_eq_true (by omega)
    go_enter Try.func9, Try.ntmps9
    go_wp2
    go_ret
    exact ⟨rfl, (by (repeat' (first | (with_reducible exact Below.refl _ _) | (with_reducible assumption) | (with_reducible refine below_ext _ ?_ ?_) | (with_reducible refine Below.alloc ?_ ?_ _) | (with_reducible refine Below.drew ?_) | (with_reducible refine below_drewN ?_ _) | (with_reducible refine le_drewN _ ?_) | (with_reducible refine Below.setCell ?_ ?_ _) | (with_reducible exact Nat.le_refl _) | (with_reducible refine le_ext _ ?_) | (with_reducible refine le_alloc _ ?_) | (with_reducible refine le_setCell _ _ ?_) | (with_reducible refine le_drew ?_) | omega | (simp; done) | (simp; omega))))⟩
end Go.Proofs.Ytdneaakpdibkmaa
