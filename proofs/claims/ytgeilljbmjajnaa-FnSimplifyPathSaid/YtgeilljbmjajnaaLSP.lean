

/- FnSimplifyPath, FnSimplifyAll: the laws' walks. -/
import Derived.Test.YtgeilljbmjajnaaDrawS
import Derived.Test.YtgeilljbmjajnaaSegp
import Derived.Test.YtgeilljbmjajnaaMark
set_option linter.unusedVariables false
set_option linter.unusedSimpArgs false
namespace Go.Proofs.Ytgeilljbmjajnaa
open Go.RowKit

set_option maxHeartbeats 2000000 in
theorem lawSP (n c : Nat) (A : Option Addr) (w : World) (hn : n ≤ c) (hc : c ≤ 9223372036854775807) (hA : BytesAt w w.heap.size A n) :
    Calls Try.prog 8 #[.slice A n c] w fun e w' => e = .returned (.bool true) ∧ Below w.heap.size w w' := by
  by_cases hle : n ≤ 1048576
  · have hd : decide ((1048576 : Int) < (n : Int)) = false := decide_eq_false (by omega)
    go_enter Try.func8, Try.ntmps8
    go_wp2_with fail
    refine (drawSimplify_any n c A _ hn hc hA).mono ?_
    rintro e w1 ⟨v, ps, most, rfl, hown, hlen, B1⟩
    obtain ⟨A1, n1, c1, rfl⟩ := hown.slice
    obtain ⟨l1, l2, l3, hp1⟩ := hown.pts
    have hlz := simplifyOf_len ps most
    clear hown
    go_wp2_with fail
    refine (iSimplify_any ps most A1 n1 c1 _ l1 (by omega) hp1).mono ?_
    rintro e w2 ⟨A3, n3, c3, rfl, hz3, hnc3, hcm3, hr3, hx3⟩
    have D2 := ext_bel hx3
    have B2 := B1.trans (D2.mono B1.size)
    clear hx3
    go_wp2_with fail
    refine (sSimplify_any ps most A1 n1 c1 _ l1 (by omega) (hp1.to D2)).mono ?_
    rintro e w3 ⟨v4, rfl, hown4, hx4⟩
    have D3 := ext_bel hx4
    have B3 := B2.trans (D3.mono B2.size)
    obtain ⟨A4, n4, c4, rfl⟩ := own_slice hown4
    obtain ⟨hz4, hnc4, hcm4, hi4⟩ := hown4.ints
    have hr4 := hr3.below D3
    clear hx4 hown4 hr3
    go_wp2_with fail
    refine (equalInts_any (simplifyOf ps most) (simplifyOf ps most) _ _ _ _ _ _ _ hz3 hz4 (by omega) (by omega) hr4.ints hi4).mono ?_
    rintro e w4 ⟨rfl, hx5⟩
    have D4 := ext_bel hx5
    have B4 := B3.trans (D4.mono B3.size)
    have hr5 := hr4.below D4
    have hp4 := ((hp1.to D2).to D3).to D4
    clear hx5 hr4 hi4
    by_cases h0 : n3 = 0
    · have hd0 : ((n3 : Int) == 0) = true := by rw [beq_iff_eq]; omega
      clear h0
      go_wp2_with fail
      refine (sSimplify_any ps most A1 n1 c1 _ l1 (by omega) hp4).mono ?_
      rintro e w5 ⟨v6, rfl, hown6, hx6⟩
      have D5 := ext_bel hx6
      have B5 := B4.trans (D5.mono B4.size)
      obtain ⟨A6, n6, c6, rfl⟩ := own_slice hown6
      obtain ⟨hz6, hnc6, hcm6, hi6⟩ := hown6.ints
      have hr6 := hr5.below D5
      clear hx6 hown6 hr5
      go_wp2_with fail
      refine (equalInts_any (simplifyOf ps most) (simplifyOf ps most) _ _ _ _ _ _ _ hz3 hz6 (by omega) (by omega) hr6.ints hi6).mono ?_
      rintro e w6 ⟨rfl, hx7⟩
      have D6 := ext_bel hx7
      have B6 := B5.trans (D6.mono B5.size)
      clear hx7 hr6 hi6
      go_wp2_with fail
      go_ret
      exact ⟨by simp, B6⟩
    · have hd0 : ((n3 : Int) == 0) = false := by rw [beq_eq_false_iff_ne]; omega
      obtain ⟨k1, k2⟩ := simplify_ne (ps := ps) (most := most) (by intro h; rw [h] at hz3; simp at hz3; omega)
      have HC := hide (check_simplify k1 k2)
      clear k1 k2
      go_wp2_with fail
      refine (iCheck_any ps most (simplifyOf ps most) _ _ _ _ _ _ _ l1 hz3 (by omega) (by omega) hp4 hr5.ints (by omega) (by unfold maxLen at l3; omega)).mono ?_
      rw [HC.out]
      rintro e w5 ⟨rfl, hx6⟩
      have B5 := B4.trans ((ext_bel hx6).mono B4.size)
      clear hx6
      go_wp2_with fail
      go_ret
      exact ⟨rfl, B5⟩
  · have hd : decide ((1048576 : Int) < (n : Int)) = true := decide_eq_true (by omega)
    go_enter Try.func8, Try.ntmps8
    go_wp2
    go_ret
    exact ⟨rfl, (by (repeat' (first | (with_reducible exact Below.refl _ _) | (with_reducible assumption) | (with_reducible refine below_ext _ ?_ ?_) | (with_reducible refine Below.alloc ?_ ?_ _) | (with_reducible refine Below.drew ?_) | (with_reducible refine below_drewN ?_ _) | (with_reducible refine le_drewN _ ?_) | (with_reducible refine Below.setCell ?_ ?_ _) | (with_reducible exact Nat.le_refl _) | (with_reducible refine le_ext _ ?_) | (with_reducible refine le_alloc _ ?_) | (with_reducible refine le_setCell _ _ ?_) | (with_reducible refine le_drew ?_) | omega | (simp; done) | (simp; omega))))⟩
set_option maxHeartbeats 2000000 in
theorem lawSA (n c : Nat) (A : Option Addr) (w : World) (hn : n ≤ c) (hc : c ≤ 9223372036854775807) (hA : BytesAt w w.heap.size A n) :
    Calls Try.prog 5 #[.slice A n c] w fun e w' => e = .returned (.bool true) ∧ Below w.heap.size w w' := by
  by_cases hle : n ≤ 1048576
  · have hd : decide ((1048576 : Int) < (n : Int)) = false := decide_eq_false (by omega)
    go_enter Try.func5, Try.ntmps5
    go_wp2_with fail
    refine (drawSimplify_any n c A _ hn hc hA).mono ?_
    rintro e w1 ⟨v, ps, most, rfl, hown, hlen, B1⟩
    obtain ⟨A1, n1, c1, rfl⟩ := hown.slice
    obtain ⟨l1, l2, l3, hp1⟩ := hown.pts
    have hlz := simplifyOf_len ps most
    clear hown
    go_wp2_with fail
    refine (iSimplify_any ps most A1 n1 c1 _ l1 (by omega) hp1).mono ?_
    rintro e w2 ⟨A3, n3, c3, rfl, hz3, hnc3, hcm3, hr3, hx3⟩
    have D2 := ext_bel hx3
    have B2 := B1.trans (D2.mono B1.size)
    clear hx3
    go_wp2_with fail
    refine (sSimplify_any ps most A1 n1 c1 _ l1 (by omega) (hp1.to D2)).mono ?_
    rintro e w3 ⟨v4, rfl, hown4, hx4⟩
    have D3 := ext_bel hx4
    have B3 := B2.trans (D3.mono B2.size)
    obtain ⟨A4, n4, c4, rfl⟩ := own_slice hown4
    obtain ⟨hz4, hnc4, hcm4, hi4⟩ := hown4.ints
    have hr4 := hr3.below D3
    clear hx4 hown4 hr3
    go_wp2_with fail
    refine (equalInts_any (simplifyOf ps most) (simplifyOf ps most) _ _ _ _ _ _ _ hz3 hz4 (by omega) (by omega) hr4.ints hi4).mono ?_
    rintro e w4 ⟨rfl, hx5⟩
    have D4 := ext_bel hx5
    have B4 := B3.trans (D4.mono B3.size)
    have hr5 := hr4.below D4
    have hp4 := ((hp1.to D2).to D3).to D4
    clear hx5 hr4 hi4
    by_cases h0 : n3 = 0
    · have hd0 : ((n3 : Int) == 0) = true := by rw [beq_iff_eq]; omega
      clear h0
      go_wp2_with fail
      refine (sSimplify_any ps most A1 n1 c1 _ l1 (by omega) hp4).mono ?_
      rintro e w5 ⟨v6, rfl, hown6, hx6⟩
      have D5 := ext_bel hx6
      have B5 := B4.trans (D5.mono B4.size)
      obtain ⟨A6, n6, c6, rfl⟩ := own_slice hown6
      obtain ⟨hz6, hnc6, hcm6, hi6⟩ := hown6.ints
      have hr6 := hr5.below D5
      clear hx6 hown6 hr5
      go_wp2_with fail
      refine (equalInts_any (simplifyOf ps most) (simplifyOf ps most) _ _ _ _ _ _ _ hz3 hz6 (by omega) (by omega) hr6.ints hi6).mono ?_
      rintro e w6 ⟨rfl, hx7⟩
      have D6 := ext_bel hx7
      have B6 := B5.trans (D6.mono B5.size)
      clear hx7 hr6 hi6
      go_wp2_with fail
      go_ret
      exact ⟨by simp, B6⟩
    · have hd0 : ((n3 : Int) == 0) = false := by rw [beq_eq_false_iff_ne]; omega
      obtain ⟨k1, k2⟩ := simplify_ne (ps := ps) (most := most) (by intro h; rw [h] at hz3; simp at hz3; omega)
      have HC := hide (simplify_big k1)
      have hp := pathOk_len k1
      rw [l1] at HC
      clear k1 k2
      go_wp2_with fail
      refine (iSimplify_any ps 8000000 A1 n1 c1 _ l1 (by omega) hp4).mono ?_
      rw [HC.out]
      rintro e w5 ⟨A6, n6, c6, rfl, hz6, hnc6, hcm6, hr6, hx6⟩
      have D5 := ext_bel hx6
      have B5 := B4.trans (D5.mono B4.size)
      clear hx6 hr5
      go_wp2_with fail
      refine (equalInts_any [0, (n1 : Int) - 1] [0, (n1 : Int) - 1] _ _ _ _ _ _ _ hz6 rfl (by rw [← hz6]; simp) (by simp) (hr6.below (by (repeat' (first | (with_reducible exact Below.refl _ _) | (with_reducible assumption) | (with_reducible refine below_ext _ ?_ ?_) | (with_reducible refine Below.alloc ?_ ?_ _) | (with_reducible refine Below.drew ?_) | (with_reducible refine below_drewN ?_ _) | (with_reducible refine le_drewN _ ?_) | (with_reducible refine Below.setCell ?_ ?_ _) | (with_reducible exact Nat.le_refl _) | (with_reducible refine le_ext _ ?_) | (with_reducible refine le_alloc _ ?_) | (with_reducible refine le_setCell _ _ ?_) | (with_reducible refine le_drew ?_) | omega | (simp; done) | (simp; omega))))).ints (IntsAt.row (RowAt.ints w5 _ [0, (n1 : Int) - 1] _ rfl) (Nat.le_refl _))).mono ?_
      rintro e w6 ⟨rfl, hx7⟩
      have B6 := (B5.alloc B5.size _).trans ((ext_bel hx7).mono (le_alloc _ B5.size))
      clear hx7 hr6
      go_wp2_with fail
      go_ret
      exact ⟨by simp, B6⟩
  · have hd : decide ((1048576 : Int) < (n : Int)) = true := decide_eq_true (by omega)
    go_enter Try.func5, Try.ntmps5
    go_wp2
    go_ret
    exact ⟨rfl, (by (repeat' (first | (with_reducible exact Below.refl _ _) | (with_reducible assumption) | (with_reducible refine below_ext _ ?_ ?_) | (with_reducible refine Below.alloc ?_ ?_ _) | (with_reducible refine Below.drew ?_) | (with_reducible refine below_drewN ?_ _) | (with_reducible refine le_drewN _ ?_) | (with_reducible refine Below.setCell ?_ ?_ _) | (with_reducible exact Nat.le_refl _) | (with_reducible refine le_ext _ ?_) | (with_reducible refine le_alloc _ ?_) | (with_reducible refine le_setCell _ _ ?_) | (with_reducible refine le_drew ?_) | omega | (simp; done) | (simp; omega))))⟩
end Go.Proofs.Ytgeilljbmjajnaa
