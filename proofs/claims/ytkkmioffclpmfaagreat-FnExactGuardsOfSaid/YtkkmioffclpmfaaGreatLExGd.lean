
/- FnExactGuardsOf: the law's walk (printed by tools/genints.py). -/
import Derived.Test.YtkkmioffclpmfaaGreatGds
import Derived.Test.YtkkmioffclpmfaaGreatMarkN
import Derived.Test.YtkkmioffclpmfaaGreatHelp
set_option linter.unusedVariables false
set_option linter.unusedSimpArgs false
namespace Go.Proofs.YtkkmioffclpmfaaGreat
open Go.RowKit

set_option maxHeartbeats 2000000 in
theorem lawExGd (ps : List Pt) (A : Option Addr) (n c : Nat) (w : World) (hn : ps.length = n) (hm : n ≤ 9223372036854775807) (hs : PtsAt w w.heap.size A ps) :
    Calls Tryz.prog 8 #[.slice A n c] w fun e w' => e = .returned (.bool true) ∧ Below w.heap.size w w' := by
  by_cases hle : n ≤ 1048576
  · have hlz : (grdV ps).length ≤ 1000 := grdV_len ps
    obtain ⟨LL, hLL⟩ : ∃ LL, LL = grdV ps := ⟨_, rfl⟩
    have SP := hide (fun (W : World) (a : Nat) (ra : PtsAt W W.heap.size (some ⟨a, 0, none⟩) ps) => sGds_any ps (some ⟨a, 0, none⟩) n n W hn (by omega) ra)
    have IM := hide (fun (W : World) (a : Nat) (ra : PtsAt W W.heap.size (some ⟨a, 0, none⟩) ps) => iGds_any ps (some ⟨a, 0, none⟩) n n W hn (by omega) Plain.some ra)
    rw [← hLL] at SP IM hlz
    clear hLL
    go_enter Tryz.func8, Tryz.ntmps8
    go_wp2_with (first | (go_at_call 26; refine (szPointS_yes _ _ _ _ _ (by omega) (by omega) (by omega) (by omega)).mono ?_; rintro e w' ⟨rfl, rfl⟩) | fail)
    refine (toPointS_any ps _ _ _ _ hn (by omega) hs).mono ?_
    rintro e wa ⟨ga, rfl, hga, hra, hxa⟩
    have Ba := ext_bel hxa
    clear hxa
    go_wp2_with fail
    refine (SP.out _ ga (PtsAt.row hra hn)).mono ?_
    rintro e w1 ⟨v1, rfl, hown1, hx1⟩
    have B1 := Ba.trans ((ext_bel hx1).mono Ba.size)
    obtain ⟨A1, n1, c1, rfl⟩ := own_slice hown1
    obtain ⟨hz1, hnc1, hcm1, hi1⟩ := hown1.ints
    clear hx1 hown1 hra
    go_wp2_with fail
    refine (toPointS_any ps _ _ _ _ hn (by omega) (hs.to B1)).mono ?_
    rintro e w2 ⟨gx, rfl, hgx, hrx, hx2⟩
    have C2 := ext_bel hx2
    have l2 := hrx.lt
    clear hx2
    go_wp2_with fail
    refine (IM.out _ gx (PtsAt.row hrx hn)).mono ?_
    rintro e w3 ⟨A3, n3, rfl, hz3, hcm3, hr3, hx3⟩
    have D3 := ext_bel hx3
    have C3 := C2.trans (D3.mono C2.size)
    clear hx3
    go_wp2_with fail
    refine (eqIntS_any LL LL _ _ _ _ _ _ _ hz3 hz1 (by omega) (by omega) hr3.ints (hi1.to C3)).mono ?_
    rintro e w4 ⟨rfl, hx4⟩
    have D4 := ext_bel hx4
    have C4 := C3.trans (D4.mono C3.size)
    have hr4 := hr3.below D4
    have hrx4 := (hrx.below D3 l2).below D4 (Nat.lt_of_lt_of_le l2 D3.size)
    have l24 := Nat.le_trans D3.size D4.size
    clear hx4 hr3 hrx
    go_wp2_with fail
    refine (toPointS_any ps _ _ _ _ hn (by omega) (hs.to (B1.trans (C4.mono B1.size)))).mono ?_
    rintro e w5 ⟨g5, rfl, hg5, hr5, hx5⟩
    have D5 := ext_bel hx5
    have C5 := C4.trans (D5.mono C4.size)
    have hrx5 := hrx4.below D5 hrx4.lt
    clear hx5
    go_wp2_with fail
    refine (eqPointS_any ps ps _ _ _ _ _ _ _ hn hn (by omega) (by omega) (PtsAt.row hrx5 hn) (PtsAt.row hr5 hn)).mono ?_
    rintro e w6 ⟨rfl, hx6⟩
    have D6 := ext_bel hx6
    have C6 := C5.trans (D6.mono C5.size)
    have hrx6 := hrx5.below D6 hrx5.lt
    have hr6 := (hr4.below D5).below D6
    have l6 := Nat.le_trans (Nat.le_trans l24 D5.size) D6.size
    clear hx6 hr4 hrx4 hrx5 hr5
    go_wp2_with fail
    refine (markPointS_row 1 gx n n _ _ _ (by omega) (Nat.le_refl _) (by omega) hrx6).mono ?_
    rintro e w7 ⟨rfl, hbut, hrx7⟩
    have C7 := C6.trans ((hbut.below hgx).mono (Nat.le_refl _))
    have hr7 := hr6.but hbut l2
    have l7 : w2.heap.size ≤ w7.heap.size := Nat.le_trans l6 (Nat.le_of_eq hbut.size.symm)
    clear hrx7 hrx6 hr6 hbut
    go_wp2_with fail
    refine (eqIntS_any LL LL _ _ _ _ _ _ _ hz3 hz1 (by omega) (by omega) hr7.ints (hi1.to C7)).mono ?_
    rintro e w8 ⟨rfl, hx8⟩
    have D8 := ext_bel hx8
    have C8 := C7.trans (D8.mono C7.size)
    have hr8 := hr7.below D8
    have l8 := Nat.le_trans l7 D8.size
    clear hx8 hr7
    go_wp2_with fail
    refine (markIntS_any _ _ _ w2.heap.size LL _ hz3 (by omega) hr8).mono ?_
    rintro e w9 ⟨rfl, hb9, hsz9, hm9⟩
    have C9 := C8.trans (hb9.mono C2.size)
    have l9 : w2.heap.size ≤ w9.heap.size := Nat.le_trans l8 (Nat.le_of_eq hsz9.symm)
    clear hr8 hsz9
    go_wp2_with fail
    refine (heldIntS_any _ _ _ w2.heap.size _ (by omega) hm9).mono ?_
    rintro e w10 ⟨rfl, hx10⟩
    have D10 := ext_bel hx10
    have C10 := C9.trans (D10.mono C9.size)
    have hm10 := hm9.below D10
    clear hx10 hm9
    go_wp2_with fail
    refine (toPointS_any ps _ _ _ _ hn (by omega) (hs.to (B1.trans (C10.mono B1.size)))).mono ?_
    rintro e w11 ⟨g11, rfl, hg11, hr11, hx11⟩
    have D11 := ext_bel hx11
    have C11 := C10.trans (D11.mono C10.size)
    have hm11 := hm10.below D11
    clear hx11 hm10
    go_wp2_with fail
    refine (IM.out _ g11 (PtsAt.row hr11 hn)).mono ?_
    rintro e w12 ⟨A12, n12, rfl, hz12, hcm12, hr12, hx12⟩
    have D12 := ext_bel hx12
    have C12 := C11.trans (D12.mono C11.size)
    have hm12 := hm11.below D12
    clear hx12 hm11 hr11
    go_wp2_with fail
    refine (eqIntS_any LL LL _ _ _ _ _ _ _ hz12 hz1 (by omega) (by omega) hr12.ints (hi1.to C12)).mono ?_
    rintro e w13 ⟨rfl, hx13⟩
    have D13 := ext_bel hx13
    have C13 := C12.trans (D13.mono C12.size)
    have hm13 := hm12.below D13
    clear hx13 hm12
    go_wp2_with fail
    refine (heldIntS_any _ _ _ w2.heap.size _ (by omega) hm13).mono ?_
    rintro e w14 ⟨rfl, hx14⟩
    have D14 := ext_bel hx14
    have C14 := C13.trans (D14.mono C13.size)
    clear hx14 hm13
    go_wp2_with fail
    go_ret
    exact ⟨rfl, B1.trans (C14.mono B1.size)⟩
  · go_enter Tryz.func8, Tryz.ntmps8
    go_wp2_with (first | (go_at_call 26; refine (szPointS_no _ _ _ _ _ (by omega) (by omega) (by omega) (by omega)).mono ?_; rintro e w' ⟨rfl, rfl⟩))
    go_ret
    exact ⟨rfl, (by (repeat' (first | (with_reducible exact Below.refl _ _) | (with_reducible assumption) | (with_reducible refine below_ext _ ?_ ?_) | (with_reducible refine Below.alloc ?_ ?_ _) | (with_reducible refine Below.drew ?_) | (with_reducible refine below_drewN ?_ _) | (with_reducible refine le_drewN _ ?_) | (with_reducible refine Below.setCell ?_ ?_ _) | (with_reducible exact Nat.le_refl _) | (with_reducible refine le_ext _ ?_) | (with_reducible refine le_alloc _ ?_) | (with_reducible refine le_setCell _ _ ?_) | (with_reducible refine le_drew ?_) | omega | (simp; done) | (simp; omega))))⟩
end Go.Proofs.YtkkmioffclpmfaaGreat
