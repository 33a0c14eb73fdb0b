
/- FnExactColorVertices: the law's walk. -/
import Derived.Test.YtelhidonhldjeaaGreatColV
import Derived.Test.YtelhidonhldjeaaGreatMarkN
import Derived.Test.YtelhidonhldjeaaGreatHelp
set_option linter.unusedVariables false
set_option linter.unusedSimpArgs false
namespace Go.Proofs.YtelhidonhldjeaaGreat
open Go.RowKit

set_option maxRecDepth 20000 in
set_option maxHeartbeats 4000000 in
theorem lawExCV (ps : List Pt) (ts : List TI) (A1 A2 : Option Addr) (n1 c1 n2 c2 : Nat) (w : World) (h1 : ps.length = n1) (h2 : ts.length = n2) (m1 : n1 ≤ 9223372036854775807) (m2 : n2 ≤ 9223372036854775807) (s1 : PtsAt w w.heap.size A1 ps) (s2 : TrisAt w w.heap.size A2 ts) :
    Calls Tryz.prog 4 #[.slice A1 n1 c1, .slice A2 n2 c2] w fun e w' => e = .returned (.bool true) ∧ Below w.heap.size w w' := by
  by_cases hle : n1 ≤ 1048576
  · by_cases hle2 : n2 ≤ 1048576 - n1
    · have k1 : n1 ≤ 2000000 := by omega
      have k2 : n2 ≤ 2000000 := by omega
      have T1 := hide (fun W (hb : Below w.heap.size w W) => toPointS_any ps A1 n1 c1 W h1 k1 (s1.to hb))
      have T2 := hide (fun W (hb : Below w.heap.size w W) => toTriS_any ts A2 n2 c2 W h2 k2 (s2.to hb))
      have SP := hide (fun (W : World) (a b : Nat) (ra : PtsAt W W.heap.size (some ⟨a, 0, none⟩) ps) (rb : TrisAt W W.heap.size (some ⟨b, 0, none⟩) ts) => sColV_any ps ts (some ⟨a, 0, none⟩) (some ⟨b, 0, none⟩) n1 n1 n2 n2 W h1 k1 h2 k2 ra rb)
      have IM := hide (fun (W : World) (a b : Nat) (ra : PtsAt W W.heap.size (some ⟨a, 0, none⟩) ps) (rb : TrisAt W W.heap.size (some ⟨b, 0, none⟩) ts) => iColV_any ps ts (some ⟨a, 0, none⟩) (some ⟨b, 0, none⟩) n1 n1 n2 n2 W h1 k1 Plain.some h2 k2 ra rb)
      generalize colV ps ts = LL at *
      have H1 := hide h1
      have H2 := hide h2
      clear h1 h2 s1 s2
      go_enter Tryz.func4, Tryz.ntmps4
      go_wp2_with (first | (go_at_call 8; refine (szPointS_yes _ _ _ _ _ (by omega) (by omega) (by omega) (by omega)).mono ?_; rintro e w' ⟨rfl, rfl⟩) | (go_at_call 9; refine (szTriS_yes _ _ _ _ _ (by omega) (by omega) (by omega) (by omega)).mono ?_; rintro e w' ⟨rfl, rfl⟩) | fail)
      refine (T1.out _ (Below.refl _ _)).mono ?_
      rintro e w1 ⟨g1, rfl, hg1, r1, hx1⟩
      have D1 := ext_bel hx1
      clear hx1
      go_wp2_with fail
      refine (T2.out _ D1).mono ?_
      rintro e w2 ⟨g2, rfl, hg2, r2, hx2⟩
      have D2 := ext_bel hx2
      have C2 := D1.trans (D2.mono D1.size)
      have r1b := r1.below D2 r1.lt
      clear hx2 r1
      go_wp2_with fail
      refine (SP.out _ g1 g2 (PtsAt.row r1b H1.out) (TrisAt.row r2 H2.out)).mono ?_
      rintro e w3 ⟨v3, rfl, own3, hx3⟩
      have C3 := hide (C2.trans ((ext_bel hx3).mono C2.size))
      obtain ⟨B3, n3, c3, rfl⟩ := own_slice own3
      obtain ⟨hz3, hnc3, hcm3, hi3⟩ := own3.ints
      clear hx3 r1b r2 own3
      go_wp2_with fail
      refine (T1.out _ C3.out).mono ?_
      rintro e w4 ⟨gx, rfl, hgx, rx, hx4⟩
      have E4 := ext_bel hx4
      clear hx4
      go_wp2_with fail
      refine (T2.out _ (C3.out.trans (E4.mono C3.out.size))).mono ?_
      rintro e w5 ⟨gz, rfl, hgz, rz, hx5⟩
      have D5 := ext_bel hx5
      have E5 := E4.trans (D5.mono E4.size)
      have rx5 := rx.below D5 rx.lt
      have lx := rx5.lt
      have lz := rz.lt
      have ne : gx ≠ gz := by have := rx.lt; omega
      clear hx5 rx
      go_wp2_with fail
      refine (IM.out _ gx gz (PtsAt.row rx5 H1.out) (TrisAt.row rz H2.out)).mono ?_
      rintro e w6 ⟨A6, n6, rfl, hz6, q6, hr6, hx6⟩
      have D6 := ext_bel hx6
      have E6 := E5.trans (D6.mono E5.size)
      have rx6 := rx5.below D6 rx5.lt
      have rz6 := rz.below D6 rz.lt
      clear hx6 rx5 rz
      go_wp2_with fail
      refine (eqIntS_any LL LL _ _ _ _ _ _ _ hz6 hz3 (by omega) (by omega) hr6.ints (hi3.to E6)).mono ?_
      rintro e w7 ⟨rfl, hx7⟩
      have D7 := ext_bel hx7
      have E7 := E6.trans (D7.mono E6.size)
      have rx7 := rx6.below D7 rx6.lt
      have rz7 := rz6.below D7 rz6.lt
      have hr7 := hr6.below D7
      clear hx7 rx6 rz6 hr6
      go_wp2_with fail
      refine (T1.out _ (C3.out.trans (E7.mono C3.out.size))).mono ?_
      rintro e w8 ⟨g8, rfl, hg8, r8, hx8⟩
      have D8 := ext_bel hx8
      have E8 := E7.trans (D8.mono E7.size)
      have rx8 := rx7.below D8 rx7.lt
      have rz8 := rz7.below D8 rz7.lt
      have hr8 := hr7.below D8
      clear hx8 rx7 rz7 hr7
      go_wp2_with fail
      refine (eqPointS_any ps ps _ _ _ _ _ _ _ H1.out H1.out (by omega) (by omega) (PtsAt.row rx8 H1.out) (PtsAt.row r8 H1.out)).mono ?_
      rintro e w9 ⟨rfl, hx9⟩
      have D9 := ext_bel hx9
      have E9 := E8.trans (D9.mono E8.size)
      have rx9 := rx8.below D9 rx8.lt
      have rz9 := rz8.below D9 rz8.lt
      have hr9 := hr8.below D9
      clear hx9 rx8 rz8 hr8 r8
      go_wp2_with fail
      refine (T2.out _ (C3.out.trans (E9.mono C3.out.size))).mono ?_
      rintro e w10 ⟨g10, rfl, hg10, r10, hx10⟩
      have D10 := ext_bel hx10
      have E10 := E9.trans (D10.mono E9.size)
      have rx10 := rx9.below D10 rx9.lt
      have rz10 := rz9.below D10 rz9.lt
      have hr10 := hr9.below D10
      clear hx10 rx9 rz9 hr9
      go_wp2_with fail
      refine (eqTriS_any ts ts _ _ _ _ _ _ _ H2.out H2.out (by omega) (by omega) (TrisAt.row rz10 H2.out) (TrisAt.row r10 H2.out)).mono ?_
      rintro e w11 ⟨rfl, hx11⟩
      have D11 := ext_bel hx11
      have E11 := E10.trans (D11.mono E10.size)
      have rx11 := rx10.below D11 rx10.lt
      have rz11 := rz10.below D11 rz10.lt
      have hr11 := hr10.below D11
      clear hx11 rx10 rz10 hr10 r10
      go_wp2_with fail
      refine (markPointS_row 1 gx n1 n1 _ _ _ (by omega) (Nat.le_refl _) (by omega) rx11).mono ?_
      rintro e w12 ⟨rfl, but12, _⟩
      have E12 := E11.trans (but12.below hgx)
      have rz12 := rz11.but but12 ne.symm
      have hr12 := hr11.but but12 lx
      clear rx11 rz11 hr11 but12
      go_wp2_with fail
      refine (markTriS_row _ gz n2 n2 _ _ _ ⟨by omega, by omega⟩ (Nat.le_refl _) (by omega) rz12).mono ?_
      rintro e w13 ⟨rfl, but13, _⟩
      have E13 := E12.trans (but13.below (B := w3.heap.size) (Nat.le_trans E4.size hgz))
      have hr13 := hr12.but but13 lz
      clear rz12 hr12 but13
      go_wp2_with fail
      refine (eqIntS_any LL LL _ _ _ _ _ _ _ hz6 hz3 (by omega) (by omega) hr13.ints (hi3.to E13)).mono ?_
      rintro e w14 ⟨rfl, hx14⟩
      have D14 := ext_bel hx14
      have E14 := E13.trans (D14.mono E13.size)
      have hr14 := hr13.below D14
      clear hx14 hr13
      go_wp2_with fail
      refine (markIntS_any _ _ _ w5.heap.size LL _ hz6 (by omega) hr14).mono ?_
      rintro e w15 ⟨rfl, hb15, hsz15, hm15⟩
      have E15 := E14.trans (hb15.mono E5.size)
      clear hr14 hsz15
      go_wp2_with fail
      refine (heldIntS_any _ _ _ w5.heap.size _ (by omega) hm15).mono ?_
      rintro e w16 ⟨rfl, hx16⟩
      have D16 := ext_bel hx16
      have E16 := E15.trans (D16.mono E15.size)
      have hm16 := hm15.below D16
      clear hx16 hm15
      go_wp2_with fail
      refine (T1.out _ (C3.out.trans (E16.mono C3.out.size))).mono ?_
      rintro e w17 ⟨g17, rfl, hg17, r17, hx17⟩
      have D17 := ext_bel hx17
      have E17 := E16.trans (D17.mono E16.size)
      have hm17 := hm16.below D17
      clear hx17 hm16
      go_wp2_with fail
      refine (T2.out _ (C3.out.trans (E17.mono C3.out.size))).mono ?_
      rintro e w18 ⟨g18, rfl, hg18, r18, hx18⟩
      have D18 := ext_bel hx18
      have E18 := E17.trans (D18.mono E17.size)
      have hm18 := hm17.below D18
      have r17b := r17.below D18 r17.lt
      clear hx18 hm17 r17
      go_wp2_with fail
      refine (IM.out _ g17 g18 (PtsAt.row r17b H1.out) (TrisAt.row r18 H2.out)).mono ?_
      rintro e w19 ⟨A19, n19, rfl, hz19, q19, hr19, hx19⟩
      have D19 := ext_bel hx19
      have E19 := E18.trans (D19.mono E18.size)
      have hm19 := hm18.below D19
      clear hx19 hm18 r17b r18
      go_wp2_with fail
      refine (eqIntS_any LL LL _ _ _ _ _ _ _ hz19 hz3 (by omega) (by omega) hr19.ints (hi3.to E19)).mono ?_
      rintro e w20 ⟨rfl, hx20⟩
      have D20 := ext_bel hx20
      have E20 := E19.trans (D20.mono E19.size)
      have hm20 := hm19.below D20
      clear hx20 hm19
      go_wp2_with fail
      refine (heldIntS_any _ _ _ w5.heap.size _ (by omega) hm20).mono ?_
      rintro e w21 ⟨rfl, hx21⟩
      have D21 := ext_bel hx21
      have E21 := E20.trans (D21.mono E20.size)
      clear hx21 hm20
      go_wp2_with fail
      go_ret
      exact ⟨rfl, C3.out.trans (E21.mono C3.out.size)⟩
    · go_enter Tryz.func4, Tryz.ntmps4
      go_wp2_with (first | (go_at_call 8; refine (szPointS_yes _ _ _ _ _ (by omega) (by omega) (by omega) (by omega)).mono ?_; rintro e w' ⟨rfl, rfl⟩) | (go_at_call 9; refine (szTriS_no _ _ _ _ _ (by omega) (by omega) (by omega) (by omega)).mono ?_; rintro e w' ⟨rfl, rfl⟩))
      go_ret
      exact ⟨rfl, (by (repeat' (first | (with_reducible exact Below.refl _ _) | (with_reducible assumption) | (with_reducible refine below_ext _ ?_ ?_) | (with_reducible refine Below.alloc ?_ ?_ _) | (with_reducible refine Below.drew ?_) | (with_reducible refine below_drewN ?_ _) | (with_reducible refine le_drewN _ ?_) | (with_reducible refine Below.setCell ?_ ?_ _) | (with_reducible exact Nat.le_refl _) | (with_reducible refine le_ext _ ?_) | (with_reducible refine le_alloc _ ?_) | (with_reducible refine le_setCell _ _ ?_) | (with_reducible refine le_drew ?_) | omega | (simp; done) | (simp; omega))))⟩
  · go_enter Tryz.func4, Tryz.ntmps4
    go_wp2_with (first | (go_at_call 8; refine (szPointS_no _ _ _ _ _ (by omega) (by omega) (by omega) (by omega)).mono ?_; rintro e w' ⟨rfl, rfl⟩))
    go_ret
    exact ⟨rfl, (by (repeat' (first | (with_reducible exact Below.refl _ _) | (with_reducible assumption) | (with_reducible refine below_ext _ ?_ ?_) | (with_reducible refine Below.alloc ?_ ?_ _) | (with_reducible refine Below.drew ?_) | (with_reducible refine below_drewN ?_ _) | (with_reducible refine le_drewN _ ?_) | (with_reducible refine Below.setCell ?_ ?_ _) | (with_reducible exact Nat.le_refl _) | (with_reducible refine le_ext _ ?_) | (with_reducible refine le_alloc _ ?_) | (with_reducible refine le_setCell _ _ ?_) | (with_reducible refine le_drew ?_) | omega | (simp; done) | (simp; omega))))⟩
end Go.Proofs.YtelhidonhldjeaaGreat
