
/- FnExactCheckGuards: the law's walk. -/
import Derived.Test.YtelhidonhldjeaaGreatGrd
import Derived.Test.YtelhidonhldjeaaGreatHelp
set_option linter.unusedVariables false
set_option linter.unusedSimpArgs false
namespace Go.Proofs.YtelhidonhldjeaaGreat
open Go.RowKit

set_option maxRecDepth 20000 in
set_option maxHeartbeats 4000000 in
theorem lawExGr (ps : List Pt) (ts : List TI) (gs : List Int) (A1 A2 A3 : Option Addr) (n1 c1 n2 c2 n3 c3 : Nat) (w : World) (h1 : ps.length = n1) (h2 : ts.length = n2) (h3 : gs.length = n3) (m1 : n1 ≤ 9223372036854775807) (m2 : n2 ≤ 9223372036854775807) (m3 : n3 ≤ 9223372036854775807) (s1 : PtsAt w w.heap.size A1 ps) (s2 : TrisAt w w.heap.size A2 ts) (s3 : IntsAt w w.heap.size A3 gs) :
    Calls Tryz.prog 3 #[.slice A1 n1 c1, .slice A2 n2 c2, .slice A3 n3 c3] w fun e w' => e = .returned (.bool true) ∧ Below w.heap.size w w' := by
  by_cases hle3 : n3 ≤ 1048576
  · have hd : decide ((1048576 : Int) < (n3 : Int)) = false := decide_eq_false (by omega)
    by_cases hle : n1 ≤ 1048576
    · by_cases hle2 : n2 ≤ 1048576 - n1
      · have k1 : n1 ≤ 2000000 := by omega
        have k2 : n2 ≤ 2000000 := by omega
        have k3 : n3 ≤ 2000000 := by omega
        have T1 := hide (fun W (hb : Below w.heap.size w W) => toPointS_any ps A1 n1 c1 W h1 k1 (s1.to hb))
        have T2 := hide (fun W (hb : Below w.heap.size w W) => toTriS_any ts A2 n2 c2 W h2 k2 (s2.to hb))
        have T3 := hide (fun W (hb : Below w.heap.size w W) => toIntS_any gs A3 n3 c3 W h3 k3 (s3.to hb))
        have SP := hide (fun (W : World) (a b g : Nat) (ra : PtsAt W W.heap.size (some ⟨a, 0, none⟩) ps) (rb : TrisAt W W.heap.size (some ⟨b, 0, none⟩) ts) (rg : IntsAt W W.heap.size (some ⟨g, 0, none⟩) gs) => sGrd_any ps ts gs (some ⟨a, 0, none⟩) (some ⟨b, 0, none⟩) (some ⟨g, 0, none⟩) n1 n1 n2 n2 n3 n3 W h1 k1 h2 k2 h3 k3 ra rb rg)
        have IM := hide (fun (W : World) (a b g : Nat) (ra : PtsAt W W.heap.size (some ⟨a, 0, none⟩) ps) (rb : TrisAt W W.heap.size (some ⟨b, 0, none⟩) ts) (rg : IntsAt W W.heap.size (some ⟨g, 0, none⟩) gs) => iGrd_any ps ts gs (some ⟨a, 0, none⟩) (some ⟨b, 0, none⟩) (some ⟨g, 0, none⟩) n1 n1 n2 n2 n3 n3 W h1 k1 Plain.some h2 k2 h3 k3 ra rb rg)
        generalize grdB ps ts gs = V at *
        have V1 : (V != V) = false := by simp
        have H1 := hide h1
        have H2 := hide h2
        have H3 := hide h3
        clear h1 h2 h3 s1 s2 s3
        go_enter Tryz.func3, Tryz.ntmps3
        go_wp2_with (first | (go_at_call 8; refine (szPointS_yes _ _ _ _ _ (by omega) (by omega) (by omega) (by omega)).mono ?_; rintro e w' ⟨rfl, rfl⟩) | (go_at_call 9; refine (szTriS_yes _ _ _ _ _ (by omega) (by omega) (by omega) (by omega)).mono ?_; rintro e w' ⟨rfl, rfl⟩) | fail)
        refine (T1.out _ (Below.refl _ _)).mono ?_
        rintro e w1 ⟨g1, rfl, hg1, r1, hx1⟩
        have D1 := ext_bel hx1
        have C1 := D1
        clear hx1
        go_wp2_with fail
        refine (T2.out _ C1).mono ?_
        rintro e w2 ⟨g2, rfl, hg2, r2, hx2⟩
        have D2 := ext_bel hx2
        have C2 := C1.trans (D2.mono C1.size)
        have r1b := r1.below D2 r1.lt
        clear hx2 r1
        go_wp2_with fail
        refine (T3.out _ C2).mono ?_
        rintro e w3 ⟨g3, rfl, hg3, r3, hx3⟩
        have D3 := ext_bel hx3
        have C3 := C2.trans (D3.mono C2.size)
        have r1c := r1b.below D3 r1b.lt
        have r2c := r2.below D3 r2.lt
        clear hx3 r1b r2
        go_wp2_with fail
        refine (SP.out _ g1 g2 g3 (PtsAt.row r1c H1.out) (TrisAt.row r2c H2.out) (IntsAt.row r3 (by rw [H3.out]; omega))).mono ?_
        rintro e w4 ⟨rfl, hx4⟩
        have D4 := ext_bel hx4
        have C4 := C3.trans (D4.mono C3.size)
        clear hx4 r1c r2c r3
        go_wp2_with fail
        refine (T1.out _ C4).mono ?_
        rintro e w5 ⟨g5, rfl, hg5, r5, hx5⟩
        have D5 := ext_bel hx5
        have C5 := C4.trans (D5.mono C4.size)
        clear hx5
        go_wp2_with fail
        refine (T2.out _ C5).mono ?_
        rintro e w6 ⟨g6, rfl, hg6, r6, hx6⟩
        have D6 := ext_bel hx6
        have C6 := C5.trans (D6.mono C5.size)
        have r5b := r5.below D6 r5.lt
        clear hx6 r5
        go_wp2_with fail
        refine (T3.out _ C6).mono ?_
        rintro e w7 ⟨g7, rfl, hg7, r7, hx7⟩
        have D7 := ext_bel hx7
        have C7 := C6.trans (D7.mono C6.size)
        have r5c := r5b.below D7 r5b.lt
        have r6c := r6.below D7 r6.lt
        clear hx7 r5b r6
        go_wp2_with fail
        refine (IM.out _ g5 g6 g7 (PtsAt.row r5c H1.out) (TrisAt.row r6c H2.out) (IntsAt.row r7 (by rw [H3.out]; omega))).mono ?_
        rintro e w8 ⟨rfl, hx8⟩
        have D8 := ext_bel hx8
        have C8 := C7.trans (D8.mono C7.size)
        have r5d := r5c.below D8 r5c.lt
        have r6d := r6c.below D8 r6c.lt
        have r7d := r7.below D8 r7.lt
        clear hx8 r5c r6c r7
        go_wp2_with fail
        refine (T1.out _ C8).mono ?_
        rintro e w9 ⟨g9, rfl, hg9, r9, hx9⟩
        have D9 := ext_bel hx9
        have C9 := C8.trans (D9.mono C8.size)
        have r5e := r5d.below D9 r5d.lt
        have r6e := r6d.below D9 r6d.lt
        have r7e := r7d.below D9 r7d.lt
        clear hx9 r5d r6d r7d
        go_wp2_with fail
        refine (eqPointS_any ps ps _ _ _ _ _ _ _ H1.out H1.out (by omega) (by omega) (PtsAt.row r5e H1.out) (PtsAt.row r9 H1.out)).mono ?_
        rintro e w10 ⟨rfl, hx10⟩
        have D10 := ext_bel hx10
        have C10 := C9.trans (D10.mono C9.size)
        have r6f := r6e.below D10 r6e.lt
        have r7f := r7e.below D10 r7e.lt
        have dt1 : decide (ps = ps) = true := decide_eq_true rfl
        clear hx10 r5e r9 r6e r7e
        go_wp2_with fail
        refine (T2.out _ C10).mono ?_
        rintro e w11 ⟨g11, rfl, hg11, r11, hx11⟩
        have D11 := ext_bel hx11
        have C11 := C10.trans (D11.mono C10.size)
        have r6g := r6f.below D11 r6f.lt
        have r7g := r7f.below D11 r7f.lt
        clear hx11 r6f r7f
        go_wp2_with fail
        refine (eqTriS_any ts ts _ _ _ _ _ _ _ H2.out H2.out (by omega) (by omega) (TrisAt.row r6g H2.out) (TrisAt.row r11 H2.out)).mono ?_
        rintro e w12 ⟨rfl, hx12⟩
        have D12 := ext_bel hx12
        have C12 := C11.trans (D12.mono C11.size)
        have r7h := r7g.below D12 r7g.lt
        have dt2 : decide (ts = ts) = true := decide_eq_true rfl
        clear hx12 r6g r11 r7g
        go_wp2_with fail
        refine (T3.out _ C12).mono ?_
        rintro e w13 ⟨g13, rfl, hg13, r13, hx13⟩
        have D13 := ext_bel hx13
        have C13 := C12.trans (D13.mono C12.size)
        have r7i := r7h.below D13 r7h.lt
        clear hx13 r7h
        go_wp2_with fail
        refine (eqIntS_any gs gs _ _ _ _ _ _ _ H3.out H3.out (by omega) (by omega) (IntsAt.row r7i (by rw [H3.out]; omega)) (IntsAt.row r13 (by rw [H3.out]; omega))).mono ?_
        rintro e w14 ⟨rfl, hx14⟩
        have D14 := ext_bel hx14
        have C14 := C13.trans (D14.mono C13.size)
        have dt3 : decide (gs = gs) = true := decide_eq_true rfl
        clear hx14 r7i r13
        go_wp2_with fail
        go_ret
        exact ⟨rfl, C14⟩
      · go_enter Tryz.func3, Tryz.ntmps3
        go_wp2_with (first | (go_at_call 8; refine (szPointS_yes _ _ _ _ _ (by omega) (by omega) (by omega) (by omega)).mono ?_; rintro e w' ⟨rfl, rfl⟩) | (go_at_call 9; refine (szTriS_no _ _ _ _ _ (by omega) (by omega) (by omega) (by omega)).mono ?_; rintro e w' ⟨rfl, rfl⟩))
        go_ret
        exact ⟨rfl, (by (repeat' (first | (with_reducible exact Below.refl _ _) | (with_reducible assumption) | (with_reducible refine below_ext _ ?_ ?_) | (with_reducible refine Below.alloc ?_ ?_ _) | (with_reducible refine Below.drew ?_) | (with_reducible refine below_drewN ?_ _) | (with_reducible refine le_drewN _ ?_) | (with_reducible refine Below.setCell ?_ ?_ _) | (with_reducible exact Nat.le_refl _) | (with_reducible refine le_ext _ ?_) | (with_reducible refine le_alloc _ ?_) | (with_reducible refine le_setCell _ _ ?_) | (with_reducible refine le_drew ?_) | omega | (simp; done) | (simp; omega))))⟩
    · go_enter Tryz.func3, Tryz.ntmps3
      go_wp2_with (first | (go_at_call 8; refine (szPointS_no _ _ _ _ _ (by omega) (by omega) (by omega) (by omega)).mono ?_; rintro e w' ⟨rfl, rfl⟩))
      go_ret
      exact ⟨rfl, (by (repeat' (first | (with_reducible exact Below.refl _ _) | (with_reducible assumption) | (with_reducible refine below_ext _ ?_ ?_) | (with_reducible refine Below.alloc ?_ ?_ _) | (with_reducible refine Below.drew ?_) | (with_reducible refine below_drewN ?_ _) | (with_reducible refine le_drewN _ ?_) | (with_reducible refine Below.setCell ?_ ?_ _) | (with_reducible exact Nat.le_refl _) | (with_reducible refine le_ext _ ?_) | (with_reducible refine le_alloc _ ?_) | (with_reducible refine le_setCell _ _ ?_) | (with_reducible refine le_drew ?_) | omega | (simp; done) | (simp; omega))))⟩
  · have hd : decide ((1048576 : Int) < (n3 : Int)) = true := decide_eq_true (by omega)
    go_enter Tryz.func3, Tryz.ntmps3
    go_wp2
    go_ret
    exact ⟨rfl, (by (repeat' (first | (with_reducible exact Below.refl _ _) | (with_reducible assumption) | (with_reducible refine below_ext _ ?_ ?_) | (with_reducible refine Below.alloc ?_ ?_ _) | (with_reducible refine Below.drew ?_) | (with_reducible refine below_drewN ?_ _) | (with_reducible refine le_drewN _ ?_) | (with_reducible refine Below.setCell ?_ ?_ _) | (with_reducible exact Nat.le_refl _) | (with_reducible refine le_ext _ ?_) | (with_reducible refine le_alloc _ ?_) | (with_reducible refine le_setCell _ _ ?_) | (with_reducible refine le_drew ?_) | omega | (simp; done) | (simp; omega))))⟩
end Go.Proofs.YtelhidonhldjeaaGreat
