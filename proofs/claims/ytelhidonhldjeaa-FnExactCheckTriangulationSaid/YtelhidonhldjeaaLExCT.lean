
/- FnExactCheckTriangulation: the law's walk. -/
import Derived.Test.YtelhidonhldjeaaChkTI
import Derived.Test.YtelhidonhldjeaaHelp
set_option linter.unusedVariables false
set_option linter.unusedSimpArgs false
namespace Go.Proofs.Ytelhidonhldjeaa
open Go.RowKit

set_option maxHeartbeats 400000 in
theorem iCheckTr_any (ps : List Pt) (ts : List TI) (A Z : Option Addr) (n c m d : Nat) (w : World) (hn : ps.length = n) (hm : n ≤ 2000000) (hA : Plain A n) (ht : ts.length = m) (hm2 : m ≤ 2000000) (hs : PtsAt w w.heap.size A ps) (hz : TrisAt w w.heap.size Z ts) :
    Calls Try.prog 42 #[.slice A n c, .slice Z m d] w fun e w' => e = .returned (.bool (chkT ps ts)) ∧ ∃ x, w' = ext w x := by
  have HC := hide (iCheckT_any ps ts A Z n c m d w hn hm hA ht hm2 hs hz)
  clear hn ht hs hz
  go_enter Try.func42, Try.ntmps42
  go_wp2_with fail
  refine HC.out.mono ?_
  rintro e w' ⟨rfl, hw'⟩; have hzy1 := ext_sz hw'; obtain ⟨y1, rfl⟩ := hw'; (try simp at hzy1)
  go_wp2_with fail
  go_ret
  exact ⟨rfl, (ext_mk (by (repeat' (first | (with_reducible exact Below.refl _ _) | (with_reducible assumption) | (with_reducible refine below_ext _ ?_ ?_) | (with_reducible refine Below.alloc ?_ ?_ _) | (with_reducible refine Below.drew ?_) | (with_reducible refine below_drewN ?_ _) | (with_reducible refine le_drewN _ ?_) | (with_reducible refine Below.setCell ?_ ?_ _) | (with_reducible exact Nat.le_refl _) | (with_reducible refine le_ext _ ?_) | (with_reducible refine le_alloc _ ?_) | (with_reducible refine le_setCell _ _ ?_) | (with_reducible refine le_drew ?_) | omega | (simp; done) | (simp; omega)))))⟩
set_option maxHeartbeats 2000000 in
theorem lawExCT (ps : List Pt) (ts : List TI) (A1 A2 : Option Addr) (n1 c1 n2 c2 : Nat) (w : World) (h1 : ps.length = n1) (h2 : ts.length = n2) (m1 : n1 ≤ 9223372036854775807) (m2 : n2 ≤ 9223372036854775807) (s1 : PtsAt w w.heap.size A1 ps) (s2 : TrisAt w w.heap.size A2 ts) :
    Calls Try.prog 9 #[.slice A1 n1 c1, .slice A2 n2 c2] w fun e w' => e = .returned (.bool true) ∧ Below w.heap.size w w' := by
  by_cases hle : n1 ≤ 1048576
  · by_cases hle2 : n2 ≤ 1048576 - n1
    · have k1 : n1 ≤ 2000000 := by omega
      have k2 : n2 ≤ 2000000 := by omega
      have T1 := hide (fun W (hb : Below w.heap.size w W) => toPointS_any ps A1 n1 c1 W h1 k1 (s1.to hb))
      have T2 := hide (fun W (hb : Below w.heap.size w W) => toTriS_any ts A2 n2 c2 W h2 k2 (s2.to hb))
      have SP := hide (fun (W : World) (a b : Nat) (ra : PtsAt W W.heap.size (some ⟨a, 0, none⟩) ps) (rb : TrisAt W W.heap.size (some ⟨b, 0, none⟩) ts) => sCheckT_any ps ts (some ⟨a, 0, none⟩) (some ⟨b, 0, none⟩) n1 n1 n2 n2 W h1 k1 h2 k2 ra rb)
      have IM := hide (fun (W : World) (a b : Nat) (ra : PtsAt W W.heap.size (some ⟨a, 0, none⟩) ps) (rb : TrisAt W W.heap.size (some ⟨b, 0, none⟩) ts) => iCheckTr_any ps ts (some ⟨a, 0, none⟩) (some ⟨b, 0, none⟩) n1 n1 n2 n2 W h1 k1 Plain.some h2 k2 ra rb)
      generalize chkT ps ts = V at *
      have V1 : (V != V) = false := by simp
      have H1 := hide h1
      have H2 := hide h2
      clear h1 h2 s1 s2
      go_enter Try.func9, Try.ntmps9
      go_wp2_with (first | (go_at_call 37; refine (szPointS_yes _ _ _ _ _ (by omega) (by omega) (by omega) (by omega)).mono ?_; rintro e w' ⟨rfl, rfl⟩) | (go_at_call 38; refine (szTriS_yes _ _ _ _ _ (by omega) (by omega) (by omega) (by omega)).mono ?_; rintro e w' ⟨rfl, rfl⟩) | fail)
      refine (T1.out _ (Below.refl _ _)).mono ?_
      rintro e w1 ⟨g1, rfl, hg1, r1, hx1⟩
      have D1 := ext_bel hx1
      have C1 := D1
      clear hx1
      go_wp2_with fail
      refine (T2.out _ C1).mono ?_
      rintro e w2 ⟨g2, rfl, hg2, r2, hx2⟩
      have D2 := ext_bel hx2
      have C2 := C1.trans (D2.mono C1.size)
      have r1b := r1.below D2 r1.lt
      clear hx2 r1
      go_wp2_with fail
      refine (SP.out _ g1 g2 (PtsAt.row r1b H1.out) (TrisAt.row r2 H2.out)).mono ?_
      rintro e w3 ⟨rfl, hx3⟩
      have D3 := ext_bel hx3
      have C3 := C2.trans (D3.mono C2.size)
      clear hx3 r1b r2
      go_wp2_with fail
      refine (T1.out _ C3).mono ?_
      rintro e w4 ⟨g4, rfl, hg4, r4, hx4⟩
      have D4 := ext_bel hx4
      have C4 := C3.trans (D4.mono C3.size)
      clear hx4
      go_wp2_with fail
      refine (T2.out _ C4).mono ?_
      rintro e w5 ⟨g5, rfl, hg5, r5, hx5⟩
      have D5 := ext_bel hx5
      have C5 := C4.trans (D5.mono C4.size)
      have r4b := r4.below D5 r4.lt
      clear hx5 r4
      go_wp2_with fail
      refine (IM.out _ g4 g5 (PtsAt.row r4b H1.out) (TrisAt.row r5 H2.out)).mono ?_
      rintro e w6 ⟨rfl, hx6⟩
      have D6 := ext_bel hx6
      have C6 := C5.trans (D6.mono C5.size)
      have r4c := r4b.below D6 r4b.lt
      have r5c := r5.below D6 r5.lt
      clear hx6 r4b r5
      go_wp2_with fail
      refine (T1.out _ C6).mono ?_
      rintro e w7 ⟨g7, rfl, hg7, r7, hx7⟩
      have D7 := ext_bel hx7
      have C7 := C6.trans (D7.mono C6.size)
      have r4d := r4c.below D7 r4c.lt
      have r5d := r5c.below D7 r5c.lt
      clear hx7 r4c r5c
      go_wp2_with fail
      refine (eqPointS_any ps ps _ _ _ _ _ _ _ H1.out H1.out (by omega) (by omega) (PtsAt.row r4d H1.out) (PtsAt.row r7 H1.out)).mono ?_
      rintro e w8 ⟨rfl, hx8⟩
      have D8 := ext_bel hx8
      have C8 := C7.trans (D8.mono C7.size)
      have r5e := r5d.below D8 r5d.lt
      have dt1 : decide (ps = ps) = true := decide_eq_true rfl
      clear hx8 r4d r7 r5d
      go_wp2_with fail
      refine (T2.out _ C8).mono ?_
      rintro e w9 ⟨g9, rfl, hg9, r9, hx9⟩
      have D9 := ext_bel hx9
      have C9 := C8.trans (D9.mono C8.size)
      have r5f := r5e.below D9 r5e.lt
      clear hx9 r5e
      go_wp2_with fail
      refine (eqTriS_any ts ts _ _ _ _ _ _ _ H2.out H2.out (by omega) (by omega) (TrisAt.row r5f H2.out) (TrisAt.row r9 H2.out)).mono ?_
      rintro e w10 ⟨rfl, hx10⟩
      have D10 := ext_bel hx10
      have C10 := C9.trans (D10.mono C9.size)
      have dt2 : decide (ts = ts) = true := decide_eq_true rfl
      clear hx10 r5f r9
      go_wp2_with fail
      go_ret
      exact ⟨rfl, C10⟩
    · go_enter Try.func9, Try.ntmps9
      go_wp2_with (first | (go_at_call 37; refine (szPointS_yes _ _ _ _ _ (by omega) (by omega) (by omega) (by omega)).mono ?_; rintro e w' ⟨rfl, rfl⟩) | (go_at_call 38; refine (szTriS_no _ _ _ _ _ (by omega) (by omega) (by omega) (by omega)).mono ?_; rintro e w' ⟨rfl, rfl⟩))
      go_ret
      exact ⟨rfl, (by (repeat' (first | (with_reducible exact Below.refl _ _) | (with_reducible assumption) | (with_reducible refine below_ext _ ?_ ?_) | (with_reducible refine Below.alloc ?_ ?_ _) | (with_reducible refine Below.drew ?_) | (with_reducible refine below_drewN ?_ _) | (with_reducible refine le_drewN _ ?_) | (with_reducible refine Below.setCell ?_ ?_ _) | (with_reducible exact Nat.le_refl _) | (with_reducible refine le_ext _ ?_) | (with_reducible refine le_alloc _ ?_) | (with_reducible refine le_setCell _ _ ?_) | (with_reducible refine le_drew ?_) | omega | (simp; done) | (simp; omega))))⟩
  · go_enter Try.func9, Try.ntmps9
    go_wp2_with (first | (go_at_call 37; refine (szPointS_no _ _ _ _ _ (by omega) (by omega) (by omega) (by omega)).mono ?_; rintro e w' ⟨rfl, rfl⟩))
    go_ret
    exact ⟨rfl, (by (repeat' (first | (with_reducible exact Below.refl _ _) | (with_reducible assumption) | (with_reducible refine below_ext _ ?_ ?_) | (with_reducible refine Below.alloc ?_ ?_ _) | (with_reducible refine Below.drew ?_) | (with_reducible refine below_drewN ?_ _) | (with_reducible refine le_drewN _ ?_) | (with_reducible refine Below.setCell ?_ ?_ _) | (with_reducible exact Nat.le_refl _) | (with_reducible refine le_ext _ ?_) | (with_reducible refine le_alloc _ ?_) | (with_reducible refine le_setCell _ _ ?_) | (with_reducible refine le_drew ?_) | omega | (simp; done) | (simp; omega))))⟩
end Go.Proofs.Ytelhidonhldjeaa
