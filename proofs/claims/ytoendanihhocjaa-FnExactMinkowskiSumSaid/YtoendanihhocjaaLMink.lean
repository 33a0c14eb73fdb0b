
/- FnExactMinkowskiSum: the law's walk. -/
import Derived.Test.YtoendanihhocjaaMink
import Derived.Test.YtoendanihhocjaaMarkP
set_option linter.unusedVariables false
set_option linter.unusedSimpArgs false
namespace Go.Proofs.Ytoendanihhocjaa
open Go.RowKit

set_option maxHeartbeats 4000000 in
theorem lawMink (ps qs : List Pt) (A1 A2 : Option Addr) (n1 c1 n2 c2 : Nat) (w : World) (h1 : ps.length = n1) (h2 : qs.length = n2) (m1 : n1 ≤ 9223372036854775807) (m2 : n2 ≤ 9223372036854775807) (s1 : PtsAt w w.heap.size A1 ps) (s2 : PtsAt w w.heap.size A2 qs) :
    Calls Try.prog 4 #[.slice A1 n1 c1, .slice A2 n2 c2] w fun e w' => e = .returned (.bool true) ∧ Below w.heap.size w w' := by
  by_cases hle : n1 ≤ 1048576
  · by_cases hle2 : n2 ≤ 1048576 - n1
    · have k1 : n1 ≤ 2000000 := by omega
      have k2 : n2 ≤ 2000000 := by omega
      have T1 := hide (fun W (hb : Below w.heap.size w W) => toPointS_any ps A1 n1 c1 W h1 k1 (s1.to hb))
      have T2 := hide (fun W (hb : Below w.heap.size w W) => toPointS_any qs A2 n2 c2 W h2 k2 (s2.to hb))
      have SP := hide (fun (W : World) (a b : Nat) (ra : PtsAt W W.heap.size (some ⟨a, 0, none⟩) ps) (rb : PtsAt W W.heap.size (some ⟨b, 0, none⟩) qs) => sMink_any ps qs (some ⟨a, 0, none⟩) (some ⟨b, 0, none⟩) n1 n1 n2 n2 W h1 h2 k1 k2 ra rb)
      have IM := hide (fun (W : World) (a b : Nat) (ra : PtsAt W W.heap.size (some ⟨a, 0, none⟩) ps) (rb : PtsAt W W.heap.size (some ⟨b, 0, none⟩) qs) => iMink_any ps qs (some ⟨a, 0, none⟩) (some ⟨b, 0, none⟩) n1 n1 n2 n2 W h1 h2 k1 k2 ra rb)
      have LM : (minkOf ps qs).1.length ≤ 1000 := by
        by_cases hB : bothL ps qs = true
        · have z := (sums_20 hB).2.2.1
          have := hullOf_len' (sumsL ps qs)
          unfold minkOf
          split
          · show (hullOf (sumsL ps qs)).length ≤ 1000; omega
          · exact Nat.zero_le _
        · rw [minkOf_no (eq_false_of_ne_true hB)]; exact Nat.zero_le _
      generalize (minkOf ps qs).1 = L at *
      generalize (minkOf ps qs).2 = V at *
      have H1 := hide h1
      have H2 := hide h2
      clear h1 h2 s1 s2
      go_enter Try.func4, Try.ntmps4
      go_wp2_with (first | (go_at_call 19; refine (szPointS_yes _ _ _ _ _ (by omega) (by omega) (by omega) (by omega)).mono ?_; rintro e w' ⟨rfl, rfl⟩) | fail)
      refine (T1.out _ (Below.refl _ _)).mono ?_
      rintro e w1 ⟨g1, rfl, hg1, r1, hx1⟩
      have D1 := ext_bel hx1
      have C1 := D1
      clear hx1
      go_wp2_with fail
      refine (T2.out _ C1).mono ?_
      rintro e w2 ⟨g2, rfl, hg2, r2, hx2⟩
      have D2 := ext_bel hx2
      have C2 := C1.trans (D2.mono C1.size)
      have r1b := r1.below D2 r1.lt
      clear hx2 r1
      go_wp2_with fail
      refine (SP.out _ g1 g2 (PtsAt.row r1b H1.out) (PtsAt.row r2 H2.out)).mono ?_
      rintro e w3 ⟨v3, rfl, own3, hx3⟩
      have D3 := ext_bel hx3
      have C3 := C2.trans (D3.mono C2.size)
      obtain ⟨A3, n3, c3, rfl⟩ := own3.slice
      have l3 := own3.pts.1
      have p3 := own3.pts.2.2.2
      clear hx3 own3 r1b r2
      have F3 := Below.refl w3.heap.size w3
      go_wp2_with fail
      refine (T1.out _ C3).mono ?_
      rintro e w4 ⟨g4, rfl, hg4, rw4, hx4⟩
      have E4 := ext_bel hx4
      clear hx4
      have hgF4 := Nat.le_trans F3.size hg4
      have ltw4 := rw4.lt
      have F4 := F3.trans (E4.mono F3.size)
      have C4 := C3.trans (F4.mono C3.size)
      go_wp2_with fail
      refine (T2.out _ C4).mono ?_
      rintro e w5 ⟨g5, rfl, hg5, rw5, hx5⟩
      have E5 := ext_bel hx5
      clear hx5
      have hgF5 := Nat.le_trans F4.size hg5
      have ltw5 := rw5.lt
      have x4_5 := rw4.below E5 rw4.lt
      clear rw4
      have F5 := F4.trans (E5.mono F4.size)
      have C5 := C3.trans (F5.mono C3.size)
      have lt4 := x4_5.lt
      have lt5 := rw5.lt
      go_wp2_with fail
      refine (IM.out _ g4 g5 (PtsAt.row x4_5 H1.out) (PtsAt.row rw5 H2.out)).mono ?_
      rintro e w6 ⟨A6, n6, c6, rfl, l6, q6, qb6, pr6, pl6, hx6⟩
      have E6 := ext_bel hx6
      clear hx6
      have hgF6 := F5.size
      have x4_6 := x4_5.below E6 x4_5.lt
      clear x4_5
      have x5_6 := rw5.below E6 rw5.lt
      clear rw5
      have F6 := F5.trans (E6.mono F5.size)
      have C6 := C3.trans (F6.mono C3.size)
      go_wp2_with fail
      refine (eqPointS_any L L _ _ _ _ _ _ _ l6 l3 (by omega) (by omega) pr6.pts (p3.to F6)).mono ?_
      rintro e w7 ⟨rfl, hx7⟩
      have E7 := ext_bel hx7
      clear hx7
      have x4_7 := x4_6.below E7 x4_6.lt
      clear x4_6
      have x5_7 := x5_6.below E7 x5_6.lt
      clear x5_6
      have p6_7 := pr6.below E7
      clear pr6
      have F7 := F6.trans (E7.mono F6.size)
      have C7 := C3.trans (F7.mono C3.size)
      go_wp2_with fail
      refine (T1.out _ C7).mono ?_
      rintro e w8 ⟨g8, rfl, hg8, rw8, hx8⟩
      have E8 := ext_bel hx8
      clear hx8
      have hgF8 := Nat.le_trans F7.size hg8
      have ltw8 := rw8.lt
      have x4_8 := x4_7.below E8 x4_7.lt
      clear x4_7
      have x5_8 := x5_7.below E8 x5_7.lt
      clear x5_7
      have p6_8 := p6_7.below E8
      clear p6_7
      have F8 := F7.trans (E8.mono F7.size)
      have C8 := C3.trans (F8.mono C3.size)
      go_wp2_with fail
      refine (eqPointS_any ps ps _ _ _ _ _ _ _ H1.out H1.out k1 k1 (PtsAt.row x4_8 H1.out) (PtsAt.row rw8 H1.out)).mono ?_
      rintro e w9 ⟨rfl, hx9⟩
      have E9 := ext_bel hx9
      clear hx9
      clear rw8
      have x4_9 := x4_8.below E9 x4_8.lt
      clear x4_8
      have x5_9 := x5_8.below E9 x5_8.lt
      clear x5_8
      have p6_9 := p6_8.below E9
      clear p6_8
      have F9 := F8.trans (E9.mono F8.size)
      have C9 := C3.trans (F9.mono C3.size)
      go_wp2_with fail
      refine (T2.out _ C9).mono ?_
      rintro e w10 ⟨g10, rfl, hg10, rw10, hx10⟩
      have E10 := ext_bel hx10
      clear hx10
      have hgF10 := Nat.le_trans F9.size hg10
      have ltw10 := rw10.lt
      have x4_10 := x4_9.below E10 x4_9.lt
      clear x4_9
      have x5_10 := x5_9.below E10 x5_9.lt
      clear x5_9
      have p6_10 := p6_9.below E10
      clear p6_9
      have F10 := F9.trans (E10.mono F9.size)
      have C10 := C3.trans (F10.mono C3.size)
      go_wp2_with fail
      refine (eqPointS_any qs qs _ _ _ _ _ _ _ H2.out H2.out k2 k2 (PtsAt.row x5_10 H2.out) (PtsAt.row rw10 H2.out)).mono ?_
      rintro e w11 ⟨rfl, hx11⟩
      have E11 := ext_bel hx11
      clear hx11
      clear rw10
      have x4_11 := x4_10.below E11 x4_10.lt
      clear x4_10
      have x5_11 := x5_10.below E11 x5_10.lt
      clear x5_10
      have p6_11 := p6_10.below E11
      clear p6_10
      have F11 := F10.trans (E11.mono F10.size)
      have C11 := C3.trans (F11.mono C3.size)
      go_wp2_with fail
      refine (markPointS_row _ g4 n1 n1 _ _ _ (by omega) (Nat.le_refl _) (by omega) x4_11).mono ?_
      rintro e w12 ⟨rfl, but12, rm12⟩
      have x5_12 := x5_11.but but12 (by omega)
      clear x5_11
      have p6_12 := p6_11.but but12 lt4
      clear p6_11
      have F12 := F11.trans (but12.below hgF4)
      have C12 := C3.trans (F12.mono C3.size)
      clear rm12 x4_11
      go_wp2_with fail
      refine (markPointS_row _ g5 n2 n2 _ _ _ (by omega) (Nat.le_refl _) (by omega) x5_12).mono ?_
      rintro e w13 ⟨rfl, but13, rm13⟩
      have p6_13 := p6_12.but but13 lt5
      clear p6_12
      have F13 := F12.trans (but13.below hgF5)
      have C13 := C3.trans (F13.mono C3.size)
      clear rm13 x5_12
      go_wp2_with fail
      refine (eqPointS_any L L _ _ _ _ _ _ _ l6 l3 (by omega) (by omega) p6_13.pts (p3.to F13)).mono ?_
      rintro e w14 ⟨rfl, hx14⟩
      have E14 := ext_bel hx14
      clear hx14
      have p6_14 := p6_13.below E14
      clear p6_13
      have F14 := F13.trans (E14.mono F13.size)
      have C14 := C3.trans (F14.mono C3.size)
      go_wp2_with fail
      refine (markPointS_any _ _ _ w5.heap.size L _ l6 (by omega) p6_14).mono ?_
      rintro e w15 ⟨rfl, hb15, hsz15, hm15⟩
      have F15 := F14.trans (hb15.mono F5.size)
      have C15 := C3.trans (F15.mono C3.size)
      clear p6_14
      go_wp2_with fail
      refine (heldPointS_any _ _ _ w5.heap.size _ (by omega) hm15).mono ?_
      rintro e w16 ⟨rfl, hx16⟩
      have E16 := ext_bel hx16
      clear hx16
      have m_16 := hm15.below E16
      clear hm15
      have F16 := F15.trans (E16.mono F15.size)
      have C16 := C3.trans (F16.mono C3.size)
      go_wp2_with fail
      refine (T1.out _ C16).mono ?_
      rintro e w17 ⟨g17, rfl, hg17, rw17, hx17⟩
      have E17 := ext_bel hx17
      clear hx17
      have hgF17 := Nat.le_trans F16.size hg17
      have ltw17 := rw17.lt
      have m_17 := m_16.below E17
      clear m_16
      have F17 := F16.trans (E17.mono F16.size)
      have C17 := C3.trans (F17.mono C3.size)
      go_wp2_with fail
      refine (T2.out _ C17).mono ?_
      rintro e w18 ⟨g18, rfl, hg18, rw18, hx18⟩
      have E18 := ext_bel hx18
      clear hx18
      have hgF18 := Nat.le_trans F17.size hg18
      have ltw18 := rw18.lt
      have m_18 := m_17.below E18
      clear m_17
      have x17_18 := rw17.below E18 rw17.lt
      clear rw17
      have F18 := F17.trans (E18.mono F17.size)
      have C18 := C3.trans (F18.mono C3.size)
      go_wp2_with fail
      refine (IM.out _ g17 g18 (PtsAt.row x17_18 H1.out) (PtsAt.row rw18 H2.out)).mono ?_
      rintro e w19 ⟨A19, n19, c19, rfl, l19, q19, qb19, pr19, pl19, hx19⟩
      have E19 := ext_bel hx19
      clear hx19
      have hgF19 := F18.size
      have m_19 := m_18.below E19
      clear m_18
      have x17_19 := x17_18.below E19 x17_18.lt
      clear x17_18
      have x18_19 := rw18.below E19 rw18.lt
      clear rw18
      have F19 := F18.trans (E19.mono F18.size)
      have C19 := C3.trans (F19.mono C3.size)
      go_wp2_with fail
      refine (eqPointS_any L L _ _ _ _ _ _ _ l19 l3 (by omega) (by omega) pr19.pts (p3.to F19)).mono ?_
      rintro e w20 ⟨rfl, hx20⟩
      have E20 := ext_bel hx20
      clear hx20
      have m_20 := m_19.below E20
      clear m_19
      have x17_20 := x17_19.below E20 x17_19.lt
      clear x17_19
      have x18_20 := x18_19.below E20 x18_19.lt
      clear x18_19
      have p19_20 := pr19.below E20
      clear pr19
      have F20 := F19.trans (E20.mono F19.size)
      have C20 := C3.trans (F20.mono C3.size)
      go_wp2_with fail
      refine (heldPointS_any _ _ _ w5.heap.size _ (by omega) m_20).mono ?_
      rintro e w21 ⟨rfl, hx21⟩
      have E21 := ext_bel hx21
      clear hx21
      have m_21 := m_20.below E21
      clear m_20
      have x17_21 := x17_20.below E21 x17_20.lt
      clear x17_20
      have x18_21 := x18_20.below E21 x18_20.lt
      clear x18_20
      have p19_21 := p19_20.below E21
      clear p19_20
      have F21 := F20.trans (E21.mono F20.size)
      have C21 := C3.trans (F21.mono C3.size)
      go_wp2_with fail
      go_ret
      exact ⟨rfl, C21⟩
    · go_enter Try.func4, Try.ntmps4
      go_wp2_with (first | (go_at_call 19; first | (refine (szPointS_yes _ _ _ _ _ (by omega) (by omega) (by omega) (by omega)).mono ?_; rintro e w' ⟨rfl, rfl⟩) | (refine (szPointS_no _ _ _ _ _ (by omega) (by omega) (by omega) (by omega)).mono ?_; rintro e w' ⟨rfl, rfl⟩)))
      go_ret
      exact ⟨rfl, (by (repeat' (first | (with_reducible exact Below.refl _ _) | (with_reducible assumption) | (with_reducible refine below_ext _ ?_ ?_) | (with_reducible refine Below.alloc ?_ ?_ _) | (with_reducible refine Below.drew ?_) | (with_reducible refine below_drewN ?_ _) | (with_reducible refine le_drewN _ ?_) | (with_reducible refine Below.setCell ?_ ?_ _) | (with_reducible exact Nat.le_refl _) | (with_reducible refine le_ext _ ?_) | (with_reducible refine le_alloc _ ?_) | (with_reducible refine le_setCell _ _ ?_) | (with_reducible refine le_drew ?_) | omega | (simp; done) | (simp; omega))))⟩
  · go_enter Try.func4, Try.ntmps4
    go_wp2_with (first | (go_at_call 19; refine (szPointS_no _ _ _ _ _ (by omega) (by omega) (by omega) (by omega)).mono ?_; rintro e w' ⟨rfl, rfl⟩))
    go_ret
    exact ⟨rfl, (by (repeat' (first | (with_reducible exact Below.refl _ _) | (with_reducible assumption) | (with_reducible refine below_ext _ ?_ ?_) | (with_reducible refine Below.alloc ?_ ?_ _) | (with_reducible refine Below.drew ?_) | (with_reducible refine below_drewN ?_ _) | (with_reducible refine le_drewN _ ?_) | (with_reducible refine Below.setCell ?_ ?_ _) | (with_reducible exact Nat.le_refl _) | (with_reducible refine le_ext _ ?_) | (with_reducible refine le_alloc _ ?_) | (with_reducible refine le_setCell _ _ ?_) | (with_reducible refine le_drew ?_) | omega | (simp; done) | (simp; omega))))⟩
end Go.Proofs.Ytoendanihhocjaa
