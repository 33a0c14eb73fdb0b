
/- FnExactDiagonalsOf: the law's walk (printed by tools/ldiags.py). -/
import Derived.Test.YtdneaakpdibkmaaDiagOf
import Derived.Test.YtdneaakpdibkmaaMarkR
set_option linter.unusedVariables false
set_option linter.unusedSimpArgs false
namespace Go.Proofs.Ytdneaakpdibkmaa
open Go.RowKit

set_option maxHeartbeats 4000000 in
theorem lawDiags (ps : List Pt) (A1 : Option Addr) (n1 c1 : Nat) (w : World) (h1 : ps.length = n1) (m1 : n1 ≤ 9223372036854775807) (s1 : PtsAt w w.heap.size A1 ps) :
    Calls Try.prog 8 #[.slice A1 n1 c1] w fun e w' => e = .returned (.bool true) ∧ Below w.heap.size w w' := by
  by_cases hle : n1 ≤ 1048576
  · have k1 : n1 ≤ 2000000 := by omega
    have T1 := hide (fun W (hb : Below w.heap.size w W) => toPointS_any ps A1 n1 c1 W h1 k1 (s1.to hb))
    have SP := hide (fun (W : World) (a : Nat) (ra : PtsAt W W.heap.size (some ⟨a, 0, none⟩) ps) => sDiags_any ps (some ⟨a, 0, none⟩) n1 n1 W h1 k1 ra)
    have IM := hide (fun (W : World) (a : Nat) (ra : PtsAt W W.heap.size (some ⟨a, 0, none⟩) ps) => iDiags_any ps (some ⟨a, 0, none⟩) n1 n1 W h1 k1 ra)
    have LM := diagL_len ps
    generalize diagL ps = L at *
    have H1 := hide h1
    clear h1 s1
    go_enter Try.func8, Try.ntmps8
    go_wp2_with (first | (go_at_call 16; refine (szPointS_yes _ _ _ _ _ (by omega) (by omega) (by omega) (by omega)).mono ?_; rintro e w' ⟨rfl, rfl⟩) | fail)
    refine (T1.out _ (Below.refl _ _)).mono ?_
    rintro e w1 ⟨g1, rfl, hg1, r1, hx1⟩
    have D1 := ext_bel hx1
    have C1 := D1
    clear hx1
    go_wp2_with fail
    refine (SP.out _ g1 (PtsAt.row r1 H1.out)).mono ?_
    rintro e w3 ⟨v3, rfl, own3, hx3⟩
    have D3 := ext_bel hx3
    have C3 := C1.trans (D3.mono C1.size)
    obtain ⟨A3, n3, c3, rfl⟩ := own3.slice
    have l3 := own3.pts.1
    have p3 := own3.pts.2.2.2
    clear hx3 own3 r1
    have F3 := Below.refl w3.heap.size w3
    go_wp2_with fail
    refine (T1.out _ C3).mono ?_
    rintro e w4 ⟨g4, rfl, hg4, rw4, hx4⟩
    have E4 := ext_bel hx4
    clear hx4
    have hgF4 := Nat.le_trans F3.size hg4
    have ltw4 := rw4.lt
    have F4 := F3.trans (E4.mono F3.size)
    have C4 := C3.trans (F4.mono C3.size)
    have lt4 := rw4.lt
    go_wp2_with fail
    refine (IM.out _ g4 (PtsAt.row rw4 H1.out)).mono ?_
    rintro e w6 ⟨A6, n6, c6, rfl, l6, q6, qb6, pr6, pl6, hx6⟩
    have E6 := ext_bel hx6
    clear hx6
    have hgF6 := F4.size
    have x4_6 := rw4.below E6 rw4.lt
    clear rw4
    have F6 := F4.trans (E6.mono F4.size)
    have C6 := C3.trans (F6.mono C3.size)
    go_wp2_with fail
    refine (eqPairS_any L L _ _ _ _ _ _ _ l6 l3 (by omega) (by omega) pr6.pts (p3.to F6)).mono ?_
    rintro e w7 ⟨rfl, hx7⟩
    have E7 := ext_bel hx7
    clear hx7
    have x4_7 := x4_6.below E7 x4_6.lt
    clear x4_6
    have p6_7 := pr6.below E7
    clear pr6
    have F7 := F6.trans (E7.mono F6.size)
    have C7 := C3.trans (F7.mono C3.size)
    go_wp2_with fail
    refine (T1.out _ C7).mono ?_
    rintro e w8 ⟨g8, rfl, hg8, rw8, hx8⟩
    have E8 := ext_bel hx8
    clear hx8
    have hgF8 := Nat.le_trans F7.size hg8
    have ltw8 := rw8.lt
    have x4_8 := x4_7.below E8 x4_7.lt
    clear x4_7
    have p6_8 := p6_7.below E8
    clear p6_7
    have F8 := F7.trans (E8.mono F7.size)
    have C8 := C3.trans (F8.mono C3.size)
    go_wp2_with fail
    refine (eqPointS_any ps ps _ _ _ _ _ _ _ H1.out H1.out k1 k1 (PtsAt.row x4_8 H1.out) (PtsAt.row rw8 H1.out)).mono ?_
    rintro e w9 ⟨rfl, hx9⟩
    have E9 := ext_bel hx9
    clear hx9
    clear rw8
    have x4_9 := x4_8.below E9 x4_8.lt
    clear x4_8
    have p6_9 := p6_8.below E9
    clear p6_8
    have F9 := F8.trans (E9.mono F8.size)
    have C9 := C3.trans (F9.mono C3.size)
    go_wp2_with fail
    refine (markPointS_row _ g4 n1 n1 _ _ _ (by omega) (Nat.le_refl _) (by omega) x4_9).mono ?_
    rintro e w12 ⟨rfl, but12, rm12⟩
    have p6_12 := p6_9.but but12 lt4
    clear p6_9
    have F12 := F9.trans (but12.below hgF4)
    have C12 := C3.trans (F12.mono C3.size)
    clear rm12 x4_9
    go_wp2_with fail
    refine (eqPairS_any L L _ _ _ _ _ _ _ l6 l3 (by omega) (by omega) p6_12.pts (p3.to F12)).mono ?_
    rintro e w14 ⟨rfl, hx14⟩
    have E14 := ext_bel hx14
    clear hx14
    have p6_14 := p6_12.below E14
    clear p6_12
    have F14 := F12.trans (E14.mono F12.size)
    have C14 := C3.trans (F14.mono C3.size)
    go_wp2_with fail
    refine (markPairS_any _ _ _ w4.heap.size L _ l6 (by omega) p6_14).mono ?_
    rintro e w15 ⟨rfl, hb15, hsz15, hm15⟩
    have F15 := F14.trans (hb15.mono F4.size)
    have C15 := C3.trans (F15.mono C3.size)
    clear p6_14
    go_wp2_with fail
    refine (heldPairS_any _ _ _ w4.heap.size _ (by omega) hm15).mono ?_
    rintro e w16 ⟨rfl, hx16⟩
    have E16 := ext_bel hx16
    clear hx16
    have m_16 := hm15.below E16
    clear hm15
    have F16 := F15.trans (E16.mono F15.size)
    have C16 := C3.trans (F16.mono C3.size)
    go_wp2_with fail
    refine (T1.out _ C16).mono ?_
    rintro e w17 ⟨g17, rfl, hg17, rw17, hx17⟩
    have E17 := ext_bel hx17
    clear hx17
    have hgF17 := Nat.le_trans F16.size hg17
    have ltw17 := rw17.lt
    have m_17 := m_16.below E17
    clear m_16
    have F17 := F16.trans (E17.mono F16.size)
    have C17 := C3.trans (F17.mono C3.size)
    go_wp2_with fail
    refine (IM.out _ g17 (PtsAt.row rw17 H1.out)).mono ?_
    rintro e w19 ⟨A19, n19, c19, rfl, l19, q19, qb19, pr19, pl19, hx19⟩
    have E19 := ext_bel hx19
    clear hx19
    have hgF19 := F17.size
    have m_19 := m_17.below E19
    clear m_17
    have x17_19 := rw17.below E19 rw17.lt
    clear rw17
    have F19 := F17.trans (E19.mono F17.size)
    have C19 := C3.trans (F19.mono C3.size)
    go_wp2_with fail
    refine (eqPairS_any L L _ _ _ _ _ _ _ l19 l3 (by omega) (by omega) pr19.pts (p3.to F19)).mono ?_
    rintro e w20 ⟨rfl, hx20⟩
    have E20 := ext_bel hx20
    clear hx20
    have m_20 := m_19.below E20
    clear m_19
    have x17_20 := x17_19.below E20 x17_19.lt
    clear x17_19
    have p19_20 := pr19.below E20
    clear pr19
    have F20 := F19.trans (E20.mono F19.size)
    have C20 := C3.trans (F20.mono C3.size)
    go_wp2_with fail
    refine (heldPairS_any _ _ _ w4.heap.size _ (by omega) m_20).mono ?_
    rintro e w21 ⟨rfl, hx21⟩
    have E21 := ext_bel hx21
    clear hx21
    have m_21 := m_20.below E21
    clear m_20
    have x17_21 := x17_20.below E21 x17_20.lt
    clear x17_20
    have p19_21 := p19_20.below E21
    clear p19_20
    have F21 := F20.trans (E21.mono F20.size)
    have C21 := C3.trans (F21.mono C3.size)
    go_wp2_with fail
    go_ret
    exact ⟨rfl, C21⟩
  · go_enter Try.func8, Try.ntmps8
    go_wp2_with (go_at_call 16; refine (szPointS_no _ _ _ _ _ (by omega) (by omega) (by omega) (by omega)).mono ?_; rintro e w' ⟨rfl, rfl⟩)
    go_ret
    exact ⟨rfl, (by (repeat' (first | (with_reducible exact Below.refl _ _) | (with_reducible assumption) | (with_reducible refine below_ext _ ?_ ?_) | (with_reducible refine Below.alloc ?_ ?_ _) | (with_reducible refine Below.drew ?_) | (with_reducible refine below_drewN ?_ _) | (with_reducible refine le_drewN _ ?_) | (with_reducible refine Below.setCell ?_ ?_ _) | (with_reducible exact Nat.le_refl _) | (with_reducible refine le_ext _ ?_) | (with_reducible refine le_alloc _ ?_) | (with_reducible refine le_setCell _ _ ?_) | (with_reducible refine le_drew ?_) | omega | (simp; done) | (simp; omega))))⟩
end Go.Proofs.Ytdneaakpdibkmaa
