
/- FnExactSplitPolygon: the law's walk (printed by tools/lexspl.py). -/
import Derived.Test.YtklbcmgkladdeaaSpl
import Derived.Test.YtklbcmgkladdeaaMarkP
import Derived.Test.YtklbcmgkladdeaaHelp
set_option linter.unusedVariables false
set_option linter.unusedSimpArgs false
namespace Go.Proofs.Ytklbcmgkladdeaa
open Go.RowKit

theorem PRow.lt2 {w : World} {base : Nat} {A : Option Addr} {ps : List Pt} (h : PRow w base A ps) (h0 : 0 < ps.length) : ptrLt A w.heap.size := fun g o s e => by
  obtain ⟨g', m, f, hA, _, _, hr, _⟩ := h h0
  rw [hA] at e
  injection e with e
  injection e with e _ _
  rw [← e]; exact hr.lt
/-- The first n points of the row at A have been marked from k0 on; its block lies below hi. -/
def MarkedK (w : World) (lo hi : Nat) (A : Option Addr) (n : Nat) (k0 : Int) : Prop := 0 < n → ∃ g m f, A = some ⟨g, 0, none⟩ ∧ lo ≤ g ∧ g < hi ∧ n * 2 ≤ m ∧ RowAt w g 40 m (markCell k0 (n * 2) f)
theorem MarkedK.below {w W : World} {lo hi : Nat} {A : Option Addr} {n : Nat} {k0 : Int} (h : MarkedK w lo hi A n k0) (hb : Below hi w W) : MarkedK W lo hi A n k0 := fun h0 => by
  obtain ⟨g', m, f, hA, hg', hg2, hm, hr⟩ := h h0
  exact ⟨g', m, f, hA, hg', hg2, hm, hr.below hb hg2⟩
theorem markK_any (k0 : Int) (A : Option Addr) (n c base hi : Nat) (ps : List Pt) (w : World) (hz : ps.length = n) (hn : n ≤ 1000000000000) (hk : 0 ≤ k0 ∧ k0 ≤ 1000000000000) (h : PRow w base A ps) (hh : 0 < ps.length → ptrLt A hi) :
    Calls Try.prog 10 #[.slice A n c, .int .i64 k0] w fun e w' => e = .returned (.int .i64 (k0 + (n * 2 : Nat))) ∧ Below base w w' ∧ w'.heap.size = w.heap.size ∧ (∀ b A2 L, ptrLt A b → PRow w b A2 L → PRow w' b A2 L) ∧ MarkedK w' base hi A n k0 := by
  by_cases h0 : n = 0
  · subst h0
    refine (markPointS_nil k0 A c w hk).mono ?_
    rintro e w' ⟨rfl, rfl⟩
    exact ⟨by simp, Below.refl _ _, rfl, fun _ _ _ _ h => h, fun h => absurd h (Nat.lt_irrefl 0)⟩
  · have hp := hh (by omega)
    obtain ⟨g, m, f, rfl, hg, hm, hr, hf⟩ := h (by omega)
    refine (markPointS_row k0 g n c m f w hk (by omega) hn hr).mono ?_
    rintro e w' ⟨rfl, hb, hr'⟩
    exact ⟨rfl, hb.below hg, hb.size, fun b A2 L hlt hpr => hpr.but hb (hlt g 0 none rfl), fun _ => ⟨g, m, f, rfl, hg, hp g 0 none rfl, by omega, hr'⟩⟩
theorem heldK_any (k0 : Int) (A : Option Addr) (n c lo hi : Nat) (w : World) (hn : n ≤ 1000000000000) (hk : 0 ≤ k0 ∧ k0 ≤ 1000000000000) (h : MarkedK w lo hi A n k0) :
    Calls Try.prog 11 #[.slice A n c, .int .i64 k0] w fun e w' => e = .returned (.int .i64 (k0 + (n * 2 : Nat))) ∧ ∃ x, w' = ext w x := by
  by_cases h0 : n = 0
  · subst h0
    refine (heldPointS_nil k0 A c w hk).mono ?_
    rintro e w' ⟨rfl, rfl⟩
    exact ⟨by simp, ext_same _⟩
  · obtain ⟨g, m, f, rfl, hg, _, hm, hr⟩ := h (by omega)
    exact heldPointS_row k0 g n c m f w hk hm hn hr
set_option maxHeartbeats 4000000 in
theorem lawExSpl (ps : List Pt) (i k : Int) (A1 : Option Addr) (n1 c1 : Nat) (w : World) (h1 : ps.length = n1) (m1 : n1 ≤ 9223372036854775807) (s1 : PtsAt w w.heap.size A1 ps) :
    Calls Try.prog 3 #[.slice A1 n1 c1, .int .i64 i, .int .i64 k] w fun e w' => e = .returned (.bool true) ∧ Below w.heap.size w w' := by
  by_cases hle : n1 ≤ 1048576
  · have k1 : n1 ≤ 2000000 := by omega
    have T1 := hide (fun W (hb : Below w.heap.size w W) => toPointS_any ps A1 n1 c1 W h1 k1 (s1.to hb))
    have SP := hide (fun (W : World) (a : Nat) (ra : PtsAt W W.heap.size (some ⟨a, 0, none⟩) ps) => sSplit_any ps i k (some ⟨a, 0, none⟩) n1 n1 W h1 k1 ra)
    have IM := hide (fun (W : World) (a : Nat) (ra : PtsAt W W.heap.size (some ⟨a, 0, none⟩) ps) => iSplit_any ps i k (some ⟨a, 0, none⟩) n1 n1 W h1 k1 Plain.some ra)
    have LM1 := prt_len ps (dgB ps i k) i k (fun h => (dgB_sim h).1)
    have LM2 := prt_len ps (dgB ps i k) k i (fun h => (dgB_sim h).1)
    generalize prtL ps (dgB ps i k) i k = L1 at *
    generalize prtL ps (dgB ps i k) k i = L2 at *
    generalize dgB ps i k = V at *
    have V1 : (V != V) = false := by simp
    have H1 := hide h1
    clear h1 s1
    go_enter Try.func3, Try.ntmps3
    go_wp2_with (first | (go_at_call 5; refine (szPointS_yes _ _ _ _ _ (by omega) (by omega) (by omega) (by omega)).mono ?_; rintro e w' ⟨rfl, rfl⟩) | fail)
    refine (T1.out _ (Below.refl _ _)).mono ?_
    rintro e w1 ⟨g1, rfl, hg1, r1, hx1⟩
    have D1 := ext_bel hx1
    have C1 := D1
    clear hx1
    go_wp2_with fail
    refine (SP.out _ g1 (PtsAt.row r1 H1.out)).mono ?_
    rintro e w3 ⟨v4, v5, rfl, own4, own5, hx3⟩
    have D3 := ext_bel hx3
    have C3 := C1.trans (D3.mono C1.size)
    obtain ⟨A4, n4, c4, rfl⟩ := own4.slice
    obtain ⟨A5, n5, c5, rfl⟩ := own5.slice
    have l4 := own4.pts.1
    have p4 := own4.pts.2.2.2
    have l5 := own5.pts.1
    have p5 := own5.pts.2.2.2
    clear hx3 own4 own5 r1
    have F3 := Below.refl w3.heap.size w3
    go_wp2_with fail
    refine (T1.out _ C3).mono ?_
    rintro e w4 ⟨g4, rfl, hg4, rw4, hx4⟩
    have E4 := ext_bel hx4
    clear hx4
    have hgF4 := Nat.le_trans F3.size hg4
    have ltw4 := rw4.lt
    have F4 := F3.trans (E4.mono F3.size)
    have C4 := C3.trans (F4.mono C3.size)
    have lt4 := rw4.lt
    go_wp2_with fail
    refine (IM.out _ g4 (PtsAt.row rw4 H1.out)).mono ?_
    rintro e w6 ⟨A6, n6, c6, D6, m6, d6, b6, rfl, l6, j6, pr6, ps6, sb6, sz6, pt6, pl6, qa6, hx6⟩
    have E6 := ext_bel hx6
    clear hx6 pl6 qa6
    have hgF6 := F4.size
    have x4_6 := rw4.below E6 rw4.lt
    clear rw4
    have F6 := F4.trans (E6.mono F4.size)
    have C6 := C3.trans (F6.mono C3.size)
    go_wp2_with fail
    refine (eqPointS_any L1 L1 _ _ _ _ _ _ _ l6 l4 (by omega) (by omega) pr6.pts (p4.to F6)).mono ?_
    rintro e w7 ⟨rfl, hx7⟩
    have E7 := ext_bel hx7
    clear hx7
    have x4_7 := x4_6.below E7 x4_6.lt
    clear x4_6
    have p6_7 := pr6.below E7
    clear pr6
    have s6_7 := ps6.below E7
    clear ps6
    have F7 := F6.trans (E7.mono F6.size)
    have C7 := C3.trans (F7.mono C3.size)
    go_wp2_with fail
    refine (eqPointS_any L2 L2 _ _ _ _ _ _ _ j6 l5 (by omega) (by omega) s6_7.pts (p5.to F7)).mono ?_
    rintro e w8 ⟨rfl, hx8⟩
    have E8 := ext_bel hx8
    clear hx8
    have x4_8 := x4_7.below E8 x4_7.lt
    clear x4_7
    have p6_8 := p6_7.below E8
    clear p6_7
    have s6_8 := s6_7.below E8
    clear s6_7
    have F8 := F7.trans (E8.mono F7.size)
    have C8 := C3.trans (F8.mono C3.size)
    go_wp2_with fail
    refine (T1.out _ C8).mono ?_
    rintro e w9 ⟨g9, rfl, hg9, rw9, hx9⟩
    have E9 := ext_bel hx9
    clear hx9
    have hgF9 := Nat.le_trans F8.size hg9
    have ltw9 := rw9.lt
    have x4_9 := x4_8.below E9 x4_8.lt
    clear x4_8
    have p6_9 := p6_8.below E9
    clear p6_8
    have s6_9 := s6_8.below E9
    clear s6_8
    have F9 := F8.trans (E9.mono F8.size)
    have C9 := C3.trans (F9.mono C3.size)
    go_wp2_with fail
    refine (eqPointS_any ps ps _ _ _ _ _ _ _ H1.out H1.out k1 k1 (PtsAt.row x4_9 H1.out) (PtsAt.row rw9 H1.out)).mono ?_
    rintro e w10 ⟨rfl, hx10⟩
    have E10 := ext_bel hx10
    clear hx10
    clear rw9
    have x4_10 := x4_9.below E10 x4_9.lt
    clear x4_9
    have p6_10 := p6_9.below E10
    clear p6_9
    have s6_10 := s6_9.below E10
    clear s6_9
    have F10 := F9.trans (E10.mono F9.size)
    have C10 := C3.trans (F10.mono C3.size)
    go_wp2_with fail
    refine (markPointS_row _ g4 n1 n1 _ _ _ (by omega) (Nat.le_refl _) (by omega) x4_10).mono ?_
    rintro e w12 ⟨rfl, but12, rm12⟩
    have p6_12 := p6_10.but but12 lt4
    clear p6_10
    have s6_12 := s6_10.but but12 (Nat.lt_of_lt_of_le lt4 sb6)
    clear s6_10
    have F12 := F10.trans (but12.below hgF4)
    have C12 := C3.trans (F12.mono C3.size)
    clear rm12 x4_10
    go_wp2_with fail
    refine (eqPointS_any L1 L1 _ _ _ _ _ _ _ l6 l4 (by omega) (by omega) p6_12.pts (p4.to F12)).mono ?_
    rintro e w13 ⟨rfl, hx13⟩
    have E13 := ext_bel hx13
    clear hx13
    have p6_13 := p6_12.below E13
    clear p6_12
    have s6_13 := s6_12.below E13
    clear s6_12
    have F13 := F12.trans (E13.mono F12.size)
    have C13 := C3.trans (F13.mono C3.size)
    go_wp2_with fail
    refine (eqPointS_any L2 L2 _ _ _ _ _ _ _ j6 l5 (by omega) (by omega) s6_13.pts (p5.to F13)).mono ?_
    rintro e w14 ⟨rfl, hx14⟩
    have E14 := ext_bel hx14
    clear hx14
    have p6_14 := p6_13.below E14
    clear p6_13
    have s6_14 := s6_13.below E14
    clear s6_13
    have F14 := F13.trans (E14.mono F13.size)
    have C14 := C3.trans (F14.mono C3.size)
    go_wp2_with fail
    refine (markK_any 1 _ _ _ w4.heap.size b6 L1 _ l6 (by omega) (by omega) p6_14 (fun _ => pt6)).mono ?_
    rintro e w15 ⟨rfl, hb15, hsz15, hk15, hm15⟩
    have F15 := F14.trans (hb15.mono F4.size)
    have C15 := C3.trans (F15.mono C3.size)
    have s6_15 := hk15 _ _ _ pt6 s6_14
    clear p6_14 s6_14 hk15
    have F6_15 : w6.heap.size ≤ w15.heap.size := by have := hsz15; have := E7.size; have := E8.size; have := E9.size; have := E10.size; have := but12.size; have := E13.size; have := E14.size; omega
    have bb15 : b6 ≤ w15.heap.size := Nat.le_trans sz6 F6_15
    go_wp2_with fail
    refine (markK_any ((1 : Int) + (n6 * 2 : Nat)) _ _ _ b6 w15.heap.size L2 _ j6 (by omega) (by omega) s6_15 (fun h0 => s6_15.lt2 h0)).mono ?_
    rintro e w16 ⟨rfl, hb16, hsz16, hk16, hm16⟩
    have m6_16 := hm15.below hb16
    have F16 := F15.trans (hb16.mono (Nat.le_trans F4.size sb6))
    have C16 := C3.trans (F16.mono C3.size)
    have bb16 : b6 ≤ w16.heap.size := by rw [hsz16]; exact bb15
    clear s6_15 hk16 hm15
    go_wp2_with fail
    refine (heldK_any (1 : Int) _ _ _ _ _ _ (by omega) (by omega) m6_16).mono ?_
    rintro e w17 ⟨rfl, hx17⟩
    have E17 := ext_bel hx17
    clear hx17
    have z17 : w16.heap.size ≤ w16.heap.size := by first | exact Nat.le_refl _ | exact Z16
    have m_17 := m6_16.below (E17.mono (Nat.le_trans bb16 z17))
    have h_17 := hm16.below (E17.mono (Nat.le_trans (Nat.le_of_eq hsz16.symm) z17))
    clear m6_16 hm16
    have Z17 : w16.heap.size ≤ w17.heap.size := Nat.le_trans z17 E17.size
    have F17 := F16.trans (E17.mono F16.size)
    have C17 := C3.trans (F17.mono C3.size)
    go_wp2_with fail
    refine (heldK_any ((1 : Int) + (n6 * 2 : Nat)) _ _ _ _ _ _ (by omega) (by omega) h_17).mono ?_
    rintro e w18 ⟨rfl, hx18⟩
    have E18 := ext_bel hx18
    clear hx18
    have z18 : w16.heap.size ≤ w17.heap.size := by first | exact Nat.le_refl _ | exact Z17
    have m_18 := m_17.below (E18.mono (Nat.le_trans bb16 z18))
    have h_18 := h_17.below (E18.mono (Nat.le_trans (Nat.le_of_eq hsz16.symm) z18))
    clear m_17 h_17
    have Z18 : w16.heap.size ≤ w18.heap.size := Nat.le_trans z18 E18.size
    have F18 := F17.trans (E18.mono F17.size)
    have C18 := C3.trans (F18.mono C3.size)
    go_wp2_with fail
    refine (T1.out _ C18).mono ?_
    rintro e w19 ⟨g19, rfl, hg19, rw19, hx19⟩
    have E19 := ext_bel hx19
    clear hx19
    have hgF19 := Nat.le_trans F18.size hg19
    have ltw19 := rw19.lt
    have z19 : w16.heap.size ≤ w18.heap.size := by first | exact Nat.le_refl _ | exact Z18
    have m_19 := m_18.below (E19.mono (Nat.le_trans bb16 z19))
    have h_19 := h_18.below (E19.mono (Nat.le_trans (Nat.le_of_eq hsz16.symm) z19))
    clear m_18 h_18
    have Z19 : w16.heap.size ≤ w19.heap.size := Nat.le_trans z19 E19.size
    have F19 := F18.trans (E19.mono F18.size)
    have C19 := C3.trans (F19.mono C3.size)
    go_wp2_with fail
    refine (IM.out _ g19 (PtsAt.row rw19 H1.out)).mono ?_
    rintro e w20 ⟨A20, n20, c20, D20, m20, d20, b20, rfl, l20, j20, pr20, ps20, sb20, sz20, pt20, pl20, qa20, hx20⟩
    have E20 := ext_bel hx20
    clear hx20 pl20 qa20
    have hgF20 := F19.size
    have z20 : w16.heap.size ≤ w19.heap.size := by first | exact Nat.le_refl _ | exact Z19
    have m_20 := m_19.below (E20.mono (Nat.le_trans bb16 z20))
    have h_20 := h_19.below (E20.mono (Nat.le_trans (Nat.le_of_eq hsz16.symm) z20))
    clear m_19 h_19
    have Z20 : w16.heap.size ≤ w20.heap.size := Nat.le_trans z20 E20.size
    have x19_20 := rw19.below E20 rw19.lt
    clear rw19
    have F20 := F19.trans (E20.mono F19.size)
    have C20 := C3.trans (F20.mono C3.size)
    go_wp2_with fail
    refine (eqPointS_any L1 L1 _ _ _ _ _ _ _ l20 l4 (by omega) (by omega) pr20.pts (p4.to F20)).mono ?_
    rintro e w21 ⟨rfl, hx21⟩
    have E21 := ext_bel hx21
    clear hx21
    have z21 : w16.heap.size ≤ w20.heap.size := by first | exact Nat.le_refl _ | exact Z20
    have m_21 := m_20.below (E21.mono (Nat.le_trans bb16 z21))
    have h_21 := h_20.below (E21.mono (Nat.le_trans (Nat.le_of_eq hsz16.symm) z21))
    clear m_20 h_20
    have Z21 : w16.heap.size ≤ w21.heap.size := Nat.le_trans z21 E21.size
    have x19_21 := x19_20.below E21 x19_20.lt
    clear x19_20
    have p20_21 := pr20.below E21
    clear pr20
    have s20_21 := ps20.below E21
    clear ps20
    have F21 := F20.trans (E21.mono F20.size)
    have C21 := C3.trans (F21.mono C3.size)
    go_wp2_with fail
    refine (eqPointS_any L2 L2 _ _ _ _ _ _ _ j20 l5 (by omega) (by omega) s20_21.pts (p5.to F21)).mono ?_
    rintro e w22 ⟨rfl, hx22⟩
    have E22 := ext_bel hx22
    clear hx22
    have z22 : w16.heap.size ≤ w21.heap.size := by first | exact Nat.le_refl _ | exact Z21
    have m_22 := m_21.below (E22.mono (Nat.le_trans bb16 z22))
    have h_22 := h_21.below (E22.mono (Nat.le_trans (Nat.le_of_eq hsz16.symm) z22))
    clear m_21 h_21
    have Z22 : w16.heap.size ≤ w22.heap.size := Nat.le_trans z22 E22.size
    have x19_22 := x19_21.below E22 x19_21.lt
    clear x19_21
    have p20_22 := p20_21.below E22
    clear p20_21
    have s20_22 := s20_21.below E22
    clear s20_21
    have F22 := F21.trans (E22.mono F21.size)
    have C22 := C3.trans (F22.mono C3.size)
    go_wp2_with fail
    refine (heldK_any (1 : Int) _ _ _ _ _ _ (by omega) (by omega) m_22).mono ?_
    rintro e w23 ⟨rfl, hx23⟩
    have E23 := ext_bel hx23
    clear hx23
    have z23 : w16.heap.size ≤ w22.heap.size := by first | exact Nat.le_refl _ | exact Z22
    have m_23 := m_22.below (E23.mono (Nat.le_trans bb16 z23))
    have h_23 := h_22.below (E23.mono (Nat.le_trans (Nat.le_of_eq hsz16.symm) z23))
    clear m_22 h_22
    have Z23 : w16.heap.size ≤ w23.heap.size := Nat.le_trans z23 E23.size
    have x19_23 := x19_22.below E23 x19_22.lt
    clear x19_22
    have p20_23 := p20_22.below E23
    clear p20_22
    have s20_23 := s20_22.below E23
    clear s20_22
    have F23 := F22.trans (E23.mono F22.size)
    have C23 := C3.trans (F23.mono C3.size)
    go_wp2_with fail
    refine (heldK_any ((1 : Int) + (n6 * 2 : Nat)) _ _ _ _ _ _ (by omega) (by omega) h_23).mono ?_
    rintro e w24 ⟨rfl, hx24⟩
    have E24 := ext_bel hx24
    clear hx24
    have z24 : w16.heap.size ≤ w23.heap.size := by first | exact Nat.le_refl _ | exact Z23
    have m_24 := m_23.below (E24.mono (Nat.le_trans bb16 z24))
    have h_24 := h_23.below (E24.mono (Nat.le_trans (Nat.le_of_eq hsz16.symm) z24))
    clear m_23 h_23
    have Z24 : w16.heap.size ≤ w24.heap.size := Nat.le_trans z24 E24.size
    have x19_24 := x19_23.below E24 x19_23.lt
    clear x19_23
    have p20_24 := p20_23.below E24
    clear p20_23
    have s20_24 := s20_23.below E24
    clear s20_23
    have F24 := F23.trans (E24.mono F23.size)
    have C24 := C3.trans (F24.mono C3.size)
    go_wp2_with fail
    go_ret
    exact ⟨rfl, C24⟩
  · go_enter Try.func3, Try.ntmps3
    go_wp2_with (go_at_call 5; refine (szPointS_no _ _ _ _ _ (by omega) (by omega) (by omega) (by omega)).mono ?_; rintro e w' ⟨rfl, rfl⟩)
    go_ret
    exact ⟨rfl, (by (repeat' (first | (with_reducible exact Below.refl _ _) | (with_reducible assumption) | (with_reducible refine below_ext _ ?_ ?_) | (with_reducible refine Below.alloc ?_ ?_ _) | (with_reducible refine Below.drew ?_) | (with_reducible refine below_drewN ?_ _) | (with_reducible refine le_drewN _ ?_) | (with_reducible refine Below.setCell ?_ ?_ _) | (with_reducible exact Nat.le_refl _) | (with_reducible refine le_ext _ ?_) | (with_reducible refine le_alloc _ ?_) | (with_reducible refine le_setCell _ _ ?_) | (with_reducible refine le_drew ?_) | omega | (simp; done) | (simp; omega))))⟩
end Go.Proofs.Ytklbcmgkladdeaa
