
/- FnColorVertices: the law's walk. -/
import Derived.Test.YtelhidonhldjeaaGreatColI
import Derived.Test.YtelhidonhldjeaaGreatDrwT
import Derived.Test.YtelhidonhldjeaaGreatGrpM
import Derived.Test.YtelhidonhldjeaaGreatEqI
set_option linter.unusedVariables false
set_option linter.unusedSimpArgs false
namespace Go.Proofs.YtelhidonhldjeaaGreat
open Go.RowKit

theorem colV_ok {ps : List Pt} {ts : List TI} (h : colV ps ts ≠ []) : TriCol ps ts (colV ps ts) := by
  unfold colV at h ⊢
  split at h
  · rename_i hh; rw [if_pos hh]; exact chk_col hh
  · exact absurd rfl h
set_option maxRecDepth 20000 in
set_option maxHeartbeats 4000000 in
theorem lawColV (n c : Nat) (A : Option Addr) (w : World) (hn : n ≤ c) (hc : c ≤ 9223372036854775807) (hA : BytesAt w w.heap.size A n) :
    Calls Tryz.prog 7 #[.slice A n c] w fun e w' => e = .returned (.bool true) ∧ Below w.heap.size w w' := by
  by_cases hle : n ≤ 1048576
  · have hd : decide ((1048576 : Int) < (n : Int)) = false := decide_eq_false (by omega)
    go_enter Tryz.func7, Tryz.ntmps7
    go_wp2_with fail
    refine (drawColV_any n c A _ hn hc hA).mono ?_
    rintro e w1 ⟨A1, n1, c1, Z1, m1, d1, ps, ts, rfl, o1, lp, cbp, ht1, lm1, tz1, B1⟩
    have h1 := hide o1.pts.1
    have P1 := hide o1.pts.2.2.2
    have F1 := hide o1.form.1
    have H2 := hide ht1
    have T1 := hide tz1
    have k1 : n1 ≤ 9 := by have := h1.out; omega
    have IE := hide (fun (W : World) (hb : Below w1.heap.size w1 W) => iColV_any ps ts A1 Z1 n1 c1 m1 d1 W h1.out (by omega) F1.out H2.out (by omega) (P1.out.to hb) (T1.out.to hb))
    have SE := hide (fun (W : World) (hb : Below w1.heap.size w1 W) => sColV_any ps ts A1 Z1 n1 c1 m1 d1 W h1.out (by omega) H2.out (by omega) (P1.out.to hb) (T1.out.to hb))
    have s1 := B1.size
    have EV := hide (colV_ok (ps := ps) (ts := ts))
    clear o1 hA cbp ht1 tz1
    generalize hL : colV ps ts = L at *
    clear hL
    go_wp2_with fail
    refine (IE.out _ (by (repeat' (first | (with_reducible first | exact Below.refl _ _ | assumption | refine below_ext _ ?_ ?_ | refine Below.alloc ?_ ?_ _ | refine Below.drew ?_ | refine below_drewN ?_ _ | refine le_drewN _ ?_ | refine Below.setCell ?_ ?_ _ | exact Nat.le_refl _ | refine le_ext _ ?_ | refine le_alloc _ ?_ | refine le_setCell _ _ ?_ | refine le_drew ?_) | omega | (simp; done) | (simp; omega))))).mono ?_
    rintro e w2 ⟨A2, n2, rfl, l2, q2, r2, hx2⟩
    have D2 := hide (ext_bel hx2)
    have R2 := hide r2.ints
    have L2 := hide l2
    clear hx2 r2 IE l2
    go_wp2_with fail
    refine (SE.out _ D2.out).mono ?_
    rintro e w3 ⟨v3, rfl, own3, hx3⟩
    obtain ⟨A3, n3, c3, rfl⟩ := own_slice own3
    have l3 := own3.ints.1
    have R3 := hide own3.ints.2.2.2
    have E3 := hide (ext_bel hx3)
    have D3 := hide (D2.out.trans (E3.out.mono D2.out.size))
    clear hx3 own3
    go_wp2_with fail
    refine (equalInts_any L L _ _ _ _ _ _ _ L2.out l3 (by omega) (by have := L2.out; omega) (R2.out.to E3.out) R3.out).mono ?_
    rintro e w4 ⟨rfl, hx4⟩
    have dt : decide (L = L) = true := decide_eq_true rfl
    have E4 := hide (ext_bel hx4)
    have D4 := hide (D3.out.trans (E4.out.mono D3.out.size))
    have R4 := hide ((R2.out.to E3.out).to E4.out)
    clear hx4 R3 l3 R2
    by_cases h0 : n2 = 0
    · have d0 : ((n2 : Int) == 0) = true := by rw [h0]; rfl
      clear h0
      go_wp2_with fail
      refine (SE.out _ D4.out).mono ?_
      rintro e w5 ⟨v5, rfl, own5, hx5⟩
      obtain ⟨A5, n5, c5, rfl⟩ := own_slice own5
      have l5 := own5.ints.1
      have R5 := hide own5.ints.2.2.2
      have E5 := hide (ext_bel hx5)
      have D5 := hide (D4.out.trans (E5.out.mono D4.out.size))
      clear hx5 own5
      go_wp2_with fail
      refine (equalInts_any L L _ _ _ _ _ _ _ L2.out l5 (by omega) (by have := L2.out; omega) (R4.out.to E5.out) R5.out).mono ?_
      rintro e w6 ⟨rfl, hx6⟩
      have D6 := hide (D5.out.trans ((ext_bel hx6).mono D5.out.size))
      clear hx6
      go_wp2_with fail
      go_ret
      exact ⟨rfl, B1.trans (D6.out.mono s1)⟩
    · have d0 : ((n2 : Int) == 0) = false := by rw [beq_eq_false_iff_ne]; omega
      have TC := EV.out (fun e => h0 (by have := L2.out; rw [e] at this; simp at this; omega))
      have e2 : n2 = n1 := by rw [← L2.out, TC.len, h1.out]
      have AT : Hid (∀ j, j < m1 → ∃ a b c : Nat, gt ts j = ⟨a, b, c⟩ ∧ a < n2 ∧ b < n2 ∧ c < n2 ∧ gi L a ≠ gi L b ∧ gi L b ≠ gi L c ∧ gi L a ≠ gi L c) := hide (fun j hj => by
        have := TC.tri j (by rw [H2.out]; exact hj)
        rw [h1.out, ← e2] at this
        exact this)
      have Z0 : gi L 0 = 0 := TC.zero
      have s4 := D4.out.size
      have dl : ((n2 : Int) == (n1 : Int)) = true := by rw [beq_iff_eq]; omega
      obtain ⟨bc, oc, rfl, hbc, hcc⟩ := R4.out (by rw [L2.out]; omega)
      have CC : Hid (∀ i, i < n2 → w4.cell? ⟨bc, oc + i, none⟩ = some (.int .i64 (gi L i))) := hide (fun i hi => hcc i (by rw [L2.out]; exact hi))
      clear EV h0 SE F1 TC e2 R4 hcc
      go_wp2_with fail
      go_loopw [6] (fun u6 wr => ∃ j : Nat, j ≤ m1 ∧ u6 = .int .i64 j ∧ Below w4.heap.size w4 wr) (fun u6 _ => m1 - (intOf u6).toNat)
      case atStart => exact ⟨0, Nat.zero_le _, rfl, Below.refl _ _⟩
      case round =>
        obtain ⟨j, hj, rfl, hbel⟩ := hrel
        have hsz := hbel.size
        by_cases hlt : j < m1
        · obtain ⟨b, o, rfl, hbl, hcs⟩ := T1.out (by rw [H2.out]; omega)
          obtain ⟨x0, y0, z0⟩ := hcs j (by rw [H2.out]; exact hlt)
          have BB := hide (D4.out.trans (hbel.mono s4))
          have g1 := (BB.out.cell (p := ⟨b, o + j * 3, none⟩) hbl).trans x0
          have g2 := (BB.out.cell (p := ⟨b, o + j * 3 + 1, none⟩) hbl).trans y0
          have g3 := (BB.out.cell (p := ⟨b, o + j * 3 + 2, none⟩) hbl).trans z0
          obtain ⟨a, b', c', et, la, lb, lc, n12, n23, n13⟩ := AT.out j hlt
          rw [et] at g1 g2 g3
          have k1 := (hbel.cell (p := ⟨bc, oc + a, none⟩) hbc).trans (CC.out a la)
          have k2 := (hbel.cell (p := ⟨bc, oc + b', none⟩) hbc).trans (CC.out b' lb)
          have k3 := (hbel.cell (p := ⟨bc, oc + c', none⟩) hbc).trans (CC.out c' lc)
          have e12 : (gi L a == gi L b') = false := by rw [beq_eq_false_iff_ne]; exact n12
          have e23 : (gi L b' == gi L c') = false := by rw [beq_eq_false_iff_ne]; exact n23
          have e13 : (gi L a == gi L c') = false := by rw [beq_eq_false_iff_ne]; exact n13
          have q1 : (0 : Int) ≤ (j : Int) := by omega
          have q2 : (j : Int) < (m1 : Int) := by omega
          have q3 : (0 : Int) ≤ (a : Int) := by omega
          have q4 : (a : Int) < (n2 : Int) := by omega
          have q5 : (0 : Int) ≤ (b' : Int) := by omega
          have q6 : (b' : Int) < (n2 : Int) := by omega
          have q7 : (0 : Int) ≤ (c' : Int) := by omega
          have q8 : (c' : Int) < (n2 : Int) := by omega
          clear hcs x0 y0 z0 et AT CC n12 n23 n13 Z0
          generalize gi L a = X at *
          generalize gi L b' = Y at *
          generalize gi L c' = V at *
          go_wp2_with fail
          exact ⟨⟨j + 1, by omega, by go_num, hbel.trans (by (repeat' (first | (with_reducible first | exact Below.refl _ _ | assumption | refine below_ext _ ?_ ?_ | refine Below.alloc ?_ ?_ _ | refine Below.drew ?_ | refine below_drewN ?_ _ | refine le_drewN _ ?_ | refine Below.setCell ?_ ?_ _ | exact Nat.le_refl _ | refine le_ext _ ?_ | refine le_alloc _ ?_ | refine le_setCell _ _ ?_ | refine le_drew ?_) | omega | (simp; done) | (simp; omega))))⟩, by simp [intOf]; omega⟩
        · have ej : j = m1 := by omega
          subst ej
          have BB := hide (D4.out.trans (hbel.mono s4))
          have n0 : 0 < n2 := by
            rcases Nat.eq_zero_or_pos n2 with h | h
            · rw [h] at d0; cases d0
            · exact h
          have k0 := (hbel.cell (p := ⟨bc, oc + 0, none⟩) hbc).trans (CC.out 0 n0)
          rw [Z0, Nat.add_zero] at k0
          have q2 : (0 : Int) < (n2 : Int) := by omega
          clear AT CC T1
          go_wp2_with fail
          go_ret
          exact ⟨rfl, B1.trans (BB.out.mono s1)⟩
  · skip
    have hd : decide ((1048576 : Int) < (n : Int)) = true := decide_eq_true (by omega)
    go_enter Tryz.func7, Tryz.ntmps7
    go_wp2
    go_ret
    exact ⟨rfl, (by (repeat' (first | (with_reducible first | exact Below.refl _ _ | assumption | refine below_ext _ ?_ ?_ | refine Below.alloc ?_ ?_ _ | refine Below.drew ?_ | refine below_drewN ?_ _ | refine le_drewN _ ?_ | refine Below.setCell ?_ ?_ _ | exact Nat.le_refl _ | refine le_ext _ ?_ | refine le_alloc _ ?_ | refine le_setCell _ _ ?_ | refine le_drew ?_) | omega | (simp; done) | (simp; omega))))⟩
end Go.Proofs.YtelhidonhldjeaaGreat
