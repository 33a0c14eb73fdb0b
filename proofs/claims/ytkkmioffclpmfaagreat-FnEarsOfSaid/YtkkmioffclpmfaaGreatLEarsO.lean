
/- FnEarsOf: the law's walk. -/
import Derived.Test.YtkkmioffclpmfaaGreatEarP
import Derived.Test.YtkkmioffclpmfaaGreatDrwE
import Derived.Test.YtkkmioffclpmfaaGreatEqI
set_option linter.unusedVariables false
set_option linter.unusedSimpArgs false
namespace Go.Proofs.YtkkmioffclpmfaaGreat
open Go.RowKit

set_option maxHeartbeats 2000000 in
theorem lawEarsO (n c : Nat) (A : Option Addr) (w : World) (hn : n ≤ c) (hc : c ≤ 9223372036854775807) (hA : BytesAt w w.heap.size A n) :
    Calls Tryz.prog 3 #[.slice A n c] w fun e w' => e = .returned (.bool true) ∧ Below w.heap.size w w' := by
  by_cases hle : n ≤ 1048576
  · have hd : decide ((1048576 : Int) < (n : Int)) = false := decide_eq_false (by omega)
    go_enter Tryz.func3, Tryz.ntmps3
    go_wp2_with fail
    refine (drawEars_any n c A _ hn hc hA).mono ?_
    rintro e w1 ⟨v1, ps, rfl, o1, lp, cbp, B1⟩
    obtain ⟨A1, n1, c1, rfl⟩ := o1.slice
    have h1 := hide o1.pts.1
    have P1 := hide o1.pts.2.2.2
    have F1 := hide o1.form.1
    have k1 : n1 ≤ 9 := by have := h1.out; omega
    have IE := hide (fun (W : World) (hb : Below w1.heap.size w1 W) => iEars_any ps A1 n1 c1 W h1.out (by omega) F1.out (P1.out.to hb))
    have SE := hide (fun (W : World) (hb : Below w1.heap.size w1 W) => sEars_any ps A1 n1 c1 W h1.out (by omega) (P1.out.to hb))
    have s1 := B1.size
    have EV : Hid (earsV ps ≠ [] → earsV ps = earsL ps ∧ simB ps = true) := hide (fun h => by
      unfold earsV at h ⊢
      split at h
      · rename_i hh; rw [if_pos hh]; exact ⟨rfl, clipB_sim hh⟩
      · exact absurd rfl h)
    have A0 := hide (fun i => ears_asc (ps := ps) (i := i))
    have T2 := hide (fun h => ears_two (ps := ps) h)
    have T3 := hide (fun h => ears_three (ps := ps) h)
    have T0 : Hid (simB ps = true → 3 ≤ n1) := hide (fun h => by have := (simB_parts h).2.1; have := h1.out; omega)
    rw [h1.out] at T2 T3
    clear o1 hA cbp P1 F1
    generalize hL : earsV ps = L at *
    go_wp2_with fail
    refine (IE.out _ (by (repeat' (first | (with_reducible exact Below.refl _ _) | (with_reducible assumption) | (with_reducible refine below_ext _ ?_ ?_) | (with_reducible refine Below.alloc ?_ ?_ _) | (with_reducible refine Below.drew ?_) | (with_reducible refine below_drewN ?_ _) | (with_reducible refine le_drewN _ ?_) | (with_reducible refine Below.setCell ?_ ?_ _) | (with_reducible exact Nat.le_refl _) | (with_reducible refine le_ext _ ?_) | (with_reducible refine le_alloc _ ?_) | (with_reducible refine le_setCell _ _ ?_) | (with_reducible refine le_drew ?_) | omega | (simp; done) | (simp; omega))))).mono ?_
    rintro e w2 ⟨A2, n2, rfl, l2, q2, r2, hx2⟩
    have D2 := hide (ext_bel hx2)
    have R2 := hide r2.ints
    have L2 := hide l2
    clear hx2 r2 IE l2
    go_wp2_with fail
    refine (SE.out _ D2.out).mono ?_
    rintro e w3 ⟨v3, rfl, own3, hx3⟩
    obtain ⟨A3, n3, c3, rfl⟩ := own_slice own3
    have l3 := own3.ints.1
    have R3 := hide own3.ints.2.2.2
    have E3 := hide (ext_bel hx3)
    have D3 := hide (D2.out.trans (E3.out.mono D2.out.size))
    clear hx3 own3
    go_wp2_with fail
    refine (equalInts_any L L _ _ _ _ _ _ _ L2.out l3 (by omega) (by have := L2.out; omega) (R2.out.to E3.out) R3.out).mono ?_
    rintro e w4 ⟨rfl, hx4⟩
    have dt : decide (L = L) = true := decide_eq_true rfl
    have E4 := hide (ext_bel hx4)
    have D4 := hide (D3.out.trans (E4.out.mono D3.out.size))
    have R4 := hide ((R2.out.to E3.out).to E4.out)
    clear hx4 R3 l3 R2
    by_cases h0 : n2 = 0
    · have d0 : ((n2 : Int) == 0) = true := by rw [h0]; rfl
      clear h0
      go_wp2_with fail
      refine (SE.out _ D4.out).mono ?_
      rintro e w5 ⟨v5, rfl, own5, hx5⟩
      obtain ⟨A5, n5, c5, rfl⟩ := own_slice own5
      have l5 := own5.ints.1
      have R5 := hide own5.ints.2.2.2
      have E5 := hide (ext_bel hx5)
      have D5 := hide (D4.out.trans (E5.out.mono D4.out.size))
      clear hx5 own5
      go_wp2_with fail
      refine (equalInts_any L L _ _ _ _ _ _ _ L2.out l5 (by omega) (by have := L2.out; omega) (R4.out.to E5.out) R5.out).mono ?_
      rintro e w6 ⟨rfl, hx6⟩
      have D6 := hide (D5.out.trans ((ext_bel hx6).mono D5.out.size))
      clear hx6
      go_wp2_with fail
      go_ret
      exact ⟨rfl, B1.trans (D6.out.mono s1)⟩
    · have d0 : ((n2 : Int) == 0) = false := by rw [beq_eq_false_iff_ne]; omega
      obtain ⟨eL, hs⟩ := EV.out (fun e => h0 (by have := L2.out; rw [e] at this; simp at this; omega))
      have A1' := hide A0.out
      rw [← eL] at A1' T2 T3
      have t0 := T0.out hs
      have AS : Hid (∀ i, i + 1 < n2 → gi L i < gi L (i + 1)) := hide (fun i hi => A1'.out i (by rw [L2.out]; exact hi))
      have TW : Hid (n1 ≠ 3 → 2 ≤ n2) := hide (fun h => by have := T2.out hs (by omega); rw [L2.out] at this; exact this)
      have TH : Hid (n1 = 3 → n2 = 3) := hide (fun h => by have := T3.out hs h; rw [L2.out] at this; exact this)
      clear EV eL hs A0 A1' T2 T3 T0 SE h0
      have s4 := D4.out.size
      go_wp2_with fail
      go_loopw [5] (fun u5 wr => ∃ i : Nat, 1 ≤ i ∧ i ≤ n2 + 1 ∧ u5 = .int .i64 i ∧ Below w4.heap.size w4 wr) (fun u5 _ => n2 + 1 - (intOf u5).toNat)
      case atStart => exact ⟨1, by omega, by omega, rfl, Below.refl _ _⟩
      case round =>
        obtain ⟨i, hi1, hi2, rfl, hbel⟩ := hrel
        have hsz := hbel.size
        by_cases hlt : i < n2
        · obtain ⟨b, o, rfl, hb, hcs⟩ := R4.out (by rw [L2.out]; omega)
          have x0 := (hbel.cell (p := ⟨b, o + i, none⟩) hb).trans (hcs i (by rw [L2.out]; exact hlt))
          obtain ⟨j, hj⟩ : ∃ j, i = j + 1 := ⟨i - 1, by omega⟩
          have x1 := (hbel.cell (p := ⟨b, o + j, none⟩) hb).trans (hcs j (by rw [L2.out]; omega))
          have asj := AS.out j (by omega)
          rw [← hj] at asj
          have dl : decide (gi L i ≤ gi L j) = false := decide_eq_false (by omega)
          have w1' : IntKind.i64.wrap ((i : Int) - 1) = (j : Int) := by rw [show (i : Int) - 1 = (j : Int) by omega]; exact IntWalk.i64_in _ (by omega)
          have e1 : (i : Int) - 1 = (j : Int) := by omega
          have q1 : (0 : Int) ≤ (i : Int) := by omega
          have q2 : (i : Int) < (n2 : Int) := by omega
          have q3 : (0 : Int) ≤ (j : Int) := by omega
          have q4 : (j : Int) < (n2 : Int) := by omega
          clear hcs asj hj
          generalize gi L i = X at *
          generalize gi L j = Y at *
          go_wp2_with fail
          refine wp_region_ext (by kernel_rfl) (by kernel_rfl) ?_
          repeat (go_big_quiet_step (fail))
          refine wpQuiet_nil ?_
          rintro _ hnq
          have hzq := ext_sz hnq
          obtain ⟨nq, rfl⟩ := hnq
          (try simp at hzq)
          go_wp2_with fail
          exact ⟨⟨i + 1, by omega, by omega, by go_num, hbel.trans (by (repeat' (first | (with_reducible exact Below.refl _ _) | (with_reducible assumption) | (with_reducible refine below_ext _ ?_ ?_) | (with_reducible refine Below.alloc ?_ ?_ _) | (with_reducible refine Below.drew ?_) | (with_reducible refine below_drewN ?_ _) | (with_reducible refine le_drewN _ ?_) | (with_reducible refine Below.setCell ?_ ?_ _) | (with_reducible exact Nat.le_refl _) | (with_reducible refine le_ext _ ?_) | (with_reducible refine le_alloc _ ?_) | (with_reducible refine le_setCell _ _ ?_) | (with_reducible refine le_drew ?_) | omega | (simp; done) | (simp; omega))))⟩, by simp [intOf]; omega⟩
        · by_cases h3 : n1 = 3
          · have e2 := TH.out h3
            have d1 : decide ((2 : Int) ≤ (n2 : Int)) = true := decide_eq_true (by omega)
            have d2 : decide ((3 : Int) < (n1 : Int)) = false := decide_eq_false (by omega)
            have d3 : ((n2 : Int) == 3) = true := by rw [e2]; rfl
            have BB : Hid (Below w.heap.size w wr) := hide (B1.trans ((D4.out.trans (hbel.mono s4)).mono s1))
            clear e2 h3 TW TH
            go_wp2_with fail
            go_ret
            exact ⟨rfl, BB.out⟩
          · have e2 := TW.out h3
            have d1 : decide ((2 : Int) ≤ (n2 : Int)) = true := decide_eq_true (by omega)
            have d2 : decide ((3 : Int) < (n1 : Int)) = true := decide_eq_true (by omega)
            have BB : Hid (Below w.heap.size w wr) := hide (B1.trans ((D4.out.trans (hbel.mono s4)).mono s1))
            clear e2 h3 TW TH
            go_wp2_with fail
            go_ret
            exact ⟨rfl, BB.out⟩
  · skip
    have hd : decide ((1048576 : Int) < (n : Int)) = true := decide_eq_true (by omega)
    go_enter Tryz.func3, Tryz.ntmps3
    go_wp2
    go_ret
    exact ⟨rfl, (by (repeat' (first | (with_reducible exact Below.refl _ _) | (with_reducible assumption) | (with_reducible refine below_ext _ ?_ ?_) | (with_reducible refine Below.alloc ?_ ?_ _) | (with_reducible refine Below.drew ?_) | (with_reducible refine below_drewN ?_ _) | (with_reducible refine le_drewN _ ?_) | (with_reducible refine Below.setCell ?_ ?_ _) | (with_reducible exact Nat.le_refl _) | (with_reducible refine le_ext _ ?_) | (with_reducible refine le_alloc _ ?_) | (with_reducible refine le_setCell _ _ ?_) | (with_reducible refine le_drew ?_) | omega | (simp; done) | (simp; omega))))⟩
end Go.Proofs.YtkkmioffclpmfaaGreat
