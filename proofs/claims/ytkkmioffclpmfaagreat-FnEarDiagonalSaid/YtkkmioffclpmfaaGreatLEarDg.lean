
/- FnEarDiagonal: the law's walk. -/
import Derived.Test.YtkkmioffclpmfaaGreatEarP
import Derived.Test.YtkkmioffclpmfaaGreatDrwE
import Derived.Test.YtkkmioffclpmfaaGreatEqI
import Derived.Test.YtkkmioffclpmfaaGreatDiagL
set_option linter.unusedVariables false
set_option linter.unusedSimpArgs false
namespace Go.Proofs.YtkkmioffclpmfaaGreat
open Go.RowKit

set_option maxHeartbeats 2000000 in
theorem lawEarDg (n c : Nat) (A : Option Addr) (w : World) (hn : n ≤ c) (hc : c ≤ 9223372036854775807) (hA : BytesAt w w.heap.size A n) :
    Calls Tryz.prog 4 #[.slice A n c] w fun e w' => e = .returned (.bool true) ∧ Below w.heap.size w w' := by
  by_cases hle : n ≤ 1048576
  · have hd : decide ((1048576 : Int) < (n : Int)) = false := decide_eq_false (by omega)
    go_enter Tryz.func4, Tryz.ntmps4
    go_wp2_with fail
    refine (drawEars_any n c A _ hn hc hA).mono ?_
    rintro e w1 ⟨v1, ps, rfl, o1, lp, cbp, B1⟩
    obtain ⟨A1, n1, c1, rfl⟩ := o1.slice
    have h1 := hide o1.pts.1
    have P1 := hide o1.pts.2.2.2
    have F1 := hide o1.form.1
    have k1 : n1 ≤ 9 := by have := h1.out; omega
    have IE := hide (fun (W : World) (hb : Below w1.heap.size w1 W) => iEars_any ps A1 n1 c1 W h1.out (by omega) F1.out (P1.out.to hb))
    have SE := hide (fun (W : World) (hb : Below w1.heap.size w1 W) => sEars_any ps A1 n1 c1 W h1.out (by omega) (P1.out.to hb))
    have DI := hide (fun (i k : Nat) (W : World) (hb : Below w1.heap.size w1 W) => iIsDiag_any ps i k A1 n1 c1 W h1.out (by omega) F1.out (P1.out.to hb))
    have s1 := B1.size
    have EV : Hid (earsV ps ≠ [] → earsV ps = earsL ps ∧ simB ps = true) := hide (fun h => by
      unfold earsV at h ⊢
      split at h
      · rename_i hh; rw [if_pos hh]; exact ⟨rfl, clipB_sim hh⟩
      · exact absurd rfl h)
    have EA : Hid (simB ps = true → 4 ≤ n1 → ∀ i, i < (earsL ps).length → ∃ v, v < n1 ∧ gi (earsL ps) i = (v : Int) ∧ diagI ps ((v + n1 - 1) % n1) ((v + 1) % n1) = true) := hide (fun hs h4 i hi => by
      obtain ⟨v, hv, he, e⟩ := ears_at hi
      have hl := h1.out
      subst hl
      exact ⟨v, hv, e, ear_diag hs h4 hv he⟩)
    have ID : Hid (simB ps = true → ∀ (i k : Nat) (W : World), i < n1 → k < n1 → Below w1.heap.size w1 W → Calls Tryz.prog 14 #[.slice A1 n1 c1, .int .i64 i, .int .i64 k] W fun e w' => e = .returned (.bool (diagI ps i k)) ∧ ∃ x, w' = ext W x) := hide (fun hok i k W hi hk hb => (DI.out i k W hb).mono (fun e w' hh => ⟨by rw [hh.1, dgB_2 (verB_iff.2 ⟨hok, by rw [h1.out]; omega, by rw [h1.out]; omega⟩), Int.toNat_natCast, Int.toNat_natCast], hh.2⟩))
    have T0 : Hid (simB ps = true → 3 ≤ n1) := hide (fun h => by have := (simB_parts h).2.1; have := h1.out; omega)
    clear o1 hA cbp P1 F1 DI
    generalize hL : earsV ps = L at *
    go_wp2_with fail
    refine (IE.out _ (by (repeat' (first | (with_reducible exact Below.refl _ _) | (with_reducible assumption) | (with_reducible refine below_ext _ ?_ ?_) | (with_reducible refine Below.alloc ?_ ?_ _) | (with_reducible refine Below.drew ?_) | (with_reducible refine below_drewN ?_ _) | (with_reducible refine le_drewN _ ?_) | (with_reducible refine Below.setCell ?_ ?_ _) | (with_reducible exact Nat.le_refl _) | (with_reducible refine le_ext _ ?_) | (with_reducible refine le_alloc _ ?_) | (with_reducible refine le_setCell _ _ ?_) | (with_reducible refine le_drew ?_) | omega | (simp; done) | (simp; omega))))).mono ?_
    rintro e w2 ⟨A2, n2, rfl, l2, q2, r2, hx2⟩
    have D2 := hide (ext_bel hx2)
    have R2 := hide r2.ints
    have L2 := hide l2
    clear hx2 r2 IE l2
    go_wp2_with fail
    refine (SE.out _ D2.out).mono ?_
    rintro e w3 ⟨v3, rfl, own3, hx3⟩
    obtain ⟨A3, n3, c3, rfl⟩ := own_slice own3
    have l3 := own3.ints.1
    have R3 := hide own3.ints.2.2.2
    have E3 := hide (ext_bel hx3)
    have D3 := hide (D2.out.trans (E3.out.mono D2.out.size))
    clear hx3 own3
    go_wp2_with fail
    refine (equalInts_any L L _ _ _ _ _ _ _ L2.out l3 (by omega) (by have := L2.out; omega) (R2.out.to E3.out) R3.out).mono ?_
    rintro e w4 ⟨rfl, hx4⟩
    have dt : decide (L = L) = true := decide_eq_true rfl
    have E4 := hide (ext_bel hx4)
    have D4 := hide (D3.out.trans (E4.out.mono D3.out.size))
    have R4 := hide ((R2.out.to E3.out).to E4.out)
    clear hx4 R3 l3 R2
    by_cases h0 : n2 = 0 ∨ n1 = 3
    · have MM : ((n2 : Int) == 0) = true ∨ (((n2 : Int) == 0) = false ∧ ((n1 : Int) == 3) = true) := by
        by_cases h : n2 = 0
        · left; rw [h]; rfl
        · right; exact ⟨by rw [beq_eq_false_iff_ne]; omega, by rw [beq_iff_eq]; omega⟩
      clear h0
      rcases MM with d0 | ⟨d0, d1⟩
      all_goals
        go_wp2_with fail
        refine (SE.out _ D4.out).mono ?_
        rintro e w5 ⟨v5, rfl, own5, hx5⟩
        obtain ⟨A5, n5, c5, rfl⟩ := own_slice own5
        have l5 := own5.ints.1
        have R5 := hide own5.ints.2.2.2
        have E5 := hide (ext_bel hx5)
        have D5 := hide (D4.out.trans (E5.out.mono D4.out.size))
        clear hx5 own5
        go_wp2_with fail
        refine (equalInts_any L L _ _ _ _ _ _ _ L2.out l5 (by omega) (by have := L2.out; omega) (R4.out.to E5.out) R5.out).mono ?_
        rintro e w6 ⟨rfl, hx6⟩
        have D6 := hide (D5.out.trans ((ext_bel hx6).mono D5.out.size))
        clear hx6
        go_wp2_with fail
        go_ret
        exact ⟨rfl, B1.trans (D6.out.mono s1)⟩
    · have d0 : ((n2 : Int) == 0) = false := by rw [beq_eq_false_iff_ne]; omega
      have d1 : ((n1 : Int) == 3) = false := by rw [beq_eq_false_iff_ne]; omega
      obtain ⟨eL, hs⟩ := EV.out (fun e => h0 (by have := L2.out; rw [e] at this; simp at this; omega))
      have t0 := T0.out hs
      have EA2 := hide (EA.out hs (by omega))
      have IDS := hide (ID.out hs)
      rw [← eL, L2.out] at EA2
      clear EV eL hs EA ID T0 SE h0
      have s4 := D4.out.size
      go_wp2_with fail
      go_loopw [6] (fun u6 wr => ∃ i : Nat, i ≤ n2 ∧ u6 = .int .i64 i ∧ Below w4.heap.size w4 wr) (fun u6 _ => n2 - (intOf u6).toNat)
      case atStart => exact ⟨0, Nat.zero_le _, rfl, Below.refl _ _⟩
      case round =>
        obtain ⟨i, hi, rfl, hbel⟩ := hrel
        have hsz := hbel.size
        by_cases hlt : i < n2
        · obtain ⟨v, hv, ev, dg⟩ := EA2.out i hlt
          obtain ⟨b, o, rfl, hb, hcs⟩ := R4.out (by rw [L2.out]; omega)
          have x0 := (hbel.cell (p := ⟨b, o + i, none⟩) hb).trans (hcs i (by rw [L2.out]; exact hlt))
          rw [ev] at x0
          obtain ⟨j1, hj1⟩ : ∃ j, j = (v + n1 - 1) % n1 := ⟨_, rfl⟩
          obtain ⟨j2, hj2⟩ : ∃ j, j = (v + 1) % n1 := ⟨_, rfl⟩
          have hl1 : j1 < n1 := by rw [hj1]; exact Nat.mod_lt _ (by omega)
          have hl2 : j2 < n1 := by rw [hj2]; exact Nat.mod_lt _ (by omega)
          rw [← hj1, ← hj2] at dg
          have IDj := hide (fun (W : World) (hb : Below w1.heap.size w1 W) => (IDS.out j1 j2 W hl1 hl2 hb).mono (fun e w' hh => And.intro (hh.1.trans (by rw [dg])) hh.2))
          have e1 : Int.tmod ((v : Int) + (n1 : Int) - 1) (n1 : Int) = (j1 : Int) := by
            rw [hj1, show ((v : Int) + (n1 : Int) - 1) = ((v + n1 - 1 : Nat) : Int) by omega]
            exact (Int.ofNat_tmod (v + n1 - 1) n1).symm
          have e2 : Int.tmod ((v : Int) + 1) (n1 : Int) = (j2 : Int) := by rw [hj2]; exact (Int.ofNat_tmod (v + 1) n1).symm
          have w1' : IntKind.i64.wrap ((v : Int) + (n1 : Int)) = (v : Int) + (n1 : Int) := IntWalk.i64_in _ (by omega)
          have w2' : IntKind.i64.wrap ((v : Int) + (n1 : Int) - 1) = (v : Int) + (n1 : Int) - 1 := IntWalk.i64_in _ (by omega)
          have w3' : IntKind.i64.wrap (j1 : Int) = (j1 : Int) := IntWalk.i64_in _ (by omega)
          have w4' : IntKind.i64.wrap (j2 : Int) = (j2 : Int) := IntWalk.i64_in _ (by omega)
          have w5' : IntKind.i64.wrap ((v : Int) + 1) = (v : Int) + 1 := IntWalk.i64_in _ (by omega)
          have q1 : (0 : Int) ≤ (i : Int) := by omega
          have q2 : (i : Int) < (n2 : Int) := by omega
          have q3 : ¬ n1 = 0 := by omega
          have lb : b < wr.heap.size := Nat.lt_of_lt_of_le hb hsz
          clear hcs ev dg hj1 hj2
          have HBB := hide (fun (W : World) (hb : Below wr.heap.size wr W) => D4.out.trans ((hbel.trans (hb.mono hsz)).mono s4))
          go_wp2_with fail
          refine wp_region_ext (by kernel_rfl) (by kernel_rfl) ?_
          repeat (go_big_quiet_step ((first | (go_at_call 14; exact Calls.in_ext (IDj.out _ (HBB.out _ (ext_below _ _)))))))
          refine wpQuiet_nil ?_
          rintro _ hnq
          have hzq := ext_sz hnq
          obtain ⟨nq, rfl⟩ := hnq
          (try simp at hzq)
          go_wp2_with fail
          exact ⟨⟨i + 1, by omega, by go_num, hbel.trans (by (repeat' (first | (with_reducible exact Below.refl _ _) | (with_reducible assumption) | (with_reducible refine below_ext _ ?_ ?_) | (with_reducible refine Below.alloc ?_ ?_ _) | (with_reducible refine Below.drew ?_) | (with_reducible refine below_drewN ?_ _) | (with_reducible refine le_drewN _ ?_) | (with_reducible refine Below.setCell ?_ ?_ _) | (with_reducible exact Nat.le_refl _) | (with_reducible refine le_ext _ ?_) | (with_reducible refine le_alloc _ ?_) | (with_reducible refine le_setCell _ _ ?_) | (with_reducible refine le_drew ?_) | omega | (simp; done) | (simp; omega))))⟩, by simp [intOf]; omega⟩
        · have BB : Hid (Below w.heap.size w wr) := hide (B1.trans ((D4.out.trans (hbel.mono s4)).mono s1))
          go_wp2_with fail
          go_ret
          exact ⟨rfl, BB.out⟩
  · skip
    have hd : decide ((1048576 : Int) < (n : Int)) = true := decide_eq_true (by omega)
    go_enter Tryz.func4, Tryz.ntmps4
    go_wp2
    go_ret
    exact ⟨rfl, (by (repeat' (first | (with_reducible exact Below.refl _ _) | (with_reducible assumption) | (with_reducible refine below_ext _ ?_ ?_) | (with_reducible refine Below.alloc ?_ ?_ _) | (with_reducible refine Below.drew ?_) | (with_reducible refine below_drewN ?_ _) | (with_reducible refine le_drewN _ ?_) | (with_reducible refine Below.setCell ?_ ?_ _) | (with_reducible exact Nat.le_refl _) | (with_reducible refine le_ext _ ?_) | (with_reducible refine le_alloc _ ?_) | (with_reducible refine le_setCell _ _ ?_) | (with_reducible refine le_drew ?_) | omega | (simp; done) | (simp; omega))))⟩
end Go.Proofs.YtkkmioffclpmfaaGreat
