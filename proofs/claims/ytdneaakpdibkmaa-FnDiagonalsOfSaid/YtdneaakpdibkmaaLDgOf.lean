
/- FnDiagonalsOf: the law's walk. -/
import Derived.Test.YtdneaakpdibkmaaDiagOf
import Derived.Test.YtdneaakpdibkmaaDiagL
import Derived.Test.YtdneaakpdibkmaaDrawD
set_option linter.unusedVariables false
set_option linter.unusedSimpArgs false
namespace Go.Proofs.Ytdneaakpdibkmaa
open Go.RowKit

set_option maxHeartbeats 400000 in
theorem iSim3_any (ps : List Pt) (A : Option Addr) (n c : Nat) (w : World) (hn : ps.length = n) (hm : n ≤ 2000000) (hA : Plain A n) (hs : PtsAt w w.heap.size A ps) :
    Calls Try.prog 30 #[.slice A n c] w fun e w' => e = .returned (.bool (simB ps)) ∧ ∃ x, w' = ext w x := by
  have HC := hide (simple_any ps A n c w hn hm hA hs)
  clear hn hs
  go_enter Try.func30, Try.ntmps30
  go_wp2_with fail
  refine HC.out.mono ?_
  rintro e w' ⟨rfl, hw'⟩; have hzy1 := ext_sz hw'; obtain ⟨y1, rfl⟩ := hw'; (try simp at hzy1)
  go_wp2_with fail
  go_ret
  exact ⟨rfl, (ext_mk (by (repeat' (first | (with_reducible exact Below.refl _ _) | (with_reducible assumption) | (with_reducible refine below_ext _ ?_ ?_) | (with_reducible refine Below.alloc ?_ ?_ _) | (with_reducible refine Below.drew ?_) | (with_reducible refine below_drewN ?_ _) | (with_reducible refine le_drewN _ ?_) | (with_reducible refine Below.setCell ?_ ?_ _) | (with_reducible exact Nat.le_refl _) | (with_reducible refine le_ext _ ?_) | (with_reducible refine le_alloc _ ?_) | (with_reducible refine le_setCell _ _ ?_) | (with_reducible refine le_drew ?_) | omega | (simp; done) | (simp; omega)))))⟩
set_option maxHeartbeats 4000000 in
theorem lawDgOf (n c : Nat) (A : Option Addr) (w : World) (hn : n ≤ c) (hc : c ≤ 9223372036854775807) (hA : BytesAt w w.heap.size A n) :
    Calls Try.prog 10 #[.slice A n c] w fun e w' => e = .returned (.bool true) ∧ Below w.heap.size w w' := by
  by_cases hle : n ≤ 1048576
  · have hd : decide ((1048576 : Int) < (n : Int)) = false := decide_eq_false (by omega)
    go_enter Try.func10, Try.ntmps10
    go_wp2_with fail
    refine (drawDiags_any n c A _ hn hc hA).mono ?_
    rintro e w1 ⟨v1, ps, rfl, o1, lp, cbp, B1⟩
    obtain ⟨A1, n1, c1, rfl⟩ := o1.slice
    have h1 := hide o1.pts.1
    have P1 := hide o1.pts.2.2.2
    have F1 := hide o1.form.1
    have k1 : n1 ≤ 9 := by have := h1.out; omega
    have DG := hide (fun (W : World) (hb : Below w1.heap.size w1 W) => iDiags_any' ps A1 n1 c1 W h1.out (by omega) F1.out (P1.out.to hb))
    have SG := hide (fun (W : World) (hb : Below w1.heap.size w1 W) => sDiags_any ps A1 n1 c1 W h1.out (by omega) (P1.out.to hb))
    have IS := hide (fun (W : World) (hb : Below w1.heap.size w1 W) => iSim3_any ps A1 n1 c1 W h1.out (by omega) F1.out (P1.out.to hb))
    have DI := hide (fun (i k : Nat) (W : World) (hb : Below w1.heap.size w1 W) => iIsDiag_any ps i k A1 n1 c1 W h1.out (by omega) F1.out (P1.out.to hb))
    have s1 := B1.size
    have LM := diagL_len ps
    clear o1 hA cbp P1 F1
    by_cases hok : simB ps = true
    · rw [hok] at IS
      have h3 : 3 ≤ n1 := by have := (simB_parts hok).2.1; rw [← h1.out]; exact this
      have LP : n1 ≠ 3 → 0 < (diagL ps).length := fun h => diagL_pos hok (by rw [h1.out]; omega)
      have ID : Hid (∀ (i k : Nat) (W : World), i < n1 → k < n1 → Below w1.heap.size w1 W → Calls Try.prog 28 #[.slice A1 n1 c1, .int .i64 i, .int .i64 k] W fun e w' => e = .returned (.bool (diagI ps i k)) ∧ ∃ x, w' = ext W x) := hide (fun i k W hi hk hb => (DI.out i k W hb).mono (fun e w' hh => ⟨by rw [hh.1, dgB_2 (verB_iff.2 ⟨hok, by rw [h1.out]; omega, by rw [h1.out]; omega⟩), Int.toNat_natCast, Int.toNat_natCast], hh.2⟩))
      have AT := hide (fun i k => pre_at (ps := ps) hok (i := i) (k := k))
      have ALL := hide (dTo_all hok)
      have NX := hide (dTo_succ ps)
      have T0 : Hid (dTo ps 0 = []) := hide rfl
      have R0 := hide (dRow_nil ps)
      have RY := hide (fun a b => dRow_yes (ps := ps) (a := a) (b := b))
      have RN := hide (fun a b => dRow_no (ps := ps) (a := a) (b := b))
      have RUN : Hid (∀ (i k : Nat) (W : World), (binOp .neq 51 (.agg #[.int .i64 (i : Int), .int .i64 (k : Int)]) (.agg #[.int .i64 (i : Int), .int .i64 (k : Int)])).run Try.prog W = .ok (.bool false) W) := hide (fun i k W => (run_neR i k i k W).trans (by simp [eqP]))
      rw [h1.out] at AT ALL NX
      have TL := hide (dTo_len ps)
      have RL := hide (dRow_len ps)
      rw [h1.out] at TL
      clear DI hok
      generalize diagL ps = L at *
      go_wp2_with fail
      refine (DG.out _ (by (repeat' (first | (with_reducible exact Below.refl _ _) | (with_reducible assumption) | (with_reducible refine below_ext _ ?_ ?_) | (with_reducible refine Below.alloc ?_ ?_ _) | (with_reducible refine Below.drew ?_) | (with_reducible refine below_drewN ?_ _) | (with_reducible refine le_drewN _ ?_) | (with_reducible refine Below.setCell ?_ ?_ _) | (with_reducible exact Nat.le_refl _) | (with_reducible refine le_ext _ ?_) | (with_reducible refine le_alloc _ ?_) | (with_reducible refine le_setCell _ _ ?_) | (with_reducible refine le_drew ?_) | omega | (simp; done) | (simp; omega))))).mono ?_
      rintro e w6 ⟨A6, n6, c6, rfl, l6, q6, qb6, pr6, pl6, hx6⟩
      have D6 := hide (ext_bel hx6)
      have R6 := hide pr6.pts
      clear hx6 pr6 DG
      go_wp2_with fail
      refine (SG.out _ D6.out).mono ?_
      rintro e w7 ⟨v7, rfl, own7, hx7⟩
      obtain ⟨A7, n7, c7, rfl⟩ := own7.slice
      have l7 := own7.pts.1
      have R7 := hide own7.pts.2.2.2
      have E7 := hide (ext_bel hx7)
      have D7 := hide (D6.out.trans (E7.out.mono D6.out.size))
      clear hx7 own7 SG
      have L6 := hide l6
      go_wp2_with fail
      refine (equalPairs_any L L _ _ _ _ _ _ _ l6 l7 (by omega) (by omega) (R6.out.to E7.out) R7.out).mono ?_
      rintro e w8 ⟨rfl, hx8⟩
      have dt : decide (L = L) = true := decide_eq_true rfl
      have E8 := hide (ext_bel hx8)
      have D8 := hide (D7.out.trans (E8.out.mono D7.out.size))
      have G8 := hide ((E7.out.trans (E8.out.mono E7.out.size)))
      clear hx8 R7 l7
      go_wp2_with fail
      refine (IS.out _ D8.out).mono ?_
      rintro e w' ⟨rfl, hw'⟩; have hzy9 := ext_sz hw'; obtain ⟨y9, rfl⟩ := hw'; (try simp at hzy9)
      have D9 := hide (D8.out.trans ((ext_below w8 y9).mono D8.out.size))
      have G9 := hide (G8.out.trans ((ext_below w8 y9).mono G8.out.size))
      generalize ext w8 y9 = w9 at *
      have R9 := hide (R6.out.to G9.out)
      clear R6 D7 D8 E7 E8 G8 IS
      have s9 := D9.out.size
      go_wp2_with fail
      go_loopw [5, 6, 7] (fun u5 u6 _ wr => ∃ a : Nat, a ≤ n1 ∧ u6 = .int .i64 a ∧ u5 = .int .i64 (dTo ps a).length ∧ Below w9.heap.size w9 wr) (fun _ u6 _ _ => n1 - (intOf u6).toNat)
      case atStart => exact ⟨0, Nat.zero_le _, rfl, by rw [T0.out]; rfl, (by (repeat' (first | (with_reducible exact Below.refl _ _) | (with_reducible assumption) | (with_reducible refine below_ext _ ?_ ?_) | (with_reducible refine Below.alloc ?_ ?_ _) | (with_reducible refine Below.drew ?_) | (with_reducible refine below_drewN ?_ _) | (with_reducible refine le_drewN _ ?_) | (with_reducible refine Below.setCell ?_ ?_ _) | (with_reducible exact Nat.le_refl _) | (with_reducible refine le_ext _ ?_) | (with_reducible refine le_alloc _ ?_) | (with_reducible refine le_setCell _ _ ?_) | (with_reducible refine le_drew ?_) | omega | (simp; done) | (simp; omega))))⟩
      case round =>
        obtain ⟨a, ha, rfl, rfl, hbel⟩ := hrel
        have hsz := hbel.size
        obtain ⟨W0, hW0⟩ : ∃ W0, W0 = wr := ⟨_, rfl⟩
        subst hW0
        by_cases hlt : a < n1
        · go_wp2_with fail
          go_loopw [5, 7] (fun u5 u7 wr => ∃ b : Nat, a + 1 ≤ b ∧ b ≤ n1 ∧ u7 = .int .i64 b ∧ u5 = .int .i64 (dTo ps a ++ dRow ps a b).length ∧ Below w9.heap.size w9 wr) (fun _ u7 _ => n1 - (intOf u7).toNat)
          case atStart => exact ⟨a + 1, Nat.le_refl _, by omega, by go_num, by rw [R0.out, List.append_nil], hbel⟩
          case round =>
            obtain ⟨b, hb1, hb2, rfl, rfl, hbel2⟩ := hrel
            have hsz2 := hbel2.size
            have hal : (dTo ps a ++ dRow ps a b).length ≤ 2000 := by
              have h1 := TL.out a
              have h2 : a * n1 ≤ 9 * 9 := Nat.mul_le_mul (by omega) k1
              have h3 := RL.out a b
              rw [List.length_append]; omega
            by_cases hlt2 : b < n1
            · have DB := hide (ID.out a b)
              by_cases hd : diagI ps a b = true
              · rw [hd] at DB
                obtain ⟨at1, at2, at3⟩ := AT.out a b (by omega) hlt2 hd
                have NXT := hide (RY.out a b hb1 hd)
                obtain ⟨g6, o6, rfl, hb6, hc6⟩ := R9.out (by omega)
                obtain ⟨hx0, hy0⟩ := hc6 _ at1
                rw [at2] at hx0
                rw [at3] at hy0
                have hx := (hbel2.cell (p := ⟨g6, o6 + (dTo ps a ++ dRow ps a b).length * 2, none⟩) hb6).trans hx0
                have hy := (hbel2.cell (p := ⟨g6, o6 + (dTo ps a ++ dRow ps a b).length * 2 + 1, none⟩) hb6).trans hy0
                have NL : Hid ((dTo ps a ++ dRow ps a (b + 1)).length = (dTo ps a ++ dRow ps a b).length + 1) := hide (by rw [NXT.out, ← List.append_assoc]; exact List.length_append)
                rw [L6.out] at at1
                clear hc6 hx0 hy0 at2 at3 hd
                generalize (dTo ps a ++ dRow ps a b).length = z at *
                have d1 : ((z : Int) == (n6 : Int)) = false := by rw [beq_eq_false_iff_ne]; omega
                have rn := RUN.out a b
                have q1 : (0 : Int) ≤ (z : Int) := by omega
                have q2 : (z : Int) < (n6 : Int) := by omega
                go_wp2_with fail
                refine (DB.out _ hlt hlt2 (D9.out.trans (hbel2.mono s9))).mono ?_
                rintro e w' ⟨rfl, hw'⟩; have hzy2 := ext_sz hw'; obtain ⟨y2, rfl⟩ := hw'; (try simp at hzy2)
                go_wp2_with fail
                exact ⟨⟨b + 1, by omega, by omega, by go_num, by rw [NL.out]; go_num, hbel2.trans (by (repeat' (first | (with_reducible exact Below.refl _ _) | (with_reducible assumption) | (with_reducible refine below_ext _ ?_ ?_) | (with_reducible refine Below.alloc ?_ ?_ _) | (with_reducible refine Below.drew ?_) | (with_reducible refine below_drewN ?_ _) | (with_reducible refine le_drewN _ ?_) | (with_reducible refine Below.setCell ?_ ?_ _) | (with_reducible exact Nat.le_refl _) | (with_reducible refine le_ext _ ?_) | (with_reducible refine le_alloc _ ?_) | (with_reducible refine le_setCell _ _ ?_) | (with_reducible refine le_drew ?_) | omega | (simp; done) | (simp; omega))))⟩, by simp [intOf]; omega⟩
              · have hd := eq_false_of_ne_true hd
                rw [hd] at DB
                have NXT := hide (RN.out a b hb1 hd)
                go_wp2_with fail
                refine (DB.out _ hlt hlt2 (D9.out.trans (hbel2.mono s9))).mono ?_
                rintro e w' ⟨rfl, hw'⟩; have hzy2 := ext_sz hw'; obtain ⟨y2, rfl⟩ := hw'; (try simp at hzy2)
                go_wp2_with fail
                exact ⟨⟨b + 1, by omega, by omega, by go_num, by first | (rw [NXT.out]; done) | (rw [NXT.out, List.length_append]; done) | (rw [NXT.out, List.length_append]; push_cast; rfl), hbel2.trans (by (repeat' (first | (with_reducible exact Below.refl _ _) | (with_reducible assumption) | (with_reducible refine below_ext _ ?_ ?_) | (with_reducible refine Below.alloc ?_ ?_ _) | (with_reducible refine Below.drew ?_) | (with_reducible refine below_drewN ?_ _) | (with_reducible refine le_drewN _ ?_) | (with_reducible refine Below.setCell ?_ ?_ _) | (with_reducible exact Nat.le_refl _) | (with_reducible refine le_ext _ ?_) | (with_reducible refine le_alloc _ ?_) | (with_reducible refine le_setCell _ _ ?_) | (with_reducible refine le_drew ?_) | omega | (simp; done) | (simp; omega))))⟩, by simp [intOf]; omega⟩
            · have eb : b = n1 := by omega
              have NXA := hide (NX.out a)
              rw [eb]
              go_wp2_with fail
              exact ⟨⟨a + 1, by omega, by go_num, by first | (rw [NXA.out]; done) | (rw [NXA.out, List.length_append]; done) | (rw [NXA.out, List.length_append]; push_cast; rfl), hbel2⟩, by simp [intOf]; omega⟩
        · have ea : a = n1 := by omega
          have e1 : (dTo ps a).length = n6 := by rw [ea, ALL.out]; exact L6.out
          have d1 : (((dTo ps a).length : Int) == (n6 : Int)) = true := by rw [e1]; simp
          have BB : Hid (Below w.heap.size w W0) := hide (B1.trans ((D9.out.trans (hbel.mono s9)).mono s1))
          rw [e1] at d1 ⊢
          by_cases h33 : n1 = 3
          · have d2 : ((n1 : Int) == 3) = true := by rw [h33]; rfl
            go_wp2_with fail
            go_ret
            exact ⟨rfl, BB.out⟩
          · have d2 : ((n1 : Int) == 3) = false := by rw [beq_eq_false_iff_ne]; omega
            have lp := LP h33
            rw [L6.out] at lp
            have d3 : decide ((0 : Int) < (n6 : Int)) = true := decide_eq_true (by omega)
            go_wp2_with fail
            go_ret
            exact ⟨rfl, BB.out⟩
    · have hok := eq_false_of_ne_true hok
      rw [hok] at IS
      clear DI hok
      generalize diagL ps = L at *
      go_wp2_with fail
      refine (DG.out _ (by (repeat' (first | (with_reducible exact Below.refl _ _) | (with_reducible assumption) | (with_reducible refine below_ext _ ?_ ?_) | (with_reducible refine Below.alloc ?_ ?_ _) | (with_reducible refine Below.drew ?_) | (with_reducible refine below_drewN ?_ _) | (with_reducible refine le_drewN _ ?_) | (with_reducible refine Below.setCell ?_ ?_ _) | (with_reducible exact Nat.le_refl _) | (with_reducible refine le_ext _ ?_) | (with_reducible refine le_alloc _ ?_) | (with_reducible refine le_setCell _ _ ?_) | (with_reducible refine le_drew ?_) | omega | (simp; done) | (simp; omega))))).mono ?_
      rintro e w6 ⟨A6, n6, c6, rfl, l6, q6, qb6, pr6, pl6, hx6⟩
      have D6 := hide (ext_bel hx6)
      have R6 := hide pr6.pts
      clear hx6 pr6 DG
      go_wp2_with fail
      refine (SG.out _ D6.out).mono ?_
      rintro e w7 ⟨v7, rfl, own7, hx7⟩
      obtain ⟨A7, n7, c7, rfl⟩ := own7.slice
      have l7 := own7.pts.1
      have R7 := hide own7.pts.2.2.2
      have E7 := hide (ext_bel hx7)
      have D7 := hide (D6.out.trans (E7.out.mono D6.out.size))
      clear hx7 own7
      go_wp2_with fail
      refine (equalPairs_any L L _ _ _ _ _ _ _ l6 l7 (by omega) (by omega) (R6.out.to E7.out) R7.out).mono ?_
      rintro e w8 ⟨rfl, hx8⟩
      have dt : decide (L = L) = true := decide_eq_true rfl
      have E8 := hide (ext_bel hx8)
      have D8 := hide (D7.out.trans (E8.out.mono D7.out.size))
      have R8 := hide ((R6.out.to E7.out).to E8.out)
      clear hx8 R7 l7 R6
      go_wp2_with fail
      refine (IS.out _ D8.out).mono ?_
      rintro e w' ⟨rfl, hw'⟩; have hzy9 := ext_sz hw'; obtain ⟨y9, rfl⟩ := hw'; (try simp at hzy9)
      have D9 := hide (D8.out.trans ((ext_below w8 y9).mono D8.out.size))
      have R9 := hide (R8.out.to (ext_below w8 y9))
      generalize ext w8 y9 = w9 at *
      clear R8 D7 D8 E7 E8
      go_wp2_with fail
      refine (SG.out _ D9.out).mono ?_
      rintro e w10 ⟨v10, rfl, own10, hx10⟩
      obtain ⟨A10, n10, c10, rfl⟩ := own10.slice
      have l10 := own10.pts.1
      have R10 := hide own10.pts.2.2.2
      have E10 := hide (ext_bel hx10)
      have D10 := hide (D9.out.trans (E10.out.mono D9.out.size))
      clear hx10 own10
      go_wp2_with fail
      refine (equalPairs_any L L _ _ _ _ _ _ _ l6 l10 (by omega) (by omega) (R9.out.to E10.out) R10.out).mono ?_
      rintro e w11 ⟨rfl, hx11⟩
      have D11 := hide (D10.out.trans ((ext_bel hx11).mono D10.out.size))
      clear hx11
      go_wp2_with fail
      go_ret
      exact ⟨rfl, B1.trans (D11.out.mono s1)⟩
  · skip
    have hd : decide ((1048576 : Int) < (n : Int)) = true := decide_eq_true (by omega)
    go_enter Try.func10, Try.ntmps10
    go_wp2
    go_ret
    exact ⟨rfl, (by (repeat' (first | (with_reducible exact Below.refl _ _) | (with_reducible assumption) | (with_reducible refine below_ext _ ?_ ?_) | (with_reducible refine Below.alloc ?_ ?_ _) | (with_reducible refine Below.drew ?_) | (with_reducible refine below_drewN ?_ _) | (with_reducible refine le_drewN _ ?_) | (with_reducible refine Below.setCell ?_ ?_ _) | (with_reducible exact Nat.le_refl _) | (with_reducible refine le_ext _ ?_) | (with_reducible refine le_alloc _ ?_) | (with_reducible refine le_setCell _ _ ?_) | (with_reducible refine le_drew ?_) | omega | (simp; done) | (simp; omega))))⟩
end Go.Proofs.Ytdneaakpdibkmaa
