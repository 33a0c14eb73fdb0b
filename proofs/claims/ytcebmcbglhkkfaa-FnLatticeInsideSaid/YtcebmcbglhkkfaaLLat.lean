
/- FnLatticeInside: the law's walk. -/
import Derived.Test.YtcebmcbglhkkfaaLatS
import Derived.Test.YtcebmcbglhkkfaaDrwL
import Derived.Test.YtcebmcbglhkkfaaSCan
import Derived.Test.YtcebmcbglhkkfaaHlp2
import Derived.Deep.RegionHeld3
set_option linter.unusedVariables false
set_option linter.unusedSimpArgs false
namespace Go.Proofs.Ytcebmcbglhkkfaa
open Go.RowKit

theorem take_one {L : List Pt} (h : 0 < L.length) : L.take 1 = [gp L 0] := by
  match L, h with
  | p :: r, _ => rfl
theorem lat_sorted {L : List Pt} (h : 0 < L.length) (hin : ∀ q ∈ L, (-1000 ≤ q.x ∧ q.x ≤ 1000) ∧ -1000 ≤ q.y ∧ q.y ≤ 1000) : sortO (L.take 1) = L.take 1 := by
  rw [take_one h]
  have hq := hin _ (gp_mem h)
  have ok : listOk [gp L 0] = true := by
    have hv : vP (gp L 0).x (gp L 0).y = true := vP_iff.2 (by omega)
    unfold listOk allOk
    simp [Pt.ok, hv]
  unfold sortO
  rw [if_pos ok]; rfl
set_option maxRecDepth 20000 in
set_option maxHeartbeats 4000000 in
theorem lawLat (n c : Nat) (A : Option Addr) (w : World) (hn : n ≤ c) (hc : c ≤ 9223372036854775807) (hA : BytesAt w w.heap.size A n) :
    Calls Try.prog 4 #[.slice A n c] w fun e w' => e = .returned (.bool true) ∧ Below w.heap.size w w' := by
  by_cases hle : n ≤ 1048576
  · have hd : decide ((1048576 : Int) < (n : Int)) = false := decide_eq_false (by omega)
    go_enter Try.func4, Try.ntmps4
    go_wp2_with fail
    refine (drawLat_any n c A _ hn hc hA).mono ?_
    rintro e w1 ⟨v1, ps, rfl, o1, lp, cbp, B1⟩
    obtain ⟨A1, n1, c1, rfl⟩ := o1.slice
    have h1 := hide o1.pts.1
    have P1 := hide o1.pts.2.2.2
    have F1 := hide o1.form.1
    have k1 : n1 ≤ 9 := by have := h1.out; omega
    have IE := hide (fun (W : World) (hb : Below w1.heap.size w1 W) => iLat_any ps A1 n1 c1 W h1.out (by omega) F1.out (P1.out.to hb))
    have SE := hide (fun (W : World) (hb : Below w1.heap.size w1 W) => sLat_any ps A1 n1 c1 W h1.out (by omega) (P1.out.to hb))
    have IN := hide (fun (W : World) (hb : Below w1.heap.size w1 W) => iInt_any ps A1 n1 c1 W h1.out (by omega) F1.out (P1.out.to hb))
    have LO := hide (fun (x y : Int) (W : World) (hb : Below w1.heap.size w1 W) => iLocate_any ps x y A1 n1 c1 W h1.out (by omega) F1.out (P1.out.to hb))
    have s1 := B1.size
    have EV := hide (latV_count (ps := ps))
    have TL := hide (latV_len ps)
    clear o1 hA cbp
    generalize hL : latV ps = L at *
    go_wp2_with fail
    refine (IE.out _ (by (repeat' (first | (with_reducible first | exact Below.refl _ _ | assumption | refine below_ext _ ?_ ?_ | refine Below.alloc ?_ ?_ _ | refine Below.drew ?_ | refine below_drewN ?_ _ | refine le_drewN _ ?_ | refine Below.setCell ?_ ?_ _ | exact Nat.le_refl _ | refine le_ext _ ?_ | refine le_alloc _ ?_ | refine le_setCell _ _ ?_ | refine le_drew ?_) | omega | (simp; done) | (simp; omega))))).mono ?_
    rintro e w2 ⟨A2, n2, rfl, l2, pl2, hs2, hx2⟩
    have D2 := hide (ext_bel hx2)
    have R2 := hide hs2
    have L2 := hide l2
    have q2 : n2 ≤ 1000 := by have := TL.out; have := L2.out; omega
    clear hx2 hs2 IE TL l2
    go_wp2_with fail
    refine (SE.out _ D2.out).mono ?_
    rintro e w3 ⟨v3, rfl, own3, hx3⟩
    obtain ⟨A3, n3, c3, rfl⟩ := own3.slice
    have l3 := own3.pts.1
    have R3 := hide own3.pts.2.2.2
    have E3 := hide (ext_bel hx3)
    have D3 := hide (D2.out.trans (E3.out.mono D2.out.size))
    clear hx3 own3
    go_wp2_with fail
    refine (equalPoints_any L L _ _ _ _ _ _ _ L2.out l3 (by omega) (by have := L2.out; omega) (R2.out.to E3.out) R3.out).mono ?_
    rintro e w4 ⟨rfl, hx4⟩
    have dt : decide (L = L) = true := decide_eq_true rfl
    have E4 := hide (ext_bel hx4)
    have D4 := hide (D3.out.trans (E4.out.mono D3.out.size))
    have R4 := hide ((R2.out.to E3.out).to E4.out)
    clear hx4 R3 l3 R2
    by_cases h0 : n2 = 0
    · have d0 : ((n2 : Int) == 0) = true := by rw [h0]; rfl
      clear h0
      go_wp2_with fail
      refine (SE.out _ D4.out).mono ?_
      rintro e w5 ⟨v5, rfl, own5, hx5⟩
      obtain ⟨A5, n5, c5, rfl⟩ := own5.slice
      have l5 := own5.pts.1
      have R5 := hide own5.pts.2.2.2
      have E5 := hide (ext_bel hx5)
      have D5 := hide (D4.out.trans (E5.out.mono D4.out.size))
      clear hx5 own5
      go_wp2_with fail
      refine (equalPoints_any L L _ _ _ _ _ _ _ L2.out l5 (by omega) (by have := L2.out; omega) (R4.out.to E5.out) R5.out).mono ?_
      rintro e w6 ⟨rfl, hx6⟩
      have D6 := hide (D5.out.trans ((ext_bel hx6).mono D5.out.size))
      clear hx6
      go_wp2_with fail
      go_ret
      exact ⟨rfl, B1.trans (D6.out.mono s1)⟩
    · have d0 : ((n2 : Int) == 0) = false := by rw [beq_eq_false_iff_ne]; omega
      obtain ⟨hsim, hcnt, hin⟩ := EV.out (fun e => h0 (by have := L2.out; rw [e] at this; simp at this; omega))
      have LOK : Hid (∀ i, i < n2 → ∀ W : World, Below w1.heap.size w1 W → Calls Try.prog 16 #[.slice A1 n1 c1, .agg #[.int .i64 (pX L i), .int .i64 (pY L i)]] W fun e w' => e = .returned (.int .i64 1) ∧ ∃ x, w' = ext W x) := hide (fun i hi W hb => (LO.out _ _ W hb).mono (fun e w' hh => ⟨by
        have hq := hin _ (gp_mem (show i < L.length by rw [L2.out]; exact hi))
        rw [hh.1]
        have hv : vP (pX L i) (pY L i) = true := vP_iff.2 (by have := hq.2; unfold pX pY; omega)
        rw [locW_3 (q := ⟨pX L i, pY L i⟩) hsim hv]
        exact congrArg (fun z => Ending.returned (Value.int .i64 z)) hq.1, hh.2⟩))
      have CNT : Hid (intr ps = (n2 : Int)) := hide (by
        rw [intr_2 hsim]
        show intrL ps = _
        rw [← hcnt, L2.out])
      have ST := hide (lat_sorted (L := L) (by rw [L2.out]; omega) (fun q hq => (hin q hq).2))
      have n0 : 0 < n2 := by omega
      obtain ⟨bl, ol, rfl, hbl, hcl⟩ := R4.out (by rw [L2.out]; omega)
      have CL := hide (fun i (hi : i < n2) => hcl i (by rw [L2.out]; exact hi))
      have K1 := hide (R4.out.cut (a := 0) (m := 1) (by rw [L2.out]; omega))
      have KL : Hid (((L.drop 0).take 1).length = 1) := hide (by rw [List.drop_zero, take_one (by rw [L2.out]; omega)]; rfl)
      have SS := hide (fun (W : World) (hb : Below w4.heap.size w4 W) => sortPoints_any ((L.drop 0).take 1) (some ⟨bl, ol + 0 * 2, none⟩) 1 n2 W KL.out (by omega) Plain.some (K1.out.to hb))
      rw [List.drop_zero] at SS K1 KL
      rw [ST.out, Nat.zero_mul, Nat.add_zero] at SS
      rw [Nat.zero_mul, Nat.add_zero] at K1
      rw [CNT.out] at IN
      have s4 := D4.out.size
      clear EV h0 SE F1 LO hsim hcnt hin hcl hL R4
      have dl : ((n2 : Int) == (n2 : Int)) = true := beq_self_eq_true _
      have dk : decide (L.take 1 = L.take 1) = true := decide_eq_true rfl
      go_wp2_with fail
      go_loopw [5] (fun u5 wr => ∃ j : Nat, j ≤ n2 ∧ u5 = .int .i64 j ∧ Below w4.heap.size w4 wr) (fun u5 _ => n2 - (intOf u5).toNat)
      case atStart => exact ⟨0, Nat.zero_le _, rfl, Below.refl _ _⟩
      case round =>
        obtain ⟨j, hj, rfl, hbel⟩ := hrel
        have hsz := hbel.size
        by_cases hlt : j < n2
        · obtain ⟨x0, y0⟩ := CL.out j hlt
          have g1 := (hbel.cell (p := ⟨bl, ol + j * 2, none⟩) hbl).trans x0
          have g2 := (hbel.cell (p := ⟨bl, ol + j * 2 + 1, none⟩) hbl).trans y0
          have q1 : (0 : Int) ≤ (j : Int) := by omega
          have q2' : (j : Int) < (n2 : Int) := by omega
          have LOj := hide (fun W hb => LOK.out j hlt W hb)
          clear x0 y0 CL LOK SS IN
          generalize pX L j = X at *
          generalize pY L j = Y at *
          go_wp2_with fail
          refine (LOj.out _ (D4.out.trans (hbel.mono s4))).mono ?_
          rintro e w' ⟨rfl, hw'⟩; have hzy1 := ext_sz hw'; obtain ⟨y1, rfl⟩ := hw'; (try simp at hzy1)
          go_wp2_with fail
          exact ⟨⟨j + 1, by omega, by go_num, hbel.trans (by (repeat' (first | (with_reducible first | exact Below.refl _ _ | assumption | refine below_ext _ ?_ ?_ | refine Below.alloc ?_ ?_ _ | refine Below.drew ?_ | refine below_drewN ?_ _ | refine le_drewN _ ?_ | refine Below.setCell ?_ ?_ _ | exact Nat.le_refl _ | refine le_ext _ ?_ | refine le_alloc _ ?_ | refine le_setCell _ _ ?_ | refine le_drew ?_) | omega | (simp; done) | (simp; omega))))⟩, by simp [intOf]; omega⟩
        · have ej : j = n2 := by omega
          subst ej
          have D0 := hide (show Below w4.heap.size w4 wr.drew from hbel.trans (by (repeat' (first | (with_reducible first | exact Below.refl _ _ | assumption | refine below_ext _ ?_ ?_ | refine Below.alloc ?_ ?_ _ | refine Below.drew ?_ | refine below_drewN ?_ _ | refine le_drewN _ ?_ | refine Below.setCell ?_ ?_ _ | exact Nat.le_refl _ | refine le_ext _ ?_ | refine le_alloc _ ?_ | refine le_setCell _ _ ?_ | refine le_drew ?_) | omega | (simp; done) | (simp; omega)))))
          have BB := hide (D4.out.trans (D0.out.mono s4))
          have j1 : (1 : Int) ≤ (j : Int) := by omega
          have j3 : 1 ≤ j := by omega
          have EQc : Hid (∀ (X : Option Addr) (a b : Nat) (W : World) (hl : (L.take 1).length = a) (hp : PtsAt W W.heap.size X (L.take 1)) (hb : Below w4.heap.size w4 W), Calls Try.prog 14 #[.slice X a b, .slice (some ⟨bl, ol, none⟩) 1 j] W fun e w' => e = .returned (.bool true) ∧ ∃ m, w' = ext W m) := hide (fun X a b W hl hp hb => by
            have := equalPoints_any (L.take 1) (L.take 1) X (some ⟨bl, ol, none⟩) a b 1 j W hl KL.out (by have := KL.out; omega) (by omega) hp (K1.out.to hb)
            rw [decide_eq_true (rfl : L.take 1 = L.take 1)] at this
            exact this)
          clear CL LOK dk
          go_wp2_with fail
          go_region_held3 (fun W => True) (exact trivial) (first
            | (go_at_call 14; refine (EQc.out _ _ _ _ l6 P6.out D6.out).mono ?_; rintro e w7 ⟨rfl, hx7⟩; have D7 := hide (D6.out.trans ((ext_bel hx7).mono D6.out.size)); clear hx7)
            | (go_at_call 18; refine (SS.out _ D5.out).mono ?_; rintro e w6 ⟨A6, n6, c6, rfl, l6, q6, qc6, pr6, pl6, hx6⟩; have D6 := hide (D5.out.trans ((ext_bel hx6).mono D5.out.size)); have P6 := hide pr6.pts; clear hx6 pr6)
            | (go_at_call 17; refine (IN.out _ BB.out).mono ?_; rintro e w5 ⟨rfl, hx5⟩; have D5 := hide (D0.out.trans ((ext_bel hx5).mono D0.out.size)); clear hx5))
          all_goals go_wp2_with fail
          all_goals go_ret
          all_goals exact ⟨rfl, B1.trans ((D4.out.trans (D7.out.mono s4)).mono s1)⟩
  · skip
    have hd : decide ((1048576 : Int) < (n : Int)) = true := decide_eq_true (by omega)
    go_enter Try.func4, Try.ntmps4
    go_wp2
    go_ret
    exact ⟨rfl, (by (repeat' (first | (with_reducible first | exact Below.refl _ _ | assumption | refine below_ext _ ?_ ?_ | refine Below.alloc ?_ ?_ _ | refine Below.drew ?_ | refine below_drewN ?_ _ | refine le_drewN _ ?_ | refine Below.setCell ?_ ?_ _ | exact Nat.le_refl _ | refine le_ext _ ?_ | refine le_alloc _ ?_ | refine le_setCell _ _ ?_ | refine le_drew ?_) | omega | (simp; done) | (simp; omega))))⟩
end Go.Proofs.Ytcebmcbglhkkfaa
