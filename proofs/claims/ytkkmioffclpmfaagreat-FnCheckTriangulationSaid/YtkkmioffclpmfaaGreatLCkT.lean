
/- FnCheckTriangulation: the law's walk. -/
import Derived.Test.YtkkmioffclpmfaaGreatLTrnO
import Derived.Test.YtkkmioffclpmfaaGreatDrwT
import Derived.Test.YtkkmioffclpmfaaGreatInsM
import Derived.Test.YtkkmioffclpmfaaGreatLoc
set_option linter.unusedVariables false
set_option linter.unusedSimpArgs false
namespace Go.Proofs.YtkkmioffclpmfaaGreat
open Go.RowKit

theorem tmod3_bd (x : Int) : -2 ≤ x.tmod 3 ∧ x.tmod 3 ≤ 2 := by
  have h1 := Int.tmod_lt_of_pos x (show (0 : Int) < 3 by omega)
  have h2 := Int.lt_tmod_of_pos x (show (0 : Int) < 3 by omega)
  omega
theorem tdiv3_id (x : Int) : 3 * x.tdiv 3 + x.tmod 3 = x := by first | exact Int.mul_tdiv_add_tmod x 3 | exact Int.tdiv_add_tmod x 3 | omega
theorem chk_less {ps : List Pt} {ts us : List TI} (h : chkT ps ts = true) (hl : us.length + 1 = ts.length) : chkT ps us = false := by
  rw [← Bool.not_eq_true]
  intro hh
  have h1 := (chk_parts h).2.1
  have h2 := (chk_parts hh).2.1
  omega
theorem TrisAt.tail {w : World} {B b o : Nat} {ts : List TI} {m : Nat} (h : TrisAt w B (some ⟨b, o, none⟩) ts) (hm : ts.length = m + 1) : ∃ us : List TI, us.length = m ∧ TrisAt w B (some ⟨b, o + 3, none⟩) us ∧ TrisAt w B (some ⟨b, o, none⟩) (ts.take m) := by
  obtain ⟨b', o', hA, hB, hc⟩ := h (by omega)
  injection hA with hA; injection hA with h1 h2 _
  subst h1 h2
  refine ⟨ts.drop 1, by rw [List.length_drop]; omega, fun _ => ⟨b, o + 3, rfl, hB, fun i hi => ?_⟩, fun _ => ⟨b, o, rfl, hB, fun i hi => ?_⟩⟩
  · rw [List.length_drop] at hi
    have e : gt (ts.drop 1) i = gt ts (i + 1) := by
      unfold gt
      rw [List.getD_eq_getElem?_getD, List.getD_eq_getElem?_getD, List.getElem?_drop, Nat.add_comm]
    rw [e, show o + 3 + i * 3 = o + (i + 1) * 3 by omega]
    exact hc (i + 1) (by omega)
  · rw [List.length_take] at hi
    have e : gt (ts.take m) i = gt ts i := by
      unfold gt
      rw [List.getD_eq_getElem?_getD, List.getD_eq_getElem?_getD, List.getElem?_take, if_pos (by omega)]
    rw [e]
    exact hc i (by omega)
set_option maxRecDepth 20000 in
set_option maxHeartbeats 4000000 in
theorem lawCkT (n c : Nat) (A : Option Addr) (w : World) (hn : n ≤ c) (hc : c ≤ 9223372036854775807) (hA : BytesAt w w.heap.size A n) :
    Calls Tryz.prog 7 #[.slice A n c] w fun e w' => e = .returned (.bool true) ∧ Below w.heap.size w w' := by
  by_cases hle : n ≤ 1048576
  · have hd : decide ((1048576 : Int) < (n : Int)) = false := decide_eq_false (by omega)
    go_enter Tryz.func7, Tryz.ntmps7
    go_wp2_with fail
    refine (drawCkT_any n c A _ hn hc hA).mono ?_
    rintro e w1 ⟨A1, n1, c1, Z1, m1, d1, ps, ts, rfl, o1, lp, cbp, ht1, ⟨lm1, cm1, cm2⟩, tz1, B1⟩
    have h1 := hide o1.pts.1
    have P1 := hide o1.pts.2.2.2
    have F1 := hide o1.form.1
    have H2 := hide ht1
    have T1 := hide tz1
    have k1 : n1 ≤ 9 := by have := h1.out; omega
    have CK := hide (fun (us : List TI) (Z : Option Addr) (m d : Nat) (W : World) (hb : Below w1.heap.size w1 W) (hm : us.length = m) (hm2 : m ≤ 2000000) (hz : TrisAt W W.heap.size Z us) => iCkT_any ps us A1 Z n1 c1 m d W h1.out (by omega) F1.out hm hm2 (P1.out.to hb) hz)
    have SC := hide (fun (W : World) (hb : Below w1.heap.size w1 W) => sCheckT_any ps ts A1 Z1 n1 c1 m1 d1 W h1.out (by omega) H2.out (by omega) (P1.out.to hb) (T1.out.to hb))
    have CK0 := hide (fun W hb => CK.out ts Z1 m1 d1 W hb H2.out (by omega) (T1.out.to hb))
    have DB := hide (fun (W : World) (hb : Below w1.heap.size w1 W) => iDbl_any ps A1 n1 c1 W h1.out (by omega) F1.out (P1.out.to hb))
    have LO := hide (fun (x y : Int) (W : World) (hb : Below w1.heap.size w1 W) => iLocate_any ps x y A1 n1 c1 W h1.out (by omega) F1.out (P1.out.to hb))
    have s1 := B1.size
    clear o1 hA cbp ht1 tz1
    by_cases hck : chkT ps ts = true
    · rw [hck] at SC CK0
      obtain ⟨hok, hln, htk, hsum, _⟩ := chk_parts hck
      have hsim := clipB_sim hok
      obtain ⟨hib3, h20, hab, _⟩ := simB_nums hsim
      have h3 := (simB_parts hsim).2.1
      have e2 : m1 + 2 = n1 := by have := H2.out; have := h1.out; omega
      have n3 : 3 ≤ n1 := by rw [← h1.out]; exact h3
      have AT : Hid (∀ j, j < m1 → ∃ a b c : Nat, gt ts j = ⟨a, b, c⟩ ∧ a < n1 ∧ b < n1 ∧ c < n1) := hide (fun j hj => by
        have := htk _ (gt_mem (show j < ts.length by rw [H2.out]; exact hj))
        unfold tOk at this
        rw [Bool.and_eq_true] at this
        have := tIn_iff.1 this.1
        rw [h1.out] at this
        exact this)
      have SUM := hide (fun j (hj : j < m1) => sumA_succ ps (ts := ts) (j := j) (by rw [H2.out]; exact hj))
      have SALL : Hid (sumA ps ts m1 = absI (areaL ps)) := hide (by rw [absA_abs, ← hsum]; unfold sumA; rw [List.take_of_length_le (by have := H2.out; omega)])
      have DV := hide (dblA_2 hsim)
      have HB : Hid (∀ i, i < n1 → ((-1000 ≤ (gp ps i).x ∧ (gp ps i).x ≤ 1000) ∧ -1000 ≤ (gp ps i).y ∧ (gp ps i).y ≤ 1000)) := hide (fun i hi => hib3 _ (gp_mem (by have := h1.out; omega)))
      have TB : Hid (∀ a b c, a < n1 → b < n1 → c < n1 → -80000000000 ≤ trn (gp ps a) (gp ps b) (gp ps c) ∧ trn (gp ps a) (gp ps b) (gp ps c) ≤ 80000000000) := hide (fun a b c h2 h3 h4 => trn_b5 (fun p hp => by have := hib3 p hp; omega) (by have := h1.out; omega) (by have := h1.out; omega) (by have := h1.out; omega))
      have CIN : Hid (∀ j a b c : Nat, j < m1 → gt ts j = ⟨a, b, c⟩ → a < n1 → b < n1 → c < n1 → ∀ u v : Int, 3 * u = (gp ps a).x + (gp ps b).x + (gp ps c).x → 3 * v = (gp ps a).y + (gp ps b).y + (gp ps c).y → locW ps ⟨u, v⟩ = 1) := hide (fun j a b c hj et la lb lc u v hu hv => by
        have b1 := HB.out a la
        have b2 := HB.out b lb
        have b3 := HB.out c lc
        rw [locW_3 (q := ⟨u, v⟩) hsim (show vP u v = true from vP_iff.2 (by omega))]
        exact center_in hck (by rw [H2.out]; exact hj) et hu hv)
      have LESS : Hid (∀ us : List TI, us.length + 1 = m1 → chkT ps us = false) := hide (fun us hl => chk_less hck (by rw [H2.out]; exact hl))
      rw [DV.out] at DB
      have SZ := hide (fun W => lsize_any (areaL ps) W (by omega))
      clear hln htk hsum hsim hib3 h20 hab h3 hok F1 DV hck
      go_wp2_with fail
      refine (CK0.out _ (Below.refl _ _)).mono ?_
      rintro e w2 ⟨rfl, hx2⟩
      have D2 := hide (ext_bel hx2)
      clear hx2 CK0
      go_wp2_with fail
      refine (SC.out _ D2.out).mono ?_
      rintro e w3 ⟨rfl, hx3⟩
      have D3 := hide (D2.out.trans ((ext_bel hx3).mono D2.out.size))
      have s3 := D3.out.size
      clear hx3 SC
      go_wp2_with fail
      go_loopw [6, 7, 8, 9, 10, 11, 12] (fun u6 u7 _ _ _ _ _ wr => ∃ j : Nat, j ≤ m1 ∧ u7 = .int .i64 j ∧ u6 = .int .i64 (sumA ps ts j) ∧ -(j * 80000000000 : Int) ≤ sumA ps ts j ∧ sumA ps ts j ≤ j * 80000000000 ∧ Below w3.heap.size w3 wr) (fun _ u7 _ _ _ _ _ _ => m1 - (intOf u7).toNat)
      case atStart => exact ⟨0, Nat.zero_le _, rfl, rfl, by simp [sumA, areaT], by simp [sumA, areaT], Below.refl _ _⟩
      case round =>
        obtain ⟨j, hj, rfl, rfl, sb1, sb2, hbel⟩ := hrel
        have hsz := hbel.size
        by_cases hlt : j < m1
        · obtain ⟨b, o, rfl, hbl, hcs⟩ := T1.out (by rw [H2.out]; omega)
          obtain ⟨x0, y0, z0⟩ := hcs j (by rw [H2.out]; exact hlt)
          have BB := hide (D3.out.trans (hbel.mono s3))
          have g1 := (BB.out.cell (p := ⟨b, o + j * 3, none⟩) hbl).trans x0
          have g2 := (BB.out.cell (p := ⟨b, o + j * 3 + 1, none⟩) hbl).trans y0
          have g3 := (BB.out.cell (p := ⟨b, o + j * 3 + 2, none⟩) hbl).trans z0
          obtain ⟨a, b', c', et, la, lb, lc⟩ := AT.out j hlt
          have eN : toN (gt ts j) = ⟨a, b', c'⟩ := by rw [et]; simp [toN]
          have SM2 : Hid (sumA ps ts (j + 1) = sumA ps ts j + trn (gp ps a) (gp ps b') (gp ps c')) := hide (by rw [SUM.out j hlt, eN]; rfl)
          have CI := hide (CIN.out j a b' c' hlt et la lb lc)
          rw [et] at g1 g2 g3
          have tb := TB.out a b' c' la lb lc
          obtain ⟨b0, o0, rfl, hb0, hc0⟩ := P1.out (by have := h1.out; omega)
          obtain ⟨xa0, ya0⟩ := hc0 a (by have := h1.out; omega)
          obtain ⟨xb0, yb0⟩ := hc0 b' (by have := h1.out; omega)
          obtain ⟨xc0, yc0⟩ := hc0 c' (by have := h1.out; omega)
          have xa := (BB.out.cell (p := ⟨b0, o0 + a * 2, none⟩) hb0).trans xa0
          have ya := (BB.out.cell (p := ⟨b0, o0 + a * 2 + 1, none⟩) hb0).trans ya0
          have xb := (BB.out.cell (p := ⟨b0, o0 + b' * 2, none⟩) hb0).trans xb0
          have yb := (BB.out.cell (p := ⟨b0, o0 + b' * 2 + 1, none⟩) hb0).trans yb0
          have xc := (BB.out.cell (p := ⟨b0, o0 + c' * 2, none⟩) hb0).trans xc0
          have yc := (BB.out.cell (p := ⟨b0, o0 + c' * 2 + 1, none⟩) hb0).trans yc0
          have CR : Hid (∀ W : World, Calls Tryz.prog 19 #[.agg #[.int .i64 (pX ps a), .int .i64 (pY ps a)], .agg #[.int .i64 (pX ps b'), .int .i64 (pY ps b')], .agg #[.int .i64 (pX ps c'), .int .i64 (pY ps c')]] W fun e w' => e = .returned (.int .i64 (trn (gp ps a) (gp ps b') (gp ps c'))) ∧ ∃ x, w' = ext W x) := hide (fun W => iCross_any (gp ps a) (gp ps b') (gp ps c') W (HB.out a la) (HB.out b' lb) (HB.out c' lc))
          have va : ((-1000 ≤ pX ps a ∧ pX ps a ≤ 1000) ∧ -1000 ≤ pY ps a ∧ pY ps a ≤ 1000) := HB.out a la
          have vb : ((-1000 ≤ pX ps b' ∧ pX ps b' ≤ 1000) ∧ -1000 ≤ pY ps b' ∧ pY ps b' ≤ 1000) := HB.out b' lb
          have vc : ((-1000 ≤ pX ps c' ∧ pX ps c' ≤ 1000) ∧ -1000 ≤ pY ps c' ∧ pY ps c' ≤ 1000) := HB.out c' lc
          obtain ⟨⟨v1, v2⟩, v3, v4⟩ := va
          obtain ⟨⟨v5, v6⟩, v7, v8⟩ := vb
          obtain ⟨⟨v9, v10⟩, v11, v12⟩ := vc
          have CI2 : Hid (∀ u v : Int, 3 * u = pX ps a + pX ps b' + pX ps c' → 3 * v = pY ps a + pY ps b' + pY ps c' → locW ps ⟨u, v⟩ = 1) := hide CI.out
          have q1 : (0 : Int) ≤ (j : Int) := by omega
          have q2 : (j : Int) < (m1 : Int) := by omega
          have q3 : (0 : Int) ≤ (a : Int) := by omega
          have q4 : (a : Int) < (n1 : Int) := by omega
          have q5 : (0 : Int) ≤ (b' : Int) := by omega
          have q6 : (b' : Int) < (n1 : Int) := by omega
          have q7 : (0 : Int) ≤ (c' : Int) := by omega
          have q8 : (c' : Int) < (n1 : Int) := by omega
          have lb1 : b < wr.heap.size := by have := BB.out.size; omega
          have lb2 : b0 < wr.heap.size := by have := BB.out.size; omega
          clear hcs hc0 x0 y0 z0 xa0 ya0 xb0 yb0 xc0 yc0 et eN AT SUM SALL DB CK CIN SZ HB TB LESS CI
          have i1 := tmod3_bd (pX ps a + pX ps b' + pX ps c')
          have i2 := tmod3_bd (pY ps a + pY ps b' + pY ps c')
          have i3 := tdiv3_id (pX ps a + pX ps b' + pX ps c')
          have i4 := tdiv3_id (pY ps a + pY ps b' + pY ps c')
          have LOq := LO.out (Int.tdiv (pX ps a + pX ps b' + pX ps c') 3) (Int.tdiv (pY ps a + pY ps b' + pY ps c') 3)
          have CIq := CI2.out (Int.tdiv (pX ps a + pX ps b' + pX ps c') 3) (Int.tdiv (pY ps a + pY ps b' + pY ps c') 3)
          clear CI2 LO
          generalize trn (gp ps a) (gp ps b') (gp ps c') = U at *
          generalize pX ps a = X1 at *
          generalize pX ps b' = X2 at *
          generalize pX ps c' = X3 at *
          generalize pY ps a = Y1 at *
          generalize pY ps b' = Y2 at *
          generalize pY ps c' = Y3 at *
          have wa1 : IntKind.i64.wrap (X1 + X2) = X1 + X2 := IntWalk.i64_in _ (by omega)
          have wa2 : IntKind.i64.wrap (X1 + X2 + X3) = X1 + X2 + X3 := IntWalk.i64_in _ (by omega)
          have w3' : IntKind.i64.wrap (Y1 + Y2) = Y1 + Y2 := IntWalk.i64_in _ (by omega)
          have wa4 : IntKind.i64.wrap (Y1 + Y2 + Y3) = Y1 + Y2 + Y3 := IntWalk.i64_in _ (by omega)
          have wa5 : IntKind.i64.wrap ((X1 + X2 + X3).tdiv 3) = (X1 + X2 + X3).tdiv 3 := IntWalk.i64_in _ (by omega)
          have wa6 : IntKind.i64.wrap ((Y1 + Y2 + Y3).tdiv 3) = (Y1 + Y2 + Y3).tdiv 3 := IntWalk.i64_in _ (by omega)
          have wa7 : IntKind.i64.wrap ((X1 + X2 + X3).tmod 3) = (X1 + X2 + X3).tmod 3 := IntWalk.i64_in _ (by omega)
          have wa8 : IntKind.i64.wrap ((Y1 + Y2 + Y3).tmod 3) = (Y1 + Y2 + Y3).tmod 3 := IntWalk.i64_in _ (by omega)
          have LQ : Hid ((X1 + X2 + X3).tmod 3 = 0 → (Y1 + Y2 + Y3).tmod 3 = 0 → ∀ W : World, Below w1.heap.size w1 W → Calls Tryz.prog 25 #[.slice (some ⟨b0, o0, none⟩) n1 c1, .agg #[.int .i64 ((X1 + X2 + X3).tdiv 3), .int .i64 ((Y1 + Y2 + Y3).tdiv 3)]] W fun e w' => e = .returned (.int .i64 1) ∧ ∃ x, w' = ext W x) := hide (fun hx hy W hb => (LOq W hb).mono (fun e w' hh => ⟨by rw [hh.1, CIq (by omega) (by omega)], hh.2⟩))
          have BBW : Hid (∀ W, Below wr.heap.size wr W → Below w1.heap.size w1 W) := hide (fun W hb => BB.out.trans (hb.mono BB.out.size))
          clear LOq CIq i3 i4
          by_cases hx0 : (X1 + X2 + X3).tmod 3 = 0
          · have tx : ((X1 + X2 + X3).tmod 3 == 0) = true := by rw [hx0]; rfl
            by_cases hy0 : (Y1 + Y2 + Y3).tmod 3 = 0
            · have ty : ((Y1 + Y2 + Y3).tmod 3 == 0) = true := by rw [hy0]; rfl
              have LQ2 := hide (LQ.out hx0 hy0)
              clear LQ hx0 hy0 i1 i2
              go_wp2_with fail
              refine (CR.out _).mono ?_
              rintro e w' ⟨rfl, hw'⟩; have hzy1 := ext_sz hw'; obtain ⟨y1, rfl⟩ := hw'; (try simp at hzy1)
              go_wp2_with fail
              refine (LQ2.out _ (BBW.out _ (by (repeat' (first | (with_reducible first | exact Below.refl _ _ | assumption | refine below_ext _ ?_ ?_ | refine Below.alloc ?_ ?_ _ | refine Below.drew ?_ | refine below_drewN ?_ _ | refine le_drewN _ ?_ | refine Below.setCell ?_ ?_ _ | exact Nat.le_refl _ | refine le_ext _ ?_ | refine le_alloc _ ?_ | refine le_setCell _ _ ?_ | refine le_drew ?_) | omega | (simp; done) | (simp; omega)))))).mono ?_
              rintro e w' ⟨rfl, hw'⟩; have hzy2 := ext_sz hw'; obtain ⟨y2, rfl⟩ := hw'; (try simp at hzy2)
              go_wp2_with fail
              (exact ⟨⟨j + 1, by omega, by go_num, by rw [SM2.out], by rw [SM2.out]; push_cast; omega, by rw [SM2.out]; push_cast; omega, hbel.trans (by (repeat' (first | (with_reducible first | exact Below.refl _ _ | assumption | refine below_ext _ ?_ ?_ | refine Below.alloc ?_ ?_ _ | refine Below.drew ?_ | refine below_drewN ?_ _ | refine le_drewN _ ?_ | refine Below.setCell ?_ ?_ _ | exact Nat.le_refl _ | refine le_ext _ ?_ | refine le_alloc _ ?_ | refine le_setCell _ _ ?_ | refine le_drew ?_) | omega | (simp; done) | (simp; omega))))⟩, by simp [intOf]; omega⟩)
            · have ty : ((Y1 + Y2 + Y3).tmod 3 == 0) = false := by rw [beq_eq_false_iff_ne]; exact hy0
              clear LQ hx0 hy0 i1 i2
              go_wp2_with fail
              refine (CR.out _).mono ?_
              rintro e w' ⟨rfl, hw'⟩; have hzy1 := ext_sz hw'; obtain ⟨y1, rfl⟩ := hw'; (try simp at hzy1)
              go_wp2_with fail
              (exact ⟨⟨j + 1, by omega, by go_num, by rw [SM2.out], by rw [SM2.out]; push_cast; omega, by rw [SM2.out]; push_cast; omega, hbel.trans (by (repeat' (first | (with_reducible first | exact Below.refl _ _ | assumption | refine below_ext _ ?_ ?_ | refine Below.alloc ?_ ?_ _ | refine Below.drew ?_ | refine below_drewN ?_ _ | refine le_drewN _ ?_ | refine Below.setCell ?_ ?_ _ | exact Nat.le_refl _ | refine le_ext _ ?_ | refine le_alloc _ ?_ | refine le_setCell _ _ ?_ | refine le_drew ?_) | omega | (simp; done) | (simp; omega))))⟩, by simp [intOf]; omega⟩)
          · have tx : ((X1 + X2 + X3).tmod 3 == 0) = false := by rw [beq_eq_false_iff_ne]; exact hx0
            clear LQ hx0 i1 i2
            go_wp2_with fail
            refine (CR.out _).mono ?_
            rintro e w' ⟨rfl, hw'⟩; have hzy1 := ext_sz hw'; obtain ⟨y1, rfl⟩ := hw'; (try simp at hzy1)
            go_wp2_with fail
            (exact ⟨⟨j + 1, by omega, by go_num, by rw [SM2.out], by rw [SM2.out]; push_cast; omega, by rw [SM2.out]; push_cast; omega, hbel.trans (by (repeat' (first | (with_reducible first | exact Below.refl _ _ | assumption | refine below_ext _ ?_ ?_ | refine Below.alloc ?_ ?_ _ | refine Below.drew ?_ | refine below_drewN ?_ _ | refine le_drewN _ ?_ | refine Below.setCell ?_ ?_ _ | exact Nat.le_refl _ | refine le_ext _ ?_ | refine le_alloc _ ?_ | refine le_setCell _ _ ?_ | refine le_drew ?_) | omega | (simp; done) | (simp; omega))))⟩, by simp [intOf]; omega⟩)
        · have ej : j = m1 := by omega
          subst ej
          rw [SALL.out] at *
          have BB := hide (D3.out.trans (hbel.mono s3))
          obtain ⟨b, o, rfl, hbl, hcs⟩ := T1.out (by rw [H2.out]; omega)
          obtain ⟨us, hu, hut, hut2⟩ := TrisAt.tail (m := j - 1) T1.out (by rw [H2.out]; omega)
          have CKA := hide (fun (d : Nat) (W : World) (hb : Below w1.heap.size w1 W) => CK.out us (some ⟨b, o + 3, none⟩) (j - 1) d W hb hu (by omega) (hut.to hb))
          have CKB := hide (fun (d : Nat) (W : World) (hb : Below w1.heap.size w1 W) => CK.out (ts.take (j - 1)) (some ⟨b, o, none⟩) (j - 1) d W hb (by rw [List.length_take, H2.out]; omega) (by omega) (hut2.to hb))
          rw [LESS.out us (by omega)] at CKA
          rw [LESS.out (ts.take (j - 1)) (by rw [List.length_take, H2.out]; omega)] at CKB
          have j1 : (1 : Int) ≤ (j : Int) := by omega
          have j2 : (1 : Int) ≤ (d1 : Int) := by omega
          have j3 : 1 ≤ j := by omega
          have j4 : 1 ≤ d1 := by omega
          have j5 : ((j : Int) - 1).toNat = j - 1 := by omega
          have j6 : (j : Int) ≤ (d1 : Int) := by omega
          have sb := BB.out.size
          clear SUM AT TB HB SALL CIN LO LESS CK hcs hut hut2 hu T1
          generalize absI (areaL ps) = AA at *
          by_cases hcap : d1 = 1
          · go_wp2_with fail
            refine (DB.out _ BB.out).mono ?_
            rintro e w' ⟨rfl, hw'⟩; have hzz1 := ext_sz hw'; obtain ⟨z1, rfl⟩ := hw'; (try simp at hzz1)
            go_wp2_with fail
            refine (SZ.out _).mono ?_
            rintro e w' ⟨rfl, rfl⟩
            go_wp2_with fail
            refine (CKB.out _ _ (BB.out.trans (by (repeat' (first | (with_reducible first | exact Below.refl _ _ | assumption | refine below_ext _ ?_ ?_ | refine Below.alloc ?_ ?_ _ | refine Below.drew ?_ | refine below_drewN ?_ _ | refine le_drewN _ ?_ | refine Below.setCell ?_ ?_ _ | exact Nat.le_refl _ | refine le_ext _ ?_ | refine le_alloc _ ?_ | refine le_setCell _ _ ?_ | refine le_drew ?_) | omega | (simp; done) | (simp; omega)))))).mono ?_
            rintro e w' ⟨rfl, hw'⟩; have hzz2 := ext_sz hw'; obtain ⟨z2, rfl⟩ := hw'; (try simp at hzz2)
            go_wp2_with fail
            go_ret
            exact ⟨rfl, B1.trans ((BB.out.trans (show Below w1.heap.size wr _ from (by (repeat' (first | (with_reducible first | exact Below.refl _ _ | assumption | refine below_ext _ ?_ ?_ | refine Below.alloc ?_ ?_ _ | refine Below.drew ?_ | refine below_drewN ?_ _ | refine le_drewN _ ?_ | refine Below.setCell ?_ ?_ _ | exact Nat.le_refl _ | refine le_ext _ ?_ | refine le_alloc _ ?_ | refine le_setCell _ _ ?_ | refine le_drew ?_) | omega | (simp; done) | (simp; omega)))))).mono s1)⟩
          · go_wp2_with fail
            refine (DB.out _ BB.out).mono ?_
            rintro e w' ⟨rfl, hw'⟩; have hzz1 := ext_sz hw'; obtain ⟨z1, rfl⟩ := hw'; (try simp at hzz1)
            go_wp2_with fail
            refine (SZ.out _).mono ?_
            rintro e w' ⟨rfl, rfl⟩
            go_wp2_with fail
            refine (CKA.out _ _ (BB.out.trans (by (repeat' (first | (with_reducible first | exact Below.refl _ _ | assumption | refine below_ext _ ?_ ?_ | refine Below.alloc ?_ ?_ _ | refine Below.drew ?_ | refine below_drewN ?_ _ | refine le_drewN _ ?_ | refine Below.setCell ?_ ?_ _ | exact Nat.le_refl _ | refine le_ext _ ?_ | refine le_alloc _ ?_ | refine le_setCell _ _ ?_ | refine le_drew ?_) | omega | (simp; done) | (simp; omega)))))).mono ?_
            rintro e w' ⟨rfl, hw'⟩; have hzz2 := ext_sz hw'; obtain ⟨z2, rfl⟩ := hw'; (try simp at hzz2)
            go_wp2_with fail
            go_ret
            exact ⟨rfl, B1.trans ((BB.out.trans (show Below w1.heap.size wr _ from (by (repeat' (first | (with_reducible first | exact Below.refl _ _ | assumption | refine below_ext _ ?_ ?_ | refine Below.alloc ?_ ?_ _ | refine Below.drew ?_ | refine below_drewN ?_ _ | refine le_drewN _ ?_ | refine Below.setCell ?_ ?_ _ | exact Nat.le_refl _ | refine le_ext _ ?_ | refine le_alloc _ ?_ | refine le_setCell _ _ ?_ | refine le_drew ?_) | omega | (simp; done) | (simp; omega)))))).mono s1)⟩
    · have hck := eq_false_of_ne_true hck
      rw [hck] at SC CK0
      clear LO DB CK F1 hck
      go_wp2_with fail
      refine (CK0.out _ (Below.refl _ _)).mono ?_
      rintro e w2 ⟨rfl, hx2⟩
      have D2 := hide (ext_bel hx2)
      clear hx2 CK0
      go_wp2_with fail
      refine (SC.out _ D2.out).mono ?_
      rintro e w3 ⟨rfl, hx3⟩
      have D3 := hide (D2.out.trans ((ext_bel hx3).mono D2.out.size))
      clear hx3
      go_wp2_with fail
      refine (SC.out _ D3.out).mono ?_
      rintro e w4 ⟨rfl, hx4⟩
      have D4 := hide (D3.out.trans ((ext_bel hx4).mono D3.out.size))
      clear hx4
      go_wp2_with fail
      go_ret
      exact ⟨rfl, B1.trans (D4.out.mono s1)⟩
  · skip
    have hd : decide ((1048576 : Int) < (n : Int)) = true := decide_eq_true (by omega)
    go_enter Tryz.func7, Tryz.ntmps7
    go_wp2
    go_ret
    exact ⟨rfl, (by (repeat' (first | (with_reducible first | exact Below.refl _ _ | assumption | refine below_ext _ ?_ ?_ | refine Below.alloc ?_ ?_ _ | refine Below.drew ?_ | refine below_drewN ?_ _ | refine le_drewN _ ?_ | refine Below.setCell ?_ ?_ _ | exact Nat.le_refl _ | refine le_ext _ ?_ | refine le_alloc _ ?_ | refine le_setCell _ _ ?_ | refine le_drew ?_) | omega | (simp; done) | (simp; omega))))⟩
end Go.Proofs.YtkkmioffclpmfaaGreat
