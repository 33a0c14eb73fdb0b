
/- FnTriangulate: the law's walk. -/
import Derived.Test.YtkkmioffclpmfaaGreatTrnI
import Derived.Test.YtkkmioffclpmfaaGreatDrawA
import Derived.Test.YtkkmioffclpmfaaGreatEqI
import Derived.Test.YtkkmioffclpmfaaGreatChkTI
import Derived.Test.YtkkmioffclpmfaaGreatCount
set_option linter.unusedVariables false
set_option linter.unusedSimpArgs false
namespace Go.Proofs.YtkkmioffclpmfaaGreat
open Go.RowKit

theorem triV_ok {ps : List Pt} (h : triV ps ≠ []) : triV ps = triI ps ∧ clipB ps = true := by
  unfold triV at h ⊢
  split at h
  · rename_i hh; rw [if_pos hh]; exact ⟨rfl, hh⟩
  · exact absurd rfl h
theorem lit3 (w : World) (p q r : Pt) (T : TypeId) (a b c : Obj) : PtsAt ((((w.alloc a).alloc b).alloc c).alloc (.cells #[.int .i64 p.x, .int .i64 p.y, .int .i64 q.x, .int .i64 q.y, .int .i64 r.x, .int .i64 r.y] T)) ((((w.alloc a).alloc b).alloc c).alloc (.cells #[.int .i64 p.x, .int .i64 p.y, .int .i64 q.x, .int .i64 q.y, .int .i64 r.x, .int .i64 r.y] T)).heap.size (some ⟨w.heap.size + 1 + 1 + 1, 0, none⟩) [p, q, r] := by
  have h := RowAt.new (f := ptCell [p, q, r]) (((w.alloc a).alloc b).alloc c) #[.int .i64 p.x, .int .i64 p.y, .int .i64 q.x, .int .i64 q.y, .int .i64 r.x, .int .i64 r.y] T (fun j hj => by
    have hj : j < 6 := hj
    match j, hj with
    | 0, _ => rfl
    | 1, _ => rfl
    | 2, _ => rfl
    | 3, _ => rfl
    | 4, _ => rfl
    | 5, _ => rfl)
  have h2 := PtsAt.of_row (ps := [p, q, r]) h (Nat.le_refl 6) h.lt
  simpa using h2
set_option maxHeartbeats 1000000 in
theorem iCross_any (p q r : Pt) (w : World) (hp : (-1000 ≤ p.x ∧ p.x ≤ 1000) ∧ -1000 ≤ p.y ∧ p.y ≤ 1000) (hq : (-1000 ≤ q.x ∧ q.x ≤ 1000) ∧ -1000 ≤ q.y ∧ q.y ≤ 1000) (hr : (-1000 ≤ r.x ∧ r.x ≤ 1000) ∧ -1000 ≤ r.y ∧ r.y ≤ 1000) :
    Calls Tryz.prog 19 #[.agg #[.int .i64 p.x, .int .i64 p.y], .agg #[.int .i64 q.x, .int .i64 q.y], .agg #[.int .i64 r.x, .int .i64 r.y]] w fun e w' => e = .returned (.int .i64 (trn p q r)) ∧ ∃ x, w' = ext w x := by
  have AV := hide (fun (W : World) (A : Option Addr) (hs : PtsAt W W.heap.size A [p, q, r]) => allValid_any [p, q, r] A 3 3 W rfl (by omega) hs)
  have OK : Hid (allOk [p, q, r] = true) := hide (by
    have i1 : inB p.x (-1000) 1000 = true := inB_iff.2 (by omega)
    have i2 : inB p.y (-1000) 1000 = true := inB_iff.2 (by omega)
    have i3 : inB q.x (-1000) 1000 = true := inB_iff.2 (by omega)
    have i4 : inB q.y (-1000) 1000 = true := inB_iff.2 (by omega)
    have i5 : inB r.x (-1000) 1000 = true := inB_iff.2 (by omega)
    have i6 : inB r.y (-1000) 1000 = true := inB_iff.2 (by omega)
    simp [allOk, Pt.ok, vP, i1, i2, i3, i4, i5, i6])
  rw [OK.out] at AV
  have TU := hide (fun W => turn_any p.x p.y q.x q.y r.x r.y W ⟨by omega, by omega⟩ ⟨by omega, by omega⟩ ⟨by omega, by omega⟩ ⟨by omega, by omega⟩ ⟨by omega, by omega⟩ ⟨by omega, by omega⟩)
  have L3 := hide (fun (W : World) a b c => lit3 W p q r 35 a b c)
  have E : Hid (((q.x - p.x) * (r.y - p.y) - (q.y - p.y) * (r.x - p.x)) = trn p q r) := hide rfl
  rw [E.out] at TU
  clear hp hq hr E OK
  go_enter Tryz.func19, Tryz.ntmps19
  go_wp2_with fail
  refine (AV.out _ _ (L3.out _ _ _ _)).mono ?_
  rintro e w' ⟨rfl, hw'⟩; have hzy1 := ext_sz hw'; obtain ⟨y1, rfl⟩ := hw'; (try simp at hzy1)
  go_wp2_with fail
  refine (TU.out _).mono ?_
  rintro e w' ⟨rfl, hw'⟩; have hzy2 := ext_sz hw'; obtain ⟨y2, rfl⟩ := hw'; (try simp at hzy2)
  go_wp2_with fail
  go_ret
  exact ⟨rfl, (ext_mk (by (repeat' (first | (with_reducible first | exact Below.refl _ _ | assumption | refine below_ext _ ?_ ?_ | refine Below.alloc ?_ ?_ _ | refine Below.drew ?_ | refine below_drewN ?_ _ | refine le_drewN _ ?_ | refine Below.setCell ?_ ?_ _ | exact Nat.le_refl _ | refine le_ext _ ?_ | refine le_alloc _ ?_ | refine le_setCell _ _ ?_ | refine le_drew ?_) | omega | (simp; done) | (simp; omega)))))⟩
set_option maxHeartbeats 400000 in
theorem iCkT_any (ps : List Pt) (ts : List TI) (A Z : Option Addr) (n c m d : Nat) (w : World) (hn : ps.length = n) (hm : n ≤ 2000000) (hA : Plain A n) (ht : ts.length = m) (hm2 : m ≤ 2000000) (hs : PtsAt w w.heap.size A ps) (hz : TrisAt w w.heap.size Z ts) :
    Calls Tryz.prog 22 #[.slice A n c, .slice Z m d] w fun e w' => e = .returned (.bool (chkT ps ts)) ∧ ∃ x, w' = ext w x := by
  have HC := hide (iCheckT_any ps ts A Z n c m d w hn hm hA ht hm2 hs hz)
  clear hn ht hs hz
  go_enter Tryz.func22, Tryz.ntmps22
  go_wp2_with fail
  refine HC.out.mono ?_
  rintro e w' ⟨rfl, hw'⟩; have hzy1 := ext_sz hw'; obtain ⟨y1, rfl⟩ := hw'; (try simp at hzy1)
  go_wp2_with fail
  go_ret
  exact ⟨rfl, (ext_mk (by (repeat' (first | (with_reducible first | exact Below.refl _ _ | assumption | refine below_ext _ ?_ ?_ | refine Below.alloc ?_ ?_ _ | refine Below.drew ?_ | refine below_drewN ?_ _ | refine le_drewN _ ?_ | refine Below.setCell ?_ ?_ _ | exact Nat.le_refl _ | refine le_ext _ ?_ | refine le_alloc _ ?_ | refine le_setCell _ _ ?_ | refine le_drew ?_) | omega | (simp; done) | (simp; omega)))))⟩
set_option maxRecDepth 20000 in
set_option maxHeartbeats 4000000 in
theorem lawTrnO (n c : Nat) (A : Option Addr) (w : World) (hn : n ≤ c) (hc : c ≤ 9223372036854775807) (hA : BytesAt w w.heap.size A n) :
    Calls Tryz.prog 5 #[.slice A n c] w fun e w' => e = .returned (.bool true) ∧ Below w.heap.size w w' := by
  by_cases hle : n ≤ 1048576
  · have hd : decide ((1048576 : Int) < (n : Int)) = false := decide_eq_false (by omega)
    go_enter Tryz.func5, Tryz.ntmps5
    go_wp2_with fail
    refine (drawTri_any n c A _ hn hc hA).mono ?_
    rintro e w1 ⟨v1, ps, rfl, o1, lp, cbp, B1⟩
    obtain ⟨A1, n1, c1, rfl⟩ := o1.slice
    have h1 := hide o1.pts.1
    have P1 := hide o1.pts.2.2.2
    have F1 := hide o1.form.1
    have k1 : n1 ≤ 9 := by have := h1.out; omega
    have IE := hide (fun (W : World) (hb : Below w1.heap.size w1 W) => iTri_any ps A1 n1 c1 W h1.out (by omega) F1.out (P1.out.to hb))
    have SE := hide (fun (W : World) (hb : Below w1.heap.size w1 W) => sTri_any ps A1 n1 c1 W h1.out (by omega) (P1.out.to hb))
    have DB := hide (fun (W : World) (hb : Below w1.heap.size w1 W) => iDbl_any ps A1 n1 c1 W h1.out (by omega) F1.out (P1.out.to hb))
    have s1 := B1.size
    have EV := hide (triV_ok (ps := ps))
    have TL := hide (triV_len ps)
    clear o1 hA cbp
    generalize hL : triV ps = L at *
    go_wp2_with fail
    refine (IE.out _ (by (repeat' (first | (with_reducible first | exact Below.refl _ _ | assumption | refine below_ext _ ?_ ?_ | refine Below.alloc ?_ ?_ _ | refine Below.drew ?_ | refine below_drewN ?_ _ | refine le_drewN _ ?_ | refine Below.setCell ?_ ?_ _ | exact Nat.le_refl _ | refine le_ext _ ?_ | refine le_alloc _ ?_ | refine le_setCell _ _ ?_ | refine le_drew ?_) | omega | (simp; done) | (simp; omega))))).mono ?_
    rintro e w2 ⟨v2, rfl, own2, hx2⟩
    obtain ⟨A2, n2, c2, rfl⟩ := own2.slice
    have D2 := hide (ext_bel hx2)
    have R2 := hide own2.tris.2.2.2
    have L2 := hide own2.tris.1
    have q2 : n2 ≤ 1000 := by have := TL.out; have := L2.out; omega
    clear hx2 own2 IE TL
    go_wp2_with fail
    refine (SE.out _ D2.out).mono ?_
    rintro e w3 ⟨v3, rfl, own3, hx3⟩
    obtain ⟨A3, n3, c3, rfl⟩ := own3.slice
    have l3 := own3.tris.1
    have R3 := hide own3.tris.2.2.2
    have E3 := hide (ext_bel hx3)
    have D3 := hide (D2.out.trans (E3.out.mono D2.out.size))
    clear hx3 own3
    go_wp2_with fail
    refine (equalTris_any L L _ _ _ _ _ _ _ L2.out l3 (by omega) (by have := L2.out; omega) (R2.out.to E3.out) R3.out).mono ?_
    rintro e w4 ⟨rfl, hx4⟩
    have dt : decide (L = L) = true := decide_eq_true rfl
    have E4 := hide (ext_bel hx4)
    have D4 := hide (D3.out.trans (E4.out.mono D3.out.size))
    have R4 := hide ((R2.out.to E3.out).to E4.out)
    clear hx4 R3 l3 R2
    by_cases h0 : n2 = 0
    · have d0 : ((n2 : Int) == 0) = true := by rw [h0]; rfl
      clear h0
      go_wp2_with fail
      refine (SE.out _ D4.out).mono ?_
      rintro e w5 ⟨v5, rfl, own5, hx5⟩
      obtain ⟨A5, n5, c5, rfl⟩ := own5.slice
      have l5 := own5.tris.1
      have R5 := hide own5.tris.2.2.2
      have E5 := hide (ext_bel hx5)
      have D5 := hide (D4.out.trans (E5.out.mono D4.out.size))
      clear hx5 own5
      go_wp2_with fail
      refine (equalTris_any L L _ _ _ _ _ _ _ L2.out l5 (by omega) (by have := L2.out; omega) (R4.out.to E5.out) R5.out).mono ?_
      rintro e w6 ⟨rfl, hx6⟩
      have D6 := hide (D5.out.trans ((ext_bel hx6).mono D5.out.size))
      clear hx6
      go_wp2_with fail
      go_ret
      exact ⟨rfl, B1.trans (D6.out.mono s1)⟩
    · have d0 : ((n2 : Int) == 0) = false := by rw [beq_eq_false_iff_ne]; omega
      obtain ⟨eL, hok⟩ := EV.out (fun e => h0 (by have := L2.out; rw [e] at this; simp at this; omega))
      have hck : chkT ps L = true := by rw [eL]; exact tri_chk hok
      obtain ⟨_, hln, htk, hsum, _⟩ := chk_parts hck
      have hsim := clipB_sim hok
      obtain ⟨hib3, h20, hab, _⟩ := simB_nums hsim
      have e2 : n2 + 2 = n1 := by have := L2.out; have := h1.out; omega
      have AT : Hid (∀ j, j < n2 → ∃ a b c : Nat, gt L j = ⟨a, b, c⟩ ∧ a < n1 ∧ b < n1 ∧ c < n1) := hide (fun j hj => by
        have := htk _ (gt_mem (show j < L.length by rw [L2.out]; exact hj))
        unfold tOk at this
        rw [Bool.and_eq_true] at this
        have := tIn_iff.1 this.1
        rw [h1.out] at this
        exact this)
      have SUM := hide (fun j (hj : j < n2) => sumA_succ ps (ts := L) (j := j) (by rw [L2.out]; exact hj))
      have SALL : Hid (sumA ps L n2 = absI (areaL ps)) := hide (by rw [absA_abs, ← hsum]; unfold sumA; rw [List.take_of_length_le (by have := L2.out; omega)])
      have DV := hide (dblA_2 hsim)
      have HB : Hid (∀ i, i < n1 → ((-1000 ≤ (gp ps i).x ∧ (gp ps i).x ≤ 1000) ∧ -1000 ≤ (gp ps i).y ∧ (gp ps i).y ≤ 1000)) := hide (fun i hi => hib3 _ (gp_mem (by have := h1.out; omega)))
      have TB : Hid (∀ a b c, a < n1 → b < n1 → c < n1 → -80000000000 ≤ trn (gp ps a) (gp ps b) (gp ps c) ∧ trn (gp ps a) (gp ps b) (gp ps c) ≤ 80000000000) := hide (fun a b c h2 h3 h4 => trn_b5 (fun p hp => by have := hib3 p hp; omega) (by have := h1.out; omega) (by have := h1.out; omega) (by have := h1.out; omega))
      have CK := hide (fun (W : World) (hb : Below w4.heap.size w4 W) => iCkT_any ps L A1 A2 n1 c1 n2 c2 W h1.out (by omega) F1.out L2.out (by omega) (P1.out.to (D4.out.trans (hb.mono D4.out.size))) (R4.out.to hb))
      rw [hck] at CK
      rw [DV.out] at DB
      have SZ := hide (fun W => lsize_any (areaL ps) W (by omega))
      have s4 := D4.out.size
      have dl : ((n2 : Int) == (n1 : Int) - 2) = true := by rw [beq_iff_eq]; omega
      clear EV eL hck hln htk hsum hsim hib3 h20 hab h0 SE hok F1 DV
      go_wp2_with fail
      go_loopw [5, 6] (fun u5 u6 wr => ∃ j : Nat, j ≤ n2 ∧ u6 = .int .i64 j ∧ u5 = .int .i64 (sumA ps L j) ∧ -(j * 80000000000 : Int) ≤ sumA ps L j ∧ sumA ps L j ≤ j * 80000000000 ∧ Below w4.heap.size w4 wr) (fun _ u6 _ => n2 - (intOf u6).toNat)
      case atStart => exact ⟨0, Nat.zero_le _, rfl, rfl, by simp [sumA, areaT], by simp [sumA, areaT], Below.refl _ _⟩
      case round =>
        obtain ⟨j, hj, rfl, rfl, sb1, sb2, hbel⟩ := hrel
        have hsz := hbel.size
        by_cases hlt : j < n2
        · obtain ⟨b, o, rfl, hbl, hcs⟩ := R4.out (by rw [L2.out]; omega)
          obtain ⟨x0, y0, z0⟩ := hcs j (by rw [L2.out]; exact hlt)
          have g1 := (hbel.cell (p := ⟨b, o + j * 3, none⟩) hbl).trans x0
          have g2 := (hbel.cell (p := ⟨b, o + j * 3 + 1, none⟩) hbl).trans y0
          have g3 := (hbel.cell (p := ⟨b, o + j * 3 + 2, none⟩) hbl).trans z0
          obtain ⟨a, b', c', et, la, lb, lc⟩ := AT.out j hlt
          have eN : toN (gt L j) = ⟨a, b', c'⟩ := by rw [et]; simp [toN]
          have SM2 : Hid (sumA ps L (j + 1) = sumA ps L j + trn (gp ps a) (gp ps b') (gp ps c')) := hide (by rw [SUM.out j hlt, eN]; rfl)
          rw [et] at g1 g2 g3
          have tb := TB.out a b' c' la lb lc
          have BP := hbel.trans (Below.refl _ _)
          obtain ⟨b0, o0, rfl, hb0, hc0⟩ := P1.out (by have := h1.out; omega)
          have BB := hide (D4.out.trans (hbel.mono s4))
          obtain ⟨xa0, ya0⟩ := hc0 a (by have := h1.out; omega)
          obtain ⟨xb0, yb0⟩ := hc0 b' (by have := h1.out; omega)
          obtain ⟨xc0, yc0⟩ := hc0 c' (by have := h1.out; omega)
          have xa := (BB.out.cell (p := ⟨b0, o0 + a * 2, none⟩) hb0).trans xa0
          have ya := (BB.out.cell (p := ⟨b0, o0 + a * 2 + 1, none⟩) hb0).trans ya0
          have xb := (BB.out.cell (p := ⟨b0, o0 + b' * 2, none⟩) hb0).trans xb0
          have yb := (BB.out.cell (p := ⟨b0, o0 + b' * 2 + 1, none⟩) hb0).trans yb0
          have xc := (BB.out.cell (p := ⟨b0, o0 + c' * 2, none⟩) hb0).trans xc0
          have yc := (BB.out.cell (p := ⟨b0, o0 + c' * 2 + 1, none⟩) hb0).trans yc0
          have CR := hide (fun W => iCross_any (gp ps a) (gp ps b') (gp ps c') W (HB.out a la) (HB.out b' lb) (HB.out c' lc))
          have q1 : (0 : Int) ≤ (j : Int) := by omega
          have q2 : (j : Int) < (n2 : Int) := by omega
          have q3 : (0 : Int) ≤ (a : Int) := by omega
          have q4 : (a : Int) < (n1 : Int) := by omega
          have q5 : (0 : Int) ≤ (b' : Int) := by omega
          have q6 : (b' : Int) < (n1 : Int) := by omega
          have q7 : (0 : Int) ≤ (c' : Int) := by omega
          have q8 : (c' : Int) < (n1 : Int) := by omega
          clear hc0 hcs x0 y0 z0 xa0 ya0 xb0 yb0 xc0 yc0 eN et SUM SALL DB CK SZ AT
          generalize trn (gp ps a) (gp ps b') (gp ps c') = U at *
          go_wp2_with fail
          refine wp_region_ext (by kernel_rfl) (by kernel_rfl) ?_
          repeat (go_big_quiet_step ((first | (go_at_call 19; exact Calls.in_ext (CR.out _)))))
          refine wpQuiet_nil ?_
          rintro _ hnq
          have hzq := ext_sz hnq
          obtain ⟨nq, rfl⟩ := hnq
          (try simp at hzq)
          go_wp2_with fail
          exact ⟨⟨j + 1, by omega, by go_num, by rw [SM2.out], by rw [SM2.out]; push_cast; omega, by rw [SM2.out]; push_cast; omega, hbel.trans (by (repeat' (first | (with_reducible first | exact Below.refl _ _ | assumption | refine below_ext _ ?_ ?_ | refine Below.alloc ?_ ?_ _ | refine Below.drew ?_ | refine below_drewN ?_ _ | refine le_drewN _ ?_ | refine Below.setCell ?_ ?_ _ | exact Nat.le_refl _ | refine le_ext _ ?_ | refine le_alloc _ ?_ | refine le_setCell _ _ ?_ | refine le_drew ?_) | omega | (simp; done) | (simp; omega))))⟩, by simp [intOf]; omega⟩
        · have ej : j = n2 := by omega
          subst ej
          rw [SALL.out] at *
          have BB := hide (D4.out.trans (hbel.mono s4))
          clear SUM AT TB HB R4 SALL
          generalize absI (areaL ps) = AA at *
          go_wp2_with fail
          refine (DB.out _ BB.out).mono ?_
          rintro e w' ⟨rfl, hw'⟩; have hzz1 := ext_sz hw'; obtain ⟨z1, rfl⟩ := hw'; (try simp at hzz1)
          go_wp2_with fail
          refine (SZ.out _).mono ?_
          rintro e w' ⟨rfl, rfl⟩
          go_wp2_with fail
          refine (CK.out _ (hbel.trans (by (repeat' (first | (with_reducible first | exact Below.refl _ _ | assumption | refine below_ext _ ?_ ?_ | refine Below.alloc ?_ ?_ _ | refine Below.drew ?_ | refine below_drewN ?_ _ | refine le_drewN _ ?_ | refine Below.setCell ?_ ?_ _ | exact Nat.le_refl _ | refine le_ext _ ?_ | refine le_alloc _ ?_ | refine le_setCell _ _ ?_ | refine le_drew ?_) | omega | (simp; done) | (simp; omega)))))).mono ?_
          rintro e w' ⟨rfl, hw'⟩; have hzz2 := ext_sz hw'; obtain ⟨z2, rfl⟩ := hw'; (try simp at hzz2)
          go_wp2_with fail
          go_ret
          exact ⟨rfl, B1.trans ((BB.out.trans (show Below w1.heap.size wr _ from (by (repeat' (first | (with_reducible first | exact Below.refl _ _ | assumption | refine below_ext _ ?_ ?_ | refine Below.alloc ?_ ?_ _ | refine Below.drew ?_ | refine below_drewN ?_ _ | refine le_drewN _ ?_ | refine Below.setCell ?_ ?_ _ | exact Nat.le_refl _ | refine le_ext _ ?_ | refine le_alloc _ ?_ | refine le_setCell _ _ ?_ | refine le_drew ?_) | omega | (simp; done) | (simp; omega)))))).mono s1)⟩
  · skip
    have hd : decide ((1048576 : Int) < (n : Int)) = true := decide_eq_true (by omega)
    go_enter Tryz.func5, Tryz.ntmps5
    go_wp2
    go_ret
    exact ⟨rfl, (by (repeat' (first | (with_reducible first | exact Below.refl _ _ | assumption | refine below_ext _ ?_ ?_ | refine Below.alloc ?_ ?_ _ | refine Below.drew ?_ | refine below_drewN ?_ _ | refine le_drewN _ ?_ | refine Below.setCell ?_ ?_ _ | exact Nat.le_refl _ | refine le_ext _ ?_ | refine le_alloc _ ?_ | refine le_setCell _ _ ?_ | refine le_drew ?_) | omega | (simp; done) | (simp; omega))))⟩
end Go.Proofs.YtkkmioffclpmfaaGreat
