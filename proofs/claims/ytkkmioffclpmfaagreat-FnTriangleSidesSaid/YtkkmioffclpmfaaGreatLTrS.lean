
/- FnTriangleSides: the law's walk. -/
import Derived.Test.YtkkmioffclpmfaaGreatTrnI
import Derived.Test.YtkkmioffclpmfaaGreatDrawA
import Derived.Test.YtkkmioffclpmfaaGreatEqI
import Derived.Test.YtkkmioffclpmfaaGreatDiagL
import Derived.Test.YtkkmioffclpmfaaGreatSideM
set_option linter.unusedVariables false
set_option linter.unusedSimpArgs false
namespace Go.Proofs.YtkkmioffclpmfaaGreat
open Go.RowKit

theorem triV_okS {ps : List Pt} (h : triV ps ≠ []) : triV ps = triI ps ∧ clipB ps = true := by
  unfold triV at h ⊢
  split at h
  · rename_i hh; rw [if_pos hh]; exact ⟨rfl, hh⟩
  · exact absurd rfl h
set_option maxRecDepth 20000 in
set_option maxHeartbeats 4000000 in
theorem lawTrS (n c : Nat) (A : Option Addr) (w : World) (hn : n ≤ c) (hc : c ≤ 9223372036854775807) (hA : BytesAt w w.heap.size A n) :
    Calls Tryz.prog 6 #[.slice A n c] w fun e w' => e = .returned (.bool true) ∧ Below w.heap.size w w' := by
  by_cases hle : n ≤ 1048576
  · have hd : decide ((1048576 : Int) < (n : Int)) = false := decide_eq_false (by omega)
    go_enter Tryz.func6, Tryz.ntmps6
    go_wp2_with fail
    refine (drawTri_any n c A _ hn hc hA).mono ?_
    rintro e w1 ⟨v1, ps, rfl, o1, lp, cbp, B1⟩
    obtain ⟨A1, n1, c1, rfl⟩ := o1.slice
    have h1 := hide o1.pts.1
    have P1 := hide o1.pts.2.2.2
    have F1 := hide o1.form.1
    have k1 : n1 ≤ 9 := by have := h1.out; omega
    have IE := hide (fun (W : World) (hb : Below w1.heap.size w1 W) => iTri_any ps A1 n1 c1 W h1.out (by omega) F1.out (P1.out.to hb))
    have SE := hide (fun (W : World) (hb : Below w1.heap.size w1 W) => sTri_any ps A1 n1 c1 W h1.out (by omega) (P1.out.to hb))
    have DI := hide (fun (i k : Nat) (W : World) (hb : Below w1.heap.size w1 W) => iIsDiag_any ps i k A1 n1 c1 W h1.out (by omega) F1.out (P1.out.to hb))
    have ID : Hid (simB ps = true → ∀ (i k : Nat) (W : World), i < n1 → k < n1 → Below w1.heap.size w1 W → Calls Tryz.prog 14 #[.slice A1 n1 c1, .int .i64 i, .int .i64 k] W fun e w' => e = .returned (.bool (diagI ps i k)) ∧ ∃ x, w' = ext W x) := hide (fun hok i k W hi hk hb => (DI.out i k W hb).mono (fun e w' hh => ⟨by rw [hh.1, dgB_2 (verB_iff.2 ⟨hok, by rw [h1.out]; omega, by rw [h1.out]; omega⟩), Int.toNat_natCast, Int.toNat_natCast], hh.2⟩))
    have s1 := B1.size
    have EV := hide (triV_okS (ps := ps))
    have TL := hide (triV_len ps)
    clear o1 hA cbp DI
    generalize hL : triV ps = L at *
    go_wp2_with fail
    refine (IE.out _ (by (repeat' (first | (with_reducible exact Below.refl _ _) | (with_reducible assumption) | (with_reducible refine below_ext _ ?_ ?_) | (with_reducible refine Below.alloc ?_ ?_ _) | (with_reducible refine Below.drew ?_) | (with_reducible refine below_drewN ?_ _) | (with_reducible refine le_drewN _ ?_) | (with_reducible refine Below.setCell ?_ ?_ _) | (with_reducible exact Nat.le_refl _) | (with_reducible refine le_ext _ ?_) | (with_reducible refine le_alloc _ ?_) | (with_reducible refine le_setCell _ _ ?_) | (with_reducible refine le_drew ?_) | omega | (simp; done) | (simp; omega))))).mono ?_
    rintro e w2 ⟨v2, rfl, own2, hx2⟩
    obtain ⟨A2, n2, c2, rfl⟩ := own2.slice
    have D2 := hide (ext_bel hx2)
    have R2 := hide own2.tris.2.2.2
    have L2 := hide own2.tris.1
    have q2 : n2 ≤ 1000 := by have := TL.out; have := L2.out; omega
    clear hx2 own2 IE TL
    go_wp2_with fail
    refine (SE.out _ D2.out).mono ?_
    rintro e w3 ⟨v3, rfl, own3, hx3⟩
    obtain ⟨A3, n3, c3, rfl⟩ := own3.slice
    have l3 := own3.tris.1
    have R3 := hide own3.tris.2.2.2
    have E3 := hide (ext_bel hx3)
    have D3 := hide (D2.out.trans (E3.out.mono D2.out.size))
    clear hx3 own3
    go_wp2_with fail
    refine (equalTris_any L L _ _ _ _ _ _ _ L2.out l3 (by omega) (by have := L2.out; omega) (R2.out.to E3.out) R3.out).mono ?_
    rintro e w4 ⟨rfl, hx4⟩
    have dt : decide (L = L) = true := decide_eq_true rfl
    have E4 := hide (ext_bel hx4)
    have D4 := hide (D3.out.trans (E4.out.mono D3.out.size))
    have R4 := hide ((R2.out.to E3.out).to E4.out)
    clear hx4 R3 l3 R2
    by_cases h0 : n2 = 0
    · have d0 : ((n2 : Int) == 0) = true := by rw [h0]; rfl
      clear h0
      go_wp2_with fail
      refine (SE.out _ D4.out).mono ?_
      rintro e w5 ⟨v5, rfl, own5, hx5⟩
      obtain ⟨A5, n5, c5, rfl⟩ := own5.slice
      have l5 := own5.tris.1
      have R5 := hide own5.tris.2.2.2
      have E5 := hide (ext_bel hx5)
      have D5 := hide (D4.out.trans (E5.out.mono D4.out.size))
      clear hx5 own5
      go_wp2_with fail
      refine (equalTris_any L L _ _ _ _ _ _ _ L2.out l5 (by omega) (by have := L2.out; omega) (R4.out.to E5.out) R5.out).mono ?_
      rintro e w6 ⟨rfl, hx6⟩
      have D6 := hide (D5.out.trans ((ext_bel hx6).mono D5.out.size))
      clear hx6
      go_wp2_with fail
      go_ret
      exact ⟨rfl, B1.trans (D6.out.mono s1)⟩
    · have d0 : ((n2 : Int) == 0) = false := by rw [beq_eq_false_iff_ne]; omega
      obtain ⟨eL, hok⟩ := EV.out (fun e => h0 (by have := L2.out; rw [e] at this; simp at this; omega))
      have hsim := clipB_sim hok
      have AT : Hid (∀ j, j < n2 → ∃ a b c : Nat, gt L j = ⟨a, b, c⟩ ∧ a < n1 ∧ b < n1 ∧ c < n1 ∧ SideOk ps a b ∧ SideOk ps b c ∧ SideOk ps c a) := hide (fun j hj => by
        have := tri_sides hok (j := j) (by rw [← eL, L2.out]; exact hj)
        rw [← eL, h1.out] at this
        exact this)
      have SO : Hid (∀ a b, SideOk ps a b → (a + 1) % n1 = b ∨ (b + 1) % n1 = a ∨ diagI ps a b = true) := hide (fun a b hs => by
        unfold SideOk at hs
        rw [h1.out] at hs
        exact hs)
      have IDo := hide (fun (i k : Nat) (W : World) hi hk hb => ID.out hsim i k W hi hk hb)
      have s4 := D4.out.size
      clear EV eL h0 SE hok hsim F1 ID hL
      go_wp2_with fail
      go_loopw [6, 7, 8, 9, 10] (fun u6 _ _ _ _ wr => ∃ j : Nat, j ≤ n2 ∧ u6 = .int .i64 j ∧ Below w4.heap.size w4 wr) (fun u6 _ _ _ _ _ => n2 - (intOf u6).toNat)
      case atStart => exact ⟨0, Nat.zero_le _, rfl, Below.refl _ _⟩
      case round =>
        obtain ⟨j, hj, rfl, hbel⟩ := hrel
        have hsz := hbel.size
        obtain ⟨W1, hW1⟩ : ∃ W1, W1 = wr := ⟨_, rfl⟩
        subst hW1
        by_cases hlt : j < n2
        · obtain ⟨b, o, rfl, hbl, hcs⟩ := R4.out (by rw [L2.out]; omega)
          obtain ⟨x0, y0, z0⟩ := hcs j (by rw [L2.out]; exact hlt)
          have g1 := (hbel.cell (p := ⟨b, o + j * 3, none⟩) hbl).trans x0
          have g2 := (hbel.cell (p := ⟨b, o + j * 3 + 1, none⟩) hbl).trans y0
          have g3 := (hbel.cell (p := ⟨b, o + j * 3 + 2, none⟩) hbl).trans z0
          obtain ⟨a, b', c', et, la, lb, lc, sa, sb, sc⟩ := AT.out j hlt
          rw [et] at g1 g2 g3
          have SD : Hid (∀ k, k < 3 → ∃ x y : Nat, x < n1 ∧ y < n1 ∧ gi [(a : Int), b', c', a] k = x ∧ gi [(a : Int), b', c', a] (k + 1) = y ∧ SideOk ps x y) := hide (fun k hk => by
            match k, hk with
            | 0, _ => exact ⟨a, b', la, lb, rfl, rfl, sa⟩
            | 1, _ => exact ⟨b', c', lb, lc, rfl, rfl, sb⟩
            | 2, _ => exact ⟨c', a, lc, la, rfl, rfl, sc⟩)
          have CE : Hid (∀ k, k < 4 → (W1.alloc (.cells #[.int .i64 (a : Int), .int .i64 (b' : Int), .int .i64 (c' : Int), .int .i64 (a : Int)] 3)).cell? ⟨W1.heap.size, k, none⟩ = some (.int .i64 (gi [(a : Int), b', c', a] k))) := hide (fun k hk => (heap_cell (heap_alloc_new W1 _) k).trans (by
            match k, hk with
            | 0, _ => rfl
            | 1, _ => rfl
            | 2, _ => rfl
            | 3, _ => rfl))
          have q1 : (0 : Int) ≤ (j : Int) := by omega
          have q2 : (j : Int) < (n2 : Int) := by omega
          clear hcs x0 y0 z0 et AT R4 sa sb sc
          go_wp2_with fail
          go_region
          go_wp2_with fail
          go_loopw [8, 9, 10] (fun u8 _ _ wr => ∃ k : Nat, k ≤ 3 ∧ u8 = .int .i64 k ∧ Hid (∀ i, i < 4 → wr.cell? ⟨W1.heap.size, i, none⟩ = some (.int .i64 (gi [(a : Int), b', c', a] i))) ∧ Below W1.heap.size W1 wr) (fun u8 _ _ _ => 3 - (intOf u8).toNat)
          case atStart => exact ⟨0, Nat.zero_le _, rfl, hide (fun i hi => CE.out i hi), (by (repeat' (first | (with_reducible exact Below.refl _ _) | (with_reducible assumption) | (with_reducible refine below_ext _ ?_ ?_) | (with_reducible refine Below.alloc ?_ ?_ _) | (with_reducible refine Below.drew ?_) | (with_reducible refine below_drewN ?_ _) | (with_reducible refine le_drewN _ ?_) | (with_reducible refine Below.setCell ?_ ?_ _) | (with_reducible exact Nat.le_refl _) | (with_reducible refine le_ext _ ?_) | (with_reducible refine le_alloc _ ?_) | (with_reducible refine le_setCell _ _ ?_) | (with_reducible refine le_drew ?_) | omega | (simp; done) | (simp; omega))))⟩
          case round =>
            obtain ⟨k, hk, rfl, CW, hbel2⟩ := hrel
            by_cases hlk : k < 3
            · obtain ⟨x, y, lx, ly, ex, ey, hs⟩ := SD.out k hlk
              have k1 := CW.out k (by omega)
              have k2 := CW.out (k + 1) (by omega)
              have lg := World.block_lt_of_cell? wr _ k1
              rw [ex] at k1
              rw [ey] at k2
              have d3 : decide ((k : Int) < 3) = true := decide_eq_true (by omega)
              have p1 : (0 : Int) ≤ (k : Int) := by omega
              have p2 : (k : Int) < 4 := by omega
              have p3 : (0 : Int) ≤ (k : Int) + 1 := by omega
              have p4 : (k : Int) + 1 < 4 := by omega
              have p5 : ((k : Int) + 1).toNat = k + 1 := by omega
              have i1 : IntKind.i64.wrap ((k : Int) + 1) = (k : Int) + 1 := IntWalk.i64_in _ (by omega)
              have i2 : IntKind.i64.wrap ((x : Int) + 1) = (x : Int) + 1 := IntWalk.i64_in _ (by omega)
              have i3 : IntKind.i64.wrap ((y : Int) + 1) = (y : Int) + 1 := IntWalk.i64_in _ (by omega)
              have m1 : Int.tmod ((x : Int) + 1) (n1 : Int) = (((x + 1) % n1 : Nat) : Int) := (Int.ofNat_tmod (x + 1) n1).symm
              have m2 : Int.tmod ((y : Int) + 1) (n1 : Int) = (((y + 1) % n1 : Nat) : Int) := (Int.ofNat_tmod (y + 1) n1).symm
              have l1 : (x + 1) % n1 < n1 := Nat.mod_lt _ (by omega)
              have l2 : (y + 1) % n1 < n1 := Nat.mod_lt _ (by omega)
              have j1 : IntKind.i64.wrap (((x + 1) % n1 : Nat) : Int) = (((x + 1) % n1 : Nat) : Int) := IntWalk.i64_in _ (by omega)
              have j2 : IntKind.i64.wrap (((y + 1) % n1 : Nat) : Int) = (((y + 1) % n1 : Nat) : Int) := IntWalk.i64_in _ (by omega)
              have nz : ((n1 : Int) == 0) = false := by rw [beq_eq_false_iff_ne]; omega
              have nz2 : ¬ n1 = 0 := by omega
              have SOk := SO.out x y hs
              have IDk := hide (fun (W : World) (hb : Below w1.heap.size w1 W) => IDo.out x y W lx ly hb)
              have BBW : Hid (∀ W, Below wr.heap.size wr W → Below w1.heap.size w1 W) := hide (fun W hb => (D4.out.trans (hbel.mono s4)).trans ((hbel2.mono (Nat.le_trans s4 hsz)).trans (hb.mono (Nat.le_trans (Nat.le_trans s4 hsz) hbel2.size))))
              have CWW : Hid (∀ W, Below wr.heap.size wr W → ∀ i, i < 4 → W.cell? ⟨W1.heap.size, i, none⟩ = some (.int .i64 (gi [(a : Int), b', c', a] i))) := hide (fun W hb i hi => (hb.cell (p := ⟨W1.heap.size, i, none⟩) lg).trans (CW.out i hi))
              have sz2 := hbel2.size
              clear CW ex ey hs SD CE SO IDo
              generalize hX : (x + 1) % n1 = X at *
              generalize hY : (y + 1) % n1 = Y at *
              clear hX hY
              by_cases e1 : X = y
              · have b1 : ((X : Int) != (y : Int)) = false := by rw [bne_eq_false_iff_eq]; omega
                clear e1 SOk
                go_wp2_with fail
                exact ⟨⟨k + 1, by omega, by go_num, hide (CWW.out _ (Below.refl _ _)), hbel2⟩, by simp [intOf]; omega⟩
              · have b1 : ((X : Int) != (y : Int)) = true := by rw [bne_iff_ne]; omega
                by_cases e2 : Y = x
                · have b2 : ((Y : Int) != (x : Int)) = false := by rw [bne_eq_false_iff_eq]; omega
                  clear e1 e2 SOk
                  go_wp2_with fail
                  exact ⟨⟨k + 1, by omega, by go_num, hide (CWW.out _ (Below.refl _ _)), hbel2⟩, by simp [intOf]; omega⟩
                · have b2 : ((Y : Int) != (x : Int)) = true := by rw [bne_iff_ne]; omega
                  have hdg := (SOk.resolve_left e1).resolve_left e2
                  rw [hdg] at IDk
                  clear e1 e2 SOk hdg
                  go_wp2_with fail
                  refine (IDk.out _ (BBW.out _ (by (repeat' (first | (with_reducible exact Below.refl _ _) | (with_reducible assumption) | (with_reducible refine below_ext _ ?_ ?_) | (with_reducible refine Below.alloc ?_ ?_ _) | (with_reducible refine Below.drew ?_) | (with_reducible refine below_drewN ?_ _) | (with_reducible refine le_drewN _ ?_) | (with_reducible refine Below.setCell ?_ ?_ _) | (with_reducible exact Nat.le_refl _) | (with_reducible refine le_ext _ ?_) | (with_reducible refine le_alloc _ ?_) | (with_reducible refine le_setCell _ _ ?_) | (with_reducible refine le_drew ?_) | omega | (simp; done) | (simp; omega)))))).mono ?_
                  rintro e w' ⟨rfl, hw'⟩; have hzy1 := ext_sz hw'; obtain ⟨y1, rfl⟩ := hw'; (try simp at hzy1)
                  go_wp2_with fail
                  exact ⟨⟨k + 1, by omega, by go_num, hide (CWW.out _ (by (repeat' (first | (with_reducible exact Below.refl _ _) | (with_reducible assumption) | (with_reducible refine below_ext _ ?_ ?_) | (with_reducible refine Below.alloc ?_ ?_ _) | (with_reducible refine Below.drew ?_) | (with_reducible refine below_drewN ?_ _) | (with_reducible refine le_drewN _ ?_) | (with_reducible refine Below.setCell ?_ ?_ _) | (with_reducible exact Nat.le_refl _) | (with_reducible refine le_ext _ ?_) | (with_reducible refine le_alloc _ ?_) | (with_reducible refine le_setCell _ _ ?_) | (with_reducible refine le_drew ?_) | omega | (simp; done) | (simp; omega))))), hbel2.trans (by (repeat' (first | (with_reducible exact Below.refl _ _) | (with_reducible assumption) | (with_reducible refine below_ext _ ?_ ?_) | (with_reducible refine Below.alloc ?_ ?_ _) | (with_reducible refine Below.drew ?_) | (with_reducible refine below_drewN ?_ _) | (with_reducible refine le_drewN _ ?_) | (with_reducible refine Below.setCell ?_ ?_ _) | (with_reducible exact Nat.le_refl _) | (with_reducible refine le_ext _ ?_) | (with_reducible refine le_alloc _ ?_) | (with_reducible refine le_setCell _ _ ?_) | (with_reducible refine le_drew ?_) | omega | (simp; done) | (simp; omega))))⟩, by simp [intOf]; omega⟩
            · have d3 : decide ((k : Int) < 3) = false := decide_eq_false (by omega)
              clear SD CE CW
              go_wp2_with fail
              exact ⟨⟨j + 1, by omega, by go_num, hbel.trans (hbel2.mono hsz)⟩, by simp [intOf]; omega⟩
        · have ej : j = n2 := by omega
          subst ej
          have BB := hide (D4.out.trans (hbel.mono s4))
          clear AT R4
          go_wp2_with fail
          go_ret
          exact ⟨rfl, B1.trans (BB.out.mono s1)⟩
  · skip
    have hd : decide ((1048576 : Int) < (n : Int)) = true := decide_eq_true (by omega)
    go_enter Tryz.func6, Tryz.ntmps6
    go_wp2
    go_ret
    exact ⟨rfl, (by (repeat' (first | (with_reducible exact Below.refl _ _) | (with_reducible assumption) | (with_reducible refine below_ext _ ?_ ?_) | (with_reducible refine Below.alloc ?_ ?_ _) | (with_reducible refine Below.drew ?_) | (with_reducible refine below_drewN ?_ _) | (with_reducible refine le_drewN _ ?_) | (with_reducible refine Below.setCell ?_ ?_ _) | (with_reducible exact Nat.le_refl _) | (with_reducible refine le_ext _ ?_) | (with_reducible refine le_alloc _ ?_) | (with_reducible refine le_setCell _ _ ?_) | (with_reducible refine le_drew ?_) | omega | (simp; done) | (simp; omega))))⟩
end Go.Proofs.YtkkmioffclpmfaaGreat
