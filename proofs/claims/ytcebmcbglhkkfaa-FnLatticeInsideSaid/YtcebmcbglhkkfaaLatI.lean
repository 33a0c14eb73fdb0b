
/- impl.LatticeInside. -/
import Derived.Test.YtcebmcbglhkkfaaLatL
import Derived.Test.YtcebmcbglhkkfaaLoc
import Derived.Test.YtcebmcbglhkkfaaSimI
import Derived.Deep.DeepCutAuto
set_option linter.unusedVariables false
set_option linter.unusedSimpArgs false
namespace Go.Proofs.Ytcebmcbglhkkfaa
open Go.RowKit

theorem latV_no {ps : List Pt} (h : simB ps = false) : latV ps = [] := by unfold latV; rw [h]; simp
theorem latV_big {ps : List Pt} (h : ¬ latW ps * latH ps ≤ 1000) : latV ps = [] := by unfold latV; rw [if_neg (fun hh => h hh.2)]
theorem latV_is {ps : List Pt} (h : simB ps = true) (h2 : latW ps * latH ps ≤ 1000) : latV ps = latT ps (lowX ps ps.length) (lowY ps ps.length) (latH ps) (latW ps) := by unfold latV; rw [if_pos ⟨h, h2⟩]
theorem col_yes {ps : List Pt} {x Y : Int} {j : Nat} (h : locI ps ⟨x, Y + (j : Nat)⟩ = 1) (L : List Pt) : L ++ colT ps x Y (j + 1) = (L ++ colT ps x Y j) ++ [⟨x, Y + (j : Nat)⟩] := by
  show L ++ (if locI ps ⟨x, Y + (j : Nat)⟩ = 1 then colT ps x Y j ++ [⟨x, Y + (j : Nat)⟩] else colT ps x Y j) = _
  rw [if_pos h, List.append_assoc]
theorem col_no {ps : List Pt} {x Y : Int} {j : Nat} (h : ¬ locI ps ⟨x, Y + (j : Nat)⟩ = 1) (L : List Pt) : L ++ colT ps x Y (j + 1) = L ++ colT ps x Y j := by
  show L ++ (if locI ps ⟨x, Y + (j : Nat)⟩ = 1 then colT ps x Y j ++ [⟨x, Y + (j : Nat)⟩] else colT ps x Y j) = _
  rw [if_neg h]
theorem sim_box {ps : List Pt} (h : simB ps = true) : ∀ k, k ≤ ps.length → (-1000 ≤ lowX ps k ∧ lowX ps k ≤ topX ps k ∧ topX ps k ≤ 1000) ∧ -1000 ≤ lowY ps k ∧ lowY ps k ≤ topY ps k ∧ topY ps k ≤ 1000 :=
  box_bd (simB_P3 h) (by have := (sim_of h).three; omega)
set_option maxRecDepth 20000 in
set_option maxHeartbeats 4000000 in
theorem iLat_any (ps : List Pt) (A : Option Addr) (n c : Nat) (w : World) (hn : ps.length = n) (hm : n ≤ 2000000) (hA : Plain A n) (hs : PtsAt w w.heap.size A ps) :
    Calls Try.prog 13 #[.slice A n c] w fun e w' => ∃ A' n', e = .returned (.slice A' n' n') ∧ (latV ps).length = n' ∧ Plain A' n' ∧ PtsAt w' w'.heap.size A' (latV ps) ∧ ∃ x, w' = ext w x := by
  have HC := hide (simple_any ps A n c w hn hm hA hs)
  by_cases hok : simB ps = true
  · rw [hok] at HC
    obtain ⟨hib, h3, h20, _⟩ := simB_parts hok
    have BX := hide (fun k (hk : k ≤ n) => sim_box hok k (by omega))
    have HN := hide hn
    have S2 := hide hs
    have n3 : 3 ≤ n := by omega
    have n20 : n ≤ 20 := by omega
    have BI : Hid (∀ i, i < n → (-100000 ≤ (pX ps i) ∧ (pX ps i) ≤ 100000) ∧ (-100000 ≤ (pY ps i) ∧ (pY ps i) ≤ 100000)) := hide (fun i hi => hib _ (gp_mem (by omega)))
    have LO := hide (fun (x y : Int) (hq : (-100000 ≤ x ∧ x ≤ 100000) ∧ -100000 ≤ y ∧ y ≤ 100000) (W : World) (hb : Below w.heap.size w W) => locate_any ps x y A n c W hn (by omega) hib hq (hs.to hb))
    have LW : Hid ((latW ps : Int) = topX ps n - lowX ps n + 1 ∧ (latH ps : Int) = topY ps n - lowY ps n + 1) := hide (by
      have := BX.out n (Nat.le_refl _)
      unfold latW latH
      rw [hn]; omega)
    have FB := hide (fun h : ¬ latW ps * latH ps ≤ 1000 => latV_big (ps := ps) h)
    have FS : Hid (latW ps * latH ps ≤ 1000 → latV ps = latT ps (lowX ps n) (lowY ps n) (latH ps) (latW ps)) := hide (fun h => by rw [latV_is hok h, hn])
    have STEP := hide (fun k => (⟨rfl, rfl, rfl, rfl⟩ : lowX ps (k + 1) = min (lowX ps k) (pX ps k) ∧ lowY ps (k + 1) = min (lowY ps k) (pY ps k) ∧ topX ps (k + 1) = max (topX ps k) (pX ps k) ∧ topY ps (k + 1) = max (topY ps k) (pY ps k)))
    obtain ⟨i0, hi, hz0, hz1, hz2⟩ := info_parts ptElt.inf
    have IP := hide (And.intro hi (And.intro hz0 (And.intro hz1 hz2)))
    clear hi hz0 hz1 hz2
    have mk1 : i0.bytes * 1000 ≤ 281474976710656 := by rw [IP.out.2.2.2]; omega
    have mk2 : 1000 ≤ maxLen := by unfold maxLen; omega
    obtain ⟨b, o, rfl, hb, hcs⟩ := hs (by omega)
    have CS := hide hcs
    clear hok hn hib h3 h20 hs hcs
    go_enter Try.func13, Try.ntmps13
    go_wp2_with fail
    refine HC.out.mono ?_
    rintro e w1 ⟨rfl, hx1⟩
    have B1 := ext_bel hx1
    have s1 := B1.size
    clear hx1
    obtain ⟨f0, f1⟩ := CS.out 0 (by rw [HN.out]; omega)
    have x0 := (B1.cell (p := ⟨b, o + 0 * 2, none⟩) hb).trans f0
    have y0 := (B1.cell (p := ⟨b, o + 0 * 2 + 1, none⟩) hb).trans f1
    rw [Nat.zero_mul, Nat.add_zero] at x0 y0
    clear f0 f1
    have L0 : Hid (pX ps 0 = lowX ps 0 ∧ pY ps 0 = lowY ps 0 ∧ pX ps 0 = topX ps 0 ∧ pY ps 0 = topY ps 0) := hide ⟨rfl, rfl, rfl, rfl⟩
    have z0 : 0 < n := by omega
    have LGA : Hid (∀ o1 o2 : Obj, ((w1.alloc o1).alloc o2).drew.heap[w1.heap.size]? = some o1) := hide (fun o1 o2 => (Below.heap_alloc _ _ _ (by simp)).trans (heap_alloc_new _ _))
    have LGB : Hid (∀ o1 o2 : Obj, ((w1.alloc o1).alloc o2).drew.heap[w1.heap.size + 1]? = some o2) := hide (fun o1 o2 => by
      have := heap_alloc_new (w1.alloc o1) o2
      rw [size_alloc] at this
      exact this)
    go_wp2_with fail
    go_cut [3, 4] (fun u3 u4 wx => ∃ gl gh : Nat, u3 = .pointer (some ⟨gl, 0, none⟩) ∧ u4 = .pointer (some ⟨gh, 0, none⟩) ∧ w1.heap.size ≤ gl ∧ w1.heap.size ≤ gh ∧ gl ≠ gh ∧ wx.heap[gl]? = some (.cells #[.int .i64 (pX ps 0), .int .i64 (pY ps 0)] 31 (0, 0)) ∧ wx.heap[gh]? = some (.cells #[.int .i64 (pX ps 0), .int .i64 (pY ps 0)] 31 (0, 0)) ∧ Below w1.heap.size w1 wx)
    case first =>
      go_region
      all_goals (go_wp2_with fail; go_meet)
      · exact ⟨w1.heap.size, w1.heap.size + 1, rfl, rfl, Nat.le_refl _, Nat.le_succ _, by omega, LGA.out _ _, LGB.out _ _, (by (repeat' (first | (with_reducible first | exact Below.refl _ _ | assumption | refine below_ext _ ?_ ?_ | refine Below.alloc ?_ ?_ _ | refine Below.drew ?_ | refine below_drewN ?_ _ | refine le_drewN _ ?_ | refine Below.setCell ?_ ?_ _ | exact Nat.le_refl _ | refine le_ext _ ?_ | refine le_alloc _ ?_ | refine le_setCell _ _ ?_ | refine le_drew ?_) | omega | (simp; done) | (simp; omega))))⟩
      · exact ⟨w1.heap.size + 1, w1.heap.size, rfl, rfl, Nat.le_succ _, Nat.le_refl _, by omega, LGB.out _ _, LGA.out _ _, (by (repeat' (first | (with_reducible first | exact Below.refl _ _ | assumption | refine below_ext _ ?_ ?_ | refine Below.alloc ?_ ?_ _ | refine Below.drew ?_ | refine below_drewN ?_ _ | refine le_drewN _ ?_ | refine Below.setCell ?_ ?_ _ | exact Nat.le_refl _ | refine le_ext _ ?_ | refine le_alloc _ ?_ | refine le_setCell _ _ ?_ | refine le_drew ?_) | omega | (simp; done) | (simp; omega))))⟩
    case rest =>
      obtain ⟨gl, gh, rfl, rfl, lgl, lgh, hne, hgl, hgh, hbc⟩ := hcut
      have hlgl := heap_lt hgl
      have hlgh := heap_lt hgh
      rw [L0.out.1, L0.out.2.1] at hgl
      rw [L0.out.2.2.1, L0.out.2.2.2] at hgh
      have GL := hide hgl
      have GH := hide hgh
      have BC := hide (B1.trans (hbc.mono s1))
      clear hgl hgh hbc x0 y0 L0
      go_wp2_with fail
      go_loopw [22] (fun u22 wr => ∃ k : Nat, k ≤ n ∧ u22 = .int .i64 k ∧ Hid (wr.heap[gl]? = some (.cells #[.int .i64 (lowX ps k), .int .i64 (lowY ps k)] 31 (0, 0))) ∧ Hid (wr.heap[gh]? = some (.cells #[.int .i64 (topX ps k), .int .i64 (topY ps k)] 31 (0, 0))) ∧ wc.heap.size ≤ wr.heap.size ∧ Below w.heap.size w wr) (fun u22 _ => n - (intOf u22).toNat)
      case atStart => exact ⟨0, Nat.zero_le _, rfl, GL, GH, Nat.le_refl _, BC.out⟩
      case round =>
        obtain ⟨k, hk, rfl, HL, HH, hsz, hbel⟩ := hrel
        have hsz2 := hbel.size
        have t0 := heap_cell HL.out 0
        have t1 := heap_cell HL.out 1
        have v0 := heap_cell HH.out 0
        have v1 := heap_cell HH.out 1
        simp at t0 t1 v0 v1
        have bx := BX.out k hk
        by_cases hlt : k < n
        · have r0 := heap_frozen HL.out 0
          have r1 := heap_frozen HL.out 1
          have q0 := heap_frozen HH.out 0
          have q1 := heap_frozen HH.out 1
          obtain ⟨e0, e1⟩ := CS.out k (by rw [HN.out]; exact hlt)
          have x0 := (hbel.cell (p := ⟨b, o + k * 2, none⟩) hb).trans e0
          have y0 := (hbel.cell (p := ⟨b, o + k * 2 + 1, none⟩) hb).trans e1
          obtain ⟨⟨p1, p2⟩, p3, p4⟩ := BI.out k hlt
          have qq1 : (0 : Int) ≤ (k : Int) := by omega
          have qq2 : (k : Int) < (n : Int) := by omega
          have ST := hide (STEP.out k)
          have hne2 : gh ≠ gl := fun e => hne e.symm
          clear e0 e1 CS STEP
          generalize pX ps k = X at *
          generalize pY ps k = Y at *
          generalize lowX ps k = LX at *
          generalize lowY ps k = LY at *
          generalize topX ps k = TX at *
          generalize topY ps k = TY at *
          have HBX : Hid ((wr.alloc (.cells #[.int .i64 X, .int .i64 Y] 31)).heap[gl]? = some (.cells #[.int .i64 LX, .int .i64 LY] 31 (0, 0))) := hide ((Below.heap_alloc _ _ _ (by omega)).trans HL.out)
          have HBY : Hid ((wr.alloc (.cells #[.int .i64 X, .int .i64 Y] 31)).heap[gh]? = some (.cells #[.int .i64 TX, .int .i64 TY] 31 (0, 0))) := hide ((Below.heap_alloc _ _ _ (by omega)).trans HH.out)
          go_wp2_with fail
          refine ⟨⟨k + 1, by omega, by go_num, ?_, ?_, ?_, ?_⟩, by simp [intOf]; omega⟩
          · rw [ST.out.1, ST.out.2.1]
            exact hide ((Below.heap_setCell _ _ _ _ hne).trans ((Below.heap_setCell _ _ _ _ hne).trans (box_set2 HBX.out _ _)))
          · rw [ST.out.2.2.1, ST.out.2.2.2]
            exact hide (box_set2 ((Below.heap_setCell _ _ _ _ hne2).trans ((Below.heap_setCell _ _ _ _ hne2).trans HBY.out)) _ _)
          · simp; omega
          · exact hbel.trans (((((((Below.refl _ _).alloc hsz2 _).setCell (by simp; omega) _).setCell (by simp; omega) _).setCell (by simp; omega) _).setCell (by simp; omega) _))
        · have ek : k = n := by omega
          subst ek
          clear CS STEP BI S2 BX GL GH BC hlt
          obtain ⟨lw1, lw2⟩ := LW.out
          have m1 := mul_bd (M := 2001) (N := 2001) (a := topX ps k - lowX ps k + 1) (b := topY ps k - lowY ps k + 1) (by omega) (by omega)
          by_cases hle : latW ps * latH ps ≤ 1000
          · have dW : decide ((1000 : Int) < (topX ps k - lowX ps k + 1) * (topY ps k - lowY ps k + 1)) = false := decide_eq_false (by
              rw [← lw1, ← lw2, ← Int.natCast_mul]; omega)
            have FS2 := hide (FS.out hle)
            clear FS FB HN LW
            have TA : latT ps (lowX ps k) (lowY ps k) (latH ps) 0 = [] := rfl
            have CY := hide (fun (i j : Nat) (h : locI ps ⟨lowX ps k + (i : Nat), lowY ps k + (j : Nat)⟩ = 1) => col_yes h (latT ps (lowX ps k) (lowY ps k) (latH ps) i))
            have CN := hide (fun (i j : Nat) (h : ¬ locI ps ⟨lowX ps k + (i : Nat), lowY ps k + (j : Nat)⟩ = 1) => col_no h (latT ps (lowX ps k) (lowY ps k) (latH ps) i))
            have LL := hide (fun i j (hi : i < latW ps) (hj : j < latH ps) => (show (latT ps (lowX ps k) (lowY ps k) (latH ps) i ++ colT ps (lowX ps k + (i : Nat)) (lowY ps k) j).length ≤ 2000000 from by
              have h1 := latT_le ps (lowX ps k) (lowY ps k) (latH ps) i
              have h2 := colT_le ps (lowX ps k + (i : Nat)) (lowY ps k) j
              have h3 : (i + 1) * latH ps ≤ latW ps * latH ps := Nat.mul_le_mul_right _ (by omega)
              rw [Nat.succ_mul] at h3
              rw [List.length_append]
              omega))
            clear hle
            generalize topX ps k = TX at *
            generalize topY ps k = TY at *
            generalize lowX ps k = LX at *
            generalize lowY ps k = LY at *
            generalize latW ps = mw at *
            generalize latH ps = mh at *
            go_wp2_with (refine wpList_make_own _ rfl (.const (.int .i64 0)) (.const (.int .i64 1000)) 23 rfl wr.heap.size 31 i0 _ 2 ptElt.und IP.out.1 IP.out.2.1 IP.out.2.2.1 .i64 .i64 _ 1000 rfl rfl rfl mk1 mk2 (Nat.le_refl _) ?_; intro w5 hown5 hgr5; have O5 := hide (show OwnP w5 wr.heap.size _ [] from hown5); have B5 := hide ((Below.refl _ _).grown hgr5 (Nat.le_refl _) (fun k hk => by cases hk)); have s5 := B5.out.size; have c0 := (B5.out.cell (p := ⟨gl, 0, none⟩) (by show gl < _; omega)).trans t0; have c1 := (B5.out.cell (p := ⟨gl, 1, none⟩) (by show gl < _; omega)).trans t1; have c2 := (B5.out.cell (p := ⟨gh, 0, none⟩) (by show gh < _; omega)).trans v0; have c3 := (B5.out.cell (p := ⟨gh, 1, none⟩) (by show gh < _; omega)).trans v1; clear hown5 hgr5)
            have C0 := hide (fun (W : World) (hb : Below wr.heap.size w5 W) => (⟨(hb.cell (p := ⟨gl, 0, none⟩) (by show gl < _; omega)).trans c0, (hb.cell (p := ⟨gl, 1, none⟩) (by show gl < _; omega)).trans c1, (hb.cell (p := ⟨gh, 0, none⟩) (by show gh < _; omega)).trans c2, (hb.cell (p := ⟨gh, 1, none⟩) (by show gh < _; omega)).trans c3⟩ : W.cell? ⟨gl, 0, none⟩ = some (.int .i64 LX) ∧ W.cell? ⟨gl, 1, none⟩ = some (.int .i64 LY) ∧ W.cell? ⟨gh, 0, none⟩ = some (.int .i64 TX) ∧ W.cell? ⟨gh, 1, none⟩ = some (.int .i64 TY)))
            have BW := hide (fun (W : World) (hb : Below wr.heap.size w5 W) => (hbel.trans (B5.out.mono hsz2)).trans (hb.mono (Nat.le_trans hsz2 (Nat.le_refl _))))
            have O6 : Hid (OwnP w5 wr.heap.size (.slice (some ⟨wr.heap.size, 0, none⟩) 0 1000) (latT ps LX LY mh 0)) := hide (by rw [TA]; exact O5.out)
            generalize wr.heap.size = base at *
            clear TA O5 c0 c1 c2 c3 t0 t1 v0 v1
            go_loopw [7, 8] (fun u7 u8 wr => ∃ i : Nat, i ≤ mw ∧ u8 = .int .i64 (LX + (i : Nat)) ∧ OwnP wr base u7 (latT ps LX LY mh i) ∧ Below base w5 wr) (fun _ u8 _ => mw - (intOf u8 - LX).toNat)
            case atStart => exact ⟨0, Nat.zero_le _, by simp, O6.out, Below.refl _ _⟩
            case round =>
              obtain ⟨i, hi, rfl, hown, hb6⟩ := hrel
              obtain ⟨A6, n6, c6, rfl⟩ := hown.slice
              have OWN6 := hide hown
              obtain ⟨c0, c1, c2, c3⟩ := C0.out _ hb6
              have s6 := hb6.size
              clear hown O6
              by_cases hlt : i < mw
              · have di : decide (LX + (i : Int) ≤ TX) = true := decide_eq_true (by omega)
                obtain ⟨W2, hW2⟩ : ∃ W2, W2 = wr := ⟨_, rfl⟩
                subst hW2
                go_wp2_with fail
                go_loopw [7, 9] (fun u7 u9 wr => ∃ j : Nat, j ≤ mh ∧ u9 = .int .i64 (LY + (j : Nat)) ∧ OwnP wr base u7 (latT ps LX LY mh i ++ colT ps (LX + (i : Nat)) LY j) ∧ Below base w5 wr) (fun _ u9 _ => mh - (intOf u9 - LY).toNat)
                case atStart => exact ⟨0, Nat.zero_le _, by simp, by rw [show colT ps (LX + (i : Nat)) LY 0 = [] from rfl, List.append_nil]; exact OWN6.out, hb6⟩
                case round =>
                  obtain ⟨j, hj, rfl, hown, hb7⟩ := hrel
                  obtain ⟨A7, n7, c7, rfl⟩ := hown.slice
                  have OWN7 := hide hown
                  clear c0 c1 c2 c3
                  obtain ⟨c0, c1, c2, c3⟩ := C0.out _ hb7
                  have s7 := hb7.size
                  clear hown OWN6
                  by_cases hlj : j < mh
                  · have dj : decide (LY + (j : Int) ≤ TY) = true := decide_eq_true (by omega)
                    have LOC := hide (LO.out (LX + (i : Nat)) (LY + (j : Nat)) ⟨by omega, by omega⟩)
                    have BW7 := hide (BW.out _ hb7)
                    have s8 := BW7.out.size
                    by_cases hl : locI ps ⟨LX + (i : Nat), LY + (j : Nat)⟩ = 1
                    · have NX := hide (CY.out i j hl)
                      have NL := LL.out i j hlt hlj
                      have dl : (locI ps ⟨LX + (i : Nat), LY + (j : Nat)⟩ == 1) = true := by rw [hl]; rfl
                      rw [hl] at LOC
                      clear hl CY CN LO
                      generalize latT ps LX LY mh i ++ colT ps (LX + (i : Nat)) LY j = L7 at *
                      go_wp2_with fail
                      refine (LOC.out _ (BW7.out.trans (by (repeat' (first | (with_reducible first | exact Below.refl _ _ | assumption | refine below_ext _ ?_ ?_ | refine Below.alloc ?_ ?_ _ | refine Below.drew ?_ | refine below_drewN ?_ _ | refine le_drewN _ ?_ | refine Below.setCell ?_ ?_ _ | exact Nat.le_refl _ | refine le_ext _ ?_ | refine le_alloc _ ?_ | refine le_setCell _ _ ?_ | refine le_drew ?_) | omega | (simp; done) | (simp; omega)))))).mono ?_
                      rintro e w' ⟨rfl, hw'⟩; have hzy8 := ext_sz hw'; obtain ⟨y8, rfl⟩ := hw'; (try simp at hzy8)
                      go_wp2_with (at_builtin; refine app_pt rfl _ _ rfl base (.slice A7 n7 c7) L7 rfl (OWN7.out.below (by (repeat' (first | (with_reducible first | exact Below.refl _ _ | assumption | refine below_ext _ ?_ ?_ | refine Below.alloc ?_ ?_ _ | refine Below.drew ?_ | refine below_drewN ?_ _ | refine le_drewN _ ?_ | refine Below.setCell ?_ ?_ _ | exact Nat.le_refl _ | refine le_ext _ ?_ | refine le_alloc _ ?_ | refine le_setCell _ _ ?_ | refine le_drew ?_) | omega | (simp; done) | (simp; omega))))) (LX + (i : Nat)) (LY + (j : Nat)) _ _ rfl (by simp [go_sem]) (by simp [go_sem]) NL (by simp; omega) ?_; intro v' w' hown' hb' hat hgr; obtain ⟨A8, n8, c8, rfl⟩ := hown'.slice; have O8 := hide hown'; clear hown' hat hgr)
                      exact ⟨⟨j + 1, by omega, by go_num, by rw [NX.out]; exact O8.out, (hb7.trans (by (repeat' (first | (with_reducible first | exact Below.refl _ _ | assumption | refine below_ext _ ?_ ?_ | refine Below.alloc ?_ ?_ _ | refine Below.drew ?_ | refine below_drewN ?_ _ | refine le_drewN _ ?_ | refine Below.setCell ?_ ?_ _ | exact Nat.le_refl _ | refine le_ext _ ?_ | refine le_alloc _ ?_ | refine le_setCell _ _ ?_ | refine le_drew ?_) | omega | (simp; done) | (simp; omega))))).trans hb'⟩, by simp [intOf]; omega⟩
                    · have NX := hide (CN.out i j hl)
                      have dl : (locI ps ⟨LX + (i : Nat), LY + (j : Nat)⟩ == 1) = false := by rw [beq_eq_false_iff_ne]; exact hl
                      clear hl CY CN LO
                      generalize locI ps ⟨LX + (i : Nat), LY + (j : Nat)⟩ = LV at *
                      generalize latT ps LX LY mh i ++ colT ps (LX + (i : Nat)) LY j = L7 at *
                      go_wp2_with fail
                      refine (LOC.out _ (BW7.out.trans (by (repeat' (first | (with_reducible first | exact Below.refl _ _ | assumption | refine below_ext _ ?_ ?_ | refine Below.alloc ?_ ?_ _ | refine Below.drew ?_ | refine below_drewN ?_ _ | refine le_drewN _ ?_ | refine Below.setCell ?_ ?_ _ | exact Nat.le_refl _ | refine le_ext _ ?_ | refine le_alloc _ ?_ | refine le_setCell _ _ ?_ | refine le_drew ?_) | omega | (simp; done) | (simp; omega)))))).mono ?_
                      rintro e w' ⟨rfl, hw'⟩; have hzy8 := ext_sz hw'; obtain ⟨y8, rfl⟩ := hw'; (try simp at hzy8)
                      go_wp2_with fail
                      exact ⟨⟨j + 1, by omega, by go_num, by rw [NX.out]; exact OWN7.out.below (by (repeat' (first | (with_reducible first | exact Below.refl _ _ | assumption | refine below_ext _ ?_ ?_ | refine Below.alloc ?_ ?_ _ | refine Below.drew ?_ | refine below_drewN ?_ _ | refine le_drewN _ ?_ | refine Below.setCell ?_ ?_ _ | exact Nat.le_refl _ | refine le_ext _ ?_ | refine le_alloc _ ?_ | refine le_setCell _ _ ?_ | refine le_drew ?_) | omega | (simp; done) | (simp; omega)))), hb7.trans (by (repeat' (first | (with_reducible first | exact Below.refl _ _ | assumption | refine below_ext _ ?_ ?_ | refine Below.alloc ?_ ?_ _ | refine Below.drew ?_ | refine below_drewN ?_ _ | refine le_drewN _ ?_ | refine Below.setCell ?_ ?_ _ | exact Nat.le_refl _ | refine le_ext _ ?_ | refine le_alloc _ ?_ | refine le_setCell _ _ ?_ | refine le_drew ?_) | omega | (simp; done) | (simp; omega))))⟩, by simp [intOf]; omega⟩
                  · have ej : j = mh := by omega
                    have dj : decide (LY + (j : Int) ≤ TY) = false := decide_eq_false (by omega)
                    have OWN8 : Hid (OwnP wr base (.slice A7 n7 c7) (latT ps LX LY mh (i + 1))) := hide (by
                      have h7 := OWN7.out
                      rw [ej] at h7
                      exact h7)
                    clear OWN7 CY CN
                    go_wp2_with fail
                    exact ⟨⟨i + 1, by omega, by go_num, OWN8.out, hb7⟩, by simp [intOf]; omega⟩
              · have ei : i = mw := by omega
                have di : decide (LX + (i : Int) ≤ TX) = false := decide_eq_false (by omega)
                have BW6 := hide (BW.out _ hb6)
                have OWN8 : Hid (OwnP wr base (.slice A6 n6 c6) (latV ps)) := hide (by rw [FS2.out, ← ei]; exact OWN6.out)
                have l8 := OWN8.out.pts.1
                have n8 : n6 ≤ c6 := OWN8.out.pts.2.1
                have P8 := hide OWN8.out.pts.2.2.2
                have F8 := hide OWN8.out.form.1
                clear OWN6 CY CN OWN8
                go_wp2_with fail
                go_ret
                exact ⟨_, _, rfl, l8, F8.out, P8.out, ext_mk BW6.out⟩
          · have dW : decide ((1000 : Int) < (topX ps k - lowX ps k + 1) * (topY ps k - lowY ps k + 1)) = true := decide_eq_true (by
              rw [← lw1, ← lw2, ← Int.natCast_mul]; omega)
            have FB2 := hide (FB.out hle)
            clear FS FB HN hle LW lw1 lw2
            go_wp2_with fail
            go_ret
            exact ⟨none, 0, rfl, by rw [FB2.out]; rfl, Plain.none rfl, (by rw [FB2.out]; exact fun h => by simp at h), ext_mk hbel⟩
  · rw [eq_false_of_ne_true hok] at HC
    have HV := hide (latV_no (ps := ps) (eq_false_of_ne_true hok))
    clear hok hn hs
    go_enter Try.func13, Try.ntmps13
    go_wp2_with fail
    refine HC.out.mono ?_
    rintro e w' ⟨rfl, hw'⟩; have hzy1 := ext_sz hw'; obtain ⟨y1, rfl⟩ := hw'; (try simp at hzy1)
    go_wp2_with fail
    go_ret
    exact ⟨none, 0, rfl, by rw [HV.out]; rfl, Plain.none rfl, (by rw [HV.out]; exact fun h => by simp at h), (ext_mk (by (repeat' (first | (with_reducible first | exact Below.refl _ _ | assumption | refine below_ext _ ?_ ?_ | refine Below.alloc ?_ ?_ _ | refine Below.drew ?_ | refine below_drewN ?_ _ | refine le_drewN _ ?_ | refine Below.setCell ?_ ?_ _ | exact Nat.le_refl _ | refine le_ext _ ?_ | refine le_alloc _ ?_ | refine le_setCell _ _ ?_ | refine le_drew ?_) | omega | (simp; done) | (simp; omega)))))⟩
end Go.Proofs.Ytcebmcbglhkkfaa
