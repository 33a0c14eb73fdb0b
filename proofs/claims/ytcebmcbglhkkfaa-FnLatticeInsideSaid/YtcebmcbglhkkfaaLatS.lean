
/- spec.LatticeInside. -/
import Derived.Test.YtcebmcbglhkkfaaLatI
import Derived.Test.YtcebmcbglhkkfaaLocS
set_option linter.unusedVariables false
set_option linter.unusedSimpArgs false
namespace Go.Proofs.Ytcebmcbglhkkfaa
open Go.RowKit

/-- The list under way beside the two boxes of the rectangle. -/
structure LatB (w wr : World) (g : Nat) (LX LY TX TY : Int) (v : Value) (L : List Pt) : Prop where
  own : OwnP wr w.heap.size v L
  ne : ∀ q, v.ownBlock = some q → q ≠ g ∧ q ≠ g + 1
  low : wr.heap[g]? = some (.cells #[.int .i64 LX, .int .i64 LY] 31 (0, 0))
  top : wr.heap[g + 1]? = some (.cells #[.int .i64 TX, .int .i64 TY] 31 (0, 0))
  size : g + 2 ≤ wr.heap.size
  bel : Below w.heap.size w wr
theorem LatB.below {w wr W : World} {g : Nat} {LX LY TX TY : Int} {v : Value} {L : List Pt} (h : LatB w wr g LX LY TX TY v L) (hb : Below wr.heap.size wr W) : LatB w W g LX LY TX TY v L :=
  ⟨h.own.below hb, h.ne, (hb.block _ (by have := h.size; omega)).trans h.low, (hb.block _ (by have := h.size; omega)).trans h.top, Nat.le_trans h.size hb.size, h.bel.trans (hb.mono h.bel.size)⟩
theorem LatB.grow {w wr W : World} {g : Nat} {LX LY TX TY : Int} {v v' : Value} {L L' : List Pt} (h : LatB w wr g LX LY TX TY v L) (hown : OwnP W w.heap.size v' L') (hb : Below w.heap.size wr W) (hat : v'.ownBlock = v.ownBlock ∨ v'.ownBlock = some wr.heap.size) (hg : wr.grownBy W v.ownBlock) : LatB w W g LX LY TX TY v' L' := by
  have hs := h.size
  refine ⟨hown, fun q hq => ?_, (hg.block _ (by omega) fun e => (h.ne g e.symm).1 rfl).trans h.low, (hg.block _ (by omega) fun e => (h.ne (g + 1) e.symm).2 rfl).trans h.top, Nat.le_trans hs hb.size, h.bel.trans hb⟩
  rcases hat with e | e
  · exact h.ne q (e.symm.trans hq)
  · rw [e] at hq; injection hq with hq; omega
set_option maxRecDepth 20000 in
set_option maxHeartbeats 4000000 in
theorem sLat_any (ps : List Pt) (A : Option Addr) (n c : Nat) (w : World) (hn : ps.length = n) (hm : n ≤ 2000000) (hs : PtsAt w w.heap.size A ps) :
    Calls Try.prog 15 #[.slice A n c] w fun e w' => ∃ v, e = .returned v ∧ OwnP w' w.heap.size v (latV ps) ∧ ∃ x, w' = ext w x := by
  have HC := hide (fun (W : World) (hb : Below w.heap.size w W) => isSimple_any ps A n c W hn hm (hs.to hb))
  by_cases hok : simB ps = true
  · rw [hok] at HC
    obtain ⟨hib, h3, h20, _⟩ := simB_parts hok
    have BX := hide (fun k (hk : k ≤ n) => sim_box hok k (by omega))
    have HN := hide hn
    have n3 : 3 ≤ n := by omega
    have n20 : n ≤ 20 := by omega
    have BI : Hid (∀ i, i < n → (-100000 ≤ (pX ps i) ∧ (pX ps i) ≤ 100000) ∧ (-100000 ≤ (pY ps i) ∧ (pY ps i) ≤ 100000)) := hide (fun i hi => hib _ (gp_mem (by omega)))
    have LO := hide (fun (x y : Int) (hq : (-100000 ≤ x ∧ x ≤ 100000) ∧ -100000 ≤ y ∧ y ≤ 100000) (W : World) (hb : Below w.heap.size w W) => sLoc_any ps x y A n c W hn (by omega) hib hq (hs.to hb))
    have LW : Hid ((latW ps : Int) = topX ps n - lowX ps n + 1 ∧ (latH ps : Int) = topY ps n - lowY ps n + 1) := hide (by
      have := BX.out n (Nat.le_refl _)
      unfold latW latH
      rw [hn]; omega)
    have FB := hide (fun h : ¬ latW ps * latH ps ≤ 1000 => latV_big (ps := ps) h)
    have FS : Hid (latW ps * latH ps ≤ 1000 → latV ps = latT ps (lowX ps n) (lowY ps n) (latH ps) (latW ps)) := hide (fun h => by rw [latV_is hok h, hn])
    have STEP := hide (fun k => (⟨rfl, rfl, rfl, rfl⟩ : lowX ps (k + 1) = min (lowX ps k) (pX ps k) ∧ lowY ps (k + 1) = min (lowY ps k) (pY ps k) ∧ topX ps (k + 1) = max (topX ps k) (pX ps k) ∧ topY ps (k + 1) = max (topY ps k) (pY ps k)))
    have O1 := hide (OwnP.empty w w.heap.size 0 (Nat.le_refl _) #[] rfl (by simp [maxLen]))
    obtain ⟨b, o, rfl, hb, hcs⟩ := hs (by omega)
    have CS := hide hcs
    clear hok hn hib h3 h20 hs hcs
    go_enter Try.func15, Try.ntmps15
    go_wp2_with fail
    refine (HC.out _ (by (repeat' (first | (with_reducible first | exact Below.refl _ _ | assumption | refine below_ext _ ?_ ?_ | refine Below.alloc ?_ ?_ _ | refine Below.drew ?_ | refine below_drewN ?_ _ | refine le_drewN _ ?_ | refine Below.setCell ?_ ?_ _ | exact Nat.le_refl _ | refine le_ext _ ?_ | refine le_alloc _ ?_ | refine le_setCell _ _ ?_ | refine le_drew ?_) | omega | (simp; done) | (simp; omega))))).mono ?_
    rintro e w1 ⟨rfl, hx1⟩
    have s1 := ext_sz hx1
    simp at s1
    have E1 := ext_bel hx1
    have B1 : Below w.heap.size w w1 := ((Below.refl _ _).alloc (Nat.le_refl _) _).trans (E1.mono (by first | (simp; done) | (simp; omega)))
    have OW1 := hide (O1.out.below E1)
    clear hx1 E1 O1
    obtain ⟨f0, f1⟩ := CS.out 0 (by rw [HN.out]; omega)
    have x0 := (B1.cell (p := ⟨b, o + 0 * 2, none⟩) hb).trans f0
    have y0 := (B1.cell (p := ⟨b, o + 0 * 2 + 1, none⟩) hb).trans f1
    rw [Nat.zero_mul, Nat.add_zero] at x0 y0
    rw [show pX ps 0 = lowX ps 0 from rfl] at x0
    rw [show pY ps 0 = lowY ps 0 from rfl] at y0
    clear f0 f1
    have z0 : 0 < n := by omega
    go_wp2_with fail
    have GL : Hid (((w1.alloc (.cells #[.int .i64 (lowX ps 0), .int .i64 (lowY ps 0)] 31)).alloc (.cells #[.int .i64 (lowX ps 0), .int .i64 (lowY ps 0)] 31)).heap[w1.heap.size]? = some (.cells #[.int .i64 (lowX ps 0), .int .i64 (lowY ps 0)] 31 (0, 0))) := hide ((Below.heap_alloc _ _ _ (by simp)).trans (heap_alloc_new _ _))
    have GH : Hid (((w1.alloc (.cells #[.int .i64 (lowX ps 0), .int .i64 (lowY ps 0)] 31)).alloc (.cells #[.int .i64 (lowX ps 0), .int .i64 (lowY ps 0)] 31)).heap[w1.heap.size + 1]? = some (.cells #[.int .i64 (topX ps 0), .int .i64 (topY ps 0)] 31 (0, 0))) := hide (by
      have := heap_alloc_new (w1.alloc (.cells #[.int .i64 (lowX ps 0), .int .i64 (lowY ps 0)] 31)) (.cells #[.int .i64 (lowX ps 0), .int .i64 (lowY ps 0)] 31)
      rw [size_alloc] at this
      exact this)
    go_loopw [6] (fun u6 wr => ∃ k : Nat, k ≤ n ∧ u6 = .int .i64 k ∧ Hid (wr.heap[w1.heap.size]? = some (.cells #[.int .i64 (lowX ps k), .int .i64 (lowY ps k)] 31 (0, 0))) ∧ Hid (wr.heap[w1.heap.size + 1]? = some (.cells #[.int .i64 (topX ps k), .int .i64 (topY ps k)] 31 (0, 0))) ∧ OwnP wr w.heap.size (.slice (some ⟨w.heap.size, 0, none⟩) 0 0) [] ∧ w1.heap.size + 2 ≤ wr.heap.size ∧ Below w.heap.size w wr) (fun u6 _ => n - (intOf u6).toNat)
    case atStart => exact ⟨0, Nat.zero_le _, rfl, GL, GH, OW1.out.below (by (repeat' (first | (with_reducible first | exact Below.refl _ _ | assumption | refine below_ext _ ?_ ?_ | refine Below.alloc ?_ ?_ _ | refine Below.drew ?_ | refine below_drewN ?_ _ | refine le_drewN _ ?_ | refine Below.setCell ?_ ?_ _ | exact Nat.le_refl _ | refine le_ext _ ?_ | refine le_alloc _ ?_ | refine le_setCell _ _ ?_ | refine le_drew ?_) | omega | (simp; done) | (simp; omega)))), by simp, B1.trans (by (repeat' (first | (with_reducible first | exact Below.refl _ _ | assumption | refine below_ext _ ?_ ?_ | refine Below.alloc ?_ ?_ _ | refine Below.drew ?_ | refine below_drewN ?_ _ | refine le_drewN _ ?_ | refine Below.setCell ?_ ?_ _ | exact Nat.le_refl _ | refine le_ext _ ?_ | refine le_alloc _ ?_ | refine le_setCell _ _ ?_ | refine le_drew ?_) | omega | (simp; done) | (simp; omega))))⟩
    case round =>
      obtain ⟨k, hk, rfl, HL, HH, hown, hsz, hbel⟩ := hrel
      have hsz2 := hbel.size
      have OWN := hide hown
      have t0 := heap_cell HL.out 0
      have t1 := heap_cell HL.out 1
      have v0 := heap_cell HH.out 0
      have v1 := heap_cell HH.out 1
      simp at t0 t1 v0 v1
      have bx := BX.out k hk
      clear hown GL GH OW1
      by_cases hlt : k < n
      · as_aux_lemma =>
        have r0 := heap_frozen HL.out 0
        have r1 := heap_frozen HL.out 1
        have q0 := heap_frozen HH.out 0
        have q1 := heap_frozen HH.out 1
        obtain ⟨e0, e1⟩ := CS.out k (by rw [HN.out]; exact hlt)
        have x0 := (hbel.cell (p := ⟨b, o + k * 2, none⟩) hb).trans e0
        have y0 := (hbel.cell (p := ⟨b, o + k * 2 + 1, none⟩) hb).trans e1
        obtain ⟨⟨p1, p2⟩, p3, p4⟩ := BI.out k hlt
        have qq1 : (0 : Int) ≤ (k : Int) := by omega
        have qq2 : (k : Int) < (n : Int) := by omega
        have ST := hide (STEP.out k)
        clear e0 e1 CS STEP
        generalize pX ps k = X at *
        generalize pY ps k = Y at *
        generalize lowX ps k = LX at *
        generalize lowY ps k = LY at *
        generalize topX ps k = TX at *
        generalize topY ps k = TY at *
        go_wp2_with fail
        go_region
        go_wp2_with fail
        go_region
        go_wp2_with fail
        refine ⟨⟨k + 1, by omega, by go_num, ?_, ?_, ?_, ?_, ?_⟩, by simp [intOf]; omega⟩
        · rw [ST.out.1, ST.out.2.1]
          exact hide ((Below.heap_setCell _ _ _ _ (by simp)).trans ((Below.heap_setCell _ _ _ _ (by simp)).trans (box_set2 HL.out _ _)))
        · rw [ST.out.2.2.1, ST.out.2.2.2]
          exact hide (box_set2 ((Below.heap_setCell _ _ _ _ (by simp)).trans ((Below.heap_setCell _ _ _ _ (by simp)).trans HH.out)) _ _)
        · refine own_block OWN.out fun q hq => ?_
          have eq : q = w.heap.size := by simpa [Value.ownBlock] using hq.symm
          exact (Below.heap_setCell _ _ _ _ (by show q ≠ w1.heap.size + 1; omega)).trans ((Below.heap_setCell _ _ _ _ (by show q ≠ w1.heap.size + 1; omega)).trans ((Below.heap_setCell _ _ _ _ (by show q ≠ w1.heap.size; omega)).trans (Below.heap_setCell _ _ _ _ (by show q ≠ w1.heap.size; omega))))
        · simp; omega
        · exact hbel.trans (((((((Below.refl _ _)).setCell (by simp; omega) _).setCell (by simp; omega) _).setCell (by simp; omega) _).setCell (by simp; omega) _).drew.drew)
      · as_aux_lemma =>
        have ek : k = n := by omega
        subst ek
        have LB : Hid (LatB w wr w1.heap.size (lowX ps k) (lowY ps k) (topX ps k) (topY ps k) (.slice (some ⟨w.heap.size, 0, none⟩) 0 0) []) := hide ⟨OWN.out, (fun q hq => by
          have eq : q = w.heap.size := by simpa [Value.ownBlock] using hq.symm
          omega), HL.out, HH.out, hsz, hbel⟩
        clear CS STEP BI BX OWN hlt HL HH
        obtain ⟨lw1, lw2⟩ := LW.out
        have m1 := mul_bd (M := 2001) (N := 2001) (a := topX ps k - lowX ps k + 1) (b := topY ps k - lowY ps k + 1) (by omega) (by omega)
        by_cases hle : latW ps * latH ps ≤ 1000
        · have dW : decide ((1000 : Int) < (topX ps k - lowX ps k + 1) * (topY ps k - lowY ps k + 1)) = false := decide_eq_false (by
            rw [← lw1, ← lw2, ← Int.natCast_mul]; omega)
          have FS2 := hide (FS.out hle)
          clear FS FB HN LW
          have LB6 : Hid (LatB w wr w1.heap.size (lowX ps k) (lowY ps k) (topX ps k) (topY ps k) (.slice (some ⟨w.heap.size, 0, none⟩) 0 0) (latT ps (lowX ps k) (lowY ps k) (latH ps) 0)) := LB
          have CY := hide (fun (i j : Nat) (h : locI ps ⟨lowX ps k + (i : Nat), lowY ps k + (j : Nat)⟩ = 1) => col_yes h (latT ps (lowX ps k) (lowY ps k) (latH ps) i))
          have CN := hide (fun (i j : Nat) (h : ¬ locI ps ⟨lowX ps k + (i : Nat), lowY ps k + (j : Nat)⟩ = 1) => col_no h (latT ps (lowX ps k) (lowY ps k) (latH ps) i))
          have LL := hide (fun i j (hi : i < latW ps) (hj : j < latH ps) => (show (latT ps (lowX ps k) (lowY ps k) (latH ps) i ++ colT ps (lowX ps k + (i : Nat)) (lowY ps k) j).length ≤ 2000000 from by
            have h1 := latT_le ps (lowX ps k) (lowY ps k) (latH ps) i
            have h2 := colT_le ps (lowX ps k + (i : Nat)) (lowY ps k) j
            have h3 : (i + 1) * latH ps ≤ latW ps * latH ps := Nat.mul_le_mul_right _ (by omega)
            rw [Nat.succ_mul] at h3
            rw [List.length_append]
            omega))
          clear hle LB
          generalize topX ps k = TX at *
          generalize topY ps k = TY at *
          generalize lowX ps k = LX at *
          generalize lowY ps k = LY at *
          generalize latW ps = mw at *
          generalize latH ps = mh at *
          obtain ⟨W1, hW1⟩ : ∃ W1, W1 = wr := ⟨_, rfl⟩
          subst hW1
          go_wp2_with fail
          go_loopw [3, 7] (fun u3 u7 wr => ∃ i : Nat, i ≤ mw ∧ u7 = .int .i64 (LX + (i : Nat)) ∧ Hid (LatB w wr w1.heap.size LX LY TX TY u3 (latT ps LX LY mh i))) (fun _ u7 _ => mw - (intOf u7 - LX).toNat)
          case atStart => exact ⟨0, Nat.zero_le _, by simp, LB6⟩
          case round =>
            obtain ⟨i, hi, rfl, LB7⟩ := hrel
            clear LB6 hbel hsz hsz2 t0 t1 v0 v1
            obtain ⟨A6, n6, c6, rfl⟩ := LB7.out.own.slice
            have hbel := LB7.out.bel
            have hsz2 := hbel.size
            have hsz := LB7.out.size
            have t0 := heap_cell LB7.out.low 0
            have t1 := heap_cell LB7.out.low 1
            have v0 := heap_cell LB7.out.top 0
            have v1 := heap_cell LB7.out.top 1
            simp at t0 t1 v0 v1
            by_cases hlt : i < mw
            · have di : decide (LX + (i : Int) ≤ TX) = true := decide_eq_true (by omega)
              obtain ⟨W2, hW2⟩ : ∃ W2, W2 = wr := ⟨_, rfl⟩
              subst hW2
              go_wp2_with fail
              go_loopw [3, 8] (fun u3 u8 wr => ∃ j : Nat, j ≤ mh ∧ u8 = .int .i64 (LY + (j : Nat)) ∧ Hid (LatB w wr w1.heap.size LX LY TX TY u3 (latT ps LX LY mh i ++ colT ps (LX + (i : Nat)) LY j))) (fun _ u8 _ => mh - (intOf u8 - LY).toNat)
              case atStart => exact ⟨0, Nat.zero_le _, by simp, by rw [show colT ps (LX + (i : Nat)) LY 0 = [] from rfl, List.append_nil]; exact LB7⟩
              case round =>
                obtain ⟨j, hj, rfl, LB8⟩ := hrel
                clear LB7 hbel hsz hsz2 t0 t1 v0 v1
                obtain ⟨A7, n7, c7, rfl⟩ := LB8.out.own.slice
                have hbel := LB8.out.bel
                have hsz2 := hbel.size
                have hsz := LB8.out.size
                have t0 := heap_cell LB8.out.low 0
                have t1 := heap_cell LB8.out.low 1
                have v0 := heap_cell LB8.out.top 0
                have v1 := heap_cell LB8.out.top 1
                simp at t0 t1 v0 v1
                by_cases hlj : j < mh
                · have dj : decide (LY + (j : Int) ≤ TY) = true := decide_eq_true (by omega)
                  have LOC := hide (LO.out (LX + (i : Nat)) (LY + (j : Nat)) ⟨by omega, by omega⟩)
                  by_cases hl : locI ps ⟨LX + (i : Nat), LY + (j : Nat)⟩ = 1
                  · have NX := hide (CY.out i j hl)
                    have NL := LL.out i j hlt hlj
                    have dl : (locI ps ⟨LX + (i : Nat), LY + (j : Nat)⟩ == 1) = true := by rw [hl]; rfl
                    rw [hl] at LOC
                    clear hl CY CN LO
                    generalize latT ps LX LY mh i ++ colT ps (LX + (i : Nat)) LY j = L7 at *
                    go_wp2_with fail
                    refine (LOC.out _ (hbel.trans (by (repeat' (first | (with_reducible first | exact Below.refl _ _ | assumption | refine below_ext _ ?_ ?_ | refine Below.alloc ?_ ?_ _ | refine Below.drew ?_ | refine below_drewN ?_ _ | refine le_drewN _ ?_ | refine Below.setCell ?_ ?_ _ | exact Nat.le_refl _ | refine le_ext _ ?_ | refine le_alloc _ ?_ | refine le_setCell _ _ ?_ | refine le_drew ?_) | omega | (simp; done) | (simp; omega)))))).mono ?_
                    rintro e w' ⟨rfl, hw'⟩; have hzy8 := ext_sz hw'; obtain ⟨y8, rfl⟩ := hw'; (try simp at hzy8)
                    go_wp2_with (at_builtin; refine app_pt rfl _ _ rfl w.heap.size (.slice A7 n7 c7) L7 rfl ((LB8.out.below (by (repeat' (first | (with_reducible first | exact Below.refl _ _ | assumption | refine below_ext _ ?_ ?_ | refine Below.alloc ?_ ?_ _ | refine Below.drew ?_ | refine below_drewN ?_ _ | refine le_drewN _ ?_ | refine Below.setCell ?_ ?_ _ | exact Nat.le_refl _ | refine le_ext _ ?_ | refine le_alloc _ ?_ | refine le_setCell _ _ ?_ | refine le_drew ?_) | omega | (simp; done) | (simp; omega))))).own) (LX + (i : Nat)) (LY + (j : Nat)) _ _ rfl (by simp [go_sem]) (by simp [go_sem]) NL (by simp; omega) ?_; intro v' w' hown' hb' hat hgr; have LB9 := hide ((LB8.out.below (by (repeat' (first | (with_reducible first | exact Below.refl _ _ | assumption | refine below_ext _ ?_ ?_ | refine Below.alloc ?_ ?_ _ | refine Below.drew ?_ | refine below_drewN ?_ _ | refine le_drewN _ ?_ | refine Below.setCell ?_ ?_ _ | exact Nat.le_refl _ | refine le_ext _ ?_ | refine le_alloc _ ?_ | refine le_setCell _ _ ?_ | refine le_drew ?_) | omega | (simp; done) | (simp; omega))))).grow hown' hb' hat hgr); obtain ⟨A8, n8, c8, rfl⟩ := hown'.slice; clear hown' hat hgr hb')
                    exact ⟨⟨j + 1, by omega, by go_num, by rw [NX.out]; exact LB9⟩, by simp [intOf]; omega⟩
                  · have NX := hide (CN.out i j hl)
                    have dl : (locI ps ⟨LX + (i : Nat), LY + (j : Nat)⟩ == 1) = false := by rw [beq_eq_false_iff_ne]; exact hl
                    clear hl CY CN LO
                    generalize locI ps ⟨LX + (i : Nat), LY + (j : Nat)⟩ = LV at *
                    generalize latT ps LX LY mh i ++ colT ps (LX + (i : Nat)) LY j = L7 at *
                    go_wp2_with fail
                    refine (LOC.out _ (hbel.trans (by (repeat' (first | (with_reducible first | exact Below.refl _ _ | assumption | refine below_ext _ ?_ ?_ | refine Below.alloc ?_ ?_ _ | refine Below.drew ?_ | refine below_drewN ?_ _ | refine le_drewN _ ?_ | refine Below.setCell ?_ ?_ _ | exact Nat.le_refl _ | refine le_ext _ ?_ | refine le_alloc _ ?_ | refine le_setCell _ _ ?_ | refine le_drew ?_) | omega | (simp; done) | (simp; omega)))))).mono ?_
                    rintro e w' ⟨rfl, hw'⟩; have hzy8 := ext_sz hw'; obtain ⟨y8, rfl⟩ := hw'; (try simp at hzy8)
                    go_wp2_with fail
                    exact ⟨⟨j + 1, by omega, by go_num, by rw [NX.out]; exact hide (LB8.out.below (by (repeat' (first | (with_reducible first | exact Below.refl _ _ | assumption | refine below_ext _ ?_ ?_ | refine Below.alloc ?_ ?_ _ | refine Below.drew ?_ | refine below_drewN ?_ _ | refine le_drewN _ ?_ | refine Below.setCell ?_ ?_ _ | exact Nat.le_refl _ | refine le_ext _ ?_ | refine le_alloc _ ?_ | refine le_setCell _ _ ?_ | refine le_drew ?_) | omega | (simp; done) | (simp; omega)))))⟩, by simp [intOf]; omega⟩
                · have ej : j = mh := by omega
                  have dj : decide (LY + (j : Int) ≤ TY) = false := decide_eq_false (by omega)
                  have LB9 : Hid (LatB w wr w1.heap.size LX LY TX TY (.slice A7 n7 c7) (latT ps LX LY mh (i + 1))) := hide (by
                    have h7 := LB8.out
                    rw [ej] at h7
                    exact h7)
                  clear LB8 CY CN
                  go_wp2_with fail
                  exact ⟨⟨i + 1, by omega, by go_num, LB9⟩, by simp [intOf]; omega⟩
            · have ei : i = mw := by omega
              have di : decide (LX + (i : Int) ≤ TX) = false := decide_eq_false (by omega)
              have OWN8 : Hid (OwnP wr w.heap.size (.slice A6 n6 c6) (latV ps)) := hide (by rw [FS2.out, ← ei]; exact LB7.out.own)
              clear LB7 CY CN
              go_wp2_with fail
              go_ret
              exact ⟨_, rfl, OWN8.out, ext_mk hbel⟩
        · have dW : decide ((1000 : Int) < (topX ps k - lowX ps k + 1) * (topY ps k - lowY ps k + 1)) = true := decide_eq_true (by
            rw [← lw1, ← lw2, ← Int.natCast_mul]; omega)
          have FB2 := hide (FB.out hle)
          clear FS FB HN hle LW lw1 lw2 LB
          go_wp2_with fail
          go_ret
          exact ⟨_, rfl, by rw [FB2.out]; exact OwnP.nil _ _, ext_mk hbel⟩
  · rw [eq_false_of_ne_true hok] at HC
    have HV := hide (latV_no (ps := ps) (eq_false_of_ne_true hok))
    clear hok hn hs
    go_enter Try.func15, Try.ntmps15
    go_wp2_with fail
    refine (HC.out _ (by (repeat' (first | (with_reducible first | exact Below.refl _ _ | assumption | refine below_ext _ ?_ ?_ | refine Below.alloc ?_ ?_ _ | refine Below.drew ?_ | refine below_drewN ?_ _ | refine le_drewN _ ?_ | refine Below.setCell ?_ ?_ _ | exact Nat.le_refl _ | refine le_ext _ ?_ | refine le_alloc _ ?_ | refine le_setCell _ _ ?_ | refine le_drew ?_) | omega | (simp; done) | (simp; omega))))).mono ?_
    rintro e w' ⟨rfl, hw'⟩; have hzy1 := ext_sz hw'; obtain ⟨y1, rfl⟩ := hw'; (try simp at hzy1)
    go_wp2_with fail
    go_ret
    exact ⟨_, rfl, by rw [HV.out]; exact OwnP.nil _ _, (ext_mk (by (repeat' (first | (with_reducible first | exact Below.refl _ _ | assumption | refine below_ext _ ?_ ?_ | refine Below.alloc ?_ ?_ _ | refine Below.drew ?_ | refine below_drewN ?_ _ | refine le_drewN _ ?_ | refine Below.setCell ?_ ?_ _ | exact Nat.le_refl _ | refine le_ext _ ?_ | refine le_alloc _ ?_ | refine le_setCell _ _ ?_ | refine le_drew ?_) | omega | (simp; done) | (simp; omega)))))⟩
end Go.Proofs.Ytcebmcbglhkkfaa
