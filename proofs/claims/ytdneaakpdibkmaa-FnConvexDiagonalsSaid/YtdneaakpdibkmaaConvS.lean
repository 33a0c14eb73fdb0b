
/- Convex polygons: the reference's test and its place of a point; IsConvex both. -/
import Derived.Test.YtdneaakpdibkmaaConv
import Derived.Test.YtdneaakpdibkmaaSimS
set_option linter.unusedVariables false
set_option linter.unusedSimpArgs false
namespace Go.Proofs.Ytdneaakpdibkmaa
open Go.RowKit

set_option maxHeartbeats 1000000 in
theorem sconvex_any (ps : List Pt) (A : Option Addr) (n c : Nat) (w : World) (hn : ps.length = n) (hm : n ≤ 2000000) (hs : PtsAt w w.heap.size A ps) :
    Calls Try.prog 53 #[.slice A n c] w fun e w' => e = .returned (.bool (convB ps)) ∧ ∃ x, w' = ext w x := by
  have HC := hide (isSimple_any ps A n c w hn hm hs)
  by_cases hok : simB ps = true
  · rw [hok] at HC
    obtain ⟨hib, h3, h20, _⟩ := simB_parts hok
    have HS := hide hs
    have HN := hide hn
    have BI : Hid (∀ i, i < n → (-100000 ≤ (gp ps i).x ∧ (gp ps i).x ≤ 100000) ∧ (-100000 ≤ (gp ps i).y ∧ (gp ps i).y ≤ 100000)) := hide (fun i hi => hib _ (gp_mem (by omega)))
    have HY := hide (fun h2 => convB_yes hok h2)
    have HNO := hide (fun (i : Nat) (hi : i < n) h => convB_at (ps := ps) (i := i) (by omega) h)
    have k3 : 3 ≤ n := by omega
    have k20 : n ≤ 20 := by omega
    clear hok hn hs hib h3 h20
    go_enter Try.func53, Try.ntmps53
    go_wp2_with fail
    refine HC.out.mono ?_
    rintro e w' ⟨rfl, hw'⟩; have hzy1 := ext_sz hw'; obtain ⟨y1, rfl⟩ := hw'; (try simp at hzy1)
    have B1 := ext_below w y1
    generalize hW1 : ext w y1 = W1 at *
    clear hW1
    go_wp2
    go_loopw [3] (fun u9 wr => ∃ i : Nat, i ≤ n ∧ u9 = .int .i64 i ∧ Hid (∀ j, j < i → 0 < trn (gp ps j) (gp ps ((j + 1) % ps.length)) (gp ps ((j + 2) % ps.length))) ∧ Below w.heap.size w wr) (fun u9 _ => n - (intOf u9).toNat)
    case atStart => exact ⟨0, Nat.zero_le _, rfl, (fun j hj => by omega), B1⟩
    case round =>
      obtain ⟨i, hi, rfl, HP, hbel⟩ := hrel
      have hsz := hbel.size
      by_cases hlt : i < n
      · obtain ⟨b, o, rfl, hb, hcs⟩ := HS.out (by rw [HN.out]; omega)
        obtain ⟨j, hj⟩ : ∃ j, j = (i + 1) % n := ⟨_, rfl⟩
        obtain ⟨k, hk⟩ : ∃ k, k = (i + 2) % n := ⟨_, rfl⟩
        have hjl : j < n := by rw [hj]; exact Nat.mod_lt _ (by omega)
        have hkl : k < n := by rw [hk]; exact Nat.mod_lt _ (by omega)
        obtain ⟨hx0, hy0⟩ := hcs i (by rw [HN.out]; omega)
        obtain ⟨hx1, hy1⟩ := hcs j (by rw [HN.out]; omega)
        obtain ⟨hx2, hy2⟩ := hcs k (by rw [HN.out]; omega)
        have gx0 := (hbel.cell (p := ⟨b, o + i * 2, none⟩) hb).trans hx0
        have gy0 := (hbel.cell (p := ⟨b, o + i * 2 + 1, none⟩) hb).trans hy0
        have gx1 := (hbel.cell (p := ⟨b, o + j * 2, none⟩) hb).trans hx1
        have gy1 := (hbel.cell (p := ⟨b, o + j * 2 + 1, none⟩) hb).trans hy1
        have gx2 := (hbel.cell (p := ⟨b, o + k * 2, none⟩) hb).trans hx2
        have gy2 := (hbel.cell (p := ⟨b, o + k * 2 + 1, none⟩) hb).trans hy2
        have e2 : Int.tmod ((i : Int) + 1) (n : Int) = (j : Int) := by rw [hj]; exact (Int.ofNat_tmod (i + 1) n).symm
        have e3 : Int.tmod ((i : Int) + 2) (n : Int) = (k : Int) := by rw [hk]; exact (Int.ofNat_tmod (i + 2) n).symm
        have w1 : IntKind.i64.wrap ((i : Int) + 1) = (i : Int) + 1 := IntWalk.i64_in _ (by omega)
        have w2 : IntKind.i64.wrap ((i : Int) + 2) = (i : Int) + 2 := IntWalk.i64_in _ (by omega)
        have w3 : IntKind.i64.wrap (j : Int) = (j : Int) := IntWalk.i64_in _ (by omega)
        have w4 : IntKind.i64.wrap (k : Int) = (k : Int) := IntWalk.i64_in _ (by omega)
        have q1 : (0 : Int) ≤ (j : Int) := by omega
        have q2 : (j : Int) < (n : Int) := by omega
        have q3 : (0 : Int) ≤ (i : Int) := by omega
        have q4 : (i : Int) < (n : Int) := by omega
        have q5 : ¬ n = 0 := by omega
        have q6 : (0 : Int) ≤ (k : Int) := by omega
        have q7 : (k : Int) < (n : Int) := by omega
        obtain ⟨⟨p1, p2⟩, p3, p4⟩ := BI.out i hlt
        obtain ⟨⟨p5, p6⟩, p7, p8⟩ := BI.out j hjl
        obtain ⟨⟨p9, p10⟩, p11, p12⟩ := BI.out k hkl
        have HT : Hid (trn (gp ps i) (gp ps ((i + 1) % ps.length)) (gp ps ((i + 2) % ps.length)) = ((pX ps j - pX ps i) * (pY ps k - pY ps i) - (pY ps j - pY ps i) * (pX ps k - pX ps i))) := hide (by rw [HN.out, ← hj, ← hk]; rfl)
        have hno := hide (HNO.out i hlt)
        have BX := hide (And.intro p1 (And.intro p2 (And.intro p3 (And.intro p4 (And.intro p5 (And.intro p6 (And.intro p7 (And.intro p8 (And.intro p9 (And.intro p10 (And.intro p11 p12)))))))))))
        clear hcs hx0 hy0 hx1 hy1 hx2 hy2 hj hk p1 p2 p3 p4 p5 p6 p7 p8 p9 p10 p11 p12
        rw [HT.out] at hno
        have TU := hide (fun W => scross_any (pX ps i) (pY ps i) (pX ps j) (pY ps j) (pX ps k) (pY ps k) W ⟨BX.out.1, BX.out.2.1⟩ ⟨BX.out.2.2.1, BX.out.2.2.2.1⟩ ⟨BX.out.2.2.2.2.1, BX.out.2.2.2.2.2.1⟩ ⟨BX.out.2.2.2.2.2.2.1, BX.out.2.2.2.2.2.2.2.1⟩ ⟨BX.out.2.2.2.2.2.2.2.2.1, BX.out.2.2.2.2.2.2.2.2.2.1⟩ ⟨BX.out.2.2.2.2.2.2.2.2.2.2.1, BX.out.2.2.2.2.2.2.2.2.2.2.2⟩)
        generalize (pX ps j - pX ps i) * (pY ps k - pY ps i) - (pY ps j - pY ps i) * (pX ps k - pX ps i) = V at *
        by_cases hv : V ≤ 0
        · have hdv : decide (V ≤ 0) = true := decide_eq_true hv
          have HV := hide (hno.out (by omega))
          clear hv
          go_wp2_with fail
          refine wp_region_ext (by kernel_rfl) (by kernel_rfl) ?_
          repeat (go_big_quiet_step ((first | (go_at_call 89; exact Calls.in_ext (TU.out _)))))
          refine wpQuiet_nil ?_
          rintro _ hnq
          have hzq := ext_sz hnq
          obtain ⟨nq, rfl⟩ := hnq
          (try simp at hzq)
          go_wp2_with fail
          go_ret
          exact ⟨ret_bool HV.out.symm, ext_mk (hbel.trans (by (repeat' (first | (with_reducible exact Below.refl _ _) | (with_reducible assumption) | (with_reducible refine below_ext _ ?_ ?_) | (with_reducible refine Below.alloc ?_ ?_ _) | (with_reducible refine Below.drew ?_) | (with_reducible refine below_drewN ?_ _) | (with_reducible refine le_drewN _ ?_) | (with_reducible refine Below.setCell ?_ ?_ _) | (with_reducible exact Nat.le_refl _) | (with_reducible refine le_ext _ ?_) | (with_reducible refine le_alloc _ ?_) | (with_reducible refine le_setCell _ _ ?_) | (with_reducible refine le_drew ?_) | omega | (simp; done) | (simp; omega)))))⟩
        · have hdv : decide (V ≤ 0) = false := decide_eq_false hv
          have HV := hide (show 0 < V by omega)
          clear hv
          go_wp2_with fail
          refine wp_region_ext (by kernel_rfl) (by kernel_rfl) ?_
          repeat (go_big_quiet_step ((first | (go_at_call 89; exact Calls.in_ext (TU.out _)))))
          refine wpQuiet_nil ?_
          rintro _ hnq
          have hzq := ext_sz hnq
          obtain ⟨nq, rfl⟩ := hnq
          (try simp at hzq)
          go_wp2_with fail
          exact ⟨⟨i + 1, by omega, by go_num, hide (fun j hj => by
            by_cases e : j = i
            · subst e; rw [HT.out]; exact HV.out
            · exact HP.out j (by omega)), hbel.trans (by (repeat' (first | (with_reducible exact Below.refl _ _) | (with_reducible assumption) | (with_reducible refine below_ext _ ?_ ?_) | (with_reducible refine Below.alloc ?_ ?_ _) | (with_reducible refine Below.drew ?_) | (with_reducible refine below_drewN ?_ _) | (with_reducible refine le_drewN _ ?_) | (with_reducible refine Below.setCell ?_ ?_ _) | (with_reducible exact Nat.le_refl _) | (with_reducible refine le_ext _ ?_) | (with_reducible refine le_alloc _ ?_) | (with_reducible refine le_setCell _ _ ?_) | (with_reducible refine le_drew ?_) | omega | (simp; done) | (simp; omega))))⟩, by simp [intOf]; omega⟩
      · have hin' : i = n := by omega
        subst hin'
        have HV := hide (HY.out (fun j hj => HP.out j (by rw [← HN.out]; exact hj)))
        go_wp2
        go_ret
        exact ⟨ret_bool HV.out.symm, ext_mk hbel⟩
  · rw [eq_false_of_ne_true hok] at HC
    have HV := hide (convB_no (eq_false_of_ne_true hok))
    clear hok hn hs
    go_enter Try.func53, Try.ntmps53
    go_wp2_with fail
    refine HC.out.mono ?_
    rintro e w' ⟨rfl, hw'⟩; have hzy1 := ext_sz hw'; obtain ⟨y1, rfl⟩ := hw'; (try simp at hzy1)
    go_wp2_with fail
    go_ret
    exact ⟨ret_bool HV.out.symm, (ext_mk (by (repeat' (first | (with_reducible exact Below.refl _ _) | (with_reducible assumption) | (with_reducible refine below_ext _ ?_ ?_) | (with_reducible refine Below.alloc ?_ ?_ _) | (with_reducible refine Below.drew ?_) | (with_reducible refine below_drewN ?_ _) | (with_reducible refine le_drewN _ ?_) | (with_reducible refine Below.setCell ?_ ?_ _) | (with_reducible exact Nat.le_refl _) | (with_reducible refine le_ext _ ?_) | (with_reducible refine le_alloc _ ?_) | (with_reducible refine le_setCell _ _ ?_) | (with_reducible refine le_drew ?_) | omega | (simp; done) | (simp; omega)))))⟩
set_option maxHeartbeats 400000 in
theorem iConv_any (ps : List Pt) (A : Option Addr) (n c : Nat) (w : World) (hn : ps.length = n) (hm : n ≤ 2000000) (hA : Plain A n) (hs : PtsAt w w.heap.size A ps) :
    Calls Try.prog 24 #[.slice A n c] w fun e w' => e = .returned (.bool (convB ps)) ∧ ∃ x, w' = ext w x := by
  have HC := hide (convex_any ps A n c w hn hm hA hs)
  clear hn hs
  go_enter Try.func24, Try.ntmps24
  go_wp2_with fail
  refine HC.out.mono ?_
  rintro e w' ⟨rfl, hw'⟩; have hzy1 := ext_sz hw'; obtain ⟨y1, rfl⟩ := hw'; (try simp at hzy1)
  go_wp2_with fail
  go_ret
  exact ⟨rfl, (ext_mk (by (repeat' (first | (with_reducible exact Below.refl _ _) | (with_reducible assumption) | (with_reducible refine below_ext _ ?_ ?_) | (with_reducible refine Below.alloc ?_ ?_ _) | (with_reducible refine Below.drew ?_) | (with_reducible refine below_drewN ?_ _) | (with_reducible refine le_drewN _ ?_) | (with_reducible refine Below.setCell ?_ ?_ _) | (with_reducible exact Nat.le_refl _) | (with_reducible refine le_ext _ ?_) | (with_reducible refine le_alloc _ ?_) | (with_reducible refine le_setCell _ _ ?_) | (with_reducible refine le_drew ?_) | omega | (simp; done) | (simp; omega)))))⟩
set_option maxHeartbeats 400000 in
theorem sConv_any (ps : List Pt) (A : Option Addr) (n c : Nat) (w : World) (hn : ps.length = n) (hm : n ≤ 2000000) (hs : PtsAt w w.heap.size A ps) :
    Calls Try.prog 25 #[.slice A n c] w fun e w' => e = .returned (.bool (convB ps)) ∧ ∃ x, w' = ext w x := by
  have HC := hide (sconvex_any ps A n c w hn hm hs)
  clear hn hs
  go_enter Try.func25, Try.ntmps25
  go_wp2_with fail
  refine HC.out.mono ?_
  rintro e w' ⟨rfl, hw'⟩; have hzy1 := ext_sz hw'; obtain ⟨y1, rfl⟩ := hw'; (try simp at hzy1)
  go_wp2_with fail
  go_ret
  exact ⟨rfl, (ext_mk (by (repeat' (first | (with_reducible exact Below.refl _ _) | (with_reducible assumption) | (with_reducible refine below_ext _ ?_ ?_) | (with_reducible refine Below.alloc ?_ ?_ _) | (with_reducible refine Below.drew ?_) | (with_reducible refine below_drewN ?_ _) | (with_reducible refine le_drewN _ ?_) | (with_reducible refine Below.setCell ?_ ?_ _) | (with_reducible exact Nat.le_refl _) | (with_reducible refine le_ext _ ?_) | (with_reducible refine le_alloc _ ?_) | (with_reducible refine le_setCell _ _ ?_) | (with_reducible refine le_drew ?_) | omega | (simp; done) | (simp; omega)))))⟩
set_option maxHeartbeats 1000000 in
theorem inHull_any (ps : List Pt) (x y : Int) (A : Option Addr) (n c : Nat) (w : World) (hn : ps.length = n) (hm : n ≤ 1000) (hib : ∀ p ∈ ps, (-100000 ≤ p.x ∧ p.x ≤ 100000) ∧ (-100000 ≤ p.y ∧ p.y ≤ 100000)) (hq : (-100000 ≤ x ∧ x ≤ 100000) ∧ -100000 ≤ y ∧ y ≤ 100000) (hs : PtsAt w w.heap.size A ps) :
    Calls Try.prog 55 #[.slice A n c, .agg #[.int .i64 x, .int .i64 y]] w fun e w' => e = .returned (.int .i64 (leastTo ps ⟨x, y⟩ n)) ∧ ∃ x, w' = ext w x := by
  have HS := hide hs
  have HN := hide hn
  have LB := hide (least_bd ps ⟨x, y⟩)
  have BI : Hid (∀ i, i < n → (-100000 ≤ (gp ps i).x ∧ (gp ps i).x ≤ 100000) ∧ (-100000 ≤ (gp ps i).y ∧ (gp ps i).y ≤ 100000)) := hide (fun i hi => hib _ (gp_mem (by omega)))
  have HL : Hid (∀ k, k < n → leastTo ps ⟨x, y⟩ (k + 1) = min (leastTo ps ⟨x, y⟩ k) (sgn (trn (gp ps k) (gp ps ((k + 1) % n)) ⟨x, y⟩))) := hide (fun k _ => by rw [← HN.out]; rfl)
  clear hn hs hib
  go_enter Try.func55, Try.ntmps55
  go_wp2_with fail
  have B5 := hide (show Below w.heap.size w (w.alloc (.cells #[.int .i64 x, .int .i64 y] 25)) from (by (repeat' (first | (with_reducible exact Below.refl _ _) | (with_reducible assumption) | (with_reducible refine below_ext _ ?_ ?_) | (with_reducible refine Below.alloc ?_ ?_ _) | (with_reducible refine Below.drew ?_) | (with_reducible refine below_drewN ?_ _) | (with_reducible refine le_drewN _ ?_) | (with_reducible refine Below.setCell ?_ ?_ _) | (with_reducible exact Nat.le_refl _) | (with_reducible refine le_ext _ ?_) | (with_reducible refine le_alloc _ ?_) | (with_reducible refine le_setCell _ _ ?_) | (with_reducible refine le_drew ?_) | omega | (simp; done) | (simp; omega)))))
  have BX := hide (heap_alloc_new w (.cells #[.int .i64 x, .int .i64 y] 25))
  have hwb : w.heap.size + 1 ≤ (w.alloc (.cells #[.int .i64 x, .int .i64 y] 25)).heap.size := by simp
  generalize w.alloc (.cells #[.int .i64 x, .int .i64 y] 25) = W5 at *
  go_loopw [5, 6] (fun u5 u6 wr => ∃ i : Nat, i ≤ n ∧ u6 = .int .i64 i ∧ u5 = .int .i64 (leastTo ps ⟨x, y⟩ i) ∧ Below W5.heap.size W5 wr) (fun _ u6 _ => n - (intOf u6).toNat)
  case atStart => exact ⟨0, Nat.zero_le _, rfl, rfl, Below.refl _ _⟩
  case round =>
    obtain ⟨i, hi, rfl, rfl, hbel⟩ := hrel
    have hsz := hbel.size
    have bx := (hbel.block w.heap.size (by omega)).trans BX.out
    have x0 := heap_cell bx 0
    have x1 := heap_cell bx 1
    simp at x0 x1
    clear bx
    by_cases hlt : i < n
    · obtain ⟨b, o, rfl, hb, hcs⟩ := HS.out (by rw [HN.out]; omega)
      obtain ⟨j, hj⟩ : ∃ j, j = (i + 1) % n := ⟨_, rfl⟩
      have hjl : j < n := by rw [hj]; exact Nat.mod_lt _ (by omega)
      obtain ⟨hx0, hy0⟩ := hcs i (by rw [HN.out]; omega)
      obtain ⟨hx1, hy1⟩ := hcs j (by rw [HN.out]; omega)
      have B9 := B5.out.trans (hbel.mono B5.out.size)
      have gx0 := (B9.cell (p := ⟨b, o + i * 2, none⟩) hb).trans hx0
      have gy0 := (B9.cell (p := ⟨b, o + i * 2 + 1, none⟩) hb).trans hy0
      have gx1 := (B9.cell (p := ⟨b, o + j * 2, none⟩) hb).trans hx1
      have gy1 := (B9.cell (p := ⟨b, o + j * 2 + 1, none⟩) hb).trans hy1
      have e2 : Int.tmod ((i : Int) + 1) (n : Int) = (j : Int) := by rw [hj]; exact (Int.ofNat_tmod (i + 1) n).symm
      have w1 : IntKind.i64.wrap ((i : Int) + 1) = (i : Int) + 1 := IntWalk.i64_in _ (by omega)
      have w3 : IntKind.i64.wrap (j : Int) = (j : Int) := IntWalk.i64_in _ (by omega)
      have q1 : (0 : Int) ≤ (j : Int) := by omega
      have q2 : (j : Int) < (n : Int) := by omega
      have q3 : (0 : Int) ≤ (i : Int) := by omega
      have q4 : (i : Int) < (n : Int) := by omega
      have q5 : ¬ n = 0 := by omega
      obtain ⟨⟨p1, p2⟩, p3, p4⟩ := BI.out i hlt
      obtain ⟨⟨p5, p6⟩, p7, p8⟩ := BI.out j hjl
      have NX := hide (HL.out i hlt)
      rw [← hj] at NX
      have lb := LB.out i
      have sb := sgn_bd (trn (gp ps i) (gp ps j) ⟨x, y⟩)
      have TU := hide (fun W => scross_any (gp ps i).x (gp ps i).y (gp ps j).x (gp ps j).y x y W ⟨p1, p2⟩ ⟨p3, p4⟩ ⟨p5, p6⟩ ⟨p7, p8⟩ hq.1 hq.2)
      have TV : Hid (((gp ps j).x - (gp ps i).x) * (y - (gp ps i).y) - ((gp ps j).y - (gp ps i).y) * (x - (gp ps i).x) = trn (gp ps i) (gp ps j) ⟨x, y⟩) := hide rfl
      rw [TV.out] at TU
      unfold pX pY at *
      clear p1 p2 p3 p4 p5 p6 p7 p8 TV hj hcs hx0 hy0 hx1 hy1
      generalize trn (gp ps i) (gp ps j) ⟨x, y⟩ = T at *
      generalize (gp ps i).x = X1 at *
      generalize (gp ps i).y = Y1 at *
      generalize (gp ps j).x = X2 at *
      generalize (gp ps j).y = Y2 at *
      generalize leastTo ps ⟨x, y⟩ i = LV at *
      go_wp2_with fail
      go_region_with (first | (go_at_call 89; refine (TU.out _).mono ?_; rintro e w' ⟨rfl, hw'⟩; have hzy8 := ext_sz hw'; obtain ⟨y8, rfl⟩ := hw'; (try simp at hzy8)) | (go_at_call 90; refine (ssign_any _ _).mono ?_; rintro e w' ⟨rfl, hw'⟩; have hzy9 := ext_sz hw'; obtain ⟨y9, rfl⟩ := hw'; (try simp at hzy9)))
      all_goals (go_wp2_with fail)
      all_goals exact ⟨⟨i + 1, by omega, by go_num, by rw [NX.out]; try (simp [Int.min_def]; done), hbel.trans (by (repeat' (first | (with_reducible exact Below.refl _ _) | (with_reducible assumption) | (with_reducible refine below_ext _ ?_ ?_) | (with_reducible refine Below.alloc ?_ ?_ _) | (with_reducible refine Below.drew ?_) | (with_reducible refine below_drewN ?_ _) | (with_reducible refine le_drewN _ ?_) | (with_reducible refine Below.setCell ?_ ?_ _) | (with_reducible exact Nat.le_refl _) | (with_reducible refine le_ext _ ?_) | (with_reducible refine le_alloc _ ?_) | (with_reducible refine le_setCell _ _ ?_) | (with_reducible refine le_drew ?_) | omega | (simp; done) | (simp; omega))))⟩, by simp [intOf]; omega⟩
    · have hin' : i = n := by omega
      subst hin'
      go_wp2
      go_ret
      exact ⟨ret_int rfl, ext_mk (B5.out.trans (hbel.mono B5.out.size))⟩
set_option maxHeartbeats 1000000 in
theorem slocC_any (ps : List Pt) (x y : Int) (A : Option Addr) (n c : Nat) (w : World) (hn : ps.length = n) (hm : n ≤ 2000000) (hs : PtsAt w w.heap.size A ps) :
    Calls Try.prog 14 #[.slice A n c, .agg #[.int .i64 x, .int .i64 y]] w fun e w' => e = .returned (.int .i64 (locC ps ⟨x, y⟩)) ∧ ∃ x, w' = ext w x := by
  have HC := hide (fun (W : World) (hb : Below w.heap.size w W) => sconvex_any ps A n c W hn hm (hs.to hb))
  by_cases hok : convB ps = true
  · rw [hok] at HC
    have hsim : simB ps = true := by unfold convB at hok; simp only [Bool.and_eq_true] at hok; exact hok.1
    obtain ⟨hib, h3, h20, _⟩ := simB_parts hsim
    have HVA := hide (fun W => svalid_any x y W)
    by_cases hv : vP x y = true
    · rw [hv] at HVA
      have hq := vP_iff.1 hv
      have HV := hide (locC_3 (q := ⟨x, y⟩) hok hv)
      rw [hn] at HV
      have HI := hide (fun (W : World) (hb : Below w.heap.size w W) => inHull_any ps x y A n c W hn (by omega) hib (by omega) (hs.to hb))
      clear hok hn hs hib h20 h3 hsim hv
      go_enter Try.func14, Try.ntmps14
      go_wp2_with fail
      refine (HC.out _ (by (repeat' (first | (with_reducible exact Below.refl _ _) | (with_reducible assumption) | (with_reducible refine below_ext _ ?_ ?_) | (with_reducible refine Below.alloc ?_ ?_ _) | (with_reducible refine Below.drew ?_) | (with_reducible refine below_drewN ?_ _) | (with_reducible refine le_drewN _ ?_) | (with_reducible refine Below.setCell ?_ ?_ _) | (with_reducible exact Nat.le_refl _) | (with_reducible refine le_ext _ ?_) | (with_reducible refine le_alloc _ ?_) | (with_reducible refine le_setCell _ _ ?_) | (with_reducible refine le_drew ?_) | omega | (simp; done) | (simp; omega))))).mono ?_
      rintro e w' ⟨rfl, hw'⟩; have hzy1 := ext_sz hw'; obtain ⟨y1, rfl⟩ := hw'; (try simp at hzy1)
      go_wp2_with fail
      refine (HVA.out _).mono ?_
      rintro e w' ⟨rfl, hw'⟩; have hzy2 := ext_sz hw'; obtain ⟨y2, rfl⟩ := hw'; (try simp at hzy2)
      go_wp2_with fail
      refine (HI.out _ (by (repeat' (first | (with_reducible exact Below.refl _ _) | (with_reducible assumption) | (with_reducible refine below_ext _ ?_ ?_) | (with_reducible refine Below.alloc ?_ ?_ _) | (with_reducible refine Below.drew ?_) | (with_reducible refine below_drewN ?_ _) | (with_reducible refine le_drewN _ ?_) | (with_reducible refine Below.setCell ?_ ?_ _) | (with_reducible exact Nat.le_refl _) | (with_reducible refine le_ext _ ?_) | (with_reducible refine le_alloc _ ?_) | (with_reducible refine le_setCell _ _ ?_) | (with_reducible refine le_drew ?_) | omega | (simp; done) | (simp; omega))))).mono ?_
      rintro e w' ⟨rfl, hw'⟩; have hzy3 := ext_sz hw'; obtain ⟨y3, rfl⟩ := hw'; (try simp at hzy3)
      go_wp2_with fail
      go_ret
      exact ⟨ret_int HV.out.symm, (ext_mk (by (repeat' (first | (with_reducible exact Below.refl _ _) | (with_reducible assumption) | (with_reducible refine below_ext _ ?_ ?_) | (with_reducible refine Below.alloc ?_ ?_ _) | (with_reducible refine Below.drew ?_) | (with_reducible refine below_drewN ?_ _) | (with_reducible refine le_drewN _ ?_) | (with_reducible refine Below.setCell ?_ ?_ _) | (with_reducible exact Nat.le_refl _) | (with_reducible refine le_ext _ ?_) | (with_reducible refine le_alloc _ ?_) | (with_reducible refine le_setCell _ _ ?_) | (with_reducible refine le_drew ?_) | omega | (simp; done) | (simp; omega)))))⟩
    · rw [eq_false_of_ne_true hv] at HVA
      have HV := hide (locC_2 (ps := ps) (q := ⟨x, y⟩) (eq_false_of_ne_true hv))
      clear hok hn hs hib h20 h3 hsim hv
      go_enter Try.func14, Try.ntmps14
      go_wp2_with fail
      refine (HC.out _ (by (repeat' (first | (with_reducible exact Below.refl _ _) | (with_reducible assumption) | (with_reducible refine below_ext _ ?_ ?_) | (with_reducible refine Below.alloc ?_ ?_ _) | (with_reducible refine Below.drew ?_) | (with_reducible refine below_drewN ?_ _) | (with_reducible refine le_drewN _ ?_) | (with_reducible refine Below.setCell ?_ ?_ _) | (with_reducible exact Nat.le_refl _) | (with_reducible refine le_ext _ ?_) | (with_reducible refine le_alloc _ ?_) | (with_reducible refine le_setCell _ _ ?_) | (with_reducible refine le_drew ?_) | omega | (simp; done) | (simp; omega))))).mono ?_
      rintro e w' ⟨rfl, hw'⟩; have hzy1 := ext_sz hw'; obtain ⟨y1, rfl⟩ := hw'; (try simp at hzy1)
      go_wp2_with fail
      refine (HVA.out _).mono ?_
      rintro e w' ⟨rfl, hw'⟩; have hzy2 := ext_sz hw'; obtain ⟨y2, rfl⟩ := hw'; (try simp at hzy2)
      go_wp2_with fail
      go_ret
      exact ⟨ret_int HV.out.symm, (ext_mk (by (repeat' (first | (with_reducible exact Below.refl _ _) | (with_reducible assumption) | (with_reducible refine below_ext _ ?_ ?_) | (with_reducible refine Below.alloc ?_ ?_ _) | (with_reducible refine Below.drew ?_) | (with_reducible refine below_drewN ?_ _) | (with_reducible refine le_drewN _ ?_) | (with_reducible refine Below.setCell ?_ ?_ _) | (with_reducible exact Nat.le_refl _) | (with_reducible refine le_ext _ ?_) | (with_reducible refine le_alloc _ ?_) | (with_reducible refine le_setCell _ _ ?_) | (with_reducible refine le_drew ?_) | omega | (simp; done) | (simp; omega)))))⟩
  · rw [eq_false_of_ne_true hok] at HC
    have HV := hide (locC_1 (q := ⟨x, y⟩) (eq_false_of_ne_true hok))
    clear hok hn hs
    go_enter Try.func14, Try.ntmps14
    go_wp2_with fail
    refine (HC.out _ (by (repeat' (first | (with_reducible exact Below.refl _ _) | (with_reducible assumption) | (with_reducible refine below_ext _ ?_ ?_) | (with_reducible refine Below.alloc ?_ ?_ _) | (with_reducible refine Below.drew ?_) | (with_reducible refine below_drewN ?_ _) | (with_reducible refine le_drewN _ ?_) | (with_reducible refine Below.setCell ?_ ?_ _) | (with_reducible exact Nat.le_refl _) | (with_reducible refine le_ext _ ?_) | (with_reducible refine le_alloc _ ?_) | (with_reducible refine le_setCell _ _ ?_) | (with_reducible refine le_drew ?_) | omega | (simp; done) | (simp; omega))))).mono ?_
    rintro e w' ⟨rfl, hw'⟩; have hzy1 := ext_sz hw'; obtain ⟨y1, rfl⟩ := hw'; (try simp at hzy1)
    go_wp2_with fail
    go_ret
    exact ⟨ret_int HV.out.symm, (ext_mk (by (repeat' (first | (with_reducible exact Below.refl _ _) | (with_reducible assumption) | (with_reducible refine below_ext _ ?_ ?_) | (with_reducible refine Below.alloc ?_ ?_ _) | (with_reducible refine Below.drew ?_) | (with_reducible refine below_drewN ?_ _) | (with_reducible refine le_drewN _ ?_) | (with_reducible refine Below.setCell ?_ ?_ _) | (with_reducible exact Nat.le_refl _) | (with_reducible refine le_ext _ ?_) | (with_reducible refine le_alloc _ ?_) | (with_reducible refine le_setCell _ _ ?_) | (with_reducible refine le_drew ?_) | omega | (simp; done) | (simp; omega)))))⟩
end Go.Proofs.Ytdneaakpdibkmaa
