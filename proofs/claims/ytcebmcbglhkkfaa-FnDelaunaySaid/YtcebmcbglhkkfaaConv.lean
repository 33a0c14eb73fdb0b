
/- The program's test of a convex polygon, and the place of a point in a convex polygon. -/
import Derived.Test.YtcebmcbglhkkfaaSimI
set_option linter.unusedVariables false
set_option linter.unusedSimpArgs false
namespace Go.Proofs.Ytcebmcbglhkkfaa
open Go.RowKit

theorem convB_no {ps : List Pt} (h : simB ps = false) : convB ps = false := by unfold convB; rw [h]; rfl
theorem convB_at {ps : List Pt} {i : Nat} (hi : i < ps.length) (h : ¬ 0 < trn (gp ps i) (gp ps ((i + 1) % ps.length)) (gp ps ((i + 2) % ps.length))) : convB ps = false := by
  have : leftB ps = false := by
    rw [← Bool.not_eq_true]
    unfold leftB
    rw [List.all_eq_true]
    intro hh
    have := hh i (List.mem_range.2 hi)
    exact h (of_decide_eq_true this)
  unfold convB; rw [this, Bool.and_false]
theorem convB_yes {ps : List Pt} (h : simB ps = true) (h2 : ∀ i, i < ps.length → 0 < trn (gp ps i) (gp ps ((i + 1) % ps.length)) (gp ps ((i + 2) % ps.length))) : convB ps = true := by
  unfold convB leftB; rw [h, Bool.true_and, List.all_eq_true]
  exact fun i hi => decide_eq_true (h2 i (List.mem_range.1 hi))
theorem simB_parts {ps : List Pt} (h : simB ps = true) : (∀ p ∈ ps, (-100000 ≤ p.x ∧ p.x ≤ 100000) ∧ (-100000 ≤ p.y ∧ p.y ≤ 100000)) ∧ 3 ≤ ps.length ∧ ps.length ≤ 20 ∧ listOk ps = true ∧ ps.Nodup := by
  unfold simB at h
  simp only [Bool.and_eq_true] at h
  obtain ⟨h1, h2, h3⟩ := ring_parts h.1
  obtain ⟨h4, h5⟩ := listOk_InB h1
  exact ⟨h4, h2, h5, h1, h3⟩
set_option maxHeartbeats 1000000 in
theorem convex_any (ps : List Pt) (A : Option Addr) (n c : Nat) (w : World) (hn : ps.length = n) (hm : n ≤ 2000000) (hA : Plain A n) (hs : PtsAt w w.heap.size A ps) :
    Calls Try.prog 33 #[.slice A n c] w fun e w' => e = .returned (.bool (convB ps)) ∧ ∃ x, w' = ext w x := by
  have HC := hide (simple_any ps A n c w hn hm hA hs)
  by_cases hok : simB ps = true
  · rw [hok] at HC
    obtain ⟨hib, h3, h20, _⟩ := simB_parts hok
    have HS := hide hs
    have HN := hide hn
    have BI : Hid (∀ i, i < n → (-100000 ≤ (gp ps i).x ∧ (gp ps i).x ≤ 100000) ∧ (-100000 ≤ (gp ps i).y ∧ (gp ps i).y ≤ 100000)) := hide (fun i hi => hib _ (gp_mem (by omega)))
    have HY := hide (fun h2 => convB_yes hok h2)
    have HNO := hide (fun (i : Nat) (hi : i < n) h => convB_at (ps := ps) (i := i) (by omega) h)
    have k3 : 3 ≤ n := by omega
    have k20 : n ≤ 20 := by omega
    clear hok hn hs hib h3 h20
    go_enter Try.func33, Try.ntmps33
    go_wp2_with fail
    refine HC.out.mono ?_
    rintro e w' ⟨rfl, hw'⟩; have hzy1 := ext_sz hw'; obtain ⟨y1, rfl⟩ := hw'; (try simp at hzy1)
    have B1 := ext_below w y1
    generalize hW1 : ext w y1 = W1 at *
    clear hW1
    go_wp2
    go_loopw [9] (fun u9 wr => ∃ i : Nat, i ≤ n ∧ u9 = .int .i64 i ∧ Hid (∀ j, j < i → 0 < trn (gp ps j) (gp ps ((j + 1) % ps.length)) (gp ps ((j + 2) % ps.length))) ∧ Below w.heap.size w wr) (fun u9 _ => n - (intOf u9).toNat)
    case atStart => exact ⟨0, Nat.zero_le _, rfl, (fun j hj => by omega), B1⟩
    case round =>
      obtain ⟨i, hi, rfl, HP, hbel⟩ := hrel
      have hsz := hbel.size
      by_cases hlt : i < n
      · obtain ⟨b, o, rfl, hb, hcs⟩ := HS.out (by rw [HN.out]; omega)
        obtain ⟨j, hj⟩ : ∃ j, j = (i + 1) % n := ⟨_, rfl⟩
        obtain ⟨k, hk⟩ : ∃ k, k = (i + 2) % n := ⟨_, rfl⟩
        have hjl : j < n := by rw [hj]; exact Nat.mod_lt _ (by omega)
        have hkl : k < n := by rw [hk]; exact Nat.mod_lt _ (by omega)
        obtain ⟨hx0, hy0⟩ := hcs i (by rw [HN.out]; omega)
        obtain ⟨hx1, hy1⟩ := hcs j (by rw [HN.out]; omega)
        obtain ⟨hx2, hy2⟩ := hcs k (by rw [HN.out]; omega)
        have gx0 := (hbel.cell (p := ⟨b, o + i * 2, none⟩) hb).trans hx0
        have gy0 := (hbel.cell (p := ⟨b, o + i * 2 + 1, none⟩) hb).trans hy0
        have gx1 := (hbel.cell (p := ⟨b, o + j * 2, none⟩) hb).trans hx1
        have gy1 := (hbel.cell (p := ⟨b, o + j * 2 + 1, none⟩) hb).trans hy1
        have gx2 := (hbel.cell (p := ⟨b, o + k * 2, none⟩) hb).trans hx2
        have gy2 := (hbel.cell (p := ⟨b, o + k * 2 + 1, none⟩) hb).trans hy2
        have e2 : Int.tmod ((i : Int) + 1) (n : Int) = (j : Int) := by rw [hj]; exact (Int.ofNat_tmod (i + 1) n).symm
        have e3 : Int.tmod ((i : Int) + 2) (n : Int) = (k : Int) := by rw [hk]; exact (Int.ofNat_tmod (i + 2) n).symm
        have w1 : IntKind.i64.wrap ((i : Int) + 1) = (i : Int) + 1 := IntWalk.i64_in _ (by omega)
        have w2 : IntKind.i64.wrap ((i : Int) + 2) = (i : Int) + 2 := IntWalk.i64_in _ (by omega)
        have w3 : IntKind.i64.wrap (j : Int) = (j : Int) := IntWalk.i64_in _ (by omega)
        have w4 : IntKind.i64.wrap (k : Int) = (k : Int) := IntWalk.i64_in _ (by omega)
        have q1 : (0 : Int) ≤ (j : Int) := by omega
        have q2 : (j : Int) < (n : Int) := by omega
        have q3 : (0 : Int) ≤ (i : Int) := by omega
        have q4 : (i : Int) < (n : Int) := by omega
        have q5 : ¬ n = 0 := by omega
        have q6 : (0 : Int) ≤ (k : Int) := by omega
        have q7 : (k : Int) < (n : Int) := by omega
        obtain ⟨⟨p1, p2⟩, p3, p4⟩ := BI.out i hlt
        obtain ⟨⟨p5, p6⟩, p7, p8⟩ := BI.out j hjl
        obtain ⟨⟨p9, p10⟩, p11, p12⟩ := BI.out k hkl
        have HT : Hid (trn (gp ps i) (gp ps ((i + 1) % ps.length)) (gp ps ((i + 2) % ps.length)) = ((pX ps j - pX ps i) * (pY ps k - pY ps i) - (pY ps j - pY ps i) * (pX ps k - pX ps i))) := hide (by rw [HN.out, ← hj, ← hk]; rfl)
        have hno := hide (HNO.out i hlt)
        have BX := hide (And.intro p1 (And.intro p2 (And.intro p3 (And.intro p4 (And.intro p5 (And.intro p6 (And.intro p7 (And.intro p8 (And.intro p9 (And.intro p10 (And.intro p11 p12)))))))))))
        clear hcs hx0 hy0 hx1 hy1 hx2 hy2 hj hk p1 p2 p3 p4 p5 p6 p7 p8 p9 p10 p11 p12
        rw [HT.out] at hno
        have TU := hide (fun W => turn_any (pX ps i) (pY ps i) (pX ps j) (pY ps j) (pX ps k) (pY ps k) W ⟨BX.out.1, BX.out.2.1⟩ ⟨BX.out.2.2.1, BX.out.2.2.2.1⟩ ⟨BX.out.2.2.2.2.1, BX.out.2.2.2.2.2.1⟩ ⟨BX.out.2.2.2.2.2.2.1, BX.out.2.2.2.2.2.2.2.1⟩ ⟨BX.out.2.2.2.2.2.2.2.2.1, BX.out.2.2.2.2.2.2.2.2.2.1⟩ ⟨BX.out.2.2.2.2.2.2.2.2.2.2.1, BX.out.2.2.2.2.2.2.2.2.2.2.2⟩)
        generalize (pX ps j - pX ps i) * (pY ps k - pY ps i) - (pY ps j - pY ps i) * (pX ps k - pX ps i) = V at *
        by_cases hv : V ≤ 0
        · have hdv : decide (V ≤ 0) = true := decide_eq_true hv
          have HV := hide (hno.out (by omega))
          clear hv
          go_wp2_with fail
          refine wp_region_ext (by kernel_rfl) (by kernel_rfl) ?_
          repeat (go_big_quiet_step ((first | (go_at_call 37; exact Calls.in_ext (TU.out _)))))
          refine wpQuiet_nil ?_
          rintro _ hnq
          have hzq := ext_sz hnq
          obtain ⟨nq, rfl⟩ := hnq
          (try simp at hzq)
          go_wp2_with fail
          go_ret
          exact ⟨ret_bool HV.out.symm, ext_mk (hbel.trans (by (repeat' (first | (with_reducible first | exact Below.refl _ _ | assumption | refine below_ext _ ?_ ?_ | refine Below.alloc ?_ ?_ _ | refine Below.drew ?_ | refine below_drewN ?_ _ | refine le_drewN _ ?_ | refine Below.setCell ?_ ?_ _ | exact Nat.le_refl _ | refine le_ext _ ?_ | refine le_alloc _ ?_ | refine le_setCell _ _ ?_ | refine le_drew ?_) | omega | (simp; done) | (simp; omega)))))⟩
        · have hdv : decide (V ≤ 0) = false := decide_eq_false hv
          have HV := hide (show 0 < V by omega)
          clear hv
          go_wp2_with fail
          refine wp_region_ext (by kernel_rfl) (by kernel_rfl) ?_
          repeat (go_big_quiet_step ((first | (go_at_call 37; exact Calls.in_ext (TU.out _)))))
          refine wpQuiet_nil ?_
          rintro _ hnq
          have hzq := ext_sz hnq
          obtain ⟨nq, rfl⟩ := hnq
          (try simp at hzq)
          go_wp2_with fail
          exact ⟨⟨i + 1, by omega, by go_num, hide (fun j hj => by
            by_cases e : j = i
            · subst e; rw [HT.out]; exact HV.out
            · exact HP.out j (by omega)), hbel.trans (by (repeat' (first | (with_reducible first | exact Below.refl _ _ | assumption | refine below_ext _ ?_ ?_ | refine Below.alloc ?_ ?_ _ | refine Below.drew ?_ | refine below_drewN ?_ _ | refine le_drewN _ ?_ | refine Below.setCell ?_ ?_ _ | exact Nat.le_refl _ | refine le_ext _ ?_ | refine le_alloc _ ?_ | refine le_setCell _ _ ?_ | refine le_drew ?_) | omega | (simp; done) | (simp; omega))))⟩, by simp [intOf]; omega⟩
      · have hin' : i = n := by omega
        subst hin'
        have HV := hide (HY.out (fun j hj => HP.out j (by rw [← HN.out]; exact hj)))
        go_wp2
        go_ret
        exact ⟨ret_bool HV.out.symm, ext_mk hbel⟩
  · rw [eq_false_of_ne_true hok] at HC
    have HV := hide (convB_no (eq_false_of_ne_true hok))
    clear hok hn hs
    go_enter Try.func33, Try.ntmps33
    go_wp2_with fail
    refine HC.out.mono ?_
    rintro e w' ⟨rfl, hw'⟩; have hzy1 := ext_sz hw'; obtain ⟨y1, rfl⟩ := hw'; (try simp at hzy1)
    go_wp2_with fail
    go_ret
    exact ⟨ret_bool HV.out.symm, (ext_mk (by (repeat' (first | (with_reducible first | exact Below.refl _ _ | assumption | refine below_ext _ ?_ ?_ | refine Below.alloc ?_ ?_ _ | refine Below.drew ?_ | refine below_drewN ?_ _ | refine le_drewN _ ?_ | refine Below.setCell ?_ ?_ _ | exact Nat.le_refl _ | refine le_ext _ ?_ | refine le_alloc _ ?_ | refine le_setCell _ _ ?_ | refine le_drew ?_) | omega | (simp; done) | (simp; omega)))))⟩
theorem locC_1 {ps : List Pt} {q : Pt} (h : convB ps = false) : locC ps q = 2 := by unfold locC; rw [h]; rfl
theorem locC_2 {ps : List Pt} {q : Pt} (h : vP q.x q.y = false) : locC ps q = 2 := by unfold locC; rw [h]; simp
theorem locC_3 {ps : List Pt} {q : Pt} (h : convB ps = true) (h2 : vP q.x q.y = true) : locC ps q = leastTo ps q ps.length := by unfold locC; rw [h, h2]; rfl
set_option maxHeartbeats 1000000 in
theorem locC_any (ps : List Pt) (x y : Int) (A : Option Addr) (n c : Nat) (w : World) (hn : ps.length = n) (hm : n ≤ 2000000) (hA : Plain A n) (hs : PtsAt w w.heap.size A ps) :
    Calls Try.prog 11 #[.slice A n c, .agg #[.int .i64 x, .int .i64 y]] w fun e w' => e = .returned (.int .i64 (locC ps ⟨x, y⟩)) ∧ ∃ x, w' = ext w x := by
  have HC := hide (fun (W : World) (hb : Below w.heap.size w W) => convex_any ps A n c W hn hm hA (hs.to hb))
  by_cases hok : convB ps = true
  · rw [hok] at HC
    have hsim : simB ps = true := by unfold convB at hok; simp only [Bool.and_eq_true] at hok; exact hok.1
    obtain ⟨hib, h3, h20, _⟩ := simB_parts hsim
    have HVA := hide (fun W => valid_any x y W)
    by_cases hv : vP x y = true
    · rw [hv] at HVA
      have hq := vP_iff.1 hv
      have HV := hide (locC_3 (q := ⟨x, y⟩) hok hv)
      have HE := hide (fun (W : World) (hb : Below w.heap.size w W) => edges_any ps A n c W hn (by omega) (hs.to hb))
      have HN := hide hn
      have LB := hide (least_bd ps ⟨x, y⟩)
      have BI : Hid (∀ i, i < n → (-100000 ≤ (gp ps i).x ∧ (gp ps i).x ≤ 100000) ∧ (-100000 ≤ (gp ps i).y ∧ (gp ps i).y ≤ 100000)) := hide (fun i hi => hib _ (gp_mem (by omega)))
      have k20 : n ≤ 20 := by omega
      have k3 : 3 ≤ n := by omega
      clear hok hn hs hib h20 h3 hsim hv
      go_enter Try.func11, Try.ntmps11
      go_wp2_with fail
      refine (HC.out _ (by (repeat' (first | (with_reducible first | exact Below.refl _ _ | assumption | refine below_ext _ ?_ ?_ | refine Below.alloc ?_ ?_ _ | refine Below.drew ?_ | refine below_drewN ?_ _ | refine le_drewN _ ?_ | refine Below.setCell ?_ ?_ _ | exact Nat.le_refl _ | refine le_ext _ ?_ | refine le_alloc _ ?_ | refine le_setCell _ _ ?_ | refine le_drew ?_) | omega | (simp; done) | (simp; omega))))).mono ?_
      rintro e w' ⟨rfl, hw'⟩; have hzy1 := ext_sz hw'; obtain ⟨y1, rfl⟩ := hw'; (try simp at hzy1)
      go_wp2_with fail
      refine (HVA.out _).mono ?_
      rintro e w' ⟨rfl, hw'⟩; have hzy2 := ext_sz hw'; obtain ⟨y2, rfl⟩ := hw'; (try simp at hzy2)
      go_wp2_with fail
      refine (HE.out _ (by (repeat' (first | (with_reducible first | exact Below.refl _ _ | assumption | refine below_ext _ ?_ ?_ | refine Below.alloc ?_ ?_ _ | refine Below.drew ?_ | refine below_drewN ?_ _ | refine le_drewN _ ?_ | refine Below.setCell ?_ ?_ _ | exact Nat.le_refl _ | refine le_ext _ ?_ | refine le_alloc _ ?_ | refine le_setCell _ _ ?_ | refine le_drew ?_) | omega | (simp; done) | (simp; omega))))).mono ?_
      rintro e w5 ⟨v5, rfl, hown5, x5, rfl⟩
      obtain ⟨A5, n5, c5, rfl⟩ := hown5.slice
      have l5 := hown5.segs.1
      have e5 : n = n5 := by have := HN.out; rw [edgesL_len] at l5; omega
      subst e5
      have SG := hide hown5.segs.2.2.2
      clear hown5 l5
      have HL : Hid (∀ k, k < n → leastTo ps ⟨x, y⟩ (k + 1) = min (leastTo ps ⟨x, y⟩ k) (sgn (trn (gp ps k) (gp ps ((k + 1) % n)) ⟨x, y⟩))) := hide (fun k _ => by rw [← HN.out]; rfl)
      have B5 := hide (show Below w.heap.size w (ext (ext (ext (w.alloc (.cells #[.int .i64 x, .int .i64 y] 31)) y1) y2) x5) from (by (repeat' (first | (with_reducible first | exact Below.refl _ _ | assumption | refine below_ext _ ?_ ?_ | refine Below.alloc ?_ ?_ _ | refine Below.drew ?_ | refine below_drewN ?_ _ | refine le_drewN _ ?_ | refine Below.setCell ?_ ?_ _ | exact Nat.le_refl _ | refine le_ext _ ?_ | refine le_alloc _ ?_ | refine le_setCell _ _ ?_ | refine le_drew ?_) | omega | (simp; done) | (simp; omega)))))
      have BX := hide ((Below.block (show Below (w.alloc (.cells #[.int .i64 x, .int .i64 y] 31)).heap.size (w.alloc (.cells #[.int .i64 x, .int .i64 y] 31)) (ext (ext (ext (w.alloc (.cells #[.int .i64 x, .int .i64 y] 31)) y1) y2) x5) from (by (repeat' (first | (with_reducible first | exact Below.refl _ _ | assumption | refine below_ext _ ?_ ?_ | refine Below.alloc ?_ ?_ _ | refine Below.drew ?_ | refine below_drewN ?_ _ | refine le_drewN _ ?_ | refine Below.setCell ?_ ?_ _ | exact Nat.le_refl _ | refine le_ext _ ?_ | refine le_alloc _ ?_ | refine le_setCell _ _ ?_ | refine le_drew ?_) | omega | (simp; done) | (simp; omega))))) w.heap.size (by simp)).trans (heap_alloc_new w (.cells #[.int .i64 x, .int .i64 y] 31)))
      have hwb : w.heap.size + 1 ≤ (ext (ext (ext (w.alloc (.cells #[.int .i64 x, .int .i64 y] 31)) y1) y2) x5).heap.size := Nat.le_trans (by omega) (ext_size _ x5)
      generalize ext (ext (ext (w.alloc (.cells #[.int .i64 x, .int .i64 y] 31)) y1) y2) x5 = W5 at *
      obtain ⟨b5, o5, rfl, hb5, hcs5⟩ := SG.out (by rw [edgesL_len, HN.out]; omega)
      have CS : Hid (∀ i, i < n → W5.cell? ⟨b5, o5 + i * 4, none⟩ = some (.int .i64 (gp ps i).x) ∧ W5.cell? ⟨b5, o5 + i * 4 + 1, none⟩ = some (.int .i64 (gp ps i).y) ∧ W5.cell? ⟨b5, o5 + i * 4 + 2, none⟩ = some (.int .i64 (gp ps ((i + 1) % n)).x) ∧ W5.cell? ⟨b5, o5 + i * 4 + 3, none⟩ = some (.int .i64 (gp ps ((i + 1) % n)).y)) := hide (fun i hi => by
        have := hcs5 i (by rw [edgesL_len, HN.out]; exact hi)
        rw [edgesL_at (by rw [HN.out]; exact hi)] at this
        unfold edgeAt at this
        rw [HN.out] at this
        exact this)
      clear hcs5 SG
      go_wp2
      go_loopw [5, 19] (fun u5 u19 wr => ∃ i : Nat, i ≤ n ∧ u19 = .int .i64 i ∧ u5 = .int .i64 (leastTo ps ⟨x, y⟩ i) ∧ Below W5.heap.size W5 wr) (fun _ u19 _ => n - (intOf u19).toNat)
      case atStart => exact ⟨0, Nat.zero_le _, rfl, rfl, Below.refl _ _⟩
      case round =>
        obtain ⟨i, hi, rfl, rfl, hbel⟩ := hrel
        have hsz := hbel.size
        have bx := (hbel.block w.heap.size (by omega)).trans BX.out
        have x0 := heap_cell bx 0
        have x1 := heap_cell bx 1
        simp at x0 x1
        clear bx
        by_cases hlt : i < n
        · obtain ⟨c1, c2, c3, c4⟩ := CS.out i hlt
          have g1 := (hbel.cell (p := ⟨b5, o5 + i * 4, none⟩) hb5).trans c1
          have g2 := (hbel.cell (p := ⟨b5, o5 + i * 4 + 1, none⟩) hb5).trans c2
          have g3 := (hbel.cell (p := ⟨b5, o5 + i * 4 + 2, none⟩) hb5).trans c3
          have g4 := (hbel.cell (p := ⟨b5, o5 + i * 4 + 3, none⟩) hb5).trans c4
          clear c1 c2 c3 c4
          have hil : (i + 1) % n < n := Nat.mod_lt _ (by omega)
          obtain ⟨⟨p1, p2⟩, p3, p4⟩ := BI.out i hlt
          obtain ⟨⟨p5, p6⟩, p7, p8⟩ := BI.out _ hil
          have NX := hide (HL.out i hlt)
          have lb := LB.out i
          have sb := sgn_bd (trn (gp ps i) (gp ps ((i + 1) % n)) ⟨x, y⟩)
          have TU := hide (fun W => turn_any (gp ps i).x (gp ps i).y (gp ps ((i + 1) % n)).x (gp ps ((i + 1) % n)).y x y W ⟨p1, p2⟩ ⟨p3, p4⟩ ⟨p5, p6⟩ ⟨p7, p8⟩ (by omega) (by omega))
          have TV : Hid (((gp ps ((i + 1) % n)).x - (gp ps i).x) * (y - (gp ps i).y) - ((gp ps ((i + 1) % n)).y - (gp ps i).y) * (x - (gp ps i).x) = trn (gp ps i) (gp ps ((i + 1) % n)) ⟨x, y⟩) := hide rfl
          rw [TV.out] at TU
          clear hil p1 p2 p3 p4 p5 p6 p7 p8 TV
          generalize trn (gp ps i) (gp ps ((i + 1) % n)) ⟨x, y⟩ = T at *
          generalize (gp ps i).x = X1 at *
          generalize (gp ps i).y = Y1 at *
          generalize (gp ps ((i + 1) % n)).x = X2 at *
          generalize (gp ps ((i + 1) % n)).y = Y2 at *
          generalize leastTo ps ⟨x, y⟩ i = LV at *
          go_wp2_with fail
          refine (TU.out _).mono ?_
          rintro e w' ⟨rfl, hw'⟩; have hzy8 := ext_sz hw'; obtain ⟨y8, rfl⟩ := hw'; (try simp at hzy8)
          go_wp2_with fail
          refine (sign_any _ _).mono ?_
          rintro e w' ⟨rfl, hw'⟩; have hzy9 := ext_sz hw'; obtain ⟨y9, rfl⟩ := hw'; (try simp at hzy9)
          go_wp2_with fail
          exact ⟨⟨i + 1, by omega, by go_num, by rw [NX.out]; try (simp [Int.min_def]; done), hbel.trans (by (repeat' (first | (with_reducible first | exact Below.refl _ _ | assumption | refine below_ext _ ?_ ?_ | refine Below.alloc ?_ ?_ _ | refine Below.drew ?_ | refine below_drewN ?_ _ | refine le_drewN _ ?_ | refine Below.setCell ?_ ?_ _ | exact Nat.le_refl _ | refine le_ext _ ?_ | refine le_alloc _ ?_ | refine le_setCell _ _ ?_ | refine le_drew ?_) | omega | (simp; done) | (simp; omega))))⟩, by simp [intOf]; omega⟩
        · have hin' : i = n := by omega
          subst hin'
          go_wp2
          go_ret
          exact ⟨ret_int (by rw [HV.out, HN.out]), ext_mk (B5.out.trans (hbel.mono B5.out.size))⟩
    · rw [eq_false_of_ne_true hv] at HVA
      have HV := hide (locC_2 (ps := ps) (q := ⟨x, y⟩) (eq_false_of_ne_true hv))
      clear hok hn hs hib h20 h3 hsim hv
      go_enter Try.func11, Try.ntmps11
      go_wp2_with fail
      refine (HC.out _ (by (repeat' (first | (with_reducible first | exact Below.refl _ _ | assumption | refine below_ext _ ?_ ?_ | refine Below.alloc ?_ ?_ _ | refine Below.drew ?_ | refine below_drewN ?_ _ | refine le_drewN _ ?_ | refine Below.setCell ?_ ?_ _ | exact Nat.le_refl _ | refine le_ext _ ?_ | refine le_alloc _ ?_ | refine le_setCell _ _ ?_ | refine le_drew ?_) | omega | (simp; done) | (simp; omega))))).mono ?_
      rintro e w' ⟨rfl, hw'⟩; have hzy1 := ext_sz hw'; obtain ⟨y1, rfl⟩ := hw'; (try simp at hzy1)
      go_wp2_with fail
      refine (HVA.out _).mono ?_
      rintro e w' ⟨rfl, hw'⟩; have hzy2 := ext_sz hw'; obtain ⟨y2, rfl⟩ := hw'; (try simp at hzy2)
      go_wp2_with fail
      go_ret
      exact ⟨ret_int HV.out.symm, (ext_mk (by (repeat' (first | (with_reducible first | exact Below.refl _ _ | assumption | refine below_ext _ ?_ ?_ | refine Below.alloc ?_ ?_ _ | refine Below.drew ?_ | refine below_drewN ?_ _ | refine le_drewN _ ?_ | refine Below.setCell ?_ ?_ _ | exact Nat.le_refl _ | refine le_ext _ ?_ | refine le_alloc _ ?_ | refine le_setCell _ _ ?_ | refine le_drew ?_) | omega | (simp; done) | (simp; omega)))))⟩
  · rw [eq_false_of_ne_true hok] at HC
    have HV := hide (locC_1 (q := ⟨x, y⟩) (eq_false_of_ne_true hok))
    clear hok hn hs
    go_enter Try.func11, Try.ntmps11
    go_wp2_with fail
    refine (HC.out _ (by (repeat' (first | (with_reducible first | exact Below.refl _ _ | assumption | refine below_ext _ ?_ ?_ | refine Below.alloc ?_ ?_ _ | refine Below.drew ?_ | refine below_drewN ?_ _ | refine le_drewN _ ?_ | refine Below.setCell ?_ ?_ _ | exact Nat.le_refl _ | refine le_ext _ ?_ | refine le_alloc _ ?_ | refine le_setCell _ _ ?_ | refine le_drew ?_) | omega | (simp; done) | (simp; omega))))).mono ?_
    rintro e w' ⟨rfl, hw'⟩; have hzy1 := ext_sz hw'; obtain ⟨y1, rfl⟩ := hw'; (try simp at hzy1)
    go_wp2_with fail
    go_ret
    exact ⟨ret_int HV.out.symm, (ext_mk (by (repeat' (first | (with_reducible first | exact Below.refl _ _ | assumption | refine below_ext _ ?_ ?_ | refine Below.alloc ?_ ?_ _ | refine Below.drew ?_ | refine below_drewN ?_ _ | refine le_drewN _ ?_ | refine Below.setCell ?_ ?_ _ | exact Nat.le_refl _ | refine le_ext _ ?_ | refine le_alloc _ ?_ | refine le_setCell _ _ ?_ | refine le_drew ?_) | omega | (simp; done) | (simp; omega)))))⟩
end Go.Proofs.Ytcebmcbglhkkfaa
