
/- CheckHull of the program, whatever it is given. -/
import Derived.Test.YtelhidonhldjeaaChkU
import Derived.Test.YtelhidonhldjeaaChkW
set_option linter.unusedVariables false
set_option linter.unusedSimpArgs false
namespace Go.Proofs.Ytelhidonhldjeaa
open Go.RowKit

set_option maxHeartbeats 2000000 in
theorem ishaped_any (hs : List Pt) (A : Option Addr) (n c : Nat) (w : World) (hn : hs.length = n) (hm : n ≤ 1000) (hA : Plain A n) (hp : PtsAt w w.heap.size A hs) :
    Calls Try.prog 73 #[.slice A n c] w fun e w' => e = .returned (.bool (shapedB hs)) ∧ ∃ m, w' = ext w m := by
  obtain ⟨V, hok⟩ : ∃ V, V = shapedB hs := ⟨_, rfl⟩
  rw [← hok]
  unfold shapedB at hok
  rw [hn] at hok
  by_cases h0 : n = 0
  · have d0 : ((n : Int) == 0) = true := by rw [h0]; rfl
    rw [if_pos h0] at hok
    have R := hide hok
    clear hok hp hn hA h0
    go_enter Try.func73, Try.ntmps73
    go_wp2_with fail
    go_ret
    exact ⟨ret_bool R.out.symm, (ext_mk (by (repeat' (first | (with_reducible exact Below.refl _ _) | (with_reducible assumption) | (with_reducible refine below_ext _ ?_ ?_) | (with_reducible refine Below.alloc ?_ ?_ _) | (with_reducible refine Below.drew ?_) | (with_reducible refine below_drewN ?_ _) | (with_reducible refine le_drewN _ ?_) | (with_reducible refine Below.setCell ?_ ?_ _) | (with_reducible exact Nat.le_refl _) | (with_reducible refine le_ext _ ?_) | (with_reducible refine le_alloc _ ?_) | (with_reducible refine le_setCell _ _ ?_) | (with_reducible refine le_drew ?_) | omega | (simp; done) | (simp; omega)))))⟩
  rw [if_neg h0] at hok
  have d0 : ((n : Int) == 0) = false := by rw [beq_eq_false_iff_ne]; omega
  by_cases e1 : n = 1
  · have d1 : ((n : Int) == 1) = true := by rw [e1]; rfl
    rw [if_pos e1] at hok
    have R := hide hok
    clear hok hp hn hA e1
    go_enter Try.func73, Try.ntmps73
    go_wp2_with fail
    go_ret
    exact ⟨ret_bool R.out.symm, (ext_mk (by (repeat' (first | (with_reducible exact Below.refl _ _) | (with_reducible assumption) | (with_reducible refine below_ext _ ?_ ?_) | (with_reducible refine Below.alloc ?_ ?_ _) | (with_reducible refine Below.drew ?_) | (with_reducible refine below_drewN ?_ _) | (with_reducible refine le_drewN _ ?_) | (with_reducible refine Below.setCell ?_ ?_ _) | (with_reducible exact Nat.le_refl _) | (with_reducible refine le_ext _ ?_) | (with_reducible refine le_alloc _ ?_) | (with_reducible refine le_setCell _ _ ?_) | (with_reducible refine le_drew ?_) | omega | (simp; done) | (simp; omega)))))⟩
  have d1 : ((n : Int) == 1) = false := by rw [beq_eq_false_iff_ne]; omega
  rw [if_neg e1] at hok
  have HP0 := hide hp
  obtain ⟨b, o, rfl, hb, hc⟩ := hp (by omega)
  obtain ⟨x0, y0⟩ := hc 0 (by omega)
  by_cases e2 : n = 2
  · rw [if_pos e2] at hok
    have d2 : ((n : Int) == 2) = true := by rw [e2]; rfl
    obtain ⟨x1, y1⟩ := hc 1 (by omega)
    have CM := hide (fun W => comparePt_any (gp hs 0).x (gp hs 0).y (gp hs 1).x (gp hs 1).y W)
    have R := hide (hok.trans (cmp_lt (a := (gp hs 0).x) (b := (gp hs 0).y) (c := (gp hs 1).x) (d := (gp hs 1).y)).symm)
    change w.cell? ⟨b, o + 0 * 2, none⟩ = some (.int .i64 (gp hs 0).x) at x0
    change w.cell? ⟨b, o + 0 * 2 + 1, none⟩ = some (.int .i64 (gp hs 0).y) at y0
    change w.cell? ⟨b, o + 1 * 2, none⟩ = some (.int .i64 (gp hs 1).x) at x1
    change w.cell? ⟨b, o + 1 * 2 + 1, none⟩ = some (.int .i64 (gp hs 1).y) at y1
    simp at x0 y0 x1 y1
    have q0 : 0 < n := by omega
    have q1 : 1 < n := by omega
    have q3 : (0 : Int) < (n : Int) := by omega
    have q4 : (1 : Int) < (n : Int) := by omega
    clear hok hn hA e2 hc
    generalize (gp hs 0).x = X0 at *
    generalize (gp hs 0).y = Y0 at *
    generalize (gp hs 1).x = X1 at *
    generalize (gp hs 1).y = Y1 at *
    generalize orI (sgn (X0 - X1)) (sgn (Y0 - Y1)) = U at *
    go_enter Try.func73, Try.ntmps73
    go_wp2_with fail
    refine wp_region_ext (by kernel_rfl) (by kernel_rfl) ?_
    repeat (go_big_quiet_step ((first | (go_at_call 115; exact Calls.in_ext (CM.out _)))))
    refine wpQuiet_nil ?_
    rintro _ hnq
    have hzq := ext_sz hnq
    obtain ⟨nq, rfl⟩ := hnq
    (try simp at hzq)
    go_wp2_with fail
    go_ret
    exact ⟨ret_bool R.out.symm, (ext_mk (by (repeat' (first | (with_reducible exact Below.refl _ _) | (with_reducible assumption) | (with_reducible refine below_ext _ ?_ ?_) | (with_reducible refine Below.alloc ?_ ?_ _) | (with_reducible refine Below.drew ?_) | (with_reducible refine below_drewN ?_ _) | (with_reducible refine le_drewN _ ?_) | (with_reducible refine Below.setCell ?_ ?_ _) | (with_reducible exact Nat.le_refl _) | (with_reducible refine le_ext _ ?_) | (with_reducible refine le_alloc _ ?_) | (with_reducible refine le_setCell _ _ ?_) | (with_reducible refine le_drew ?_) | omega | (simp; done) | (simp; omega)))))⟩
  · have d2 : ((n : Int) == 2) = false := by rw [beq_eq_false_iff_ne]; omega
    rw [if_neg e2] at hok
    have CV := hide (fun (W : World) (hbl : Below w.heap.size w W) => convex_any hs (some ⟨b, o, none⟩) n c W hn (by omega) hA (HP0.out.to hbl))
    have ST := hide (fun (W : World) (hbl : Below w.heap.size w W) => sorted_any hs (some ⟨b, o, none⟩) n c W hn hm (HP0.out.to hbl) hA)
    by_cases hcv : convB hs = true
    case neg =>
      have hcv := eq_false_of_ne_true hcv
      rw [hcv] at CV hok
      have R : Hid (V = false) := hide hok
      clear hn hA hc hp hcv HP0 hok x0 y0
      go_enter Try.func73, Try.ntmps73
      go_wp2_with fail
      refine wp_region_ext (by kernel_rfl) (by kernel_rfl) ?_
      repeat (go_big_quiet_step ((first | (go_at_call 125; exact Calls.in_ext (CV.out _ (by (repeat' (first | (with_reducible exact Below.refl _ _) | (with_reducible assumption) | (with_reducible refine below_ext _ ?_ ?_) | (with_reducible refine Below.alloc ?_ ?_ _) | (with_reducible refine Below.drew ?_) | (with_reducible refine below_drewN ?_ _) | (with_reducible refine le_drewN _ ?_) | (with_reducible refine Below.setCell ?_ ?_ _) | (with_reducible exact Nat.le_refl _) | (with_reducible refine le_ext _ ?_) | (with_reducible refine le_alloc _ ?_) | (with_reducible refine le_setCell _ _ ?_) | (with_reducible refine le_drew ?_) | omega | (simp; done) | (simp; omega)))))))))
      refine wpQuiet_nil ?_
      rintro _ hnq
      have hzq := ext_sz hnq
      obtain ⟨nq, rfl⟩ := hnq
      (try simp at hzq)
      go_wp2_with fail
      go_ret
      exact ⟨ret_bool R.out.symm, (ext_mk (by (repeat' (first | (with_reducible exact Below.refl _ _) | (with_reducible assumption) | (with_reducible refine below_ext _ ?_ ?_) | (with_reducible refine Below.alloc ?_ ?_ _) | (with_reducible refine Below.drew ?_) | (with_reducible refine below_drewN ?_ _) | (with_reducible refine le_drewN _ ?_) | (with_reducible refine Below.setCell ?_ ?_ _) | (with_reducible exact Nat.le_refl _) | (with_reducible refine le_ext _ ?_) | (with_reducible refine le_alloc _ ?_) | (with_reducible refine le_setCell _ _ ?_) | (with_reducible refine le_drew ?_) | omega | (simp; done) | (simp; omega)))))⟩
    rw [hcv] at CV hok
    have SL : 0 < (sortP hs).length := List.length_pos_of_mem (sortP_mem.2 (gp_mem (show 0 < hs.length by omega)))
    have L0 : Hid (pX (sortP hs) 0 = (gp (sortP hs) 0).x ∧ pY (sortP hs) 0 = (gp (sortP hs) 0).y) := hide ⟨rfl, rfl⟩
    have R : Hid (V = eqP (gp hs 0).x (gp hs 0).y (gp (sortP hs) 0).x (gp (sortP hs) 0).y) := hide (hok.trans (by rw [Bool.true_and]; first | exact (eqP_dec _ _ _ _).symm | exact eqP_dec _ _ _ _))
    change w.cell? ⟨b, o + 0 * 2, none⟩ = some (.int .i64 (gp hs 0).x) at x0
    change w.cell? ⟨b, o + 0 * 2 + 1, none⟩ = some (.int .i64 (gp hs 0).y) at y0
    simp at x0 y0
    have q0 : 0 < n := by omega
    have q3 : (0 : Int) < (n : Int) := by omega
    clear hn hA hc hcv HP0 hok
    generalize (gp (sortP hs) 0).x = X9 at *
    generalize (gp (sortP hs) 0).y = Y9 at *
    generalize (gp hs 0).x = X0 at *
    generalize (gp hs 0).y = Y0 at *
    have RUN := run_eqPt X0 Y0 X9 Y9
    go_enter Try.func73, Try.ntmps73
    go_wp2_with fail
    go_region_with (first | (go_at_call 125; refine (CV.out _ (by (repeat' (first | (with_reducible exact Below.refl _ _) | (with_reducible assumption) | (with_reducible refine below_ext _ ?_ ?_) | (with_reducible refine Below.alloc ?_ ?_ _) | (with_reducible refine Below.drew ?_) | (with_reducible refine below_drewN ?_ _) | (with_reducible refine le_drewN _ ?_) | (with_reducible refine Below.setCell ?_ ?_ _) | (with_reducible exact Nat.le_refl _) | (with_reducible refine le_ext _ ?_) | (with_reducible refine le_alloc _ ?_) | (with_reducible refine le_setCell _ _ ?_) | (with_reducible refine le_drew ?_) | omega | (simp; done) | (simp; omega))))).mono ?_; rintro e w' ⟨rfl, hw'⟩; have hzy3 := ext_sz hw'; obtain ⟨y3, rfl⟩ := hw'; (try simp at hzy3)) | (go_at_call 65; refine (ST.out _ (by (repeat' (first | (with_reducible exact Below.refl _ _) | (with_reducible assumption) | (with_reducible refine below_ext _ ?_ ?_) | (with_reducible refine Below.alloc ?_ ?_ _) | (with_reducible refine Below.drew ?_) | (with_reducible refine below_drewN ?_ _) | (with_reducible refine le_drewN _ ?_) | (with_reducible refine Below.setCell ?_ ?_ _) | (with_reducible exact Nat.le_refl _) | (with_reducible refine le_ext _ ?_) | (with_reducible refine le_alloc _ ?_) | (with_reducible refine le_setCell _ _ ?_) | (with_reducible refine le_drew ?_) | omega | (simp; done) | (simp; omega))))).mono ?_; rintro e w5 ⟨A5, n5, c5, rfl, hl5, hnc5, hcm5, hrow5, hpl5, hw5⟩; have hz5 := ext_sz hw5; obtain ⟨b5, o5, rfl, hb5, hc5⟩ := hrow5.pts SL; obtain ⟨h05, h15⟩ := hc5 0 SL; rw [L0.out.1] at h05; rw [L0.out.2] at h15; obtain ⟨x5, rfl⟩ := hw5; (try simp at h05); (try simp at h15); (try simp at hz5); have q5 : 0 < n5 := Nat.lt_of_lt_of_eq SL hl5; clear hrow5 hpl5 hc5))
    all_goals (go_wp2_with fail)
    all_goals go_ret
    all_goals exact ⟨ret_bool R.out.symm, (ext_mk (by (repeat' (first | (with_reducible exact Below.refl _ _) | (with_reducible assumption) | (with_reducible refine below_ext _ ?_ ?_) | (with_reducible refine Below.alloc ?_ ?_ _) | (with_reducible refine Below.drew ?_) | (with_reducible refine below_drewN ?_ _) | (with_reducible refine le_drewN _ ?_) | (with_reducible refine Below.setCell ?_ ?_ _) | (with_reducible exact Nat.le_refl _) | (with_reducible refine le_ext _ ?_) | (with_reducible refine le_alloc _ ?_) | (with_reducible refine le_setCell _ _ ?_) | (with_reducible refine le_drew ?_) | omega | (simp; done) | (simp; omega)))))⟩
set_option maxRecDepth 20000 in
set_option maxHeartbeats 8000000 in
theorem iChkG_any (ps hs : List Pt) (zss : List (List Int)) (A B Z : Option Addr) (n c m d r f : Nat) (w : World) (hn : ps.length = n) (hm : hs.length = m) (kn : n ≤ 1000) (km : m ≤ 1000) (kr : r ≤ 1000) (hA : Plain A n) (hB : Plain B m)
    (sp : PtsAt w w.heap.size A ps) (sh : PtsAt w w.heap.size B hs) (sz : RowsAt w Z r zss) :
    Calls Try.prog 33 #[.slice A n c, .slice B m d, .slice Z r f] w fun e w' => e = .returned (.bool (chkB ps hs zss)) ∧ ∃ x, w' = ext w x := by
  have L1 := hide (fun (W : World) (hb : Below w.heap.size w W) => listOk_any ps A n c W hn (by omega) (sp.to hb))
  have L2 := hide (fun (W : World) (hb : Below w.heap.size w W) => listOk_any hs B m d W hm (by omega) (sh.to hb))
  have SH := hide (fun (W : World) (hb : Below w.heap.size w W) => ishaped_any hs B m d W hm km hB (sh.to hb))
  have lz := sz.1
  obtain ⟨X1, X2, X3, X4⟩ := box2 w (.slice A n c) (.slice B m d) 23 23
  obtain ⟨W0, hW0⟩ : ∃ W0, W0 = ((w.alloc (.cells #[.slice A n c] 23)).alloc (.cells #[.slice B m d] 23)) := ⟨_, rfl⟩
  rw [← hW0] at X1 X2 X3 X4
  have HW := hide hW0
  clear hW0
  have X5 : w.heap.size ≤ W0.heap.size := by omega
  have X6 : w.heap.size < W0.heap.size := by omega
  have X7 : w.heap.size + 1 < W0.heap.size := by omega
  by_cases h1 : listOk ps = true
  case neg =>
    have h1 := eq_false_of_ne_true h1
    rw [h1] at L1
    have R := hide (chk_no (ps := ps) (hs := hs) (zss := zss) (fun hh => by rw [h1] at hh; cases hh.1))
    clear h1 L2 SH hn hm sp sh sz lz X3 hA hB
    go_enter Try.func33, Try.ntmps33
    go_wp2_with fail
    rw [← HW.out]
    clear HW
    refine (L1.out _ (X4.trans (Below.mono (show Below W0.heap.size W0 _ from (by (repeat' (first | (with_reducible exact Below.refl _ _) | (with_reducible assumption) | (with_reducible refine below_ext _ ?_ ?_) | (with_reducible refine Below.alloc ?_ ?_ _) | (with_reducible refine Below.drew ?_) | (with_reducible refine below_drewN ?_ _) | (with_reducible refine le_drewN _ ?_) | (with_reducible refine Below.setCell ?_ ?_ _) | (with_reducible exact Nat.le_refl _) | (with_reducible refine le_ext _ ?_) | (with_reducible refine le_alloc _ ?_) | (with_reducible refine le_setCell _ _ ?_) | (with_reducible refine le_drew ?_) | omega | (simp; done) | (simp; omega))))) X5))).mono ?_
    rintro e w' ⟨rfl, hw'⟩; have hzy1 := ext_sz hw'; obtain ⟨y1, rfl⟩ := hw'; (try simp at hzy1)
    go_wp2_with fail
    go_ret
    exact ⟨ret_bool R.out.symm, ext_mk (X4.trans (Below.mono (show Below W0.heap.size W0 _ from (by (repeat' (first | (with_reducible exact Below.refl _ _) | (with_reducible assumption) | (with_reducible refine below_ext _ ?_ ?_) | (with_reducible refine Below.alloc ?_ ?_ _) | (with_reducible refine Below.drew ?_) | (with_reducible refine below_drewN ?_ _) | (with_reducible refine le_drewN _ ?_) | (with_reducible refine Below.setCell ?_ ?_ _) | (with_reducible exact Nat.le_refl _) | (with_reducible refine le_ext _ ?_) | (with_reducible refine le_alloc _ ?_) | (with_reducible refine le_setCell _ _ ?_) | (with_reducible refine le_drew ?_) | omega | (simp; done) | (simp; omega))))) X5))⟩
  rw [h1] at L1
  by_cases h0 : n = 0
  case pos =>
    have d0 : ((n : Int) == 0) = true := by rw [h0]; rfl
    have R := hide (chk_no (ps := ps) (hs := hs) (zss := zss) (fun hh => hh.2.1 (by rw [hn]; exact h0)))
    clear h1 L2 SH hn hm sp sh sz lz X3 hA hB h0
    go_enter Try.func33, Try.ntmps33
    go_wp2_with fail
    rw [← HW.out]
    clear HW
    refine (L1.out _ (X4.trans (Below.mono (show Below W0.heap.size W0 _ from (by (repeat' (first | (with_reducible exact Below.refl _ _) | (with_reducible assumption) | (with_reducible refine below_ext _ ?_ ?_) | (with_reducible refine Below.alloc ?_ ?_ _) | (with_reducible refine Below.drew ?_) | (with_reducible refine below_drewN ?_ _) | (with_reducible refine le_drewN _ ?_) | (with_reducible refine Below.setCell ?_ ?_ _) | (with_reducible exact Nat.le_refl _) | (with_reducible refine le_ext _ ?_) | (with_reducible refine le_alloc _ ?_) | (with_reducible refine le_setCell _ _ ?_) | (with_reducible refine le_drew ?_) | omega | (simp; done) | (simp; omega))))) X5))).mono ?_
    rintro e w' ⟨rfl, hw'⟩; have hzy1 := ext_sz hw'; obtain ⟨y1, rfl⟩ := hw'; (try simp at hzy1)
    go_wp2_with fail
    go_ret
    exact ⟨ret_bool R.out.symm, ext_mk (X4.trans (Below.mono (show Below W0.heap.size W0 _ from (by (repeat' (first | (with_reducible exact Below.refl _ _) | (with_reducible assumption) | (with_reducible refine below_ext _ ?_ ?_) | (with_reducible refine Below.alloc ?_ ?_ _) | (with_reducible refine Below.drew ?_) | (with_reducible refine below_drewN ?_ _) | (with_reducible refine le_drewN _ ?_) | (with_reducible refine Below.setCell ?_ ?_ _) | (with_reducible exact Nat.le_refl _) | (with_reducible refine le_ext _ ?_) | (with_reducible refine le_alloc _ ?_) | (with_reducible refine le_setCell _ _ ?_) | (with_reducible refine le_drew ?_) | omega | (simp; done) | (simp; omega))))) X5))⟩
  have d0 : ((n : Int) == 0) = false := by rw [beq_eq_false_iff_ne]; omega
  by_cases h2 : listOk hs = true
  case neg =>
    have h2 := eq_false_of_ne_true h2
    rw [h2] at L2
    have R := hide (chk_no (ps := ps) (hs := hs) (zss := zss) (fun hh => by rw [h2] at hh; cases hh.2.2.1))
    clear h1 h2 SH hn hm sp sh sz lz X3 hA hB h0
    go_enter Try.func33, Try.ntmps33
    go_wp2_with fail
    rw [← HW.out]
    clear HW
    refine (L1.out _ (X4.trans (Below.mono (show Below W0.heap.size W0 _ from (by (repeat' (first | (with_reducible exact Below.refl _ _) | (with_reducible assumption) | (with_reducible refine below_ext _ ?_ ?_) | (with_reducible refine Below.alloc ?_ ?_ _) | (with_reducible refine Below.drew ?_) | (with_reducible refine below_drewN ?_ _) | (with_reducible refine le_drewN _ ?_) | (with_reducible refine Below.setCell ?_ ?_ _) | (with_reducible exact Nat.le_refl _) | (with_reducible refine le_ext _ ?_) | (with_reducible refine le_alloc _ ?_) | (with_reducible refine le_setCell _ _ ?_) | (with_reducible refine le_drew ?_) | omega | (simp; done) | (simp; omega))))) X5))).mono ?_
    rintro e w' ⟨rfl, hw'⟩; have hzy1 := ext_sz hw'; obtain ⟨y1, rfl⟩ := hw'; (try simp at hzy1)
    go_wp2_with fail
    refine (L2.out _ (X4.trans (Below.mono (show Below W0.heap.size W0 _ from (by (repeat' (first | (with_reducible exact Below.refl _ _) | (with_reducible assumption) | (with_reducible refine below_ext _ ?_ ?_) | (with_reducible refine Below.alloc ?_ ?_ _) | (with_reducible refine Below.drew ?_) | (with_reducible refine below_drewN ?_ _) | (with_reducible refine le_drewN _ ?_) | (with_reducible refine Below.setCell ?_ ?_ _) | (with_reducible exact Nat.le_refl _) | (with_reducible refine le_ext _ ?_) | (with_reducible refine le_alloc _ ?_) | (with_reducible refine le_setCell _ _ ?_) | (with_reducible refine le_drew ?_) | omega | (simp; done) | (simp; omega))))) X5))).mono ?_
    rintro e w' ⟨rfl, hw'⟩; have hzy2 := ext_sz hw'; obtain ⟨y2, rfl⟩ := hw'; (try simp at hzy2)
    go_wp2_with fail
    go_ret
    exact ⟨ret_bool R.out.symm, ext_mk (X4.trans (Below.mono (show Below W0.heap.size W0 _ from (by (repeat' (first | (with_reducible exact Below.refl _ _) | (with_reducible assumption) | (with_reducible refine below_ext _ ?_ ?_) | (with_reducible refine Below.alloc ?_ ?_ _) | (with_reducible refine Below.drew ?_) | (with_reducible refine below_drewN ?_ _) | (with_reducible refine le_drewN _ ?_) | (with_reducible refine Below.setCell ?_ ?_ _) | (with_reducible exact Nat.le_refl _) | (with_reducible refine le_ext _ ?_) | (with_reducible refine le_alloc _ ?_) | (with_reducible refine le_setCell _ _ ?_) | (with_reducible refine le_drew ?_) | omega | (simp; done) | (simp; omega))))) X5))⟩
  rw [h2] at L2
  by_cases h3 : shapedB hs = true
  case neg =>
    have h3 := eq_false_of_ne_true h3
    rw [h3] at SH
    have R := hide (chk_no (ps := ps) (hs := hs) (zss := zss) (fun hh => by rw [h3] at hh; cases hh.2.2.2.1))
    clear h1 h2 h3 hn hm sp sh sz lz X3 hA hB h0
    go_enter Try.func33, Try.ntmps33
    go_wp2_with fail
    rw [← HW.out]
    clear HW
    refine (L1.out _ (X4.trans (Below.mono (show Below W0.heap.size W0 _ from (by (repeat' (first | (with_reducible exact Below.refl _ _) | (with_reducible assumption) | (with_reducible refine below_ext _ ?_ ?_) | (with_reducible refine Below.alloc ?_ ?_ _) | (with_reducible refine Below.drew ?_) | (with_reducible refine below_drewN ?_ _) | (with_reducible refine le_drewN _ ?_) | (with_reducible refine Below.setCell ?_ ?_ _) | (with_reducible exact Nat.le_refl _) | (with_reducible refine le_ext _ ?_) | (with_reducible refine le_alloc _ ?_) | (with_reducible refine le_setCell _ _ ?_) | (with_reducible refine le_drew ?_) | omega | (simp; done) | (simp; omega))))) X5))).mono ?_
    rintro e w' ⟨rfl, hw'⟩; have hzy1 := ext_sz hw'; obtain ⟨y1, rfl⟩ := hw'; (try simp at hzy1)
    go_wp2_with fail
    refine (L2.out _ (X4.trans (Below.mono (show Below W0.heap.size W0 _ from (by (repeat' (first | (with_reducible exact Below.refl _ _) | (with_reducible assumption) | (with_reducible refine below_ext _ ?_ ?_) | (with_reducible refine Below.alloc ?_ ?_ _) | (with_reducible refine Below.drew ?_) | (with_reducible refine below_drewN ?_ _) | (with_reducible refine le_drewN _ ?_) | (with_reducible refine Below.setCell ?_ ?_ _) | (with_reducible exact Nat.le_refl _) | (with_reducible refine le_ext _ ?_) | (with_reducible refine le_alloc _ ?_) | (with_reducible refine le_setCell _ _ ?_) | (with_reducible refine le_drew ?_) | omega | (simp; done) | (simp; omega))))) X5))).mono ?_
    rintro e w' ⟨rfl, hw'⟩; have hzy2 := ext_sz hw'; obtain ⟨y2, rfl⟩ := hw'; (try simp at hzy2)
    go_wp2_with fail
    refine (SH.out _ (X4.trans (Below.mono (show Below W0.heap.size W0 _ from (by (repeat' (first | (with_reducible exact Below.refl _ _) | (with_reducible assumption) | (with_reducible refine below_ext _ ?_ ?_) | (with_reducible refine Below.alloc ?_ ?_ _) | (with_reducible refine Below.drew ?_) | (with_reducible refine below_drewN ?_ _) | (with_reducible refine le_drewN _ ?_) | (with_reducible refine Below.setCell ?_ ?_ _) | (with_reducible exact Nat.le_refl _) | (with_reducible refine le_ext _ ?_) | (with_reducible refine le_alloc _ ?_) | (with_reducible refine le_setCell _ _ ?_) | (with_reducible refine le_drew ?_) | omega | (simp; done) | (simp; omega))))) X5))).mono ?_
    rintro e w' ⟨rfl, hw'⟩; have hzy3 := ext_sz hw'; obtain ⟨y3, rfl⟩ := hw'; (try simp at hzy3)
    go_wp2_with fail
    go_ret
    exact ⟨ret_bool R.out.symm, ext_mk (X4.trans (Below.mono (show Below W0.heap.size W0 _ from (by (repeat' (first | (with_reducible exact Below.refl _ _) | (with_reducible assumption) | (with_reducible refine below_ext _ ?_ ?_) | (with_reducible refine Below.alloc ?_ ?_ _) | (with_reducible refine Below.drew ?_) | (with_reducible refine below_drewN ?_ _) | (with_reducible refine le_drewN _ ?_) | (with_reducible refine Below.setCell ?_ ?_ _) | (with_reducible exact Nat.le_refl _) | (with_reducible refine le_ext _ ?_) | (with_reducible refine le_alloc _ ?_) | (with_reducible refine le_setCell _ _ ?_) | (with_reducible refine le_drew ?_) | omega | (simp; done) | (simp; omega))))) X5))⟩
  rw [h3] at SH
  by_cases h5 : r = n
  case neg =>
    have d5 : ((r : Int) != (n : Int)) = true := by rw [bne_iff_ne]; omega
    have R := hide (chk_no (ps := ps) (hs := hs) (zss := zss) (fun hh => h5 (by have := hh.2.2.2.2.1; omega)))
    clear h1 h2 h3 hn hm sp sh sz lz X3 hA hB h0 h5
    go_enter Try.func33, Try.ntmps33
    go_wp2_with fail
    rw [← HW.out]
    clear HW
    refine (L1.out _ (X4.trans (Below.mono (show Below W0.heap.size W0 _ from (by (repeat' (first | (with_reducible exact Below.refl _ _) | (with_reducible assumption) | (with_reducible refine below_ext _ ?_ ?_) | (with_reducible refine Below.alloc ?_ ?_ _) | (with_reducible refine Below.drew ?_) | (with_reducible refine below_drewN ?_ _) | (with_reducible refine le_drewN _ ?_) | (with_reducible refine Below.setCell ?_ ?_ _) | (with_reducible exact Nat.le_refl _) | (with_reducible refine le_ext _ ?_) | (with_reducible refine le_alloc _ ?_) | (with_reducible refine le_setCell _ _ ?_) | (with_reducible refine le_drew ?_) | omega | (simp; done) | (simp; omega))))) X5))).mono ?_
    rintro e w' ⟨rfl, hw'⟩; have hzy1 := ext_sz hw'; obtain ⟨y1, rfl⟩ := hw'; (try simp at hzy1)
    go_wp2_with fail
    refine (L2.out _ (X4.trans (Below.mono (show Below W0.heap.size W0 _ from (by (repeat' (first | (with_reducible exact Below.refl _ _) | (with_reducible assumption) | (with_reducible refine below_ext _ ?_ ?_) | (with_reducible refine Below.alloc ?_ ?_ _) | (with_reducible refine Below.drew ?_) | (with_reducible refine below_drewN ?_ _) | (with_reducible refine le_drewN _ ?_) | (with_reducible refine Below.setCell ?_ ?_ _) | (with_reducible exact Nat.le_refl _) | (with_reducible refine le_ext _ ?_) | (with_reducible refine le_alloc _ ?_) | (with_reducible refine le_setCell _ _ ?_) | (with_reducible refine le_drew ?_) | omega | (simp; done) | (simp; omega))))) X5))).mono ?_
    rintro e w' ⟨rfl, hw'⟩; have hzy2 := ext_sz hw'; obtain ⟨y2, rfl⟩ := hw'; (try simp at hzy2)
    go_wp2_with fail
    refine (SH.out _ (X4.trans (Below.mono (show Below W0.heap.size W0 _ from (by (repeat' (first | (with_reducible exact Below.refl _ _) | (with_reducible assumption) | (with_reducible refine below_ext _ ?_ ?_) | (with_reducible refine Below.alloc ?_ ?_ _) | (with_reducible refine Below.drew ?_) | (with_reducible refine below_drewN ?_ _) | (with_reducible refine le_drewN _ ?_) | (with_reducible refine Below.setCell ?_ ?_ _) | (with_reducible exact Nat.le_refl _) | (with_reducible refine le_ext _ ?_) | (with_reducible refine le_alloc _ ?_) | (with_reducible refine le_setCell _ _ ?_) | (with_reducible refine le_drew ?_) | omega | (simp; done) | (simp; omega))))) X5))).mono ?_
    rintro e w' ⟨rfl, hw'⟩; have hzy3 := ext_sz hw'; obtain ⟨y3, rfl⟩ := hw'; (try simp at hzy3)
    go_wp2_with fail
    go_ret
    exact ⟨ret_bool R.out.symm, ext_mk (X4.trans (Below.mono (show Below W0.heap.size W0 _ from (by (repeat' (first | (with_reducible exact Below.refl _ _) | (with_reducible assumption) | (with_reducible refine below_ext _ ?_ ?_) | (with_reducible refine Below.alloc ?_ ?_ _) | (with_reducible refine Below.drew ?_) | (with_reducible refine below_drewN ?_ _) | (with_reducible refine le_drewN _ ?_) | (with_reducible refine Below.setCell ?_ ?_ _) | (with_reducible exact Nat.le_refl _) | (with_reducible refine le_ext _ ?_) | (with_reducible refine le_alloc _ ?_) | (with_reducible refine le_setCell _ _ ?_) | (with_reducible refine le_drew ?_) | omega | (simp; done) | (simp; omega))))) X5))⟩
  subst h5
  have d5 : ((r : Int) != (r : Int)) = false := by simp
  obtain ⟨pb, pn⟩ := listOk_InB h1
  obtain ⟨qb, qn⟩ := listOk_InB h2
  have m0 : m ≠ 0 := by intro e; unfold shapedB at h3; rw [if_pos (hm.trans e)] at h3; cases h3
  have CF : Hid (∀ (bx : Nat) (W : World), Below w.heap.size w W → W.cell? ⟨bx, 0, none⟩ = some (.slice A r c) → Calls Try.prog 74 #[.slice B m d, .func (.func 75) #[] #[.pointer (some ⟨bx, 0, none⟩)]] W fun e w' => e = .returned (.bool ((List.range m).any (fun i => !decide ((⟨pX hs i, pY hs i⟩ : Pt) ∈ ps)))) ∧ ∃ x, w' = ext W x) := hide (fun bx W hb hx =>
    ContainsFunc_any 75 #[.pointer (some ⟨bx, 0, none⟩)] (fun i => !decide ((⟨pX hs i, pY hs i⟩ : Pt) ∈ ps)) hs B m d W hm (by omega) (enters _ Try.func75 (by kernel_rfl) rfl) (sh.to hb) (fun W2 i hW2 hi => chk1_any ps (pX hs i) (pY hs i) A r c bx W2 hn (by omega) (sp.to (hb.trans (hW2.mono hb.size))) ((hW2.cell (p := ⟨bx, 0, none⟩) (World.block_lt_of_cell? W _ hx)).trans hx)))
  by_cases h4 : (List.range m).any (fun i => !decide ((⟨pX hs i, pY hs i⟩ : Pt) ∈ ps)) = true
  case pos =>
    have R := hide (chk_no (ps := ps) (hs := hs) (zss := zss) (fun hh => by
      rw [List.any_eq_true] at h4
      obtain ⟨i, hi, hb⟩ := h4
      rw [List.mem_range] at hi
      have hmem : (⟨pX hs i, pY hs i⟩ : Pt) ∈ ps := hh.2.2.2.2.2.1 _ (gp_mem (show i < hs.length by omega))
      rw [decide_eq_true hmem] at hb
      cases hb))
    rw [h4] at CF
    clear h1 h2 h3 hn hm sp sh sz lz X3 hA hB h0 h4 pb pn qb qn
    go_enter Try.func33, Try.ntmps33
    go_wp2_with fail
    rw [← HW.out]
    clear HW
    refine (L1.out _ X4).mono ?_
    rintro e w' ⟨rfl, hw'⟩; have hzy1 := ext_sz hw'; obtain ⟨y1, rfl⟩ := hw'; (try simp at hzy1)
    go_wp2_with fail
    refine (L2.out _ (X4.trans (Below.mono (show Below W0.heap.size W0 _ from (by (repeat' (first | (with_reducible exact Below.refl _ _) | (with_reducible assumption) | (with_reducible refine below_ext _ ?_ ?_) | (with_reducible refine Below.alloc ?_ ?_ _) | (with_reducible refine Below.drew ?_) | (with_reducible refine below_drewN ?_ _) | (with_reducible refine le_drewN _ ?_) | (with_reducible refine Below.setCell ?_ ?_ _) | (with_reducible exact Nat.le_refl _) | (with_reducible refine le_ext _ ?_) | (with_reducible refine le_alloc _ ?_) | (with_reducible refine le_setCell _ _ ?_) | (with_reducible refine le_drew ?_) | omega | (simp; done) | (simp; omega))))) X5))).mono ?_
    rintro e w' ⟨rfl, hw'⟩; have hzy2 := ext_sz hw'; obtain ⟨y2, rfl⟩ := hw'; (try simp at hzy2)
    go_wp2_with fail
    refine (SH.out _ (X4.trans (Below.mono (show Below W0.heap.size W0 _ from (by (repeat' (first | (with_reducible exact Below.refl _ _) | (with_reducible assumption) | (with_reducible refine below_ext _ ?_ ?_) | (with_reducible refine Below.alloc ?_ ?_ _) | (with_reducible refine Below.drew ?_) | (with_reducible refine below_drewN ?_ _) | (with_reducible refine le_drewN _ ?_) | (with_reducible refine Below.setCell ?_ ?_ _) | (with_reducible exact Nat.le_refl _) | (with_reducible refine le_ext _ ?_) | (with_reducible refine le_alloc _ ?_) | (with_reducible refine le_setCell _ _ ?_) | (with_reducible refine le_drew ?_) | omega | (simp; done) | (simp; omega))))) X5))).mono ?_
    rintro e w' ⟨rfl, hw'⟩; have hzy3 := ext_sz hw'; obtain ⟨y3, rfl⟩ := hw'; (try simp at hzy3)
    go_wp2_with fail
    refine (CF.out _ _ (X4.trans (Below.mono (show Below W0.heap.size W0 (ext (ext (ext W0 y1) y2) y3) from (by (repeat' (first | (with_reducible exact Below.refl _ _) | (with_reducible assumption) | (with_reducible refine below_ext _ ?_ ?_) | (with_reducible refine Below.alloc ?_ ?_ _) | (with_reducible refine Below.drew ?_) | (with_reducible refine below_drewN ?_ _) | (with_reducible refine le_drewN _ ?_) | (with_reducible refine Below.setCell ?_ ?_ _) | (with_reducible exact Nat.le_refl _) | (with_reducible refine le_ext _ ?_) | (with_reducible refine le_alloc _ ?_) | (with_reducible refine le_setCell _ _ ?_) | (with_reducible refine le_drew ?_) | omega | (simp; done) | (simp; omega))))) X5)) (((show Below W0.heap.size W0 (ext (ext (ext W0 y1) y2) y3) from (by (repeat' (first | (with_reducible exact Below.refl _ _) | (with_reducible assumption) | (with_reducible refine below_ext _ ?_ ?_) | (with_reducible refine Below.alloc ?_ ?_ _) | (with_reducible refine Below.drew ?_) | (with_reducible refine below_drewN ?_ _) | (with_reducible refine le_drewN _ ?_) | (with_reducible refine Below.setCell ?_ ?_ _) | (with_reducible exact Nat.le_refl _) | (with_reducible refine le_ext _ ?_) | (with_reducible refine le_alloc _ ?_) | (with_reducible refine le_setCell _ _ ?_) | (with_reducible refine le_drew ?_) | omega | (simp; done) | (simp; omega))))).cell (p := ⟨w.heap.size, 0, none⟩) X6).trans X1)).mono ?_
    rintro e w' ⟨rfl, hw'⟩; have hzy4 := ext_sz hw'; obtain ⟨y4, rfl⟩ := hw'; (try simp at hzy4)
    go_wp2_with fail
    go_ret
    exact ⟨ret_bool R.out.symm, ext_mk (X4.trans (Below.mono (show Below W0.heap.size W0 _ from (by (repeat' (first | (with_reducible exact Below.refl _ _) | (with_reducible assumption) | (with_reducible refine below_ext _ ?_ ?_) | (with_reducible refine Below.alloc ?_ ?_ _) | (with_reducible refine Below.drew ?_) | (with_reducible refine below_drewN ?_ _) | (with_reducible refine le_drewN _ ?_) | (with_reducible refine Below.setCell ?_ ?_ _) | (with_reducible exact Nat.le_refl _) | (with_reducible refine le_ext _ ?_) | (with_reducible refine le_alloc _ ?_) | (with_reducible refine le_setCell _ _ ?_) | (with_reducible refine le_drew ?_) | omega | (simp; done) | (simp; omega))))) X5))⟩
  have h4 := eq_false_of_ne_true h4
  rw [h4] at CF
  have ALL : ∀ q ∈ hs, q ∈ ps := fun q hq => by
    obtain ⟨i, hi, e⟩ := gp_of_mem hq
    rw [List.any_eq_false] at h4
    have := h4 i (List.mem_range.2 (by omega))
    simp only [Bool.not_eq_true', decide_eq_false_iff_not, Decidable.not_not] at this
    rw [← e]; exact this
  have YES2 : Hid ((∀ i, i < r → rowB hs (gp ps i) (gz zss i) = true) → chkB ps hs zss = true) := hide (fun b => chk_iff.2 ⟨h1, by omega, h2, h3, by omega, ALL, fun i hi => b i (by omega)⟩)
  have NOR : Hid (∀ i, i < r → rowB hs (gp ps i) (gz zss i) = false → chkB ps hs zss = false) := hide (fun i hi h => chk_no (fun hh => by have := hh.2.2.2.2.2.2 i (by omega); rw [h] at this; cases this))
  have RB : Hid (∀ q a b e, rowB hs q [a, b, e] = ((inB a 0 ((m : Int) - 1) && inB b 0 ((m : Int) - 1) && inB e 0 ((m : Int) - 1)) && triB (gp hs a.toNat) (gp hs b.toNat) (gp hs e.toNat) q)) := hide (fun q a b e => by rw [← hm]; exact rowB_abc hs q a b e)
  have ROW := hide (fun (W : World) (hb : Below w.heap.size w W) (i : Nat) (hi : i < r) => (sz.below hb).row (j := i) (by omega))
  have TRI := hide (fun (q a b e : Pt) (W : World) (hq : (-100000 ≤ q.x ∧ q.x ≤ 100000) ∧ -100000 ≤ q.y ∧ q.y ≤ 100000) (ha : (-100000 ≤ a.x ∧ a.x ≤ 100000) ∧ -100000 ≤ a.y ∧ a.y ≤ 100000) (hb : (-100000 ≤ b.x ∧ b.x ≤ 100000) ∧ -100000 ≤ b.y ∧ b.y ≤ 100000) (he : (-100000 ≤ e.x ∧ e.x ≤ 100000) ∧ -100000 ≤ e.y ∧ e.y ≤ 100000) => itri_any a.x a.y b.x b.y e.x e.y q.x q.y W ha.1 ha.2 hb.1 hb.2 he.1 he.2 hq.1 hq.2)
  have HN := hide hn
  have HM := hide hm
  have SP := hide (fun (W : World) (hb : Below w.heap.size w W) => sp.to hb)
  have SQ := hide (fun (W : World) (hb : Below w.heap.size w W) => sh.to hb)
  have PB : Hid (∀ i, i < r → (-100000 ≤ (gp ps i).x ∧ (gp ps i).x ≤ 100000) ∧ -100000 ≤ (gp ps i).y ∧ (gp ps i).y ≤ 100000) := hide (fun i hi => pb _ (gp_mem (by omega)))
  have QB : Hid (∀ i, i < m → (-100000 ≤ (gp hs i).x ∧ (gp hs i).x ≤ 100000) ∧ -100000 ≤ (gp hs i).y ∧ (gp hs i).y ≤ 100000) := hide (fun i hi => qb _ (gp_mem (by omega)))
  clear h1 h2 h3 h4 ALL hn hm sp sh sz pb qb pn qn lz hA hB h0
  go_enter Try.func33, Try.ntmps33
  go_wp2_with fail
  rw [← HW.out]
  clear HW
  refine (L1.out _ X4).mono ?_
  rintro e w' ⟨rfl, hw'⟩; have hzy1 := ext_sz hw'; obtain ⟨y1, rfl⟩ := hw'; (try simp at hzy1)
  go_wp2_with fail
  refine (L2.out _ (X4.trans (Below.mono (show Below W0.heap.size W0 _ from (by (repeat' (first | (with_reducible exact Below.refl _ _) | (with_reducible assumption) | (with_reducible refine below_ext _ ?_ ?_) | (with_reducible refine Below.alloc ?_ ?_ _) | (with_reducible refine Below.drew ?_) | (with_reducible refine below_drewN ?_ _) | (with_reducible refine le_drewN _ ?_) | (with_reducible refine Below.setCell ?_ ?_ _) | (with_reducible exact Nat.le_refl _) | (with_reducible refine le_ext _ ?_) | (with_reducible refine le_alloc _ ?_) | (with_reducible refine le_setCell _ _ ?_) | (with_reducible refine le_drew ?_) | omega | (simp; done) | (simp; omega))))) X5))).mono ?_
  rintro e w' ⟨rfl, hw'⟩; have hzy2 := ext_sz hw'; obtain ⟨y2, rfl⟩ := hw'; (try simp at hzy2)
  go_wp2_with fail
  refine (SH.out _ (X4.trans (Below.mono (show Below W0.heap.size W0 _ from (by (repeat' (first | (with_reducible exact Below.refl _ _) | (with_reducible assumption) | (with_reducible refine below_ext _ ?_ ?_) | (with_reducible refine Below.alloc ?_ ?_ _) | (with_reducible refine Below.drew ?_) | (with_reducible refine below_drewN ?_ _) | (with_reducible refine le_drewN _ ?_) | (with_reducible refine Below.setCell ?_ ?_ _) | (with_reducible exact Nat.le_refl _) | (with_reducible refine le_ext _ ?_) | (with_reducible refine le_alloc _ ?_) | (with_reducible refine le_setCell _ _ ?_) | (with_reducible refine le_drew ?_) | omega | (simp; done) | (simp; omega))))) X5))).mono ?_
  rintro e w' ⟨rfl, hw'⟩; have hzy3 := ext_sz hw'; obtain ⟨y3, rfl⟩ := hw'; (try simp at hzy3)
  go_wp2_with fail
  refine (CF.out _ _ (X4.trans (Below.mono (show Below W0.heap.size W0 (ext (ext (ext W0 y1) y2) y3) from (by (repeat' (first | (with_reducible exact Below.refl _ _) | (with_reducible assumption) | (with_reducible refine below_ext _ ?_ ?_) | (with_reducible refine Below.alloc ?_ ?_ _) | (with_reducible refine Below.drew ?_) | (with_reducible refine below_drewN ?_ _) | (with_reducible refine le_drewN _ ?_) | (with_reducible refine Below.setCell ?_ ?_ _) | (with_reducible exact Nat.le_refl _) | (with_reducible refine le_ext _ ?_) | (with_reducible refine le_alloc _ ?_) | (with_reducible refine le_setCell _ _ ?_) | (with_reducible refine le_drew ?_) | omega | (simp; done) | (simp; omega))))) X5)) (((show Below W0.heap.size W0 (ext (ext (ext W0 y1) y2) y3) from (by (repeat' (first | (with_reducible exact Below.refl _ _) | (with_reducible assumption) | (with_reducible refine below_ext _ ?_ ?_) | (with_reducible refine Below.alloc ?_ ?_ _) | (with_reducible refine Below.drew ?_) | (with_reducible refine below_drewN ?_ _) | (with_reducible refine le_drewN _ ?_) | (with_reducible refine Below.setCell ?_ ?_ _) | (with_reducible exact Nat.le_refl _) | (with_reducible refine le_ext _ ?_) | (with_reducible refine le_alloc _ ?_) | (with_reducible refine le_setCell _ _ ?_) | (with_reducible refine le_drew ?_) | omega | (simp; done) | (simp; omega))))).cell (p := ⟨w.heap.size, 0, none⟩) X6).trans X1)).mono ?_
  rintro e w' ⟨rfl, hw'⟩; have hzy4 := ext_sz hw'; obtain ⟨y4, rfl⟩ := hw'; (try simp at hzy4)
  have ST : Hid (∃ x, ext (ext (ext (ext W0 y1) y2) y3) y4 = ext W0 x) := hide (ext_mk (show Below W0.heap.size W0 (ext (ext (ext (ext W0 y1) y2) y3) y4) from (by (repeat' (first | (with_reducible exact Below.refl _ _) | (with_reducible assumption) | (with_reducible refine below_ext _ ?_ ?_) | (with_reducible refine Below.alloc ?_ ?_ _) | (with_reducible refine Below.drew ?_) | (with_reducible refine below_drewN ?_ _) | (with_reducible refine le_drewN _ ?_) | (with_reducible refine Below.setCell ?_ ?_ _) | (with_reducible exact Nat.le_refl _) | (with_reducible refine le_ext _ ?_) | (with_reducible refine le_alloc _ ?_) | (with_reducible refine le_setCell _ _ ?_) | (with_reducible refine le_drew ?_) | omega | (simp; done) | (simp; omega))))))
  clear L1 L2 SH CF hzy1 hzy2 hzy3 hzy4
  go_wp2_with fail
  go_loopw [7, 8, 39] (fun _ _ u39 wr => ∃ k : Nat, k ≤ r ∧ u39 = .int .i64 k ∧ Hid (∀ j, j < k → rowB hs (gp ps j) (gz zss j) = true) ∧ ∃ x, wr = ext W0 x) (fun _ _ u39 _ => r - (intOf u39).toNat)
  case atStart => exact ⟨0, Nat.zero_le _, rfl, hide (fun j hj => by omega), ST.out⟩
  case round =>
    obtain ⟨k, hk, rfl, HR, x, rfl⟩ := hrel
    have hz := ext_size W0 x
    by_cases hlt : k < r
    · obtain ⟨g, o, rfl, hg, A1, n1, c1, hc1, l1, lq1, i1⟩ := ROW.out W0 X4 k hlt
      have NORk := hide (NOR.out k hlt)
      have c7' : (0 : Int) ≤ (k : Int) := by omega
      have c8' : (k : Int) < (r : Int) := by omega
      by_cases e3 : n1 = 3
      case neg =>
        have R := hide (NORk.out (rowB_len (fun h => e3 (l1.symm.trans h))))
        have d3 : ((n1 : Int) != 3) = true := by rw [bne_iff_ne]; omega
        clear l1 i1 e3 NORk NOR YES2 ROW X3
        go_wp2_with fail
        go_ret
        exact ⟨ret_bool R.out.symm, ext_mk (X4.trans (Below.mono (show Below W0.heap.size W0 _ from (by (repeat' (first | (with_reducible exact Below.refl _ _) | (with_reducible assumption) | (with_reducible refine below_ext _ ?_ ?_) | (with_reducible refine Below.alloc ?_ ?_ _) | (with_reducible refine Below.drew ?_) | (with_reducible refine below_drewN ?_ _) | (with_reducible refine le_drewN _ ?_) | (with_reducible refine Below.setCell ?_ ?_ _) | (with_reducible exact Nat.le_refl _) | (with_reducible refine le_ext _ ?_) | (with_reducible refine le_alloc _ ?_) | (with_reducible refine le_setCell _ _ ?_) | (with_reducible refine le_drew ?_) | omega | (simp; done) | (simp; omega))))) X5))⟩
      obtain ⟨a, b, e, hz3⟩ := row3 (l1.trans e3)
      rw [hz3] at l1 i1
      have E3 := hide e3
      have dn : ((n1 : Int) != 3) = false := by rw [e3]; rfl
      clear e3
      obtain ⟨g1, o1, rfl, hg1, hcz⟩ := i1 (by simp)
      have z0 := hcz 0 (by simp)
      have z1 := hcz 1 (by simp)
      have z2 := hcz 2 (by simp)
      have CJ := hide (fun (W : World) (hb : Below W0.heap.size W0 W) => ContainsFuncJ_any 78 #[.pointer (some ⟨w.heap.size + 1, 0, none⟩)] (fun t => !inB (gi [a, b, e] t) 0 ((m : Int) - 1)) [a, b, e] (some ⟨g1, o1, none⟩) n1 c1 W l1 (by rw [E3.out]; omega) (enters _ Try.func78 (by kernel_rfl) rfl) ((show IntsAt W0 W0.heap.size (some ⟨g1, o1, none⟩) [a, b, e] from fun _ => ⟨g1, o1, rfl, hg1, hcz⟩).to hb) (fun W2 t hW2 ht2 => chk2_any _ B m d (w.heap.size + 1) W2 (by omega) (((hb.trans (hW2.mono hb.size)).cell (p := ⟨w.heap.size + 1, 0, none⟩) X7).trans X2)))
      have A3 : (List.range n1).any (fun t => !inB (gi [a, b, e] t) 0 ((m : Int) - 1)) = !(inB a 0 ((m : Int) - 1) && inB b 0 ((m : Int) - 1) && inB e 0 ((m : Int) - 1)) := by
        rw [E3.out]
        show (!inB a 0 ((m : Int) - 1) || (!inB b 0 ((m : Int) - 1) || (!inB e 0 ((m : Int) - 1) || false))) = _
        cases inB a 0 ((m : Int) - 1) <;> cases inB b 0 ((m : Int) - 1) <;> cases inB e 0 ((m : Int) - 1) <;> rfl
      rw [A3] at CJ
      have RBk := hide (RB.out (gp ps k) a b e)
      rw [hz3] at NORk
      have ZE := hide hz3
      clear hz3 l1 i1 A3
      by_cases hin : (inB a 0 ((m : Int) - 1) && inB b 0 ((m : Int) - 1) && inB e 0 ((m : Int) - 1)) = true
      case neg =>
        have hin := eq_false_of_ne_true hin
        rw [hin] at CJ RBk
        have R := hide (NORk.out (by rw [RBk.out]; rfl))
        clear NORk NOR YES2 ROW RBk RB ZE hin hcz z0 z1 z2 X3
        go_wp2_with fail
        refine (CJ.out _ (by (repeat' (first | (with_reducible exact Below.refl _ _) | (with_reducible assumption) | (with_reducible refine below_ext _ ?_ ?_) | (with_reducible refine Below.alloc ?_ ?_ _) | (with_reducible refine Below.drew ?_) | (with_reducible refine below_drewN ?_ _) | (with_reducible refine le_drewN _ ?_) | (with_reducible refine Below.setCell ?_ ?_ _) | (with_reducible exact Nat.le_refl _) | (with_reducible refine le_ext _ ?_) | (with_reducible refine le_alloc _ ?_) | (with_reducible refine le_setCell _ _ ?_) | (with_reducible refine le_drew ?_) | omega | (simp; done) | (simp; omega))))).mono ?_
        rintro e w' ⟨rfl, hw'⟩; have hzy5 := ext_sz hw'; obtain ⟨y5, rfl⟩ := hw'; (try simp at hzy5)
        go_wp2_with fail
        go_ret
        exact ⟨ret_bool R.out.symm, ext_mk (X4.trans (Below.mono (show Below W0.heap.size W0 _ from (by (repeat' (first | (with_reducible exact Below.refl _ _) | (with_reducible assumption) | (with_reducible refine below_ext _ ?_ ?_) | (with_reducible refine Below.alloc ?_ ?_ _) | (with_reducible refine Below.drew ?_) | (with_reducible refine below_drewN ?_ _) | (with_reducible refine le_drewN _ ?_) | (with_reducible refine Below.setCell ?_ ?_ _) | (with_reducible exact Nat.le_refl _) | (with_reducible refine le_ext _ ?_) | (with_reducible refine le_alloc _ ?_) | (with_reducible refine le_setCell _ _ ?_) | (with_reducible refine le_drew ?_) | omega | (simp; done) | (simp; omega))))) X5))⟩
      rw [hin] at CJ RBk
      rw [Bool.and_eq_true, Bool.and_eq_true] at hin
      obtain ⟨i, rfl, hi⟩ := inB_nat hin.1.1
      obtain ⟨j, rfl, hj⟩ := inB_nat hin.1.2
      obtain ⟨e, rfl, he⟩ := inB_nat hin.2
      rw [Int.toNat_natCast, Int.toNat_natCast, Int.toNat_natCast] at RBk
      obtain ⟨b2, ob, hBe, hb2, hcb⟩ := SQ.out W0 X4 (by rw [HM.out]; omega)
      obtain ⟨u1, v1⟩ := hcb i (by rw [HM.out]; omega)
      obtain ⟨u2, v2⟩ := hcb j (by rw [HM.out]; omega)
      obtain ⟨u3, v3⟩ := hcb e (by rw [HM.out]; omega)
      obtain ⟨b3, oa, hAe, hb3, hca⟩ := SP.out W0 X4 (by rw [HN.out]; omega)
      obtain ⟨u4, v4⟩ := hca k (by rw [HN.out]; omega)
      have TI := hide (fun W => TRI.out (gp ps k) (gp hs i) (gp hs j) (gp hs e) W (PB.out k hlt) (QB.out i hi) (QB.out j hj) (QB.out e he))
      have TV : Hid (rowB hs (gp ps k) [(i : Int), (j : Int), (e : Int)] = triB ⟨(gp hs i).x, (gp hs i).y⟩ ⟨(gp hs j).x, (gp hs j).y⟩ ⟨(gp hs e).x, (gp hs e).y⟩ ⟨(gp ps k).x, (gp ps k).y⟩) := hide RBk.out
      have HRk : Hid (rowB hs (gp ps k) [(i : Int), (j : Int), (e : Int)] = true → ∀ t, t < k + 1 → rowB hs (gp ps t) (gz zss t) = true) := hide (fun h t ht => by
        by_cases ee : t = k
        · rw [ee, ZE.out]; exact h
        · exact HR.out t (by omega))
      change W0.cell? ⟨b2, ob + i * 2, none⟩ = some (.int .i64 (gp hs i).x) at u1
      change W0.cell? ⟨b2, ob + i * 2 + 1, none⟩ = some (.int .i64 (gp hs i).y) at v1
      change W0.cell? ⟨b2, ob + j * 2, none⟩ = some (.int .i64 (gp hs j).x) at u2
      change W0.cell? ⟨b2, ob + j * 2 + 1, none⟩ = some (.int .i64 (gp hs j).y) at v2
      change W0.cell? ⟨b2, ob + e * 2, none⟩ = some (.int .i64 (gp hs e).x) at u3
      change W0.cell? ⟨b2, ob + e * 2 + 1, none⟩ = some (.int .i64 (gp hs e).y) at v3
      change W0.cell? ⟨b3, oa + k * 2, none⟩ = some (.int .i64 (gp ps k).x) at u4
      change W0.cell? ⟨b3, oa + k * 2 + 1, none⟩ = some (.int .i64 (gp ps k).y) at v4
      change W0.cell? ⟨g1, o1 + 0, none⟩ = some (.int .i64 (i : Int)) at z0
      change W0.cell? ⟨g1, o1 + 1, none⟩ = some (.int .i64 (j : Int)) at z1
      change W0.cell? ⟨g1, o1 + 2, none⟩ = some (.int .i64 (e : Int)) at z2
      rw [Nat.add_zero] at z0
      rw [hBe] at X2
      rw [hAe] at X1
      have a0 : 0 < n1 := by rw [E3.out]; omega
      have a1 : 1 < n1 := by rw [E3.out]; omega
      have a2 : 2 < n1 := by rw [E3.out]; omega
      have a3 : (0 : Int) < (n1 : Int) := by omega
      have a4 : (1 : Int) < (n1 : Int) := by omega
      have a5 : (2 : Int) < (n1 : Int) := by omega
      have c1' : (0 : Int) ≤ (i : Int) := by omega
      have c2' : (i : Int) < (m : Int) := by omega
      have c3' : (0 : Int) ≤ (j : Int) := by omega
      have c4' : (j : Int) < (m : Int) := by omega
      have c5' : (0 : Int) ≤ (e : Int) := by omega
      have c6' : (e : Int) < (m : Int) := by omega
      clear hin hcz hcb hca RBk RB ZE ROW PB QB TRI SP SQ HN HM HR ST d0 hBe hAe X3
      generalize (gp hs i).x = Q1 at *
      generalize (gp hs i).y = Q2 at *
      generalize (gp hs j).x = Q3 at *
      generalize (gp hs j).y = Q4 at *
      generalize (gp hs e).x = Q5 at *
      generalize (gp hs e).y = Q6 at *
      generalize (gp ps k).x = Q7 at *
      generalize (gp ps k).y = Q8 at *
      by_cases ht : triB ⟨Q1, Q2⟩ ⟨Q3, Q4⟩ ⟨Q5, Q6⟩ ⟨Q7, Q8⟩ = true
      · have RT := hide (HRk.out (TV.out.trans ht))
        rw [ht] at TI
        clear ht TV HRk NORk NOR
        go_wp2_with fail
        refine (CJ.out _ (by (repeat' (first | (with_reducible exact Below.refl _ _) | (with_reducible assumption) | (with_reducible refine below_ext _ ?_ ?_) | (with_reducible refine Below.alloc ?_ ?_ _) | (with_reducible refine Below.drew ?_) | (with_reducible refine below_drewN ?_ _) | (with_reducible refine le_drewN _ ?_) | (with_reducible refine Below.setCell ?_ ?_ _) | (with_reducible exact Nat.le_refl _) | (with_reducible refine le_ext _ ?_) | (with_reducible refine le_alloc _ ?_) | (with_reducible refine le_setCell _ _ ?_) | (with_reducible refine le_drew ?_) | omega | (simp; done) | (simp; omega))))).mono ?_
        rintro e w' ⟨rfl, hw'⟩; have hzy5 := ext_sz hw'; obtain ⟨y5, rfl⟩ := hw'; (try simp at hzy5)
        go_wp2_with fail
        refine wp_region_ext (by kernel_rfl) (by kernel_rfl) ?_
        repeat (go_big_quiet_step ((first | (go_at_call 80; exact Calls.in_ext (TI.out _)))))
        refine wpQuiet_nil ?_
        rintro _ hnq
        have hzq := ext_sz hnq
        obtain ⟨nq, rfl⟩ := hnq
        (try simp at hzq)
        go_wp2_with fail
        exact ⟨⟨k + 1, by omega, by go_num, RT, (ext_mk (by (repeat' (first | (with_reducible exact Below.refl _ _) | (with_reducible assumption) | (with_reducible refine below_ext _ ?_ ?_) | (with_reducible refine Below.alloc ?_ ?_ _) | (with_reducible refine Below.drew ?_) | (with_reducible refine below_drewN ?_ _) | (with_reducible refine le_drewN _ ?_) | (with_reducible refine Below.setCell ?_ ?_ _) | (with_reducible exact Nat.le_refl _) | (with_reducible refine le_ext _ ?_) | (with_reducible refine le_alloc _ ?_) | (with_reducible refine le_setCell _ _ ?_) | (with_reducible refine le_drew ?_) | omega | (simp; done) | (simp; omega)))))⟩, by simp [intOf]; omega⟩
      · have ht := eq_false_of_ne_true ht
        have R := hide (NORk.out (TV.out.trans ht))
        rw [ht] at TI
        clear ht TV HRk NORk NOR YES2
        go_wp2_with fail
        refine (CJ.out _ (by (repeat' (first | (with_reducible exact Below.refl _ _) | (with_reducible assumption) | (with_reducible refine below_ext _ ?_ ?_) | (with_reducible refine Below.alloc ?_ ?_ _) | (with_reducible refine Below.drew ?_) | (with_reducible refine below_drewN ?_ _) | (with_reducible refine le_drewN _ ?_) | (with_reducible refine Below.setCell ?_ ?_ _) | (with_reducible exact Nat.le_refl _) | (with_reducible refine le_ext _ ?_) | (with_reducible refine le_alloc _ ?_) | (with_reducible refine le_setCell _ _ ?_) | (with_reducible refine le_drew ?_) | omega | (simp; done) | (simp; omega))))).mono ?_
        rintro e w' ⟨rfl, hw'⟩; have hzy5 := ext_sz hw'; obtain ⟨y5, rfl⟩ := hw'; (try simp at hzy5)
        go_wp2_with fail
        refine wp_region_ext (by kernel_rfl) (by kernel_rfl) ?_
        repeat (go_big_quiet_step ((first | (go_at_call 80; exact Calls.in_ext (TI.out _)))))
        refine wpQuiet_nil ?_
        rintro _ hnq
        have hzq := ext_sz hnq
        obtain ⟨nq, rfl⟩ := hnq
        (try simp at hzq)
        go_wp2_with fail
        go_ret
        exact ⟨ret_bool R.out.symm, ext_mk (X4.trans (Below.mono (show Below W0.heap.size W0 _ from (by (repeat' (first | (with_reducible exact Below.refl _ _) | (with_reducible assumption) | (with_reducible refine below_ext _ ?_ ?_) | (with_reducible refine Below.alloc ?_ ?_ _) | (with_reducible refine Below.drew ?_) | (with_reducible refine below_drewN ?_ _) | (with_reducible refine le_drewN _ ?_) | (with_reducible refine Below.setCell ?_ ?_ _) | (with_reducible exact Nat.le_refl _) | (with_reducible refine le_ext _ ?_) | (with_reducible refine le_alloc _ ?_) | (with_reducible refine le_setCell _ _ ?_) | (with_reducible refine le_drew ?_) | omega | (simp; done) | (simp; omega))))) X5))⟩
    · have ek : k = r := by omega
      have R := hide (YES2.out (fun j hj => HR.out j (by omega)))
      clear ek
      go_wp2_with fail
      go_ret
      exact ⟨ret_bool R.out.symm, ext_mk (X4.trans (Below.mono (show Below W0.heap.size W0 _ from (by (repeat' (first | (with_reducible exact Below.refl _ _) | (with_reducible assumption) | (with_reducible refine below_ext _ ?_ ?_) | (with_reducible refine Below.alloc ?_ ?_ _) | (with_reducible refine Below.drew ?_) | (with_reducible refine below_drewN ?_ _) | (with_reducible refine le_drewN _ ?_) | (with_reducible refine Below.setCell ?_ ?_ _) | (with_reducible exact Nat.le_refl _) | (with_reducible refine le_ext _ ?_) | (with_reducible refine le_alloc _ ?_) | (with_reducible refine le_setCell _ _ ?_) | (with_reducible refine le_drew ?_) | omega | (simp; done) | (simp; omega))))) X5))⟩
end Go.Proofs.Ytelhidonhldjeaa
