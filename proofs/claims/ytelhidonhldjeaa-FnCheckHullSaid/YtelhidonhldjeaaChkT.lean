
/- The reference's checkShape and CheckHull. -/
import Derived.Test.YtelhidonhldjeaaChkS
set_option linter.unusedVariables false
set_option linter.unusedSimpArgs false
namespace Go.Proofs.Ytelhidonhldjeaa
open Go.RowKit

set_option maxHeartbeats 2000000 in
theorem scheck_any (hs : List Pt) (A : Option Addr) (n c : Nat) (w : World) (hn : hs.length = n) (hm : n ≤ 1000) (hb : ∀ p ∈ hs, (-100000 ≤ p.x ∧ p.x ≤ 100000) ∧ -100000 ≤ p.y ∧ p.y ≤ 100000) (hp : PtsAt w w.heap.size A hs) :
    Calls Try.prog 84 #[.slice A n c] w fun e w' => e = .returned (.bool (shapeS hs)) ∧ ∃ m, w' = ext w m := by
  by_cases h3 : n < 3
  · have dl : decide ((n : Int) < 3) = true := decide_eq_true (by omega)
    have SV : shapeS hs = (decide (n = 1) || (decide (n = 2) && decide (ltP (gp hs 0) (gp hs 1)))) := by unfold shapeS; rw [hn, if_pos h3]
    by_cases e2 : n = 2
    · obtain ⟨b, o, rfl, hbl, hc⟩ := hp (by omega)
      obtain ⟨x0, y0⟩ := hc 0 (by omega)
      obtain ⟨x1, y1⟩ := hc 1 (by omega)
      have PL := hide (fun W => pointLess_any (gp hs 0).x (gp hs 0).y (gp hs 1).x (gp hs 1).y W)
      have R : Hid (shapeS hs = decide (ltP ⟨(gp hs 0).x, (gp hs 0).y⟩ ⟨(gp hs 1).x, (gp hs 1).y⟩)) := hide (by rw [SV, decide_eq_false (show ¬ n = 1 by omega), decide_eq_true e2]; rfl)
      have d1 : ((n : Int) == 1) = false := by rw [beq_eq_false_iff_ne]; omega
      have d2 : ((n : Int) == 2) = true := by rw [e2]; rfl
      change w.cell? ⟨b, o + 0 * 2, none⟩ = some (.int .i64 (gp hs 0).x) at x0
      change w.cell? ⟨b, o + 0 * 2 + 1, none⟩ = some (.int .i64 (gp hs 0).y) at y0
      change w.cell? ⟨b, o + 1 * 2, none⟩ = some (.int .i64 (gp hs 1).x) at x1
      change w.cell? ⟨b, o + 1 * 2 + 1, none⟩ = some (.int .i64 (gp hs 1).y) at y1
      simp at x0 y0 x1 y1
      have q0 : 0 < n := by omega
      have q1 : 1 < n := by omega
      have q3 : (0 : Int) < (n : Int) := by omega
      have q4 : (1 : Int) < (n : Int) := by omega
      clear hn hc hb SV e2
      generalize (gp hs 0).x = X0 at *
      generalize (gp hs 0).y = Y0 at *
      generalize (gp hs 1).x = X1 at *
      generalize (gp hs 1).y = Y1 at *
      generalize decide (ltP ⟨X0, Y0⟩ ⟨X1, Y1⟩) = V at *
      go_enter Try.func84, Try.ntmps84
      go_wp2_with fail
      refine wp_region_ext (by kernel_rfl) (by kernel_rfl) ?_
      repeat (go_big_quiet_step ((first | (go_at_call 119; exact Calls.in_ext (PL.out _)))))
      refine wpQuiet_nil ?_
      rintro _ hnq
      have hzq := ext_sz hnq
      obtain ⟨nq, rfl⟩ := hnq
      (try simp at hzq)
      go_wp2_with fail
      go_ret
      exact ⟨ret_bool R.out.symm, (ext_mk (by (repeat' (first | (with_reducible exact Below.refl _ _) | (with_reducible assumption) | (with_reducible refine below_ext _ ?_ ?_) | (with_reducible refine Below.alloc ?_ ?_ _) | (with_reducible refine Below.drew ?_) | (with_reducible refine below_drewN ?_ _) | (with_reducible refine le_drewN _ ?_) | (with_reducible refine Below.setCell ?_ ?_ _) | (with_reducible exact Nat.le_refl _) | (with_reducible refine le_ext _ ?_) | (with_reducible refine le_alloc _ ?_) | (with_reducible refine le_setCell _ _ ?_) | (with_reducible refine le_drew ?_) | omega | (simp; done) | (simp; omega)))))⟩
    · have d2 : ((n : Int) == 2) = false := by rw [beq_eq_false_iff_ne]; omega
      by_cases e1 : n = 1
      · have d1 : ((n : Int) == 1) = true := by rw [e1]; rfl
        have R : Hid (shapeS hs = true) := hide (by rw [SV, decide_eq_true e1]; rfl)
        clear hn hp hb SV e1 e2
        go_enter Try.func84, Try.ntmps84
        go_wp2_with fail
        refine wp_region_ext (by kernel_rfl) (by kernel_rfl) ?_
        repeat (go_big_quiet_step (fail))
        refine wpQuiet_nil ?_
        rintro _ hnq
        have hzq := ext_sz hnq
        obtain ⟨nq, rfl⟩ := hnq
        (try simp at hzq)
        go_wp2_with fail
        go_ret
        exact ⟨ret_bool R.out.symm, (ext_mk (by (repeat' (first | (with_reducible exact Below.refl _ _) | (with_reducible assumption) | (with_reducible refine below_ext _ ?_ ?_) | (with_reducible refine Below.alloc ?_ ?_ _) | (with_reducible refine Below.drew ?_) | (with_reducible refine below_drewN ?_ _) | (with_reducible refine le_drewN _ ?_) | (with_reducible refine Below.setCell ?_ ?_ _) | (with_reducible exact Nat.le_refl _) | (with_reducible refine le_ext _ ?_) | (with_reducible refine le_alloc _ ?_) | (with_reducible refine le_setCell _ _ ?_) | (with_reducible refine le_drew ?_) | omega | (simp; done) | (simp; omega)))))⟩
      · have d1 : ((n : Int) == 1) = false := by rw [beq_eq_false_iff_ne]; omega
        have R : Hid (shapeS hs = false) := hide (by rw [SV, decide_eq_false e1, decide_eq_false e2]; rfl)
        clear hn hp hb SV e1 e2
        go_enter Try.func84, Try.ntmps84
        go_wp2_with fail
        refine wp_region_ext (by kernel_rfl) (by kernel_rfl) ?_
        repeat (go_big_quiet_step (fail))
        refine wpQuiet_nil ?_
        rintro _ hnq
        have hzq := ext_sz hnq
        obtain ⟨nq, rfl⟩ := hnq
        (try simp at hzq)
        go_wp2_with fail
        go_ret
        exact ⟨ret_bool R.out.symm, (ext_mk (by (repeat' (first | (with_reducible exact Below.refl _ _) | (with_reducible assumption) | (with_reducible refine below_ext _ ?_ ?_) | (with_reducible refine Below.alloc ?_ ?_ _) | (with_reducible refine Below.drew ?_) | (with_reducible refine below_drewN ?_ _) | (with_reducible refine le_drewN _ ?_) | (with_reducible refine Below.setCell ?_ ?_ _) | (with_reducible exact Nat.le_refl _) | (with_reducible refine le_ext _ ?_) | (with_reducible refine le_alloc _ ?_) | (with_reducible refine le_setCell _ _ ?_) | (with_reducible refine le_drew ?_) | omega | (simp; done) | (simp; omega)))))⟩
  · have dl : decide ((n : Int) < 3) = false := decide_eq_false (by omega)
    have SV : shapeS hs = (ringS hs && (List.range n).all fun i => decide (i = 0) || decide (ltP (gp hs 0) (gp hs i))) := by unfold shapeS; rw [hn, if_neg h3]
    have RG := hide (sring_any hs A n c w hn hm hb hp)
    by_cases hr : ringS hs = true
    · rw [hr] at RG
      rw [hr, Bool.true_and] at SV
      have YES : Hid ((∀ i, i < n → i = 0 ∨ decide (ltP ⟨(gp hs 0).x, (gp hs 0).y⟩ ⟨(gp hs i).x, (gp hs i).y⟩) = true) → shapeS hs = true) := hide (fun h => by
        rw [SV, List.all_eq_true]
        intro i hi
        rw [List.mem_range] at hi
        rcases h i hi with e | e
        · simp [e]
        · rw [show decide (ltP (gp hs 0) (gp hs i)) = true from e, Bool.or_true])
      have NO : Hid (∀ i, i < n → i ≠ 0 → decide (ltP ⟨(gp hs 0).x, (gp hs 0).y⟩ ⟨(gp hs i).x, (gp hs i).y⟩) = false → shapeS hs = false) := hide (fun i hi h0 h => by
        rw [SV, ← Bool.not_eq_true, List.all_eq_true]
        intro hh
        have := hh i (List.mem_range.2 hi)
        rw [show decide (ltP (gp hs 0) (gp hs i)) = false from h, decide_eq_false h0] at this
        cases this)
      obtain ⟨b, o, rfl, hbl, hc⟩ := hp (by omega)
      obtain ⟨x0, y0⟩ := hc 0 (by omega)
      have HC : Hid (∀ k, k < n → w.cell? ⟨b, o + k * 2, none⟩ = some (.int .i64 (gp hs k).x) ∧ w.cell? ⟨b, o + k * 2 + 1, none⟩ = some (.int .i64 (gp hs k).y)) := hide (fun k hk => hc k (by omega))
      change w.cell? ⟨b, o + 0 * 2, none⟩ = some (.int .i64 (gp hs 0).x) at x0
      change w.cell? ⟨b, o + 0 * 2 + 1, none⟩ = some (.int .i64 (gp hs 0).y) at y0
      simp at x0 y0
      have q0 : 0 < n := by omega
      have q3 : (0 : Int) < (n : Int) := by omega
      clear hn hp hb SV hc hr
      go_enter Try.func84, Try.ntmps84
      go_wp2_with fail
      refine RG.out.mono ?_
      rintro e w' ⟨rfl, hw'⟩; have hzy1 := ext_sz hw'; obtain ⟨y1, rfl⟩ := hw'; (try simp at hzy1)
      have SX : Hid (∃ x, ext w y1 = ext w x) := hide ⟨y1, rfl⟩
      go_wp2_with fail
      go_loopw [3] (fun u3 wr => ∃ i : Nat, 1 ≤ i ∧ i ≤ n ∧ u3 = .int .i64 i ∧ Hid (∀ j, j < i → j = 0 ∨ decide (ltP ⟨(gp hs 0).x, (gp hs 0).y⟩ ⟨(gp hs j).x, (gp hs j).y⟩) = true) ∧ ∃ x, wr = ext w x) (fun u3 _ => n - (intOf u3).toNat)
      case atStart => exact ⟨1, Nat.le_refl _, by omega, rfl, hide (fun j hj => .inl (by omega)), SX.out⟩
      case round =>
        obtain ⟨i, hi1, hi, rfl, HF, x, rfl⟩ := hrel
        have hz := ext_size w x
        by_cases hlt : i < n
        · obtain ⟨p1, p2⟩ := HC.out i hlt
          have PL := hide (fun W => pointLess_any (gp hs 0).x (gp hs 0).y (gp hs i).x (gp hs i).y W)
          have NOi := hide (NO.out i hlt (by omega))
          have q1 : (0 : Int) ≤ (i : Int) := by omega
          have q2 : (i : Int) < (n : Int) := by omega
          by_cases hl : decide (ltP ⟨(gp hs 0).x, (gp hs 0).y⟩ ⟨(gp hs i).x, (gp hs i).y⟩) = true
          · have HL := hide hl
            rw [hl] at PL
            clear hl NOi
            go_wp2_with fail
            refine wp_region_ext (by kernel_rfl) (by kernel_rfl) ?_
            repeat (go_big_quiet_step ((first | (go_at_call 119; exact Calls.in_ext (PL.out _)))))
            refine wpQuiet_nil ?_
            rintro _ hnq
            have hzq := ext_sz hnq
            obtain ⟨nq, rfl⟩ := hnq
            (try simp at hzq)
            go_wp2_with fail
            exact ⟨⟨i + 1, by omega, by omega, by go_num, hide (fun j hj => by
              by_cases e : j = i
              · rw [e]; exact .inr HL.out
              · exact HF.out j (by omega)), (ext_mk (by (repeat' (first | (with_reducible exact Below.refl _ _) | (with_reducible assumption) | (with_reducible refine below_ext _ ?_ ?_) | (with_reducible refine Below.alloc ?_ ?_ _) | (with_reducible refine Below.drew ?_) | (with_reducible refine below_drewN ?_ _) | (with_reducible refine le_drewN _ ?_) | (with_reducible refine Below.setCell ?_ ?_ _) | (with_reducible exact Nat.le_refl _) | (with_reducible refine le_ext _ ?_) | (with_reducible refine le_alloc _ ?_) | (with_reducible refine le_setCell _ _ ?_) | (with_reducible refine le_drew ?_) | omega | (simp; done) | (simp; omega)))))⟩, by simp [intOf]; omega⟩
          · have hl := eq_false_of_ne_true hl
            have R := hide (NOi.out hl)
            rw [hl] at PL
            clear hl NOi
            go_wp2_with fail
            refine wp_region_ext (by kernel_rfl) (by kernel_rfl) ?_
            repeat (go_big_quiet_step ((first | (go_at_call 119; exact Calls.in_ext (PL.out _)))))
            refine wpQuiet_nil ?_
            rintro _ hnq
            have hzq := ext_sz hnq
            obtain ⟨nq, rfl⟩ := hnq
            (try simp at hzq)
            go_wp2_with fail
            go_ret
            exact ⟨ret_bool R.out.symm, (ext_mk (by (repeat' (first | (with_reducible exact Below.refl _ _) | (with_reducible assumption) | (with_reducible refine below_ext _ ?_ ?_) | (with_reducible refine Below.alloc ?_ ?_ _) | (with_reducible refine Below.drew ?_) | (with_reducible refine below_drewN ?_ _) | (with_reducible refine le_drewN _ ?_) | (with_reducible refine Below.setCell ?_ ?_ _) | (with_reducible exact Nat.le_refl _) | (with_reducible refine le_ext _ ?_) | (with_reducible refine le_alloc _ ?_) | (with_reducible refine le_setCell _ _ ?_) | (with_reducible refine le_drew ?_) | omega | (simp; done) | (simp; omega)))))⟩
        · have ei : i = n := by omega
          have R := hide (YES.out (fun j hj => HF.out j (by omega)))
          clear ei
          go_wp2_with fail
          go_ret
          exact ⟨ret_bool R.out.symm, (ext_mk (by (repeat' (first | (with_reducible exact Below.refl _ _) | (with_reducible assumption) | (with_reducible refine below_ext _ ?_ ?_) | (with_reducible refine Below.alloc ?_ ?_ _) | (with_reducible refine Below.drew ?_) | (with_reducible refine below_drewN ?_ _) | (with_reducible refine le_drewN _ ?_) | (with_reducible refine Below.setCell ?_ ?_ _) | (with_reducible exact Nat.le_refl _) | (with_reducible refine le_ext _ ?_) | (with_reducible refine le_alloc _ ?_) | (with_reducible refine le_setCell _ _ ?_) | (with_reducible refine le_drew ?_) | omega | (simp; done) | (simp; omega)))))⟩
    · have hr := eq_false_of_ne_true hr
      rw [hr] at RG
      have R : Hid (shapeS hs = false) := hide (by rw [SV, hr]; rfl)
      clear hn hp hb SV hr
      go_enter Try.func84, Try.ntmps84
      go_wp2_with fail
      refine RG.out.mono ?_
      rintro e w' ⟨rfl, hw'⟩; have hzy1 := ext_sz hw'; obtain ⟨y1, rfl⟩ := hw'; (try simp at hzy1)
      go_wp2_with fail
      go_ret
      exact ⟨ret_bool R.out.symm, (ext_mk (by (repeat' (first | (with_reducible exact Below.refl _ _) | (with_reducible assumption) | (with_reducible refine below_ext _ ?_ ?_) | (with_reducible refine Below.alloc ?_ ?_ _) | (with_reducible refine Below.drew ?_) | (with_reducible refine below_drewN ?_ _) | (with_reducible refine le_drewN _ ?_) | (with_reducible refine Below.setCell ?_ ?_ _) | (with_reducible exact Nat.le_refl _) | (with_reducible refine le_ext _ ?_) | (with_reducible refine le_alloc _ ?_) | (with_reducible refine le_setCell _ _ ?_) | (with_reducible refine le_drew ?_) | omega | (simp; done) | (simp; omega)))))⟩
end Go.Proofs.Ytelhidonhldjeaa
