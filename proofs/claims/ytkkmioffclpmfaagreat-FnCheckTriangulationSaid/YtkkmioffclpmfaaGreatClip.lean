
/- A simple polygon without three consecutive vertices on one line: the program's and the reference's tests. -/
import Derived.Test.YtkkmioffclpmfaaGreatConv
import Derived.Test.YtkkmioffclpmfaaGreatSimS
import Derived.Test.YtkkmioffclpmfaaGreatEarM
set_option linter.unusedVariables false
set_option linter.unusedSimpArgs false
namespace Go.Proofs.YtkkmioffclpmfaaGreat
open Go.RowKit

theorem lf_yes {ps : List Pt} (h2 : ∀ i, i < ps.length → trn (gp ps i) (gp ps ((i + 1) % ps.length)) (gp ps ((i + 2) % ps.length)) ≠ 0) : lineFree ps = true := by
  unfold lineFree; rw [List.all_eq_true]
  exact fun i hi => decide_eq_true (h2 i (List.mem_range.1 hi))
theorem lf_at {ps : List Pt} {i : Nat} (hi : i < ps.length) (h : trn (gp ps i) (gp ps ((i + 1) % ps.length)) (gp ps ((i + 2) % ps.length)) = 0) : lineFree ps = false := by
  rw [← Bool.not_eq_true]
  unfold lineFree
  rw [List.all_eq_true]
  intro hh
  have := hh i (List.mem_range.2 hi)
  exact (of_decide_eq_true this) h
theorem clipB_no {ps : List Pt} (h : simB ps = false) : clipB ps = false := by unfold clipB; rw [h]; rfl
theorem clipB_at {ps : List Pt} {i : Nat} (hi : i < ps.length) (h : trn (gp ps i) (gp ps ((i + 1) % ps.length)) (gp ps ((i + 2) % ps.length)) = 0) : clipB ps = false := by
  unfold clipB; rw [lf_at hi h, Bool.and_false]
theorem clipB_yes {ps : List Pt} (h : simB ps = true) (h2 : ∀ i, i < ps.length → trn (gp ps i) (gp ps ((i + 1) % ps.length)) (gp ps ((i + 2) % ps.length)) ≠ 0) : clipB ps = true := by
  unfold clipB; rw [h, lf_yes h2]; rfl
theorem clipB_sim {ps : List Pt} (h : clipB ps = true) : simB ps = true := by
  unfold clipB at h; rw [Bool.and_eq_true] at h; exact h.1
set_option maxHeartbeats 1000000 in
theorem clippable_any (ps : List Pt) (A : Option Addr) (n c : Nat) (w : World) (hn : ps.length = n) (hm : n ≤ 2000000) (hA : Plain A n) (hs : PtsAt w w.heap.size A ps) :
    Calls Tryz.prog 39 #[.slice A n c] w fun e w' => e = .returned (.bool (clipB ps)) ∧ ∃ x, w' = ext w x := by
  have HC := hide (simple_any ps A n c w hn hm hA hs)
  by_cases hok : simB ps = true
  · rw [hok] at HC
    obtain ⟨hib, h3, h20, _⟩ := simB_parts hok
    have HS := hide hs
    have HN := hide hn
    have BI : Hid (∀ i, i < n → (-100000 ≤ (gp ps i).x ∧ (gp ps i).x ≤ 100000) ∧ (-100000 ≤ (gp ps i).y ∧ (gp ps i).y ≤ 100000)) := hide (fun i hi => hib _ (gp_mem (by omega)))
    have HY := hide (fun h2 => clipB_yes hok h2)
    have HNO := hide (fun (i : Nat) (hi : i < n) h => clipB_at (ps := ps) (i := i) (by omega) h)
    have k3 : 3 ≤ n := by omega
    have k20 : n ≤ 20 := by omega
    clear hok hn hs hib h3 h20
    go_enter Tryz.func39, Tryz.ntmps39
    go_wp2_with fail
    refine HC.out.mono ?_
    rintro e w' ⟨rfl, hw'⟩; have hzy1 := ext_sz hw'; obtain ⟨y1, rfl⟩ := hw'; (try simp at hzy1)
    have B1 := ext_below w y1
    generalize hW1 : ext w y1 = W1 at *
    clear hW1
    go_wp2
    go_loopw [9] (fun u9 wr => ∃ i : Nat, i ≤ n ∧ u9 = .int .i64 i ∧ Hid (∀ j, j < i → trn (gp ps j) (gp ps ((j + 1) % ps.length)) (gp ps ((j + 2) % ps.length)) ≠ 0) ∧ Below w.heap.size w wr) (fun u9 _ => n - (intOf u9).toNat)
    case atStart => exact ⟨0, Nat.zero_le _, rfl, (fun j hj => by omega), B1⟩
    case round =>
      obtain ⟨i, hi, rfl, HP, hbel⟩ := hrel
      have hsz := hbel.size
      by_cases hlt : i < n
      · obtain ⟨b, o, rfl, hb, hcs⟩ := HS.out (by rw [HN.out]; omega)
        obtain ⟨j, hj⟩ : ∃ j, j = (i + 1) % n := ⟨_, rfl⟩
        obtain ⟨k, hk⟩ : ∃ k, k = (i + 2) % n := ⟨_, rfl⟩
        have hjl : j < n := by rw [hj]; exact Nat.mod_lt _ (by omega)
        have hkl : k < n := by rw [hk]; exact Nat.mod_lt _ (by omega)
        obtain ⟨hx0, hy0⟩ := hcs i (by rw [HN.out]; omega)
        obtain ⟨hx1, hy1⟩ := hcs j (by rw [HN.out]; omega)
        obtain ⟨hx2, hy2⟩ := hcs k (by rw [HN.out]; omega)
        have gx0 := (hbel.cell (p := ⟨b, o + i * 2, none⟩) hb).trans hx0
        have gy0 := (hbel.cell (p := ⟨b, o + i * 2 + 1, none⟩) hb).trans hy0
        have gx1 := (hbel.cell (p := ⟨b, o + j * 2, none⟩) hb).trans hx1
        have gy1 := (hbel.cell (p := ⟨b, o + j * 2 + 1, none⟩) hb).trans hy1
        have gx2 := (hbel.cell (p := ⟨b, o + k * 2, none⟩) hb).trans hx2
        have gy2 := (hbel.cell (p := ⟨b, o + k * 2 + 1, none⟩) hb).trans hy2
        have e2 : Int.tmod ((i : Int) + 1) (n : Int) = (j : Int) := by rw [hj]; exact (Int.ofNat_tmod (i + 1) n).symm
        have e3 : Int.tmod ((i : Int) + 2) (n : Int) = (k : Int) := by rw [hk]; exact (Int.ofNat_tmod (i + 2) n).symm
        have w1 : IntKind.i64.wrap ((i : Int) + 1) = (i : Int) + 1 := IntWalk.i64_in _ (by omega)
        have w2 : IntKind.i64.wrap ((i : Int) + 2) = (i : Int) + 2 := IntWalk.i64_in _ (by omega)
        have w3 : IntKind.i64.wrap (j : Int) = (j : Int) := IntWalk.i64_in _ (by omega)
        have w4 : IntKind.i64.wrap (k : Int) = (k : Int) := IntWalk.i64_in _ (by omega)
        have q1 : (0 : Int) ≤ (j : Int) := by omega
        have q2 : (j : Int) < (n : Int) := by omega
        have q3 : (0 : Int) ≤ (i : Int) := by omega
        have q4 : (i : Int) < (n : Int) := by omega
        have q5 : ¬ n = 0 := by omega
        have q6 : (0 : Int) ≤ (k : Int) := by omega
        have q7 : (k : Int) < (n : Int) := by omega
        obtain ⟨⟨p1, p2⟩, p3, p4⟩ := BI.out i hlt
        obtain ⟨⟨p5, p6⟩, p7, p8⟩ := BI.out j hjl
        obtain ⟨⟨p9, p10⟩, p11, p12⟩ := BI.out k hkl
        have HT : Hid (trn (gp ps i) (gp ps ((i + 1) % ps.length)) (gp ps ((i + 2) % ps.length)) = ((pX ps j - pX ps i) * (pY ps k - pY ps i) - (pY ps j - pY ps i) * (pX ps k - pX ps i))) := hide (by rw [HN.out, ← hj, ← hk]; rfl)
        have hno := hide (HNO.out i hlt)
        have BX := hide (And.intro p1 (And.intro p2 (And.intro p3 (And.intro p4 (And.intro p5 (And.intro p6 (And.intro p7 (And.intro p8 (And.intro p9 (And.intro p10 (And.intro p11 p12)))))))))))
        clear hcs hx0 hy0 hx1 hy1 hx2 hy2 hj hk p1 p2 p3 p4 p5 p6 p7 p8 p9 p10 p11 p12
        rw [HT.out] at hno
        have TU := hide (fun W => turn_any (pX ps i) (pY ps i) (pX ps j) (pY ps j) (pX ps k) (pY ps k) W ⟨BX.out.1, BX.out.2.1⟩ ⟨BX.out.2.2.1, BX.out.2.2.2.1⟩ ⟨BX.out.2.2.2.2.1, BX.out.2.2.2.2.2.1⟩ ⟨BX.out.2.2.2.2.2.2.1, BX.out.2.2.2.2.2.2.2.1⟩ ⟨BX.out.2.2.2.2.2.2.2.2.1, BX.out.2.2.2.2.2.2.2.2.2.1⟩ ⟨BX.out.2.2.2.2.2.2.2.2.2.2.1, BX.out.2.2.2.2.2.2.2.2.2.2.2⟩)
        generalize (pX ps j - pX ps i) * (pY ps k - pY ps i) - (pY ps j - pY ps i) * (pX ps k - pX ps i) = V at *
        by_cases hv : V = 0
        · have hdv : (V == 0) = true := by rw [beq_iff_eq]; exact hv
          have HV := hide (hno.out hv)
          clear hv
          go_wp2_with fail
          refine wp_region_ext (by kernel_rfl) (by kernel_rfl) ?_
          repeat (go_big_quiet_step ((first | (go_at_call 52; exact Calls.in_ext (TU.out _)))))
          refine wpQuiet_nil ?_
          rintro _ hnq
          have hzq := ext_sz hnq
          obtain ⟨nq, rfl⟩ := hnq
          (try simp at hzq)
          go_wp2_with fail
          go_ret
          exact ⟨ret_bool HV.out.symm, ext_mk (hbel.trans (by (repeat' (first | (with_reducible first | exact Below.refl _ _ | assumption | refine below_ext _ ?_ ?_ | refine Below.alloc ?_ ?_ _ | refine Below.drew ?_ | refine below_drewN ?_ _ | refine le_drewN _ ?_ | refine Below.setCell ?_ ?_ _ | exact Nat.le_refl _ | refine le_ext _ ?_ | refine le_alloc _ ?_ | refine le_setCell _ _ ?_ | refine le_drew ?_) | omega | (simp; done) | (simp; omega)))))⟩
        · have hdv : (V == 0) = false := by rw [beq_eq_false_iff_ne]; exact hv
          have HV := hide (show V ≠ 0 from hv)
          clear hv
          go_wp2_with fail
          refine wp_region_ext (by kernel_rfl) (by kernel_rfl) ?_
          repeat (go_big_quiet_step ((first | (go_at_call 52; exact Calls.in_ext (TU.out _)))))
          refine wpQuiet_nil ?_
          rintro _ hnq
          have hzq := ext_sz hnq
          obtain ⟨nq, rfl⟩ := hnq
          (try simp at hzq)
          go_wp2_with fail
          exact ⟨⟨i + 1, by omega, by go_num, hide (fun j hj => by
            by_cases e : j = i
            · subst e; rw [HT.out]; exact HV.out
            · exact HP.out j (by omega)), hbel.trans (by (repeat' (first | (with_reducible first | exact Below.refl _ _ | assumption | refine below_ext _ ?_ ?_ | refine Below.alloc ?_ ?_ _ | refine Below.drew ?_ | refine below_drewN ?_ _ | refine le_drewN _ ?_ | refine Below.setCell ?_ ?_ _ | exact Nat.le_refl _ | refine le_ext _ ?_ | refine le_alloc _ ?_ | refine le_setCell _ _ ?_ | refine le_drew ?_) | omega | (simp; done) | (simp; omega))))⟩, by simp [intOf]; omega⟩
      · have hin' : i = n := by omega
        subst hin'
        have HV := hide (HY.out (fun j hj => HP.out j (by rw [← HN.out]; exact hj)))
        go_wp2
        go_ret
        exact ⟨ret_bool HV.out.symm, ext_mk hbel⟩
  · rw [eq_false_of_ne_true hok] at HC
    have HV := hide (clipB_no (eq_false_of_ne_true hok))
    clear hok hn hs
    go_enter Tryz.func39, Tryz.ntmps39
    go_wp2_with fail
    refine HC.out.mono ?_
    rintro e w' ⟨rfl, hw'⟩; have hzy1 := ext_sz hw'; obtain ⟨y1, rfl⟩ := hw'; (try simp at hzy1)
    go_wp2_with fail
    go_ret
    exact ⟨ret_bool HV.out.symm, (ext_mk (by (repeat' (first | (with_reducible first | exact Below.refl _ _ | assumption | refine below_ext _ ?_ ?_ | refine Below.alloc ?_ ?_ _ | refine Below.drew ?_ | refine below_drewN ?_ _ | refine le_drewN _ ?_ | refine Below.setCell ?_ ?_ _ | exact Nat.le_refl _ | refine le_ext _ ?_ | refine le_alloc _ ?_ | refine le_setCell _ _ ?_ | refine le_drew ?_) | omega | (simp; done) | (simp; omega)))))⟩
set_option maxHeartbeats 1000000 in
theorem hasStraight_any (ps : List Pt) (A : Option Addr) (n c : Nat) (w : World) (hn : ps.length = n) (h3 : 3 ≤ n) (hm : n ≤ 1000) (hib : ∀ p ∈ ps, (-100000 ≤ p.x ∧ p.x ≤ 100000) ∧ (-100000 ≤ p.y ∧ p.y ≤ 100000)) (hs : PtsAt w w.heap.size A ps) :
    Calls Tryz.prog 90 #[.slice A n c] w fun e w' => e = .returned (.bool (!lineFree ps)) ∧ ∃ x, w' = ext w x := by
  have HS := hide hs
  have HN := hide hn
  have BI : Hid (∀ i, i < n → (-100000 ≤ (gp ps i).x ∧ (gp ps i).x ≤ 100000) ∧ (-100000 ≤ (gp ps i).y ∧ (gp ps i).y ≤ 100000)) := hide (fun i hi => hib _ (gp_mem (by omega)))
  have HY := hide (fun h2 => lf_yes (ps := ps) h2)
  have HNO := hide (fun (i : Nat) (hi : i < n) h => lf_at (ps := ps) (i := i) (by omega) h)
  clear hn hs hib
  go_enter Tryz.func90, Tryz.ntmps90
  go_wp2
  go_loopw [4] (fun u4 wr => ∃ i : Nat, i ≤ n ∧ u4 = .int .i64 i ∧ Hid (∀ j, j < i → trn (gp ps j) (gp ps ((j + 1) % ps.length)) (gp ps ((j + 2) % ps.length)) ≠ 0) ∧ Below w.heap.size w wr) (fun u4 _ => n - (intOf u4).toNat)
  case atStart => exact ⟨0, Nat.zero_le _, rfl, (fun j hj => by omega), Below.refl _ _⟩
  case round =>
    obtain ⟨i, hi, rfl, HP, hbel⟩ := hrel
    have hsz := hbel.size
    by_cases hlt : i < n
    · obtain ⟨b, o, rfl, hb, hcs⟩ := HS.out (by rw [HN.out]; omega)
      obtain ⟨j, hj⟩ : ∃ j, j = (i + 1) % n := ⟨_, rfl⟩
      obtain ⟨k, hk⟩ : ∃ k, k = (i + 2) % n := ⟨_, rfl⟩
      have hjl : j < n := by rw [hj]; exact Nat.mod_lt _ (by omega)
      have hkl : k < n := by rw [hk]; exact Nat.mod_lt _ (by omega)
      obtain ⟨hx0, hy0⟩ := hcs i (by rw [HN.out]; omega)
      obtain ⟨hx1, hy1⟩ := hcs j (by rw [HN.out]; omega)
      obtain ⟨hx2, hy2⟩ := hcs k (by rw [HN.out]; omega)
      have gx0 := (hbel.cell (p := ⟨b, o + i * 2, none⟩) hb).trans hx0
      have gy0 := (hbel.cell (p := ⟨b, o + i * 2 + 1, none⟩) hb).trans hy0
      have gx1 := (hbel.cell (p := ⟨b, o + j * 2, none⟩) hb).trans hx1
      have gy1 := (hbel.cell (p := ⟨b, o + j * 2 + 1, none⟩) hb).trans hy1
      have gx2 := (hbel.cell (p := ⟨b, o + k * 2, none⟩) hb).trans hx2
      have gy2 := (hbel.cell (p := ⟨b, o + k * 2 + 1, none⟩) hb).trans hy2
      have e2 : Int.tmod ((i : Int) + 1) (n : Int) = (j : Int) := by rw [hj]; exact (Int.ofNat_tmod (i + 1) n).symm
      have e3 : Int.tmod ((i : Int) + 2) (n : Int) = (k : Int) := by rw [hk]; exact (Int.ofNat_tmod (i + 2) n).symm
      have w1 : IntKind.i64.wrap ((i : Int) + 1) = (i : Int) + 1 := IntWalk.i64_in _ (by omega)
      have w2 : IntKind.i64.wrap ((i : Int) + 2) = (i : Int) + 2 := IntWalk.i64_in _ (by omega)
      have w3 : IntKind.i64.wrap (j : Int) = (j : Int) := IntWalk.i64_in _ (by omega)
      have w4 : IntKind.i64.wrap (k : Int) = (k : Int) := IntWalk.i64_in _ (by omega)
      have q1 : (0 : Int) ≤ (j : Int) := by omega
      have q2 : (j : Int) < (n : Int) := by omega
      have q3 : (0 : Int) ≤ (i : Int) := by omega
      have q4 : (i : Int) < (n : Int) := by omega
      have q5 : ¬ n = 0 := by omega
      have q6 : (0 : Int) ≤ (k : Int) := by omega
      have q7 : (k : Int) < (n : Int) := by omega
      obtain ⟨⟨p1, p2⟩, p3, p4⟩ := BI.out i hlt
      obtain ⟨⟨p5, p6⟩, p7, p8⟩ := BI.out j hjl
      obtain ⟨⟨p9, p10⟩, p11, p12⟩ := BI.out k hkl
      have HT : Hid (trn (gp ps i) (gp ps ((i + 1) % ps.length)) (gp ps ((i + 2) % ps.length)) = ((pX ps j - pX ps i) * (pY ps k - pY ps i) - (pY ps j - pY ps i) * (pX ps k - pX ps i))) := hide (by rw [HN.out, ← hj, ← hk]; rfl)
      have hno := hide (fun h => HNO.out i hlt h)
      have BX := hide (And.intro p1 (And.intro p2 (And.intro p3 (And.intro p4 (And.intro p5 (And.intro p6 (And.intro p7 (And.intro p8 (And.intro p9 (And.intro p10 (And.intro p11 p12)))))))))))
      clear hcs hx0 hy0 hx1 hy1 hx2 hy2 hj hk p1 p2 p3 p4 p5 p6 p7 p8 p9 p10 p11 p12
      rw [HT.out] at hno
      have TU := hide (fun W => scross_any (pX ps i) (pY ps i) (pX ps j) (pY ps j) (pX ps k) (pY ps k) W ⟨BX.out.1, BX.out.2.1⟩ ⟨BX.out.2.2.1, BX.out.2.2.2.1⟩ ⟨BX.out.2.2.2.2.1, BX.out.2.2.2.2.2.1⟩ ⟨BX.out.2.2.2.2.2.2.1, BX.out.2.2.2.2.2.2.2.1⟩ ⟨BX.out.2.2.2.2.2.2.2.2.1, BX.out.2.2.2.2.2.2.2.2.2.1⟩ ⟨BX.out.2.2.2.2.2.2.2.2.2.2.1, BX.out.2.2.2.2.2.2.2.2.2.2.2⟩)
      generalize (pX ps j - pX ps i) * (pY ps k - pY ps i) - (pY ps j - pY ps i) * (pX ps k - pX ps i) = V at *
      by_cases hv : V = 0
      · have hdv : (V == 0) = true := by rw [beq_iff_eq]; exact hv
        have HV := hide (hno.out hv)
        clear hv
        go_wp2_with fail
        refine wp_region_ext (by kernel_rfl) (by kernel_rfl) ?_
        repeat (go_big_quiet_step ((first | (go_at_call 58; exact Calls.in_ext (TU.out _)))))
        refine wpQuiet_nil ?_
        rintro _ hnq
        have hzq := ext_sz hnq
        obtain ⟨nq, rfl⟩ := hnq
        (try simp at hzq)
        go_wp2_with fail
        go_ret
        exact ⟨ret_bool (by rw [HV.out]; rfl), ext_mk (hbel.trans (by (repeat' (first | (with_reducible first | exact Below.refl _ _ | assumption | refine below_ext _ ?_ ?_ | refine Below.alloc ?_ ?_ _ | refine Below.drew ?_ | refine below_drewN ?_ _ | refine le_drewN _ ?_ | refine Below.setCell ?_ ?_ _ | exact Nat.le_refl _ | refine le_ext _ ?_ | refine le_alloc _ ?_ | refine le_setCell _ _ ?_ | refine le_drew ?_) | omega | (simp; done) | (simp; omega)))))⟩
      · have hdv : (V == 0) = false := by rw [beq_eq_false_iff_ne]; exact hv
        have HV := hide (show V ≠ 0 from hv)
        clear hv
        go_wp2_with fail
        refine wp_region_ext (by kernel_rfl) (by kernel_rfl) ?_
        repeat (go_big_quiet_step ((first | (go_at_call 58; exact Calls.in_ext (TU.out _)))))
        refine wpQuiet_nil ?_
        rintro _ hnq
        have hzq := ext_sz hnq
        obtain ⟨nq, rfl⟩ := hnq
        (try simp at hzq)
        go_wp2_with fail
        exact ⟨⟨i + 1, by omega, by go_num, hide (fun j hj => by
          by_cases e : j = i
          · subst e; rw [HT.out]; exact HV.out
          · exact HP.out j (by omega)), hbel.trans (by (repeat' (first | (with_reducible first | exact Below.refl _ _ | assumption | refine below_ext _ ?_ ?_ | refine Below.alloc ?_ ?_ _ | refine Below.drew ?_ | refine below_drewN ?_ _ | refine le_drewN _ ?_ | refine Below.setCell ?_ ?_ _ | exact Nat.le_refl _ | refine le_ext _ ?_ | refine le_alloc _ ?_ | refine le_setCell _ _ ?_ | refine le_drew ?_) | omega | (simp; done) | (simp; omega))))⟩, by simp [intOf]; omega⟩
    · have hin' : i = n := by omega
      subst hin'
      have HV := hide (HY.out (fun j hj => HP.out j (by rw [← HN.out]; exact hj)))
      go_wp2
      go_ret
      exact ⟨ret_bool (by rw [HV.out]; rfl), ext_mk hbel⟩
set_option maxHeartbeats 400000 in
theorem validBorder_any (ps : List Pt) (A : Option Addr) (n c : Nat) (w : World) (hn : ps.length = n) (hm : n ≤ 2000000) (hs : PtsAt w w.heap.size A ps) :
    Calls Tryz.prog 44 #[.slice A n c] w fun e w' => e = .returned (.bool (clipB ps)) ∧ ∃ x, w' = ext w x := by
  have HC := hide (isSimple_any ps A n c w hn hm hs)
  by_cases hok : simB ps = true
  · rw [hok] at HC
    obtain ⟨hib, h3, h20, _⟩ := simB_parts hok
    have ST := hide (fun (W : World) (hb : Below w.heap.size w W) => hasStraight_any ps A n c W hn (by omega) (by omega) hib (hs.to hb))
    have HV : Hid (lineFree ps = clipB ps) := hide (by unfold clipB; rw [hok]; rfl)
    clear hok hn hs hib h3 h20
    go_enter Tryz.func44, Tryz.ntmps44
    go_wp2_with fail
    refine HC.out.mono ?_
    rintro e w' ⟨rfl, hw'⟩; have hzy1 := ext_sz hw'; obtain ⟨y1, rfl⟩ := hw'; (try simp at hzy1)
    go_wp2_with fail
    refine (ST.out _ (by (repeat' (first | (with_reducible first | exact Below.refl _ _ | assumption | refine below_ext _ ?_ ?_ | refine Below.alloc ?_ ?_ _ | refine Below.drew ?_ | refine below_drewN ?_ _ | refine le_drewN _ ?_ | refine Below.setCell ?_ ?_ _ | exact Nat.le_refl _ | refine le_ext _ ?_ | refine le_alloc _ ?_ | refine le_setCell _ _ ?_ | refine le_drew ?_) | omega | (simp; done) | (simp; omega))))).mono ?_
    rintro e w' ⟨rfl, hw'⟩; have hzy2 := ext_sz hw'; obtain ⟨y2, rfl⟩ := hw'; (try simp at hzy2)
    go_wp2_with fail
    go_ret
    exact ⟨ret_bool (by rw [← HV.out]), (ext_mk (by (repeat' (first | (with_reducible first | exact Below.refl _ _ | assumption | refine below_ext _ ?_ ?_ | refine Below.alloc ?_ ?_ _ | refine Below.drew ?_ | refine below_drewN ?_ _ | refine le_drewN _ ?_ | refine Below.setCell ?_ ?_ _ | exact Nat.le_refl _ | refine le_ext _ ?_ | refine le_alloc _ ?_ | refine le_setCell _ _ ?_ | refine le_drew ?_) | omega | (simp; done) | (simp; omega)))))⟩
  · have hok := eq_false_of_ne_true hok
    rw [hok] at HC
    have HV := hide (clipB_no hok)
    clear hok hn hs
    go_enter Tryz.func44, Tryz.ntmps44
    go_wp2_with fail
    refine HC.out.mono ?_
    rintro e w' ⟨rfl, hw'⟩; have hzy1 := ext_sz hw'; obtain ⟨y1, rfl⟩ := hw'; (try simp at hzy1)
    go_wp2_with fail
    go_ret
    exact ⟨ret_bool HV.out.symm, (ext_mk (by (repeat' (first | (with_reducible first | exact Below.refl _ _ | assumption | refine below_ext _ ?_ ?_ | refine Below.alloc ?_ ?_ _ | refine Below.drew ?_ | refine below_drewN ?_ _ | refine le_drewN _ ?_ | refine Below.setCell ?_ ?_ _ | exact Nat.le_refl _ | refine le_ext _ ?_ | refine le_alloc _ ?_ | refine le_setCell _ _ ?_ | refine le_drew ?_) | omega | (simp; done) | (simp; omega)))))⟩
end Go.Proofs.YtkkmioffclpmfaaGreat
