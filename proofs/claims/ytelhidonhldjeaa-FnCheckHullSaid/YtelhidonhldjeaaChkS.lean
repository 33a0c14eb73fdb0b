
/- The reference's has, inRange, isConvexRing, checkShape. -/
import Derived.Test.YtelhidonhldjeaaChkN
import Derived.Test.YtelhidonhldjeaaSHull
set_option linter.unusedVariables false
set_option linter.unusedSimpArgs false
namespace Go.Proofs.Ytelhidonhldjeaa
open Go.RowKit

set_option maxHeartbeats 1000000 in
theorem shas_any (ps : List Pt) (x y : Int) (A : Option Addr) (n c : Nat) (w : World) (hn : ps.length = n) (hm : n ≤ 2000000) (hs : PtsAt w w.heap.size A ps) :
    Calls Try.prog 85 #[.slice A n c, .agg #[.int .i64 x, .int .i64 y]] w fun e w' => e = .returned (.bool (decide ((⟨x, y⟩ : Pt) ∈ ps))) ∧ ∃ m, w' = ext w m := by
  have HP := hide hs
  have HN := hide hn
  have YES : Hid (∀ k, k < n → eqP (pX ps k) (pY ps k) x y = true → decide ((⟨x, y⟩ : Pt) ∈ ps) = true) := hide (fun k hk he => by
    obtain ⟨e1, e2⟩ := eqP_iff.1 he
    refine decide_eq_true ?_
    have : (⟨x, y⟩ : Pt) = gp ps k := by rw [← e1, ← e2]; rfl
    rw [this]; exact gp_mem (by omega))
  have NO : Hid ((∀ k, k < n → eqP (pX ps k) (pY ps k) x y = false) → decide ((⟨x, y⟩ : Pt) ∈ ps) = false) := hide (fun h => decide_eq_false fun hm => by
    obtain ⟨i, hi, e⟩ := gp_of_mem hm
    have := h i (by omega)
    rw [eqP_iff.2 ⟨by unfold pX; rw [e], by unfold pY; rw [e]⟩] at this
    cases this)
  obtain ⟨W0, hW0⟩ : ∃ W0, W0 = w.alloc (.cells #[.int .i64 x, .int .i64 y] 39) := ⟨_, rfl⟩
  have bx0 : W0.cell? ⟨w.heap.size, 0, none⟩ = some (.int .i64 x) := by rw [hW0]; exact (heap_cell (heap_alloc_new _ _) 0).trans rfl
  have bx1 : W0.cell? ⟨w.heap.size, 1, none⟩ = some (.int .i64 y) := by rw [hW0]; exact (heap_cell (heap_alloc_new _ _) 1).trans rfl
  have B0 : Below w.heap.size w W0 := by rw [hW0]; exact (show Below w.heap.size w (w.alloc (.cells #[.int .i64 x, .int .i64 y] 39)) from (by (repeat' (first | (with_reducible exact Below.refl _ _) | (with_reducible assumption) | (with_reducible refine below_ext _ ?_ ?_) | (with_reducible refine Below.alloc ?_ ?_ _) | (with_reducible refine Below.drew ?_) | (with_reducible refine below_drewN ?_ _) | (with_reducible refine le_drewN _ ?_) | (with_reducible refine Below.setCell ?_ ?_ _) | (with_reducible exact Nat.le_refl _) | (with_reducible refine le_ext _ ?_) | (with_reducible refine le_alloc _ ?_) | (with_reducible refine le_setCell _ _ ?_) | (with_reducible refine le_drew ?_) | omega | (simp; done) | (simp; omega)))))
  have lt0 : w.heap.size < W0.heap.size := World.block_lt_of_cell? W0 _ bx0
  have B0h := hide B0
  have HW := hide hW0
  clear hW0 B0 hn hs
  go_enter Try.func85, Try.ntmps85
  go_wp2_with fail
  rw [← HW.out]
  clear HW
  go_loopw [5] (fun v8 wr => ∃ k : Nat, k ≤ n ∧ v8 = .int .i64 k ∧ Hid (∀ j, j < k → eqP (pX ps j) (pY ps j) x y = false) ∧ ∃ u, wr = ext W0 u) (fun v8 _ => n - (intOf v8).toNat)
  case atStart => exact ⟨0, Nat.zero_le _, rfl, hide (fun j hj => by omega), ext_same W0⟩
  case round =>
    obtain ⟨k, hk, rfl, hp, x1, rfl⟩ := hrel
    have hz1 := ext_size W0 x1
    by_cases hlt : k < n
    · obtain ⟨b, o, rfl, hb, hc⟩ := HP.out (by rw [HN.out]; omega)
      obtain ⟨p1, p2⟩ := hc k (by rw [HN.out]; omega)
      have g1 := (B0h.out.cell (p := ⟨b, o + k * 2, none⟩) hb).trans p1
      have g2 := (B0h.out.cell (p := ⟨b, o + k * 2 + 1, none⟩) hb).trans p2
      have lb : b < W0.heap.size := by omega
      have q1 : (0 : Int) ≤ (k : Int) := by omega
      have q2 : (k : Int) < (n : Int) := by omega
      have RUN := run_eqPt (pX ps k) (pY ps k) x y
      clear hc p1 p2
      by_cases he : eqP (pX ps k) (pY ps k) x y = true
      · have HY := hide (YES.out k hlt he)
        rw [he] at RUN
        clear he YES NO
        go_wp2_with fail
        refine wp_region_ext (by kernel_rfl) (by kernel_rfl) ?_
        repeat (go_big_quiet_step (fail))
        refine wpQuiet_nil ?_
        rintro _ hnq
        have hzq := ext_sz hnq
        obtain ⟨nq, rfl⟩ := hnq
        (try simp at hzq)
        go_wp2_with fail
        go_ret
        exact ⟨ret_bool HY.out.symm, ext_mk (B0h.out.trans (by (repeat' (first | (with_reducible exact Below.refl _ _) | (with_reducible assumption) | (with_reducible refine below_ext _ ?_ ?_) | (with_reducible refine Below.alloc ?_ ?_ _) | (with_reducible refine Below.drew ?_) | (with_reducible refine below_drewN ?_ _) | (with_reducible refine le_drewN _ ?_) | (with_reducible refine Below.setCell ?_ ?_ _) | (with_reducible exact Nat.le_refl _) | (with_reducible refine le_ext _ ?_) | (with_reducible refine le_alloc _ ?_) | (with_reducible refine le_setCell _ _ ?_) | (with_reducible refine le_drew ?_) | omega | (simp; done) | (simp; omega)))))⟩
      · have he := eq_false_of_ne_true he
        have HE := hide he
        rw [he] at RUN
        clear he
        go_wp2_with fail
        refine wp_region_ext (by kernel_rfl) (by kernel_rfl) ?_
        repeat (go_big_quiet_step (fail))
        refine wpQuiet_nil ?_
        rintro _ hnq
        have hzq := ext_sz hnq
        obtain ⟨nq, rfl⟩ := hnq
        (try simp at hzq)
        go_wp2_with fail
        exact ⟨⟨k + 1, by omega, by go_num, hide (fun j hj => by
          by_cases e : j = k
          · rw [e]; exact HE.out
          · exact hp.out j (by omega)), (ext_mk (by (repeat' (first | (with_reducible exact Below.refl _ _) | (with_reducible assumption) | (with_reducible refine below_ext _ ?_ ?_) | (with_reducible refine Below.alloc ?_ ?_ _) | (with_reducible refine Below.drew ?_) | (with_reducible refine below_drewN ?_ _) | (with_reducible refine le_drewN _ ?_) | (with_reducible refine Below.setCell ?_ ?_ _) | (with_reducible exact Nat.le_refl _) | (with_reducible refine le_ext _ ?_) | (with_reducible refine le_alloc _ ?_) | (with_reducible refine le_setCell _ _ ?_) | (with_reducible refine le_drew ?_) | omega | (simp; done) | (simp; omega)))))⟩, by simp [intOf]; omega⟩
    · have ek : k = n := by omega
      have HY := hide (NO.out (fun j hj => hp.out j (by omega)))
      clear ek
      go_wp2_with fail
      go_ret
      exact ⟨ret_bool HY.out.symm, ext_mk (B0h.out.trans (by (repeat' (first | (with_reducible exact Below.refl _ _) | (with_reducible assumption) | (with_reducible refine below_ext _ ?_ ?_) | (with_reducible refine Below.alloc ?_ ?_ _) | (with_reducible refine Below.drew ?_) | (with_reducible refine below_drewN ?_ _) | (with_reducible refine le_drewN _ ?_) | (with_reducible refine Below.setCell ?_ ?_ _) | (with_reducible exact Nat.le_refl _) | (with_reducible refine le_ext _ ?_) | (with_reducible refine le_alloc _ ?_) | (with_reducible refine le_setCell _ _ ?_) | (with_reducible refine le_drew ?_) | omega | (simp; done) | (simp; omega)))))⟩
theorem ringS_no {hs : List Pt} {i k : Nat} (hi : i < hs.length) (hk : k < hs.length) (h : ringC hs i k = false) : ringS hs = false := by
  rw [← Bool.not_eq_true]
  unfold ringS
  simp only [List.all_eq_true, List.mem_range]
  intro hh
  rw [hh i hi k hk] at h; cases h
theorem ringS_yes {hs : List Pt} (h : ∀ i, i < hs.length → ∀ k, k < hs.length → ringC hs i k = true) : ringS hs = true := by
  unfold ringS
  simp only [List.all_eq_true, List.mem_range]
  exact h
theorem box22 (w : World) (a b c d : Value) (T S : TypeId) : ((w.alloc (.cells #[a, b] T)).alloc (.cells #[c, d] S)).cell? ⟨w.heap.size, 0, none⟩ = some a ∧ ((w.alloc (.cells #[a, b] T)).alloc (.cells #[c, d] S)).cell? ⟨w.heap.size, 1, none⟩ = some b ∧ ((w.alloc (.cells #[a, b] T)).alloc (.cells #[c, d] S)).cell? ⟨w.heap.size + 1, 0, none⟩ = some c ∧ ((w.alloc (.cells #[a, b] T)).alloc (.cells #[c, d] S)).cell? ⟨w.heap.size + 1, 1, none⟩ = some d ∧ w.heap.size + 2 ≤ ((w.alloc (.cells #[a, b] T)).alloc (.cells #[c, d] S)).heap.size ∧ Below w.heap.size w ((w.alloc (.cells #[a, b] T)).alloc (.cells #[c, d] S)) := by
  have h1 : (w.alloc (.cells #[a, b] T)).heap.size = w.heap.size + 1 := by simp
  have hb := Below.heap_alloc (w.alloc (.cells #[a, b] T)) (.cells #[c, d] S) w.heap.size (by rw [h1]; omega)
  have t0 := heap_cell (heap_alloc_new (w.alloc (.cells #[a, b] T)) (.cells #[c, d] S)) 0
  have t1 := heap_cell (heap_alloc_new (w.alloc (.cells #[a, b] T)) (.cells #[c, d] S)) 1
  rw [h1] at t0 t1
  refine ⟨(World.cell?_of_block (a := ⟨w.heap.size, 0, none⟩) hb).trans ((heap_cell (heap_alloc_new w (.cells #[a, b] T)) 0).trans rfl), (World.cell?_of_block (a := ⟨w.heap.size, 1, none⟩) hb).trans ((heap_cell (heap_alloc_new w (.cells #[a, b] T)) 1).trans rfl), t0.trans rfl, t1.trans rfl, by simp, (by (repeat' (first | (with_reducible exact Below.refl _ _) | (with_reducible assumption) | (with_reducible refine below_ext _ ?_ ?_) | (with_reducible refine Below.alloc ?_ ?_ _) | (with_reducible refine Below.drew ?_) | (with_reducible refine below_drewN ?_ _) | (with_reducible refine le_drewN _ ?_) | (with_reducible refine Below.setCell ?_ ?_ _) | (with_reducible exact Nat.le_refl _) | (with_reducible refine le_ext _ ?_) | (with_reducible refine le_alloc _ ?_) | (with_reducible refine le_setCell _ _ ?_) | (with_reducible refine le_drew ?_) | omega | (simp; done) | (simp; omega))))⟩
set_option maxRecDepth 20000 in
set_option maxHeartbeats 4000000 in
theorem sring_any (hs : List Pt) (A : Option Addr) (n c : Nat) (w : World) (hn : hs.length = n) (hm : n ≤ 1000) (hb : ∀ p ∈ hs, (-100000 ≤ p.x ∧ p.x ≤ 100000) ∧ -100000 ≤ p.y ∧ p.y ≤ 100000) (hp : PtsAt w w.heap.size A hs) :
    Calls Try.prog 131 #[.slice A n c] w fun e w' => e = .returned (.bool (ringS hs)) ∧ ∃ m, w' = ext w m := by
  have HN := hide hn
  have HP := hide hp
  have CR := hide (fun (i j k : Nat) (W : World) (hi : i < n) (hj : j < n) (hk : k < n) => by
    have h1 := hb _ (gp_mem (show i < hs.length by omega))
    have h2 := hb _ (gp_mem (show j < hs.length by omega))
    have h3 := hb _ (gp_mem (show k < hs.length by omega))
    exact scross_any (gp hs i).x (gp hs i).y (gp hs j).x (gp hs j).y (gp hs k).x (gp hs k).y W h1.1 h1.2 h2.1 h2.2 h3.1 h3.2)
  have RNO := hide (fun i k => ringS_no (hs := hs) (i := i) (k := k))
  have RYES := hide (ringS_yes (hs := hs))
  have RC : Hid (∀ i k, ringC hs i k = !((decide (gp hs k ≠ gp hs i) && (decide (gp hs k ≠ gp hs ((i + 1) % n)) && decide (trn (gp hs i) (gp hs ((i + 1) % n)) (gp hs k) ≤ 0))) || (decide (k ≠ i) && decide (gp hs k = gp hs i)))) := hide (fun i k => by unfold ringC; rw [hn])
  rw [hn] at RNO RYES
  clear hn hp hb
  go_enter Try.func131, Try.ntmps131
  go_wp2_with fail
  go_loopw [3, 4, 5, 6] (fun u3 _ _ _ wr => ∃ i : Nat, i ≤ n ∧ u3 = .int .i64 i ∧ Hid (∀ a k, a < i → k < n → ringC hs a k = true) ∧ ∃ u, wr = ext w u) (fun u3 _ _ _ _ => n - (intOf u3).toNat)
  case atStart => exact ⟨0, Nat.zero_le _, rfl, hide (fun a k h => by omega), ext_same w⟩
  case round =>
    obtain ⟨i, hi, rfl, H1, x1, rfl⟩ := hrel
    have hz1 := ext_size w x1
    have B1 := hide (ext_below w x1)
    generalize ext w x1 = W1 at *
    by_cases hli : i < n
    · obtain ⟨b, o, rfl, hbl, hc⟩ := HP.out (by rw [HN.out]; omega)
      obtain ⟨j, hj⟩ : ∃ j, j = (i + 1) % n := ⟨_, rfl⟩
      have lj : j < n := by rw [hj]; exact Nat.mod_lt _ (by omega)
      have e2 : Int.tmod ((i : Int) + 1) (n : Int) = (j : Int) := by rw [hj]; exact (Int.ofNat_tmod (i + 1) n).symm
      have e3 : ((i : Int) + 1) % (n : Int) = (j : Int) := by rw [hj]; exact (Int.natCast_emod (i + 1) n).symm
      have v1 : IntKind.i64.wrap ((i : Int) + 1) = (i : Int) + 1 := IntWalk.i64_in _ (by omega)
      have v2 : IntKind.i64.wrap (j : Int) = (j : Int) := IntWalk.i64_in _ (by omega)
      obtain ⟨p1, p2⟩ := hc i (by rw [HN.out]; omega)
      obtain ⟨p3, p4⟩ := hc j (by rw [HN.out]; omega)
      have g1 := (B1.out.cell (p := ⟨b, o + i * 2, none⟩) hbl).trans p1
      have g2 := (B1.out.cell (p := ⟨b, o + i * 2 + 1, none⟩) hbl).trans p2
      have g3 := (B1.out.cell (p := ⟨b, o + j * 2, none⟩) hbl).trans p3
      have g4 := (B1.out.cell (p := ⟨b, o + j * 2 + 1, none⟩) hbl).trans p4
      have lb : b < W1.heap.size := by omega
      have HC : Hid (∀ k, k < n → w.cell? ⟨b, o + k * 2, none⟩ = some (.int .i64 (gp hs k).x) ∧ w.cell? ⟨b, o + k * 2 + 1, none⟩ = some (.int .i64 (gp hs k).y)) := hide (fun k hk => hc k (by rw [HN.out]; omega))
      have RCi : Hid (∀ k, ringC hs i k = !((decide (gp hs k ≠ gp hs i) && (decide (gp hs k ≠ gp hs j) && decide (trn (gp hs i) (gp hs j) (gp hs k) ≤ 0))) || (decide (k ≠ i) && decide (gp hs k = gp hs i)))) := hide (fun k => by rw [RC.out, hj])
      have CRi := hide (fun (k : Nat) (W : World) (hk : k < n) => CR.out i j k W hli lj hk)
      have EQD : Hid (∀ k u v, eqP (gp hs k).x (gp hs k).y u v = decide (gp hs k = ⟨u, v⟩)) := hide (fun k u v => by first | exact eqP_dec _ _ _ _ | exact (eqP_dec _ _ _ _).symm)
      change W1.cell? ⟨b, o + i * 2, none⟩ = some (.int .i64 (gp hs i).x) at g1
      change W1.cell? ⟨b, o + i * 2 + 1, none⟩ = some (.int .i64 (gp hs i).y) at g2
      change W1.cell? ⟨b, o + j * 2, none⟩ = some (.int .i64 (gp hs j).x) at g3
      change W1.cell? ⟨b, o + j * 2 + 1, none⟩ = some (.int .i64 (gp hs j).y) at g4
      have q1 : (0 : Int) ≤ (i : Int) := by omega
      have q2 : (i : Int) < (n : Int) := by omega
      have q3 : (0 : Int) ≤ (j : Int) := by omega
      have q4 : (j : Int) < (n : Int) := by omega
      have q5 : ¬ n = 0 := by omega
      have GI : Hid (gp hs i = ⟨(gp hs i).x, (gp hs i).y⟩ ∧ gp hs j = ⟨(gp hs j).x, (gp hs j).y⟩) := hide ⟨rfl, rfl⟩
      have TN : Hid (∀ k, trn (gp hs i) (gp hs j) (gp hs k) = ((gp hs j).x - (gp hs i).x) * ((gp hs k).y - (gp hs i).y) - ((gp hs j).y - (gp hs i).y) * ((gp hs k).x - (gp hs i).x)) := hide (fun k => rfl)
      clear hc p1 p2 p3 p4 hj
      go_wp2_with fail
      obtain ⟨bx1, bx2, bx3, bx4, bz, BX⟩ := box22 W1 (.int .i64 (gp hs i).x) (.int .i64 (gp hs i).y) (.int .i64 (gp hs j).x) (.int .i64 (gp hs j).y) 39 39
      have s1 := B1.out.size
      have B12 := hide (B1.out.trans (BX.mono s1))
      generalize (W1.alloc (.cells #[.int .i64 (gp hs i).x, .int .i64 (gp hs i).y] 39)).alloc (.cells #[.int .i64 (gp hs j).x, .int .i64 (gp hs j).y] 39) = W2 at *
      have z1 : W1.heap.size < W2.heap.size := by omega
      have z2 : W1.heap.size + 1 < W2.heap.size := by omega
      have lb2 : b < W2.heap.size := by omega
      clear g1 g2 g3 g4 BX bz
      go_loopw [6] (fun u6 wr => ∃ k : Nat, k ≤ n ∧ u6 = .int .i64 k ∧ Hid (∀ k', k' < k → ringC hs i k' = true) ∧ ∃ u, wr = ext W2 u) (fun u6 _ => n - (intOf u6).toNat)
      case atStart => exact ⟨0, Nat.zero_le _, rfl, hide (fun k' h => by omega), ext_same W2⟩
      case round =>
        obtain ⟨k, hk, rfl, H2, x2, rfl⟩ := hrel
        have hz2 := ext_size W2 x2
        by_cases hlk : k < n
        · obtain ⟨p5, p6⟩ := HC.out k hlk
          have g5 := (B12.out.cell (p := ⟨b, o + k * 2, none⟩) hbl).trans p5
          have g6 := (B12.out.cell (p := ⟨b, o + k * 2 + 1, none⟩) hbl).trans p6
          have CRk := hide (fun W => CRi.out k W hlk)
          have RCk : Hid (ringC hs i k = !((!eqP (gp hs k).x (gp hs k).y (gp hs i).x (gp hs i).y && (!eqP (gp hs k).x (gp hs k).y (gp hs j).x (gp hs j).y && decide (((gp hs j).x - (gp hs i).x) * ((gp hs k).y - (gp hs i).y) - ((gp hs j).y - (gp hs i).y) * ((gp hs k).x - (gp hs i).x) ≤ 0))) || (decide (k ≠ i) && eqP (gp hs k).x (gp hs k).y (gp hs i).x (gp hs i).y))) := hide (by
            rw [RCi.out, EQD.out, EQD.out, ← TN.out]; simp only [ne_eq, decide_not] <;> first | done | rfl)
          have q7 : (0 : Int) ≤ (k : Int) := by omega
          have q8 : (k : Int) < (n : Int) := by omega
          have N1 := run_nePt (gp hs k).x (gp hs k).y (gp hs i).x (gp hs i).y
          have N2 := run_nePt (gp hs k).x (gp hs k).y (gp hs j).x (gp hs j).y
          have N3 := run_eqPt (gp hs k).x (gp hs k).y (gp hs i).x (gp hs i).y
          clear p5 p6
          generalize ((gp hs j).x - (gp hs i).x) * ((gp hs k).y - (gp hs i).y) - ((gp hs j).y - (gp hs i).y) * ((gp hs k).x - (gp hs i).x) = T0 at *
          generalize eqP (gp hs k).x (gp hs k).y (gp hs i).x (gp hs i).y = E1 at *
          generalize eqP (gp hs k).x (gp hs k).y (gp hs j).x (gp hs j).y = E2 at *
          generalize (gp hs i).x = X1 at *
          generalize (gp hs i).y = Y1 at *
          generalize (gp hs j).x = X2 at *
          generalize (gp hs j).y = Y2 at *
          generalize (gp hs k).x = X3 at *
          generalize (gp hs k).y = Y3 at *
          by_cases hki : k = i
          · have dk : decide (k ≠ i) = false := decide_eq_false (fun h => h hki)
            have di : ((k : Int) != (i : Int)) = false := by rw [bne_eq_false_iff_eq, hki]
            clear hki
            cases E1
            · cases E2
              · by_cases ht : T0 ≤ 0
                · have dt : decide (T0 ≤ 0) = true := decide_eq_true ht
                  clear ht
                  have RF : Hid (ringS hs = false) := hide (RNO.out i k hli hlk (by rw [RCk.out]; simp [dk, dt]))
                  clear RCk RNO RYES RCi CRi EQD GI TN HC H1 CR RC
                  go_wp2_with fail
                  refine wp_region_ext (by kernel_rfl) (by kernel_rfl) ?_
                  repeat (go_big_quiet_step ((first | (go_at_call 89; exact Calls.in_ext (CRk.out _)))))
                  refine wpQuiet_nil ?_
                  rintro _ hnq
                  have hzq := ext_sz hnq
                  obtain ⟨nq, rfl⟩ := hnq
                  (try simp at hzq)
                  go_wp2_with fail
                  go_ret
                  exact ⟨ret_bool RF.out.symm, ext_mk (B12.out.trans (by (repeat' (first | (with_reducible exact Below.refl _ _) | (with_reducible assumption) | (with_reducible refine below_ext _ ?_ ?_) | (with_reducible refine Below.alloc ?_ ?_ _) | (with_reducible refine Below.drew ?_) | (with_reducible refine below_drewN ?_ _) | (with_reducible refine le_drewN _ ?_) | (with_reducible refine Below.setCell ?_ ?_ _) | (with_reducible exact Nat.le_refl _) | (with_reducible refine le_ext _ ?_) | (with_reducible refine le_alloc _ ?_) | (with_reducible refine le_setCell _ _ ?_) | (with_reducible refine le_drew ?_) | omega | (simp; done) | (simp; omega)))))⟩
                · have dt : decide (T0 ≤ 0) = false := decide_eq_false ht
                  clear ht
                  have RT : Hid (ringC hs i k = true) := hide (by rw [RCk.out]; simp [dk, dt])
                  clear RCk RNO RYES RCi CRi EQD GI TN HC H1 CR RC
                  go_wp2_with fail
                  refine wp_region_ext (by kernel_rfl) (by kernel_rfl) ?_
                  repeat (go_big_quiet_step ((first | (go_at_call 89; exact Calls.in_ext (CRk.out _)))))
                  refine wpQuiet_nil ?_
                  rintro _ hnq
                  have hzq := ext_sz hnq
                  obtain ⟨nq, rfl⟩ := hnq
                  (try simp at hzq)
                  go_wp2_with fail
                  exact ⟨⟨k + 1, by omega, by go_num, hide (fun k' h' => by
                    by_cases e : k' = k
                    · rw [e]; exact RT.out
                    · exact H2.out k' (by omega)), (ext_mk (by (repeat' (first | (with_reducible exact Below.refl _ _) | (with_reducible assumption) | (with_reducible refine below_ext _ ?_ ?_) | (with_reducible refine Below.alloc ?_ ?_ _) | (with_reducible refine Below.drew ?_) | (with_reducible refine below_drewN ?_ _) | (with_reducible refine le_drewN _ ?_) | (with_reducible refine Below.setCell ?_ ?_ _) | (with_reducible exact Nat.le_refl _) | (with_reducible refine le_ext _ ?_) | (with_reducible refine le_alloc _ ?_) | (with_reducible refine le_setCell _ _ ?_) | (with_reducible refine le_drew ?_) | omega | (simp; done) | (simp; omega)))))⟩, by simp [intOf]; omega⟩
              · skip
                have RT : Hid (ringC hs i k = true) := hide (by rw [RCk.out]; simp [dk])
                clear RCk RNO RYES RCi CRi EQD GI TN HC H1 CR RC
                go_wp2_with fail
                refine wp_region_ext (by kernel_rfl) (by kernel_rfl) ?_
                repeat (go_big_quiet_step ((first | (go_at_call 89; exact Calls.in_ext (CRk.out _)))))
                refine wpQuiet_nil ?_
                rintro _ hnq
                have hzq := ext_sz hnq
                obtain ⟨nq, rfl⟩ := hnq
                (try simp at hzq)
                go_wp2_with fail
                exact ⟨⟨k + 1, by omega, by go_num, hide (fun k' h' => by
                  by_cases e : k' = k
                  · rw [e]; exact RT.out
                  · exact H2.out k' (by omega)), (ext_mk (by (repeat' (first | (with_reducible exact Below.refl _ _) | (with_reducible assumption) | (with_reducible refine below_ext _ ?_ ?_) | (with_reducible refine Below.alloc ?_ ?_ _) | (with_reducible refine Below.drew ?_) | (with_reducible refine below_drewN ?_ _) | (with_reducible refine le_drewN _ ?_) | (with_reducible refine Below.setCell ?_ ?_ _) | (with_reducible exact Nat.le_refl _) | (with_reducible refine le_ext _ ?_) | (with_reducible refine le_alloc _ ?_) | (with_reducible refine le_setCell _ _ ?_) | (with_reducible refine le_drew ?_) | omega | (simp; done) | (simp; omega)))))⟩, by simp [intOf]; omega⟩
            · skip
              have RT : Hid (ringC hs i k = true) := hide (by rw [RCk.out]; simp [dk])
              clear RCk RNO RYES RCi CRi EQD GI TN HC H1 CR RC
              go_wp2_with fail
              refine wp_region_ext (by kernel_rfl) (by kernel_rfl) ?_
              repeat (go_big_quiet_step ((first | (go_at_call 89; exact Calls.in_ext (CRk.out _)))))
              refine wpQuiet_nil ?_
              rintro _ hnq
              have hzq := ext_sz hnq
              obtain ⟨nq, rfl⟩ := hnq
              (try simp at hzq)
              go_wp2_with fail
              exact ⟨⟨k + 1, by omega, by go_num, hide (fun k' h' => by
                by_cases e : k' = k
                · rw [e]; exact RT.out
                · exact H2.out k' (by omega)), (ext_mk (by (repeat' (first | (with_reducible exact Below.refl _ _) | (with_reducible assumption) | (with_reducible refine below_ext _ ?_ ?_) | (with_reducible refine Below.alloc ?_ ?_ _) | (with_reducible refine Below.drew ?_) | (with_reducible refine below_drewN ?_ _) | (with_reducible refine le_drewN _ ?_) | (with_reducible refine Below.setCell ?_ ?_ _) | (with_reducible exact Nat.le_refl _) | (with_reducible refine le_ext _ ?_) | (with_reducible refine le_alloc _ ?_) | (with_reducible refine le_setCell _ _ ?_) | (with_reducible refine le_drew ?_) | omega | (simp; done) | (simp; omega)))))⟩, by simp [intOf]; omega⟩
          · have dk : decide (k ≠ i) = true := decide_eq_true hki
            have di : ((k : Int) != (i : Int)) = true := by rw [bne_iff_ne]; omega
            clear hki
            cases E1
            · cases E2
              · by_cases ht : T0 ≤ 0
                · have dt : decide (T0 ≤ 0) = true := decide_eq_true ht
                  clear ht
                  have RF : Hid (ringS hs = false) := hide (RNO.out i k hli hlk (by rw [RCk.out]; simp [dk, dt]))
                  clear RCk RNO RYES RCi CRi EQD GI TN HC H1 CR RC
                  go_wp2_with fail
                  refine wp_region_ext (by kernel_rfl) (by kernel_rfl) ?_
                  repeat (go_big_quiet_step ((first | (go_at_call 89; exact Calls.in_ext (CRk.out _)))))
                  refine wpQuiet_nil ?_
                  rintro _ hnq
                  have hzq := ext_sz hnq
                  obtain ⟨nq, rfl⟩ := hnq
                  (try simp at hzq)
                  go_wp2_with fail
                  go_ret
                  exact ⟨ret_bool RF.out.symm, ext_mk (B12.out.trans (by (repeat' (first | (with_reducible exact Below.refl _ _) | (with_reducible assumption) | (with_reducible refine below_ext _ ?_ ?_) | (with_reducible refine Below.alloc ?_ ?_ _) | (with_reducible refine Below.drew ?_) | (with_reducible refine below_drewN ?_ _) | (with_reducible refine le_drewN _ ?_) | (with_reducible refine Below.setCell ?_ ?_ _) | (with_reducible exact Nat.le_refl _) | (with_reducible refine le_ext _ ?_) | (with_reducible refine le_alloc _ ?_) | (with_reducible refine le_setCell _ _ ?_) | (with_reducible refine le_drew ?_) | omega | (simp; done) | (simp; omega)))))⟩
                · have dt : decide (T0 ≤ 0) = false := decide_eq_false ht
                  clear ht
                  have RT : Hid (ringC hs i k = true) := hide (by rw [RCk.out]; simp [dk, dt])
                  clear RCk RNO RYES RCi CRi EQD GI TN HC H1 CR RC
                  go_wp2_with fail
                  refine wp_region_ext (by kernel_rfl) (by kernel_rfl) ?_
                  repeat (go_big_quiet_step ((first | (go_at_call 89; exact Calls.in_ext (CRk.out _)))))
                  refine wpQuiet_nil ?_
                  rintro _ hnq
                  have hzq := ext_sz hnq
                  obtain ⟨nq, rfl⟩ := hnq
                  (try simp at hzq)
                  go_wp2_with fail
                  exact ⟨⟨k + 1, by omega, by go_num, hide (fun k' h' => by
                    by_cases e : k' = k
                    · rw [e]; exact RT.out
                    · exact H2.out k' (by omega)), (ext_mk (by (repeat' (first | (with_reducible exact Below.refl _ _) | (with_reducible assumption) | (with_reducible refine below_ext _ ?_ ?_) | (with_reducible refine Below.alloc ?_ ?_ _) | (with_reducible refine Below.drew ?_) | (with_reducible refine below_drewN ?_ _) | (with_reducible refine le_drewN _ ?_) | (with_reducible refine Below.setCell ?_ ?_ _) | (with_reducible exact Nat.le_refl _) | (with_reducible refine le_ext _ ?_) | (with_reducible refine le_alloc _ ?_) | (with_reducible refine le_setCell _ _ ?_) | (with_reducible refine le_drew ?_) | omega | (simp; done) | (simp; omega)))))⟩, by simp [intOf]; omega⟩
              · skip
                have RT : Hid (ringC hs i k = true) := hide (by rw [RCk.out]; simp [dk])
                clear RCk RNO RYES RCi CRi EQD GI TN HC H1 CR RC
                go_wp2_with fail
                refine wp_region_ext (by kernel_rfl) (by kernel_rfl) ?_
                repeat (go_big_quiet_step ((first | (go_at_call 89; exact Calls.in_ext (CRk.out _)))))
                refine wpQuiet_nil ?_
                rintro _ hnq
                have hzq := ext_sz hnq
                obtain ⟨nq, rfl⟩ := hnq
                (try simp at hzq)
                go_wp2_with fail
                exact ⟨⟨k + 1, by omega, by go_num, hide (fun k' h' => by
                  by_cases e : k' = k
                  · rw [e]; exact RT.out
                  · exact H2.out k' (by omega)), (ext_mk (by (repeat' (first | (with_reducible exact Below.refl _ _) | (with_reducible assumption) | (with_reducible refine below_ext _ ?_ ?_) | (with_reducible refine Below.alloc ?_ ?_ _) | (with_reducible refine Below.drew ?_) | (with_reducible refine below_drewN ?_ _) | (with_reducible refine le_drewN _ ?_) | (with_reducible refine Below.setCell ?_ ?_ _) | (with_reducible exact Nat.le_refl _) | (with_reducible refine le_ext _ ?_) | (with_reducible refine le_alloc _ ?_) | (with_reducible refine le_setCell _ _ ?_) | (with_reducible refine le_drew ?_) | omega | (simp; done) | (simp; omega)))))⟩, by simp [intOf]; omega⟩
            · skip
              have RF : Hid (ringS hs = false) := hide (RNO.out i k hli hlk (by rw [RCk.out]; simp [dk]))
              clear RCk RNO RYES RCi CRi EQD GI TN HC H1 CR RC
              go_wp2_with fail
              refine wp_region_ext (by kernel_rfl) (by kernel_rfl) ?_
              repeat (go_big_quiet_step ((first | (go_at_call 89; exact Calls.in_ext (CRk.out _)))))
              refine wpQuiet_nil ?_
              rintro _ hnq
              have hzq := ext_sz hnq
              obtain ⟨nq, rfl⟩ := hnq
              (try simp at hzq)
              go_wp2_with fail
              go_ret
              exact ⟨ret_bool RF.out.symm, ext_mk (B12.out.trans (by (repeat' (first | (with_reducible exact Below.refl _ _) | (with_reducible assumption) | (with_reducible refine below_ext _ ?_ ?_) | (with_reducible refine Below.alloc ?_ ?_ _) | (with_reducible refine Below.drew ?_) | (with_reducible refine below_drewN ?_ _) | (with_reducible refine le_drewN _ ?_) | (with_reducible refine Below.setCell ?_ ?_ _) | (with_reducible exact Nat.le_refl _) | (with_reducible refine le_ext _ ?_) | (with_reducible refine le_alloc _ ?_) | (with_reducible refine le_setCell _ _ ?_) | (with_reducible refine le_drew ?_) | omega | (simp; done) | (simp; omega)))))⟩
        · have ek : k = n := by omega
          have H2n : Hid (∀ k', k' < n → ringC hs i k' = true) := hide (fun k' h => H2.out k' (by omega))
          clear ek H2
          go_wp2_with fail
          exact ⟨⟨i + 1, by omega, by go_num, hide (fun a k' ha hk' => by
            by_cases e : a = i
            · rw [e]; exact H2n.out k' hk'
            · exact H1.out a k' (by omega) hk'), ext_mk (B12.out.trans (by (repeat' (first | (with_reducible exact Below.refl _ _) | (with_reducible assumption) | (with_reducible refine below_ext _ ?_ ?_) | (with_reducible refine Below.alloc ?_ ?_ _) | (with_reducible refine Below.drew ?_) | (with_reducible refine below_drewN ?_ _) | (with_reducible refine le_drewN _ ?_) | (with_reducible refine Below.setCell ?_ ?_ _) | (with_reducible exact Nat.le_refl _) | (with_reducible refine le_ext _ ?_) | (with_reducible refine le_alloc _ ?_) | (with_reducible refine le_setCell _ _ ?_) | (with_reducible refine le_drew ?_) | omega | (simp; done) | (simp; omega)))))⟩, by simp [intOf]; omega⟩
    · have ei : i = n := by omega
      have HY := hide (RYES.out (fun a ha k hk => H1.out a k (by omega) hk))
      clear H1 ei
      go_wp2_with fail
      go_ret
      exact ⟨ret_bool HY.out.symm, ext_mk B1.out⟩
end Go.Proofs.Ytelhidonhldjeaa
