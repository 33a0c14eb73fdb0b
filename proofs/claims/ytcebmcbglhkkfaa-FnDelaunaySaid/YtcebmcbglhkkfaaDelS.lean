
/- The reference's flip. -/
import Derived.Test.YtcebmcbglhkkfaaDelW
set_option linter.unusedVariables false
set_option linter.unusedSimpArgs false
namespace Go.Proofs.Ytcebmcbglhkkfaa
open Go.RowKit

theorem box_set3 {w : World} {g : Nat} {x y z : Value} {T : TypeId} (h : w.heap[g]? = some (.cells #[x, y, z] T (0, 0))) (a b c : Value) : (((w.setCell ⟨g, 0, none⟩ a).setCell ⟨g, 1, none⟩ b).setCell ⟨g, 2, none⟩ c).heap[g]? = some (.cells #[a, b, c] T (0, 0)) := by
  simp [World.setCell, Array.getElem?_modify, h]
theorem rot_next (t : Tri3) (j : Nat) : rotT t (j + 1) = ⟨(rotT t j).b, (rotT t j).c, (rotT t j).a⟩ := by
  unfold rotT
  simp only
  rw [show j + 1 + 2 = j + 3 by omega, cor_per]
set_option maxHeartbeats 2000000 in
theorem rotated_any (t : Tri3) (k : Nat) (w : World) (hk : k ≤ 3) : Calls Try.prog 89 #[.agg #[.int .i64 (t.a : Int), .int .i64 (t.b : Int), .int .i64 (t.c : Int)], .int .i64 k] w fun e w' => e = .returned (.agg #[.int .i64 ((rotT t k).a : Int), .int .i64 ((rotT t k).b : Int), .int .i64 ((rotT t k).c : Int)]) ∧ ∃ x, w' = ext w x := by
  have NX := hide (fun j => rot_next t j)
  have H0 : Hid (∀ W : World, W = (w.alloc (.cells #[.int .i64 (t.a : Int), .int .i64 (t.b : Int), .int .i64 (t.c : Int)] 37)).alloc (.cells #[.int .i64 0, .int .i64 0, .int .i64 0] 37) → W.heap.size = w.heap.size + 2 ∧ Below w.heap.size w W ∧ W.heap[w.heap.size]? = some (.cells #[.int .i64 ((rotT t 0).a : Int), .int .i64 ((rotT t 0).b : Int), .int .i64 ((rotT t 0).c : Int)] 37 (0, 0)) ∧ W.heap[w.heap.size + 1]? = some (.cells #[.int .i64 0, .int .i64 0, .int .i64 0] 37 (0, 0))) := hide (fun W hW => by
    subst hW
    refine ⟨by simp, (by (repeat' (first | (with_reducible first | exact Below.refl _ _ | assumption | refine below_ext _ ?_ ?_ | refine Below.alloc ?_ ?_ _ | refine Below.drew ?_ | refine below_drewN ?_ _ | refine le_drewN _ ?_ | refine Below.setCell ?_ ?_ _ | exact Nat.le_refl _ | refine le_ext _ ?_ | refine le_alloc _ ?_ | refine le_setCell _ _ ?_ | refine le_drew ?_) | omega | (simp; done) | (simp; omega)))), ?_, ?_⟩
    · exact (Below.heap_alloc _ _ _ (by simp)).trans (heap_alloc_new _ _)
    · have := heap_alloc_new (w.alloc (.cells #[.int .i64 (t.a : Int), .int .i64 (t.b : Int), .int .i64 (t.c : Int)] 37)) (.cells #[.int .i64 0, .int .i64 0, .int .i64 0] 37)
      rw [size_alloc] at this
      exact this)
  go_enter Try.func89, Try.ntmps89
  go_wp2_with fail
  obtain ⟨W0, hW0⟩ : ∃ W0, W0 = (w.alloc (.cells #[.int .i64 (t.a : Int), .int .i64 (t.b : Int), .int .i64 (t.c : Int)] 37)).alloc (.cells #[.int .i64 0, .int .i64 0, .int .i64 0] 37) := ⟨_, rfl⟩
  rw [← hW0]
  obtain ⟨z0, B0, c0, c1⟩ := H0.out W0 hW0
  have C0 := hide c0
  have C1 := hide c1
  clear hW0 H0 c0 c1
  go_loopw [5] (fun u5 wr => ∃ j : Nat, j ≤ k ∧ u5 = .int .i64 j ∧ Hid (wr.heap[w.heap.size]? = some (.cells #[.int .i64 ((rotT t j).a : Int), .int .i64 ((rotT t j).b : Int), .int .i64 ((rotT t j).c : Int)] 37 (0, 0))) ∧ Hid (wr.heap[w.heap.size + 1]? = some (.cells #[.int .i64 0, .int .i64 0, .int .i64 0] 37 (0, 0))) ∧ Below w.heap.size w wr) (fun u5 _ => k - (intOf u5).toNat)
  case atStart => exact ⟨0, Nat.zero_le _, rfl, C0, C1, B0⟩
  case round =>
    obtain ⟨j, hj, rfl, HC, HD, hbel⟩ := hrel
    have a0 := heap_cell HC.out 0
    have a1 := heap_cell HC.out 1
    have a2 := heap_cell HC.out 2
    simp at a0 a1 a2
    have lw := heap_lt HC.out
    by_cases hlt : j < k
    · have f0 := heap_frozen HC.out 0
      have f1 := heap_frozen HC.out 1
      have f2 := heap_frozen HC.out 2
      have HS : Hid ((((wr.setCell ⟨w.heap.size, 0, none⟩ (.int .i64 ((rotT t j).b : Int))).setCell ⟨w.heap.size, 1, none⟩ (.int .i64 ((rotT t j).c : Int))).setCell ⟨w.heap.size, 2, none⟩ (.int .i64 ((rotT t j).a : Int))).heap[w.heap.size]? = some (.cells #[.int .i64 ((rotT t (j + 1)).a : Int), .int .i64 ((rotT t (j + 1)).b : Int), .int .i64 ((rotT t (j + 1)).c : Int)] 37 (0, 0))) := hide (by rw [NX.out]; exact box_set3 HC.out _ _ _)
      have HE : Hid ((((wr.setCell ⟨w.heap.size, 0, none⟩ (.int .i64 ((rotT t j).b : Int))).setCell ⟨w.heap.size, 1, none⟩ (.int .i64 ((rotT t j).c : Int))).setCell ⟨w.heap.size, 2, none⟩ (.int .i64 ((rotT t j).a : Int))).heap[w.heap.size + 1]? = some (.cells #[.int .i64 0, .int .i64 0, .int .i64 0] 37 (0, 0))) := hide (by rw [Below.heap_setCell _ _ _ _ (by simp), Below.heap_setCell _ _ _ _ (by simp), Below.heap_setCell _ _ _ _ (by simp)]; exact HD.out)
      go_wp2_with fail
      exact ⟨⟨j + 1, by omega, by go_num, HS, HE, (by (repeat' (first | (with_reducible first | exact Below.refl _ _ | assumption | refine below_ext _ ?_ ?_ | refine Below.alloc ?_ ?_ _ | refine Below.drew ?_ | refine below_drewN ?_ _ | refine le_drewN _ ?_ | refine Below.setCell ?_ ?_ _ | exact Nat.le_refl _ | refine le_ext _ ?_ | refine le_alloc _ ?_ | refine le_setCell _ _ ?_ | refine le_drew ?_) | omega | (simp; done) | (simp; omega))))⟩, by simp [intOf]; omega⟩
    · obtain rfl : j = k := by omega
      have d0 := heap_cell HD.out 0
      have d1 := heap_cell HD.out 1
      have d2 := heap_cell HD.out 2
      simp at d0 d1 d2
      have f0 := heap_frozen HD.out 0
      have f1 := heap_frozen HD.out 1
      have f2 := heap_frozen HD.out 2
      have ld := heap_lt HD.out
      have S1 : ∀ (W : World) (j : Nat) (u v : Value), W.cell? ⟨w.heap.size + 1, j, none⟩ = some u → (W.setCell ⟨w.heap.size + 1, j, none⟩ v).cell? ⟨w.heap.size + 1, j, none⟩ = some v := fun W j u v h => by
        unfold World.cell? at h ⊢
        simp only [World.setCell, Array.getElem?_modify] at h ⊢
        cases e : W.heap[w.heap.size + 1]? with
        | none => rw [e] at h; simp at h
        | some o =>
          rw [e] at h
          cases o <;> simp at h ⊢
          rename_i cs T fz
          have : j < cs.size := by
            rcases Nat.lt_or_ge j cs.size with c | c
            · exact c
            · rw [Array.getElem?_eq_none c] at h; cases h
          simp [this]
      have S2 : ∀ (W : World) (j k : Nat) (v : Value), j ≠ k → (W.setCell ⟨w.heap.size + 1, j, none⟩ v).cell? ⟨w.heap.size + 1, k, none⟩ = W.cell? ⟨w.heap.size + 1, k, none⟩ := fun W j k v h => World.cell?_setCell_other W _ _ v (fun e => h (by injection e))
      have p0 : ∀ v, (wr.setCell ⟨w.heap.size + 1, 0, none⟩ v).cell? ⟨w.heap.size + 1, 0, none⟩ = some v := fun v => S1 wr 0 _ v d0
      have p1 : ∀ u v, ((wr.setCell ⟨w.heap.size + 1, 0, none⟩ u).setCell ⟨w.heap.size + 1, 1, none⟩ v).cell? ⟨w.heap.size + 1, 1, none⟩ = some v := fun u v => S1 _ 1 _ v ((S2 wr 0 1 u (by decide)).trans d1)
      have p2 : ∀ x u v, (((wr.setCell ⟨w.heap.size + 1, 0, none⟩ x).setCell ⟨w.heap.size + 1, 1, none⟩ u).setCell ⟨w.heap.size + 1, 2, none⟩ v).cell? ⟨w.heap.size + 1, 2, none⟩ = some v := fun x u v => S1 _ 2 _ v ((S2 _ 1 2 u (by decide)).trans ((S2 wr 0 2 x (by decide)).trans d2))
      clear S1 S2
      go_wp2_with fail
      ((try simp only [Exit.inBlock, Exit.then]); refine bodyPost_ret (by simp [results, Try.results89, go_sem, ↓IntWalk.iteOmega, p0, p1, p2]; try rfl) rfl ?_)
      exact ⟨rfl, (ext_mk (by (repeat' (first | (with_reducible first | exact Below.refl _ _ | assumption | refine below_ext _ ?_ ?_ | refine Below.alloc ?_ ?_ _ | refine Below.drew ?_ | refine below_drewN ?_ _ | refine le_drewN _ ?_ | refine Below.setCell ?_ ?_ _ | exact Nat.le_refl _ | refine le_ext _ ?_ | refine le_alloc _ ?_ | refine le_setCell _ _ ?_ | refine le_drew ?_) | omega | (simp; done) | (simp; omega)))))⟩
set_option maxRecDepth 100000 in
set_option maxHeartbeats 16000000 in
theorem sFlip_any (ps : List Pt) (T : List Tri3) (A AT : Option Addr) (n c N cT base : Nat) (w : World) (hn : ps.length = n) (hm : n ≤ 20) (hok : ∀ p ∈ ps, p.ok = true) (hs : PtsAt w base A ps) (hN : T.length = N) (hN2 : N ≤ 1000) (hT : ∀ t ∈ T, ptT t n ∧ 0 < trnT ps t)
    (hR : TRow w base AT (sT T)) (hbase : base ≤ w.heap.size) :
    Calls Try.prog 49 #[.slice A n c, .slice AT N cT] w fun e w' => (flip1 ps T = none ∧ e = .returned (.bool false) ∧ ∃ x, w' = ext w x) ∨ (∃ T', flip1 ps T = some T' ∧ e = .returned (.bool true) ∧ TRow w' base AT (sT T') ∧ Below base w w') := by
  have HN := hide hn
  have HT := hide hN
  have IC : Hid (∀ i j k l, i < n → j < n → k < n → l < n → ∀ W, Calls Try.prog 90 #[.agg #[.int .i64 (pX ps i), .int .i64 (pY ps i)], .agg #[.int .i64 (pX ps j), .int .i64 (pY ps j)], .agg #[.int .i64 (pX ps k), .int .i64 (pY ps k)], .agg #[.int .i64 (pX ps l), .int .i64 (pY ps l)]] W fun e w' => e = .returned (.int .i64 (sgn (icD (gp ps i) (gp ps j) (gp ps k) (gp ps l)))) ∧ ∃ x, w' = ext W x) := hide (fun i j k l hi hj hk hl W =>
    sCircle_any (gp ps i) (gp ps j) (gp ps k) (gp ps l) W (hok _ (gp_mem (by omega))) (hok _ (gp_mem (by omega))) (hok _ (gp_mem (by omega))) (hok _ (gp_mem (by omega))))
  have CELL : Hid (∀ (W : World), Below w.heap.size w W → ∀ i, i < n → ∃ b o, A = some ⟨b, o, none⟩ ∧ b < W.heap.size ∧ W.cell? ⟨b, o + i * 2, none⟩ = some (.int .i64 (pX ps i)) ∧ W.cell? ⟨b, o + i * 2 + 1, none⟩ = some (.int .i64 (pY ps i))) := hide (fun W hb i hi => by
    obtain ⟨b, o, hA, hB, hc⟩ := hs (by omega)
    exact ⟨b, o, hA, by have := hb.size; omega, (hb.cell (p := ⟨b, o + i * 2, none⟩) (by simp; omega)).trans (hc i (by omega)).1, (hb.cell (p := ⟨b, o + i * 2 + 1, none⟩) (by simp; omega)).trans (hc i (by omega)).2⟩)
  have TC : Hid (∀ (W : World), Below w.heap.size w W → ∀ i, i < N → ∃ g, AT = some ⟨g, 0, none⟩ ∧ g < W.heap.size ∧ W.cell? ⟨g, i * 3, none⟩ = some (.int .i64 ((gT T i).a : Int)) ∧ W.cell? ⟨g, i * 3 + 1, none⟩ = some (.int .i64 ((gT T i).b : Int)) ∧ W.cell? ⟨g, i * 3 + 2, none⟩ = some (.int .i64 ((gT T i).c : Int))) := hide (fun W hb i hi => by
    obtain ⟨g, m, f, hA, hg, hm, hr, hf⟩ := hR (by rw [sT_len]; omega)
    rw [sT_len] at hm hf
    have hr' := hr.below hb hr.lt
    refine ⟨g, hA, hr'.lt, ?_⟩
    rw [hr'.cell (by omega), hr'.cell (by omega), hr'.cell (by omega), hf _ (by omega), hf _ (by omega), hf _ (by omega), triCell_0, triCell_1, triCell_2, gt_sT (by omega)]
    exact ⟨rfl, rfl, rfl⟩)
  have PT3 : Hid (∀ i, i < N → ptT (gT T i) n ∧ 0 < trnT ps (gT T i)) := hide (fun i hi => hT _ (gT_mem (by omega)))
  have HR := hide hR
  have PUT : Hid (∀ (W : World) (i k : Nat) (t u : Tri3), i < N → k < N → Below w.heap.size w W → ∀ g, AT = some ⟨g, 0, none⟩ → W.frozen? ⟨g, i * 3, none⟩ = false ∧ W.frozen? ⟨g, i * 3 + 1, none⟩ = false ∧ W.frozen? ⟨g, i * 3 + 2, none⟩ = false ∧ W.frozen? ⟨g, k * 3, none⟩ = false ∧ W.frozen? ⟨g, k * 3 + 1, none⟩ = false ∧ W.frozen? ⟨g, k * 3 + 2, none⟩ = false ∧
      (W.cell? ⟨g, k * 3, none⟩).isSome = true ∧ (W.cell? ⟨g, k * 3 + 1, none⟩).isSome = true ∧ (W.cell? ⟨g, k * 3 + 2, none⟩).isSome = true ∧
      TRow ((((((W.setCell ⟨g, i * 3, none⟩ (.int .i64 (t.a : Int))).setCell ⟨g, i * 3 + 1, none⟩ (.int .i64 (t.b : Int))).setCell ⟨g, i * 3 + 2, none⟩ (.int .i64 (t.c : Int))).setCell ⟨g, k * 3, none⟩ (.int .i64 (u.a : Int))).setCell ⟨g, k * 3 + 1, none⟩ (.int .i64 (u.b : Int))).setCell ⟨g, k * 3 + 2, none⟩ (.int .i64 (u.c : Int))) base AT (sT ((T.set i t).set k u)) ∧
      Below base w ((((((W.setCell ⟨g, i * 3, none⟩ (.int .i64 (t.a : Int))).setCell ⟨g, i * 3 + 1, none⟩ (.int .i64 (t.b : Int))).setCell ⟨g, i * 3 + 2, none⟩ (.int .i64 (t.c : Int))).setCell ⟨g, k * 3, none⟩ (.int .i64 (u.a : Int))).setCell ⟨g, k * 3 + 1, none⟩ (.int .i64 (u.b : Int))).setCell ⟨g, k * 3 + 2, none⟩ (.int .i64 (u.c : Int)))) := hide (fun W i k t u hi hk hb g hA => by
    obtain ⟨g', m, f, hA', hg, hm, hr, hf⟩ := hR (by rw [sT_len]; omega)
    rw [hA] at hA'
    injection hA' with hA'; injection hA' with e1 _ _
    subst e1
    have hm' : N * 3 ≤ m := by rw [sT_len] at hm; omega
    have hr' := hr.below hb hr.lt
    refine ⟨hr'.frozen _, hr'.frozen _, hr'.frozen _, hr'.frozen _, hr'.frozen _, hr'.frozen _, by rw [hr'.cell (by omega)]; rfl, by rw [hr'.cell (by omega)]; rfl, by rw [hr'.cell (by omega)]; rfl, fun _ => ?_, ?_⟩
    · have r1 := ((hr'.set (i := i * 3) (by omega) (.int .i64 (t.a : Int))).set (i := i * 3 + 1) (by omega) (.int .i64 (t.b : Int))).set (i := i * 3 + 2) (by omega) (.int .i64 (t.c : Int))
      have r2 := ((r1.set (i := k * 3) (by omega) (.int .i64 (u.a : Int))).set (i := k * 3 + 1) (by omega) (.int .i64 (u.b : Int))).set (i := k * 3 + 2) (by omega) (.int .i64 (u.c : Int))
      refine ⟨g, m, _, hA, hg, by rw [sT_len, List.length_set, List.length_set]; omega, r2, ?_⟩
      exact tri_put (T := T.set i t) (by rw [List.length_set]; omega) u (tri_put (T := T) (by omega) t hf)
    · have hb' := hb.mono hbase
      exact (((((hb'.setCell (p := ⟨g, i * 3, none⟩) hg _).setCell (p := ⟨g, i * 3 + 1, none⟩) hg _).setCell (p := ⟨g, i * 3 + 2, none⟩) hg _).setCell (p := ⟨g, k * 3, none⟩) hg _).setCell (p := ⟨g, k * 3 + 1, none⟩) hg _).setCell (p := ⟨g, k * 3 + 2, none⟩) hg _)
  have LG : Hid (∀ g, AT = some ⟨g, 0, none⟩ → 0 < N → g < w.heap.size) := hide (fun g hA h0 => by
    obtain ⟨g', m, f, hA', _, _, hr, _⟩ := hR (by rw [sT_len]; omega)
    rw [hA] at hA'
    injection hA' with hA'; injection hA' with e1 _ _
    subst e1
    exact hr.lt)
  clear hn hok hs hN hT hR hbase
  go_enter Try.func49, Try.ntmps49
  go_wp2_with fail
  go_loopw [5] (fun u5 wr => ∃ i : Nat, i ≤ N ∧ u5 = .int .i64 i ∧ Hid (∀ j, j < i → flI ps T j = none) ∧ ∃ x, wr = ext w x) (fun u5 _ => N - (intOf u5).toNat)
  case atStart => exact ⟨0, Nat.zero_le _, rfl, hide (fun j hj => by omega), ext_same _⟩
  case round =>
    obtain ⟨i, hi, rfl, hpi, x1, rfl⟩ := hrel
    have B1 : Below w.heap.size w (ext w x1) := (by (repeat' (first | (with_reducible first | exact Below.refl _ _ | assumption | refine below_ext _ ?_ ?_ | refine Below.alloc ?_ ?_ _ | refine Below.drew ?_ | refine below_drewN ?_ _ | refine le_drewN _ ?_ | refine Below.setCell ?_ ?_ _ | exact Nat.le_refl _ | refine le_ext _ ?_ | refine le_alloc _ ?_ | refine le_setCell _ _ ?_ | refine le_drew ?_) | omega | (simp; done) | (simp; omega))))
    have z1 := B1.size
    by_cases hlt : i < N
    · obtain ⟨pt1, pos1⟩ := PT3.out i hlt
      have BW1 := hide B1
      go_wp2_with fail
      go_loopw [6] (fun u6 wr => ∃ s : Nat, s ≤ 3 ∧ u6 = .int .i64 s ∧ Hid (∀ j, j < s → flS ps T i j = none) ∧ ∃ x, wr = ext w x) (fun u6 _ => 3 - (intOf u6).toNat)
      case atStart => exact ⟨0, Nat.zero_le _, rfl, hide (fun j hj => by omega), (ext_mk (by (repeat' (first | (with_reducible first | exact Below.refl _ _ | assumption | refine below_ext _ ?_ ?_ | refine Below.alloc ?_ ?_ _ | refine Below.drew ?_ | refine below_drewN ?_ _ | refine le_drewN _ ?_ | refine Below.setCell ?_ ?_ _ | exact Nat.le_refl _ | refine le_ext _ ?_ | refine le_alloc _ ?_ | refine le_setCell _ _ ?_ | refine le_drew ?_) | omega | (simp; done) | (simp; omega)))))⟩
      case round =>
        obtain ⟨s, hs3, rfl, hps, x2, rfl⟩ := hrel
        have B2 : Below w.heap.size w (ext w x2) := (by (repeat' (first | (with_reducible first | exact Below.refl _ _ | assumption | refine below_ext _ ?_ ?_ | refine Below.alloc ?_ ?_ _ | refine Below.drew ?_ | refine below_drewN ?_ _ | refine le_drewN _ ?_ | refine Below.setCell ?_ ?_ _ | exact Nat.le_refl _ | refine le_ext _ ?_ | refine le_alloc _ ?_ | refine le_setCell _ _ ?_ | refine le_drew ?_) | omega | (simp; done) | (simp; omega))))
        have z2 := B2.size
        by_cases hls : s < 3
        · obtain ⟨gt1, rfl, lg1, k0, k1, k2⟩ := TC.out _ B2 i hlt
          have la := cor_lt pt1 s
          have lb := cor_lt pt1 (s + 1)
          have lc := cor_lt pt1 (s + 2)
          have HB : Hid (∀ k r, hitB ps T i s k r = (decide (cor (gT T k) r = cor (gT T i) (s + 1)) && decide (cor (gT T k) (r + 1) = cor (gT T i) s) && decide (0 < icD (gp ps (cor (gT T i) s)) (gp ps (cor (gT T i) (s + 1))) (gp ps (cor (gT T i) (s + 2))) (gp ps (cor (gT T k) (r + 2)))))) := hide (fun k r => rfl)
          have FA : Hid (∀ k r, flipAt T i s k r = (T.set i ⟨cor (gT T i) (s + 2), cor (gT T i) s, cor (gT T k) (r + 2)⟩).set k ⟨cor (gT T i) (s + 2), cor (gT T k) (r + 2), cor (gT T i) (s + 1)⟩) := hide (fun k r => rfl)
          have NE0 : Hid (∀ k r, r < 3 → cor (gT T k) r = cor (gT T i) (s + 1) → cor (gT T k) (r + 1) = cor (gT T i) s → i ≠ k) := hide (fun k r hr e1 e2 e => by
            subst e
            refine cor_no ?_ hls hr e1 e2
            unfold trnT at pos1
            refine ⟨fun e => ?_, fun e => ?_, fun e => ?_⟩
            · rw [e, trn_aab] at pos1; omega
            · rw [e, trn_abb] at pos1; omega
            · rw [e, trn_aba] at pos1; omega)
          have IC1 := hide (fun l (hl : l < n) => IC.out _ _ _ l la lb lc hl)
          have RT : Hid (∀ W, Calls Try.prog 89 #[.agg #[.int .i64 ((gT T i).a : Int), .int .i64 ((gT T i).b : Int), .int .i64 ((gT T i).c : Int)], .int .i64 s] W fun e w' => e = .returned (.agg #[.int .i64 ((cor (gT T i) s : Nat) : Int), .int .i64 ((cor (gT T i) (s + 1) : Nat) : Int), .int .i64 ((cor (gT T i) (s + 2) : Nat) : Int)]) ∧ ∃ x, w' = ext W x) := hide (fun W => rotated_any (gT T i) s W (by omega))
          have q0 : (0 : Int) ≤ (s : Int) := by omega
          generalize cor (gT T i) s = a at *
          generalize cor (gT T i) (s + 1) = b at *
          generalize cor (gT T i) (s + 2) = d at *
          go_wp2_with fail
          refine (RT.out _).mono ?_
          rintro e w' ⟨rfl, hw'⟩; have hzy1 := ext_sz hw'; obtain ⟨y1, rfl⟩ := hw'; (try simp at hzy1)
          go_wp2_with fail
          obtain ⟨W2, hW2⟩ : ∃ W2, W2 = (ext (ext w x2) y1).alloc (.cells #[.int .i64 (a : Int), .int .i64 (b : Int), .int .i64 (d : Int)] 37) := ⟨_, rfl⟩
          obtain ⟨gc, hgc⟩ : ∃ gc, gc = (ext (ext w x2) y1).heap.size := ⟨_, rfl⟩
          have C1 : Hid (W2.heap[gc]? = some (.cells #[.int .i64 (a : Int), .int .i64 (b : Int), .int .i64 (d : Int)] 37 (0, 0))) := hide (by rw [hW2, hgc]; exact heap_alloc_new _ _)
          have B3 : Hid (Below w.heap.size w W2) := hide (by rw [hW2]; exact (by (repeat' (first | (with_reducible first | exact Below.refl _ _ | assumption | refine below_ext _ ?_ ?_ | refine Below.alloc ?_ ?_ _ | refine Below.drew ?_ | refine below_drewN ?_ _ | refine le_drewN _ ?_ | refine Below.setCell ?_ ?_ _ | exact Nat.le_refl _ | refine le_ext _ ?_ | refine le_alloc _ ?_ | refine le_setCell _ _ ?_ | refine le_drew ?_) | omega | (simp; done) | (simp; omega)))))
          rw [← hW2, ← hgc]
          have gcw : w.heap.size ≤ gc := by rw [hgc]; omega
          clear hW2 hgc k0 k1 k2 B2 z2 lg1 hzy1 RT IC
          have lgc := heap_lt C1.out
          have zw1 := B3.out.size
          go_loopw [8] (fun u8 wr => ∃ k : Nat, k ≤ N ∧ u8 = .int .i64 k ∧ Hid (∀ j, j < k → flK ps T i s j = none) ∧ ∃ x, wr = ext W2 x) (fun u8 _ => N - (intOf u8).toNat)
          case atStart => exact ⟨0, Nat.zero_le _, rfl, hide (fun j hj => by omega), ext_same _⟩
          case round =>
            obtain ⟨k, hk, rfl, hpk, x3, rfl⟩ := hrel
            by_cases hlk : k < N
            · obtain ⟨pt2, pos2⟩ := PT3.out k hlk
              clear pos2
              go_wp2_with fail
              go_loopw [9] (fun u9 wr => ∃ r : Nat, r ≤ 3 ∧ u9 = .int .i64 r ∧ Hid (∀ j, j < r → flR ps T i s k j = none) ∧ ∃ x, wr = ext W2 x) (fun u9 _ => 3 - (intOf u9).toNat)
              case atStart => exact ⟨0, Nat.zero_le _, rfl, hide (fun j hj => by omega), ext_mk (by (repeat' (first | (with_reducible first | exact Below.refl _ _ | assumption | refine below_ext _ ?_ ?_ | refine Below.alloc ?_ ?_ _ | refine Below.drew ?_ | refine below_drewN ?_ _ | refine le_drewN _ ?_ | refine Below.setCell ?_ ?_ _ | exact Nat.le_refl _ | refine le_ext _ ?_ | refine le_alloc _ ?_ | refine le_setCell _ _ ?_ | refine le_drew ?_) | omega | (simp; done) | (simp; omega))))⟩
              case round =>
                obtain ⟨r, hr3, rfl, hpr, x4, rfl⟩ := hrel
                have B4 : Below w.heap.size w (ext W2 x4) := B3.out.trans (Below.mono (by (repeat' (first | (with_reducible first | exact Below.refl _ _ | assumption | refine below_ext _ ?_ ?_ | refine Below.alloc ?_ ?_ _ | refine Below.drew ?_ | refine below_drewN ?_ _ | refine le_drewN _ ?_ | refine Below.setCell ?_ ?_ _ | exact Nat.le_refl _ | refine le_ext _ ?_ | refine le_alloc _ ?_ | refine le_setCell _ _ ?_ | refine le_drew ?_) | omega | (simp; done) | (simp; omega)))) B3.out.size)
                have z4 := B4.size
                have z5 := ext_size W2 x4
                by_cases hlr : r < 3
                · obtain ⟨gt2, hg2, lg2, k0, k1, k2⟩ := TC.out _ B4 k hlk
                  injection hg2 with hg2
                  injection hg2 with hg2 _ _
                  subst hg2
                  have lq := cor_lt pt2 (r + 2)
                  have HBr := hide (HB.out k r)
                  have FAr := hide (FA.out k r)
                  have FR : Hid (hitB ps T i s k r = false → flR ps T i s k r = none) := hide (fun h => by unfold flR; rw [if_neg (by rw [h]; simp)])
                  have FH : Hid (hitB ps T i s k r = true → flip1 ps T = some (flipAt T i s k r)) := hide (fun h => fnd_some (by rw [HT.out]; exact hlt) (fnd_some hls (fnd_some (by rw [HT.out]; exact hlk) (fnd_some hlr (by unfold flR; rw [if_pos h]) hpr.out) hpk.out) hps.out) hpi.out)
                  have NE1 := hide (NE0.out k r hlr)
                  have RT : Hid (∀ W, Calls Try.prog 89 #[.agg #[.int .i64 ((gT T k).a : Int), .int .i64 ((gT T k).b : Int), .int .i64 ((gT T k).c : Int)], .int .i64 r] W fun e w' => e = .returned (.agg #[.int .i64 ((cor (gT T k) r : Nat) : Int), .int .i64 ((cor (gT T k) (r + 1) : Nat) : Int), .int .i64 ((cor (gT T k) (r + 2) : Nat) : Int)]) ∧ ∃ x, w' = ext W x) := hide (fun W => rotated_any (gT T k) r W (by omega))
                  generalize cor (gT T k) r = c0 at *
                  generalize cor (gT T k) (r + 1) = c1 at *
                  generalize cor (gT T k) (r + 2) = q at *
                  go_wp2_with fail
                  refine (RT.out _).mono ?_
                  rintro e w' ⟨rfl, hw'⟩; have hzy2 := ext_sz hw'; obtain ⟨y2, rfl⟩ := hw'; (try simp at hzy2)
                  obtain ⟨W3, hW3⟩ : ∃ W3, W3 = (ext (ext W2 x4) y2).alloc (.cells #[.int .i64 (c0 : Int), .int .i64 (c1 : Int), .int .i64 (q : Int)] 37) := ⟨_, rfl⟩
                  have B23 : Hid (Below W2.heap.size W2 W3) := hide (by rw [hW3]; exact (by (repeat' (first | (with_reducible first | exact Below.refl _ _ | assumption | refine below_ext _ ?_ ?_ | refine Below.alloc ?_ ?_ _ | refine Below.drew ?_ | refine below_drewN ?_ _ | refine le_drewN _ ?_ | refine Below.setCell ?_ ?_ _ | exact Nat.le_refl _ | refine le_ext _ ?_ | refine le_alloc _ ?_ | refine le_setCell _ _ ?_ | refine le_drew ?_) | omega | (simp; done) | (simp; omega)))))
                  have BW3 := hide (B3.out.trans (B23.out.mono B3.out.size))
                  have z23 := B23.out.size
                  have zw3 := BW3.out.size
                  have hC := (B23.out.block gc lgc).trans C1.out
                  have a0 := heap_cell hC 0
                  have a1 := heap_cell hC 1
                  have a2 := heap_cell hC 2
                  simp at a0 a1 a2
                  obtain ⟨gd, hgd⟩ : ∃ gd, gd = (ext (ext W2 x4) y2).heap.size := ⟨_, rfl⟩
                  have C3 : Hid (W3.heap[gd]? = some (.cells #[.int .i64 (c0 : Int), .int .i64 (c1 : Int), .int .i64 (q : Int)] 37 (0, 0))) := hide (by rw [hW3, hgd]; exact heap_alloc_new _ _)
                  have gdw : w.heap.size ≤ gd := by rw [hgd]; omega
                  have b0 := heap_cell C3.out 0
                  have b1 := heap_cell C3.out 1
                  have b2 := heap_cell C3.out 2
                  simp at b0 b1 b2
                  have lgd := heap_lt C3.out
                  have cond : ∀ (W : World), W = W3 → True := fun _ _ => trivial
                  clear cond k0 k1 k2 hC
                  by_cases h1 : c0 = b
                  · subst h1
                    have d1 : ((c0 : Int) == (c0 : Int)) = true := by simp
                    by_cases h2 : c1 = a
                    · subst h2
                      have d2 : ((c1 : Int) == (c1 : Int)) = true := by simp
                      have CD := hide (CELL.out W3 BW3.out)
                      obtain ⟨pb, po, rfl, lpb, xa, ya⟩ := CD.out c1 la
                      obtain ⟨pb', po', hpp, _, xb, yb⟩ := CD.out c0 lb
                      injection hpp with hpp
                      injection hpp with hp1 hp2 _
                      subst hp1 hp2
                      obtain ⟨pb', po', hpp, _, xd, yd⟩ := CD.out d lc
                      injection hpp with hpp
                      injection hpp with hp1 hp2 _
                      subst hp1 hp2
                      obtain ⟨pb', po', hpp, _, xq, yq⟩ := CD.out q lq
                      injection hpp with hpp
                      injection hpp with hp1 hp2 _
                      subst hp1 hp2
                      have ICq := hide (IC1.out q lq)
                      have r1 : (c1 : Int) < (n : Int) := by omega
                      have r2 : (c0 : Int) < (n : Int) := by omega
                      have r3 : (d : Int) < (n : Int) := by omega
                      have r4 : (q : Int) < (n : Int) := by omega
                      have SGI := sgn_iff (icD (gp ps c1) (gp ps c0) (gp ps d) (gp ps q))
                      by_cases hD : 0 < icD (gp ps c1) (gp ps c0) (gp ps d) (gp ps q)
                      · have dd : decide (0 < sgn (icD (gp ps c1) (gp ps c0) (gp ps d) (gp ps q))) = true := decide_eq_true (SGI.2 hD)
                        have HIT := hide (FH.out (by rw [HBr.out]; simp [hD]))
                        rw [FAr.out] at HIT
                        have PT := hide (fun W hb => PUT.out W i k ⟨d, c1, q⟩ ⟨d, q, c0⟩ hlt hlk hb gt1 rfl)
                        clear CD IC1 FH FR HBr FAr SGI hD PUT
                        generalize sgn (icD (gp ps c1) (gp ps c0) (gp ps d) (gp ps q)) = D at *
                        generalize pX ps c1 = X1 at *
                        generalize pY ps c1 = Y1 at *
                        generalize pX ps c0 = X0 at *
                        generalize pY ps c0 = Y0 at *
                        generalize pX ps d = XD at *
                        generalize pY ps d = YD at *
                        generalize pX ps q = XQ at *
                        generalize pY ps q = YQ at *
                        go_wp2_with fail
                        rw [← hW3, ← hgd]
                        clear hW3 hgd
                        refine wp_region_ext (by kernel_rfl) (by kernel_rfl) ?_
                        repeat (go_big_quiet_step ((first | (go_at_call 90; exact Calls.in_ext (ICq.out _)))))
                        refine wpQuiet_nil ?_
                        rintro _ hnq
                        have hzq := ext_sz hnq
                        obtain ⟨nq, rfl⟩ := hnq
                        (try simp at hzq)
                        have BF : Below w.heap.size w (ext W3 nq) := BW3.out.trans (Below.mono (by (repeat' (first | (with_reducible first | exact Below.refl _ _ | assumption | refine below_ext _ ?_ ?_ | refine Below.alloc ?_ ?_ _ | refine Below.drew ?_ | refine below_drewN ?_ _ | refine le_drewN _ ?_ | refine Below.setCell ?_ ?_ _ | exact Nat.le_refl _ | refine le_ext _ ?_ | refine le_alloc _ ?_ | refine le_setCell _ _ ?_ | refine le_drew ?_) | omega | (simp; done) | (simp; omega)))) BW3.out.size)
                        obtain ⟨f0, f1, f2, f3, f4, f5, s0, s1, s2, TR, BB⟩ := PT.out _ BF
                        have TRH := hide TR
                        have BBH := hide BB
                        obtain ⟨g2, hg2, lg2', m0, m1, m2⟩ := TC.out _ BF i hlt
                        injection hg2 with hg2
                        injection hg2 with hg2 _ _
                        subst hg2
                        obtain ⟨g2, hg2, _, m3, m4, m5⟩ := TC.out _ BF k hlk
                        injection hg2 with hg2
                        injection hg2 with hg2 _ _
                        subst hg2
                        have w0 : i ≠ k := NE1.out (by first | rfl | trivial) (by first | rfl | trivial)
                        have w1 : (i : Int) < (N : Int) := by omega
                        have w2 : (k : Int) < (N : Int) := by omega
                        have lgw := LG.out gt1 rfl (by omega)
                        clear TR BB TC PT
                        go_wp2_with fail
                        go_ret
                        exact .inr ⟨_, HIT.out, rfl, TRH.out, BBH.out⟩
                      · have dd : decide (0 < sgn (icD (gp ps c1) (gp ps c0) (gp ps d) (gp ps q))) = false := decide_eq_false (fun h => hD (SGI.1 h))
                        have NR := hide (FR.out (by rw [HBr.out]; simp [hD]))
                        have NX : Hid (∀ j, j < r + 1 → flR ps T i s k j = none) := hide (fun j hj => by rcases Nat.lt_succ_iff_lt_or_eq.1 hj with h | rfl; exact hpr.out j h; exact NR.out)
                        clear CD IC1 FH FR HBr FAr SGI hD PUT TC hpr NR
                        generalize sgn (icD (gp ps c1) (gp ps c0) (gp ps d) (gp ps q)) = D at *
                        generalize pX ps c1 = X1 at *
                        generalize pY ps c1 = Y1 at *
                        generalize pX ps c0 = X0 at *
                        generalize pY ps c0 = Y0 at *
                        generalize pX ps d = XD at *
                        generalize pY ps d = YD at *
                        generalize pX ps q = XQ at *
                        generalize pY ps q = YQ at *
                        go_wp2_with fail
                        rw [← hW3, ← hgd]
                        clear hW3 hgd
                        refine wp_region_ext (by kernel_rfl) (by kernel_rfl) ?_
                        repeat (go_big_quiet_step ((first | (go_at_call 90; exact Calls.in_ext (ICq.out _)))))
                        refine wpQuiet_nil ?_
                        rintro _ hnq
                        have hzq := ext_sz hnq
                        obtain ⟨nq, rfl⟩ := hnq
                        (try simp at hzq)
                        go_wp2_with fail
                        exact ⟨⟨r + 1, by omega, by go_num, NX, ext_mk (B23.out.trans (Below.mono (show Below W3.heap.size W3 _ from (by (repeat' (first | (with_reducible first | exact Below.refl _ _ | assumption | refine below_ext _ ?_ ?_ | refine Below.alloc ?_ ?_ _ | refine Below.drew ?_ | refine below_drewN ?_ _ | refine le_drewN _ ?_ | refine Below.setCell ?_ ?_ _ | exact Nat.le_refl _ | refine le_ext _ ?_ | refine le_alloc _ ?_ | refine le_setCell _ _ ?_ | refine le_drew ?_) | omega | (simp; done) | (simp; omega))))) B23.out.size))⟩, by simp [intOf]; omega⟩
                    · have d2 : ((c1 : Int) == (a : Int)) = false := by rw [beq_eq_false_iff_ne]; omega
                      have NR := hide (FR.out (by rw [HBr.out]; simp [h2]))
                      have NX : Hid (∀ j, j < r + 1 → flR ps T i s k j = none) := hide (fun j hj => by rcases Nat.lt_succ_iff_lt_or_eq.1 hj with h | rfl; exact hpr.out j h; exact NR.out)
                      clear IC1 FH FR HBr FAr PUT TC hpr NR h2
                      go_wp2_with fail
                      rw [← hW3, ← hgd]
                      clear hW3 hgd
                      refine wp_region_ext (by kernel_rfl) (by kernel_rfl) ?_
                      repeat (go_big_quiet_step (fail))
                      refine wpQuiet_nil ?_
                      rintro _ hnq
                      have hzq := ext_sz hnq
                      obtain ⟨nq, rfl⟩ := hnq
                      (try simp at hzq)
                      go_wp2_with fail
                      exact ⟨⟨r + 1, by omega, by go_num, NX, ext_mk (B23.out.trans (Below.mono (show Below W3.heap.size W3 _ from (by (repeat' (first | (with_reducible first | exact Below.refl _ _ | assumption | refine below_ext _ ?_ ?_ | refine Below.alloc ?_ ?_ _ | refine Below.drew ?_ | refine below_drewN ?_ _ | refine le_drewN _ ?_ | refine Below.setCell ?_ ?_ _ | exact Nat.le_refl _ | refine le_ext _ ?_ | refine le_alloc _ ?_ | refine le_setCell _ _ ?_ | refine le_drew ?_) | omega | (simp; done) | (simp; omega))))) B23.out.size))⟩, by simp [intOf]; omega⟩
                  · have d1 : ((c0 : Int) == (b : Int)) = false := by rw [beq_eq_false_iff_ne]; omega
                    have NR := hide (FR.out (by rw [HBr.out]; simp [h1]))
                    have NX : Hid (∀ j, j < r + 1 → flR ps T i s k j = none) := hide (fun j hj => by rcases Nat.lt_succ_iff_lt_or_eq.1 hj with h | rfl; exact hpr.out j h; exact NR.out)
                    clear IC1 FH FR HBr FAr PUT TC hpr NR h1
                    go_wp2_with fail
                    rw [← hW3, ← hgd]
                    clear hW3 hgd
                    refine wp_region_ext (by kernel_rfl) (by kernel_rfl) ?_
                    repeat (go_big_quiet_step (fail))
                    refine wpQuiet_nil ?_
                    rintro _ hnq
                    have hzq := ext_sz hnq
                    obtain ⟨nq, rfl⟩ := hnq
                    (try simp at hzq)
                    go_wp2_with fail
                    exact ⟨⟨r + 1, by omega, by go_num, NX, ext_mk (B23.out.trans (Below.mono (show Below W3.heap.size W3 _ from (by (repeat' (first | (with_reducible first | exact Below.refl _ _ | assumption | refine below_ext _ ?_ ?_ | refine Below.alloc ?_ ?_ _ | refine Below.drew ?_ | refine below_drewN ?_ _ | refine le_drewN _ ?_ | refine Below.setCell ?_ ?_ _ | exact Nat.le_refl _ | refine le_ext _ ?_ | refine le_alloc _ ?_ | refine le_setCell _ _ ?_ | refine le_drew ?_) | omega | (simp; done) | (simp; omega))))) B23.out.size))⟩, by simp [intOf]; omega⟩
                · have er : r = 3 := by omega
                  subst er
                  have NX : Hid (∀ j, j < k + 1 → flK ps T i s j = none) := hide (fun j hj => by rcases Nat.lt_succ_iff_lt_or_eq.1 hj with h | rfl; exact hpk.out j h; exact fnd_none hpr.out)
                  clear hpk hpr
                  go_wp2_with fail
                  exact ⟨⟨k + 1, by omega, by go_num, NX, (ext_mk (by (repeat' (first | (with_reducible first | exact Below.refl _ _ | assumption | refine below_ext _ ?_ ?_ | refine Below.alloc ?_ ?_ _ | refine Below.drew ?_ | refine below_drewN ?_ _ | refine le_drewN _ ?_ | refine Below.setCell ?_ ?_ _ | exact Nat.le_refl _ | refine le_ext _ ?_ | refine le_alloc _ ?_ | refine le_setCell _ _ ?_ | refine le_drew ?_) | omega | (simp; done) | (simp; omega)))))⟩, by simp [intOf]; omega⟩
            · have ek : k = N := by omega
              have NX : Hid (∀ j, j < s + 1 → flS ps T i j = none) := hide (fun j hj => by rcases Nat.lt_succ_iff_lt_or_eq.1 hj with h | rfl; exact hps.out j h; exact fnd_none (by rw [HT.out]; exact fun m hm => hpk.out m (by omega)))
              clear hps hpk
              go_wp2_with fail
              exact ⟨⟨s + 1, by omega, by go_num, NX, ext_mk (B3.out.trans (Below.mono (show Below W2.heap.size W2 _ from (by (repeat' (first | (with_reducible first | exact Below.refl _ _ | assumption | refine below_ext _ ?_ ?_ | refine Below.alloc ?_ ?_ _ | refine Below.drew ?_ | refine below_drewN ?_ _ | refine le_drewN _ ?_ | refine Below.setCell ?_ ?_ _ | exact Nat.le_refl _ | refine le_ext _ ?_ | refine le_alloc _ ?_ | refine le_setCell _ _ ?_ | refine le_drew ?_) | omega | (simp; done) | (simp; omega))))) B3.out.size))⟩, by simp [intOf]; omega⟩
        · have es : s = 3 := by omega
          subst es
          have NX : Hid (∀ j, j < i + 1 → flI ps T j = none) := hide (fun j hj => by rcases Nat.lt_succ_iff_lt_or_eq.1 hj with h | rfl; exact hpi.out j h; exact fnd_none hps.out)
          clear hpi hps
          go_wp2_with fail
          exact ⟨⟨i + 1, by omega, by go_num, NX, (ext_mk (by (repeat' (first | (with_reducible first | exact Below.refl _ _ | assumption | refine below_ext _ ?_ ?_ | refine Below.alloc ?_ ?_ _ | refine Below.drew ?_ | refine below_drewN ?_ _ | refine le_drewN _ ?_ | refine Below.setCell ?_ ?_ _ | exact Nat.le_refl _ | refine le_ext _ ?_ | refine le_alloc _ ?_ | refine le_setCell _ _ ?_ | refine le_drew ?_) | omega | (simp; done) | (simp; omega)))))⟩, by simp [intOf]; omega⟩
    · have ei : i = N := by omega
      have R : Hid (flip1 ps T = none) := hide (fnd_none (by rw [HT.out]; exact fun j hj => hpi.out j (by omega)))
      clear hpi
      go_wp2_with fail
      go_ret
      exact .inl ⟨R.out, rfl, (ext_mk (by (repeat' (first | (with_reducible first | exact Below.refl _ _ | assumption | refine below_ext _ ?_ ?_ | refine Below.alloc ?_ ?_ _ | refine Below.drew ?_ | refine below_drewN ?_ _ | refine le_drewN _ ?_ | refine Below.setCell ?_ ?_ _ | exact Nat.le_refl _ | refine le_ext _ ?_ | refine le_alloc _ ?_ | refine le_setCell _ _ ?_ | refine le_drew ?_) | omega | (simp; done) | (simp; omega)))))⟩
end Go.Proofs.Ytcebmcbglhkkfaa
