
/- The program's flip. -/
import Derived.Test.YtcebmcbglhkkfaaCirc
import Derived.Test.YtcebmcbglhkkfaaDelN
import Derived.Test.YtcebmcbglhkkfaaSwpW
set_option linter.unusedVariables false
set_option linter.unusedSimpArgs false
namespace Go.Proofs.Ytcebmcbglhkkfaa
open Go.RowKit

theorem gt_sT {T : List Tri3} {i : Nat} (h : i < T.length) : gt (sT T) i = ⟨((gT T i).a : Int), ((gT T i).b : Int), ((gT T i).c : Int)⟩ := by
  rw [gt_lt (by rw [sT_len]; exact h)]
  unfold sT
  rw [List.getElem_map, gT_lt h]
theorem tri_put {f : Nat → Value} {T : List Tri3} {i : Nat} (hi : i < T.length) (t : Tri3) (h : ∀ j, j < (sT T).length * 3 → f j = triCell (sT T) j) : ∀ j, j < (sT (T.set i t)).length * 3 →
    (if j = i * 3 + 2 then Value.int .i64 (t.c : Int) else if j = i * 3 + 1 then Value.int .i64 (t.b : Int) else if j = i * 3 then Value.int .i64 (t.a : Int) else f j) = triCell (sT (T.set i t)) j := fun j hj => by
  have hl : (sT (T.set i t)).length = T.length := by rw [sT_len, List.length_set]
  rw [hl] at hj
  have hq : j / 3 < T.length := by omega
  have g1 : gt (sT (T.set i t)) (j / 3) = if i = j / 3 then ⟨(t.a : Int), (t.b : Int), (t.c : Int)⟩ else gt (sT T) (j / 3) := by
    rw [gt_sT (by rw [List.length_set]; exact hq), gT_set t hq]
    split
    · rfl
    · rw [gt_sT hq]
  have h0 := h j (by rw [sT_len]; exact hj)
  unfold triCell at h0 ⊢
  rw [g1]
  by_cases e : i = j / 3
  · rw [if_pos e]
    by_cases c2 : j = i * 3 + 2
    · rw [if_pos c2, if_neg (by omega), if_neg (by omega)]
    · rw [if_neg c2]
      by_cases c1 : j = i * 3 + 1
      · rw [if_pos c1, if_neg (by omega), if_pos (by omega)]
      · rw [if_neg c1, if_pos (by omega), if_pos (by omega)]
  · rw [if_neg e, if_neg (by omega), if_neg (by omega), if_neg (by omega), h0]
theorem cor_at (t : Tri3) {s : Nat} (hs : s < 3) : (#[Value.int .i64 (t.a : Int), .int .i64 (t.b : Int), .int .i64 (t.c : Int)] : Array Value)[s]? = some (.int .i64 ((cor t s : Nat) : Int)) := by
  match s, hs with
  | 0, _ => rfl
  | 1, _ => rfl
  | 2, _ => rfl
theorem cor_mod (t : Tri3) (s : Nat) : cor t (s % 3) = cor t s := by unfold cor; rw [Nat.mod_mod]
theorem cor_lt {t : Tri3} {n : Nat} (h : ptT t n) (s : Nat) : cor t s < n := by
  unfold cor
  split
  · exact h.1
  · split
    · exact h.2.1
    · exact h.2.2
set_option maxHeartbeats 400000 in
theorem corners3_any (a b c : Int) (w : World) : Calls Try.prog 88 #[.agg #[.int .i64 a, .int .i64 b, .int .i64 c]] w fun e w' => e = .returned (.agg #[.int .i64 a, .int .i64 b, .int .i64 c]) ∧ ∃ x, w' = ext w x := by
  go_enter Try.func88, Try.ntmps88
  go_wp2
  go_returns
  exact ⟨rfl, (ext_mk (by (repeat' (first | (with_reducible first | exact Below.refl _ _ | assumption | refine below_ext _ ?_ ?_ | refine Below.alloc ?_ ?_ _ | refine Below.drew ?_ | refine below_drewN ?_ _ | refine le_drewN _ ?_ | refine Below.setCell ?_ ?_ _ | exact Nat.le_refl _ | refine le_ext _ ?_ | refine le_alloc _ ?_ | refine le_setCell _ _ ?_ | refine le_drew ?_) | omega | (simp; done) | (simp; omega)))))⟩
theorem sgn_iff (x : Int) : (0 < sgn x ↔ 0 < x) := by
  unfold sgn
  split
  · omega
  · split <;> omega
set_option maxRecDepth 100000 in
set_option maxHeartbeats 16000000 in
theorem iFlip_any (ps : List Pt) (T : List Tri3) (A AT : Option Addr) (n c N cT base : Nat) (w : World) (hn : ps.length = n) (hm : n ≤ 20) (hok : ∀ p ∈ ps, p.ok = true) (hs : PtsAt w base A ps) (hN : T.length = N) (hN2 : N ≤ 1000) (hT : ∀ t ∈ T, ptT t n ∧ 0 < trnT ps t)
    (hR : TRow w base AT (sT T)) (hbase : base ≤ w.heap.size) :
    Calls Try.prog 48 #[.slice A n c, .slice AT N cT] w fun e w' => (flip1 ps T = none ∧ e = .returned (.bool false) ∧ ∃ x, w' = ext w x) ∨ (∃ T', flip1 ps T = some T' ∧ e = .returned (.bool true) ∧ TRow w' base AT (sT T') ∧ Below base w w') := by
  have HN := hide hn
  have HT := hide hN
  have IC : Hid (∀ i j k l, i < n → j < n → k < n → l < n → ∀ W, Calls Try.prog 55 #[.agg #[.int .i64 (pX ps i), .int .i64 (pY ps i)], .agg #[.int .i64 (pX ps j), .int .i64 (pY ps j)], .agg #[.int .i64 (pX ps k), .int .i64 (pY ps k)], .agg #[.int .i64 (pX ps l), .int .i64 (pY ps l)]] W fun e w' => e = .returned (.int .i64 (sgn (icD (gp ps i) (gp ps j) (gp ps k) (gp ps l)) * sgn (trn (gp ps i) (gp ps j) (gp ps k)))) ∧ ∃ x, w' = ext W x) := hide (fun i j k l hi hj hk hl W =>
    iCircle_any (gp ps i) (gp ps j) (gp ps k) (gp ps l) W (hok _ (gp_mem (by omega))) (hok _ (gp_mem (by omega))) (hok _ (gp_mem (by omega))) (hok _ (gp_mem (by omega))))
  have CELL : Hid (∀ (W : World), Below w.heap.size w W → ∀ i, i < n → ∃ b o, A = some ⟨b, o, none⟩ ∧ b < W.heap.size ∧ W.cell? ⟨b, o + i * 2, none⟩ = some (.int .i64 (pX ps i)) ∧ W.cell? ⟨b, o + i * 2 + 1, none⟩ = some (.int .i64 (pY ps i))) := hide (fun W hb i hi => by
    obtain ⟨b, o, hA, hB, hc⟩ := hs (by omega)
    exact ⟨b, o, hA, by have := hb.size; omega, (hb.cell (p := ⟨b, o + i * 2, none⟩) (by simp; omega)).trans (hc i (by omega)).1, (hb.cell (p := ⟨b, o + i * 2 + 1, none⟩) (by simp; omega)).trans (hc i (by omega)).2⟩)
  have TC : Hid (∀ (W : World), Below w.heap.size w W → ∀ i, i < N → ∃ g, AT = some ⟨g, 0, none⟩ ∧ g < W.heap.size ∧ W.cell? ⟨g, i * 3, none⟩ = some (.int .i64 ((gT T i).a : Int)) ∧ W.cell? ⟨g, i * 3 + 1, none⟩ = some (.int .i64 ((gT T i).b : Int)) ∧ W.cell? ⟨g, i * 3 + 2, none⟩ = some (.int .i64 ((gT T i).c : Int))) := hide (fun W hb i hi => by
    obtain ⟨g, m, f, hA, hg, hm, hr, hf⟩ := hR (by rw [sT_len]; omega)
    rw [sT_len] at hm hf
    have hr' := hr.below hb hr.lt
    refine ⟨g, hA, hr'.lt, ?_⟩
    rw [hr'.cell (by omega), hr'.cell (by omega), hr'.cell (by omega), hf _ (by omega), hf _ (by omega), hf _ (by omega), triCell_0, triCell_1, triCell_2, gt_sT (by omega)]
    exact ⟨rfl, rfl, rfl⟩)
  have PT3 : Hid (∀ i, i < N → ptT (gT T i) n ∧ 0 < trnT ps (gT T i)) := hide (fun i hi => hT _ (gT_mem (by omega)))
  have HR := hide hR
  have PUT : Hid (∀ (W : World) (i k : Nat) (t u : Tri3), i < N → k < N → Below w.heap.size w W → ∀ g, AT = some ⟨g, 0, none⟩ → W.frozen? ⟨g, i * 3, none⟩ = false ∧ W.frozen? ⟨g, i * 3 + 1, none⟩ = false ∧ W.frozen? ⟨g, i * 3 + 2, none⟩ = false ∧ W.frozen? ⟨g, k * 3, none⟩ = false ∧ W.frozen? ⟨g, k * 3 + 1, none⟩ = false ∧ W.frozen? ⟨g, k * 3 + 2, none⟩ = false ∧
      (W.cell? ⟨g, k * 3, none⟩).isSome = true ∧ (W.cell? ⟨g, k * 3 + 1, none⟩).isSome = true ∧ (W.cell? ⟨g, k * 3 + 2, none⟩).isSome = true ∧
      TRow ((((((W.setCell ⟨g, i * 3, none⟩ (.int .i64 (t.a : Int))).setCell ⟨g, i * 3 + 1, none⟩ (.int .i64 (t.b : Int))).setCell ⟨g, i * 3 + 2, none⟩ (.int .i64 (t.c : Int))).setCell ⟨g, k * 3, none⟩ (.int .i64 (u.a : Int))).setCell ⟨g, k * 3 + 1, none⟩ (.int .i64 (u.b : Int))).setCell ⟨g, k * 3 + 2, none⟩ (.int .i64 (u.c : Int))) base AT (sT ((T.set i t).set k u)) ∧
      Below base w ((((((W.setCell ⟨g, i * 3, none⟩ (.int .i64 (t.a : Int))).setCell ⟨g, i * 3 + 1, none⟩ (.int .i64 (t.b : Int))).setCell ⟨g, i * 3 + 2, none⟩ (.int .i64 (t.c : Int))).setCell ⟨g, k * 3, none⟩ (.int .i64 (u.a : Int))).setCell ⟨g, k * 3 + 1, none⟩ (.int .i64 (u.b : Int))).setCell ⟨g, k * 3 + 2, none⟩ (.int .i64 (u.c : Int)))) := hide (fun W i k t u hi hk hb g hA => by
    obtain ⟨g', m, f, hA', hg, hm, hr, hf⟩ := hR (by rw [sT_len]; omega)
    rw [hA] at hA'
    injection hA' with hA'; injection hA' with e1 _ _
    subst e1
    have hm' : N * 3 ≤ m := by rw [sT_len] at hm; omega
    have hr' := hr.below hb hr.lt
    refine ⟨hr'.frozen _, hr'.frozen _, hr'.frozen _, hr'.frozen _, hr'.frozen _, hr'.frozen _, by rw [hr'.cell (by omega)]; rfl, by rw [hr'.cell (by omega)]; rfl, by rw [hr'.cell (by omega)]; rfl, fun _ => ?_, ?_⟩
    · have r1 := ((hr'.set (i := i * 3) (by omega) (.int .i64 (t.a : Int))).set (i := i * 3 + 1) (by omega) (.int .i64 (t.b : Int))).set (i := i * 3 + 2) (by omega) (.int .i64 (t.c : Int))
      have r2 := ((r1.set (i := k * 3) (by omega) (.int .i64 (u.a : Int))).set (i := k * 3 + 1) (by omega) (.int .i64 (u.b : Int))).set (i := k * 3 + 2) (by omega) (.int .i64 (u.c : Int))
      refine ⟨g, m, _, hA, hg, by rw [sT_len, List.length_set, List.length_set]; omega, r2, ?_⟩
      exact tri_put (T := T.set i t) (by rw [List.length_set]; omega) u (tri_put (T := T) (by omega) t hf)
    · have hb' := hb.mono hbase
      exact (((((hb'.setCell (p := ⟨g, i * 3, none⟩) hg _).setCell (p := ⟨g, i * 3 + 1, none⟩) hg _).setCell (p := ⟨g, i * 3 + 2, none⟩) hg _).setCell (p := ⟨g, k * 3, none⟩) hg _).setCell (p := ⟨g, k * 3 + 1, none⟩) hg _).setCell (p := ⟨g, k * 3 + 2, none⟩) hg _)
  clear hn hok hs hN hT hR hbase
  go_enter Try.func48, Try.ntmps48
  go_wp2_with fail
  go_loopw [19] (fun u19 wr => ∃ i : Nat, i ≤ N ∧ u19 = .int .i64 i ∧ Hid (∀ j, j < i → flI ps T j = none) ∧ ∃ x, wr = ext w x) (fun u19 _ => N - (intOf u19).toNat)
  case atStart => exact ⟨0, Nat.zero_le _, rfl, hide (fun j hj => by omega), ext_same _⟩
  case round =>
    obtain ⟨i, hi, rfl, hpi, x1, rfl⟩ := hrel
    have B1 : Below w.heap.size w (ext w x1) := (by (repeat' (first | (with_reducible first | exact Below.refl _ _ | assumption | refine below_ext _ ?_ ?_ | refine Below.alloc ?_ ?_ _ | refine Below.drew ?_ | refine below_drewN ?_ _ | refine le_drewN _ ?_ | refine Below.setCell ?_ ?_ _ | exact Nat.le_refl _ | refine le_ext _ ?_ | refine le_alloc _ ?_ | refine le_setCell _ _ ?_ | refine le_drew ?_) | omega | (simp; done) | (simp; omega))))
    have z1 := B1.size
    by_cases hlt : i < N
    · obtain ⟨gt1, rfl, lg1, k0, k1, k2⟩ := TC.out _ B1 i hlt
      obtain ⟨pt1, pos1⟩ := PT3.out i hlt
      go_wp2_with fail
      refine (corners3_any _ _ _ _).mono ?_
      rintro e w' ⟨rfl, hw'⟩; have hzy1 := ext_sz hw'; obtain ⟨y1, rfl⟩ := hw'; (try simp at hzy1)
      go_wp2_with fail
      obtain ⟨W1, hW1⟩ : ∃ W1, W1 = (ext ((ext w x1).alloc (.cells #[.int .i64 ((gT T i).a : Int), .int .i64 ((gT T i).b : Int), .int .i64 ((gT T i).c : Int)] 37)) y1).alloc (.cells #[.int .i64 ((gT T i).a : Int), .int .i64 ((gT T i).b : Int), .int .i64 ((gT T i).c : Int)] 74) := ⟨_, rfl⟩
      obtain ⟨gc, hgc⟩ : ∃ gc, gc = (ext ((ext w x1).alloc (.cells #[.int .i64 ((gT T i).a : Int), .int .i64 ((gT T i).b : Int), .int .i64 ((gT T i).c : Int)] 37)) y1).heap.size := ⟨_, rfl⟩
      have C1 : Hid (W1.heap[gc]? = some (.cells #[.int .i64 ((gT T i).a : Int), .int .i64 ((gT T i).b : Int), .int .i64 ((gT T i).c : Int)] 74 (0, 0))) := hide (by rw [hW1, hgc]; exact heap_alloc_new _ _)
      have BW1 : Hid (Below w.heap.size w W1) := hide (by rw [hW1]; exact (by (repeat' (first | (with_reducible first | exact Below.refl _ _ | assumption | refine below_ext _ ?_ ?_ | refine Below.alloc ?_ ?_ _ | refine Below.drew ?_ | refine below_drewN ?_ _ | refine le_drewN _ ?_ | refine Below.setCell ?_ ?_ _ | exact Nat.le_refl _ | refine le_ext _ ?_ | refine le_alloc _ ?_ | refine le_setCell _ _ ?_ | refine le_drew ?_) | omega | (simp; done) | (simp; omega)))))
      rw [← hW1, ← hgc]
      clear hW1 hgc k0 k1 k2 z1 B1 lg1 hzy1
      have lgc := heap_lt C1.out
      have zw1 := BW1.out.size
      go_loopw [26] (fun u26 wr => ∃ s : Nat, s ≤ 3 ∧ u26 = .int .i64 s ∧ Hid (∀ j, j < s → flS ps T i j = none) ∧ ∃ x, wr = ext W1 x) (fun u26 _ => 3 - (intOf u26).toNat)
      case atStart => exact ⟨0, Nat.zero_le _, rfl, hide (fun j hj => by omega), ext_same _⟩
      case round =>
        obtain ⟨s, hs3, rfl, hps, x2, rfl⟩ := hrel
        have B2 : Below W1.heap.size W1 (ext W1 x2) := ext_below _ _
        have z2 := B2.size
        by_cases hls : s < 3
        · have hC := (B2.block gc lgc).trans C1.out
          obtain ⟨j1, hj1⟩ : ∃ j, j = (s + 1) % 3 := ⟨_, rfl⟩
          obtain ⟨j2, hj2⟩ : ∃ j, j = (s + 2) % 3 := ⟨_, rfl⟩
          have e1 : Int.tmod ((s : Int) + 1) 3 = (j1 : Int) := by rw [hj1]; exact (Int.ofNat_tmod (s + 1) 3).symm
          have e2 : Int.tmod ((s : Int) + 2) 3 = (j2 : Int) := by rw [hj2]; exact (Int.ofNat_tmod (s + 2) 3).symm
          have l1 : j1 < 3 := by omega
          have l2 : j2 < 3 := by omega
          have k0 := (heap_cell hC s).trans (cor_at (gT T i) hls)
          have k1 := (heap_cell hC j1).trans (cor_at (gT T i) l1)
          have k2 := (heap_cell hC j2).trans (cor_at (gT T i) l2)
          rw [hj1, cor_mod, ← hj1] at k1
          rw [hj2, cor_mod, ← hj2] at k2
          have la := cor_lt pt1 s
          have lb := cor_lt pt1 (s + 1)
          have lc := cor_lt pt1 (s + 2)
          have HB : Hid (∀ k r, hitB ps T i s k r = (decide (cor (gT T k) r = cor (gT T i) (s + 1)) && decide (cor (gT T k) (r + 1) = cor (gT T i) s) && decide (0 < icD (gp ps (cor (gT T i) s)) (gp ps (cor (gT T i) (s + 1))) (gp ps (cor (gT T i) (s + 2))) (gp ps (cor (gT T k) (r + 2)))))) := hide (fun k r => rfl)
          have FA : Hid (∀ k r, flipAt T i s k r = (T.set i ⟨cor (gT T i) (s + 2), cor (gT T i) s, cor (gT T k) (r + 2)⟩).set k ⟨cor (gT T i) (s + 2), cor (gT T k) (r + 2), cor (gT T i) (s + 1)⟩) := hide (fun k r => rfl)
          have NE0 : Hid (∀ k r, r < 3 → cor (gT T k) r = cor (gT T i) (s + 1) → cor (gT T k) (r + 1) = cor (gT T i) s → i ≠ k) := hide (fun k r hr e1 e2 e => by
            subst e
            refine cor_no ?_ hls hr e1 e2
            unfold trnT at pos1
            refine ⟨fun e => ?_, fun e => ?_, fun e => ?_⟩
            · rw [e, trn_aab] at pos1; omega
            · rw [e, trn_abb] at pos1; omega
            · rw [e, trn_aba] at pos1; omega)
          have TP : 0 < trn (gp ps (cor (gT T i) s)) (gp ps (cor (gT T i) (s + 1))) (gp ps (cor (gT T i) (s + 2))) := by have := rot_trn ps (gT T i) hls; unfold trnT rotT at this; simp only at this; unfold trnT at pos1; omega
          have TS : sgn (trn (gp ps (cor (gT T i) s)) (gp ps (cor (gT T i) (s + 1))) (gp ps (cor (gT T i) (s + 2)))) = 1 := sgn_pos TP
          have IC1 : Hid (∀ l, l < n → ∀ W, Calls Try.prog 55 #[.agg #[.int .i64 (pX ps (cor (gT T i) s)), .int .i64 (pY ps (cor (gT T i) s))], .agg #[.int .i64 (pX ps (cor (gT T i) (s + 1))), .int .i64 (pY ps (cor (gT T i) (s + 1)))], .agg #[.int .i64 (pX ps (cor (gT T i) (s + 2))), .int .i64 (pY ps (cor (gT T i) (s + 2)))], .agg #[.int .i64 (pX ps l), .int .i64 (pY ps l)]] W fun e w' => e = .returned (.int .i64 (sgn (icD (gp ps (cor (gT T i) s)) (gp ps (cor (gT T i) (s + 1))) (gp ps (cor (gT T i) (s + 2))) (gp ps l)))) ∧ ∃ x, w' = ext W x) := hide (fun l hl W => by
            have := IC.out _ _ _ l la lb lc hl W
            rw [TS, Int.mul_one] at this
            exact this)
          have q0 : (0 : Int) ≤ (s : Int) := by omega
          have q1 : (s : Int) < 3 := by omega
          have q2 : (j1 : Int) < 3 := by omega
          have q3 : (j2 : Int) < 3 := by omega
          clear hj1 hj2 hC TP TS
          generalize cor (gT T i) s = a at *
          generalize cor (gT T i) (s + 1) = b at *
          generalize cor (gT T i) (s + 2) = d at *
          go_wp2_with fail
          refine wp_region_ext (by kernel_rfl) (by kernel_rfl) ?_
          repeat (go_big_quiet_step (fail))
          refine wpQuiet_nil ?_
          rintro _ hnq
          have hzq := ext_sz hnq
          obtain ⟨nq, rfl⟩ := hnq
          (try simp at hzq)
          have B3 : Hid (Below w.heap.size w (ext (ext W1 x2) nq)) := hide (BW1.out.trans (Below.mono (by (repeat' (first | (with_reducible first | exact Below.refl _ _ | assumption | refine below_ext _ ?_ ?_ | refine Below.alloc ?_ ?_ _ | refine Below.drew ?_ | refine below_drewN ?_ _ | refine le_drewN _ ?_ | refine Below.setCell ?_ ?_ _ | exact Nat.le_refl _ | refine le_ext _ ?_ | refine le_alloc _ ?_ | refine le_setCell _ _ ?_ | refine le_drew ?_) | omega | (simp; done) | (simp; omega)))) BW1.out.size))
          generalize hW2 : ext (ext W1 x2) nq = W2 at *
          have B12 : Hid (Below W1.heap.size W1 W2) := hide (by rw [← hW2]; exact (by (repeat' (first | (with_reducible first | exact Below.refl _ _ | assumption | refine below_ext _ ?_ ?_ | refine Below.alloc ?_ ?_ _ | refine Below.drew ?_ | refine below_drewN ?_ _ | refine le_drewN _ ?_ | refine Below.setCell ?_ ?_ _ | exact Nat.le_refl _ | refine le_ext _ ?_ | refine le_alloc _ ?_ | refine le_setCell _ _ ?_ | refine le_drew ?_) | omega | (simp; done) | (simp; omega)))))
          clear hW2 k0 k1 k2 e1 e2 l1 l2 q0 q1 q2 q3 B2 z2 hzq
          have z12 := B12.out.size
          go_wp2_with fail
          go_loopw [44] (fun u44 wr => ∃ k : Nat, k ≤ N ∧ u44 = .int .i64 k ∧ Hid (∀ j, j < k → flK ps T i s j = none) ∧ ∃ x, wr = ext W2 x) (fun u44 _ => N - (intOf u44).toNat)
          case atStart => exact ⟨0, Nat.zero_le _, rfl, hide (fun j hj => by omega), ext_same _⟩
          case round =>
            obtain ⟨k, hk, rfl, hpk, x3, rfl⟩ := hrel
            have B4 : Hid (Below w.heap.size w (ext W2 x3)) := hide (B3.out.trans (Below.mono (by (repeat' (first | (with_reducible first | exact Below.refl _ _ | assumption | refine below_ext _ ?_ ?_ | refine Below.alloc ?_ ?_ _ | refine Below.drew ?_ | refine below_drewN ?_ _ | refine le_drewN _ ?_ | refine Below.setCell ?_ ?_ _ | exact Nat.le_refl _ | refine le_ext _ ?_ | refine le_alloc _ ?_ | refine le_setCell _ _ ?_ | refine le_drew ?_) | omega | (simp; done) | (simp; omega)))) B3.out.size))
            by_cases hlk : k < N
            · obtain ⟨gt2, hg2, lg2, k0, k1, k2⟩ := TC.out _ B4.out k hlk
              injection hg2 with hg2
              injection hg2 with hg2 _ _
              subst hg2
              obtain ⟨pt2, pos2⟩ := PT3.out k hlk
              clear pos2
              go_wp2_with fail
              refine (corners3_any _ _ _ _).mono ?_
              rintro e w' ⟨rfl, hw'⟩; have hzy2 := ext_sz hw'; obtain ⟨y2, rfl⟩ := hw'; (try simp at hzy2)
              go_wp2_with fail
              obtain ⟨W3, hW3⟩ : ∃ W3, W3 = (ext ((ext W2 x3).alloc (.cells #[.int .i64 ((gT T k).a : Int), .int .i64 ((gT T k).b : Int), .int .i64 ((gT T k).c : Int)] 37)) y2).alloc (.cells #[.int .i64 ((gT T k).a : Int), .int .i64 ((gT T k).b : Int), .int .i64 ((gT T k).c : Int)] 74) := ⟨_, rfl⟩
              obtain ⟨gd, hgd⟩ : ∃ gd, gd = (ext ((ext W2 x3).alloc (.cells #[.int .i64 ((gT T k).a : Int), .int .i64 ((gT T k).b : Int), .int .i64 ((gT T k).c : Int)] 37)) y2).heap.size := ⟨_, rfl⟩
              have C3 : Hid (W3.heap[gd]? = some (.cells #[.int .i64 ((gT T k).a : Int), .int .i64 ((gT T k).b : Int), .int .i64 ((gT T k).c : Int)] 74 (0, 0))) := hide (by rw [hW3, hgd]; exact heap_alloc_new _ _)
              have B23 : Hid (Below W2.heap.size W2 W3) := hide (by rw [hW3]; exact (by (repeat' (first | (with_reducible first | exact Below.refl _ _ | assumption | refine below_ext _ ?_ ?_ | refine Below.alloc ?_ ?_ _ | refine Below.drew ?_ | refine below_drewN ?_ _ | refine le_drewN _ ?_ | refine Below.setCell ?_ ?_ _ | exact Nat.le_refl _ | refine le_ext _ ?_ | refine le_alloc _ ?_ | refine le_setCell _ _ ?_ | refine le_drew ?_) | omega | (simp; done) | (simp; omega)))))
              have BW3 := hide (B3.out.trans (B23.out.mono B3.out.size))
              rw [← hW3, ← hgd]
              clear hW3 hgd k0 k1 k2 B4 lg2 hzy2
              have lgd := heap_lt C3.out
              have zw3 := BW3.out.size
              have z23 := B23.out.size
              go_loopw [51] (fun u51 wr => ∃ r : Nat, r ≤ 3 ∧ u51 = .int .i64 r ∧ Hid (∀ j, j < r → flR ps T i s k j = none) ∧ ∃ x, wr = ext W3 x) (fun u51 _ => 3 - (intOf u51).toNat)
              case atStart => exact ⟨0, Nat.zero_le _, rfl, hide (fun j hj => by omega), ext_same _⟩
              case round =>
                obtain ⟨r, hr3, rfl, hpr, x4, rfl⟩ := hrel
                have B5 : Below W3.heap.size W3 (ext W3 x4) := ext_below _ _
                have z5 := B5.size
                by_cases hlr : r < 3
                · have hC := (B5.block gd lgd).trans C3.out
                  obtain ⟨j1, hj1⟩ : ∃ j, j = (r + 1) % 3 := ⟨_, rfl⟩
                  obtain ⟨j2, hj2⟩ : ∃ j, j = (r + 2) % 3 := ⟨_, rfl⟩
                  have e1 : Int.tmod ((r : Int) + 1) 3 = (j1 : Int) := by rw [hj1]; exact (Int.ofNat_tmod (r + 1) 3).symm
                  have e2 : Int.tmod ((r : Int) + 2) 3 = (j2 : Int) := by rw [hj2]; exact (Int.ofNat_tmod (r + 2) 3).symm
                  have l1 : j1 < 3 := by omega
                  have l2 : j2 < 3 := by omega
                  have k0 := (heap_cell hC r).trans (cor_at (gT T k) hlr)
                  have k1 := (heap_cell hC j1).trans (cor_at (gT T k) l1)
                  have k2 := (heap_cell hC j2).trans (cor_at (gT T k) l2)
                  rw [hj1, cor_mod, ← hj1] at k1
                  rw [hj2, cor_mod, ← hj2] at k2
                  have lq := cor_lt pt2 (r + 2)
                  have HBr := hide (HB.out k r)
                  have FAr := hide (FA.out k r)
                  have FR : Hid (hitB ps T i s k r = false → flR ps T i s k r = none) := hide (fun h => by unfold flR; rw [if_neg (by rw [h]; simp)])
                  have FH : Hid (hitB ps T i s k r = true → flip1 ps T = some (flipAt T i s k r)) := hide (fun h => fnd_some (by rw [HT.out]; exact hlt) (fnd_some hls (fnd_some (by rw [HT.out]; exact hlk) (fnd_some hlr (by unfold flR; rw [if_pos h]) hpr.out) hpk.out) hps.out) hpi.out)
                  have NE1 := hide (NE0.out k r hlr)
                  have q0 : (0 : Int) ≤ (r : Int) := by omega
                  have q1 : (r : Int) < 3 := by omega
                  have q2 : (j1 : Int) < 3 := by omega
                  have q3 : (j2 : Int) < 3 := by omega
                  clear hj1 hj2 hC
                  generalize cor (gT T k) r = c0 at *
                  generalize cor (gT T k) (r + 1) = c1 at *
                  generalize cor (gT T k) (r + 2) = q at *
                  by_cases h1 : c0 = b
                  · subst h1
                    have d1 : ((c0 : Int) != (c0 : Int)) = false := by simp
                    by_cases h2 : c1 = a
                    · subst h2
                      have d2 : ((c1 : Int) != (c1 : Int)) = false := by simp
                      have CD := hide (CELL.out (ext W3 x4) (BW3.out.trans (B5.mono BW3.out.size)))
                      obtain ⟨pb, po, rfl, lpb, xa, ya⟩ := CD.out c1 la
                      obtain ⟨pb', po', hpp, _, xb, yb⟩ := CD.out c0 lb
                      injection hpp with hpp
                      injection hpp with hp1 hp2 _
                      subst hp1 hp2
                      obtain ⟨pb', po', hpp, _, xd, yd⟩ := CD.out d lc
                      injection hpp with hpp
                      injection hpp with hp1 hp2 _
                      subst hp1 hp2
                      obtain ⟨pb', po', hpp, _, xq, yq⟩ := CD.out q lq
                      injection hpp with hpp
                      injection hpp with hp1 hp2 _
                      subst hp1 hp2
                      have ICq := hide (IC1.out q lq)
                      have r1 : (c1 : Int) < (n : Int) := by omega
                      have r2 : (c0 : Int) < (n : Int) := by omega
                      have r3 : (d : Int) < (n : Int) := by omega
                      have r4 : (q : Int) < (n : Int) := by omega
                      have SGI := sgn_iff (icD (gp ps c1) (gp ps c0) (gp ps d) (gp ps q))
                      by_cases hD : 0 < icD (gp ps c1) (gp ps c0) (gp ps d) (gp ps q)
                      · have dd : decide (0 < sgn (icD (gp ps c1) (gp ps c0) (gp ps d) (gp ps q))) = true := decide_eq_true (SGI.2 hD)
                        have HIT := hide (FH.out (by rw [HBr.out]; simp [hD]))
                        rw [FAr.out] at HIT
                        have PT := hide (fun W hb => PUT.out W i k ⟨d, c1, q⟩ ⟨d, q, c0⟩ hlt hlk hb gt1 rfl)
                        clear CD IC IC1 FH FR HBr FAr SGI hD PUT
                        generalize sgn (icD (gp ps c1) (gp ps c0) (gp ps d) (gp ps q)) = D at *
                        generalize pX ps c1 = X1 at *
                        generalize pY ps c1 = Y1 at *
                        generalize pX ps c0 = X0 at *
                        generalize pY ps c0 = Y0 at *
                        generalize pX ps d = XD at *
                        generalize pY ps d = YD at *
                        generalize pX ps q = XQ at *
                        generalize pY ps q = YQ at *
                        go_wp2_with fail
                        refine wp_region_ext (by kernel_rfl) (by kernel_rfl) ?_
                        repeat (go_big_quiet_step ((first | (go_at_call 55; exact Calls.in_ext (ICq.out _)))))
                        refine wpQuiet_nil ?_
                        rintro _ hnq
                        have hzq := ext_sz hnq
                        obtain ⟨nq, rfl⟩ := hnq
                        (try simp at hzq)
                        have BF : Below w.heap.size w (ext (ext W3 x4) nq) := BW3.out.trans (Below.mono (by (repeat' (first | (with_reducible first | exact Below.refl _ _ | assumption | refine below_ext _ ?_ ?_ | refine Below.alloc ?_ ?_ _ | refine Below.drew ?_ | refine below_drewN ?_ _ | refine le_drewN _ ?_ | refine Below.setCell ?_ ?_ _ | exact Nat.le_refl _ | refine le_ext _ ?_ | refine le_alloc _ ?_ | refine le_setCell _ _ ?_ | refine le_drew ?_) | omega | (simp; done) | (simp; omega)))) BW3.out.size)
                        obtain ⟨f0, f1, f2, f3, f4, f5, s0, s1, s2, TR, BB⟩ := PT.out _ BF
                        have TRH := hide TR
                        have BBH := hide BB
                        obtain ⟨g2, hg2, lg2, m0, m1, m2⟩ := TC.out _ BF i hlt
                        injection hg2 with hg2
                        injection hg2 with hg2 _ _
                        subst hg2
                        obtain ⟨g2, hg2, _, m3, m4, m5⟩ := TC.out _ BF k hlk
                        injection hg2 with hg2
                        injection hg2 with hg2 _ _
                        subst hg2
                        have w0 : i ≠ k := NE1.out (by first | rfl | trivial) (by first | rfl | trivial)
                        have w1 : (i : Int) < (N : Int) := by omega
                        have w2 : (k : Int) < (N : Int) := by omega
                        clear TR BB TC PT
                        go_wp2_with fail
                        go_ret
                        exact .inr ⟨_, HIT.out, rfl, TRH.out, BBH.out⟩
                      · have dd : decide (0 < sgn (icD (gp ps c1) (gp ps c0) (gp ps d) (gp ps q))) = false := decide_eq_false (fun h => hD (SGI.1 h))
                        have NR := hide (FR.out (by rw [HBr.out]; simp [hD]))
                        have NX : Hid (∀ j, j < r + 1 → flR ps T i s k j = none) := hide (fun j hj => by rcases Nat.lt_succ_iff_lt_or_eq.1 hj with h | rfl; exact hpr.out j h; exact NR.out)
                        clear CD IC IC1 FH FR HBr FAr SGI hD PUT TC hpr NR
                        generalize sgn (icD (gp ps c1) (gp ps c0) (gp ps d) (gp ps q)) = D at *
                        generalize pX ps c1 = X1 at *
                        generalize pY ps c1 = Y1 at *
                        generalize pX ps c0 = X0 at *
                        generalize pY ps c0 = Y0 at *
                        generalize pX ps d = XD at *
                        generalize pY ps d = YD at *
                        generalize pX ps q = XQ at *
                        generalize pY ps q = YQ at *
                        go_wp2_with fail
                        refine wp_region_ext (by kernel_rfl) (by kernel_rfl) ?_
                        repeat (go_big_quiet_step ((first | (go_at_call 55; exact Calls.in_ext (ICq.out _)))))
                        refine wpQuiet_nil ?_
                        rintro _ hnq
                        have hzq := ext_sz hnq
                        obtain ⟨nq, rfl⟩ := hnq
                        (try simp at hzq)
                        go_wp2_with fail
                        exact ⟨⟨r + 1, by omega, by go_num, NX, (ext_mk (by (repeat' (first | (with_reducible first | exact Below.refl _ _ | assumption | refine below_ext _ ?_ ?_ | refine Below.alloc ?_ ?_ _ | refine Below.drew ?_ | refine below_drewN ?_ _ | refine le_drewN _ ?_ | refine Below.setCell ?_ ?_ _ | exact Nat.le_refl _ | refine le_ext _ ?_ | refine le_alloc _ ?_ | refine le_setCell _ _ ?_ | refine le_drew ?_) | omega | (simp; done) | (simp; omega)))))⟩, by simp [intOf]; omega⟩
                    · have d2 : ((c1 : Int) != (a : Int)) = true := by rw [bne_iff_ne]; omega
                      have NR := hide (FR.out (by rw [HBr.out]; simp [h2]))
                      have NX : Hid (∀ j, j < r + 1 → flR ps T i s k j = none) := hide (fun j hj => by rcases Nat.lt_succ_iff_lt_or_eq.1 hj with h | rfl; exact hpr.out j h; exact NR.out)
                      clear IC IC1 FH FR HBr FAr PUT TC hpr NR h2
                      go_wp2_with fail
                      exact ⟨⟨r + 1, by omega, by go_num, NX, (ext_mk (by (repeat' (first | (with_reducible first | exact Below.refl _ _ | assumption | refine below_ext _ ?_ ?_ | refine Below.alloc ?_ ?_ _ | refine Below.drew ?_ | refine below_drewN ?_ _ | refine le_drewN _ ?_ | refine Below.setCell ?_ ?_ _ | exact Nat.le_refl _ | refine le_ext _ ?_ | refine le_alloc _ ?_ | refine le_setCell _ _ ?_ | refine le_drew ?_) | omega | (simp; done) | (simp; omega)))))⟩, by simp [intOf]; omega⟩
                  · have d1 : ((c0 : Int) != (b : Int)) = true := by rw [bne_iff_ne]; omega
                    have NR := hide (FR.out (by rw [HBr.out]; simp [h1]))
                    have NX : Hid (∀ j, j < r + 1 → flR ps T i s k j = none) := hide (fun j hj => by rcases Nat.lt_succ_iff_lt_or_eq.1 hj with h | rfl; exact hpr.out j h; exact NR.out)
                    clear IC IC1 FH FR HBr FAr PUT TC hpr NR h1
                    go_wp2_with fail
                    exact ⟨⟨r + 1, by omega, by go_num, NX, (ext_mk (by (repeat' (first | (with_reducible first | exact Below.refl _ _ | assumption | refine below_ext _ ?_ ?_ | refine Below.alloc ?_ ?_ _ | refine Below.drew ?_ | refine below_drewN ?_ _ | refine le_drewN _ ?_ | refine Below.setCell ?_ ?_ _ | exact Nat.le_refl _ | refine le_ext _ ?_ | refine le_alloc _ ?_ | refine le_setCell _ _ ?_ | refine le_drew ?_) | omega | (simp; done) | (simp; omega)))))⟩, by simp [intOf]; omega⟩
                · have er : r = 3 := by omega
                  subst er
                  have NX : Hid (∀ j, j < k + 1 → flK ps T i s j = none) := hide (fun j hj => by rcases Nat.lt_succ_iff_lt_or_eq.1 hj with h | rfl; exact hpk.out j h; exact fnd_none hpr.out)
                  clear hpk hpr
                  go_wp2_with fail
                  exact ⟨⟨k + 1, by omega, by go_num, NX, ext_mk (B23.out.trans (Below.mono (show Below W3.heap.size W3 _ from (by (repeat' (first | (with_reducible first | exact Below.refl _ _ | assumption | refine below_ext _ ?_ ?_ | refine Below.alloc ?_ ?_ _ | refine Below.drew ?_ | refine below_drewN ?_ _ | refine le_drewN _ ?_ | refine Below.setCell ?_ ?_ _ | exact Nat.le_refl _ | refine le_ext _ ?_ | refine le_alloc _ ?_ | refine le_setCell _ _ ?_ | refine le_drew ?_) | omega | (simp; done) | (simp; omega))))) B23.out.size))⟩, by simp [intOf]; omega⟩
            · have ek : k = N := by omega
              have NX : Hid (∀ j, j < s + 1 → flS ps T i j = none) := hide (fun j hj => by rcases Nat.lt_succ_iff_lt_or_eq.1 hj with h | rfl; exact hps.out j h; exact fnd_none (by rw [HT.out]; exact fun m hm => hpk.out m (by omega)))
              clear hps hpk
              go_wp2_with fail
              exact ⟨⟨s + 1, by omega, by go_num, NX, ext_mk (B12.out.trans (Below.mono (show Below W2.heap.size W2 _ from (by (repeat' (first | (with_reducible first | exact Below.refl _ _ | assumption | refine below_ext _ ?_ ?_ | refine Below.alloc ?_ ?_ _ | refine Below.drew ?_ | refine below_drewN ?_ _ | refine le_drewN _ ?_ | refine Below.setCell ?_ ?_ _ | exact Nat.le_refl _ | refine le_ext _ ?_ | refine le_alloc _ ?_ | refine le_setCell _ _ ?_ | refine le_drew ?_) | omega | (simp; done) | (simp; omega))))) B12.out.size))⟩, by simp [intOf]; omega⟩
        · have es : s = 3 := by omega
          subst es
          have NX : Hid (∀ j, j < i + 1 → flI ps T j = none) := hide (fun j hj => by rcases Nat.lt_succ_iff_lt_or_eq.1 hj with h | rfl; exact hpi.out j h; exact fnd_none hps.out)
          clear hpi hps
          go_wp2_with fail
          exact ⟨⟨i + 1, by omega, by go_num, NX, ext_mk (BW1.out.trans (Below.mono (show Below W1.heap.size W1 _ from (by (repeat' (first | (with_reducible first | exact Below.refl _ _ | assumption | refine below_ext _ ?_ ?_ | refine Below.alloc ?_ ?_ _ | refine Below.drew ?_ | refine below_drewN ?_ _ | refine le_drewN _ ?_ | refine Below.setCell ?_ ?_ _ | exact Nat.le_refl _ | refine le_ext _ ?_ | refine le_alloc _ ?_ | refine le_setCell _ _ ?_ | refine le_drew ?_) | omega | (simp; done) | (simp; omega))))) BW1.out.size))⟩, by simp [intOf]; omega⟩
    · have ei : i = N := by omega
      have R : Hid (flip1 ps T = none) := hide (fnd_none (by rw [HT.out]; exact fun j hj => hpi.out j (by omega)))
      clear hpi
      go_wp2_with fail
      go_ret
      exact .inl ⟨R.out, rfl, (ext_mk (by (repeat' (first | (with_reducible first | exact Below.refl _ _ | assumption | refine below_ext _ ?_ ?_ | refine Below.alloc ?_ ?_ _ | refine Below.drew ?_ | refine below_drewN ?_ _ | refine le_drewN _ ?_ | refine Below.setCell ?_ ?_ _ | exact Nat.le_refl _ | refine le_ext _ ?_ | refine le_alloc _ ?_ | refine le_setCell _ _ ?_ | refine le_drew ?_) | omega | (simp; done) | (simp; omega)))))⟩
end Go.Proofs.Ytcebmcbglhkkfaa
