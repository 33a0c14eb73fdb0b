
/- The reference's relation of two segments, and its test of a simple polygon. -/
/- Areas, points of the boundary and of the interior of a polygon: the program's and the reference's. -/
/- DoubleArea, BoundaryCount, InteriorCount: the program's and the reference's. -/
import Derived.Test.YtnddfdhfefconaaGreatDoorRel
import Derived.Test.YtnddfdhfefconaaGreatDoorSHull
import Derived.Test.YtnddfdhfefconaaGreatDoorSimI
import Derived.BigRegion
import Derived.Test.YtnddfdhfefconaaGreatDoorRelM
set_option linter.unusedVariables false
set_option linter.unusedSimpArgs false
namespace Go.Proofs.YtnddfdhfefconaaGreatDoor
open Go.RowKit

theorem RowAt.four (w : World) (p q r t : Pt) : RowAt (w.alloc (.cells #[.int .i64 p.x, .int .i64 p.y, .int .i64 q.x, .int .i64 q.y, .int .i64 r.x, .int .i64 r.y, .int .i64 t.x, .int .i64 t.y] 41)) w.heap.size 41 8 (ptCell [p, q, r, t]) :=
  RowAt.new w _ _ fun j hj => by
    match j, hj with
    | 0, _ => rfl
    | 1, _ => rfl
    | 2, _ => rfl
    | 3, _ => rfl
    | 4, _ => rfl
    | 5, _ => rfl
    | 6, _ => rfl
    | 7, _ => rfl
    | j + 8, h => simp at h; omega
theorem sortP_snoc (l : List Pt) (p : Pt) : sortP (l ++ [p]) = insP p (sortP l) := by unfold sortP; rw [List.foldl_append]; rfl
theorem four_takeS (q : List Pt) (f : Pt → Bool) (k : Nat) (hk : k < q.length) : (q.take (k + 1)).filter f = (q.take k).filter f ++ (if f (gp q k) = true then [gp q k] else []) := by
  rw [List.take_succ_eq_append_getElem hk, List.filter_append, ← gp_lt hk]
  congr 1
  cases h : f (gp q k) <;> simp [h]
def bothS (s t : Sg) (p : Pt) : Bool := onS s p && onS t p
set_option maxHeartbeats 2000000 in
theorem commonEnds_any (a b c d e f g h : Int) (w : World) (ha : -100000 ≤ a ∧ a ≤ 100000) (hb : -100000 ≤ b ∧ b ≤ 100000) (hc : -100000 ≤ c ∧ c ≤ 100000) (hd : -100000 ≤ d ∧ d ≤ 100000) (he : -100000 ≤ e ∧ e ≤ 100000) (hf : -100000 ≤ f ∧ f ≤ 100000) (hg : -100000 ≤ g ∧ g ≤ 100000) (hh : -100000 ≤ h ∧ h ≤ 100000) :
    Calls Tryz.prog 168 #[.agg #[.int .i64 a, .int .i64 b, .int .i64 c, .int .i64 d], .agg #[.int .i64 e, .int .i64 f, .int .i64 g, .int .i64 h]] w fun r w' => ∃ v, r = .returned v ∧ OwnP w' w.heap.size v (sortP (cmnA (⟨a, b⟩, ⟨c, d⟩) (⟨e, f⟩, ⟨g, h⟩))) ∧ ∃ n, w' = ext w n := by
  have H1 := hide (fun (x y : Int) (hx : -100000 ≤ x ∧ x ≤ 100000) (hy : -100000 ≤ y ∧ y ≤ 100000) W => sonSeg_any e f g h x y W he hf hg hh hx hy)
  have H2 := hide (fun (x y : Int) (hx : -100000 ≤ x ∧ x ≤ 100000) (hy : -100000 ≤ y ∧ y ≤ 100000) W => sonSeg_any a b c d x y W ha hb hc hd hx hy)
  have BD : Hid (∀ k, k < 4 → (-100000 ≤ (pX [⟨a, b⟩, ⟨c, d⟩, ⟨e, f⟩, ⟨g, h⟩] k) ∧ (pX [⟨a, b⟩, ⟨c, d⟩, ⟨e, f⟩, ⟨g, h⟩] k) ≤ 100000) ∧ -100000 ≤ (pY [⟨a, b⟩, ⟨c, d⟩, ⟨e, f⟩, ⟨g, h⟩] k) ∧ (pY [⟨a, b⟩, ⟨c, d⟩, ⟨e, f⟩, ⟨g, h⟩] k) ≤ 100000) := hide (fun k hk => by
    match k, hk with
    | 0, _ => exact ⟨ha, hb⟩
    | 1, _ => exact ⟨hc, hd⟩
    | 2, _ => exact ⟨he, hf⟩
    | 3, _ => exact ⟨hg, hh⟩)
  have FIN : Hid (cmnA (⟨a, b⟩, ⟨c, d⟩) (⟨e, f⟩, ⟨g, h⟩) = ([⟨a, b⟩, ⟨c, d⟩, ⟨e, f⟩, ⟨g, h⟩].take 4).filter (bothS (⟨a, b⟩, ⟨c, d⟩) (⟨e, f⟩, ⟨g, h⟩))) := hide rfl
  have TS := hide (four_takeS [⟨a, b⟩, ⟨c, d⟩, ⟨e, f⟩, ⟨g, h⟩] (bothS (⟨a, b⟩, ⟨c, d⟩) (⟨e, f⟩, ⟨g, h⟩)))
  have LL : Hid (∀ k, (sortP (([⟨a, b⟩, ⟨c, d⟩, ⟨e, f⟩, ⟨g, h⟩].take k).filter (bothS (⟨a, b⟩, ⟨c, d⟩) (⟨e, f⟩, ⟨g, h⟩)))).length ≤ 4) := hide (fun k => by
    have h1 := sortP_len (([⟨a, b⟩, ⟨c, d⟩, ⟨e, f⟩, ⟨g, h⟩].take k).filter (bothS (⟨a, b⟩, ⟨c, d⟩) (⟨e, f⟩, ⟨g, h⟩)))
    have h2 := List.length_filter_le (bothS (⟨a, b⟩, ⟨c, d⟩) (⟨e, f⟩, ⟨g, h⟩)) (([⟨a, b⟩, ⟨c, d⟩, ⟨e, f⟩, ⟨g, h⟩] : List Pt).take k)
    rw [List.length_take] at h2
    simp at h2
    omega)
  have O1 : Hid (∀ o1 o2 o4 : Obj, OwnP ((((w.alloc o1).alloc o2).alloc (.cells #[] 41)).alloc o4) (w.heap.size + 2) (.slice (some ⟨w.heap.size + 1 + 1, 0, none⟩) 0 0) []) := hide (fun o1 o2 o4 => by
    have h := OwnP.empty ((w.alloc o1).alloc o2) (w.heap.size + 2) 0 (by simp) #[] rfl (by simp [maxLen])
    rw [size_alloc, size_alloc] at h
    exact h.below ((Below.refl _ _).alloc (Nat.le_refl _) o4))
  have BX1 : Hid (∀ o1 o2 o3 o4 : Obj, ((((w.alloc o1).alloc o2).alloc o3).alloc o4).heap[w.heap.size]? = some o1) := hide (fun o1 o2 o3 o4 => by
    rw [Below.heap_alloc _ _ _ (by first | omega | (simp; done) | (simp; omega)), Below.heap_alloc _ _ _ (by first | omega | (simp; done) | (simp; omega)), Below.heap_alloc _ _ _ (by first | omega | (simp; done) | (simp; omega))]
    exact heap_alloc_new _ _)
  have BX2 : Hid (∀ o1 o2 o3 o4 : Obj, ((((w.alloc o1).alloc o2).alloc o3).alloc o4).heap[w.heap.size + 1]? = some o2) := hide (fun o1 o2 o3 o4 => by
    rw [Below.heap_alloc _ _ _ (by first | omega | (simp; done) | (simp; omega)), Below.heap_alloc _ _ _ (by first | omega | (simp; done) | (simp; omega))]
    have := heap_alloc_new (w.alloc o1) o2
    rw [size_alloc] at this
    exact this)
  have R1 : Hid (∀ o1 o2 o3 : Obj, RowAt ((((w.alloc o1).alloc o2).alloc o3).alloc (.cells #[.int .i64 a, .int .i64 b, .int .i64 c, .int .i64 d, .int .i64 e, .int .i64 f, .int .i64 g, .int .i64 h] 41)) (w.heap.size + 1 + 1 + 1) 41 8 (ptCell [⟨a, b⟩, ⟨c, d⟩, ⟨e, f⟩, ⟨g, h⟩])) := hide (fun o1 o2 o3 => by
    have := RowAt.four (((w.alloc o1).alloc o2).alloc o3) ⟨a, b⟩ ⟨c, d⟩ ⟨e, f⟩ ⟨g, h⟩
    rw [size_alloc, size_alloc, size_alloc] at this
    exact this)
  clear ha hb hc hd he hf hg hh
  go_enter Tryz.func168, Tryz.ntmps168
  go_wp2_with fail
  go_loopw [5, 7] (fun u5 u7 wr => ∃ k : Nat, k ≤ 4 ∧ u7 = .int .i64 k ∧ OwnP wr (w.heap.size + 2) u5 (sortP (([⟨a, b⟩, ⟨c, d⟩, ⟨e, f⟩, ⟨g, h⟩].take k).filter (bothS (⟨a, b⟩, ⟨c, d⟩) (⟨e, f⟩, ⟨g, h⟩)))) ∧ Hid (wr.heap[w.heap.size]? = some (.cells #[.int .i64 a, .int .i64 b, .int .i64 c, .int .i64 d] 96 (0, 0))) ∧ Hid (wr.heap[w.heap.size + 1]? = some (.cells #[.int .i64 e, .int .i64 f, .int .i64 g, .int .i64 h] 96 (0, 0))) ∧ RowAt wr (w.heap.size + 1 + 1 + 1) 41 8 (ptCell [⟨a, b⟩, ⟨c, d⟩, ⟨e, f⟩, ⟨g, h⟩]) ∧ w.heap.size + 4 ≤ wr.heap.size ∧ Below w.heap.size w wr) (fun _ u7 _ => 4 - (intOf u7).toNat)
  case atStart => exact ⟨0, by omega, rfl, O1.out _ _ _, BX1.out _ _ _ _, BX2.out _ _ _ _, R1.out _ _ _, by simp, (by (repeat' (first | (with_reducible first | exact Below.refl _ _ | assumption | refine below_ext _ ?_ ?_ | refine Below.alloc ?_ ?_ _ | refine Below.drew ?_ | refine below_drewN ?_ _ | refine le_drewN _ ?_ | refine Below.setCell ?_ ?_ _ | exact Nat.le_refl _ | refine le_ext _ ?_ | refine le_alloc _ ?_ | refine le_setCell _ _ ?_ | refine le_drew ?_) | omega | (simp; done) | (simp; omega))))⟩
  case round =>
    obtain ⟨k, hk, rfl, hown, HB1, HB2, hrow, hsz, hbel⟩ := hrel
    obtain ⟨A0, n0, c0, rfl⟩ := hown.slice
    have OWN0 := hide hown
    have ROW := hide hrow
    have s0 := heap_cell HB1.out 0
    have s1 := heap_cell HB1.out 1
    have s2 := heap_cell HB1.out 2
    have s3 := heap_cell HB1.out 3
    have t0 := heap_cell HB2.out 0
    have t1 := heap_cell HB2.out 1
    have t2 := heap_cell HB2.out 2
    have t3 := heap_cell HB2.out 3
    simp at s0 s1 s2 s3 t0 t1 t2 t3
    have hln : n0 ≤ 4 := by have := hown.pts.1; have := LL.out k; omega
    clear hown
    by_cases hlt : k < 4
    · have hx := hrow.cell (j := k * 2) (by omega)
      have hy := hrow.cell (j := k * 2 + 1) (by omega)
      rw [ptCell_even] at hx
      rw [ptCell_odd] at hy
      obtain ⟨⟨p1, p2⟩, p3, p4⟩ := BD.out k hlt
      have TT := hide (TS.out k hlt)
      rw [gp_mk] at TT
      clear hrow
      have q1 : (0 : Int) ≤ (k : Int) := by omega
      have q2 : (k : Int) < 4 := by omega
      generalize pX [⟨a, b⟩, ⟨c, d⟩, ⟨e, f⟩, ⟨g, h⟩] k = X at *
      generalize pY [⟨a, b⟩, ⟨c, d⟩, ⟨e, f⟩, ⟨g, h⟩] k = Y at *
      have HA := hide (fun W => H2.out X Y ⟨p1, p2⟩ ⟨p3, p4⟩ W)
      have HBt := hide (fun W => H1.out X Y ⟨p1, p2⟩ ⟨p3, p4⟩ W)
      have CV : Hid (bothS (⟨a, b⟩, ⟨c, d⟩) (⟨e, f⟩, ⟨g, h⟩) ⟨X, Y⟩ = (onSeg ⟨a, b⟩ ⟨c, d⟩ ⟨X, Y⟩ && onSeg ⟨e, f⟩ ⟨g, h⟩ ⟨X, Y⟩)) := hide rfl
      generalize ([⟨a, b⟩, ⟨c, d⟩, ⟨e, f⟩, ⟨g, h⟩].take k).filter (bothS (⟨a, b⟩, ⟨c, d⟩) (⟨e, f⟩, ⟨g, h⟩)) = L at *
      have CU : Hid (∀ (p1 p2 p3 p4 : Int) (v : Bool) W, ((p1, p2, p3, p4, v) = (a, b, c, d, onSeg ⟨a, b⟩ ⟨c, d⟩ ⟨X, Y⟩) ∨ (p1, p2, p3, p4, v) = (e, f, g, h, onSeg ⟨e, f⟩ ⟨g, h⟩ ⟨X, Y⟩)) → Calls Tryz.prog 210 #[.agg #[.int .i64 p1, .int .i64 p2, .int .i64 p3, .int .i64 p4], .agg #[.int .i64 X, .int .i64 Y]] W fun r w' => r = .returned (.bool v) ∧ ∃ m, w' = ext W m) := hide (fun p1 p2 p3 p4 v W hh => by
        rcases hh with hh | hh
        · simp only [Prod.mk.injEq] at hh
          obtain ⟨rfl, rfl, rfl, rfl, rfl⟩ := hh
          exact HA.out W
        · simp only [Prod.mk.injEq] at hh
          obtain ⟨rfl, rfl, rfl, rfl, rfl⟩ := hh
          exact HBt.out W)
      clear HA HBt
      generalize onSeg ⟨a, b⟩ ⟨c, d⟩ ⟨X, Y⟩ = V1 at *
      generalize onSeg ⟨e, f⟩ ⟨g, h⟩ ⟨X, Y⟩ = V2 at *
      cases V1
      · rw [Bool.false_and] at CV
        rw [CV.out] at TT
        have TT2 := hide (TT.out.trans (by rw [if_neg (by simp), List.append_nil]))
        clear TT
        go_wp2_with fail
        refine wp_region_ext (by kernel_rfl) (by kernel_rfl) ?_
        repeat (go_big_quiet_step ((first | (go_at_call 210; exact Calls.in_ext (CU.out _ _ _ _ _ _ (by first | exact .inl rfl | exact .inr rfl))))))
        refine wpQuiet_nil ?_
        rintro _ hnq
        have hzq := ext_sz hnq
        obtain ⟨nq, rfl⟩ := hnq
        (try simp at hzq)
        go_wp2_with fail
        exact ⟨⟨k + 1, by omega, by go_num, by rw [TT2.out]; exact OWN0.out.below (by (repeat' (first | (with_reducible first | exact Below.refl _ _ | assumption | refine below_ext _ ?_ ?_ | refine Below.alloc ?_ ?_ _ | refine Below.drew ?_ | refine below_drewN ?_ _ | refine le_drewN _ ?_ | refine Below.setCell ?_ ?_ _ | exact Nat.le_refl _ | refine le_ext _ ?_ | refine le_alloc _ ?_ | refine le_setCell _ _ ?_ | refine le_drew ?_) | omega | (simp; done) | (simp; omega)))), hide ((Below.block (show Below wr.heap.size wr _ from (by (repeat' (first | (with_reducible first | exact Below.refl _ _ | assumption | refine below_ext _ ?_ ?_ | refine Below.alloc ?_ ?_ _ | refine Below.drew ?_ | refine below_drewN ?_ _ | refine le_drewN _ ?_ | refine Below.setCell ?_ ?_ _ | exact Nat.le_refl _ | refine le_ext _ ?_ | refine le_alloc _ ?_ | refine le_setCell _ _ ?_ | refine le_drew ?_) | omega | (simp; done) | (simp; omega))))) _ (by omega)).trans HB1.out), hide ((Below.block (show Below wr.heap.size wr _ from (by (repeat' (first | (with_reducible first | exact Below.refl _ _ | assumption | refine below_ext _ ?_ ?_ | refine Below.alloc ?_ ?_ _ | refine Below.drew ?_ | refine below_drewN ?_ _ | refine le_drewN _ ?_ | refine Below.setCell ?_ ?_ _ | exact Nat.le_refl _ | refine le_ext _ ?_ | refine le_alloc _ ?_ | refine le_setCell _ _ ?_ | refine le_drew ?_) | omega | (simp; done) | (simp; omega))))) _ (by omega)).trans HB2.out), ROW.out.below (show Below wr.heap.size wr _ from (by (repeat' (first | (with_reducible first | exact Below.refl _ _ | assumption | refine below_ext _ ?_ ?_ | refine Below.alloc ?_ ?_ _ | refine Below.drew ?_ | refine below_drewN ?_ _ | refine le_drewN _ ?_ | refine Below.setCell ?_ ?_ _ | exact Nat.le_refl _ | refine le_ext _ ?_ | refine le_alloc _ ?_ | refine le_setCell _ _ ?_ | refine le_drew ?_) | omega | (simp; done) | (simp; omega))))) ROW.out.lt, by first | omega | (simp; omega), hbel.trans (show Below w.heap.size wr _ from (by (repeat' (first | (with_reducible first | exact Below.refl _ _ | assumption | refine below_ext _ ?_ ?_ | refine Below.alloc ?_ ?_ _ | refine Below.drew ?_ | refine below_drewN ?_ _ | refine le_drewN _ ?_ | refine Below.setCell ?_ ?_ _ | exact Nat.le_refl _ | refine le_ext _ ?_ | refine le_alloc _ ?_ | refine le_setCell _ _ ?_ | refine le_drew ?_) | omega | (simp; done) | (simp; omega)))))⟩, by simp [intOf]; omega⟩
      · cases V2
        · rw [Bool.true_and] at CV
          rw [CV.out] at TT
          have TT2 := hide (TT.out.trans (by rw [if_neg (by simp), List.append_nil]))
          clear TT
          go_wp2_with fail
          refine wp_region_ext (by kernel_rfl) (by kernel_rfl) ?_
          repeat (go_big_quiet_step ((first | (go_at_call 210; exact Calls.in_ext (CU.out _ _ _ _ _ _ (by first | exact .inl rfl | exact .inr rfl))))))
          refine wpQuiet_nil ?_
          rintro _ hnq
          have hzq := ext_sz hnq
          obtain ⟨nq, rfl⟩ := hnq
          (try simp at hzq)
          go_wp2_with fail
          exact ⟨⟨k + 1, by omega, by go_num, by rw [TT2.out]; exact OWN0.out.below (by (repeat' (first | (with_reducible first | exact Below.refl _ _ | assumption | refine below_ext _ ?_ ?_ | refine Below.alloc ?_ ?_ _ | refine Below.drew ?_ | refine below_drewN ?_ _ | refine le_drewN _ ?_ | refine Below.setCell ?_ ?_ _ | exact Nat.le_refl _ | refine le_ext _ ?_ | refine le_alloc _ ?_ | refine le_setCell _ _ ?_ | refine le_drew ?_) | omega | (simp; done) | (simp; omega)))), hide ((Below.block (show Below wr.heap.size wr _ from (by (repeat' (first | (with_reducible first | exact Below.refl _ _ | assumption | refine below_ext _ ?_ ?_ | refine Below.alloc ?_ ?_ _ | refine Below.drew ?_ | refine below_drewN ?_ _ | refine le_drewN _ ?_ | refine Below.setCell ?_ ?_ _ | exact Nat.le_refl _ | refine le_ext _ ?_ | refine le_alloc _ ?_ | refine le_setCell _ _ ?_ | refine le_drew ?_) | omega | (simp; done) | (simp; omega))))) _ (by omega)).trans HB1.out), hide ((Below.block (show Below wr.heap.size wr _ from (by (repeat' (first | (with_reducible first | exact Below.refl _ _ | assumption | refine below_ext _ ?_ ?_ | refine Below.alloc ?_ ?_ _ | refine Below.drew ?_ | refine below_drewN ?_ _ | refine le_drewN _ ?_ | refine Below.setCell ?_ ?_ _ | exact Nat.le_refl _ | refine le_ext _ ?_ | refine le_alloc _ ?_ | refine le_setCell _ _ ?_ | refine le_drew ?_) | omega | (simp; done) | (simp; omega))))) _ (by omega)).trans HB2.out), ROW.out.below (show Below wr.heap.size wr _ from (by (repeat' (first | (with_reducible first | exact Below.refl _ _ | assumption | refine below_ext _ ?_ ?_ | refine Below.alloc ?_ ?_ _ | refine Below.drew ?_ | refine below_drewN ?_ _ | refine le_drewN _ ?_ | refine Below.setCell ?_ ?_ _ | exact Nat.le_refl _ | refine le_ext _ ?_ | refine le_alloc _ ?_ | refine le_setCell _ _ ?_ | refine le_drew ?_) | omega | (simp; done) | (simp; omega))))) ROW.out.lt, by first | omega | (simp; omega), hbel.trans (show Below w.heap.size wr _ from (by (repeat' (first | (with_reducible first | exact Below.refl _ _ | assumption | refine below_ext _ ?_ ?_ | refine Below.alloc ?_ ?_ _ | refine Below.drew ?_ | refine below_drewN ?_ _ | refine le_drewN _ ?_ | refine Below.setCell ?_ ?_ _ | exact Nat.le_refl _ | refine le_ext _ ?_ | refine le_alloc _ ?_ | refine le_setCell _ _ ?_ | refine le_drew ?_) | omega | (simp; done) | (simp; omega)))))⟩, by simp [intOf]; omega⟩
        · rw [Bool.true_and] at CV
          rw [CV.out] at TT
          have TT2 := hide (TT.out.trans (by rw [if_pos (by simp)]))
          have AP := hide (fun (W : World) (hb : Below wr.heap.size wr W) => addPoint_any (sortP L) X Y A0 n0 c0 (w.heap.size + 2) W (by omega) (by have := hb.size; omega) (OWN0.out.below hb))
          clear TT
          go_wp2_with fail
          refine wp_region_ext (by kernel_rfl) (by kernel_rfl) ?_
          repeat (go_big_quiet_step ((first | (go_at_call 210; exact Calls.in_ext (CU.out _ _ _ _ _ _ (by first | exact .inl rfl | exact .inr rfl))))))
          refine wpQuiet_nil ?_
          rintro _ hnq
          have hzq := ext_sz hnq
          obtain ⟨nq, rfl⟩ := hnq
          (try simp at hzq)
          go_wp2_with fail
          refine (AP.out _ (by (repeat' (first | (with_reducible first | exact Below.refl _ _ | assumption | refine below_ext _ ?_ ?_ | refine Below.alloc ?_ ?_ _ | refine Below.drew ?_ | refine below_drewN ?_ _ | refine le_drewN _ ?_ | refine Below.setCell ?_ ?_ _ | exact Nat.le_refl _ | refine le_ext _ ?_ | refine le_alloc _ ?_ | refine le_setCell _ _ ?_ | refine le_drew ?_) | omega | (simp; done) | (simp; omega))))).mono ?_
          rintro e' w6 ⟨v6, rfl, hown6, y6, rfl⟩
          have O6 := hide hown6
          clear hown6
          go_wp2_with fail
          exact ⟨⟨k + 1, by omega, by go_num, by rw [TT2.out, sortP_snoc]; exact O6.out, hide ((Below.block (show Below wr.heap.size wr _ from (by (repeat' (first | (with_reducible first | exact Below.refl _ _ | assumption | refine below_ext _ ?_ ?_ | refine Below.alloc ?_ ?_ _ | refine Below.drew ?_ | refine below_drewN ?_ _ | refine le_drewN _ ?_ | refine Below.setCell ?_ ?_ _ | exact Nat.le_refl _ | refine le_ext _ ?_ | refine le_alloc _ ?_ | refine le_setCell _ _ ?_ | refine le_drew ?_) | omega | (simp; done) | (simp; omega))))) _ (by omega)).trans HB1.out), hide ((Below.block (show Below wr.heap.size wr _ from (by (repeat' (first | (with_reducible first | exact Below.refl _ _ | assumption | refine below_ext _ ?_ ?_ | refine Below.alloc ?_ ?_ _ | refine Below.drew ?_ | refine below_drewN ?_ _ | refine le_drewN _ ?_ | refine Below.setCell ?_ ?_ _ | exact Nat.le_refl _ | refine le_ext _ ?_ | refine le_alloc _ ?_ | refine le_setCell _ _ ?_ | refine le_drew ?_) | omega | (simp; done) | (simp; omega))))) _ (by omega)).trans HB2.out), ROW.out.below (show Below wr.heap.size wr _ from (by (repeat' (first | (with_reducible first | exact Below.refl _ _ | assumption | refine below_ext _ ?_ ?_ | refine Below.alloc ?_ ?_ _ | refine Below.drew ?_ | refine below_drewN ?_ _ | refine le_drewN _ ?_ | refine Below.setCell ?_ ?_ _ | exact Nat.le_refl _ | refine le_ext _ ?_ | refine le_alloc _ ?_ | refine le_setCell _ _ ?_ | refine le_drew ?_) | omega | (simp; done) | (simp; omega))))) ROW.out.lt, Nat.le_trans hsz (le_ext _ (le_ext _ (Nat.le_refl _))), hbel.trans (show Below w.heap.size wr _ from (by (repeat' (first | (with_reducible first | exact Below.refl _ _ | assumption | refine below_ext _ ?_ ?_ | refine Below.alloc ?_ ?_ _ | refine Below.drew ?_ | refine below_drewN ?_ _ | refine le_drewN _ ?_ | refine Below.setCell ?_ ?_ _ | exact Nat.le_refl _ | refine le_ext _ ?_ | refine le_alloc _ ?_ | refine le_setCell _ _ ?_ | refine le_drew ?_) | omega | (simp; done) | (simp; omega)))))⟩, by simp [intOf]; omega⟩
    · have HF : Hid (OwnP wr w.heap.size (.slice A0 n0 c0) (sortP (([⟨a, b⟩, ⟨c, d⟩, ⟨e, f⟩, ⟨g, h⟩].take 4).filter (bothS (⟨a, b⟩, ⟨c, d⟩) (⟨e, f⟩, ⟨g, h⟩))))) := hide (by
        have hk2 : k = 4 := by omega
        have := OWN0.out.base (show w.heap.size ≤ w.heap.size + 2 by omega)
        rw [hk2] at this
        exact this)
      clear OWN0
      go_wp2
      go_ret
      exact ⟨_, rfl, by rw [FIN.out]; exact HF.out, ext_mk hbel⟩
end Go.Proofs.YtnddfdhfefconaaGreatDoor
/- The reference's relation of two segments, its edges of a polygon, and its test of a simple polygon. -/
set_option linter.unusedVariables false
set_option linter.unusedSimpArgs false
namespace Go.Proofs.YtnddfdhfefconaaGreatDoor
open Go.RowKit

set_option maxHeartbeats 2000000 in
theorem srelation_any (a b c d e f g h : Int) (w : World) (ha : -100000 ≤ a ∧ a ≤ 100000) (hb : -100000 ≤ b ∧ b ≤ 100000) (hc : -100000 ≤ c ∧ c ≤ 100000) (hd : -100000 ≤ d ∧ d ≤ 100000) (he : -100000 ≤ e ∧ e ≤ 100000) (hf : -100000 ≤ f ∧ f ≤ 100000) (hg : -100000 ≤ g ∧ g ≤ 100000) (hh : -100000 ≤ h ∧ h ≤ 100000) :
    Calls Tryz.prog 118 #[.agg #[.int .i64 a, .int .i64 b, .int .i64 c, .int .i64 d], .agg #[.int .i64 e, .int .i64 f, .int .i64 g, .int .i64 h]] w fun r w' => r = .returned (.int .i64 (relS (⟨a, b⟩, ⟨c, d⟩) (⟨e, f⟩, ⟨g, h⟩))) ∧ ∃ n, w' = ext w n := by
  have HC := hide (fun W => commonEnds_any a b c d e f g h W ha hb hc hd he hf hg hh)
  have TU : Hid (∀ (p1 p2 p3 p4 p5 p6 : Int) W, (p1, p2) ∈ [(a, b), (c, d), (e, f), (g, h)] → (p3, p4) ∈ [(a, b), (c, d), (e, f), (g, h)] → (p5, p6) ∈ [(a, b), (c, d), (e, f), (g, h)] → Calls Tryz.prog 164 #[.agg #[.int .i64 p1, .int .i64 p2], .agg #[.int .i64 p3, .int .i64 p4], .agg #[.int .i64 p5, .int .i64 p6]] W fun r w' => r = .returned (.int .i64 (trn ⟨p1, p2⟩ ⟨p3, p4⟩ ⟨p5, p6⟩)) ∧ ∃ n, w' = ext W n) := hide (fun p1 p2 p3 p4 p5 p6 W h1 h2 h3 => by
    simp only [List.mem_cons, Prod.mk.injEq, List.not_mem_nil, or_false] at h1 h2 h3
    exact scross_any p1 p2 p3 p4 p5 p6 W (by omega) (by omega) (by omega) (by omega) (by omega) (by omega))
  have P1 := hide (sgn_prod (trn ⟨a, b⟩ ⟨c, d⟩ ⟨e, f⟩) (trn ⟨a, b⟩ ⟨c, d⟩ ⟨g, h⟩))
  have P2 := hide (sgn_prod (trn ⟨e, f⟩ ⟨g, h⟩ ⟨a, b⟩) (trn ⟨e, f⟩ ⟨g, h⟩ ⟨c, d⟩))
  have CV : Hid (crossB (⟨a, b⟩, ⟨c, d⟩) (⟨e, f⟩, ⟨g, h⟩) = (decide (sgn (trn ⟨a, b⟩ ⟨c, d⟩ ⟨e, f⟩) * sgn (trn ⟨a, b⟩ ⟨c, d⟩ ⟨g, h⟩) < 0) && decide (sgn (trn ⟨e, f⟩ ⟨g, h⟩ ⟨a, b⟩) * sgn (trn ⟨e, f⟩ ⟨g, h⟩ ⟨c, d⟩) < 0))) := hide rfl
  have K : Hid (relS (⟨a, b⟩, ⟨c, d⟩) (⟨e, f⟩, ⟨g, h⟩) = relOf (sortP (cmnA (⟨a, b⟩, ⟨c, d⟩) (⟨e, f⟩, ⟨g, h⟩))).length (crossB (⟨a, b⟩, ⟨c, d⟩) (⟨e, f⟩, ⟨g, h⟩))) := hide rfl
  clear ha hb hc hd he hf hg hh
  go_enter Tryz.func118, Tryz.ntmps118
  go_wp2_with fail
  refine (HC.out _).mono ?_
  rintro e' w1 ⟨v1, rfl, hown, hw'⟩
  obtain ⟨A1, n1, c1, rfl⟩ := hown.slice
  have hl := hown.pts.1
  rw [hl] at K
  have hz1 := ext_sz hw'
  obtain ⟨x1, rfl⟩ := hw'
  simp at hz1
  clear hown hl
  by_cases h0 : n1 = 0
  · have d0 : decide ((1 : Int) < (n1 : Int)) = false := decide_eq_false (by omega)
    have d1 : ((n1 : Int) == 1) = false := by rw [beq_eq_false_iff_ne]; omega
    have R : Hid (relS (⟨a, b⟩, ⟨c, d⟩) (⟨e, f⟩, ⟨g, h⟩) = if crossB (⟨a, b⟩, ⟨c, d⟩) (⟨e, f⟩, ⟨g, h⟩) then 2 else 0) := hide (K.out.trans (by rw [h0]; rfl))
    clear h0 K
    have i1 : IntKind.i64.wrap (sgn (trn ⟨a, b⟩ ⟨c, d⟩ ⟨e, f⟩) * sgn (trn ⟨a, b⟩ ⟨c, d⟩ ⟨g, h⟩)) = sgn (trn ⟨a, b⟩ ⟨c, d⟩ ⟨e, f⟩) * sgn (trn ⟨a, b⟩ ⟨c, d⟩ ⟨g, h⟩) := IntWalk.i64_in _ (by have := P1.out; omega)
    have i2 : IntKind.i64.wrap (sgn (trn ⟨e, f⟩ ⟨g, h⟩ ⟨a, b⟩) * sgn (trn ⟨e, f⟩ ⟨g, h⟩ ⟨c, d⟩)) = sgn (trn ⟨e, f⟩ ⟨g, h⟩ ⟨a, b⟩) * sgn (trn ⟨e, f⟩ ⟨g, h⟩ ⟨c, d⟩) := IntWalk.i64_in _ (by have := P2.out; omega)
    cases h1 : decide (sgn (trn ⟨a, b⟩ ⟨c, d⟩ ⟨e, f⟩) * sgn (trn ⟨a, b⟩ ⟨c, d⟩ ⟨g, h⟩) < 0)
    · rw [h1, Bool.false_and] at CV
      rw [CV.out] at R
      go_wp2_with fail
      refine wp_region_ext (by kernel_rfl) (by kernel_rfl) ?_
      repeat (go_big_quiet_step ((first | (go_at_call 164; exact Calls.in_ext (TU.out _ _ _ _ _ _ _ (by simp) (by simp) (by simp))) | (go_at_call 169; exact Calls.in_ext (ssign_any _ _)))))
      refine wpQuiet_nil ?_
      rintro _ hnq
      have hzq := ext_sz hnq
      obtain ⟨nq, rfl⟩ := hnq
      (try simp at hzq)
      go_wp2_with fail
      go_ret
      exact ⟨ret_int (by rw [R.out]; rfl), (ext_mk (by (repeat' (first | (with_reducible first | exact Below.refl _ _ | assumption | refine below_ext _ ?_ ?_ | refine Below.alloc ?_ ?_ _ | refine Below.drew ?_ | refine below_drewN ?_ _ | refine le_drewN _ ?_ | refine Below.setCell ?_ ?_ _ | exact Nat.le_refl _ | refine le_ext _ ?_ | refine le_alloc _ ?_ | refine le_setCell _ _ ?_ | refine le_drew ?_) | omega | (simp; done) | (simp; omega)))))⟩
    · rw [h1, Bool.true_and] at CV
      cases h2 : decide (sgn (trn ⟨e, f⟩ ⟨g, h⟩ ⟨a, b⟩) * sgn (trn ⟨e, f⟩ ⟨g, h⟩ ⟨c, d⟩) < 0)
      · rw [h2] at CV
        rw [CV.out] at R
        go_wp2_with fail
        refine wp_region_ext (by kernel_rfl) (by kernel_rfl) ?_
        repeat (go_big_quiet_step ((first | (go_at_call 164; exact Calls.in_ext (TU.out _ _ _ _ _ _ _ (by simp) (by simp) (by simp))) | (go_at_call 169; exact Calls.in_ext (ssign_any _ _)))))
        refine wpQuiet_nil ?_
        rintro _ hnq
        have hzq := ext_sz hnq
        obtain ⟨nq, rfl⟩ := hnq
        (try simp at hzq)
        go_wp2_with fail
        go_ret
        exact ⟨ret_int (by rw [R.out]; rfl), (ext_mk (by (repeat' (first | (with_reducible first | exact Below.refl _ _ | assumption | refine below_ext _ ?_ ?_ | refine Below.alloc ?_ ?_ _ | refine Below.drew ?_ | refine below_drewN ?_ _ | refine le_drewN _ ?_ | refine Below.setCell ?_ ?_ _ | exact Nat.le_refl _ | refine le_ext _ ?_ | refine le_alloc _ ?_ | refine le_setCell _ _ ?_ | refine le_drew ?_) | omega | (simp; done) | (simp; omega)))))⟩
      · rw [h2] at CV
        rw [CV.out] at R
        go_wp2_with fail
        refine wp_region_ext (by kernel_rfl) (by kernel_rfl) ?_
        repeat (go_big_quiet_step ((first | (go_at_call 164; exact Calls.in_ext (TU.out _ _ _ _ _ _ _ (by simp) (by simp) (by simp))) | (go_at_call 169; exact Calls.in_ext (ssign_any _ _)))))
        refine wpQuiet_nil ?_
        rintro _ hnq
        have hzq := ext_sz hnq
        obtain ⟨nq, rfl⟩ := hnq
        (try simp at hzq)
        go_wp2_with fail
        go_ret
        exact ⟨ret_int (by rw [R.out]; rfl), (ext_mk (by (repeat' (first | (with_reducible first | exact Below.refl _ _ | assumption | refine below_ext _ ?_ ?_ | refine Below.alloc ?_ ?_ _ | refine Below.drew ?_ | refine below_drewN ?_ _ | refine le_drewN _ ?_ | refine Below.setCell ?_ ?_ _ | exact Nat.le_refl _ | refine le_ext _ ?_ | refine le_alloc _ ?_ | refine le_setCell _ _ ?_ | refine le_drew ?_) | omega | (simp; done) | (simp; omega)))))⟩
  · by_cases h1 : n1 = 1
    · have d0 : decide ((1 : Int) < (n1 : Int)) = false := decide_eq_false (by omega)
      have d1 : ((n1 : Int) == 1) = true := by rw [beq_iff_eq]; omega
      have R : Hid (relS (⟨a, b⟩, ⟨c, d⟩) (⟨e, f⟩, ⟨g, h⟩) = 1) := hide (K.out.trans (by rw [h1]; rfl))
      clear h0 h1 K
      go_wp2_with fail
      go_ret
      exact ⟨ret_int R.out.symm, (ext_mk (by (repeat' (first | (with_reducible first | exact Below.refl _ _ | assumption | refine below_ext _ ?_ ?_ | refine Below.alloc ?_ ?_ _ | refine Below.drew ?_ | refine below_drewN ?_ _ | refine le_drewN _ ?_ | refine Below.setCell ?_ ?_ _ | exact Nat.le_refl _ | refine le_ext _ ?_ | refine le_alloc _ ?_ | refine le_setCell _ _ ?_ | refine le_drew ?_) | omega | (simp; done) | (simp; omega)))))⟩
    · have d0 : decide ((1 : Int) < (n1 : Int)) = true := decide_eq_true (by omega)
      have R : Hid (relS (⟨a, b⟩, ⟨c, d⟩) (⟨e, f⟩, ⟨g, h⟩) = 3) := hide (K.out.trans (by unfold relOf; rw [if_neg h0, if_neg h1]))
      clear h0 h1 K
      go_wp2_with fail
      go_ret
      exact ⟨ret_int R.out.symm, (ext_mk (by (repeat' (first | (with_reducible first | exact Below.refl _ _ | assumption | refine below_ext _ ?_ ?_ | refine Below.alloc ?_ ?_ _ | refine Below.drew ?_ | refine below_drewN ?_ _ | refine le_drewN _ ?_ | refine Below.setCell ?_ ?_ _ | exact Nat.le_refl _ | refine le_ext _ ?_ | refine le_alloc _ ?_ | refine le_setCell _ _ ?_ | refine le_drew ?_) | omega | (simp; done) | (simp; omega)))))⟩
set_option maxHeartbeats 1000000 in
theorem edgeOf_any (ps : List Pt) (i : Nat) (A : Option Addr) (n c : Nat) (w : World) (hn : ps.length = n) (hm : n ≤ 1000) (hi : i < n) (hs : PtsAt w w.heap.size A ps) :
    Calls Tryz.prog 119 #[.slice A n c, .int .i64 i] w fun r w' => r = .returned (.agg #[.int .i64 (gp ps i).x, .int .i64 (gp ps i).y, .int .i64 (gp ps ((i + 1) % n)).x, .int .i64 (gp ps ((i + 1) % n)).y]) ∧ ∃ m, w' = ext w m := by
  obtain ⟨b, o, rfl, hb, hcs⟩ := hs (by omega)
  obtain ⟨j, hj⟩ : ∃ j, j = (i + 1) % n := ⟨_, rfl⟩
  have hjl : j < n := by rw [hj]; exact Nat.mod_lt _ (by omega)
  rw [← hj]
  obtain ⟨hx0, hy0⟩ := hcs i (by omega)
  obtain ⟨hx1, hy1⟩ := hcs j (by omega)
  have e2 : Int.tmod ((i : Int) + 1) (n : Int) = (j : Int) := by rw [hj]; exact (Int.ofNat_tmod (i + 1) n).symm
  have w1 : IntKind.i64.wrap ((i : Int) + 1) = (i : Int) + 1 := IntWalk.i64_in _ (by omega)
  have w3 : IntKind.i64.wrap (j : Int) = (j : Int) := IntWalk.i64_in _ (by omega)
  have q1 : (0 : Int) ≤ (j : Int) := by omega
  have q2 : (j : Int) < (n : Int) := by omega
  have q3 : (0 : Int) ≤ (i : Int) := by omega
  have q4 : (i : Int) < (n : Int) := by omega
  have q5 : ¬ n = 0 := by omega
  clear hj hcs hn
  show Calls Tryz.prog 119 _ w fun r w' => r = .returned (.agg #[.int .i64 (pX ps i), .int .i64 (pY ps i), .int .i64 (pX ps j), .int .i64 (pY ps j)]) ∧ ∃ m, w' = ext w m
  generalize pX ps i = X1 at *
  generalize pY ps i = Y1 at *
  generalize pX ps j = X2 at *
  generalize pY ps j = Y2 at *
  go_enter Tryz.func119, Tryz.ntmps119
  go_wp2_with fail
  go_region
  go_wp2_with fail
  ((try simp only [Exit.inBlock, Exit.then]); refine bodyPost_ret (by simp [results, Tryz.results119, go_sem, ↓IntWalk.iteOmega]; try rfl) rfl ?_)
  exact ⟨rfl, (ext_mk (by (repeat' (first | (with_reducible first | exact Below.refl _ _ | assumption | refine below_ext _ ?_ ?_ | refine Below.alloc ?_ ?_ _ | refine Below.drew ?_ | refine below_drewN ?_ _ | refine le_drewN _ ?_ | refine Below.setCell ?_ ?_ _ | exact Nat.le_refl _ | refine le_ext _ ?_ | refine le_alloc _ ?_ | refine le_setCell _ _ ?_ | refine le_drew ?_) | omega | (simp; done) | (simp; omega)))))⟩
set_option maxHeartbeats 1000000 in
theorem validRing_any (ps : List Pt) (A : Option Addr) (n c : Nat) (w : World) (hn : ps.length = n) (hm : n ≤ 2000000) (hs : PtsAt w w.heap.size A ps) :
    Calls Tryz.prog 117 #[.slice A n c] w fun e w' => e = .returned (.bool (ringB ps)) ∧ ∃ x, w' = ext w x := by
  have HC := hide (validPoints_any ps A n c w hn hm hs)
  by_cases hok : listOk ps = true
  · rw [hok] at HC
    obtain ⟨hib, hle⟩ := listOk_InB hok
    by_cases h3 : 3 ≤ n
    · have hin : inB (n : Int) 3 20 = true := by unfold inB; simp; omega
      have HS := hide (fun (W : World) (hb : Below w.heap.size w W) => ssorted_any ps A n c W hn (by omega) (hs.to hb))
      have HV : Hid (ringB ps = decide ((sortP ps).length = n)) := hide (by unfold ringB; rw [hok, decide_eq_true (show 3 ≤ ps.length by omega), hn]; rfl)
      clear hok hn hs hib
      go_enter Tryz.func117, Tryz.ntmps117
      go_wp2_with fail
      refine HC.out.mono ?_
      rintro e w' ⟨rfl, hw'⟩; have hzy1 := ext_sz hw'; obtain ⟨y1, rfl⟩ := hw'; (try simp at hzy1)
      go_wp2_with fail
      refine (inRange_any _ _ _ _).mono ?_
      rintro e w' ⟨rfl, rfl⟩
      go_wp2_with fail
      refine (HS.out _ (by (repeat' (first | (with_reducible first | exact Below.refl _ _ | assumption | refine below_ext _ ?_ ?_ | refine Below.alloc ?_ ?_ _ | refine Below.drew ?_ | refine below_drewN ?_ _ | refine le_drewN _ ?_ | refine Below.setCell ?_ ?_ _ | exact Nat.le_refl _ | refine le_ext _ ?_ | refine le_alloc _ ?_ | refine le_setCell _ _ ?_ | refine le_drew ?_) | omega | (simp; done) | (simp; omega))))).mono ?_
      rintro e w4 ⟨v4, rfl, hown4, x4, rfl⟩
      obtain ⟨A4, n4, c4, rfl⟩ := hown4.slice
      have l4 := hown4.pts.1
      rw [l4] at HV
      clear hown4 l4
      go_wp2_with fail
      go_ret
      exact ⟨ret_bool (by rw [HV.out]; rw [Bool.eq_iff_iff]; simp; omega), (ext_mk (by (repeat' (first | (with_reducible first | exact Below.refl _ _ | assumption | refine below_ext _ ?_ ?_ | refine Below.alloc ?_ ?_ _ | refine Below.drew ?_ | refine below_drewN ?_ _ | refine le_drewN _ ?_ | refine Below.setCell ?_ ?_ _ | exact Nat.le_refl _ | refine le_ext _ ?_ | refine le_alloc _ ?_ | refine le_setCell _ _ ?_ | refine le_drew ?_) | omega | (simp; done) | (simp; omega)))))⟩
    · have hin : inB (n : Int) 3 20 = false := by unfold inB; simp; omega
      have HV := hide (ring_no2 (ps := ps) (by omega))
      clear hok hn hs hib hle
      go_enter Tryz.func117, Tryz.ntmps117
      go_wp2_with fail
      refine HC.out.mono ?_
      rintro e w' ⟨rfl, hw'⟩; have hzy1 := ext_sz hw'; obtain ⟨y1, rfl⟩ := hw'; (try simp at hzy1)
      go_wp2_with fail
      refine (inRange_any _ _ _ _).mono ?_
      rintro e w' ⟨rfl, rfl⟩
      go_wp2_with fail
      go_ret
      exact ⟨ret_bool HV.out.symm, (ext_mk (by (repeat' (first | (with_reducible first | exact Below.refl _ _ | assumption | refine below_ext _ ?_ ?_ | refine Below.alloc ?_ ?_ _ | refine Below.drew ?_ | refine below_drewN ?_ _ | refine le_drewN _ ?_ | refine Below.setCell ?_ ?_ _ | exact Nat.le_refl _ | refine le_ext _ ?_ | refine le_alloc _ ?_ | refine le_setCell _ _ ?_ | refine le_drew ?_) | omega | (simp; done) | (simp; omega)))))⟩
  · rw [eq_false_of_ne_true hok] at HC
    have HV := hide (ring_no1 (eq_false_of_ne_true hok))
    clear hok hn hs
    go_enter Tryz.func117, Tryz.ntmps117
    go_wp2_with fail
    refine HC.out.mono ?_
    rintro e w' ⟨rfl, hw'⟩; have hzy1 := ext_sz hw'; obtain ⟨y1, rfl⟩ := hw'; (try simp at hzy1)
    go_wp2_with fail
    go_ret
    exact ⟨ret_bool HV.out.symm, (ext_mk (by (repeat' (first | (with_reducible first | exact Below.refl _ _ | assumption | refine below_ext _ ?_ ?_ | refine Below.alloc ?_ ?_ _ | refine Below.drew ?_ | refine below_drewN ?_ _ | refine le_drewN _ ?_ | refine Below.setCell ?_ ?_ _ | exact Nat.le_refl _ | refine le_ext _ ?_ | refine le_alloc _ ?_ | refine le_setCell _ _ ?_ | refine le_drew ?_) | omega | (simp; done) | (simp; omega)))))⟩
theorem relI_adj {s t : Sg} (h : s.1 = t.2 ∨ s.2 = t.1) : relI s t = 1 ∨ relI s t = 3 := by
  have hp : ∃ p, p ∈ cmn s t := by
    rcases h with h | h
    · refine ⟨s.1, cmn_mem.2 ?_⟩
      unfold cmnA
      simp only [List.mem_filter, List.mem_cons, Bool.and_eq_true]
      exact ⟨by simp, onSeg_end1 _ _, by rw [h]; exact onSeg_end2 _ _⟩
    · refine ⟨s.2, cmn_mem.2 ?_⟩
      unfold cmnA
      simp only [List.mem_filter, List.mem_cons, Bool.and_eq_true]
      exact ⟨by simp, onSeg_end2 _ _, by rw [h]; exact onSeg_end1 _ _⟩
  obtain ⟨p, hp⟩ := hp
  have : (cmn s t).length ≠ 0 := fun h0 => by
    rw [List.length_eq_zero_iff] at h0
    rw [h0] at hp; cases hp
  unfold relI relOf
  rw [if_neg this]
  split
  · exact .inl rfl
  · exact .inr rfl
/-- The reference's way to put the condition on two edges. -/
theorem pairI_s {ps : List Pt} (hr : ringB ps = true) {i k : Nat} (hi : i < ps.length) (hk : k < i) :
    pairI ps i k = !((nextTo ps.length i k && (relS (edgeAt ps i) (edgeAt ps k) == 3)) || (!nextTo ps.length i k && (relS (edgeAt ps i) (edgeAt ps k) != 0))) := by
  obtain ⟨_, h3, hd⟩ := ring_parts hr
  have ne : ∀ j, j < ps.length → (edgeAt ps j).1 ≠ (edgeAt ps j).2 := fun j hj e => by
    have hm := mod_next hj
    have := gp_inj hd hj (Nat.mod_lt _ (by omega)) e
    split at hm <;> omega
  rw [rel_eq (ne i hi) (ne k (by omega))]
  unfold pairI
  cases hn : nextTo ps.length i k
  · simp only [Bool.false_and, Bool.not_false, Bool.true_and, Bool.false_or]
    rw [Bool.eq_iff_iff]; simp
  · simp only [Bool.true_and, Bool.not_true, Bool.false_and, Bool.or_false]
    have : relI (edgeAt ps i) (edgeAt ps k) = 1 ∨ relI (edgeAt ps i) (edgeAt ps k) = 3 := by
      refine relI_adj ?_
      unfold edgeAt
      simp only
      unfold nextTo at hn
      simp only [Bool.or_eq_true, decide_eq_true_eq] at hn
      rcases hn with e | e
      · left; subst e; rw [Nat.mod_eq_of_lt hi]
      · right
        have : k = 0 := by omega
        subst this
        rw [show i + 1 = ps.length by omega, Nat.mod_self]
    rcases this with e | e <;> rw [e] <;> rfl
set_option maxHeartbeats 2000000 in
theorem isSimple_any (ps : List Pt) (A : Option Addr) (n c : Nat) (w : World) (hn : ps.length = n) (hm : n ≤ 2000000) (hs : PtsAt w w.heap.size A ps) :
    Calls Tryz.prog 69 #[.slice A n c] w fun e w' => e = .returned (.bool (simB ps)) ∧ ∃ x, w' = ext w x := by
  have HC := hide (validRing_any ps A n c w hn hm hs)
  by_cases hok : ringB ps = true
  · rw [hok] at HC
    obtain ⟨hlo, h3, _⟩ := ring_parts hok
    obtain ⟨hib, hle⟩ := listOk_InB hlo
    have HR := hide hok
    have HN := hide hn
    have HS := hide hs
    have BI : Hid (∀ i, i < n → (-100000 ≤ (gp ps i).x ∧ (gp ps i).x ≤ 100000) ∧ (-100000 ≤ (gp ps i).y ∧ (gp ps i).y ≤ 100000)) := hide (fun i hi => hib _ (gp_mem (by omega)))
    have PS : Hid (∀ i, i < n → ∀ k, k < i → pairI ps i k = !((nextTo n i k && (relS (edgeAt ps i) (edgeAt ps k) == 3)) || (!nextTo n i k && (relS (edgeAt ps i) (edgeAt ps k) != 0)))) := hide (fun i hi k hk => by
      have := pairI_s hok (i := i) (k := k) (by omega) hk
      rw [hn] at this
      exact this)
    have EO := hide (fun (W : World) (hb : Below w.heap.size w W) (i : Nat) (hi : i < n) => edgeOf_any ps i A n c W hn (by omega) hi (hs.to hb))
    have k20 : n ≤ 20 := by omega
    have k3 : 3 ≤ n := by omega
    clear hok hn hs hib hle hlo h3
    go_enter Tryz.func69, Tryz.ntmps69
    go_wp2_with fail
    refine HC.out.mono ?_
    rintro e w' ⟨rfl, hw'⟩; have hzy1 := ext_sz hw'; obtain ⟨y1, rfl⟩ := hw'; (try simp at hzy1)
    have B1 := ext_below w y1
    generalize ext w y1 = W1 at *
    go_wp2
    go_loopw [4] (fun u4 wr => ∃ i : Nat, i ≤ n ∧ u4 = .int .i64 i ∧ Hid (∀ j, j < i → ∀ k, k < j → pairI ps j k = true) ∧ Below w.heap.size w wr) (fun u4 _ => n - (intOf u4).toNat)
    case atStart => exact ⟨0, Nat.zero_le _, rfl, (fun j hj => by omega), B1⟩
    case round =>
      obtain ⟨i, hi, rfl, HP, hbel⟩ := hrel
      have hsz := hbel.size
      by_cases hlt : i < n
      · have NX := hide (fun (k : Nat) (hk : k < i) h => simB_at (ps := ps) (i := i) (k := k) (by rw [HN.out]; exact hlt) hk h)
        obtain ⟨W2, hW2⟩ : ∃ W2, W2 = wr := ⟨_, rfl⟩
        subst hW2
        obtain ⟨⟨p1, p2⟩, p3, p4⟩ := BI.out i hlt
        have hil : (i + 1) % n < n := Nat.mod_lt _ (by omega)
        obtain ⟨⟨p5, p6⟩, p7, p8⟩ := BI.out _ hil
        have EI : Hid (edgeAt ps i = ((⟨(gp ps i).x, (gp ps i).y⟩, ⟨(gp ps ((i + 1) % n)).x, (gp ps ((i + 1) % n)).y⟩) : Sg)) := hide (by unfold edgeAt; rw [HN.out])
        have EOi := hide (fun (W : World) (hb : Below w.heap.size w W) => EO.out W hb i hlt)
        clear hil
        generalize (gp ps i).x = X1 at *
        generalize (gp ps i).y = Y1 at *
        generalize (gp ps ((i + 1) % n)).x = X2 at *
        generalize (gp ps ((i + 1) % n)).y = Y2 at *
        go_wp2_with fail
        go_loopw [5] (fun u5 wr => ∃ k : Nat, k ≤ i ∧ u5 = .int .i64 k ∧ Hid (∀ j, j < k → pairI ps i j = true) ∧ Below w.heap.size w wr) (fun u5 _ => i - (intOf u5).toNat)
        case atStart => exact ⟨0, Nat.zero_le _, rfl, (fun j hj => by omega), hbel⟩
        case round =>
          obtain ⟨k, hk, rfl, HQ, hbel3⟩ := hrel
          have hsz3 := hbel3.size
          by_cases hlt3 : k < i
          · obtain ⟨⟨r1, r2⟩, r3, r4⟩ := BI.out k (by omega)
            have hil : (k + 1) % n < n := Nat.mod_lt _ (by omega)
            obtain ⟨⟨r5, r6⟩, r7, r8⟩ := BI.out _ hil
            have EK : Hid (edgeAt ps k = ((⟨(gp ps k).x, (gp ps k).y⟩, ⟨(gp ps ((k + 1) % n)).x, (gp ps ((k + 1) % n)).y⟩) : Sg)) := hide (by unfold edgeAt; rw [HN.out])
            have EOk := hide (fun (W : World) (hb : Below w.heap.size w W) => EO.out W hb k (by omega))
            clear hil
            generalize (gp ps k).x = X3 at *
            generalize (gp ps k).y = Y3 at *
            generalize (gp ps ((k + 1) % n)).x = X4 at *
            generalize (gp ps ((k + 1) % n)).y = Y4 at *
            have RL := hide (fun W => srelation_any X1 Y1 X2 Y2 X3 Y3 X4 Y4 W ⟨p1, p2⟩ ⟨p3, p4⟩ ⟨p5, p6⟩ ⟨p7, p8⟩ ⟨r1, r2⟩ ⟨r3, r4⟩ ⟨r5, r6⟩ ⟨r7, r8⟩)
            have PV := PS.out i hlt k hlt3
            rw [EI.out, EK.out] at PV
            have NV : Hid (nextTo n i k = (decide (i = k + 1) || decide (i + 1 = k + n))) := hide rfl
            have NO := hide (NX.out k hlt3)
            clear p1 p2 p3 p4 p5 p6 p7 p8 r1 r2 r3 r4 r5 r6 r7 r8
            obtain ⟨j, hj⟩ : ∃ j, j = (i + 1) % n := ⟨_, rfl⟩
            have hjv := mod_next hlt
            rw [← hj] at hjv
            have w1 : IntKind.i64.wrap ((k : Int) + 1) = (k : Int) + 1 := IntWalk.i64_in _ (by omega)
            have w2 : IntKind.i64.wrap ((i : Int) + 1) = (i : Int) + 1 := IntWalk.i64_in _ (by omega)
            have w3 : IntKind.i64.wrap (j : Int) = (j : Int) := IntWalk.i64_in _ (by split at hjv <;> omega)
            have e2 : Int.tmod ((i : Int) + 1) (n : Int) = (j : Int) := by rw [hj]; exact (Int.ofNat_tmod (i + 1) n).symm
            have q5 : ¬ n = 0 := by omega
            generalize relS (⟨X1, Y1⟩, ⟨X2, Y2⟩) (⟨X3, Y3⟩, ⟨X4, Y4⟩) = RV at *
            clear hj
            by_cases e1 : i = k + 1
            · have d1 : ((k : Int) + 1 == (i : Int)) = true := by rw [beq_iff_eq]; omega
              have PW : Hid (pairI ps i k = !(RV == 3)) := hide (by rw [PV, NV.out, decide_eq_true e1]; simp)
              clear e1 PV hjv
              cases hv : (RV == 3)
              · rw [hv] at PW
                have HP1 := hide (PW.out.trans rfl)
                clear PW NO
                go_wp2_with fail
                refine (EOi.out _ hbel3).mono ?_
                rintro e w' ⟨rfl, hw'⟩; have hzy5 := ext_sz hw'; obtain ⟨y5, rfl⟩ := hw'; (try simp at hzy5)
                go_wp2_with fail
                refine (EOk.out _ (hbel3.trans (by (repeat' (first | (with_reducible first | exact Below.refl _ _ | assumption | refine below_ext _ ?_ ?_ | refine Below.alloc ?_ ?_ _ | refine Below.drew ?_ | refine below_drewN ?_ _ | refine le_drewN _ ?_ | refine Below.setCell ?_ ?_ _ | exact Nat.le_refl _ | refine le_ext _ ?_ | refine le_alloc _ ?_ | refine le_setCell _ _ ?_ | refine le_drew ?_) | omega | (simp; done) | (simp; omega)))))).mono ?_
                rintro e w' ⟨rfl, hw'⟩; have hzy6 := ext_sz hw'; obtain ⟨y6, rfl⟩ := hw'; (try simp at hzy6)
                go_wp2_with fail
                refine (RL.out _).mono ?_
                rintro e w' ⟨rfl, hw'⟩; have hzy7 := ext_sz hw'; obtain ⟨y7, rfl⟩ := hw'; (try simp at hzy7)
                go_wp2_with fail
                exact ⟨⟨k + 1, by omega, by go_num, hide (fun j hj => by
                  by_cases e : j = k
                  · subst e; exact HP1.out
                  · exact HQ.out j (by omega)), hbel3.trans (show Below w.heap.size wr _ from (by (repeat' (first | (with_reducible first | exact Below.refl _ _ | assumption | refine below_ext _ ?_ ?_ | refine Below.alloc ?_ ?_ _ | refine Below.drew ?_ | refine below_drewN ?_ _ | refine le_drewN _ ?_ | refine Below.setCell ?_ ?_ _ | exact Nat.le_refl _ | refine le_ext _ ?_ | refine le_alloc _ ?_ | refine le_setCell _ _ ?_ | refine le_drew ?_) | omega | (simp; done) | (simp; omega)))))⟩, by simp [intOf]; omega⟩
              · rw [hv] at PW
                have HV := hide (NO.out (PW.out.trans rfl))
                clear PW NO
                go_wp2_with fail
                refine (EOi.out _ hbel3).mono ?_
                rintro e w' ⟨rfl, hw'⟩; have hzy5 := ext_sz hw'; obtain ⟨y5, rfl⟩ := hw'; (try simp at hzy5)
                go_wp2_with fail
                refine (EOk.out _ (hbel3.trans (by (repeat' (first | (with_reducible first | exact Below.refl _ _ | assumption | refine below_ext _ ?_ ?_ | refine Below.alloc ?_ ?_ _ | refine Below.drew ?_ | refine below_drewN ?_ _ | refine le_drewN _ ?_ | refine Below.setCell ?_ ?_ _ | exact Nat.le_refl _ | refine le_ext _ ?_ | refine le_alloc _ ?_ | refine le_setCell _ _ ?_ | refine le_drew ?_) | omega | (simp; done) | (simp; omega)))))).mono ?_
                rintro e w' ⟨rfl, hw'⟩; have hzy6 := ext_sz hw'; obtain ⟨y6, rfl⟩ := hw'; (try simp at hzy6)
                go_wp2_with fail
                refine (RL.out _).mono ?_
                rintro e w' ⟨rfl, hw'⟩; have hzy7 := ext_sz hw'; obtain ⟨y7, rfl⟩ := hw'; (try simp at hzy7)
                go_wp2_with fail
                go_ret
                exact ⟨ret_bool HV.out.symm, ext_mk (hbel3.trans (show Below w.heap.size wr _ from (by (repeat' (first | (with_reducible first | exact Below.refl _ _ | assumption | refine below_ext _ ?_ ?_ | refine Below.alloc ?_ ?_ _ | refine Below.drew ?_ | refine below_drewN ?_ _ | refine le_drewN _ ?_ | refine Below.setCell ?_ ?_ _ | exact Nat.le_refl _ | refine le_ext _ ?_ | refine le_alloc _ ?_ | refine le_setCell _ _ ?_ | refine le_drew ?_) | omega | (simp; done) | (simp; omega))))))⟩
            · have d1 : ((k : Int) + 1 == (i : Int)) = false := by rw [beq_eq_false_iff_ne]; omega
              by_cases e2 : i + 1 = k + n
              · have d2 : ((j : Int) == (k : Int)) = true := by rw [beq_iff_eq]; split at hjv <;> omega
                have PW : Hid (pairI ps i k = !(RV == 3)) := hide (by rw [PV, NV.out, decide_eq_true e2]; simp)
                clear e1 e2 PV hjv
                cases hv : (RV == 3)
                · rw [hv] at PW
                  have HP1 := hide (PW.out.trans rfl)
                  clear PW NO
                  go_wp2_with fail
                  refine (EOi.out _ hbel3).mono ?_
                  rintro e w' ⟨rfl, hw'⟩; have hzy5 := ext_sz hw'; obtain ⟨y5, rfl⟩ := hw'; (try simp at hzy5)
                  go_wp2_with fail
                  refine (EOk.out _ (hbel3.trans (by (repeat' (first | (with_reducible first | exact Below.refl _ _ | assumption | refine below_ext _ ?_ ?_ | refine Below.alloc ?_ ?_ _ | refine Below.drew ?_ | refine below_drewN ?_ _ | refine le_drewN _ ?_ | refine Below.setCell ?_ ?_ _ | exact Nat.le_refl _ | refine le_ext _ ?_ | refine le_alloc _ ?_ | refine le_setCell _ _ ?_ | refine le_drew ?_) | omega | (simp; done) | (simp; omega)))))).mono ?_
                  rintro e w' ⟨rfl, hw'⟩; have hzy6 := ext_sz hw'; obtain ⟨y6, rfl⟩ := hw'; (try simp at hzy6)
                  go_wp2_with fail
                  refine (RL.out _).mono ?_
                  rintro e w' ⟨rfl, hw'⟩; have hzy7 := ext_sz hw'; obtain ⟨y7, rfl⟩ := hw'; (try simp at hzy7)
                  go_wp2_with fail
                  exact ⟨⟨k + 1, by omega, by go_num, hide (fun j hj => by
                    by_cases e : j = k
                    · subst e; exact HP1.out
                    · exact HQ.out j (by omega)), hbel3.trans (show Below w.heap.size wr _ from (by (repeat' (first | (with_reducible first | exact Below.refl _ _ | assumption | refine below_ext _ ?_ ?_ | refine Below.alloc ?_ ?_ _ | refine Below.drew ?_ | refine below_drewN ?_ _ | refine le_drewN _ ?_ | refine Below.setCell ?_ ?_ _ | exact Nat.le_refl _ | refine le_ext _ ?_ | refine le_alloc _ ?_ | refine le_setCell _ _ ?_ | refine le_drew ?_) | omega | (simp; done) | (simp; omega)))))⟩, by simp [intOf]; omega⟩
                · rw [hv] at PW
                  have HV := hide (NO.out (PW.out.trans rfl))
                  clear PW NO
                  go_wp2_with fail
                  refine (EOi.out _ hbel3).mono ?_
                  rintro e w' ⟨rfl, hw'⟩; have hzy5 := ext_sz hw'; obtain ⟨y5, rfl⟩ := hw'; (try simp at hzy5)
                  go_wp2_with fail
                  refine (EOk.out _ (hbel3.trans (by (repeat' (first | (with_reducible first | exact Below.refl _ _ | assumption | refine below_ext _ ?_ ?_ | refine Below.alloc ?_ ?_ _ | refine Below.drew ?_ | refine below_drewN ?_ _ | refine le_drewN _ ?_ | refine Below.setCell ?_ ?_ _ | exact Nat.le_refl _ | refine le_ext _ ?_ | refine le_alloc _ ?_ | refine le_setCell _ _ ?_ | refine le_drew ?_) | omega | (simp; done) | (simp; omega)))))).mono ?_
                  rintro e w' ⟨rfl, hw'⟩; have hzy6 := ext_sz hw'; obtain ⟨y6, rfl⟩ := hw'; (try simp at hzy6)
                  go_wp2_with fail
                  refine (RL.out _).mono ?_
                  rintro e w' ⟨rfl, hw'⟩; have hzy7 := ext_sz hw'; obtain ⟨y7, rfl⟩ := hw'; (try simp at hzy7)
                  go_wp2_with fail
                  go_ret
                  exact ⟨ret_bool HV.out.symm, ext_mk (hbel3.trans (show Below w.heap.size wr _ from (by (repeat' (first | (with_reducible first | exact Below.refl _ _ | assumption | refine below_ext _ ?_ ?_ | refine Below.alloc ?_ ?_ _ | refine Below.drew ?_ | refine below_drewN ?_ _ | refine le_drewN _ ?_ | refine Below.setCell ?_ ?_ _ | exact Nat.le_refl _ | refine le_ext _ ?_ | refine le_alloc _ ?_ | refine le_setCell _ _ ?_ | refine le_drew ?_) | omega | (simp; done) | (simp; omega))))))⟩
              · have d2 : ((j : Int) == (k : Int)) = false := by rw [beq_eq_false_iff_ne]; split at hjv <;> omega
                have PW : Hid (pairI ps i k = !(RV != 0)) := hide (by rw [PV, NV.out, decide_eq_false e1, decide_eq_false e2]; simp)
                clear e1 e2 PV hjv
                cases hv : (RV != 0)
                · rw [hv] at PW
                  have HP1 := hide (PW.out.trans rfl)
                  clear PW NO
                  go_wp2_with fail
                  refine (EOi.out _ hbel3).mono ?_
                  rintro e w' ⟨rfl, hw'⟩; have hzy5 := ext_sz hw'; obtain ⟨y5, rfl⟩ := hw'; (try simp at hzy5)
                  go_wp2_with fail
                  refine (EOk.out _ (hbel3.trans (by (repeat' (first | (with_reducible first | exact Below.refl _ _ | assumption | refine below_ext _ ?_ ?_ | refine Below.alloc ?_ ?_ _ | refine Below.drew ?_ | refine below_drewN ?_ _ | refine le_drewN _ ?_ | refine Below.setCell ?_ ?_ _ | exact Nat.le_refl _ | refine le_ext _ ?_ | refine le_alloc _ ?_ | refine le_setCell _ _ ?_ | refine le_drew ?_) | omega | (simp; done) | (simp; omega)))))).mono ?_
                  rintro e w' ⟨rfl, hw'⟩; have hzy6 := ext_sz hw'; obtain ⟨y6, rfl⟩ := hw'; (try simp at hzy6)
                  go_wp2_with fail
                  refine (RL.out _).mono ?_
                  rintro e w' ⟨rfl, hw'⟩; have hzy7 := ext_sz hw'; obtain ⟨y7, rfl⟩ := hw'; (try simp at hzy7)
                  go_wp2_with fail
                  exact ⟨⟨k + 1, by omega, by go_num, hide (fun j hj => by
                    by_cases e : j = k
                    · subst e; exact HP1.out
                    · exact HQ.out j (by omega)), hbel3.trans (show Below w.heap.size wr _ from (by (repeat' (first | (with_reducible first | exact Below.refl _ _ | assumption | refine below_ext _ ?_ ?_ | refine Below.alloc ?_ ?_ _ | refine Below.drew ?_ | refine below_drewN ?_ _ | refine le_drewN _ ?_ | refine Below.setCell ?_ ?_ _ | exact Nat.le_refl _ | refine le_ext _ ?_ | refine le_alloc _ ?_ | refine le_setCell _ _ ?_ | refine le_drew ?_) | omega | (simp; done) | (simp; omega)))))⟩, by simp [intOf]; omega⟩
                · rw [hv] at PW
                  have HV := hide (NO.out (PW.out.trans rfl))
                  clear PW NO
                  go_wp2_with fail
                  refine (EOi.out _ hbel3).mono ?_
                  rintro e w' ⟨rfl, hw'⟩; have hzy5 := ext_sz hw'; obtain ⟨y5, rfl⟩ := hw'; (try simp at hzy5)
                  go_wp2_with fail
                  refine (EOk.out _ (hbel3.trans (by (repeat' (first | (with_reducible first | exact Below.refl _ _ | assumption | refine below_ext _ ?_ ?_ | refine Below.alloc ?_ ?_ _ | refine Below.drew ?_ | refine below_drewN ?_ _ | refine le_drewN _ ?_ | refine Below.setCell ?_ ?_ _ | exact Nat.le_refl _ | refine le_ext _ ?_ | refine le_alloc _ ?_ | refine le_setCell _ _ ?_ | refine le_drew ?_) | omega | (simp; done) | (simp; omega)))))).mono ?_
                  rintro e w' ⟨rfl, hw'⟩; have hzy6 := ext_sz hw'; obtain ⟨y6, rfl⟩ := hw'; (try simp at hzy6)
                  go_wp2_with fail
                  refine (RL.out _).mono ?_
                  rintro e w' ⟨rfl, hw'⟩; have hzy7 := ext_sz hw'; obtain ⟨y7, rfl⟩ := hw'; (try simp at hzy7)
                  go_wp2_with fail
                  go_ret
                  exact ⟨ret_bool HV.out.symm, ext_mk (hbel3.trans (show Below w.heap.size wr _ from (by (repeat' (first | (with_reducible first | exact Below.refl _ _ | assumption | refine below_ext _ ?_ ?_ | refine Below.alloc ?_ ?_ _ | refine Below.drew ?_ | refine below_drewN ?_ _ | refine le_drewN _ ?_ | refine Below.setCell ?_ ?_ _ | exact Nat.le_refl _ | refine le_ext _ ?_ | refine le_alloc _ ?_ | refine le_setCell _ _ ?_ | refine le_drew ?_) | omega | (simp; done) | (simp; omega))))))⟩
          · have hki : k = i := by omega
            have HQ2 : Hid (∀ j, j < i → pairI ps i j = true) := hide (by have := HQ.out; rw [hki] at this; exact this)
            clear hki
            go_wp2
            exact ⟨⟨i + 1, by omega, by go_num, hide (fun j hj k' hk' => by
              by_cases e : j = i
              · rw [e] at hk' ⊢; exact HQ2.out k' hk'
              · exact HP.out j (by omega) k' hk'), hbel3⟩, by simp [intOf]; omega⟩
      · have HV := hide (simB_yes HR.out (fun j hj => HP.out j (by have := HN.out; omega)))
        clear HP
        go_wp2
        go_ret
        exact ⟨ret_bool HV.out.symm, ext_mk hbel⟩
  · rw [eq_false_of_ne_true hok] at HC
    have HV := hide (simB_no (eq_false_of_ne_true hok))
    clear hok hn hs
    go_enter Tryz.func69, Tryz.ntmps69
    go_wp2_with fail
    refine HC.out.mono ?_
    rintro e w' ⟨rfl, hw'⟩; have hzy1 := ext_sz hw'; obtain ⟨y1, rfl⟩ := hw'; (try simp at hzy1)
    go_wp2_with fail
    go_ret
    exact ⟨ret_bool HV.out.symm, (ext_mk (by (repeat' (first | (with_reducible first | exact Below.refl _ _ | assumption | refine below_ext _ ?_ ?_ | refine Below.alloc ?_ ?_ _ | refine Below.drew ?_ | refine below_drewN ?_ _ | refine le_drewN _ ?_ | refine Below.setCell ?_ ?_ _ | exact Nat.le_refl _ | refine le_ext _ ?_ | refine le_alloc _ ?_ | refine le_setCell _ _ ?_ | refine le_drew ?_) | omega | (simp; done) | (simp; omega)))))⟩
end Go.Proofs.YtnddfdhfefconaaGreatDoor
namespace Go.Proofs.YtnddfdhfefconaaGreatDoor
open Go.RowKit

theorem gcd_step (a b : Int) : gcdI b (a.tmod b) = gcdI a b := by
  unfold gcdI Int.gcd
  rw [Int.natAbs_tmod, Nat.gcd_comm b.natAbs, ← Nat.gcd_rec, Nat.gcd_comm]
theorem gcd_end (a : Int) : gcdI a 0 = absI a := by
  unfold gcdI Int.gcd absI
  simp
  split <;> omega
theorem gcd_abs (a b : Int) : gcdI (absI a) (absI b) = gcdI a b := by
  unfold gcdI Int.gcd
  have h : ∀ n : Int, (absI n).natAbs = n.natAbs := fun n => by unfold absI; split <;> omega
  rw [h, h]
theorem absI_nn (a : Int) : 0 ≤ absI a := by unfold absI; split <;> omega
theorem absI_self {a : Int} (h : 0 ≤ a) : absI a = a := if_pos h
theorem tmod_bd (a b : Int) {M : Int} (ha : -M ≤ a ∧ a ≤ M) : -M ≤ a.tmod b ∧ a.tmod b ≤ M := by
  have h : (a.tmod b).natAbs ≤ a.natAbs := by rw [Int.natAbs_tmod]; exact Nat.mod_le _ _
  omega
theorem tmod_lt (a : Int) {b : Int} (h : b ≠ 0) : (a.tmod b).natAbs < b.natAbs := by
  rw [Int.natAbs_tmod]; exact Nat.mod_lt _ (by omega)
theorem tmod_nn {a b : Int} (h : 0 ≤ a) : 0 ≤ a.tmod b := Int.tmod_nonneg b h
theorem max_neg (n : Int) : max n (-n) = absI n := by unfold absI; rw [Int.max_def]; split <;> split <;> omega
set_option maxHeartbeats 400000 in
theorem iabs_any (n : Int) (w : World) (hb : -1000000000000000 ≤ n ∧ n ≤ 1000000000000000) : Calls Tryz.prog 136 #[.int .i64 n] w fun e w' => e = .returned (.int .i64 (absI n)) ∧ w = w' := by
  have HM := hide (max_neg n)
  have i1 : IntKind.i64.wrap (-n) = -n := IntWalk.i64_in _ (by omega)
  go_enter Tryz.func136, Tryz.ntmps136
  go_wp2_with fail
  go_ret
  exact ⟨ret_int (by rw [← HM.out]; try (simp [Int.max_def]; done)), rfl⟩
set_option maxHeartbeats 400000 in
theorem sabs_any (n : Int) (w : World) (hb : -1000000000000000 ≤ n ∧ n ≤ 1000000000000000) : Calls Tryz.prog 120 #[.int .i64 n] w fun e w' => e = .returned (.int .i64 (absI n)) ∧ w = w' := by
  by_cases h : n < 0
  · have HV : Hid (absI n = -n) := hide (by unfold absI; rw [if_neg (by omega)])
    have d : decide (n < 0) = true := decide_eq_true h
    go_enter Tryz.func120, Tryz.ntmps120
    go_wp2_with fail
    go_ret
    exact ⟨ret_int HV.out.symm, rfl⟩
  · have HV : Hid (absI n = n) := hide (by unfold absI; rw [if_pos (by omega)])
    have d : decide (n < 0) = false := decide_eq_false h
    go_enter Tryz.func120, Tryz.ntmps120
    go_wp2_with fail
    go_ret
    exact ⟨ret_int HV.out.symm, rfl⟩
set_option maxHeartbeats 1000000 in
theorem divisor_any (a b : Int) (w : World) (ha : -100000 ≤ a ∧ a ≤ 100000) (hb : -100000 ≤ b ∧ b ≤ 100000) :
    Calls Tryz.prog 187 #[.int .i64 a, .int .i64 b] w fun e w' => e = .returned (.int .i64 (gcdI a b)) ∧ ∃ x, w' = ext w x := by
  go_enter Tryz.func187, Tryz.ntmps187
  go_wp2_with fail
  go_loopw [0, 1] (fun u0 u1 wr => ∃ x y : Int, (-100000 ≤ x ∧ x ≤ 100000) ∧ (-100000 ≤ y ∧ y ≤ 100000) ∧ u0 = .int .i64 x ∧ u1 = .int .i64 y ∧ Hid (gcdI x y = gcdI a b) ∧ ∃ q, wr = ext w q) (fun _ u1 _ => (intOf u1).natAbs)
  case atStart => exact ⟨a, b, ha, hb, rfl, rfl, rfl, ext_same w⟩
  case round =>
    obtain ⟨x, y, hx, hy, rfl, rfl, HG, q, rfl⟩ := hrel
    by_cases h0 : y = 0
    · have d : (y != 0) = false := by simp [h0]
      have HV : Hid (absI x = gcdI a b) := hide (by rw [← HG.out, h0, gcd_end])
      clear h0 HG
      go_wp2_with fail
      refine (iabs_any _ _ (by omega)).mono ?_
      rintro e w' ⟨rfl, rfl⟩
      go_wp2_with fail
      go_ret
      exact ⟨ret_int HV.out, (ext_mk (by (repeat' (first | (with_reducible first | exact Below.refl _ _ | assumption | refine below_ext _ ?_ ?_ | refine Below.alloc ?_ ?_ _ | refine Below.drew ?_ | refine below_drewN ?_ _ | refine le_drewN _ ?_ | refine Below.setCell ?_ ?_ _ | exact Nat.le_refl _ | refine le_ext _ ?_ | refine le_alloc _ ?_ | refine le_setCell _ _ ?_ | refine le_drew ?_) | omega | (simp; done) | (simp; omega)))))⟩
    · have d : (y != 0) = true := by simp [h0]
      have HV : Hid (gcdI y (x.tmod y) = gcdI a b) := hide (by rw [gcd_step]; exact HG.out)
      have HL := tmod_lt x h0
      have HB := tmod_bd x y hx
      have i1 : IntKind.i64.wrap (x.tmod y) = x.tmod y := IntWalk.i64_in _ (by omega)
      clear HG
      go_wp2_with fail
      go_region
      go_wp2_with fail
      exact ⟨⟨y, x.tmod y, hy, HB, rfl, rfl, HV, (ext_mk (by (repeat' (first | (with_reducible first | exact Below.refl _ _ | assumption | refine below_ext _ ?_ ?_ | refine Below.alloc ?_ ?_ _ | refine Below.drew ?_ | refine below_drewN ?_ _ | refine le_drewN _ ?_ | refine Below.setCell ?_ ?_ _ | exact Nat.le_refl _ | refine le_ext _ ?_ | refine le_alloc _ ?_ | refine le_setCell _ _ ?_ | refine le_drew ?_) | omega | (simp; done) | (simp; omega)))))⟩, HL⟩
set_option maxHeartbeats 1000000 in
theorem sgcd_any (a b : Int) (w : World) (ha : 0 ≤ a ∧ a ≤ 100000) (hb : 0 ≤ b ∧ b ≤ 100000) :
    Calls Tryz.prog 170 #[.int .i64 a, .int .i64 b] w fun e w' => e = .returned (.int .i64 (gcdI a b)) ∧ ∃ x, w' = ext w x := by
  go_enter Tryz.func170, Tryz.ntmps170
  go_wp2_with fail
  go_loopw [0, 1] (fun u0 u1 wr => ∃ x y : Int, (0 ≤ x ∧ x ≤ 100000) ∧ (0 ≤ y ∧ y ≤ 100000) ∧ u0 = .int .i64 x ∧ u1 = .int .i64 y ∧ Hid (gcdI x y = gcdI a b) ∧ ∃ q, wr = ext w q) (fun _ u1 _ => (intOf u1).natAbs)
  case atStart => exact ⟨a, b, ha, hb, rfl, rfl, rfl, ext_same w⟩
  case round =>
    obtain ⟨x, y, hx, hy, rfl, rfl, HG, q, rfl⟩ := hrel
    by_cases h0 : y = 0
    · have d : decide (0 < y) = false := decide_eq_false (by omega)
      have HV : Hid (x = gcdI a b) := hide (by rw [← HG.out, h0, gcd_end, absI_self hx.1])
      clear h0 HG
      go_wp2_with fail
      go_ret
      exact ⟨ret_int HV.out, (ext_mk (by (repeat' (first | (with_reducible first | exact Below.refl _ _ | assumption | refine below_ext _ ?_ ?_ | refine Below.alloc ?_ ?_ _ | refine Below.drew ?_ | refine below_drewN ?_ _ | refine le_drewN _ ?_ | refine Below.setCell ?_ ?_ _ | exact Nat.le_refl _ | refine le_ext _ ?_ | refine le_alloc _ ?_ | refine le_setCell _ _ ?_ | refine le_drew ?_) | omega | (simp; done) | (simp; omega)))))⟩
    · have d : decide (0 < y) = true := decide_eq_true (by omega)
      have HV : Hid (gcdI y (x.tmod y) = gcdI a b) := hide (by rw [gcd_step]; exact HG.out)
      have HL := tmod_lt x h0
      have HB := tmod_bd x y (M := 100000) (by omega)
      have HN := tmod_nn (b := y) hx.1
      rw [Int.tmod_eq_emod_of_nonneg hx.1] at HV HL HB HN
      have i1 : IntKind.i64.wrap (x % y) = x % y := IntWalk.i64_in _ (by omega)
      clear HG
      go_wp2_with fail
      exact ⟨⟨y, x % y, hy, ⟨HN, HB.2⟩, rfl, rfl, HV, (ext_mk (by (repeat' (first | (with_reducible first | exact Below.refl _ _ | assumption | refine below_ext _ ?_ ?_ | refine Below.alloc ?_ ?_ _ | refine Below.drew ?_ | refine below_drewN ?_ _ | refine le_drewN _ ?_ | refine Below.setCell ?_ ?_ _ | exact Nat.le_refl _ | refine le_ext _ ?_ | refine le_alloc _ ?_ | refine le_setCell _ _ ?_ | refine le_drew ?_) | omega | (simp; done) | (simp; omega)))))⟩, HL⟩
theorem gcd_bd {a b : Int} {M : Int} (ha : -M ≤ a ∧ a ≤ M) (hb : -M ≤ b ∧ b ≤ M) : 0 ≤ gcdI a b ∧ gcdI a b ≤ M := by
  refine ⟨gcd_nn a b, ?_⟩
  by_cases h : a = 0
  · subst h
    unfold gcdI Int.gcd
    simp
    omega
  · have := Nat.le_of_dvd (by omega) (Nat.gcd_dvd_left a.natAbs b.natAbs)
    unfold gcdI Int.gcd
    omega
theorem bndTo_bd {ps : List Pt} (h : ∀ p ∈ ps, (-1000 ≤ p.x ∧ p.x ≤ 1000) ∧ -1000 ≤ p.y ∧ p.y ≤ 1000) : ∀ k, k ≤ ps.length → (0 : Int) ≤ bndTo ps k ∧ bndTo ps k ≤ k * 2000
  | 0, _ => by simp [bndTo]
  | k + 1, hk => by
    have ih := bndTo_bd h k (by omega)
    have h1 := h _ (gp_mem (show k < ps.length by omega))
    have h2 := h _ (gp_mem (show (k + 1) % ps.length < ps.length from Nat.mod_lt _ (by omega)))
    have := gcd_bd (a := (gp ps ((k + 1) % ps.length)).x - (gp ps k).x) (b := (gp ps ((k + 1) % ps.length)).y - (gp ps k).y) (M := 2000) (by omega) (by omega)
    unfold bndTo
    omega
theorem areaTo_bd3 {ps : List Pt} (h : ∀ p ∈ ps, (-1000 ≤ p.x ∧ p.x ≤ 1000) ∧ -1000 ≤ p.y ∧ p.y ≤ 1000) : ∀ k, k ≤ ps.length → -(k * 2000000 : Int) ≤ areaTo ps k ∧ areaTo ps k ≤ k * 2000000
  | 0, _ => by simp [areaTo]
  | k + 1, hk => by
    have ih := areaTo_bd3 h k (by omega)
    have h1 := h _ (gp_mem (show k < ps.length by omega))
    have h2 := h _ (gp_mem (show (k + 1) % ps.length < ps.length from Nat.mod_lt _ (by omega)))
    have m1 := mul_bd (M := 1000) (N := 1000) h1.1 h2.2
    have m2 := mul_bd (M := 1000) (N := 1000) h1.2 h2.1
    unfold areaTo crP
    omega
theorem simB_P3 {ps : List Pt} (h : simB ps = true) : ∀ p ∈ ps, (-1000 ≤ p.x ∧ p.x ≤ 1000) ∧ -1000 ≤ p.y ∧ p.y ≤ 1000 := by
  unfold simB at h
  simp only [Bool.and_eq_true] at h
  obtain ⟨h1, _, _⟩ := ring_parts h.1
  unfold listOk at h1
  simp only [Bool.and_eq_true, decide_eq_true_eq] at h1
  intro p hp
  have := vP_iff.1 (List.all_eq_true.1 h1.2 p hp)
  omega
set_option maxHeartbeats 1000000 in
theorem onEdges_any (ps : List Pt) (A : Option Addr) (n c : Nat) (w : World) (hn : ps.length = n) (hm : n ≤ 1000) (hb : ∀ p ∈ ps, (-1000 ≤ p.x ∧ p.x ≤ 1000) ∧ -1000 ≤ p.y ∧ p.y ≤ 1000) (hs : PtsAt w w.heap.size A ps) :
    Calls Tryz.prog 137 #[.slice A n c] w fun e w' => e = .returned (.int .i64 (bndL ps)) ∧ ∃ x, w' = ext w x := by
  have HN := hide hn
  have HB := hide hb
  have HE := hide (edges_any ps A n c w hn hm hs)
  have AB := hide (bndTo_bd hb)
  clear hn hb hs
  go_enter Tryz.func137, Tryz.ntmps137
  go_wp2_with fail
  refine HE.out.mono ?_
  rintro e w1 ⟨v1, rfl, hown1, x1, rfl⟩
  obtain ⟨A1, n1, c1, rfl⟩ := hown1.slice
  have hl1 := hown1.segs.1
  have hle1 : n1 ≤ 1000 := by rw [edgesL_len, HN.out] at hl1; omega
  have HL1 : Hid (n1 = n) := hide (by rw [edgesL_len, HN.out] at hl1; omega)
  have SG := hide hown1.segs.2.2.2
  have B1 := ext_below w x1
  generalize hW1 : ext w x1 = W1 at *
  clear hW1 hown1 hl1
  go_wp2
  go_loopw [3, 10] (fun u3 u10 wr => ∃ k : Nat, k ≤ n1 ∧ u10 = .int .i64 k ∧ u3 = .int .i64 (bndTo ps k) ∧ Below W1.heap.size W1 wr) (fun _ u10 _ => n1 - (intOf u10).toNat)
  case atStart => exact ⟨0, Nat.zero_le _, rfl, rfl, Below.refl _ _⟩
  case round =>
    obtain ⟨k, hk, rfl, rfl, hbel⟩ := hrel
    have hsz := hbel.size
    by_cases hlt : k < n1
    · obtain ⟨b, o, rfl, hbl, hc⟩ := SG.out (by rw [edgesL_len, HN.out, ← HL1.out]; omega)
      have hkl : k < ps.length := by rw [HN.out, ← HL1.out]; exact hlt
      have hck := hc k (by rw [edgesL_len]; exact hkl)
      rw [edgesL_at hkl] at hck
      have hj : (k + 1) % ps.length < ps.length := Nat.mod_lt _ (by omega)
      obtain ⟨⟨p1, p2⟩, p3, p4⟩ := HB.out _ (gp_mem hkl)
      obtain ⟨⟨p5, p6⟩, p7, p8⟩ := HB.out _ (gp_mem hj)
      have ab := AB.out k (by omega)
      have NX : Hid (bndTo ps (k + 1) = bndTo ps k + gcdI ((gp ps ((k + 1) % ps.length)).x - (gp ps k).x) ((gp ps ((k + 1) % ps.length)).y - (gp ps k).y)) := hide rfl
      obtain ⟨h1, h2, h3, h4⟩ := hck
      have g1 := (hbel.cell (p := ⟨b, o + k * 4, none⟩) hbl).trans h1
      have g2 := (hbel.cell (p := ⟨b, o + k * 4 + 1, none⟩) hbl).trans h2
      have g3 := (hbel.cell (p := ⟨b, o + k * 4 + 2, none⟩) hbl).trans h3
      have g4 := (hbel.cell (p := ⟨b, o + k * 4 + 3, none⟩) hbl).trans h4
      unfold edgeAt at g1 g2 g3 g4
      simp only at g1 g2 g3 g4
      clear hc h1 h2 h3 h4 hj hkl
      generalize (gp ps k).x = X1 at *
      generalize (gp ps k).y = Y1 at *
      generalize (gp ps ((k + 1) % ps.length)).x = X2 at *
      generalize (gp ps ((k + 1) % ps.length)).y = Y2 at *
      have gb := gcd_bd (a := X2 - X1) (b := Y2 - Y1) (M := 2000) (by omega) (by omega)
      have abl : 0 ≤ bndTo ps k ∧ bndTo ps k ≤ 2000000 := by omega
      clear ab
      go_wp2_with fail
      refine (minus_any _ _ _ _ _ (by omega) (by omega) (by omega) (by omega)).mono ?_
      rintro e w' ⟨rfl, hw'⟩; have hzy := ext_sz hw'; obtain ⟨y, rfl⟩ := hw'; (try simp at hzy)
      go_wp2_with fail
      refine (divisor_any _ _ _ (by omega) (by omega)).mono ?_
      rintro e w' ⟨rfl, hw'⟩; have hzy2 := ext_sz hw'; obtain ⟨y2, rfl⟩ := hw'; (try simp at hzy2)
      go_wp2_with fail
      exact ⟨⟨k + 1, by omega, by go_num, by rw [NX.out], Below.trans hbel (by (repeat' (first | (with_reducible first | exact Below.refl _ _ | assumption | refine below_ext _ ?_ ?_ | refine Below.alloc ?_ ?_ _ | refine Below.drew ?_ | refine below_drewN ?_ _ | refine le_drewN _ ?_ | refine Below.setCell ?_ ?_ _ | exact Nat.le_refl _ | refine le_ext _ ?_ | refine le_alloc _ ?_ | refine le_setCell _ _ ?_ | refine le_drew ?_) | omega | (simp; done) | (simp; omega))))⟩, by simp [intOf]; omega⟩
    · have : k = n1 := by omega
      subst this
      go_wp2
      go_ret
      exact ⟨ret_int (by unfold bndL; rw [HN.out, ← HL1.out]), ext_mk (B1.trans (hbel.mono B1.size))⟩
set_option maxHeartbeats 1000000 in
theorem sbnd_any (ps : List Pt) (A : Option Addr) (n c : Nat) (w : World) (hn : ps.length = n) (hm : n ≤ 1000) (hb : ∀ p ∈ ps, (-1000 ≤ p.x ∧ p.x ≤ 1000) ∧ -1000 ≤ p.y ∧ p.y ≤ 1000) (hs : PtsAt w w.heap.size A ps) :
    Calls Tryz.prog 121 #[.slice A n c] w fun e w' => e = .returned (.int .i64 (bndL ps)) ∧ ∃ x, w' = ext w x := by
  have HN := hide hn
  have HB := hide hb
  have HS := hide hs
  have AB := hide (bndTo_bd hb)
  have HF : Hid (bndL ps = bndTo ps n) := hide (by unfold bndL; rw [hn])
  clear hn hb hs
  go_enter Tryz.func121, Tryz.ntmps121
  go_wp2
  go_loopw [3, 4] (fun u3 u4 wr => ∃ k : Nat, k ≤ n ∧ u4 = .int .i64 k ∧ u3 = .int .i64 (bndTo ps k) ∧ Below w.heap.size w wr) (fun _ u4 _ => n - (intOf u4).toNat)
  case atStart => exact ⟨0, Nat.zero_le _, rfl, rfl, Below.refl _ _⟩
  case round =>
    obtain ⟨k, hk, rfl, rfl, hbel⟩ := hrel
    have hsz := hbel.size
    by_cases hlt : k < n
    · skip
      obtain ⟨j, hj⟩ : ∃ j, j = (k + 1) % n := ⟨_, rfl⟩
      have hjl : j < n := by rw [hj]; exact Nat.mod_lt _ (by omega)
      obtain ⟨b, o, rfl, hb, hcs⟩ := HS.out (by rw [HN.out]; omega)
      obtain ⟨hx0, hy0⟩ := hcs k (by rw [HN.out]; omega)
      obtain ⟨hx1, hy1⟩ := hcs j (by rw [HN.out]; omega)
      have gx0 := (hbel.cell (p := ⟨b, o + k * 2, none⟩) hb).trans hx0
      have gy0 := (hbel.cell (p := ⟨b, o + k * 2 + 1, none⟩) hb).trans hy0
      have gx1 := (hbel.cell (p := ⟨b, o + j * 2, none⟩) hb).trans hx1
      have gy1 := (hbel.cell (p := ⟨b, o + j * 2 + 1, none⟩) hb).trans hy1
      have e2 : Int.tmod ((k : Int) + 1) (n : Int) = (j : Int) := by rw [hj]; exact (Int.ofNat_tmod (k + 1) n).symm
      have w1 : IntKind.i64.wrap ((k : Int) + 1) = (k : Int) + 1 := IntWalk.i64_in _ (by omega)
      have w3 : IntKind.i64.wrap (j : Int) = (j : Int) := IntWalk.i64_in _ (by omega)
      have q1 : (0 : Int) ≤ (j : Int) := by omega
      have q2 : (j : Int) < (n : Int) := by omega
      have q3 : (0 : Int) ≤ (k : Int) := by omega
      have q4 : (k : Int) < (n : Int) := by omega
      have q5 : ¬ n = 0 := by omega
      obtain ⟨⟨p1, p2⟩, p3, p4⟩ := HB.out _ (gp_mem (show k < ps.length by rw [HN.out]; omega))
      obtain ⟨⟨p5, p6⟩, p7, p8⟩ := HB.out _ (gp_mem (show j < ps.length by rw [HN.out]; omega))
      have ab := AB.out k (by rw [HN.out]; omega)
      have NX : Hid (bndTo ps (k + 1) = bndTo ps k + gcdI (absI (pX ps j - pX ps k)) (absI (pY ps j - pY ps k))) := hide (by rw [gcd_abs, hj, ← HN.out]; rfl)
      clear hcs hx0 hy0 hx1 hy1 hj
      have p1' : -1000 ≤ (pX ps k) ∧ (pX ps k) ≤ 1000 := ⟨p1, p2⟩
      have p2' : -1000 ≤ (pY ps k) ∧ (pY ps k) ≤ 1000 := ⟨p3, p4⟩
      have p3' : -1000 ≤ (pX ps j) ∧ (pX ps j) ≤ 1000 := ⟨p5, p6⟩
      have p4' : -1000 ≤ (pY ps j) ∧ (pY ps j) ≤ 1000 := ⟨p7, p8⟩
      clear p1 p2 p3 p4 p5 p6 p7 p8
      generalize pX ps k = X1 at *
      generalize pY ps k = Y1 at *
      generalize pX ps j = X2 at *
      generalize pY ps j = Y2 at *
      have aa := absI_eq (X2 - X1)
      have an := absI_nn (X2 - X1)
      have ba := absI_eq (Y2 - Y1)
      have bn := absI_nn (Y2 - Y1)
      have gb := gcd_bd (a := absI (X2 - X1)) (b := absI (Y2 - Y1)) (M := 2000) (by omega) (by omega)
      have abl : 0 ≤ bndTo ps k ∧ bndTo ps k ≤ 2000000 := by omega
      have SA := hide (fun (z : Int) (hz : -2000 ≤ z ∧ z ≤ 2000) (W : World) => (sabs_any z W (by omega)).mono (fun e w' (hh : e = .returned (.int .i64 (absI z)) ∧ W = w') => (⟨hh.1, by rw [← hh.2]; exact ext_same W⟩ : e = .returned (.int .i64 (absI z)) ∧ ∃ m, w' = ext W m)))
      clear ab
      go_wp2_with fail
      refine wp_region_ext (by kernel_rfl) (by kernel_rfl) ?_
      repeat (go_big_quiet_step ((first | (go_at_call 120; exact Calls.in_ext (SA.out _ (by omega) _)) | (go_at_call 170; exact Calls.in_ext (sgcd_any _ _ _ (by omega) (by omega))))))
      refine wpQuiet_nil ?_
      rintro _ hnq
      have hzq := ext_sz hnq
      obtain ⟨nq, rfl⟩ := hnq
      (try simp at hzq)
      go_wp2_with fail
      exact ⟨⟨k + 1, by omega, by go_num, by rw [NX.out], Below.trans hbel (by (repeat' (first | (with_reducible first | exact Below.refl _ _ | assumption | refine below_ext _ ?_ ?_ | refine Below.alloc ?_ ?_ _ | refine Below.drew ?_ | refine below_drewN ?_ _ | refine le_drewN _ ?_ | refine Below.setCell ?_ ?_ _ | exact Nat.le_refl _ | refine le_ext _ ?_ | refine le_alloc _ ?_ | refine le_setCell _ _ ?_ | refine le_drew ?_) | omega | (simp; done) | (simp; omega))))⟩, by simp [intOf]; omega⟩
    · have hkn : k = n := by omega
      have HV : Hid (bndTo ps k = bndL ps) := hide (by rw [HF.out, hkn])
      clear hkn
      go_wp2
      go_ret
      exact ⟨ret_int HV.out, ext_mk hbel⟩
set_option maxHeartbeats 1000000 in
theorem sarea_any (ps : List Pt) (A : Option Addr) (n c : Nat) (w : World) (hn : ps.length = n) (hm : n ≤ 1000) (hb : ∀ p ∈ ps, (-1000 ≤ p.x ∧ p.x ≤ 1000) ∧ -1000 ≤ p.y ∧ p.y ≤ 1000) (hs : PtsAt w w.heap.size A ps) :
    Calls Tryz.prog 61 #[.slice A n c] w fun e w' => e = .returned (.int .i64 (areaL ps)) ∧ ∃ x, w' = ext w x := by
  have HN := hide hn
  have HB := hide hb
  have HS := hide hs
  have AB := hide (areaTo_bd3 hb)
  have HF : Hid (areaL ps = areaTo ps n) := hide (by unfold areaL; rw [hn])
  clear hn hb hs
  go_enter Tryz.func61, Tryz.ntmps61
  go_wp2
  go_loopw [3, 4] (fun u3 u4 wr => ∃ k : Nat, k ≤ n ∧ u4 = .int .i64 k ∧ u3 = .int .i64 (areaTo ps k) ∧ Below w.heap.size w wr) (fun _ u4 _ => n - (intOf u4).toNat)
  case atStart => exact ⟨0, Nat.zero_le _, rfl, rfl, Below.refl _ _⟩
  case round =>
    obtain ⟨k, hk, rfl, rfl, hbel⟩ := hrel
    have hsz := hbel.size
    by_cases hlt : k < n
    · skip
      obtain ⟨j, hj⟩ : ∃ j, j = (k + 1) % n := ⟨_, rfl⟩
      have hjl : j < n := by rw [hj]; exact Nat.mod_lt _ (by omega)
      obtain ⟨b, o, rfl, hb, hcs⟩ := HS.out (by rw [HN.out]; omega)
      obtain ⟨hx0, hy0⟩ := hcs k (by rw [HN.out]; omega)
      obtain ⟨hx1, hy1⟩ := hcs j (by rw [HN.out]; omega)
      have gx0 := (hbel.cell (p := ⟨b, o + k * 2, none⟩) hb).trans hx0
      have gy0 := (hbel.cell (p := ⟨b, o + k * 2 + 1, none⟩) hb).trans hy0
      have gx1 := (hbel.cell (p := ⟨b, o + j * 2, none⟩) hb).trans hx1
      have gy1 := (hbel.cell (p := ⟨b, o + j * 2 + 1, none⟩) hb).trans hy1
      have e2 : Int.tmod ((k : Int) + 1) (n : Int) = (j : Int) := by rw [hj]; exact (Int.ofNat_tmod (k + 1) n).symm
      have w1 : IntKind.i64.wrap ((k : Int) + 1) = (k : Int) + 1 := IntWalk.i64_in _ (by omega)
      have w3 : IntKind.i64.wrap (j : Int) = (j : Int) := IntWalk.i64_in _ (by omega)
      have q1 : (0 : Int) ≤ (j : Int) := by omega
      have q2 : (j : Int) < (n : Int) := by omega
      have q3 : (0 : Int) ≤ (k : Int) := by omega
      have q4 : (k : Int) < (n : Int) := by omega
      have q5 : ¬ n = 0 := by omega
      obtain ⟨⟨p1, p2⟩, p3, p4⟩ := HB.out _ (gp_mem (show k < ps.length by rw [HN.out]; omega))
      obtain ⟨⟨p5, p6⟩, p7, p8⟩ := HB.out _ (gp_mem (show j < ps.length by rw [HN.out]; omega))
      have ab := AB.out k (by rw [HN.out]; omega)
      have NX : Hid (areaTo ps (k + 1) = areaTo ps k + pX ps k * pY ps j - pY ps k * pX ps j) := hide (by
        rw [show areaTo ps (k + 1) = areaTo ps k + crP (gp ps k) (gp ps ((k + 1) % ps.length)) from rfl, HN.out, ← hj]
        unfold crP pX pY
        omega)
      clear hcs hx0 hy0 hx1 hy1 hj
      have p1' : -1000 ≤ (pX ps k) ∧ (pX ps k) ≤ 1000 := ⟨p1, p2⟩
      have p2' : -1000 ≤ (pY ps k) ∧ (pY ps k) ≤ 1000 := ⟨p3, p4⟩
      have p3' : -1000 ≤ (pX ps j) ∧ (pX ps j) ≤ 1000 := ⟨p5, p6⟩
      have p4' : -1000 ≤ (pY ps j) ∧ (pY ps j) ≤ 1000 := ⟨p7, p8⟩
      clear p1 p2 p3 p4 p5 p6 p7 p8
      generalize pX ps k = X1 at *
      generalize pY ps k = Y1 at *
      generalize pX ps j = X2 at *
      generalize pY ps j = Y2 at *
      have m1 := mul_bd (M := 1000) (N := 1000) p1' p4'
      have m2 := mul_bd (M := 1000) (N := 1000) p2' p3'
      have abl : -2000000000 ≤ areaTo ps k ∧ areaTo ps k ≤ 2000000000 := by omega
      clear ab
      go_wp2_with fail
      refine wp_region_ext (by kernel_rfl) (by kernel_rfl) ?_
      repeat (go_big_quiet_step (fail))
      refine wpQuiet_nil ?_
      rintro _ hnq
      have hzq := ext_sz hnq
      obtain ⟨nq, rfl⟩ := hnq
      (try simp at hzq)
      go_wp2_with fail
      exact ⟨⟨k + 1, by omega, by go_num, by rw [NX.out], Below.trans hbel (by (repeat' (first | (with_reducible first | exact Below.refl _ _ | assumption | refine below_ext _ ?_ ?_ | refine Below.alloc ?_ ?_ _ | refine Below.drew ?_ | refine below_drewN ?_ _ | refine le_drewN _ ?_ | refine Below.setCell ?_ ?_ _ | exact Nat.le_refl _ | refine le_ext _ ?_ | refine le_alloc _ ?_ | refine le_setCell _ _ ?_ | refine le_drew ?_) | omega | (simp; done) | (simp; omega))))⟩, by simp [intOf]; omega⟩
    · have hkn : k = n := by omega
      have HV : Hid (areaTo ps k = areaL ps) := hide (by rw [HF.out, hkn])
      clear hkn
      go_wp2
      go_ret
      exact ⟨ret_int HV.out, ext_mk hbel⟩
end Go.Proofs.YtnddfdhfefconaaGreatDoor
namespace Go.Proofs.YtnddfdhfefconaaGreatDoor
open Go.RowKit

theorem intr_1 {ps : List Pt} (h : simB ps = false) : intr ps = -1 := by unfold intr; rw [h]; rfl
theorem intr_2 {ps : List Pt} (h : simB ps = true) : intr ps = (absI (areaL ps) - bndL ps + 2).tdiv 2 := by unfold intr; rw [h]; rfl
theorem simB_nums {ps : List Pt} (h : simB ps = true) : (∀ p ∈ ps, (-1000 ≤ p.x ∧ p.x ≤ 1000) ∧ -1000 ≤ p.y ∧ p.y ≤ 1000) ∧ ps.length ≤ 20 ∧ (-40000000 ≤ areaL ps ∧ areaL ps ≤ 40000000) ∧ (0 ≤ bndL ps ∧ bndL ps ≤ 40000) := by
  have h3 := simB_P3 h
  have h20 : ps.length ≤ 20 := by
    unfold simB at h
    simp only [Bool.and_eq_true] at h
    exact (listOk_InB (ring_parts h.1).1).2
  have a := areaTo_bd3 h3 ps.length (Nat.le_refl _)
  have b := bndTo_bd h3 ps.length (Nat.le_refl _)
  exact ⟨h3, h20, by unfold areaL; omega, by unfold bndL; omega⟩
set_option maxHeartbeats 1000000 in
theorem iInt_any (ps : List Pt) (A : Option Addr) (n c : Nat) (w : World) (hn : ps.length = n) (hm : n ≤ 2000000) (hA : Plain A n) (hs : PtsAt w w.heap.size A ps) :
    Calls Tryz.prog 92 #[.slice A n c] w fun e w' => e = .returned (.int .i64 (intr ps)) ∧ ∃ x, w' = ext w x := by
  have HC := hide (simple_any ps A n c w hn hm hA hs)
  by_cases hok : simB ps = true
  · rw [hok] at HC
    obtain ⟨h3, h20, ha, hb⟩ := simB_nums hok
    have HV := hide (intr_2 hok)
    have AR := hide (fun (W : World) (hbw : Below w.heap.size w W) => area_any ps A n c W hn (by omega) (fun p hp => by have := h3 p hp; omega) (hs.to hbw))
    have BR := hide (fun (W : World) (hbw : Below w.heap.size w W) => onEdges_any ps A n c W hn (by omega) h3 (hs.to hbw))
    have an := absI_eq (areaL ps)
    have an2 := absI_nn (areaL ps)
    have tb := tdiv2_bd (absI (areaL ps) - bndL ps + 2) (M := 100000000) (by omega)
    have i1 : IntKind.i64.wrap (absI (areaL ps) - bndL ps) = absI (areaL ps) - bndL ps := IntWalk.i64_in _ (by omega)
    have i2 : IntKind.i64.wrap (absI (areaL ps) - bndL ps + 2) = absI (areaL ps) - bndL ps + 2 := IntWalk.i64_in _ (by omega)
    have i3 : IntKind.i64.wrap ((absI (areaL ps) - bndL ps + 2).tdiv 2) = (absI (areaL ps) - bndL ps + 2).tdiv 2 := IntWalk.i64_in _ (by omega)
    have AA := hide (fun W => iabs_any (areaL ps) W (by omega))
    clear hok hn hs h3 an
    go_enter Tryz.func92, Tryz.ntmps92
    go_wp2_with fail
    refine HC.out.mono ?_
    rintro e w' ⟨rfl, hw'⟩; have hzy1 := ext_sz hw'; obtain ⟨y1, rfl⟩ := hw'; (try simp at hzy1)
    go_wp2_with fail
    refine (AR.out _ (by (repeat' (first | (with_reducible first | exact Below.refl _ _ | assumption | refine below_ext _ ?_ ?_ | refine Below.alloc ?_ ?_ _ | refine Below.drew ?_ | refine below_drewN ?_ _ | refine le_drewN _ ?_ | refine Below.setCell ?_ ?_ _ | exact Nat.le_refl _ | refine le_ext _ ?_ | refine le_alloc _ ?_ | refine le_setCell _ _ ?_ | refine le_drew ?_) | omega | (simp; done) | (simp; omega))))).mono ?_
    rintro e w' ⟨rfl, hw'⟩; have hzy2 := ext_sz hw'; obtain ⟨y2, rfl⟩ := hw'; (try simp at hzy2)
    go_wp2_with fail
    refine (AA.out _).mono ?_
    rintro e w' ⟨rfl, rfl⟩
    go_wp2_with fail
    refine (BR.out _ (by (repeat' (first | (with_reducible first | exact Below.refl _ _ | assumption | refine below_ext _ ?_ ?_ | refine Below.alloc ?_ ?_ _ | refine Below.drew ?_ | refine below_drewN ?_ _ | refine le_drewN _ ?_ | refine Below.setCell ?_ ?_ _ | exact Nat.le_refl _ | refine le_ext _ ?_ | refine le_alloc _ ?_ | refine le_setCell _ _ ?_ | refine le_drew ?_) | omega | (simp; done) | (simp; omega))))).mono ?_
    rintro e w' ⟨rfl, hw'⟩; have hzy3 := ext_sz hw'; obtain ⟨y3, rfl⟩ := hw'; (try simp at hzy3)
    go_wp2_with fail
    go_ret
    exact ⟨ret_int HV.out.symm, (ext_mk (by (repeat' (first | (with_reducible first | exact Below.refl _ _ | assumption | refine below_ext _ ?_ ?_ | refine Below.alloc ?_ ?_ _ | refine Below.drew ?_ | refine below_drewN ?_ _ | refine le_drewN _ ?_ | refine Below.setCell ?_ ?_ _ | exact Nat.le_refl _ | refine le_ext _ ?_ | refine le_alloc _ ?_ | refine le_setCell _ _ ?_ | refine le_drew ?_) | omega | (simp; done) | (simp; omega)))))⟩
  · rw [eq_false_of_ne_true hok] at HC
    have HV := hide (intr_1 (eq_false_of_ne_true hok))
    clear hok hn hs
    go_enter Tryz.func92, Tryz.ntmps92
    go_wp2_with fail
    refine HC.out.mono ?_
    rintro e w' ⟨rfl, hw'⟩; have hzy1 := ext_sz hw'; obtain ⟨y1, rfl⟩ := hw'; (try simp at hzy1)
    go_wp2_with fail
    go_ret
    exact ⟨ret_int HV.out.symm, (ext_mk (by (repeat' (first | (with_reducible first | exact Below.refl _ _ | assumption | refine below_ext _ ?_ ?_ | refine Below.alloc ?_ ?_ _ | refine Below.drew ?_ | refine below_drewN ?_ _ | refine le_drewN _ ?_ | refine Below.setCell ?_ ?_ _ | exact Nat.le_refl _ | refine le_ext _ ?_ | refine le_alloc _ ?_ | refine le_setCell _ _ ?_ | refine le_drew ?_) | omega | (simp; done) | (simp; omega)))))⟩
set_option maxHeartbeats 1000000 in
theorem sInt_any (ps : List Pt) (A : Option Addr) (n c : Nat) (w : World) (hn : ps.length = n) (hm : n ≤ 2000000) (hs : PtsAt w w.heap.size A ps) :
    Calls Tryz.prog 70 #[.slice A n c] w fun e w' => e = .returned (.int .i64 (intr ps)) ∧ ∃ x, w' = ext w x := by
  have HC := hide (isSimple_any ps A n c w hn hm hs)
  by_cases hok : simB ps = true
  · rw [hok] at HC
    obtain ⟨h3, h20, ha, hb⟩ := simB_nums hok
    have HV := hide (intr_2 hok)
    have AR := hide (fun (W : World) (hbw : Below w.heap.size w W) => sarea_any ps A n c W hn (by omega) h3 (hs.to hbw))
    have BR := hide (fun (W : World) (hbw : Below w.heap.size w W) => sbnd_any ps A n c W hn (by omega) h3 (hs.to hbw))
    have an := absI_eq (areaL ps)
    have an2 := absI_nn (areaL ps)
    have tb := tdiv2_bd (absI (areaL ps) - bndL ps + 2) (M := 100000000) (by omega)
    have i1 : IntKind.i64.wrap (absI (areaL ps) - bndL ps) = absI (areaL ps) - bndL ps := IntWalk.i64_in _ (by omega)
    have i2 : IntKind.i64.wrap (absI (areaL ps) - bndL ps + 2) = absI (areaL ps) - bndL ps + 2 := IntWalk.i64_in _ (by omega)
    have i3 : IntKind.i64.wrap ((absI (areaL ps) - bndL ps + 2).tdiv 2) = (absI (areaL ps) - bndL ps + 2).tdiv 2 := IntWalk.i64_in _ (by omega)
    have AA := hide (fun W => sabs_any (areaL ps) W (by omega))
    clear hok hn hs h3 an
    go_enter Tryz.func70, Tryz.ntmps70
    go_wp2_with fail
    refine HC.out.mono ?_
    rintro e w' ⟨rfl, hw'⟩; have hzy1 := ext_sz hw'; obtain ⟨y1, rfl⟩ := hw'; (try simp at hzy1)
    go_wp2_with fail
    refine (AR.out _ (by (repeat' (first | (with_reducible first | exact Below.refl _ _ | assumption | refine below_ext _ ?_ ?_ | refine Below.alloc ?_ ?_ _ | refine Below.drew ?_ | refine below_drewN ?_ _ | refine le_drewN _ ?_ | refine Below.setCell ?_ ?_ _ | exact Nat.le_refl _ | refine le_ext _ ?_ | refine le_alloc _ ?_ | refine le_setCell _ _ ?_ | refine le_drew ?_) | omega | (simp; done) | (simp; omega))))).mono ?_
    rintro e w' ⟨rfl, hw'⟩; have hzy2 := ext_sz hw'; obtain ⟨y2, rfl⟩ := hw'; (try simp at hzy2)
    go_wp2_with fail
    refine (AA.out _).mono ?_
    rintro e w' ⟨rfl, rfl⟩
    go_wp2_with fail
    refine (BR.out _ (by (repeat' (first | (with_reducible first | exact Below.refl _ _ | assumption | refine below_ext _ ?_ ?_ | refine Below.alloc ?_ ?_ _ | refine Below.drew ?_ | refine below_drewN ?_ _ | refine le_drewN _ ?_ | refine Below.setCell ?_ ?_ _ | exact Nat.le_refl _ | refine le_ext _ ?_ | refine le_alloc _ ?_ | refine le_setCell _ _ ?_ | refine le_drew ?_) | omega | (simp; done) | (simp; omega))))).mono ?_
    rintro e w' ⟨rfl, hw'⟩; have hzy3 := ext_sz hw'; obtain ⟨y3, rfl⟩ := hw'; (try simp at hzy3)
    go_wp2_with fail
    go_ret
    exact ⟨ret_int HV.out.symm, (ext_mk (by (repeat' (first | (with_reducible first | exact Below.refl _ _ | assumption | refine below_ext _ ?_ ?_ | refine Below.alloc ?_ ?_ _ | refine Below.drew ?_ | refine below_drewN ?_ _ | refine le_drewN _ ?_ | refine Below.setCell ?_ ?_ _ | exact Nat.le_refl _ | refine le_ext _ ?_ | refine le_alloc _ ?_ | refine le_setCell _ _ ?_ | refine le_drew ?_) | omega | (simp; done) | (simp; omega)))))⟩
  · rw [eq_false_of_ne_true hok] at HC
    have HV := hide (intr_1 (eq_false_of_ne_true hok))
    clear hok hn hs
    go_enter Tryz.func70, Tryz.ntmps70
    go_wp2_with fail
    refine HC.out.mono ?_
    rintro e w' ⟨rfl, hw'⟩; have hzy1 := ext_sz hw'; obtain ⟨y1, rfl⟩ := hw'; (try simp at hzy1)
    go_wp2_with fail
    go_ret
    exact ⟨ret_int HV.out.symm, (ext_mk (by (repeat' (first | (with_reducible first | exact Below.refl _ _ | assumption | refine below_ext _ ?_ ?_ | refine Below.alloc ?_ ?_ _ | refine Below.drew ?_ | refine below_drewN ?_ _ | refine le_drewN _ ?_ | refine Below.setCell ?_ ?_ _ | exact Nat.le_refl _ | refine le_ext _ ?_ | refine le_alloc _ ?_ | refine le_setCell _ _ ?_ | refine le_drew ?_) | omega | (simp; done) | (simp; omega)))))⟩
end Go.Proofs.YtnddfdhfefconaaGreatDoor
