
/- The reference's relation of two segments, and its test of a simple polygon. -/
import Derived.Test.YtelhidonhldjeaaRel
import Derived.Test.YtelhidonhldjeaaAddP
import Derived.Test.YtelhidonhldjeaaSHull
set_option linter.unusedVariables false
set_option linter.unusedSimpArgs false
namespace Go.Proofs.Ytelhidonhldjeaa
open Go.RowKit

theorem RowAt.four (w : World) (p q r t : Pt) : RowAt (w.alloc (.cells #[.int .i64 p.x, .int .i64 p.y, .int .i64 q.x, .int .i64 q.y, .int .i64 r.x, .int .i64 r.y, .int .i64 t.x, .int .i64 t.y] 39)) w.heap.size 39 8 (ptCell [p, q, r, t]) :=
  RowAt.new w _ _ fun j hj => by
    match j, hj with
    | 0, _ => rfl
    | 1, _ => rfl
    | 2, _ => rfl
    | 3, _ => rfl
    | 4, _ => rfl
    | 5, _ => rfl
    | 6, _ => rfl
    | 7, _ => rfl
    | j + 8, h => simp at h; omega
theorem sortP_snoc (l : List Pt) (p : Pt) : sortP (l ++ [p]) = insP p (sortP l) := by unfold sortP; rw [List.foldl_append]; rfl
theorem four_takeS (q : List Pt) (f : Pt → Bool) (k : Nat) (hk : k < q.length) : (q.take (k + 1)).filter f = (q.take k).filter f ++ (if f (gp q k) = true then [gp q k] else []) := by
  rw [List.take_succ_eq_append_getElem hk, List.filter_append, ← gp_lt hk]
  congr 1
  cases h : f (gp q k) <;> simp [h]
def bothS (s t : Sg) (p : Pt) : Bool := onS s p && onS t p
set_option maxHeartbeats 2000000 in
theorem commonEnds_any (a b c d e f g h : Int) (w : World) (ha : -100000 ≤ a ∧ a ≤ 100000) (hb : -100000 ≤ b ∧ b ≤ 100000) (hc : -100000 ≤ c ∧ c ≤ 100000) (hd : -100000 ≤ d ∧ d ≤ 100000) (he : -100000 ≤ e ∧ e ≤ 100000) (hf : -100000 ≤ f ∧ f ≤ 100000) (hg : -100000 ≤ g ∧ g ≤ 100000) (hh : -100000 ≤ h ∧ h ≤ 100000) :
    Calls Try.prog 141 #[.agg #[.int .i64 a, .int .i64 b, .int .i64 c, .int .i64 d], .agg #[.int .i64 e, .int .i64 f, .int .i64 g, .int .i64 h]] w fun r w' => ∃ v, r = .returned v ∧ OwnP w' w.heap.size v (sortP (cmnA (⟨a, b⟩, ⟨c, d⟩) (⟨e, f⟩, ⟨g, h⟩))) ∧ ∃ n, w' = ext w n := by
  have H1 := hide (fun (x y : Int) (hx : -100000 ≤ x ∧ x ≤ 100000) (hy : -100000 ≤ y ∧ y ≤ 100000) W => sonSeg_any e f g h x y W he hf hg hh hx hy)
  have H2 := hide (fun (x y : Int) (hx : -100000 ≤ x ∧ x ≤ 100000) (hy : -100000 ≤ y ∧ y ≤ 100000) W => sonSeg_any a b c d x y W ha hb hc hd hx hy)
  have BD : Hid (∀ k, k < 4 → (-100000 ≤ (pX [⟨a, b⟩, ⟨c, d⟩, ⟨e, f⟩, ⟨g, h⟩] k) ∧ (pX [⟨a, b⟩, ⟨c, d⟩, ⟨e, f⟩, ⟨g, h⟩] k) ≤ 100000) ∧ -100000 ≤ (pY [⟨a, b⟩, ⟨c, d⟩, ⟨e, f⟩, ⟨g, h⟩] k) ∧ (pY [⟨a, b⟩, ⟨c, d⟩, ⟨e, f⟩, ⟨g, h⟩] k) ≤ 100000) := hide (fun k hk => by
    match k, hk with
    | 0, _ => exact ⟨ha, hb⟩
    | 1, _ => exact ⟨hc, hd⟩
    | 2, _ => exact ⟨he, hf⟩
    | 3, _ => exact ⟨hg, hh⟩)
  have FIN : Hid (cmnA (⟨a, b⟩, ⟨c, d⟩) (⟨e, f⟩, ⟨g, h⟩) = ([⟨a, b⟩, ⟨c, d⟩, ⟨e, f⟩, ⟨g, h⟩].take 4).filter (bothS (⟨a, b⟩, ⟨c, d⟩) (⟨e, f⟩, ⟨g, h⟩))) := hide rfl
  have TS := hide (four_takeS [⟨a, b⟩, ⟨c, d⟩, ⟨e, f⟩, ⟨g, h⟩] (bothS (⟨a, b⟩, ⟨c, d⟩) (⟨e, f⟩, ⟨g, h⟩)))
  have LL : Hid (∀ k, (sortP (([⟨a, b⟩, ⟨c, d⟩, ⟨e, f⟩, ⟨g, h⟩].take k).filter (bothS (⟨a, b⟩, ⟨c, d⟩) (⟨e, f⟩, ⟨g, h⟩)))).length ≤ 4) := hide (fun k => by
    have h1 := sortP_len (([⟨a, b⟩, ⟨c, d⟩, ⟨e, f⟩, ⟨g, h⟩].take k).filter (bothS (⟨a, b⟩, ⟨c, d⟩) (⟨e, f⟩, ⟨g, h⟩)))
    have h2 := List.length_filter_le (bothS (⟨a, b⟩, ⟨c, d⟩) (⟨e, f⟩, ⟨g, h⟩)) (([⟨a, b⟩, ⟨c, d⟩, ⟨e, f⟩, ⟨g, h⟩] : List Pt).take k)
    rw [List.length_take] at h2
    simp at h2
    omega)
  have O1 : Hid (∀ o1 o2 o4 : Obj, OwnP ((((w.alloc o1).alloc o2).alloc (.cells #[] 39)).alloc o4) (w.heap.size + 2) (.slice (some ⟨w.heap.size + 1 + 1, 0, none⟩) 0 0) []) := hide (fun o1 o2 o4 => by
    have h := OwnP.empty ((w.alloc o1).alloc o2) (w.heap.size + 2) 0 (by simp) #[] rfl (by simp [maxLen])
    rw [size_alloc, size_alloc] at h
    exact h.below ((Below.refl _ _).alloc (Nat.le_refl _) o4))
  have BX1 : Hid (∀ o1 o2 o3 o4 : Obj, ((((w.alloc o1).alloc o2).alloc o3).alloc o4).heap[w.heap.size]? = some o1) := hide (fun o1 o2 o3 o4 => by
    rw [Below.heap_alloc _ _ _ (by first | (simp; done) | (simp; omega)), Below.heap_alloc _ _ _ (by first | (simp; done) | (simp; omega)), Below.heap_alloc _ _ _ (by first | (simp; done) | (simp; omega))]
    exact heap_alloc_new _ _)
  have BX2 : Hid (∀ o1 o2 o3 o4 : Obj, ((((w.alloc o1).alloc o2).alloc o3).alloc o4).heap[w.heap.size + 1]? = some o2) := hide (fun o1 o2 o3 o4 => by
    rw [Below.heap_alloc _ _ _ (by first | (simp; done) | (simp; omega)), Below.heap_alloc _ _ _ (by first | (simp; done) | (simp; omega))]
    have := heap_alloc_new (w.alloc o1) o2
    rw [size_alloc] at this
    exact this)
  have R1 : Hid (∀ o1 o2 o3 : Obj, RowAt ((((w.alloc o1).alloc o2).alloc o3).alloc (.cells #[.int .i64 a, .int .i64 b, .int .i64 c, .int .i64 d, .int .i64 e, .int .i64 f, .int .i64 g, .int .i64 h] 39)) (w.heap.size + 1 + 1 + 1) 39 8 (ptCell [⟨a, b⟩, ⟨c, d⟩, ⟨e, f⟩, ⟨g, h⟩])) := hide (fun o1 o2 o3 => by
    have := RowAt.four (((w.alloc o1).alloc o2).alloc o3) ⟨a, b⟩ ⟨c, d⟩ ⟨e, f⟩ ⟨g, h⟩
    rw [size_alloc, size_alloc, size_alloc] at this
    exact this)
  clear ha hb hc hd he hf hg hh
  go_enter Try.func141, Try.ntmps141
  go_wp2_with fail
  go_loopw [5, 7] (fun u5 u7 wr => ∃ k : Nat, k ≤ 4 ∧ u7 = .int .i64 k ∧ OwnP wr (w.heap.size + 2) u5 (sortP (([⟨a, b⟩, ⟨c, d⟩, ⟨e, f⟩, ⟨g, h⟩].take k).filter (bothS (⟨a, b⟩, ⟨c, d⟩) (⟨e, f⟩, ⟨g, h⟩)))) ∧ Hid (wr.heap[w.heap.size]? = some (.cells #[.int .i64 a, .int .i64 b, .int .i64 c, .int .i64 d] 95 (0, 0))) ∧ Hid (wr.heap[w.heap.size + 1]? = some (.cells #[.int .i64 e, .int .i64 f, .int .i64 g, .int .i64 h] 95 (0, 0))) ∧ RowAt wr (w.heap.size + 1 + 1 + 1) 39 8 (ptCell [⟨a, b⟩, ⟨c, d⟩, ⟨e, f⟩, ⟨g, h⟩]) ∧ w.heap.size + 4 ≤ wr.heap.size ∧ Below w.heap.size w wr) (fun _ u7 _ => 4 - (intOf u7).toNat)
  case atStart => exact ⟨0, by omega, rfl, O1.out _ _ _, BX1.out _ _ _ _, BX2.out _ _ _ _, R1.out _ _ _, by simp, (by (repeat' (first | (with_reducible exact Below.refl _ _) | (with_reducible assumption) | (with_reducible refine below_ext _ ?_ ?_) | (with_reducible refine Below.alloc ?_ ?_ _) | (with_reducible refine Below.drew ?_) | (with_reducible refine below_drewN ?_ _) | (with_reducible refine le_drewN _ ?_) | (with_reducible refine Below.setCell ?_ ?_ _) | (with_reducible exact Nat.le_refl _) | (with_reducible refine le_ext _ ?_) | (with_reducible refine le_alloc _ ?_) | (with_reducible refine le_setCell _ _ ?_) | (with_reducible refine le_drew ?_) | omega | (simp; done) | (simp; omega))))⟩
  case round =>
    obtain ⟨k, hk, rfl, hown, HB1, HB2, hrow, hsz, hbel⟩ := hrel
    obtain ⟨A0, n0, c0, rfl⟩ := hown.slice
    have OWN0 := hide hown
    have ROW := hide hrow
    have s0 := heap_cell HB1.out 0
    have s1 := heap_cell HB1.out 1
    have s2 := heap_cell HB1.out 2
    have s3 := heap_cell HB1.out 3
    have t0 := heap_cell HB2.out 0
    have t1 := heap_cell HB2.out 1
    have t2 := heap_cell HB2.out 2
    have t3 := heap_cell HB2.out 3
    simp at s0 s1 s2 s3 t0 t1 t2 t3
    have hln : n0 ≤ 4 := by have := hown.pts.1; have := LL.out k; omega
    clear hown
    by_cases hlt : k < 4
    · have hx := hrow.cell (j := k * 2) (by omega)
      have hy := hrow.cell (j := k * 2 + 1) (by omega)
      rw [ptCell_even] at hx
      rw [ptCell_odd] at hy
      obtain ⟨⟨p1, p2⟩, p3, p4⟩ := BD.out k hlt
      have TT := hide (TS.out k hlt)
      rw [gp_mk] at TT
      clear hrow
      have q1 : (0 : Int) ≤ (k : Int) := by omega
      have q2 : (k : Int) < 4 := by omega
      generalize pX [⟨a, b⟩, ⟨c, d⟩, ⟨e, f⟩, ⟨g, h⟩] k = X at *
      generalize pY [⟨a, b⟩, ⟨c, d⟩, ⟨e, f⟩, ⟨g, h⟩] k = Y at *
      have HA := hide (fun W => H2.out X Y ⟨p1, p2⟩ ⟨p3, p4⟩ W)
      have HBt := hide (fun W => H1.out X Y ⟨p1, p2⟩ ⟨p3, p4⟩ W)
      have CV : Hid (bothS (⟨a, b⟩, ⟨c, d⟩) (⟨e, f⟩, ⟨g, h⟩) ⟨X, Y⟩ = (onSeg ⟨a, b⟩ ⟨c, d⟩ ⟨X, Y⟩ && onSeg ⟨e, f⟩ ⟨g, h⟩ ⟨X, Y⟩)) := hide rfl
      generalize ([⟨a, b⟩, ⟨c, d⟩, ⟨e, f⟩, ⟨g, h⟩].take k).filter (bothS (⟨a, b⟩, ⟨c, d⟩) (⟨e, f⟩, ⟨g, h⟩)) = L at *
      have CU : Hid (∀ (p1 p2 p3 p4 : Int) (v : Bool) W, ((p1, p2, p3, p4, v) = (a, b, c, d, onSeg ⟨a, b⟩ ⟨c, d⟩ ⟨X, Y⟩) ∨ (p1, p2, p3, p4, v) = (e, f, g, h, onSeg ⟨e, f⟩ ⟨g, h⟩ ⟨X, Y⟩)) → Calls Try.prog 133 #[.agg #[.int .i64 p1, .int .i64 p2, .int .i64 p3, .int .i64 p4], .agg #[.int .i64 X, .int .i64 Y]] W fun r w' => r = .returned (.bool v) ∧ ∃ m, w' = ext W m) := hide (fun p1 p2 p3 p4 v W hh => by
        rcases hh with hh | hh
        · simp only [Prod.mk.injEq] at hh
          obtain ⟨rfl, rfl, rfl, rfl, rfl⟩ := hh
          exact HA.out W
        · simp only [Prod.mk.injEq] at hh
          obtain ⟨rfl, rfl, rfl, rfl, rfl⟩ := hh
          exact HBt.out W)
      clear HA HBt
      generalize onSeg ⟨a, b⟩ ⟨c, d⟩ ⟨X, Y⟩ = V1 at *
      generalize onSeg ⟨e, f⟩ ⟨g, h⟩ ⟨X, Y⟩ = V2 at *
      cases V1
      · rw [Bool.false_and] at CV
        rw [CV.out] at TT
        have TT2 := hide (TT.out.trans (by rw [if_neg (by simp), List.append_nil]))
        clear TT
        go_wp2_with fail
        refine wp_region_ext (by kernel_rfl) (by kernel_rfl) ?_
        repeat (go_big_quiet_step ((first | (go_at_call 133; exact Calls.in_ext (CU.out _ _ _ _ _ _ (by first | exact .inl rfl | exact .inr rfl))))))
        refine wpQuiet_nil ?_
        rintro _ hnq
        have hzq := ext_sz hnq
        obtain ⟨nq, rfl⟩ := hnq
        (try simp at hzq)
        go_wp2_with fail
        exact ⟨⟨k + 1, by omega, by go_num, by rw [TT2.out]; exact OWN0.out.below (by (repeat' (first | (with_reducible exact Below.refl _ _) | (with_reducible assumption) | (with_reducible refine below_ext _ ?_ ?_) | (with_reducible refine Below.alloc ?_ ?_ _) | (with_reducible refine Below.drew ?_) | (with_reducible refine below_drewN ?_ _) | (with_reducible refine le_drewN _ ?_) | (with_reducible refine Below.setCell ?_ ?_ _) | (with_reducible exact Nat.le_refl _) | (with_reducible refine le_ext _ ?_) | (with_reducible refine le_alloc _ ?_) | (with_reducible refine le_setCell _ _ ?_) | (with_reducible refine le_drew ?_) | omega | (simp; done) | (simp; omega)))), hide ((Below.block (show Below wr.heap.size wr _ from (by (repeat' (first | (with_reducible exact Below.refl _ _) | (with_reducible assumption) | (with_reducible refine below_ext _ ?_ ?_) | (with_reducible refine Below.alloc ?_ ?_ _) | (with_reducible refine Below.drew ?_) | (with_reducible refine below_drewN ?_ _) | (with_reducible refine le_drewN _ ?_) | (with_reducible refine Below.setCell ?_ ?_ _) | (with_reducible exact Nat.le_refl _) | (with_reducible refine le_ext _ ?_) | (with_reducible refine le_alloc _ ?_) | (with_reducible refine le_setCell _ _ ?_) | (with_reducible refine le_drew ?_) | omega | (simp; done) | (simp; omega))))) _ (by omega)).trans HB1.out), hide ((Below.block (show Below wr.heap.size wr _ from (by (repeat' (first | (with_reducible exact Below.refl _ _) | (with_reducible assumption) | (with_reducible refine below_ext _ ?_ ?_) | (with_reducible refine Below.alloc ?_ ?_ _) | (with_reducible refine Below.drew ?_) | (with_reducible refine below_drewN ?_ _) | (with_reducible refine le_drewN _ ?_) | (with_reducible refine Below.setCell ?_ ?_ _) | (with_reducible exact Nat.le_refl _) | (with_reducible refine le_ext _ ?_) | (with_reducible refine le_alloc _ ?_) | (with_reducible refine le_setCell _ _ ?_) | (with_reducible refine le_drew ?_) | omega | (simp; done) | (simp; omega))))) _ (by omega)).trans HB2.out), ROW.out.below (show Below wr.heap.size wr _ from (by (repeat' (first | (with_reducible exact Below.refl _ _) | (with_reducible assumption) | (with_reducible refine below_ext _ ?_ ?_) | (with_reducible refine Below.alloc ?_ ?_ _) | (with_reducible refine Below.drew ?_) | (with_reducible refine below_drewN ?_ _) | (with_reducible refine le_drewN _ ?_) | (with_reducible refine Below.setCell ?_ ?_ _) | (with_reducible exact Nat.le_refl _) | (with_reducible refine le_ext _ ?_) | (with_reducible refine le_alloc _ ?_) | (with_reducible refine le_setCell _ _ ?_) | (with_reducible refine le_drew ?_) | omega | (simp; done) | (simp; omega))))) ROW.out.lt, by first | omega | (simp; omega), hbel.trans (show Below w.heap.size wr _ from (by (repeat' (first | (with_reducible exact Below.refl _ _) | (with_reducible assumption) | (with_reducible refine below_ext _ ?_ ?_) | (with_reducible refine Below.alloc ?_ ?_ _) | (with_reducible refine Below.drew ?_) | (with_reducible refine below_drewN ?_ _) | (with_reducible refine le_drewN _ ?_) | (with_reducible refine Below.setCell ?_ ?_ _) | (with_reducible exact Nat.le_refl _) | (with_reducible refine le_ext _ ?_) | (with_reducible refine le_alloc _ ?_) | (with_reducible refine le_setCell _ _ ?_) | (with_reducible refine le_drew ?_) | omega | (simp; done) | (simp; omega)))))⟩, by simp [intOf]; omega⟩
      · cases V2
        · rw [Bool.true_and] at CV
          rw [CV.out] at TT
          have TT2 := hide (TT.out.trans (by rw [if_neg (by simp), List.append_nil]))
          clear TT
          go_wp2_with fail
          refine wp_region_ext (by kernel_rfl) (by kernel_rfl) ?_
          repeat (go_big_quiet_step ((first | (go_at_call 133; exact Calls.in_ext (CU.out _ _ _ _ _ _ (by first | exact .inl rfl | exact .inr rfl))))))
          refine wpQuiet_nil ?_
          rintro _ hnq
          have hzq := ext_sz hnq
          obtain ⟨nq, rfl⟩ := hnq
          (try simp at hzq)
          go_wp2_with fail
          exact ⟨⟨k + 1, by omega, by go_num, by rw [TT2.out]; exact OWN0.out.below (by (repeat' (first | (with_reducible exact Below.refl _ _) | (with_reducible assumption) | (with_reducible refine below_ext _ ?_ ?_) | (with_reducible refine Below.alloc ?_ ?_ _) | (with_reducible refine Below.drew ?_) | (with_reducible refine below_drewN ?_ _) | (with_reducible refine le_drewN _ ?_) | (with_reducible refine Below.setCell ?_ ?_ _) | (with_reducible exact Nat.le_refl _) | (with_reducible refine le_ext _ ?_) | (with_reducible refine le_alloc _ ?_) | (with_reducible refine le_setCell _ _ ?_) | (with_reducible refine le_drew ?_) | omega | (simp; done) | (simp; omega)))), hide ((Below.block (show Below wr.heap.size wr _ from (by (repeat' (first | (with_reducible exact Below.refl _ _) | (with_reducible assumption) | (with_reducible refine below_ext _ ?_ ?_) | (with_reducible refine Below.alloc ?_ ?_ _) | (with_reducible refine Below.drew ?_) | (with_reducible refine below_drewN ?_ _) | (with_reducible refine le_drewN _ ?_) | (with_reducible refine Below.setCell ?_ ?_ _) | (with_reducible exact Nat.le_refl _) | (with_reducible refine le_ext _ ?_) | (with_reducible refine le_alloc _ ?_) | (with_reducible refine le_setCell _ _ ?_) | (with_reducible refine le_drew ?_) | omega | (simp; done) | (simp; omega))))) _ (by omega)).trans HB1.out), hide ((Below.block (show Below wr.heap.size wr _ from (by (repeat' (first | (with_reducible exact Below.refl _ _) | (with_reducible assumption) | (with_reducible refine below_ext _ ?_ ?_) | (with_reducible refine Below.alloc ?_ ?_ _) | (with_reducible refine Below.drew ?_) | (with_reducible refine below_drewN ?_ _) | (with_reducible refine le_drewN _ ?_) | (with_reducible refine Below.setCell ?_ ?_ _) | (with_reducible exact Nat.le_refl _) | (with_reducible refine le_ext _ ?_) | (with_reducible refine le_alloc _ ?_) | (with_reducible refine le_setCell _ _ ?_) | (with_reducible refine le_drew ?_) | omega | (simp; done) | (simp; omega))))) _ (by omega)).trans HB2.out), ROW.out.below (show Below wr.heap.size wr _ from (by (repeat' (first | (with_reducible exact Below.refl _ _) | (with_reducible assumption) | (with_reducible refine below_ext _ ?_ ?_) | (with_reducible refine Below.alloc ?_ ?_ _) | (with_reducible refine Below.drew ?_) | (with_reducible refine below_drewN ?_ _) | (with_reducible refine le_drewN _ ?_) | (with_reducible refine Below.setCell ?_ ?_ _) | (with_reducible exact Nat.le_refl _) | (with_reducible refine le_ext _ ?_) | (with_reducible refine le_alloc _ ?_) | (with_reducible refine le_setCell _ _ ?_) | (with_reducible refine le_drew ?_) | omega | (simp; done) | (simp; omega))))) ROW.out.lt, by first | omega | (simp; omega), hbel.trans (show Below w.heap.size wr _ from (by (repeat' (first | (with_reducible exact Below.refl _ _) | (with_reducible assumption) | (with_reducible refine below_ext _ ?_ ?_) | (with_reducible refine Below.alloc ?_ ?_ _) | (with_reducible refine Below.drew ?_) | (with_reducible refine below_drewN ?_ _) | (with_reducible refine le_drewN _ ?_) | (with_reducible refine Below.setCell ?_ ?_ _) | (with_reducible exact Nat.le_refl _) | (with_reducible refine le_ext _ ?_) | (with_reducible refine le_alloc _ ?_) | (with_reducible refine le_setCell _ _ ?_) | (with_reducible refine le_drew ?_) | omega | (simp; done) | (simp; omega)))))⟩, by simp [intOf]; omega⟩
        · rw [Bool.true_and] at CV
          rw [CV.out] at TT
          have TT2 := hide (TT.out.trans (by rw [if_pos (by simp)]))
          have AP := hide (fun (W : World) (hb : Below wr.heap.size wr W) => addPoint_any (sortP L) X Y A0 n0 c0 (w.heap.size + 2) W (by omega) (by have := hb.size; omega) (OWN0.out.below hb))
          clear TT
          go_wp2_with fail
          refine wp_region_ext (by kernel_rfl) (by kernel_rfl) ?_
          repeat (go_big_quiet_step ((first | (go_at_call 133; exact Calls.in_ext (CU.out _ _ _ _ _ _ (by first | exact .inl rfl | exact .inr rfl))))))
          refine wpQuiet_nil ?_
          rintro _ hnq
          have hzq := ext_sz hnq
          obtain ⟨nq, rfl⟩ := hnq
          (try simp at hzq)
          go_wp2_with fail
          refine (AP.out _ (by (repeat' (first | (with_reducible exact Below.refl _ _) | (with_reducible assumption) | (with_reducible refine below_ext _ ?_ ?_) | (with_reducible refine Below.alloc ?_ ?_ _) | (with_reducible refine Below.drew ?_) | (with_reducible refine below_drewN ?_ _) | (with_reducible refine le_drewN _ ?_) | (with_reducible refine Below.setCell ?_ ?_ _) | (with_reducible exact Nat.le_refl _) | (with_reducible refine le_ext _ ?_) | (with_reducible refine le_alloc _ ?_) | (with_reducible refine le_setCell _ _ ?_) | (with_reducible refine le_drew ?_) | omega | (simp; done) | (simp; omega))))).mono ?_
          rintro e' w6 ⟨v6, rfl, hown6, y6, rfl⟩
          have O6 := hide hown6
          clear hown6
          go_wp2_with fail
          exact ⟨⟨k + 1, by omega, by go_num, by rw [TT2.out, sortP_snoc]; exact O6.out, hide ((Below.block (show Below wr.heap.size wr _ from (by (repeat' (first | (with_reducible exact Below.refl _ _) | (with_reducible assumption) | (with_reducible refine below_ext _ ?_ ?_) | (with_reducible refine Below.alloc ?_ ?_ _) | (with_reducible refine Below.drew ?_) | (with_reducible refine below_drewN ?_ _) | (with_reducible refine le_drewN _ ?_) | (with_reducible refine Below.setCell ?_ ?_ _) | (with_reducible exact Nat.le_refl _) | (with_reducible refine le_ext _ ?_) | (with_reducible refine le_alloc _ ?_) | (with_reducible refine le_setCell _ _ ?_) | (with_reducible refine le_drew ?_) | omega | (simp; done) | (simp; omega))))) _ (by omega)).trans HB1.out), hide ((Below.block (show Below wr.heap.size wr _ from (by (repeat' (first | (with_reducible exact Below.refl _ _) | (with_reducible assumption) | (with_reducible refine below_ext _ ?_ ?_) | (with_reducible refine Below.alloc ?_ ?_ _) | (with_reducible refine Below.drew ?_) | (with_reducible refine below_drewN ?_ _) | (with_reducible refine le_drewN _ ?_) | (with_reducible refine Below.setCell ?_ ?_ _) | (with_reducible exact Nat.le_refl _) | (with_reducible refine le_ext _ ?_) | (with_reducible refine le_alloc _ ?_) | (with_reducible refine le_setCell _ _ ?_) | (with_reducible refine le_drew ?_) | omega | (simp; done) | (simp; omega))))) _ (by omega)).trans HB2.out), ROW.out.below (show Below wr.heap.size wr _ from (by (repeat' (first | (with_reducible exact Below.refl _ _) | (with_reducible assumption) | (with_reducible refine below_ext _ ?_ ?_) | (with_reducible refine Below.alloc ?_ ?_ _) | (with_reducible refine Below.drew ?_) | (with_reducible refine below_drewN ?_ _) | (with_reducible refine le_drewN _ ?_) | (with_reducible refine Below.setCell ?_ ?_ _) | (with_reducible exact Nat.le_refl _) | (with_reducible refine le_ext _ ?_) | (with_reducible refine le_alloc _ ?_) | (with_reducible refine le_setCell _ _ ?_) | (with_reducible refine le_drew ?_) | omega | (simp; done) | (simp; omega))))) ROW.out.lt, Nat.le_trans hsz (le_ext _ (le_ext _ (Nat.le_refl _))), hbel.trans (show Below w.heap.size wr _ from (by (repeat' (first | (with_reducible exact Below.refl _ _) | (with_reducible assumption) | (with_reducible refine below_ext _ ?_ ?_) | (with_reducible refine Below.alloc ?_ ?_ _) | (with_reducible refine Below.drew ?_) | (with_reducible refine below_drewN ?_ _) | (with_reducible refine le_drewN _ ?_) | (with_reducible refine Below.setCell ?_ ?_ _) | (with_reducible exact Nat.le_refl _) | (with_reducible refine le_ext _ ?_) | (with_reducible refine le_alloc _ ?_) | (with_reducible refine le_setCell _ _ ?_) | (with_reducible refine le_drew ?_) | omega | (simp; done) | (simp; omega)))))⟩, by simp [intOf]; omega⟩
    · have HF : Hid (OwnP wr w.heap.size (.slice A0 n0 c0) (sortP (([⟨a, b⟩, ⟨c, d⟩, ⟨e, f⟩, ⟨g, h⟩].take 4).filter (bothS (⟨a, b⟩, ⟨c, d⟩) (⟨e, f⟩, ⟨g, h⟩))))) := hide (by
        have hk2 : k = 4 := by omega
        have := OWN0.out.base (show w.heap.size ≤ w.heap.size + 2 by omega)
        rw [hk2] at this
        exact this)
      clear OWN0
      go_wp2
      go_ret
      exact ⟨_, rfl, by rw [FIN.out]; exact HF.out, ext_mk hbel⟩
end Go.Proofs.Ytelhidonhldjeaa
