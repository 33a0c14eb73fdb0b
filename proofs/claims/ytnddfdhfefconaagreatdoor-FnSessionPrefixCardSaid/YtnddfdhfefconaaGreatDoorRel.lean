
/- The program's relation of two segments. -/
import Derived.Test.YtnddfdhfefconaaGreatDoorRelM
import Derived.Test.YtnddfdhfefconaaGreatDoorTri
import Derived.Test.YtnddfdhfefconaaGreatDoorSorted
set_option linter.unusedVariables false
set_option linter.unusedSimpArgs false
namespace Go.Proofs.YtnddfdhfefconaaGreatDoor
open Go.RowKit

set_option maxHeartbeats 400000 in
theorem isEnd_any (a b c d e f : Int) (w : World) :
    Calls Tryz.prog 212 #[.agg #[.int .i64 a, .int .i64 b, .int .i64 c, .int .i64 d], .agg #[.int .i64 e, .int .i64 f]] w fun r w' => r = .returned (.bool (isEndB (⟨a, b⟩, ⟨c, d⟩) ⟨e, f⟩)) ∧ ∃ n, w' = ext w n := by
  have E := @run_eqPt
  have HV : Hid (isEndB (⟨a, b⟩, ⟨c, d⟩) ⟨e, f⟩ = (eqP e f a b || eqP e f c d)) := hide rfl
  cases h1 : eqP e f a b
  · rw [h1] at HV
    go_enter Tryz.func212, Tryz.ntmps212
    go_wp2_with fail
    go_ret
    exact ⟨ret_bool (by rw [HV.out]; simp), (ext_mk (by (repeat' (first | (with_reducible first | exact Below.refl _ _ | assumption | refine below_ext _ ?_ ?_ | refine Below.alloc ?_ ?_ _ | refine Below.drew ?_ | refine below_drewN ?_ _ | refine le_drewN _ ?_ | refine Below.setCell ?_ ?_ _ | exact Nat.le_refl _ | refine le_ext _ ?_ | refine le_alloc _ ?_ | refine le_setCell _ _ ?_ | refine le_drew ?_) | omega | (simp; done) | (simp; omega)))))⟩
  · rw [h1] at HV
    go_enter Tryz.func212, Tryz.ntmps212
    go_wp2_with fail
    go_ret
    exact ⟨ret_bool (by rw [HV.out]; simp), (ext_mk (by (repeat' (first | (with_reducible first | exact Below.refl _ _ | assumption | refine below_ext _ ?_ ?_ | refine Below.alloc ?_ ?_ _ | refine Below.drew ?_ | refine below_drewN ?_ _ | refine le_drewN _ ?_ | refine Below.setCell ?_ ?_ _ | exact Nat.le_refl _ | refine le_ext _ ?_ | refine le_alloc _ ?_ | refine le_setCell _ _ ?_ | refine le_drew ?_) | omega | (simp; done) | (simp; omega)))))⟩
set_option maxHeartbeats 400000 in
theorem atEnds_any (a b c d e f g h p q : Int) (w : World) :
    Calls Tryz.prog 172 #[.agg #[.int .i64 a, .int .i64 b, .int .i64 c, .int .i64 d], .agg #[.int .i64 e, .int .i64 f, .int .i64 g, .int .i64 h], .agg #[.int .i64 p, .int .i64 q]] w fun r w' => r = .returned (.bool (isEndB (⟨a, b⟩, ⟨c, d⟩) ⟨p, q⟩ && isEndB (⟨e, f⟩, ⟨g, h⟩) ⟨p, q⟩)) ∧ ∃ n, w' = ext w n := by
  cases h1 : isEndB (⟨a, b⟩, ⟨c, d⟩) ⟨p, q⟩
  · have H1 := hide (fun W => by have := isEnd_any a b c d p q W; rw [h1] at this; exact this)
    clear h1
    go_enter Tryz.func172, Tryz.ntmps172
    go_wp2_with fail
    refine (H1.out _).mono ?_
    rintro e w' ⟨rfl, hw'⟩; have hzy := ext_sz hw'; obtain ⟨y, rfl⟩ := hw'; (try simp at hzy)
    go_wp2_with fail
    go_ret
    exact ⟨ret_bool (by simp), (ext_mk (by (repeat' (first | (with_reducible first | exact Below.refl _ _ | assumption | refine below_ext _ ?_ ?_ | refine Below.alloc ?_ ?_ _ | refine Below.drew ?_ | refine below_drewN ?_ _ | refine le_drewN _ ?_ | refine Below.setCell ?_ ?_ _ | exact Nat.le_refl _ | refine le_ext _ ?_ | refine le_alloc _ ?_ | refine le_setCell _ _ ?_ | refine le_drew ?_) | omega | (simp; done) | (simp; omega)))))⟩
  · have H1 := hide (fun W => by have := isEnd_any a b c d p q W; rw [h1] at this; exact this)
    have H2 := hide (fun W => isEnd_any e f g h p q W)
    clear h1
    go_enter Tryz.func172, Tryz.ntmps172
    go_wp2_with fail
    refine (H1.out _).mono ?_
    rintro e w' ⟨rfl, hw'⟩; have hzy := ext_sz hw'; obtain ⟨y, rfl⟩ := hw'; (try simp at hzy)
    go_wp2_with fail
    refine (H2.out _).mono ?_
    rintro e w' ⟨rfl, hw'⟩; have hzy2 := ext_sz hw'; obtain ⟨y2, rfl⟩ := hw'; (try simp at hzy2)
    go_wp2_with fail
    go_ret
    exact ⟨ret_bool (by simp), (ext_mk (by (repeat' (first | (with_reducible first | exact Below.refl _ _ | assumption | refine below_ext _ ?_ ?_ | refine Below.alloc ?_ ?_ _ | refine Below.drew ?_ | refine below_drewN ?_ _ | refine le_drewN _ ?_ | refine Below.setCell ?_ ?_ _ | exact Nat.le_refl _ | refine le_ext _ ?_ | refine le_alloc _ ?_ | refine le_setCell _ _ ?_ | refine le_drew ?_) | omega | (simp; done) | (simp; omega)))))⟩
set_option maxHeartbeats 400000 in
theorem sign_any (n : Int) (w : World) : Calls Tryz.prog 123 #[.int .i64 n] w fun e w' => e = .returned (.int .i64 (sgn n)) ∧ ∃ m, w' = ext w m := by
  go_enter Tryz.func123, Tryz.ntmps123
  go_wp2_with fail
  refine (Comparei_any _ _ _).mono ?_
  rintro e w' ⟨rfl, rfl⟩
  go_wp2_with fail
  go_ret
  exact ⟨ret_int (by simp), (ext_mk (by (repeat' (first | (with_reducible first | exact Below.refl _ _ | assumption | refine below_ext _ ?_ ?_ | refine Below.alloc ?_ ?_ _ | refine Below.drew ?_ | refine below_drewN ?_ _ | refine le_drewN _ ?_ | refine Below.setCell ?_ ?_ _ | exact Nat.le_refl _ | refine le_ext _ ?_ | refine le_alloc _ ?_ | refine le_setCell _ _ ?_ | refine le_drew ?_) | omega | (simp; done) | (simp; omega)))))⟩
theorem RowAt.two (w : World) (p q : Pt) : RowAt (w.alloc (.cells #[.int .i64 p.x, .int .i64 p.y, .int .i64 q.x, .int .i64 q.y] 41)) w.heap.size 41 4 (ptCell [p, q]) :=
  RowAt.new w _ _ fun j hj => by
    match j, hj with
    | 0, _ => rfl
    | 1, _ => rfl
    | 2, _ => rfl
    | 3, _ => rfl
    | j + 4, h => simp at h; omega
theorem two_takeS (p q : Pt) (f : Pt → Bool) (k : Nat) (hk : k < 2) : ([p, q].take (k + 1)).filter f = ([p, q].take k).filter f ++ (if f (gp [p, q] k) = true then [gp [p, q] k] else []) := by
  rw [List.take_succ_eq_append_getElem (by simpa using hk), List.filter_append, ← gp_lt (by simpa using hk)]
  congr 1
  cases h : f (gp [p, q] k) <;> simp [h]
theorem two_len (p q : Pt) (f : Pt → Bool) (k : Nat) : (([p, q].take k).filter f).length ≤ 2 := by
  have h1 := List.length_filter_le f ([p, q].take k)
  have h2 := List.length_take_le k [p, q]
  rw [List.length_take] at h1
  simp at h1
  omega
set_option maxHeartbeats 2000000 in
theorem common_any (a b c d e f g h : Int) (w : World) (ha : -100000 ≤ a ∧ a ≤ 100000) (hb : -100000 ≤ b ∧ b ≤ 100000) (hc : -100000 ≤ c ∧ c ≤ 100000) (hd : -100000 ≤ d ∧ d ≤ 100000) (he : -100000 ≤ e ∧ e ≤ 100000) (hf : -100000 ≤ f ∧ f ≤ 100000) (hg : -100000 ≤ g ∧ g ≤ 100000) (hh : -100000 ≤ h ∧ h ≤ 100000) :
    Calls Tryz.prog 122 #[.agg #[.int .i64 a, .int .i64 b, .int .i64 c, .int .i64 d], .agg #[.int .i64 e, .int .i64 f, .int .i64 g, .int .i64 h]] w fun r w' => ∃ v, r = .returned v ∧ OwnP w' w.heap.size v (cmn (⟨a, b⟩, ⟨c, d⟩) (⟨e, f⟩, ⟨g, h⟩)) ∧ ∃ n, w' = ext w n := by
  have H1 := hide (fun (x y : Int) (hx : -100000 ≤ x ∧ x ≤ 100000) (hy : -100000 ≤ y ∧ y ≤ 100000) W => has_any e f g h x y W he hf hg hh hx hy)
  have H2 := hide (fun (x y : Int) (hx : -100000 ≤ x ∧ x ≤ 100000) (hy : -100000 ≤ y ∧ y ≤ 100000) W => has_any a b c d x y W ha hb hc hd hx hy)
  have H3 := hide (fun (x y : Int) W => atEnds_any e f g h a b c d x y W)
  have BD1 : Hid (∀ k, k < 2 → (-100000 ≤ (pX [⟨a, b⟩, ⟨c, d⟩] k) ∧ (pX [⟨a, b⟩, ⟨c, d⟩] k) ≤ 100000) ∧ -100000 ≤ (pY [⟨a, b⟩, ⟨c, d⟩] k) ∧ (pY [⟨a, b⟩, ⟨c, d⟩] k) ≤ 100000) := hide (fun k hk => by
    match k, hk with
    | 0, _ => exact ⟨ha, hb⟩
    | 1, _ => exact ⟨hc, hd⟩)
  have BD2 : Hid (∀ k, k < 2 → (-100000 ≤ (pX [⟨e, f⟩, ⟨g, h⟩] k) ∧ (pX [⟨e, f⟩, ⟨g, h⟩] k) ≤ 100000) ∧ -100000 ≤ (pY [⟨e, f⟩, ⟨g, h⟩] k) ∧ (pY [⟨e, f⟩, ⟨g, h⟩] k) ≤ 100000) := hide (fun k hk => by
    match k, hk with
    | 0, _ => exact ⟨he, hf⟩
    | 1, _ => exact ⟨hg, hh⟩)
  have FIN : Hid (cmn (⟨a, b⟩, ⟨c, d⟩) (⟨e, f⟩, ⟨g, h⟩) = ([⟨a, b⟩, ⟨c, d⟩] : List Pt).filter (onS (⟨e, f⟩, ⟨g, h⟩)) ++ ([⟨e, f⟩, ⟨g, h⟩].take 2).filter (cmnB (⟨a, b⟩, ⟨c, d⟩) (⟨e, f⟩, ⟨g, h⟩))) := hide rfl
  have L1 := hide (two_len ⟨a, b⟩ ⟨c, d⟩ (onS (⟨e, f⟩, ⟨g, h⟩)))
  have L2 := hide (two_len ⟨e, f⟩ ⟨g, h⟩ (cmnB (⟨a, b⟩, ⟨c, d⟩) (⟨e, f⟩, ⟨g, h⟩)))
  have T1 := hide (two_takeS ⟨a, b⟩ ⟨c, d⟩ (onS (⟨e, f⟩, ⟨g, h⟩)))
  have T2 := hide (two_takeS ⟨e, f⟩ ⟨g, h⟩ (cmnB (⟨a, b⟩, ⟨c, d⟩) (⟨e, f⟩, ⟨g, h⟩)))
  have O1 : Hid (∀ o1 o2 o4 : Obj, OwnP ((((w.alloc o1).alloc o2).alloc (.cells #[] 41)).alloc o4) (w.heap.size + 2) (.slice (some ⟨w.heap.size + 1 + 1, 0, none⟩) 0 0) []) := hide (fun o1 o2 o4 => by
    have h := OwnP.empty ((w.alloc o1).alloc o2) (w.heap.size + 2) 0 (by simp) #[] rfl (by simp [maxLen])
    rw [size_alloc, size_alloc] at h
    exact h.below ((Below.refl _ _).alloc (Nat.le_refl _) o4))
  have BX1 : Hid (∀ o1 o2 o3 o4 : Obj, ((((w.alloc o1).alloc o2).alloc o3).alloc o4).heap[w.heap.size]? = some o1) := hide (fun o1 o2 o3 o4 => by
    rw [Below.heap_alloc _ _ _ (by first | omega | (simp; done) | (simp; omega)), Below.heap_alloc _ _ _ (by first | omega | (simp; done) | (simp; omega)), Below.heap_alloc _ _ _ (by first | omega | (simp; done) | (simp; omega))]
    exact heap_alloc_new _ _)
  have BX2 : Hid (∀ o1 o2 o3 o4 : Obj, ((((w.alloc o1).alloc o2).alloc o3).alloc o4).heap[w.heap.size + 1]? = some o2) := hide (fun o1 o2 o3 o4 => by
    rw [Below.heap_alloc _ _ _ (by first | omega | (simp; done) | (simp; omega)), Below.heap_alloc _ _ _ (by first | omega | (simp; done) | (simp; omega))]
    have := heap_alloc_new (w.alloc o1) o2
    rw [size_alloc] at this
    exact this)
  have R1 : Hid (∀ o1 o2 o3 : Obj, RowAt ((((w.alloc o1).alloc o2).alloc o3).alloc (.cells #[.int .i64 a, .int .i64 b, .int .i64 c, .int .i64 d] 41)) (w.heap.size + 1 + 1 + 1) 41 4 (ptCell [⟨a, b⟩, ⟨c, d⟩])) := hide (fun o1 o2 o3 => by
    have := RowAt.two (((w.alloc o1).alloc o2).alloc o3) ⟨a, b⟩ ⟨c, d⟩
    rw [size_alloc, size_alloc, size_alloc] at this
    exact this)
  have R2 := hide (fun W : World => RowAt.two W ⟨e, f⟩ ⟨g, h⟩)
  clear ha hb hc hd he hf hg hh
  go_enter Tryz.func122, Tryz.ntmps122
  go_wp2_with fail
  go_loopw [5, 17] (fun u5 u17 wr => ∃ k : Nat, k ≤ 2 ∧ u17 = .int .i64 k ∧ OwnP wr (w.heap.size + 2) u5 (([⟨a, b⟩, ⟨c, d⟩].take k).filter (onS (⟨e, f⟩, ⟨g, h⟩))) ∧ Hid (u5.ownBlock ≠ some (w.heap.size + 1 + 1 + 1)) ∧ RowAt wr (w.heap.size + 1 + 1 + 1) 41 4 (ptCell [⟨a, b⟩, ⟨c, d⟩]) ∧ Hid (wr.heap[w.heap.size]? = some (.cells #[.int .i64 a, .int .i64 b, .int .i64 c, .int .i64 d] 96 (0, 0))) ∧ Hid (wr.heap[w.heap.size + 1]? = some (.cells #[.int .i64 e, .int .i64 f, .int .i64 g, .int .i64 h] 96 (0, 0))) ∧ w.heap.size + 4 ≤ wr.heap.size ∧ Below w.heap.size w wr) (fun _ u17 _ => 2 - (intOf u17).toNat)
  case atStart => exact ⟨0, by omega, rfl, O1.out _ _ _, (fun hh => by simp [Value.ownBlock] at hh), R1.out _ _ _, BX1.out _ _ _ _, BX2.out _ _ _ _, by simp, (by (repeat' (first | (with_reducible first | exact Below.refl _ _ | assumption | refine below_ext _ ?_ ?_ | refine Below.alloc ?_ ?_ _ | refine Below.drew ?_ | refine below_drewN ?_ _ | refine le_drewN _ ?_ | refine Below.setCell ?_ ?_ _ | exact Nat.le_refl _ | refine le_ext _ ?_ | refine le_alloc _ ?_ | refine le_setCell _ _ ?_ | refine le_drew ?_) | omega | (simp; done) | (simp; omega))))⟩
  case round =>
    obtain ⟨k, hk, rfl, hown, HNE, hrow, HB1, HB2, hsz, hbel⟩ := hrel
    obtain ⟨A0, n0, c0, rfl⟩ := hown.slice
    have OWN0 := hide hown
    have ROW := hide hrow
    have t0 := heap_cell HB2.out 0
    have t1 := heap_cell HB2.out 1
    have t2 := heap_cell HB2.out 2
    have t3 := heap_cell HB2.out 3
    simp at t0 t1 t2 t3
    clear hown
    by_cases hlt : k < 2
    · have hx := hrow.cell (j := k * 2) (by omega)
      have hy := hrow.cell (j := k * 2 + 1) (by omega)
      rw [ptCell_even] at hx
      rw [ptCell_odd] at hy
      obtain ⟨⟨p1, p2⟩, p3, p4⟩ := BD1.out k hlt
      have TT := hide (T1.out k hlt)
      rw [gp_mk] at TT
      clear hrow
      have q1 : (0 : Int) ≤ (k : Int) := by omega
      have q2 : (k : Int) < 2 := by omega
      have LL := L1.out k
      generalize pX [⟨a, b⟩, ⟨c, d⟩] k = X at *
      generalize pY [⟨a, b⟩, ⟨c, d⟩] k = Y at *
      have HH := hide (fun W => H1.out X Y ⟨p1, p2⟩ ⟨p3, p4⟩ W)
      generalize ([⟨a, b⟩, ⟨c, d⟩].take k).filter (onS (⟨e, f⟩, ⟨g, h⟩)) = L at *
      cases hon : onSeg ⟨e, f⟩ ⟨g, h⟩ ⟨X, Y⟩
      · rw [hon] at HH
        rw [show onS (⟨e, f⟩, ⟨g, h⟩) ⟨X, Y⟩ = false from hon] at TT
        have TT2 := hide (TT.out.trans (by rw [if_neg (by simp), List.append_nil]))
        clear hon TT
        go_wp2_with fail
        refine (HH.out _).mono ?_
        rintro e w' ⟨rfl, hw'⟩; have hzy := ext_sz hw'; obtain ⟨y, rfl⟩ := hw'; (try simp at hzy)
        go_wp2_with fail
        exact ⟨⟨k + 1, by omega, by go_num, by rw [TT2.out]; exact OWN0.out.below (by (repeat' (first | (with_reducible first | exact Below.refl _ _ | assumption | refine below_ext _ ?_ ?_ | refine Below.alloc ?_ ?_ _ | refine Below.drew ?_ | refine below_drewN ?_ _ | refine le_drewN _ ?_ | refine Below.setCell ?_ ?_ _ | exact Nat.le_refl _ | refine le_ext _ ?_ | refine le_alloc _ ?_ | refine le_setCell _ _ ?_ | refine le_drew ?_) | omega | (simp; done) | (simp; omega)))), HNE, ROW.out.below (show Below wr.heap.size wr _ from (by (repeat' (first | (with_reducible first | exact Below.refl _ _ | assumption | refine below_ext _ ?_ ?_ | refine Below.alloc ?_ ?_ _ | refine Below.drew ?_ | refine below_drewN ?_ _ | refine le_drewN _ ?_ | refine Below.setCell ?_ ?_ _ | exact Nat.le_refl _ | refine le_ext _ ?_ | refine le_alloc _ ?_ | refine le_setCell _ _ ?_ | refine le_drew ?_) | omega | (simp; done) | (simp; omega))))) ROW.out.lt, hide ((Below.block (show Below wr.heap.size wr _ from (by (repeat' (first | (with_reducible first | exact Below.refl _ _ | assumption | refine below_ext _ ?_ ?_ | refine Below.alloc ?_ ?_ _ | refine Below.drew ?_ | refine below_drewN ?_ _ | refine le_drewN _ ?_ | refine Below.setCell ?_ ?_ _ | exact Nat.le_refl _ | refine le_ext _ ?_ | refine le_alloc _ ?_ | refine le_setCell _ _ ?_ | refine le_drew ?_) | omega | (simp; done) | (simp; omega))))) _ (by omega)).trans HB1.out), hide ((Below.block (show Below wr.heap.size wr _ from (by (repeat' (first | (with_reducible first | exact Below.refl _ _ | assumption | refine below_ext _ ?_ ?_ | refine Below.alloc ?_ ?_ _ | refine Below.drew ?_ | refine below_drewN ?_ _ | refine le_drewN _ ?_ | refine Below.setCell ?_ ?_ _ | exact Nat.le_refl _ | refine le_ext _ ?_ | refine le_alloc _ ?_ | refine le_setCell _ _ ?_ | refine le_drew ?_) | omega | (simp; done) | (simp; omega))))) _ (by omega)).trans HB2.out), by first | omega | (simp; omega), hbel.trans (show Below w.heap.size wr _ from (by (repeat' (first | (with_reducible first | exact Below.refl _ _ | assumption | refine below_ext _ ?_ ?_ | refine Below.alloc ?_ ?_ _ | refine Below.drew ?_ | refine below_drewN ?_ _ | refine le_drewN _ ?_ | refine Below.setCell ?_ ?_ _ | exact Nat.le_refl _ | refine le_ext _ ?_ | refine le_alloc _ ?_ | refine le_setCell _ _ ?_ | refine le_drew ?_) | omega | (simp; done) | (simp; omega)))))⟩, by simp [intOf]; omega⟩
      · rw [hon] at HH
        rw [show onS (⟨e, f⟩, ⟨g, h⟩) ⟨X, Y⟩ = true from hon] at TT
        have TT2 := hide (TT.out.trans (by rw [if_pos (by simp)]))
        clear hon TT
        go_wp2_with fail
        refine (HH.out _).mono ?_
        rintro e w' ⟨rfl, hw'⟩; have hzy := ext_sz hw'; obtain ⟨y, rfl⟩ := hw'; (try simp at hzy)
        go_wp2_with (at_builtin; refine app_pt rfl _ _ rfl (w.heap.size + 2) (.slice A0 n0 c0) L rfl (OWN0.out.below (by (repeat' (first | (with_reducible first | exact Below.refl _ _ | assumption | refine below_ext _ ?_ ?_ | refine Below.alloc ?_ ?_ _ | refine Below.drew ?_ | refine below_drewN ?_ _ | refine le_drewN _ ?_ | refine Below.setCell ?_ ?_ _ | exact Nat.le_refl _ | refine le_ext _ ?_ | refine le_alloc _ ?_ | refine le_setCell _ _ ?_ | refine le_drew ?_) | omega | (simp; done) | (simp; omega))))) X Y _ _ rfl (by simp [go_sem]) (by simp [go_sem]) (by omega) (by simp; omega) ?_; intro v' w' hown' hb' hat hgr; obtain ⟨A2, n2, c2, rfl⟩ := hown'.slice; have O2 := hide hown'; have B2 := hide hb'; have AT := hide hat; have GR := hide hgr; clear hown' hat hgr hb')
        exact ⟨⟨k + 1, by omega, by go_num, by rw [TT2.out]; exact O2.out, hide (fun e => by
            rcases AT.out with h1 | h1
            · exact HNE.out (h1.symm.trans e)
            · rw [h1] at e; injection e with e; first | omega | (simp at e; done) | (simp at e; omega)), ROW.out.block ((GR.out.block _ (by simp; omega) (fun e => HNE.out e.symm)).trans (Below.block (show Below wr.heap.size wr _ from (by (repeat' (first | (with_reducible first | exact Below.refl _ _ | assumption | refine below_ext _ ?_ ?_ | refine Below.alloc ?_ ?_ _ | refine Below.drew ?_ | refine below_drewN ?_ _ | refine le_drewN _ ?_ | refine Below.setCell ?_ ?_ _ | exact Nat.le_refl _ | refine le_ext _ ?_ | refine le_alloc _ ?_ | refine le_setCell _ _ ?_ | refine le_drew ?_) | omega | (simp; done) | (simp; omega))))) _ (by omega))), hide ((Below.block B2.out _ (by omega)).trans ((Below.block (show Below wr.heap.size wr _ from (by (repeat' (first | (with_reducible first | exact Below.refl _ _ | assumption | refine below_ext _ ?_ ?_ | refine Below.alloc ?_ ?_ _ | refine Below.drew ?_ | refine below_drewN ?_ _ | refine le_drewN _ ?_ | refine Below.setCell ?_ ?_ _ | exact Nat.le_refl _ | refine le_ext _ ?_ | refine le_alloc _ ?_ | refine le_setCell _ _ ?_ | refine le_drew ?_) | omega | (simp; done) | (simp; omega))))) _ (by omega)).trans HB1.out)), hide ((Below.block B2.out _ (by omega)).trans ((Below.block (show Below wr.heap.size wr _ from (by (repeat' (first | (with_reducible first | exact Below.refl _ _ | assumption | refine below_ext _ ?_ ?_ | refine Below.alloc ?_ ?_ _ | refine Below.drew ?_ | refine below_drewN ?_ _ | refine le_drewN _ ?_ | refine Below.setCell ?_ ?_ _ | exact Nat.le_refl _ | refine le_ext _ ?_ | refine le_alloc _ ?_ | refine le_setCell _ _ ?_ | refine le_drew ?_) | omega | (simp; done) | (simp; omega))))) _ (by omega)).trans HB2.out)), by have := B2.out.size; first | omega | (simp at this; omega), (hbel.trans (show Below w.heap.size wr _ from (by (repeat' (first | (with_reducible first | exact Below.refl _ _ | assumption | refine below_ext _ ?_ ?_ | refine Below.alloc ?_ ?_ _ | refine Below.drew ?_ | refine below_drewN ?_ _ | refine le_drewN _ ?_ | refine Below.setCell ?_ ?_ _ | exact Nat.le_refl _ | refine le_ext _ ?_ | refine le_alloc _ ?_ | refine le_setCell _ _ ?_ | refine le_drew ?_) | omega | (simp; done) | (simp; omega)))))).trans (B2.out.mono (by omega))⟩, by simp [intOf]; omega⟩
    · have OWN2 : Hid (OwnP wr (w.heap.size + 2) (.slice A0 n0 c0) (([⟨a, b⟩, ⟨c, d⟩] : List Pt).filter (onS (⟨e, f⟩, ⟨g, h⟩)))) := hide (by
        have hk2 : k = 2 := by omega
        have := OWN0.out
        rw [hk2] at this
        exact this)
      clear ROW hrow t0 t1 t2 t3 HNE
      have s0 := heap_cell HB1.out 0
      have s1 := heap_cell HB1.out 1
      have s2 := heap_cell HB1.out 2
      have s3 := heap_cell HB1.out 3
      have t0 := heap_cell HB2.out 0
      have t1 := heap_cell HB2.out 1
      have t2 := heap_cell HB2.out 2
      have t3 := heap_cell HB2.out 3
      simp at s0 s1 s2 s3 t0 t1 t2 t3
      obtain ⟨W1, hW1⟩ : ∃ W1, W1 = wr := ⟨_, rfl⟩
      subst hW1
      have F1 : Hid (OwnP W1 (w.heap.size + 2) (.slice A0 n0 c0) (([⟨a, b⟩, ⟨c, d⟩] : List Pt).filter (onS (⟨e, f⟩, ⟨g, h⟩)))) := OWN2
      have N1 : Hid ((([⟨a, b⟩, ⟨c, d⟩] : List Pt).filter (onS (⟨e, f⟩, ⟨g, h⟩))).length ≤ 2) := hide (L1.out 2)
      have NL : Hid (∀ j, (Value.slice A0 n0 c0).ownBlock = some j → j < W1.heap.size) := hide (OWN2.out.lt2)
      clear OWN0 OWN2 L1 T1 BD1 H1 O1 BX1 BX2 R1
      generalize ([⟨a, b⟩, ⟨c, d⟩] : List Pt).filter (onS (⟨e, f⟩, ⟨g, h⟩)) = M at *
      go_wp2_with fail
      go_loopw [5, 35] (fun u5 u35 wr => ∃ k : Nat, k ≤ 2 ∧ u35 = .int .i64 k ∧ OwnP wr (w.heap.size + 2) u5 (M ++ ([⟨e, f⟩, ⟨g, h⟩].take k).filter (cmnB (⟨a, b⟩, ⟨c, d⟩) (⟨e, f⟩, ⟨g, h⟩))) ∧ Hid (u5.ownBlock ≠ some W1.heap.size) ∧ RowAt wr W1.heap.size 41 4 (ptCell [⟨e, f⟩, ⟨g, h⟩]) ∧ Hid (wr.heap[w.heap.size]? = some (.cells #[.int .i64 a, .int .i64 b, .int .i64 c, .int .i64 d] 96 (0, 0))) ∧ Hid (wr.heap[w.heap.size + 1]? = some (.cells #[.int .i64 e, .int .i64 f, .int .i64 g, .int .i64 h] 96 (0, 0))) ∧ W1.heap.size + 1 ≤ wr.heap.size ∧ Below w.heap.size w wr) (fun _ u35 _ => 2 - (intOf u35).toNat)
      case atStart => exact ⟨0, by omega, rfl, by simp; exact F1.out.below (by (repeat' (first | (with_reducible first | exact Below.refl _ _ | assumption | refine below_ext _ ?_ ?_ | refine Below.alloc ?_ ?_ _ | refine Below.drew ?_ | refine below_drewN ?_ _ | refine le_drewN _ ?_ | refine Below.setCell ?_ ?_ _ | exact Nat.le_refl _ | refine le_ext _ ?_ | refine le_alloc _ ?_ | refine le_setCell _ _ ?_ | refine le_drew ?_) | omega | (simp; done) | (simp; omega)))), hide (fun hh => by have := NL.out _ hh; omega), R2.out W1, hide ((Below.heap_alloc _ _ _ (by omega)).trans HB1.out), hide ((Below.heap_alloc _ _ _ (by omega)).trans HB2.out), by simp, hbel.trans (by (repeat' (first | (with_reducible first | exact Below.refl _ _ | assumption | refine below_ext _ ?_ ?_ | refine Below.alloc ?_ ?_ _ | refine Below.drew ?_ | refine below_drewN ?_ _ | refine le_drewN _ ?_ | refine Below.setCell ?_ ?_ _ | exact Nat.le_refl _ | refine le_ext _ ?_ | refine le_alloc _ ?_ | refine le_setCell _ _ ?_ | refine le_drew ?_) | omega | (simp; done) | (simp; omega))))⟩
      case round =>
        clear HB1 HB2 s0 s1 s2 s3 t0 t1 t2 t3 hbel F1 NL
        obtain ⟨k, hk, rfl, hown, HNE, hrow, HB1, HB2, hsz2, hbel⟩ := hrel
        obtain ⟨A1, n1, c1, rfl⟩ := hown.slice
        have OWN0 := hide hown
        have ROW := hide hrow
        have s0 := heap_cell HB1.out 0
        have s1 := heap_cell HB1.out 1
        have s2 := heap_cell HB1.out 2
        have s3 := heap_cell HB1.out 3
        have t0 := heap_cell HB2.out 0
        have t1 := heap_cell HB2.out 1
        have t2 := heap_cell HB2.out 2
        have t3 := heap_cell HB2.out 3
        simp at s0 s1 s2 s3 t0 t1 t2 t3
        clear hown
        by_cases hlt : k < 2
        · have hx := hrow.cell (j := k * 2) (by omega)
          have hy := hrow.cell (j := k * 2 + 1) (by omega)
          rw [ptCell_even] at hx
          rw [ptCell_odd] at hy
          obtain ⟨⟨p1, p2⟩, p3, p4⟩ := BD2.out k hlt
          have TT := hide (T2.out k hlt)
          rw [gp_mk] at TT
          clear hrow
          have q1 : (0 : Int) ≤ (k : Int) := by omega
          have q2 : (k : Int) < 2 := by omega
          have LL : (M ++ ([⟨e, f⟩, ⟨g, h⟩].take k).filter (cmnB (⟨a, b⟩, ⟨c, d⟩) (⟨e, f⟩, ⟨g, h⟩))).length ≤ 2000000 := by
            rw [List.length_append]
            have := L2.out k
            have := N1.out
            omega
          generalize pX [⟨e, f⟩, ⟨g, h⟩] k = X at *
          generalize pY [⟨e, f⟩, ⟨g, h⟩] k = Y at *
          have HH := hide (fun W => H2.out X Y ⟨p1, p2⟩ ⟨p3, p4⟩ W)
          have HA := hide (fun W => H3.out X Y W)
          have CV : Hid (cmnB (⟨a, b⟩, ⟨c, d⟩) (⟨e, f⟩, ⟨g, h⟩) ⟨X, Y⟩ = (onSeg ⟨a, b⟩ ⟨c, d⟩ ⟨X, Y⟩ && !(isEndB (⟨e, f⟩, ⟨g, h⟩) ⟨X, Y⟩ && isEndB (⟨a, b⟩, ⟨c, d⟩) ⟨X, Y⟩))) := hide rfl
          generalize ([⟨e, f⟩, ⟨g, h⟩].take k).filter (cmnB (⟨a, b⟩, ⟨c, d⟩) (⟨e, f⟩, ⟨g, h⟩)) = L at *
          generalize (isEndB (⟨e, f⟩, ⟨g, h⟩) ⟨X, Y⟩ && isEndB (⟨a, b⟩, ⟨c, d⟩) ⟨X, Y⟩) = IE at *
          cases hon : onSeg ⟨a, b⟩ ⟨c, d⟩ ⟨X, Y⟩
          · rw [hon] at HH CV
            rw [CV.out] at TT
            have TT2 := hide (TT.out.trans (by rw [if_neg (by simp), List.append_nil]))
            clear hon TT
            go_wp2_with fail
            refine (HH.out _).mono ?_
            rintro e w' ⟨rfl, hw'⟩; have hzy := ext_sz hw'; obtain ⟨y, rfl⟩ := hw'; (try simp at hzy)
            go_wp2_with fail
            exact ⟨⟨k + 1, by omega, by go_num, by rw [TT2.out]; exact OWN0.out.below (by (repeat' (first | (with_reducible first | exact Below.refl _ _ | assumption | refine below_ext _ ?_ ?_ | refine Below.alloc ?_ ?_ _ | refine Below.drew ?_ | refine below_drewN ?_ _ | refine le_drewN _ ?_ | refine Below.setCell ?_ ?_ _ | exact Nat.le_refl _ | refine le_ext _ ?_ | refine le_alloc _ ?_ | refine le_setCell _ _ ?_ | refine le_drew ?_) | omega | (simp; done) | (simp; omega)))), HNE, ROW.out.below (show Below wr.heap.size wr _ from (by (repeat' (first | (with_reducible first | exact Below.refl _ _ | assumption | refine below_ext _ ?_ ?_ | refine Below.alloc ?_ ?_ _ | refine Below.drew ?_ | refine below_drewN ?_ _ | refine le_drewN _ ?_ | refine Below.setCell ?_ ?_ _ | exact Nat.le_refl _ | refine le_ext _ ?_ | refine le_alloc _ ?_ | refine le_setCell _ _ ?_ | refine le_drew ?_) | omega | (simp; done) | (simp; omega))))) ROW.out.lt, hide ((Below.block (show Below wr.heap.size wr _ from (by (repeat' (first | (with_reducible first | exact Below.refl _ _ | assumption | refine below_ext _ ?_ ?_ | refine Below.alloc ?_ ?_ _ | refine Below.drew ?_ | refine below_drewN ?_ _ | refine le_drewN _ ?_ | refine Below.setCell ?_ ?_ _ | exact Nat.le_refl _ | refine le_ext _ ?_ | refine le_alloc _ ?_ | refine le_setCell _ _ ?_ | refine le_drew ?_) | omega | (simp; done) | (simp; omega))))) _ (by omega)).trans HB1.out), hide ((Below.block (show Below wr.heap.size wr _ from (by (repeat' (first | (with_reducible first | exact Below.refl _ _ | assumption | refine below_ext _ ?_ ?_ | refine Below.alloc ?_ ?_ _ | refine Below.drew ?_ | refine below_drewN ?_ _ | refine le_drewN _ ?_ | refine Below.setCell ?_ ?_ _ | exact Nat.le_refl _ | refine le_ext _ ?_ | refine le_alloc _ ?_ | refine le_setCell _ _ ?_ | refine le_drew ?_) | omega | (simp; done) | (simp; omega))))) _ (by omega)).trans HB2.out), by first | omega | (simp; omega), hbel.trans (show Below w.heap.size wr _ from (by (repeat' (first | (with_reducible first | exact Below.refl _ _ | assumption | refine below_ext _ ?_ ?_ | refine Below.alloc ?_ ?_ _ | refine Below.drew ?_ | refine below_drewN ?_ _ | refine le_drewN _ ?_ | refine Below.setCell ?_ ?_ _ | exact Nat.le_refl _ | refine le_ext _ ?_ | refine le_alloc _ ?_ | refine le_setCell _ _ ?_ | refine le_drew ?_) | omega | (simp; done) | (simp; omega)))))⟩, by simp [intOf]; omega⟩
          · rw [hon] at HH CV
            cases hie : IE
            · rw [hie] at HA CV
              rw [CV.out] at TT
              have TT2 := hide (TT.out.trans (by rw [if_pos (by simp)]))
              clear hon TT hie
              go_wp2_with fail
              refine (HH.out _).mono ?_
              rintro e w' ⟨rfl, hw'⟩; have hzy := ext_sz hw'; obtain ⟨y, rfl⟩ := hw'; (try simp at hzy)
              go_wp2_with fail
              refine (HA.out _).mono ?_
              rintro e w' ⟨rfl, hw'⟩; have hzy2 := ext_sz hw'; obtain ⟨y2, rfl⟩ := hw'; (try simp at hzy2)
              go_wp2_with (at_builtin; refine app_pt rfl _ _ rfl (w.heap.size + 2) (.slice A1 n1 c1) (M ++ L) rfl (OWN0.out.below (by (repeat' (first | (with_reducible first | exact Below.refl _ _ | assumption | refine below_ext _ ?_ ?_ | refine Below.alloc ?_ ?_ _ | refine Below.drew ?_ | refine below_drewN ?_ _ | refine le_drewN _ ?_ | refine Below.setCell ?_ ?_ _ | exact Nat.le_refl _ | refine le_ext _ ?_ | refine le_alloc _ ?_ | refine le_setCell _ _ ?_ | refine le_drew ?_) | omega | (simp; done) | (simp; omega))))) X Y _ _ rfl (by simp [go_sem]) (by simp [go_sem]) LL (by simp; omega) ?_; intro v' w' hown' hb' hat hgr; obtain ⟨A2, n2, c2, rfl⟩ := hown'.slice; have O2 := hide hown'; have B2 := hide hb'; have AT := hide hat; have GR := hide hgr; clear hown' hat hgr hb')
              exact ⟨⟨k + 1, by omega, by go_num, by rw [TT2.out, ← List.append_assoc]; exact O2.out, hide (fun e => by
                  rcases AT.out with h1 | h1
                  · exact HNE.out (h1.symm.trans e)
                  · rw [h1] at e; injection e with e; first | omega | (simp at e; done) | (simp at e; omega)), ROW.out.block ((GR.out.block _ (by simp; omega) (fun e => HNE.out e.symm)).trans (Below.block (show Below wr.heap.size wr _ from (by (repeat' (first | (with_reducible first | exact Below.refl _ _ | assumption | refine below_ext _ ?_ ?_ | refine Below.alloc ?_ ?_ _ | refine Below.drew ?_ | refine below_drewN ?_ _ | refine le_drewN _ ?_ | refine Below.setCell ?_ ?_ _ | exact Nat.le_refl _ | refine le_ext _ ?_ | refine le_alloc _ ?_ | refine le_setCell _ _ ?_ | refine le_drew ?_) | omega | (simp; done) | (simp; omega))))) _ (by omega))), hide ((Below.block B2.out _ (by omega)).trans ((Below.block (show Below wr.heap.size wr _ from (by (repeat' (first | (with_reducible first | exact Below.refl _ _ | assumption | refine below_ext _ ?_ ?_ | refine Below.alloc ?_ ?_ _ | refine Below.drew ?_ | refine below_drewN ?_ _ | refine le_drewN _ ?_ | refine Below.setCell ?_ ?_ _ | exact Nat.le_refl _ | refine le_ext _ ?_ | refine le_alloc _ ?_ | refine le_setCell _ _ ?_ | refine le_drew ?_) | omega | (simp; done) | (simp; omega))))) _ (by omega)).trans HB1.out)), hide ((Below.block B2.out _ (by omega)).trans ((Below.block (show Below wr.heap.size wr _ from (by (repeat' (first | (with_reducible first | exact Below.refl _ _ | assumption | refine below_ext _ ?_ ?_ | refine Below.alloc ?_ ?_ _ | refine Below.drew ?_ | refine below_drewN ?_ _ | refine le_drewN _ ?_ | refine Below.setCell ?_ ?_ _ | exact Nat.le_refl _ | refine le_ext _ ?_ | refine le_alloc _ ?_ | refine le_setCell _ _ ?_ | refine le_drew ?_) | omega | (simp; done) | (simp; omega))))) _ (by omega)).trans HB2.out)), by have := B2.out.size; first | omega | (simp at this; omega), (hbel.trans (show Below w.heap.size wr _ from (by (repeat' (first | (with_reducible first | exact Below.refl _ _ | assumption | refine below_ext _ ?_ ?_ | refine Below.alloc ?_ ?_ _ | refine Below.drew ?_ | refine below_drewN ?_ _ | refine le_drewN _ ?_ | refine Below.setCell ?_ ?_ _ | exact Nat.le_refl _ | refine le_ext _ ?_ | refine le_alloc _ ?_ | refine le_setCell _ _ ?_ | refine le_drew ?_) | omega | (simp; done) | (simp; omega)))))).trans (B2.out.mono (by omega))⟩, by simp [intOf]; omega⟩
            · rw [hie] at HA CV
              rw [CV.out] at TT
              have TT2 := hide (TT.out.trans (by rw [if_neg (by simp), List.append_nil]))
              clear hon TT hie
              go_wp2_with fail
              refine (HH.out _).mono ?_
              rintro e w' ⟨rfl, hw'⟩; have hzy := ext_sz hw'; obtain ⟨y, rfl⟩ := hw'; (try simp at hzy)
              go_wp2_with fail
              refine (HA.out _).mono ?_
              rintro e w' ⟨rfl, hw'⟩; have hzy2 := ext_sz hw'; obtain ⟨y2, rfl⟩ := hw'; (try simp at hzy2)
              go_wp2_with fail
              exact ⟨⟨k + 1, by omega, by go_num, by rw [TT2.out]; exact OWN0.out.below (by (repeat' (first | (with_reducible first | exact Below.refl _ _ | assumption | refine below_ext _ ?_ ?_ | refine Below.alloc ?_ ?_ _ | refine Below.drew ?_ | refine below_drewN ?_ _ | refine le_drewN _ ?_ | refine Below.setCell ?_ ?_ _ | exact Nat.le_refl _ | refine le_ext _ ?_ | refine le_alloc _ ?_ | refine le_setCell _ _ ?_ | refine le_drew ?_) | omega | (simp; done) | (simp; omega)))), HNE, ROW.out.below (show Below wr.heap.size wr _ from (by (repeat' (first | (with_reducible first | exact Below.refl _ _ | assumption | refine below_ext _ ?_ ?_ | refine Below.alloc ?_ ?_ _ | refine Below.drew ?_ | refine below_drewN ?_ _ | refine le_drewN _ ?_ | refine Below.setCell ?_ ?_ _ | exact Nat.le_refl _ | refine le_ext _ ?_ | refine le_alloc _ ?_ | refine le_setCell _ _ ?_ | refine le_drew ?_) | omega | (simp; done) | (simp; omega))))) ROW.out.lt, hide ((Below.block (show Below wr.heap.size wr _ from (by (repeat' (first | (with_reducible first | exact Below.refl _ _ | assumption | refine below_ext _ ?_ ?_ | refine Below.alloc ?_ ?_ _ | refine Below.drew ?_ | refine below_drewN ?_ _ | refine le_drewN _ ?_ | refine Below.setCell ?_ ?_ _ | exact Nat.le_refl _ | refine le_ext _ ?_ | refine le_alloc _ ?_ | refine le_setCell _ _ ?_ | refine le_drew ?_) | omega | (simp; done) | (simp; omega))))) _ (by omega)).trans HB1.out), hide ((Below.block (show Below wr.heap.size wr _ from (by (repeat' (first | (with_reducible first | exact Below.refl _ _ | assumption | refine below_ext _ ?_ ?_ | refine Below.alloc ?_ ?_ _ | refine Below.drew ?_ | refine below_drewN ?_ _ | refine le_drewN _ ?_ | refine Below.setCell ?_ ?_ _ | exact Nat.le_refl _ | refine le_ext _ ?_ | refine le_alloc _ ?_ | refine le_setCell _ _ ?_ | refine le_drew ?_) | omega | (simp; done) | (simp; omega))))) _ (by omega)).trans HB2.out), by first | omega | (simp; omega), hbel.trans (show Below w.heap.size wr _ from (by (repeat' (first | (with_reducible first | exact Below.refl _ _ | assumption | refine below_ext _ ?_ ?_ | refine Below.alloc ?_ ?_ _ | refine Below.drew ?_ | refine below_drewN ?_ _ | refine le_drewN _ ?_ | refine Below.setCell ?_ ?_ _ | exact Nat.le_refl _ | refine le_ext _ ?_ | refine le_alloc _ ?_ | refine le_setCell _ _ ?_ | refine le_drew ?_) | omega | (simp; done) | (simp; omega)))))⟩, by simp [intOf]; omega⟩
        · have hk2 : k = 2 := by omega
          subst hk2
          have HF := hide (OWN0.out.base (show w.heap.size ≤ w.heap.size + 2 by omega))
          clear OWN0
          go_wp2
          go_ret
          exact ⟨_, rfl, by rw [FIN.out]; exact HF.out, ext_mk hbel⟩
theorem relI_0 {s t : Sg} (h : (cmn s t).length = 0) : relI s t = if crossB s t then 2 else 0 := by unfold relI; rw [h]; rfl
theorem relI_1 {s t : Sg} (h : (cmn s t).length = 1) : relI s t = 1 := by unfold relI; rw [h]; rfl
theorem relI_2 {s t : Sg} (h0 : (cmn s t).length ≠ 0) (h : (cmn s t).length ≠ 1) : relI s t = 3 := by unfold relI relOf; rw [if_neg h0, if_neg h]
theorem sgn_prod (u v : Int) : -1 ≤ sgn u * sgn v ∧ sgn u * sgn v ≤ 1 := by
  have h1 := sgn_bd u
  have h2 := sgn_bd v
  have := mul_bd (M := 1) (N := 1) h1 h2
  omega
set_option maxHeartbeats 2000000 in
theorem relation_any (a b c d e f g h : Int) (w : World) (ha : -100000 ≤ a ∧ a ≤ 100000) (hb : -100000 ≤ b ∧ b ≤ 100000) (hc : -100000 ≤ c ∧ c ≤ 100000) (hd : -100000 ≤ d ∧ d ≤ 100000) (he : -100000 ≤ e ∧ e ≤ 100000) (hf : -100000 ≤ f ∧ f ≤ 100000) (hg : -100000 ≤ g ∧ g ≤ 100000) (hh : -100000 ≤ h ∧ h ≤ 100000) :
    Calls Tryz.prog 75 #[.agg #[.int .i64 a, .int .i64 b, .int .i64 c, .int .i64 d], .agg #[.int .i64 e, .int .i64 f, .int .i64 g, .int .i64 h]] w fun r w' => r = .returned (.int .i64 (relI (⟨a, b⟩, ⟨c, d⟩) (⟨e, f⟩, ⟨g, h⟩))) ∧ ∃ n, w' = ext w n := by
  have HC := hide (fun W => common_any a b c d e f g h W ha hb hc hd he hf hg hh)
  have TU : Hid (∀ (p1 p2 p3 p4 p5 p6 : Int) W, (p1, p2) ∈ [(a, b), (c, d), (e, f), (g, h)] → (p3, p4) ∈ [(a, b), (c, d), (e, f), (g, h)] → (p5, p6) ∈ [(a, b), (c, d), (e, f), (g, h)] → Calls Tryz.prog 107 #[.agg #[.int .i64 p1, .int .i64 p2], .agg #[.int .i64 p3, .int .i64 p4], .agg #[.int .i64 p5, .int .i64 p6]] W fun r w' => r = .returned (.int .i64 (trn ⟨p1, p2⟩ ⟨p3, p4⟩ ⟨p5, p6⟩)) ∧ ∃ n, w' = ext W n) := hide (fun p1 p2 p3 p4 p5 p6 W h1 h2 h3 => by
    simp only [List.mem_cons, Prod.mk.injEq, List.not_mem_nil, or_false] at h1 h2 h3
    exact turn_any p1 p2 p3 p4 p5 p6 W (by omega) (by omega) (by omega) (by omega) (by omega) (by omega))
  have P1 := hide (sgn_prod (trn ⟨a, b⟩ ⟨c, d⟩ ⟨e, f⟩) (trn ⟨a, b⟩ ⟨c, d⟩ ⟨g, h⟩))
  have P2 := hide (sgn_prod (trn ⟨e, f⟩ ⟨g, h⟩ ⟨a, b⟩) (trn ⟨e, f⟩ ⟨g, h⟩ ⟨c, d⟩))
  have CV : Hid (crossB (⟨a, b⟩, ⟨c, d⟩) (⟨e, f⟩, ⟨g, h⟩) = (decide (sgn (trn ⟨a, b⟩ ⟨c, d⟩ ⟨e, f⟩) * sgn (trn ⟨a, b⟩ ⟨c, d⟩ ⟨g, h⟩) < 0) && decide (sgn (trn ⟨e, f⟩ ⟨g, h⟩ ⟨a, b⟩) * sgn (trn ⟨e, f⟩ ⟨g, h⟩ ⟨c, d⟩) < 0))) := hide rfl
  have K0 := hide (relI_0 (s := (⟨a, b⟩, ⟨c, d⟩)) (t := (⟨e, f⟩, ⟨g, h⟩)))
  have K1 := hide (relI_1 (s := (⟨a, b⟩, ⟨c, d⟩)) (t := (⟨e, f⟩, ⟨g, h⟩)))
  have K2 := hide (relI_2 (s := (⟨a, b⟩, ⟨c, d⟩)) (t := (⟨e, f⟩, ⟨g, h⟩)))
  clear ha hb hc hd he hf hg hh
  go_enter Tryz.func75, Tryz.ntmps75
  go_wp2_with fail
  refine (HC.out _).mono ?_
  rintro e' w1 ⟨v1, rfl, hown, hw'⟩
  obtain ⟨A1, n1, c1, rfl⟩ := hown.slice
  have hl := hown.pts.1
  have hz1 := ext_sz hw'
  obtain ⟨x1, rfl⟩ := hw'
  simp at hz1
  clear hown
  by_cases h0 : n1 = 0
  · have d0 : ((n1 : Int) == 0) = true := by rw [beq_iff_eq]; omega
    have R := hide (K0.out (hl.trans h0))
    clear hl h0 K0 K1 K2
    have i1 : IntKind.i64.wrap (sgn (trn ⟨a, b⟩ ⟨c, d⟩ ⟨e, f⟩) * sgn (trn ⟨a, b⟩ ⟨c, d⟩ ⟨g, h⟩)) = sgn (trn ⟨a, b⟩ ⟨c, d⟩ ⟨e, f⟩) * sgn (trn ⟨a, b⟩ ⟨c, d⟩ ⟨g, h⟩) := IntWalk.i64_in _ (by have := P1.out; omega)
    have i2 : IntKind.i64.wrap (sgn (trn ⟨e, f⟩ ⟨g, h⟩ ⟨a, b⟩) * sgn (trn ⟨e, f⟩ ⟨g, h⟩ ⟨c, d⟩)) = sgn (trn ⟨e, f⟩ ⟨g, h⟩ ⟨a, b⟩) * sgn (trn ⟨e, f⟩ ⟨g, h⟩ ⟨c, d⟩) := IntWalk.i64_in _ (by have := P2.out; omega)
    cases h1 : decide (sgn (trn ⟨a, b⟩ ⟨c, d⟩ ⟨e, f⟩) * sgn (trn ⟨a, b⟩ ⟨c, d⟩ ⟨g, h⟩) < 0)
    · rw [h1, Bool.false_and] at CV
      rw [CV.out] at R
      go_wp2_with fail
      refine wp_region_ext (by kernel_rfl) (by kernel_rfl) ?_
      repeat (go_big_quiet_step ((first | (go_at_call 107; exact Calls.in_ext (TU.out _ _ _ _ _ _ _ (by simp) (by simp) (by simp))) | (go_at_call 123; exact Calls.in_ext (sign_any _ _)))))
      refine wpQuiet_nil ?_
      rintro _ hnq
      have hzq := ext_sz hnq
      obtain ⟨nq, rfl⟩ := hnq
      (try simp at hzq)
      go_wp2_with fail
      refine wp_region_ext (by kernel_rfl) (by kernel_rfl) ?_
      repeat (go_big_quiet_step ((first | (go_at_call 107; exact Calls.in_ext (TU.out _ _ _ _ _ _ _ (by simp) (by simp) (by simp))) | (go_at_call 123; exact Calls.in_ext (sign_any _ _)))))
      refine wpQuiet_nil ?_
      rintro _ hnq
      have hzq := ext_sz hnq
      obtain ⟨nq, rfl⟩ := hnq
      (try simp at hzq)
      go_wp2_with fail
      go_ret
      exact ⟨ret_int (by rw [R.out]; rfl), (ext_mk (by (repeat' (first | (with_reducible first | exact Below.refl _ _ | assumption | refine below_ext _ ?_ ?_ | refine Below.alloc ?_ ?_ _ | refine Below.drew ?_ | refine below_drewN ?_ _ | refine le_drewN _ ?_ | refine Below.setCell ?_ ?_ _ | exact Nat.le_refl _ | refine le_ext _ ?_ | refine le_alloc _ ?_ | refine le_setCell _ _ ?_ | refine le_drew ?_) | omega | (simp; done) | (simp; omega)))))⟩
    · rw [h1, Bool.true_and] at CV
      cases h2 : decide (sgn (trn ⟨e, f⟩ ⟨g, h⟩ ⟨a, b⟩) * sgn (trn ⟨e, f⟩ ⟨g, h⟩ ⟨c, d⟩) < 0)
      · rw [h2] at CV
        rw [CV.out] at R
        go_wp2_with fail
        refine wp_region_ext (by kernel_rfl) (by kernel_rfl) ?_
        repeat (go_big_quiet_step ((first | (go_at_call 107; exact Calls.in_ext (TU.out _ _ _ _ _ _ _ (by simp) (by simp) (by simp))) | (go_at_call 123; exact Calls.in_ext (sign_any _ _)))))
        refine wpQuiet_nil ?_
        rintro _ hnq
        have hzq := ext_sz hnq
        obtain ⟨nq, rfl⟩ := hnq
        (try simp at hzq)
        go_wp2_with fail
        refine wp_region_ext (by kernel_rfl) (by kernel_rfl) ?_
        repeat (go_big_quiet_step ((first | (go_at_call 107; exact Calls.in_ext (TU.out _ _ _ _ _ _ _ (by simp) (by simp) (by simp))) | (go_at_call 123; exact Calls.in_ext (sign_any _ _)))))
        refine wpQuiet_nil ?_
        rintro _ hnq
        have hzq := ext_sz hnq
        obtain ⟨nq, rfl⟩ := hnq
        (try simp at hzq)
        go_wp2_with fail
        go_ret
        exact ⟨ret_int (by rw [R.out]; rfl), (ext_mk (by (repeat' (first | (with_reducible first | exact Below.refl _ _ | assumption | refine below_ext _ ?_ ?_ | refine Below.alloc ?_ ?_ _ | refine Below.drew ?_ | refine below_drewN ?_ _ | refine le_drewN _ ?_ | refine Below.setCell ?_ ?_ _ | exact Nat.le_refl _ | refine le_ext _ ?_ | refine le_alloc _ ?_ | refine le_setCell _ _ ?_ | refine le_drew ?_) | omega | (simp; done) | (simp; omega)))))⟩
      · rw [h2] at CV
        rw [CV.out] at R
        go_wp2_with fail
        refine wp_region_ext (by kernel_rfl) (by kernel_rfl) ?_
        repeat (go_big_quiet_step ((first | (go_at_call 107; exact Calls.in_ext (TU.out _ _ _ _ _ _ _ (by simp) (by simp) (by simp))) | (go_at_call 123; exact Calls.in_ext (sign_any _ _)))))
        refine wpQuiet_nil ?_
        rintro _ hnq
        have hzq := ext_sz hnq
        obtain ⟨nq, rfl⟩ := hnq
        (try simp at hzq)
        go_wp2_with fail
        refine wp_region_ext (by kernel_rfl) (by kernel_rfl) ?_
        repeat (go_big_quiet_step ((first | (go_at_call 107; exact Calls.in_ext (TU.out _ _ _ _ _ _ _ (by simp) (by simp) (by simp))) | (go_at_call 123; exact Calls.in_ext (sign_any _ _)))))
        refine wpQuiet_nil ?_
        rintro _ hnq
        have hzq := ext_sz hnq
        obtain ⟨nq, rfl⟩ := hnq
        (try simp at hzq)
        go_wp2_with fail
        go_ret
        exact ⟨ret_int (by rw [R.out]; rfl), (ext_mk (by (repeat' (first | (with_reducible first | exact Below.refl _ _ | assumption | refine below_ext _ ?_ ?_ | refine Below.alloc ?_ ?_ _ | refine Below.drew ?_ | refine below_drewN ?_ _ | refine le_drewN _ ?_ | refine Below.setCell ?_ ?_ _ | exact Nat.le_refl _ | refine le_ext _ ?_ | refine le_alloc _ ?_ | refine le_setCell _ _ ?_ | refine le_drew ?_) | omega | (simp; done) | (simp; omega)))))⟩
  · have d0 : ((n1 : Int) == 0) = false := by rw [beq_eq_false_iff_ne]; omega
    by_cases h1 : n1 = 1
    · have d1 : ((n1 : Int) == 1) = true := by rw [beq_iff_eq]; omega
      have R := hide (K1.out (hl.trans h1))
      clear hl h0 h1 K0 K1 K2
      go_wp2_with fail
      go_ret
      exact ⟨ret_int R.out.symm, (ext_mk (by (repeat' (first | (with_reducible first | exact Below.refl _ _ | assumption | refine below_ext _ ?_ ?_ | refine Below.alloc ?_ ?_ _ | refine Below.drew ?_ | refine below_drewN ?_ _ | refine le_drewN _ ?_ | refine Below.setCell ?_ ?_ _ | exact Nat.le_refl _ | refine le_ext _ ?_ | refine le_alloc _ ?_ | refine le_setCell _ _ ?_ | refine le_drew ?_) | omega | (simp; done) | (simp; omega)))))⟩
    · have d1 : ((n1 : Int) == 1) = false := by rw [beq_eq_false_iff_ne]; omega
      have R := hide (K2.out (by rw [hl]; exact h0) (by rw [hl]; exact h1))
      clear hl h0 h1 K0 K1 K2
      go_wp2_with fail
      go_ret
      exact ⟨ret_int R.out.symm, (ext_mk (by (repeat' (first | (with_reducible first | exact Below.refl _ _ | assumption | refine below_ext _ ?_ ?_ | refine Below.alloc ?_ ?_ _ | refine Below.drew ?_ | refine below_drewN ?_ _ | refine le_drewN _ ?_ | refine Below.setCell ?_ ?_ _ | exact Nat.le_refl _ | refine le_ext _ ?_ | refine le_alloc _ ?_ | refine le_setCell _ _ ?_ | refine le_drew ?_) | omega | (simp; done) | (simp; omega)))))⟩
end Go.Proofs.YtnddfdhfefconaaGreatDoor
