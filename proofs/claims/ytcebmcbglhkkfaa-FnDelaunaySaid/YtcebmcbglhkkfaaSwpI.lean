
/- Points in order, points on one line: the program's and the reference's tests. -/
import Derived.Test.YtcebmcbglhkkfaaHlp2
import Derived.Test.YtcebmcbglhkkfaaSwpR
import Derived.Test.YtcebmcbglhkkfaaSorted
set_option linter.unusedVariables false
set_option linter.unusedSimpArgs false
namespace Go.Proofs.Ytcebmcbglhkkfaa
open Go.RowKit

set_option maxHeartbeats 400000 in
theorem slEqP_any (ps qs : List Pt) (A A' : Option Addr) (n c n' c' : Nat) (w : World) (hn : ps.length = n) (hn' : qs.length = n') (hm : n ≤ 2000000) (hm' : n' ≤ 2000000) (hs : PtsAt w w.heap.size A ps) (hs' : PtsAt w w.heap.size A' qs) :
    Calls Try.prog 58 #[.slice A n c, .slice A' n' c'] w fun e w' => e = .returned (.bool (decide (ps = qs))) ∧ ∃ m, w' = ext w m := by
  by_cases hnn : n = n'
  · subst hnn
    have HN := hide hn
    have HN' := hide hn'
    have N := @run_nePt
    clear hn hn'
    go_enter Try.func58, Try.ntmps58
    go_wp2
    go_loopw [13] (fun v wr => ∃ k : Nat, k ≤ n ∧ v = .int .i64 k ∧ Hid (∀ j, j < k → eqP (pX ps j) (pY ps j) (pX qs j) (pY qs j) = true) ∧ ∃ x, wr = ext w x) (fun v _ => n - (intOf v).toNat)
    case atStart => exact ⟨0, Nat.zero_le _, rfl, fun j hj => by omega, ext_same w⟩
    case round =>
      obtain ⟨k, hk, rfl, hp, x, rfl⟩ := hrel
      by_cases hlt : k < n
      · obtain ⟨b, o, rfl, hb, hc⟩ := hs (by rw [HN.out]; omega)
        obtain ⟨hx, hy⟩ := hc k (by rw [HN.out]; omega)
        obtain ⟨b', o', rfl, hb', hc'⟩ := hs' (by rw [HN'.out]; omega)
        obtain ⟨hx', hy'⟩ := hc' k (by rw [HN'.out]; omega)
        have hsz := ext_size w x
        clear hc hc'
        cases ht : eqP (pX ps k) (pY ps k) (pX qs k) (pY qs k)
        · have R := hide (decide_eq_false (p := ps = qs) (fun h => by rw [h, eqP_iff.2 ⟨rfl, rfl⟩] at ht; cases ht))
          go_wp2
          refine wp_region_ext (by kernel_rfl) (by kernel_rfl) ?_
          repeat (go_big_quiet_step (fail))
          refine wpQuiet_nil ?_
          rintro _ hnq
          have hzq := ext_sz hnq
          obtain ⟨nq, rfl⟩ := hnq
          (try simp at hzq)
          go_wp2
          go_ret
          exact ⟨ret_bool R.out.symm, (ext_mk (by (repeat' (first | (with_reducible first | exact Below.refl _ _ | assumption | refine below_ext _ ?_ ?_ | refine Below.alloc ?_ ?_ _ | refine Below.drew ?_ | refine below_drewN ?_ _ | refine le_drewN _ ?_ | refine Below.setCell ?_ ?_ _ | exact Nat.le_refl _ | refine le_ext _ ?_ | refine le_alloc _ ?_ | refine le_setCell _ _ ?_ | refine le_drew ?_) | omega | (simp; done) | (simp; omega)))))⟩
        · have HT := hide ht
          go_wp2
          refine wp_region_ext (by kernel_rfl) (by kernel_rfl) ?_
          repeat (go_big_quiet_step (fail))
          refine wpQuiet_nil ?_
          rintro _ hnq
          have hzq := ext_sz hnq
          obtain ⟨nq, rfl⟩ := hnq
          (try simp at hzq)
          go_wp2
          exact ⟨⟨k + 1, by omega, by go_num, fun j hj => by rcases Nat.lt_succ_iff_lt_or_eq.1 hj with h | rfl; exact hp.out j h; exact HT.out, (ext_mk (by (repeat' (first | (with_reducible first | exact Below.refl _ _ | assumption | refine below_ext _ ?_ ?_ | refine Below.alloc ?_ ?_ _ | refine Below.drew ?_ | refine below_drewN ?_ _ | refine le_drewN _ ?_ | refine Below.setCell ?_ ?_ _ | exact Nat.le_refl _ | refine le_ext _ ?_ | refine le_alloc _ ?_ | refine le_setCell _ _ ?_ | refine le_drew ?_) | omega | (simp; done) | (simp; omega)))))⟩, by simp [intOf]; omega⟩
      · have : k = n := by omega
        subst this
        go_wp2
        go_ret
        exact ⟨ret_bool (decide_eq_true (pts_eq2 (by rw [HN.out, HN'.out]) (fun i hi => hp.out i (by rw [← HN.out]; exact hi)))).symm, (ext_mk (by (repeat' (first | (with_reducible first | exact Below.refl _ _ | assumption | refine below_ext _ ?_ ?_ | refine Below.alloc ?_ ?_ _ | refine Below.drew ?_ | refine below_drewN ?_ _ | refine le_drewN _ ?_ | refine Below.setCell ?_ ?_ _ | exact Nat.le_refl _ | refine le_ext _ ?_ | refine le_alloc _ ?_ | refine le_setCell _ _ ?_ | refine le_drew ?_) | omega | (simp; done) | (simp; omega)))))⟩
  · have hne : ((n : Int) != n') = true := by rw [bne_iff_ne]; omega
    have R := hide (decide_eq_false (p := ps = qs) (fun h => hnn (by rw [← hn, ← hn', h])))
    clear hn hn'
    go_enter Try.func58, Try.ntmps58
    go_wp2
    go_ret
    exact ⟨ret_bool R.out.symm, (ext_mk (by (repeat' (first | (with_reducible first | exact Below.refl _ _ | assumption | refine below_ext _ ?_ ?_ | refine Below.alloc ?_ ?_ _ | refine Below.drew ?_ | refine below_drewN ?_ _ | refine le_drewN _ ?_ | refine Below.setCell ?_ ?_ _ | exact Nat.le_refl _ | refine le_ext _ ?_ | refine le_alloc _ ?_ | refine le_setCell _ _ ?_ | refine le_drew ?_) | omega | (simp; done) | (simp; omega)))))⟩
/-- Valid points, in order, each once. -/
def siteB (ps : List Pt) : Bool := listOk ps && decide (ps = sortP ps)
theorem siteB_no {ps : List Pt} (h : listOk ps = false) : siteB ps = false := by unfold siteB; rw [h]; rfl
theorem siteB_ok {ps : List Pt} (h : listOk ps = true) : siteB ps = decide (ps = sortP ps) := by unfold siteB; rw [h]; rfl
theorem siteB_iff {ps : List Pt} : siteB ps = true ↔ listOk ps = true ∧ Ord ps := by
  unfold siteB
  rw [Bool.and_eq_true, decide_eq_true_iff]
  constructor
  · rintro ⟨a, b⟩
    exact ⟨a, by rw [b]; exact Ord.of (sortP_asc ps)⟩
  · rintro ⟨a, b⟩
    refine ⟨a, (sortP_self ?_).symm⟩
    unfold Asc
    rw [List.pairwise_iff_getElem]
    intro i j hi hj hij
    have := b i j hij hj
    rwa [gp_lt hi, gp_lt hj] at this
set_option maxHeartbeats 1000000 in
theorem ordered_any (ps : List Pt) (A : Option Addr) (n c : Nat) (w : World) (hn : ps.length = n) (hm : n ≤ 1000) (hs : PtsAt w w.heap.size A ps) (hA : Plain A n) :
    Calls Try.prog 27 #[.slice A n c] w fun e w' => e = .returned (.bool (siteB ps)) ∧ ∃ x, w' = ext w x := by
  have HC := hide (fun (W : World) (hb : Below w.heap.size w W) => listOk_any ps A n c W hn (by omega) (hs.to hb))
  have HS := hide (fun (W : World) (hb : Below w.heap.size w W) => sorted_any ps A n c W hn hm (hs.to hb) hA)
  have HE := hide (fun (qs : List Pt) (A' : Option Addr) (n' c' : Nat) (W : World) (hb : Below w.heap.size w W) (hn' : qs.length = n') (hm' : n' ≤ 2000000) (p' : PtsAt W W.heap.size A' qs) => slEqP_any ps qs A A' n c n' c' W hn hn' (by omega) hm' (hs.to hb) p')
  have SL := sortP_len ps
  cases hok : listOk ps
  · have R := hide (siteB_no hok)
    rw [hok] at HC
    clear hok hn hs hA
    go_enter Try.func27, Try.ntmps27
    go_wp2_with fail
    refine (HC.out _ (by (repeat' (first | (with_reducible first | exact Below.refl _ _ | assumption | refine below_ext _ ?_ ?_ | refine Below.alloc ?_ ?_ _ | refine Below.drew ?_ | refine below_drewN ?_ _ | refine le_drewN _ ?_ | refine Below.setCell ?_ ?_ _ | exact Nat.le_refl _ | refine le_ext _ ?_ | refine le_alloc _ ?_ | refine le_setCell _ _ ?_ | refine le_drew ?_) | omega | (simp; done) | (simp; omega))))).mono ?_
    rintro e w' ⟨rfl, hw'⟩; have hzy1 := ext_sz hw'; obtain ⟨y1, rfl⟩ := hw'; (try simp at hzy1)
    go_wp2_with fail
    go_ret
    exact ⟨ret_bool R.out.symm, (ext_mk (by (repeat' (first | (with_reducible first | exact Below.refl _ _ | assumption | refine below_ext _ ?_ ?_ | refine Below.alloc ?_ ?_ _ | refine Below.drew ?_ | refine below_drewN ?_ _ | refine le_drewN _ ?_ | refine Below.setCell ?_ ?_ _ | exact Nat.le_refl _ | refine le_ext _ ?_ | refine le_alloc _ ?_ | refine le_setCell _ _ ?_ | refine le_drew ?_) | omega | (simp; done) | (simp; omega)))))⟩
  · have R := hide (siteB_ok hok)
    rw [hok] at HC
    clear hok hs hA
    go_enter Try.func27, Try.ntmps27
    go_wp2_with fail
    refine (HC.out _ (by (repeat' (first | (with_reducible first | exact Below.refl _ _ | assumption | refine below_ext _ ?_ ?_ | refine Below.alloc ?_ ?_ _ | refine Below.drew ?_ | refine below_drewN ?_ _ | refine le_drewN _ ?_ | refine Below.setCell ?_ ?_ _ | exact Nat.le_refl _ | refine le_ext _ ?_ | refine le_alloc _ ?_ | refine le_setCell _ _ ?_ | refine le_drew ?_) | omega | (simp; done) | (simp; omega))))).mono ?_
    rintro e w' ⟨rfl, hw'⟩; have hzy1 := ext_sz hw'; obtain ⟨y1, rfl⟩ := hw'; (try simp at hzy1)
    go_wp2_with fail
    refine (HS.out _ (by (repeat' (first | (with_reducible first | exact Below.refl _ _ | assumption | refine below_ext _ ?_ ?_ | refine Below.alloc ?_ ?_ _ | refine Below.drew ?_ | refine below_drewN ?_ _ | refine le_drewN _ ?_ | refine Below.setCell ?_ ?_ _ | exact Nat.le_refl _ | refine le_ext _ ?_ | refine le_alloc _ ?_ | refine le_setCell _ _ ?_ | refine le_drew ?_) | omega | (simp; done) | (simp; omega))))).mono ?_
    rintro e w2 ⟨A2, n2, c2, rfl, l2, _, _, pr2, _, hx2⟩
    have B1 := hide (show Below w.heap.size w (ext w y1) from (by (repeat' (first | (with_reducible first | exact Below.refl _ _ | assumption | refine below_ext _ ?_ ?_ | refine Below.alloc ?_ ?_ _ | refine Below.drew ?_ | refine below_drewN ?_ _ | refine le_drewN _ ?_ | refine Below.setCell ?_ ?_ _ | exact Nat.le_refl _ | refine le_ext _ ?_ | refine le_alloc _ ?_ | refine le_setCell _ _ ?_ | refine le_drew ?_) | omega | (simp; done) | (simp; omega)))))
    have B2 := B1.out.trans ((ext_bel hx2).mono B1.out.size)
    clear hx2
    go_wp2_with fail
    refine (HE.out (sortP ps) A2 n2 c2 w2 B2 l2 (by omega) pr2.pts).mono ?_
    rintro e w' ⟨rfl, hw'⟩; have hzy3 := ext_sz hw'; obtain ⟨y3, rfl⟩ := hw'; (try simp at hzy3)
    go_wp2_with fail
    go_ret
    exact ⟨ret_bool R.out.symm, ext_mk (B2.trans (Below.mono (show Below w2.heap.size w2 _ from (by (repeat' (first | (with_reducible first | exact Below.refl _ _ | assumption | refine below_ext _ ?_ ?_ | refine Below.alloc ?_ ?_ _ | refine Below.drew ?_ | refine below_drewN ?_ _ | refine le_drewN _ ?_ | refine Below.setCell ?_ ?_ _ | exact Nat.le_refl _ | refine le_ext _ ?_ | refine le_alloc _ ?_ | refine le_setCell _ _ ?_ | refine le_drew ?_) | omega | (simp; done) | (simp; omega))))) B2.size))⟩
/-- All on the line of the first and the last. -/
def colB (ps : List Pt) : Bool := !(List.range ps.length).any fun i => decide (trn (gp ps 0) (gp ps (ps.length - 1)) (gp ps i) ≠ 0)
set_option maxHeartbeats 1000000 in
theorem col1_any (ps : List Pt) (x y : Int) (A : Option Addr) (n c bx : Nat) (W : World) (hn : ps.length = n) (h0 : 0 < n) (hm : n ≤ 1000) (hb5 : ∀ p ∈ ps, (-100000 ≤ p.x ∧ p.x ≤ 100000) ∧ (-100000 ≤ p.y ∧ p.y ≤ 100000)) (hx : -100000 ≤ x ∧ x ≤ 100000) (hy : -100000 ≤ y ∧ y ≤ 100000) (hs : PtsAt W W.heap.size A ps) (hbx : bx < W.heap.size) (hc : W.cell? ⟨bx, 0, none⟩ = some (.slice A n c)) :
    Calls Try.prog 96 #[.agg #[.int .i64 x, .int .i64 y], .pointer (some ⟨bx, 0, none⟩)] W fun e w' => e = .returned (.bool (decide (trn (gp ps 0) (gp ps (n - 1)) ⟨x, y⟩ ≠ 0))) ∧ ∃ m, w' = ext W m := by
  obtain ⟨b, o, rfl, hb, hcs⟩ := hs (by omega)
  obtain ⟨x0, y0⟩ := hcs 0 (by omega)
  obtain ⟨x1, y1⟩ := hcs (n - 1) (by omega)
  obtain ⟨p0, p1⟩ := hb5 (gp ps 0) (gp_mem (by omega))
  obtain ⟨p2, p3⟩ := hb5 (gp ps (n - 1)) (gp_mem (by omega))
  change W.cell? ⟨b, o + 0 * 2, none⟩ = some (.int .i64 (gp ps 0).x) at x0
  change W.cell? ⟨b, o + 0 * 2 + 1, none⟩ = some (.int .i64 (gp ps 0).y) at y0
  change W.cell? ⟨b, o + (n - 1) * 2, none⟩ = some (.int .i64 (gp ps (n - 1)).x) at x1
  change W.cell? ⟨b, o + (n - 1) * 2 + 1, none⟩ = some (.int .i64 (gp ps (n - 1)).y) at y1
  simp only [Nat.zero_mul, Nat.add_zero] at x0 y0
  have TT : Hid (∀ W', Calls Try.prog 37 #[.agg #[.int .i64 (gp ps 0).x, .int .i64 (gp ps 0).y], .agg #[.int .i64 (gp ps (n - 1)).x, .int .i64 (gp ps (n - 1)).y], .agg #[.int .i64 x, .int .i64 y]] W' fun e w' => e = .returned (.int .i64 (trn (gp ps 0) (gp ps (n - 1)) ⟨x, y⟩)) ∧ ∃ m, w' = ext W' m) := hide (fun W' => turn_any (gp ps 0).x (gp ps 0).y (gp ps (n - 1)).x (gp ps (n - 1)).y x y W' p0 p1 p2 p3 hx hy)
  have R : Hid (∀ z : Int, (z != 0) = decide (z ≠ 0)) := hide (fun z => by by_cases h : z = 0 <;> simp [h])
  generalize trn (gp ps 0) (gp ps (n - 1)) ⟨x, y⟩ = T at *
  generalize (gp ps 0).x = X0 at *
  generalize (gp ps 0).y = Y0 at *
  generalize (gp ps (n - 1)).x = X1 at *
  generalize (gp ps (n - 1)).y = Y1 at *
  obtain ⟨m, rfl⟩ : ∃ m, n = m + 1 := ⟨n - 1, by omega⟩
  have q1 : ((m + 1 : Nat) : Int) - 1 = (m : Int) := by omega
  have q2 : (0 : Int) < ((m + 1 : Nat) : Int) := by omega
  have q3 : (m : Int) < ((m + 1 : Nat) : Int) := by omega
  simp only [Nat.add_sub_cancel] at x1 y1
  clear hn hs hcs hb5 p0 p1 p2 p3 hx hy
  go_enter Try.func96, Try.ntmps96
  go_wp2_with fail
  refine wp_region_ext (by kernel_rfl) (by kernel_rfl) ?_
  repeat (go_big_quiet_step ((first | (go_at_call 37; exact Calls.in_ext (TT.out _)))))
  refine wpQuiet_nil ?_
  rintro _ hnq
  have hzq := ext_sz hnq
  obtain ⟨nq, rfl⟩ := hnq
  (try simp at hzq)
  go_wp2_with fail
  go_ret
  exact ⟨ret_bool (R.out T), (ext_mk (by (repeat' (first | (with_reducible first | exact Below.refl _ _ | assumption | refine below_ext _ ?_ ?_ | refine Below.alloc ?_ ?_ _ | refine Below.drew ?_ | refine below_drewN ?_ _ | refine le_drewN _ ?_ | refine Below.setCell ?_ ?_ _ | exact Nat.le_refl _ | refine le_ext _ ?_ | refine le_alloc _ ?_ | refine le_setCell _ _ ?_ | refine le_drew ?_) | omega | (simp; done) | (simp; omega)))))⟩
set_option maxHeartbeats 1000000 in
theorem iCol_any (ps : List Pt) (A : Option Addr) (n c : Nat) (w : World) (hn : ps.length = n) (hm : n ≤ 1000) (hb5 : ∀ p ∈ ps, (-100000 ≤ p.x ∧ p.x ≤ 100000) ∧ (-100000 ≤ p.y ∧ p.y ≤ 100000)) (hs : PtsAt w w.heap.size A ps) (hA : Plain A n) :
    Calls Try.prog 59 #[.slice A n c] w fun e w' => e = .returned (.bool (colB (sortP ps))) ∧ ∃ x, w' = ext w x := by
  have HS := hide (fun (W : World) (hb : Below w.heap.size w W) => sorted_any ps A n c W hn hm (hs.to hb) hA)
  have SL := sortP_len ps
  have HB : Hid (∀ p ∈ sortP ps, (-100000 ≤ p.x ∧ p.x ≤ 100000) ∧ (-100000 ≤ p.y ∧ p.y ≤ 100000)) := hide (fun p hp => hb5 p (sortP_mem.1 hp))
  have HV : Hid (colB (sortP ps) = !(List.range (sortP ps).length).any fun i => decide (trn (gp (sortP ps) 0) (gp (sortP ps) ((sortP ps).length - 1)) (gp (sortP ps) i) ≠ 0)) := hide rfl
  clear hb5 hs hA
  generalize sortP ps = qs at *
  go_enter Try.func59, Try.ntmps59
  go_wp2_with fail
  refine (HS.out _ (by (repeat' (first | (with_reducible first | exact Below.refl _ _ | assumption | refine below_ext _ ?_ ?_ | refine Below.alloc ?_ ?_ _ | refine Below.drew ?_ | refine below_drewN ?_ _ | refine le_drewN _ ?_ | refine Below.setCell ?_ ?_ _ | exact Nat.le_refl _ | refine le_ext _ ?_ | refine le_alloc _ ?_ | refine le_setCell _ _ ?_ | refine le_drew ?_) | omega | (simp; done) | (simp; omega))))).mono ?_
  rintro e w2 ⟨A2, n2, c2, rfl, l2, _, _, pr2, _, hx2⟩
  have D2 := ext_bel hx2
  have K2 := hide (heap_alloc_new w2 (.cells #[.slice A2 n2 c2] 23))
  have B2 : Hid (Below w.heap.size w (w2.alloc (.cells #[.slice A2 n2 c2] 23))) := hide ((((by (repeat' (first | (with_reducible first | exact Below.refl _ _ | assumption | refine below_ext _ ?_ ?_ | refine Below.alloc ?_ ?_ _ | refine Below.drew ?_ | refine below_drewN ?_ _ | refine le_drewN _ ?_ | refine Below.setCell ?_ ?_ _ | exact Nat.le_refl _ | refine le_ext _ ?_ | refine le_alloc _ ?_ | refine le_setCell _ _ ?_ | refine le_drew ?_) | omega | (simp; done) | (simp; omega)))) : Below w.heap.size w _).trans (D2.mono (by first | omega | (simp; done) | (simp; omega)))).alloc (by have := D2.size; omega) _)
  have PP := hide (pr2.pts.to (show Below w2.heap.size w2 (w2.alloc (.cells #[.slice A2 n2 c2] 23)) from (by (repeat' (first | (with_reducible first | exact Below.refl _ _ | assumption | refine below_ext _ ?_ ?_ | refine Below.alloc ?_ ?_ _ | refine Below.drew ?_ | refine below_drewN ?_ _ | refine le_drewN _ ?_ | refine Below.setCell ?_ ?_ _ | exact Nat.le_refl _ | refine le_ext _ ?_ | refine le_alloc _ ?_ | refine le_setCell _ _ ?_ | refine le_drew ?_) | omega | (simp; done) | (simp; omega))))))
  have kc := heap_cell K2.out 0
  have kc : _ = some (Value.slice A2 n2 c2) := kc
  have CF : Hid (Calls Try.prog 53 #[.slice A2 n2 c2, .func (.func 96) #[] #[.pointer (some ⟨w2.heap.size, 0, none⟩)]] (w2.alloc (.cells #[.slice A2 n2 c2] 23)) fun e w' => e = .returned (.bool ((List.range n2).any fun i => decide (trn (gp qs 0) (gp qs (n2 - 1)) (gp qs i) ≠ 0))) ∧ ∃ m, w' = ext (w2.alloc (.cells #[.slice A2 n2 c2] 23)) m) := hide (
    ContainsFunc_any 96 #[.pointer (some ⟨w2.heap.size, 0, none⟩)] (fun i => decide (trn (gp qs 0) (gp qs (n2 - 1)) (gp qs i) ≠ 0)) qs A2 n2 c2 _ l2 (by omega) (enters _ Try.func96 (by kernel_rfl) rfl) PP.out (fun W2 i hW2 hi => by
      obtain ⟨p0, p1⟩ := HB.out (gp qs i) (gp_mem hi)
      exact col1_any qs (pX qs i) (pY qs i) A2 n2 c2 w2.heap.size W2 l2 (by omega) (by omega) HB.out p0 p1 (PP.out.to hW2) (by have := hW2.size; simp at this; omega) ((hW2.cell (p := ⟨w2.heap.size, 0, none⟩) (by simp)).trans kc)))
  have R : Hid (colB qs = !(List.range n2).any fun i => decide (trn (gp qs 0) (gp qs (n2 - 1)) (gp qs i) ≠ 0)) := hide (by rw [HV.out, l2])
  generalize ((List.range n2).any fun i => decide (trn (gp qs 0) (gp qs (n2 - 1)) (gp qs i) ≠ 0)) = V at *
  clear hx2 PP HB
  go_wp2_with fail
  refine CF.out.mono ?_
  rintro e w' ⟨rfl, hw'⟩; have hzy4 := ext_sz hw'; obtain ⟨y4, rfl⟩ := hw'; (try simp at hzy4)
  go_wp2_with fail
  go_ret
  exact ⟨ret_bool R.out.symm, ext_mk (B2.out.trans (Below.mono (show Below (w2.alloc (.cells #[.slice A2 n2 c2] 23)).heap.size (w2.alloc (.cells #[.slice A2 n2 c2] 23)) _ from (by (repeat' (first | (with_reducible first | exact Below.refl _ _ | assumption | refine below_ext _ ?_ ?_ | refine Below.alloc ?_ ?_ _ | refine Below.drew ?_ | refine below_drewN ?_ _ | refine le_drewN _ ?_ | refine Below.setCell ?_ ?_ _ | exact Nat.le_refl _ | refine le_ext _ ?_ | refine le_alloc _ ?_ | refine le_setCell _ _ ?_ | refine le_drew ?_) | omega | (simp; done) | (simp; omega))))) B2.out.size))⟩
set_option maxHeartbeats 400000 in
theorem clipT_any (A : Option Addr) (n c : Nat) (w : World) (hn : n ≤ c) (hc : c ≤ 9223372036854775807) (hA : Plain A n) :
    Calls Try.prog 60 #[.slice A n c] w fun e w' => e = .returned (.slice A n n) ∧ w = w' := by
  cases A with
  | none =>
    have := hA.1 rfl
    subst this
    go_enter Try.func60, Try.ntmps60
    go_wp2
    go_ret
    exact ⟨rfl, rfl⟩
  | some a =>
    obtain ⟨b, o, s⟩ := a
    obtain rfl := hA.2 b o s rfl
    go_enter Try.func60, Try.ntmps60
    go_wp2
    go_ret
    exact ⟨rfl, rfl⟩
set_option maxHeartbeats 1000000 in
theorem validSites_any (ps : List Pt) (A : Option Addr) (n c : Nat) (w : World) (hn : ps.length = n) (hm : n ≤ 1000) (hs : PtsAt w w.heap.size A ps) :
    Calls Try.prog 29 #[.slice A n c] w fun e w' => e = .returned (.bool (siteB ps)) ∧ ∃ x, w' = ext w x := by
  have HV := hide (fun (W : World) (hb : Below w.heap.size w W) => validPoints_any ps A n c W hn (by omega) (hs.to hb))
  have HN := hide hn
  have HS := hide hs
  have YES : Hid ((∀ j, j + 1 < n → ltP (gp ps j) (gp ps (j + 1))) → siteB ps = listOk ps) := hide (fun h => by
    have hO : Ord ps := fun i k hik hk => by
      obtain ⟨d, rfl⟩ : ∃ d, k = i + 1 + d := ⟨k - (i + 1), by omega⟩
      clear hik
      induction d with
      | zero => exact h i (by omega)
      | succ d ih => exact ltP_trans (ih (by omega)) (h (i + 1 + d) (by omega))
    cases hok : listOk ps
    · exact siteB_no hok
    · exact siteB_iff.2 ⟨hok, hO⟩)
  have NO : Hid (∀ j, j + 1 < n → ¬ ltP (gp ps j) (gp ps (j + 1)) → siteB ps = false) := hide (fun j hj h => by
    rw [Bool.eq_false_iff]
    intro e
    exact h ((siteB_iff.1 e).2 j (j + 1) (by omega) (by omega)))
  clear hn hs
  go_enter Try.func29, Try.ntmps29
  go_wp2_with fail
  go_loopw [3] (fun v wr => ∃ k : Nat, v = .int .i64 ((k : Int) + 1) ∧ (k = 0 ∨ k + 1 ≤ n) ∧ Hid (∀ j, j < k → ltP (gp ps j) (gp ps (j + 1))) ∧ ∃ x, wr = ext w x) (fun v _ => n - (intOf v).toNat)
  case atStart => exact ⟨0, by simp, .inl rfl, hide (fun j hj => by omega), ext_same w⟩
  case round =>
    obtain ⟨k, rfl, hk, hp, x, rfl⟩ := hrel
    by_cases hlt : k + 1 < n
    · obtain ⟨b, o, rfl, hb, hc⟩ := HS.out (by rw [HN.out]; omega)
      obtain ⟨x0, y0⟩ := hc k (by rw [HN.out]; omega)
      obtain ⟨x1, y1⟩ := hc (k + 1) (by rw [HN.out]; omega)
      have hsz := ext_size w x
      have PL := hide (fun W => pointLess_any (pX ps k) (pY ps k) (pX ps (k + 1)) (pY ps (k + 1)) W)
      have q1 : (k : Int) + 1 - 1 = (k : Int) := by omega
      have q2 : (k : Int) < (n : Int) := by omega
      have q3 : (k : Int) + 1 < (n : Int) := by omega
      have q4 : ((k : Int) + 1).toNat = k + 1 := by omega
      have q5 : (0 : Int) ≤ (k : Int) + 1 := by omega
      clear hc
      by_cases hl : ltP (gp ps k) (gp ps (k + 1))
      · have dl : decide (ltP ⟨pX ps k, pY ps k⟩ ⟨pX ps (k + 1), pY ps (k + 1)⟩) = true := decide_eq_true hl
        rw [dl] at PL
        have HL := hide hl
        clear dl hl
        generalize pX ps k = X0 at *
        generalize pY ps k = Y0 at *
        generalize pX ps (k + 1) = X1 at *
        generalize pY ps (k + 1) = Y1 at *
        go_wp2_with fail
        refine wp_region_ext (by kernel_rfl) (by kernel_rfl) ?_
        repeat (go_big_quiet_step ((first | (go_at_call 61; exact Calls.in_ext (PL.out _)))))
        refine wpQuiet_nil ?_
        rintro _ hnq
        have hzq := ext_sz hnq
        obtain ⟨nq, rfl⟩ := hnq
        (try simp at hzq)
        go_wp2_with fail
        exact ⟨⟨k + 1, by simp, .inr (by omega), hide (fun j hj => by rcases Nat.lt_succ_iff_lt_or_eq.1 hj with h | rfl; exact hp.out j h; exact HL.out), (ext_mk (by (repeat' (first | (with_reducible first | exact Below.refl _ _ | assumption | refine below_ext _ ?_ ?_ | refine Below.alloc ?_ ?_ _ | refine Below.drew ?_ | refine below_drewN ?_ _ | refine le_drewN _ ?_ | refine Below.setCell ?_ ?_ _ | exact Nat.le_refl _ | refine le_ext _ ?_ | refine le_alloc _ ?_ | refine le_setCell _ _ ?_ | refine le_drew ?_) | omega | (simp; done) | (simp; omega)))))⟩, by simp [intOf]; omega⟩
      · have dl : decide (ltP ⟨pX ps k, pY ps k⟩ ⟨pX ps (k + 1), pY ps (k + 1)⟩) = false := decide_eq_false hl
        rw [dl] at PL
        have R := hide (NO.out k hlt hl)
        clear dl hl NO YES
        generalize pX ps k = X0 at *
        generalize pY ps k = Y0 at *
        generalize pX ps (k + 1) = X1 at *
        generalize pY ps (k + 1) = Y1 at *
        go_wp2_with fail
        refine wp_region_ext (by kernel_rfl) (by kernel_rfl) ?_
        repeat (go_big_quiet_step ((first | (go_at_call 61; exact Calls.in_ext (PL.out _)))))
        refine wpQuiet_nil ?_
        rintro _ hnq
        have hzq := ext_sz hnq
        obtain ⟨nq, rfl⟩ := hnq
        (try simp at hzq)
        go_wp2_with fail
        go_ret
        exact ⟨ret_bool R.out.symm, (ext_mk (by (repeat' (first | (with_reducible first | exact Below.refl _ _ | assumption | refine below_ext _ ?_ ?_ | refine Below.alloc ?_ ?_ _ | refine Below.drew ?_ | refine below_drewN ?_ _ | refine le_drewN _ ?_ | refine Below.setCell ?_ ?_ _ | exact Nat.le_refl _ | refine le_ext _ ?_ | refine le_alloc _ ?_ | refine le_setCell _ _ ?_ | refine le_drew ?_) | omega | (simp; done) | (simp; omega)))))⟩
    · have R := hide (YES.out (fun j hj => hp.out j (by omega)))
      have q3 : ¬ ((k : Int) + 1 < (n : Int)) := by omega
      clear YES NO
      go_wp2_with fail
      refine (HV.out _ (by (repeat' (first | (with_reducible first | exact Below.refl _ _ | assumption | refine below_ext _ ?_ ?_ | refine Below.alloc ?_ ?_ _ | refine Below.drew ?_ | refine below_drewN ?_ _ | refine le_drewN _ ?_ | refine Below.setCell ?_ ?_ _ | exact Nat.le_refl _ | refine le_ext _ ?_ | refine le_alloc _ ?_ | refine le_setCell _ _ ?_ | refine le_drew ?_) | omega | (simp; done) | (simp; omega))))).mono ?_
      rintro e w' ⟨rfl, hw'⟩; have hzy5 := ext_sz hw'; obtain ⟨y5, rfl⟩ := hw'; (try simp at hzy5)
      go_wp2_with fail
      go_ret
      exact ⟨ret_bool R.out.symm, (ext_mk (by (repeat' (first | (with_reducible first | exact Below.refl _ _ | assumption | refine below_ext _ ?_ ?_ | refine Below.alloc ?_ ?_ _ | refine Below.drew ?_ | refine below_drewN ?_ _ | refine le_drewN _ ?_ | refine Below.setCell ?_ ?_ _ | exact Nat.le_refl _ | refine le_ext _ ?_ | refine le_alloc _ ?_ | refine le_setCell _ _ ?_ | refine le_drew ?_) | omega | (simp; done) | (simp; omega)))))⟩
end Go.Proofs.Ytcebmcbglhkkfaa
