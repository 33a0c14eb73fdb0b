
/- CheckHull of the program, where all its conditions hold: the library's Index, Contains, ContainsFunc; shaped. -/
import Derived.Test.YtelhidonhldjeaaHwM
import Derived.Test.YtelhidonhldjeaaConv
import Derived.Test.YtelhidonhldjeaaSorted
import Derived.Test.YtelhidonhldjeaaAppI
set_option linter.unusedVariables false
set_option linter.unusedSimpArgs false
namespace Go.Proofs.Ytelhidonhldjeaa
open Go.RowKit

set_option maxHeartbeats 400000 in
theorem IndexFuncJ_any (g : Nat) (lb : Array Value) (p : Nat → Bool) (zs : List Int) (A : Option Addr) (n c : Nat) (w : World) (hn : zs.length = n) (hm : n ≤ 2000000) (eg : ∀ args w, (callFunc g args).run Try.prog w = .ok (.enter g args) w)
    (hs : IntsAt w w.heap.size A zs) (hg : ∀ (W : World) (i : Nat), Below w.heap.size w W → i < zs.length → Calls Try.prog g (#[.int .i64 (gi zs i)] ++ lb) W fun e w' => e = .returned (.bool (p i)) ∧ ∃ m, w' = ext W m) :
    Calls Try.prog 63 #[.slice A n c, .func (.func g) #[] lb] w fun e w' => e = .returned (.int .i64 (firstIdx p n)) ∧ ∃ m, w' = ext w m := by
  have HG := hide hg
  clear hg
  go_enter Try.func63, Try.ntmps63
  go_wp2
  go_loopw [8] (fun v8 wr => ∃ k : Nat, k ≤ n ∧ v8 = .int .i64 k ∧ Hid (∀ j, j < k → p j = false) ∧ ∃ x, wr = ext w x) (fun v8 _ => n - (intOf v8).toNat)
  case atStart => exact ⟨0, Nat.zero_le _, rfl, fun j hj => by omega, ext_same w⟩
  case round =>
    obtain ⟨k, hk, rfl, hp, x, rfl⟩ := hrel
    by_cases hlt : k < n
    · obtain ⟨b, o, rfl, hb, hc⟩ := hs (by omega)
      have hck := hc k (by omega)
      clear hc
      go_wp2_with (go_at_fn g; refine (HG.out _ k (ext_below w x) (by omega)).mono ?_; rintro e w' ⟨rfl, y, rfl⟩)
      case roundEnd =>
        have hpk : p k = false := by assumption
        exact ⟨⟨k + 1, by omega, by go_num, fun j hj => by rcases Nat.lt_succ_iff_lt_or_eq.1 hj with h | rfl; exact hp.out j h; exact hpk, (ext_mk (by (repeat' (first | (with_reducible exact Below.refl _ _) | (with_reducible assumption) | (with_reducible refine below_ext _ ?_ ?_) | (with_reducible refine Below.alloc ?_ ?_ _) | (with_reducible refine Below.drew ?_) | (with_reducible refine below_drewN ?_ _) | (with_reducible refine le_drewN _ ?_) | (with_reducible refine Below.setCell ?_ ?_ _) | (with_reducible exact Nat.le_refl _) | (with_reducible refine le_ext _ ?_) | (with_reducible refine le_alloc _ ?_) | (with_reducible refine le_setCell _ _ ?_) | (with_reducible refine le_drew ?_) | omega | (simp; done) | (simp; omega)))))⟩, by simp [intOf]; omega⟩
      have hpk : p k = true := by assumption
      go_ret
      exact ⟨ret_int (firstIdx_at hlt hpk hp.out).symm, (ext_mk (by (repeat' (first | (with_reducible exact Below.refl _ _) | (with_reducible assumption) | (with_reducible refine below_ext _ ?_ ?_) | (with_reducible refine Below.alloc ?_ ?_ _) | (with_reducible refine Below.drew ?_) | (with_reducible refine below_drewN ?_ _) | (with_reducible refine le_drewN _ ?_) | (with_reducible refine Below.setCell ?_ ?_ _) | (with_reducible exact Nat.le_refl _) | (with_reducible refine le_ext _ ?_) | (with_reducible refine le_alloc _ ?_) | (with_reducible refine le_setCell _ _ ?_) | (with_reducible refine le_drew ?_) | omega | (simp; done) | (simp; omega)))))⟩
    · have : k = n := by omega
      subst this
      go_wp2
      go_ret
      exact ⟨ret_int (firstIdx_none hp.out).symm, (ext_mk (by (repeat' (first | (with_reducible exact Below.refl _ _) | (with_reducible assumption) | (with_reducible refine below_ext _ ?_ ?_) | (with_reducible refine Below.alloc ?_ ?_ _) | (with_reducible refine Below.drew ?_) | (with_reducible refine below_drewN ?_ _) | (with_reducible refine le_drewN _ ?_) | (with_reducible refine Below.setCell ?_ ?_ _) | (with_reducible exact Nat.le_refl _) | (with_reducible refine le_ext _ ?_) | (with_reducible refine le_alloc _ ?_) | (with_reducible refine le_setCell _ _ ?_) | (with_reducible refine le_drew ?_) | omega | (simp; done) | (simp; omega)))))⟩
set_option maxHeartbeats 400000 in
theorem ContainsFuncJ_any (g : Nat) (lb : Array Value) (p : Nat → Bool) (zs : List Int) (A : Option Addr) (n c : Nat) (w : World) (hn : zs.length = n) (hm : n ≤ 2000000) (eg : ∀ args w, (callFunc g args).run Try.prog w = .ok (.enter g args) w)
    (hs : IntsAt w w.heap.size A zs) (hg : ∀ (W : World) (i : Nat), Below w.heap.size w W → i < zs.length → Calls Try.prog g (#[.int .i64 (gi zs i)] ++ lb) W fun e w' => e = .returned (.bool (p i)) ∧ ∃ m, w' = ext W m) :
    Calls Try.prog 77 #[.slice A n c, .func (.func g) #[] lb] w fun e w' => e = .returned (.bool ((List.range n).any p)) ∧ ∃ m, w' = ext w m := by
  have HI := hide (IndexFuncJ_any g lb p zs A n c w hn hm eg hs hg)
  have HA := hide (firstIdx_any p n)
  clear hg hs
  go_enter Try.func77, Try.ntmps77
  go_wp2_with (go_at_call 63; refine HI.out.mono ?_; rintro e w' ⟨rfl, hw'⟩; have hzy := ext_sz hw'; obtain ⟨y, rfl⟩ := hw'; (try simp at hzy))
  go_ret
  exact ⟨ret_bool HA.out, (ext_mk (by (repeat' (first | (with_reducible exact Below.refl _ _) | (with_reducible assumption) | (with_reducible refine below_ext _ ?_ ?_) | (with_reducible refine Below.alloc ?_ ?_ _) | (with_reducible refine Below.drew ?_) | (with_reducible refine below_drewN ?_ _) | (with_reducible refine le_drewN _ ?_) | (with_reducible refine Below.setCell ?_ ?_ _) | (with_reducible exact Nat.le_refl _) | (with_reducible refine le_ext _ ?_) | (with_reducible refine le_alloc _ ?_) | (with_reducible refine le_setCell _ _ ?_) | (with_reducible refine le_drew ?_) | omega | (simp; done) | (simp; omega)))))⟩
set_option maxHeartbeats 1000000 in
theorem index_any (ps : List Pt) (x y : Int) (A : Option Addr) (n c : Nat) (w : World) (hn : ps.length = n) (hm : n ≤ 2000000) (hs : PtsAt w w.heap.size A ps) :
    Calls Try.prog 127 #[.slice A n c, .agg #[.int .i64 x, .int .i64 y]] w fun e w' => e = .returned (.int .i64 (firstIdx (fun i => eqP x y (pX ps i) (pY ps i)) n)) ∧ ∃ m, w' = ext w m := by
  have HP := hide hs
  have HN := hide hn
  obtain ⟨W0, hW0⟩ : ∃ W0, W0 = w.alloc (.cells #[.int .i64 x, .int .i64 y] 39) := ⟨_, rfl⟩
  have bx0 : W0.cell? ⟨w.heap.size, 0, none⟩ = some (.int .i64 x) := by rw [hW0]; exact (heap_cell (heap_alloc_new _ _) 0).trans rfl
  have bx1 : W0.cell? ⟨w.heap.size, 1, none⟩ = some (.int .i64 y) := by rw [hW0]; exact (heap_cell (heap_alloc_new _ _) 1).trans rfl
  have B0 : Below w.heap.size w W0 := by rw [hW0]; exact (show Below w.heap.size w (w.alloc (.cells #[.int .i64 x, .int .i64 y] 39)) from (by (repeat' (first | (with_reducible exact Below.refl _ _) | (with_reducible assumption) | (with_reducible refine below_ext _ ?_ ?_) | (with_reducible refine Below.alloc ?_ ?_ _) | (with_reducible refine Below.drew ?_) | (with_reducible refine below_drewN ?_ _) | (with_reducible refine le_drewN _ ?_) | (with_reducible refine Below.setCell ?_ ?_ _) | (with_reducible exact Nat.le_refl _) | (with_reducible refine le_ext _ ?_) | (with_reducible refine le_alloc _ ?_) | (with_reducible refine le_setCell _ _ ?_) | (with_reducible refine le_drew ?_) | omega | (simp; done) | (simp; omega)))))
  have lt0 : w.heap.size < W0.heap.size := World.block_lt_of_cell? W0 _ bx0
  have B0h := hide B0
  have HW := hide hW0
  clear hW0 B0 hn hs
  go_enter Try.func127, Try.ntmps127
  go_wp2_with fail
  rw [← HW.out]
  clear HW
  go_loopw [5, 8] (fun _ v8 wr => ∃ k : Nat, k ≤ n ∧ v8 = .int .i64 k ∧ Hid (∀ j, j < k → eqP x y (pX ps j) (pY ps j) = false) ∧ ∃ u, wr = ext W0 u) (fun _ v8 _ => n - (intOf v8).toNat)
  case atStart => exact ⟨0, Nat.zero_le _, rfl, hide (fun j hj => by omega), ext_same W0⟩
  case round =>
    obtain ⟨k, hk, rfl, hp, x1, rfl⟩ := hrel
    have hz1 := ext_size W0 x1
    by_cases hlt : k < n
    · obtain ⟨b, o, rfl, hb, hc⟩ := HP.out (by rw [HN.out]; omega)
      obtain ⟨p1, p2⟩ := hc k (by rw [HN.out]; omega)
      have g1 := (B0h.out.cell (p := ⟨b, o + k * 2, none⟩) hb).trans p1
      have g2 := (B0h.out.cell (p := ⟨b, o + k * 2 + 1, none⟩) hb).trans p2
      have lb : b < W0.heap.size := by omega
      have q1 : (0 : Int) ≤ (k : Int) := by omega
      have q2 : (k : Int) < (n : Int) := by omega
      have RUN := run_eqPt x y (pX ps k) (pY ps k)
      clear hc p1 p2
      by_cases he : eqP x y (pX ps k) (pY ps k) = true
      · have HY := hide (firstIdx_at (p := fun i => eqP x y (pX ps i) (pY ps i)) hlt he (fun j hj => hp.out j hj))
        rw [he] at RUN
        clear he
        go_wp2_with fail
        refine wp_region_ext (by kernel_rfl) (by kernel_rfl) ?_
        repeat (go_big_quiet_step (fail))
        refine wpQuiet_nil ?_
        rintro _ hnq
        have hzq := ext_sz hnq
        obtain ⟨nq, rfl⟩ := hnq
        (try simp at hzq)
        go_wp2_with fail
        go_ret
        exact ⟨ret_int HY.out.symm, ext_mk (B0h.out.trans (by (repeat' (first | (with_reducible exact Below.refl _ _) | (with_reducible assumption) | (with_reducible refine below_ext _ ?_ ?_) | (with_reducible refine Below.alloc ?_ ?_ _) | (with_reducible refine Below.drew ?_) | (with_reducible refine below_drewN ?_ _) | (with_reducible refine le_drewN _ ?_) | (with_reducible refine Below.setCell ?_ ?_ _) | (with_reducible exact Nat.le_refl _) | (with_reducible refine le_ext _ ?_) | (with_reducible refine le_alloc _ ?_) | (with_reducible refine le_setCell _ _ ?_) | (with_reducible refine le_drew ?_) | omega | (simp; done) | (simp; omega)))))⟩
      · have he := eq_false_of_ne_true he
        have HE := hide he
        rw [he] at RUN
        clear he
        go_wp2_with fail
        refine wp_region_ext (by kernel_rfl) (by kernel_rfl) ?_
        repeat (go_big_quiet_step (fail))
        refine wpQuiet_nil ?_
        rintro _ hnq
        have hzq := ext_sz hnq
        obtain ⟨nq, rfl⟩ := hnq
        (try simp at hzq)
        go_wp2_with fail
        exact ⟨⟨k + 1, by omega, by go_num, hide (fun j hj => by
          by_cases e : j = k
          · rw [e]; exact HE.out
          · exact hp.out j (by omega)), (ext_mk (by (repeat' (first | (with_reducible exact Below.refl _ _) | (with_reducible assumption) | (with_reducible refine below_ext _ ?_ ?_) | (with_reducible refine Below.alloc ?_ ?_ _) | (with_reducible refine Below.drew ?_) | (with_reducible refine below_drewN ?_ _) | (with_reducible refine le_drewN _ ?_) | (with_reducible refine Below.setCell ?_ ?_ _) | (with_reducible exact Nat.le_refl _) | (with_reducible refine le_ext _ ?_) | (with_reducible refine le_alloc _ ?_) | (with_reducible refine le_setCell _ _ ?_) | (with_reducible refine le_drew ?_) | omega | (simp; done) | (simp; omega)))))⟩, by simp [intOf]; omega⟩
    · have ek : k = n := by omega
      have HY := hide (firstIdx_none (p := fun i => eqP x y (pX ps i) (pY ps i)) (n := n) (fun j hj => hp.out j (by omega)))
      clear ek
      go_wp2_with fail
      go_ret
      exact ⟨ret_int HY.out.symm, ext_mk (B0h.out.trans (by (repeat' (first | (with_reducible exact Below.refl _ _) | (with_reducible assumption) | (with_reducible refine below_ext _ ?_ ?_) | (with_reducible refine Below.alloc ?_ ?_ _) | (with_reducible refine Below.drew ?_) | (with_reducible refine below_drewN ?_ _) | (with_reducible refine le_drewN _ ?_) | (with_reducible refine Below.setCell ?_ ?_ _) | (with_reducible exact Nat.le_refl _) | (with_reducible refine le_ext _ ?_) | (with_reducible refine le_alloc _ ?_) | (with_reducible refine le_setCell _ _ ?_) | (with_reducible refine le_drew ?_) | omega | (simp; done) | (simp; omega)))))⟩
theorem eq_mem (ps : List Pt) (x y : Int) : (List.range ps.length).any (fun i => eqP x y (pX ps i) (pY ps i)) = decide ((⟨x, y⟩ : Pt) ∈ ps) := by
  rw [Bool.eq_iff_iff, List.any_eq_true, decide_eq_true_iff]
  constructor
  · rintro ⟨i, hi, h⟩
    rw [List.mem_range] at hi
    obtain ⟨e1, e2⟩ := eqP_iff.1 h
    have : (⟨x, y⟩ : Pt) = gp ps i := by rw [e1, e2]; rfl
    rw [this]; exact gp_mem hi
  · intro h
    obtain ⟨i, hi, e⟩ := gp_of_mem h
    refine ⟨i, List.mem_range.2 hi, eqP_iff.2 ⟨?_, ?_⟩⟩
    · unfold pX; rw [e]
    · unfold pY; rw [e]
set_option maxHeartbeats 400000 in
theorem contains_any (ps : List Pt) (x y : Int) (A : Option Addr) (n c : Nat) (w : World) (hn : ps.length = n) (hm : n ≤ 2000000) (hs : PtsAt w w.heap.size A ps) :
    Calls Try.prog 76 #[.slice A n c, .agg #[.int .i64 x, .int .i64 y]] w fun e w' => e = .returned (.bool (decide ((⟨x, y⟩ : Pt) ∈ ps))) ∧ ∃ m, w' = ext w m := by
  have HI := hide (fun (W : World) (hb : Below w.heap.size w W) => index_any ps x y A n c W hn hm (hs.to hb))
  have HA := hide (firstIdx_any (fun i => eqP x y (pX ps i) (pY ps i)) n)
  have HM := hide (eq_mem ps x y)
  rw [hn] at HM
  clear hs hn
  go_enter Try.func76, Try.ntmps76
  go_wp2_with fail
  refine (HI.out _ (by (repeat' (first | (with_reducible exact Below.refl _ _) | (with_reducible assumption) | (with_reducible refine below_ext _ ?_ ?_) | (with_reducible refine Below.alloc ?_ ?_ _) | (with_reducible refine Below.drew ?_) | (with_reducible refine below_drewN ?_ _) | (with_reducible refine le_drewN _ ?_) | (with_reducible refine Below.setCell ?_ ?_ _) | (with_reducible exact Nat.le_refl _) | (with_reducible refine le_ext _ ?_) | (with_reducible refine le_alloc _ ?_) | (with_reducible refine le_setCell _ _ ?_) | (with_reducible refine le_drew ?_) | omega | (simp; done) | (simp; omega))))).mono ?_
  rintro e w' ⟨rfl, hw'⟩; have hzy1 := ext_sz hw'; obtain ⟨y1, rfl⟩ := hw'; (try simp at hzy1)
  go_wp2_with fail
  go_ret
  exact ⟨ret_bool (HA.out.trans HM.out), (ext_mk (by (repeat' (first | (with_reducible exact Below.refl _ _) | (with_reducible assumption) | (with_reducible refine below_ext _ ?_ ?_) | (with_reducible refine Below.alloc ?_ ?_ _) | (with_reducible refine Below.drew ?_) | (with_reducible refine below_drewN ?_ _) | (with_reducible refine le_drewN _ ?_) | (with_reducible refine Below.setCell ?_ ?_ _) | (with_reducible exact Nat.le_refl _) | (with_reducible refine le_ext _ ?_) | (with_reducible refine le_alloc _ ?_) | (with_reducible refine le_setCell _ _ ?_) | (with_reducible refine le_drew ?_) | omega | (simp; done) | (simp; omega)))))⟩
set_option maxHeartbeats 400000 in
theorem chk1_any (ps : List Pt) (x y : Int) (A : Option Addr) (n c bx : Nat) (w : World) (hn : ps.length = n) (hm : n ≤ 2000000) (hs : PtsAt w w.heap.size A ps) (hx : w.cell? ⟨bx, 0, none⟩ = some (.slice A n c)) :
    Calls Try.prog 75 #[.agg #[.int .i64 x, .int .i64 y], .pointer (some ⟨bx, 0, none⟩)] w fun e w' => e = .returned (.bool (!decide ((⟨x, y⟩ : Pt) ∈ ps))) ∧ ∃ m, w' = ext w m := by
  have l1 : bx < w.heap.size := World.block_lt_of_cell? w _ hx
  have HI := hide (fun (W : World) (hb : Below w.heap.size w W) => contains_any ps x y A n c W hn hm (hs.to hb))
  clear hs hn
  go_enter Try.func75, Try.ntmps75
  go_wp2_with fail
  refine (HI.out _ (by (repeat' (first | (with_reducible exact Below.refl _ _) | (with_reducible assumption) | (with_reducible refine below_ext _ ?_ ?_) | (with_reducible refine Below.alloc ?_ ?_ _) | (with_reducible refine Below.drew ?_) | (with_reducible refine below_drewN ?_ _) | (with_reducible refine le_drewN _ ?_) | (with_reducible refine Below.setCell ?_ ?_ _) | (with_reducible exact Nat.le_refl _) | (with_reducible refine le_ext _ ?_) | (with_reducible refine le_alloc _ ?_) | (with_reducible refine le_setCell _ _ ?_) | (with_reducible refine le_drew ?_) | omega | (simp; done) | (simp; omega))))).mono ?_
  rintro e w' ⟨rfl, hw'⟩; have hzy1 := ext_sz hw'; obtain ⟨y1, rfl⟩ := hw'; (try simp at hzy1)
  go_wp2_with fail
  go_ret
  exact ⟨rfl, (ext_mk (by (repeat' (first | (with_reducible exact Below.refl _ _) | (with_reducible assumption) | (with_reducible refine below_ext _ ?_ ?_) | (with_reducible refine Below.alloc ?_ ?_ _) | (with_reducible refine Below.drew ?_) | (with_reducible refine below_drewN ?_ _) | (with_reducible refine le_drewN _ ?_) | (with_reducible refine Below.setCell ?_ ?_ _) | (with_reducible exact Nat.le_refl _) | (with_reducible refine le_ext _ ?_) | (with_reducible refine le_alloc _ ?_) | (with_reducible refine le_setCell _ _ ?_) | (with_reducible refine le_drew ?_) | omega | (simp; done) | (simp; omega)))))⟩
set_option maxHeartbeats 400000 in
theorem chk2_any (k : Int) (A : Option Addr) (n c bx : Nat) (w : World) (hm : n ≤ 2000000) (hx : w.cell? ⟨bx, 0, none⟩ = some (.slice A n c)) :
    Calls Try.prog 78 #[.int .i64 k, .pointer (some ⟨bx, 0, none⟩)] w fun e w' => e = .returned (.bool (!inB k 0 ((n : Int) - 1))) ∧ ∃ m, w' = ext w m := by
  have l1 : bx < w.heap.size := World.block_lt_of_cell? w _ hx
  have i1 : IntKind.i64.wrap ((n : Int) - 1) = (n : Int) - 1 := IntWalk.i64_in _ (by omega)
  go_enter Try.func78, Try.ntmps78
  go_wp2_with fail
  refine (within_any _ _ _ _).mono ?_
  rintro e w' ⟨rfl, rfl⟩
  go_wp2_with fail
  go_ret
  exact ⟨rfl, (ext_mk (by (repeat' (first | (with_reducible exact Below.refl _ _) | (with_reducible assumption) | (with_reducible refine below_ext _ ?_ ?_) | (with_reducible refine Below.alloc ?_ ?_ _) | (with_reducible refine Below.drew ?_) | (with_reducible refine below_drewN ?_ _) | (with_reducible refine le_drewN _ ?_) | (with_reducible refine Below.setCell ?_ ?_ _) | (with_reducible exact Nat.le_refl _) | (with_reducible refine le_ext _ ?_) | (with_reducible refine le_alloc _ ?_) | (with_reducible refine le_setCell _ _ ?_) | (with_reducible refine le_drew ?_) | omega | (simp; done) | (simp; omega)))))⟩
theorem cmp_lt {a b c d : Int} : decide (orI (sgn (a - c)) (sgn (b - d)) < 0) = decide (ltP ⟨a, b⟩ ⟨c, d⟩) := by
  refine decide_eq_decide.2 ?_
  have e : ltP ⟨a, b⟩ ⟨c, d⟩ ↔ (a < c ∨ (a = c ∧ b < d)) := Iff.rfl
  rw [e]
  unfold orI sgn
  repeat' split
  all_goals (constructor <;> intro <;> omega)
set_option maxHeartbeats 2000000 in
theorem shaped_any (hs : List Pt) (A : Option Addr) (n c : Nat) (w : World) (hn : hs.length = n) (hm : n ≤ 1000) (hA : Plain A n) (hp : PtsAt w w.heap.size A hs) (hok : shapedB hs = true) :
    Calls Try.prog 73 #[.slice A n c] w fun e w' => e = .returned (.bool true) ∧ ∃ m, w' = ext w m := by
  have h0 : n ≠ 0 := by intro e; unfold shapedB at hok; rw [if_pos (hn.trans e)] at hok; cases hok
  unfold shapedB at hok
  rw [hn, if_neg h0] at hok
  have d0 : ((n : Int) == 0) = false := by rw [beq_eq_false_iff_ne]; omega
  by_cases e1 : n = 1
  · have d1 : ((n : Int) == 1) = true := by rw [e1]; rfl
    clear hok hp hn hA e1
    go_enter Try.func73, Try.ntmps73
    go_wp2_with fail
    go_ret
    exact ⟨rfl, (ext_mk (by (repeat' (first | (with_reducible exact Below.refl _ _) | (with_reducible assumption) | (with_reducible refine below_ext _ ?_ ?_) | (with_reducible refine Below.alloc ?_ ?_ _) | (with_reducible refine Below.drew ?_) | (with_reducible refine below_drewN ?_ _) | (with_reducible refine le_drewN _ ?_) | (with_reducible refine Below.setCell ?_ ?_ _) | (with_reducible exact Nat.le_refl _) | (with_reducible refine le_ext _ ?_) | (with_reducible refine le_alloc _ ?_) | (with_reducible refine le_setCell _ _ ?_) | (with_reducible refine le_drew ?_) | omega | (simp; done) | (simp; omega)))))⟩
  have d1 : ((n : Int) == 1) = false := by rw [beq_eq_false_iff_ne]; omega
  rw [if_neg e1] at hok
  have HP0 := hide hp
  obtain ⟨b, o, rfl, hb, hc⟩ := hp (by omega)
  obtain ⟨x0, y0⟩ := hc 0 (by omega)
  by_cases e2 : n = 2
  · rw [if_pos e2] at hok
    have d2 : ((n : Int) == 2) = true := by rw [e2]; rfl
    obtain ⟨x1, y1⟩ := hc 1 (by omega)
    have CM := hide (fun W => comparePt_any (gp hs 0).x (gp hs 0).y (gp hs 1).x (gp hs 1).y W)
    have R := hide ((cmp_lt (a := (gp hs 0).x) (b := (gp hs 0).y) (c := (gp hs 1).x) (d := (gp hs 1).y)).trans hok)
    change w.cell? ⟨b, o + 0 * 2, none⟩ = some (.int .i64 (gp hs 0).x) at x0
    change w.cell? ⟨b, o + 0 * 2 + 1, none⟩ = some (.int .i64 (gp hs 0).y) at y0
    change w.cell? ⟨b, o + 1 * 2, none⟩ = some (.int .i64 (gp hs 1).x) at x1
    change w.cell? ⟨b, o + 1 * 2 + 1, none⟩ = some (.int .i64 (gp hs 1).y) at y1
    simp at x0 y0 x1 y1
    have q0 : 0 < n := by omega
    have q1 : 1 < n := by omega
    have q3 : (0 : Int) < (n : Int) := by omega
    have q4 : (1 : Int) < (n : Int) := by omega
    clear hok hn hA e2 hc
    generalize (gp hs 0).x = X0 at *
    generalize (gp hs 0).y = Y0 at *
    generalize (gp hs 1).x = X1 at *
    generalize (gp hs 1).y = Y1 at *
    generalize orI (sgn (X0 - X1)) (sgn (Y0 - Y1)) = V at *
    have dV : decide (V < 0) = true := R.out
    go_enter Try.func73, Try.ntmps73
    go_wp2_with fail
    refine wp_region_ext (by kernel_rfl) (by kernel_rfl) ?_
    repeat (go_big_quiet_step ((first | (go_at_call 115; exact Calls.in_ext (CM.out _)))))
    refine wpQuiet_nil ?_
    rintro _ hnq
    have hzq := ext_sz hnq
    obtain ⟨nq, rfl⟩ := hnq
    (try simp at hzq)
    go_wp2_with fail
    go_ret
    exact ⟨rfl, (ext_mk (by (repeat' (first | (with_reducible exact Below.refl _ _) | (with_reducible assumption) | (with_reducible refine below_ext _ ?_ ?_) | (with_reducible refine Below.alloc ?_ ?_ _) | (with_reducible refine Below.drew ?_) | (with_reducible refine below_drewN ?_ _) | (with_reducible refine le_drewN _ ?_) | (with_reducible refine Below.setCell ?_ ?_ _) | (with_reducible exact Nat.le_refl _) | (with_reducible refine le_ext _ ?_) | (with_reducible refine le_alloc _ ?_) | (with_reducible refine le_setCell _ _ ?_) | (with_reducible refine le_drew ?_) | omega | (simp; done) | (simp; omega)))))⟩
  · have d2 : ((n : Int) == 2) = false := by rw [beq_eq_false_iff_ne]; omega
    rw [if_neg e2, Bool.and_eq_true] at hok
    obtain ⟨hcv, hf⟩ := hok
    have hf := of_decide_eq_true hf
    have CV := hide (fun (W : World) (hbl : Below w.heap.size w W) => convex_any hs (some ⟨b, o, none⟩) n c W hn (by omega) hA (HP0.out.to hbl))
    have ST := hide (fun (W : World) (hbl : Below w.heap.size w W) => sorted_any hs (some ⟨b, o, none⟩) n c W hn hm (HP0.out.to hbl) hA)
    rw [hcv] at CV
    have SL : 0 < (sortP hs).length := List.length_pos_of_mem (sortP_mem.2 (gp_mem (show 0 < hs.length by omega)))
    have L0 : Hid (pX (sortP hs) 0 = (gp hs 0).x ∧ pY (sortP hs) 0 = (gp hs 0).y) := hide ⟨by unfold pX; rw [hf], by unfold pY; rw [hf]⟩
    change w.cell? ⟨b, o + 0 * 2, none⟩ = some (.int .i64 (gp hs 0).x) at x0
    change w.cell? ⟨b, o + 0 * 2 + 1, none⟩ = some (.int .i64 (gp hs 0).y) at y0
    simp at x0 y0
    have q0 : 0 < n := by omega
    have q3 : (0 : Int) < (n : Int) := by omega
    clear hn hA hc hcv hf HP0
    generalize (gp hs 0).x = X0 at *
    generalize (gp hs 0).y = Y0 at *
    have RUN : ∀ W, (binOp .eql 39 (.agg #[.int .i64 X0, .int .i64 Y0]) (.agg #[.int .i64 X0, .int .i64 Y0])).run Try.prog W = .ok (.bool true) W := fun W => (run_eqPt X0 Y0 X0 Y0 W).trans (by simp [eqP])
    go_enter Try.func73, Try.ntmps73
    go_wp2_with fail
    go_region_with (first | (go_at_call 125; refine (CV.out _ (by (repeat' (first | (with_reducible exact Below.refl _ _) | (with_reducible assumption) | (with_reducible refine below_ext _ ?_ ?_) | (with_reducible refine Below.alloc ?_ ?_ _) | (with_reducible refine Below.drew ?_) | (with_reducible refine below_drewN ?_ _) | (with_reducible refine le_drewN _ ?_) | (with_reducible refine Below.setCell ?_ ?_ _) | (with_reducible exact Nat.le_refl _) | (with_reducible refine le_ext _ ?_) | (with_reducible refine le_alloc _ ?_) | (with_reducible refine le_setCell _ _ ?_) | (with_reducible refine le_drew ?_) | omega | (simp; done) | (simp; omega))))).mono ?_; rintro e w' ⟨rfl, hw'⟩; have hzy3 := ext_sz hw'; obtain ⟨y3, rfl⟩ := hw'; (try simp at hzy3)) | (go_at_call 65; refine (ST.out _ (by (repeat' (first | (with_reducible exact Below.refl _ _) | (with_reducible assumption) | (with_reducible refine below_ext _ ?_ ?_) | (with_reducible refine Below.alloc ?_ ?_ _) | (with_reducible refine Below.drew ?_) | (with_reducible refine below_drewN ?_ _) | (with_reducible refine le_drewN _ ?_) | (with_reducible refine Below.setCell ?_ ?_ _) | (with_reducible exact Nat.le_refl _) | (with_reducible refine le_ext _ ?_) | (with_reducible refine le_alloc _ ?_) | (with_reducible refine le_setCell _ _ ?_) | (with_reducible refine le_drew ?_) | omega | (simp; done) | (simp; omega))))).mono ?_; rintro e w5 ⟨A5, n5, c5, rfl, hl5, hnc5, hcm5, hrow5, hpl5, hw5⟩; have hz5 := ext_sz hw5; obtain ⟨b5, o5, rfl, hb5, hc5⟩ := hrow5.pts SL; obtain ⟨h05, h15⟩ := hc5 0 SL; rw [L0.out.1] at h05; rw [L0.out.2] at h15; obtain ⟨x5, rfl⟩ := hw5; (try simp at h05); (try simp at h15); (try simp at hz5); have q5 : 0 < n5 := Nat.lt_of_lt_of_eq SL hl5; clear hrow5 hpl5 hc5))
    all_goals (go_wp2_with fail)
    all_goals go_ret
    all_goals exact ⟨rfl, (ext_mk (by (repeat' (first | (with_reducible exact Below.refl _ _) | (with_reducible assumption) | (with_reducible refine below_ext _ ?_ ?_) | (with_reducible refine Below.alloc ?_ ?_ _) | (with_reducible refine Below.drew ?_) | (with_reducible refine below_drewN ?_ _) | (with_reducible refine le_drewN _ ?_) | (with_reducible refine Below.setCell ?_ ?_ _) | (with_reducible exact Nat.le_refl _) | (with_reducible refine le_ext _ ?_) | (with_reducible refine le_alloc _ ?_) | (with_reducible refine le_setCell _ _ ?_) | (with_reducible refine le_drew ?_) | omega | (simp; done) | (simp; omega)))))⟩
end Go.Proofs.Ytelhidonhldjeaa
