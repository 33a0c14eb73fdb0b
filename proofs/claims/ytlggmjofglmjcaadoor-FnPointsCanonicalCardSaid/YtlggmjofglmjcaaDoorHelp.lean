
/- The statements' own helpers on points: copies, comparisons. -/
import Derived.Test.YtlggmjofglmjcaaDoorFunc
set_option linter.unusedVariables false
set_option linter.unusedSimpArgs false
namespace Go.Proofs.YtlggmjofglmjcaaDoor
open Go.RowKit

theorem make_row {P : Program} (t e : TypeId) (i : TypeInfo) (z : Value) (ht : P.underlying t = some (.slice e)) (hi : P.info? e = some i) (hz : i.zero = some z)
    (n c : Nat) (hnc : n ≤ c) (hbytes : i.bytes * c ≤ 281474976710656) (h63 : c ≤ 9223372036854775807) (w : World) :
    (Instr.makeSlice t (.int .i64 (n : Int)) (.int .i64 (c : Int))).run P w = .ok (.slice (some ⟨w.heap.size, 0, none⟩) n c) (w.alloc (.cells (madeCells z.cells (c * i.size)) e)) := by
  have hb : (i.bytes : Int) * (c : Int) ≤ 281474976710656 := by
    have h : ((i.bytes * c : Nat) : Int) ≤ 281474976710656 := by omega
    rwa [Int.natCast_mul] at h
  have hr := run_make (P := P) w t e i z ht hi hz .i64 .i64 n c (by omega) (by omega) hb (by omega)
  simp only [Int.toNat_natCast] at hr
  exact hr

set_option maxHeartbeats 400000 in
theorem toPoint_any (x y : Int) (w : World) : Calls Tryd.prog 38 #[.agg #[.int .i64 x, .int .i64 y]] w fun e w' => e = .returned (.agg #[.int .i64 x, .int .i64 y]) ∧ ∃ n, w' = ext w n := by
  go_enter Tryd.func38, Tryd.ntmps38
  go_wp2
  go_returns
  exact ⟨rfl, (ext_mk (by (repeat' (first | (with_reducible first | exact Below.refl _ _ | assumption | refine below_ext _ ?_ ?_ | refine Below.alloc ?_ ?_ _ | refine Below.drew ?_ | refine below_drewN ?_ _ | refine le_drewN _ ?_ | refine Below.setCell ?_ ?_ _ | exact Nat.le_refl _ | refine le_ext _ ?_ | refine le_alloc _ ?_ | refine le_setCell _ _ ?_ | refine le_drew ?_) | omega | (simp; done) | (simp; omega)))))⟩
def eqP (a b c d : Int) : Bool := decide (a = c) && decide (b = d)
theorem eqP_iff {a b c d : Int} : eqP a b c d = true ↔ a = c ∧ b = d := by simp [eqP]
set_option maxHeartbeats 400000 in
theorem eqPoint_any (a b c d : Int) (w : World) : Calls Tryd.prog 42 #[.agg #[.int .i64 a, .int .i64 b], .agg #[.int .i64 c, .int .i64 d]] w fun e w' => e = .returned (.bool (eqP a b c d)) ∧ ∃ n, w' = ext w n := by
  by_cases h1 : a = c <;> (by_cases h2 : b = d)
  all_goals
    go_enter Tryd.func42, Tryd.ntmps42
    go_wp2
    go_ret
    exact ⟨ret_bool (by simp [eqP, h1, h2]), (ext_mk (by (repeat' (first | (with_reducible first | exact Below.refl _ _ | assumption | refine below_ext _ ?_ ?_ | refine Below.alloc ?_ ?_ _ | refine Below.drew ?_ | refine below_drewN ?_ _ | refine le_drewN _ ?_ | refine Below.setCell ?_ ?_ _ | exact Nat.le_refl _ | refine le_ext _ ?_ | refine le_alloc _ ?_ | refine le_setCell _ _ ?_ | refine le_drew ?_) | omega | (simp; done) | (simp; omega)))))⟩
theorem ptInfo : (Tryd.prog.info? 57).map (fun i => (i.zero, i.size, i.bytes)) = some (some (.agg #[.int .i64 0, .int .i64 0]), 2, 16) := by kernel_rfl
set_option maxHeartbeats 400000 in
theorem toPointS_any (ps : List Pt) (A : Option Addr) (n c : Nat) (w : World) (hn : ps.length = n) (hm : n ≤ 2000000) (hs : PtsAt w w.heap.size A ps) :
    Calls Tryd.prog 16 #[.slice A n c] w fun e w' => ∃ g, e = .returned (.slice (some ⟨g, 0, none⟩) n n) ∧ w.heap.size ≤ g ∧ RowAt w' g 57 (n * 2) (ptCell ps) ∧ ∃ m, w' = ext w m := by
  obtain ⟨i0, hi, hz0, hz1, hz2⟩ := info_parts ptInfo
  have hmk : ∀ w : World, (Instr.makeSlice 35 (.int .i64 (n : Int)) (.int .i64 (n : Int))).run Tryd.prog w = .ok (.slice (some ⟨w.heap.size, 0, none⟩) n n) (w.alloc (.cells (madeCells #[.int .i64 0, .int .i64 0] (n * 2)) 57)) := by
    have := fun w => make_row (P := Tryd.prog) 35 57 i0 _ Tryd.underlying35 hi hz0 n n (Nat.le_refl _) (by rw [hz2]; omega) (by omega) w
    rw [hz1] at this; exact this
  clear hi hz0 hz1 hz2
  go_enter Tryd.func16, Tryd.ntmps16
  go_wp2
  go_loopw [4] (fun v wr => ∃ k : Nat, k ≤ n ∧ v = .int .i64 k ∧ (∃ f, RowAt wr w.heap.size 57 (n * 2) f ∧ ∀ j, j < k * 2 → f j = ptCell ps j) ∧ Below w.heap.size w wr) (fun v _ => n - (intOf v).toNat)
  case atStart => exact ⟨0, Nat.zero_le _, rfl, ⟨fun j => (madeCells #[.int .i64 0, .int .i64 0] (n * 2)).getD j default, by
      have h := RowAt.new w (madeCells #[.int .i64 0, .int .i64 0] (n * 2)) 57 (f := fun j => (madeCells #[.int .i64 0, .int .i64 0] (n * 2)).getD j default) (fun j hj => by
        show _ = some ((madeCells #[.int .i64 0, .int .i64 0] (n * 2)).getD j default)
        rw [Array.getD_eq_getD_getElem?, Array.getElem?_eq_getElem hj]; rfl)
      rw [size_madeCells] at h; exact h, fun j hj => by omega⟩, (by (repeat' (first | (with_reducible first | exact Below.refl _ _ | assumption | refine below_ext _ ?_ ?_ | refine Below.alloc ?_ ?_ _ | refine Below.drew ?_ | refine below_drewN ?_ _ | refine le_drewN _ ?_ | refine Below.setCell ?_ ?_ _ | exact Nat.le_refl _ | refine le_ext _ ?_ | refine le_alloc _ ?_ | refine le_setCell _ _ ?_ | refine le_drew ?_) | omega | (simp; done) | (simp; omega))))⟩
  case round =>
    obtain ⟨k, hk, rfl, ⟨f, hrow, hf⟩, hb⟩ := hrel
    by_cases hlt : k < n
    · have hsk := hs.to hb
      obtain ⟨b, o, rfl, hb0, hc⟩ := hs (by omega)
      obtain ⟨hx0, hy0⟩ := hc k (by omega)
      have hx := (hb.cell (p := ⟨b, o + k * 2, none⟩) hb0).trans hx0
      have hy := (hb.cell (p := ⟨b, o + k * 2 + 1, none⟩) hb0).trans hy0
      have c1 := hrow.cell (j := k * 2) (by omega)
      have c2 := hrow.cell (j := k * 2 + 1) (by omega)
      have f1 := hrow.frozen (k * 2)
      have f2 := hrow.frozen (k * 2 + 1)
      have hlt2 := hrow.lt
      have HF := hide hf
      clear hc hx0 hy0 hf
      go_wp2_with (go_at_call 38; refine (toPoint_any _ _ _).mono ?_; rintro e w' ⟨rfl, hw'⟩; have hzy := ext_sz hw'; obtain ⟨y, rfl⟩ := hw'; (try simp at hzy))
      exact ⟨⟨k + 1, by omega, by go_num, ⟨_, ((hrow.ext y).set (by omega) _).set (by omega) _, two_set HF.out⟩, (by (repeat' (first | (with_reducible first | exact Below.refl _ _ | assumption | refine below_ext _ ?_ ?_ | refine Below.alloc ?_ ?_ _ | refine Below.drew ?_ | refine below_drewN ?_ _ | refine le_drewN _ ?_ | refine Below.setCell ?_ ?_ _ | exact Nat.le_refl _ | refine le_ext _ ?_ | refine le_alloc _ ?_ | refine le_setCell _ _ ?_ | refine le_drew ?_) | omega | (simp; done) | (simp; omega))))⟩, by simp [intOf]; omega⟩
    · have : k = n := by omega
      subst this
      go_wp2
      go_ret
      exact ⟨w.heap.size, rfl, Nat.le_refl _, hrow.congr hf, ext_mk hb⟩
theorem pts_eq {ps qs : List Pt} (h : ps.length = qs.length) (hi : ∀ i, i < ps.length → pX ps i = pX qs i ∧ pY ps i = pY qs i) : ps = qs := by
  refine List.ext_getElem h fun i h1 h2 => ?_
  rw [← gp_lt h1, ← gp_lt h2, gp_mk, gp_mk, (hi i h1).1, (hi i h1).2]
set_option maxHeartbeats 400000 in
theorem eqPointS_any (ps qs : List Pt) (A A' : Option Addr) (n c n' c' : Nat) (w : World) (hn : ps.length = n) (hn' : qs.length = n') (hm : n ≤ 2000000) (hm' : n' ≤ 2000000) (hs : PtsAt w w.heap.size A ps) (hs' : PtsAt w w.heap.size A' qs) :
    Calls Tryd.prog 18 #[.slice A n c, .slice A' n' c'] w fun e w' => e = .returned (.bool (decide (ps = qs))) ∧ ∃ m, w' = ext w m := by
  by_cases hnn : n = n'
  · subst hnn
    go_enter Tryd.func18, Tryd.ntmps18
    go_wp2
    go_loopw [5] (fun v wr => ∃ k : Nat, k ≤ n ∧ v = .int .i64 k ∧ Hid (∀ j, j < k → pX ps j = pX qs j ∧ pY ps j = pY qs j) ∧ ∃ x, wr = ext w x) (fun v _ => n - (intOf v).toNat)
    case atStart => exact ⟨0, Nat.zero_le _, rfl, fun j hj => by omega, ext_same w⟩
    case round =>
      obtain ⟨k, hk, rfl, hp, x, rfl⟩ := hrel
      by_cases hlt : k < n
      · obtain ⟨b, o, rfl, hb, hc⟩ := hs (by omega)
        obtain ⟨hx, hy⟩ := hc k (by omega)
        obtain ⟨b', o', rfl, hb', hc'⟩ := hs' (by omega)
        obtain ⟨hx', hy'⟩ := hc' k (by omega)
        have hsz := ext_size w x
        clear hc hc'
        go_wp2
        refine wp_region_ext (by kernel_rfl) (by kernel_rfl) ?_
        repeat (go_big_quiet_step ((first | (go_at_call 42; exact Calls.in_ext (eqPoint_any _ _ _ _ _)))))
        refine wpQuiet_nil ?_
        rintro _ hnq
        have hzq := ext_sz hnq
        obtain ⟨nq, rfl⟩ := hnq
        (try simp at hzq)
        go_wp2
        case roundEnd =>
          have ht : (!eqP (pX ps k) (pY ps k) (pX qs k) (pY qs k)) = false := by assumption
          exact ⟨⟨k + 1, by omega, by go_num, fun j hj => by rcases Nat.lt_succ_iff_lt_or_eq.1 hj with h | rfl; exact hp.out j h; exact eqP_iff.1 (by simpa using ht), (ext_mk (by (repeat' (first | (with_reducible first | exact Below.refl _ _ | assumption | refine below_ext _ ?_ ?_ | refine Below.alloc ?_ ?_ _ | refine Below.drew ?_ | refine below_drewN ?_ _ | refine le_drewN _ ?_ | refine Below.setCell ?_ ?_ _ | exact Nat.le_refl _ | refine le_ext _ ?_ | refine le_alloc _ ?_ | refine le_setCell _ _ ?_ | refine le_drew ?_) | omega | (simp; done) | (simp; omega)))))⟩, by simp [intOf]; omega⟩
        have ht : (!eqP (pX ps k) (pY ps k) (pX qs k) (pY qs k)) = true := by assumption
        go_ret
        exact ⟨ret_bool (decide_eq_false (fun h => by subst h; rw [eqP_iff.2 ⟨rfl, rfl⟩] at ht; cases ht)).symm, (ext_mk (by (repeat' (first | (with_reducible first | exact Below.refl _ _ | assumption | refine below_ext _ ?_ ?_ | refine Below.alloc ?_ ?_ _ | refine Below.drew ?_ | refine below_drewN ?_ _ | refine le_drewN _ ?_ | refine Below.setCell ?_ ?_ _ | exact Nat.le_refl _ | refine le_ext _ ?_ | refine le_alloc _ ?_ | refine le_setCell _ _ ?_ | refine le_drew ?_) | omega | (simp; done) | (simp; omega)))))⟩
      · have : k = n := by omega
        subst this
        go_wp2
        go_ret
        exact ⟨ret_bool (decide_eq_true (pts_eq (by omega) (fun i hi => hp.out i (by omega)))).symm, (ext_mk (by (repeat' (first | (with_reducible first | exact Below.refl _ _ | assumption | refine below_ext _ ?_ ?_ | refine Below.alloc ?_ ?_ _ | refine Below.drew ?_ | refine below_drewN ?_ _ | refine le_drewN _ ?_ | refine Below.setCell ?_ ?_ _ | exact Nat.le_refl _ | refine le_ext _ ?_ | refine le_alloc _ ?_ | refine le_setCell _ _ ?_ | refine le_drew ?_) | omega | (simp; done) | (simp; omega)))))⟩
  · have hne : ((n : Int) != n') = true := by rw [bne_iff_ne]; omega
    go_enter Tryd.func18, Tryd.ntmps18
    go_wp2
    go_ret
    exact ⟨ret_bool (decide_eq_false (fun h => hnn (by rw [← hn, ← hn', h]))).symm, (ext_mk (by (repeat' (first | (with_reducible first | exact Below.refl _ _ | assumption | refine below_ext _ ?_ ?_ | refine Below.alloc ?_ ?_ _ | refine Below.drew ?_ | refine below_drewN ?_ _ | refine le_drewN _ ?_ | refine Below.setCell ?_ ?_ _ | exact Nat.le_refl _ | refine le_ext _ ?_ | refine le_alloc _ ?_ | refine le_setCell _ _ ?_ | refine le_drew ?_) | omega | (simp; done) | (simp; omega)))))⟩
set_option maxHeartbeats 400000 in
theorem szPointS_yes (A : Option Addr) (n c : Nat) (left : Int) (w : World) (h0 : 0 ≤ left) (h1 : left ≤ 1048576) (hm : n ≤ 9223372036854775807) (h : n ≤ left) :
    Calls Tryd.prog 14 #[.slice A n c, .int .i64 left] w fun e w' => e = .returned (.int .i64 (left - n)) ∧ w = w' := by
  go_enter Tryd.func14, Tryd.ntmps14
  go_wp2
  go_ret
  exact ⟨rfl, rfl⟩
set_option maxHeartbeats 400000 in
theorem szPointS_no (A : Option Addr) (n c : Nat) (left : Int) (w : World) (h0 : 0 ≤ left) (h1 : left ≤ 1048576) (hm : n ≤ 9223372036854775807) (h : ¬ n ≤ left) :
    Calls Tryd.prog 14 #[.slice A n c, .int .i64 left] w fun e w' => e = .returned (.int .i64 (-1)) ∧ w = w' := by
  go_enter Tryd.func14, Tryd.ntmps14
  go_wp2
  go_ret
  exact ⟨rfl, rfl⟩
theorem ints_eq {zs ys : List Int} (h : zs.length = ys.length) (hi : ∀ i, i < zs.length → gi zs i = gi ys i) : zs = ys := by
  refine List.ext_getElem h fun i h1 h2 => ?_
  rw [← gi_lt h1, ← gi_lt h2, hi i h1]
theorem one_set {f : Nat → Value} {zs : List Int} {k : Nat} (h : ∀ j, j < k → f j = intCell zs j) (j : Nat) (hj : j < k + 1) :
    (if j = k then Value.int .i64 (gi zs k) else f j) = intCell zs j := by
  by_cases h2 : j = k
  · rw [if_pos h2, h2]; rfl
  · rw [if_neg h2]; exact h j (by omega)
end Go.Proofs.YtlggmjofglmjcaaDoor