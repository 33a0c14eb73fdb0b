
/- The helpers of the laws that mark pairs and look for the marks (printed off XSorted and XMarkP by tools/genpair.py). -/
import Derived.Test.YtdneaakpdibkmaaHelp
import Derived.Test.YtdneaakpdibkmaaMarkP
import Derived.Test.YtdneaakpdibkmaaPairs
set_option linter.unusedVariables false
set_option linter.unusedSimpArgs false
namespace Go.Proofs.Ytdneaakpdibkmaa
open Go.RowKit
/-- The slice at A is a row of points of the call's own, at block base or later; its block may be longer. -/
def RRow (w : World) (base : Nat) (A : Option Addr) (ps : List Pt) : Prop :=
  0 < ps.length → ∃ g m f, A = some ⟨g, 0, none⟩ ∧ base ≤ g ∧ ps.length * 2 ≤ m ∧ RowAt w g 51 m f ∧ ∀ j, j < ps.length * 2 → f j = ptCell ps j
theorem RRow.nil (w : World) (base : Nat) (A : Option Addr) : RRow w base A [] := fun h => absurd h (Nat.lt_irrefl 0)
theorem RRow.below {w W : World} {base : Nat} {A : Option Addr} {ps : List Pt} (h : RRow w base A ps) (hb : Below w.heap.size w W) : RRow W base A ps := fun h0 => by
  obtain ⟨g, m, f, hA, hg, hm, hr, hf⟩ := h h0
  exact ⟨g, m, f, hA, hg, hm, hr.below hb hr.lt, hf⟩
theorem RRow.more {w : World} {base base' : Nat} {A : Option Addr} {ps : List Pt} (h : RRow w base A ps) (hb : base' ≤ base) : RRow w base' A ps := fun h0 => by
  obtain ⟨g, m, f, hA, hg, hm, hr, hf⟩ := h h0
  exact ⟨g, m, f, hA, Nat.le_trans hb hg, hm, hr, hf⟩
theorem RRow.pts {w : World} {base : Nat} {A : Option Addr} {ps : List Pt} (h : RRow w base A ps) : PtsAt w w.heap.size A ps := fun h0 => by
  obtain ⟨g, m, f, hA, hg, hm, hr, hf⟩ := h h0
  refine ⟨g, 0, hA, hr.lt, fun i hi => ?_⟩
  have h1 := hr.cell (j := i * 2) (by omega)
  have h2 := hr.cell (j := i * 2 + 1) (by omega)
  rw [hf _ (by omega), ptCell_even] at h1
  rw [hf _ (by omega), ptCell_odd] at h2
  rw [Nat.zero_add]
  exact ⟨h1, h2⟩
theorem OwnR.rrow {w : World} {base : Nat} {A : Option Addr} {n c : Nat} {ps : List Pt} (h : OwnR w base (.slice A n c) ps) : ps.length = n ∧ RRow w base A ps := by
  have hp := h.pts
  refine ⟨hp.1, fun h0 => ?_⟩
  have hh := h.head (by have := hp.1; omega)
  obtain ⟨gb, hA, hg, _, _, hcs⟩ := hh
  unfold OwnR at h
  rcases h.2 with ⟨hv, h1⟩ | ⟨g, cp, cur, hv, hg2, hgg, hnc, hcm, hsz, htk⟩
  · omega
  · injection hv with e1 e2 e3
    subst e1
    injection hA with hA
    injection hA with hA
    subst hA
    refine ⟨g, cur.size, fun j => cur.getD j undef, rfl, hg, by omega, ⟨cur, hgg, rfl, fun j hj => by simp [hj]⟩, fun j hj => ?_⟩
    obtain ⟨c1, c2⟩ := hcs (j / 2) (by have := hp.1; omega)
    rw [heap_cell hgg] at c1 c2
    show cur.getD j undef = _
    unfold ptCell
    rcases Nat.mod_two_eq_zero_or_one j with hm | hm
    · rw [if_pos hm]
      rw [show j / 2 * 2 = j from by omega] at c1
      rw [Array.getD_eq_getD_getElem?, c1]; rfl
    · rw [if_neg (by omega)]
      rw [show j / 2 * 2 + 1 = j from by omega] at c2
      rw [Array.getD_eq_getD_getElem?, c2]; rfl
set_option maxHeartbeats 400000 in
theorem eqPair_any (a b c d : Int) (w : World) : Calls Try.prog 71 #[.agg #[.int .i64 a, .int .i64 b], .agg #[.int .i64 c, .int .i64 d]] w fun e w' => e = .returned (.bool (eqP a b c d)) ∧ ∃ n, w' = ext w n := by
  by_cases h1 : a = c <;> (by_cases h2 : b = d)
  all_goals
    go_enter Try.func71, Try.ntmps71
    go_wp2
    go_ret
    exact ⟨ret_bool (by simp [eqP, h1, h2]), (ext_mk (by (repeat' (first | (with_reducible exact Below.refl _ _) | (with_reducible assumption) | (with_reducible refine below_ext _ ?_ ?_) | (with_reducible refine Below.alloc ?_ ?_ _) | (with_reducible refine Below.drew ?_) | (with_reducible refine below_drewN ?_ _) | (with_reducible refine le_drewN _ ?_) | (with_reducible refine Below.setCell ?_ ?_ _) | (with_reducible exact Nat.le_refl _) | (with_reducible refine le_ext _ ?_) | (with_reducible refine le_alloc _ ?_) | (with_reducible refine le_setCell _ _ ?_) | (with_reducible refine le_drew ?_) | omega | (simp; done) | (simp; omega)))))⟩
set_option maxHeartbeats 400000 in
theorem eqPairS_any (ps qs : List Pt) (A A' : Option Addr) (n c n' c' : Nat) (w : World) (hn : ps.length = n) (hn' : qs.length = n') (hm : n ≤ 2000000) (hm' : n' ≤ 2000000) (hs : PtsAt w w.heap.size A ps) (hs' : PtsAt w w.heap.size A' qs) :
    Calls Try.prog 32 #[.slice A n c, .slice A' n' c'] w fun e w' => e = .returned (.bool (decide (ps = qs))) ∧ ∃ m, w' = ext w m := by
  by_cases hnn : n = n'
  · subst hnn
    go_enter Try.func32, Try.ntmps32
    go_wp2
    go_loopw [5] (fun v wr => ∃ k : Nat, k ≤ n ∧ v = .int .i64 k ∧ Hid (∀ j, j < k → pX ps j = pX qs j ∧ pY ps j = pY qs j) ∧ ∃ x, wr = ext w x) (fun v _ => n - (intOf v).toNat)
    case atStart => exact ⟨0, Nat.zero_le _, rfl, fun j hj => by omega, ext_same w⟩
    case round =>
      obtain ⟨k, hk, rfl, hp, x, rfl⟩ := hrel
      by_cases hlt : k < n
      · obtain ⟨b, o, rfl, hb, hc⟩ := hs (by omega)
        obtain ⟨hx, hy⟩ := hc k (by omega)
        obtain ⟨b', o', rfl, hb', hc'⟩ := hs' (by omega)
        obtain ⟨hx', hy'⟩ := hc' k (by omega)
        have hsz := ext_size w x
        clear hc hc'
        go_wp2
        refine wp_region_ext (by kernel_rfl) (by kernel_rfl) ?_
        repeat (go_big_quiet_step ((first | (go_at_call 71; exact Calls.in_ext (eqPair_any _ _ _ _ _)))))
        refine wpQuiet_nil ?_
        rintro _ hnq
        have hzq := ext_sz hnq
        obtain ⟨nq, rfl⟩ := hnq
        (try simp at hzq)
        go_wp2
        case roundEnd =>
          have ht : (!eqP (pX ps k) (pY ps k) (pX qs k) (pY qs k)) = false := by assumption
          exact ⟨⟨k + 1, by omega, by go_num, fun j hj => by rcases Nat.lt_succ_iff_lt_or_eq.1 hj with h | rfl; exact hp.out j h; exact eqP_iff.1 (by simpa using ht), (ext_mk (by (repeat' (first | (with_reducible exact Below.refl _ _) | (with_reducible assumption) | (with_reducible refine below_ext _ ?_ ?_) | (with_reducible refine Below.alloc ?_ ?_ _) | (with_reducible refine Below.drew ?_) | (with_reducible refine below_drewN ?_ _) | (with_reducible refine le_drewN _ ?_) | (with_reducible refine Below.setCell ?_ ?_ _) | (with_reducible exact Nat.le_refl _) | (with_reducible refine le_ext _ ?_) | (with_reducible refine le_alloc _ ?_) | (with_reducible refine le_setCell _ _ ?_) | (with_reducible refine le_drew ?_) | omega | (simp; done) | (simp; omega)))))⟩, by simp [intOf]; omega⟩
        have ht : (!eqP (pX ps k) (pY ps k) (pX qs k) (pY qs k)) = true := by assumption
        go_ret
        exact ⟨ret_bool (decide_eq_false (fun h => by subst h; rw [eqP_iff.2 ⟨rfl, rfl⟩] at ht; cases ht)).symm, (ext_mk (by (repeat' (first | (with_reducible exact Below.refl _ _) | (with_reducible assumption) | (with_reducible refine below_ext _ ?_ ?_) | (with_reducible refine Below.alloc ?_ ?_ _) | (with_reducible refine Below.drew ?_) | (with_reducible refine below_drewN ?_ _) | (with_reducible refine le_drewN _ ?_) | (with_reducible refine Below.setCell ?_ ?_ _) | (with_reducible exact Nat.le_refl _) | (with_reducible refine le_ext _ ?_) | (with_reducible refine le_alloc _ ?_) | (with_reducible refine le_setCell _ _ ?_) | (with_reducible refine le_drew ?_) | omega | (simp; done) | (simp; omega)))))⟩
      · have : k = n := by omega
        subst this
        go_wp2
        go_ret
        exact ⟨ret_bool (decide_eq_true (pts_eq (by omega) (fun i hi => hp.out i (by omega)))).symm, (ext_mk (by (repeat' (first | (with_reducible exact Below.refl _ _) | (with_reducible assumption) | (with_reducible refine below_ext _ ?_ ?_) | (with_reducible refine Below.alloc ?_ ?_ _) | (with_reducible refine Below.drew ?_) | (with_reducible refine below_drewN ?_ _) | (with_reducible refine le_drewN _ ?_) | (with_reducible refine Below.setCell ?_ ?_ _) | (with_reducible exact Nat.le_refl _) | (with_reducible refine le_ext _ ?_) | (with_reducible refine le_alloc _ ?_) | (with_reducible refine le_setCell _ _ ?_) | (with_reducible refine le_drew ?_) | omega | (simp; done) | (simp; omega)))))⟩
  · have hne : ((n : Int) != n') = true := by rw [bne_iff_ne]; omega
    go_enter Try.func32, Try.ntmps32
    go_wp2
    go_ret
    exact ⟨ret_bool (decide_eq_false (fun h => hnn (by rw [← hn, ← hn', h]))).symm, (ext_mk (by (repeat' (first | (with_reducible exact Below.refl _ _) | (with_reducible assumption) | (with_reducible refine below_ext _ ?_ ?_) | (with_reducible refine Below.alloc ?_ ?_ _) | (with_reducible refine Below.drew ?_) | (with_reducible refine below_drewN ?_ _) | (with_reducible refine le_drewN _ ?_) | (with_reducible refine Below.setCell ?_ ?_ _) | (with_reducible exact Nat.le_refl _) | (with_reducible refine le_ext _ ?_) | (with_reducible refine le_alloc _ ?_) | (with_reducible refine le_setCell _ _ ?_) | (with_reducible refine le_drew ?_) | omega | (simp; done) | (simp; omega)))))⟩
set_option maxHeartbeats 400000 in
theorem markPairS_row (k0 : Int) (g n c m : Nat) (f : Nat → Value) (w : World) (hk : 0 ≤ k0 ∧ k0 ≤ 1000000000000) (hm : n * 2 ≤ m) (hn : n ≤ 1000000000000) (hr : RowAt w g 51 m f) :
    Calls Try.prog 33 #[.slice (some ⟨g, 0, none⟩) n c, .int .i64 k0] w fun e w' => e = .returned (.int .i64 (k0 + (n * 2 : Nat))) ∧ But w w' g ∧ RowAt w' g 51 m (markCell k0 (n * 2) f) := by
  have HR := hide hr
  clear hr
  go_enter Try.func33, Try.ntmps33
  go_wp2
  go_loopw [1, 5] (fun u1 u5 wr => ∃ k : Nat, k ≤ n ∧ u1 = .int .i64 (k0 + (k * 2 : Nat)) ∧ u5 = .int .i64 k ∧ But w wr g ∧ ∃ f', RowAt wr g 51 m f' ∧ ∀ j, j < m → f' j = markCell k0 (k * 2) f j) (fun _ u5 _ => n - (intOf u5).toNat)
  case atStart => exact ⟨0, Nat.zero_le _, by simp, rfl, But.refl _ _, f, HR.out, fun j _ => mark_zero _ _ _⟩
  case round =>
    obtain ⟨k, hk2, rfl, rfl, hb, f', hrow, hf⟩ := hrel
    have HF := hide hf
    clear hf
    by_cases hlt : k < n
    · have c1 := hrow.cell (j := k * 2) (by omega)
      have f1 := hrow.frozen (k * 2)
      have c2 := hrow.cell (j := k * 2 + 1) (by omega)
      have f2 := hrow.frozen (k * 2 + 1)
      go_wp2
      refine ⟨⟨k + 1, by omega, by go_num, by go_num, (hb.set _ _).set _ _, _, (hrow.set (by omega) _).set (by omega) _, ?_⟩, by simp [intOf]; omega⟩
      have h1 := mark_one HF.out
      have h2 := mark_one h1
      intro j hj
      rw [show (k + 1) * 2 = k * 2 + 1 + 1 from by omega, ← h2 j hj]
      congr 2
      push_cast
      omega
    · have : k = n := by omega
      subst this
      go_wp2
      go_ret
      exact ⟨rfl, hb, hrow.congr HF.out⟩
set_option maxHeartbeats 400000 in
theorem markPairS_nil (k0 : Int) (A : Option Addr) (c : Nat) (w : World) (hk : 0 ≤ k0 ∧ k0 ≤ 1000000000000) :
    Calls Try.prog 33 #[.slice A 0 c, .int .i64 k0] w fun e w' => e = .returned (.int .i64 k0) ∧ w = w' := by
  go_enter Try.func33, Try.ntmps33
  go_wp2
  go_rounds 1
  go_ret
  exact ⟨rfl, rfl⟩
set_option maxHeartbeats 400000 in
theorem heldPairS_nil (k0 : Int) (A : Option Addr) (c : Nat) (w : World) (hk : 0 ≤ k0 ∧ k0 ≤ 1000000000000) :
    Calls Try.prog 34 #[.slice A 0 c, .int .i64 k0] w fun e w' => e = .returned (.int .i64 k0) ∧ w = w' := by
  go_enter Try.func34, Try.ntmps34
  go_wp2
  go_rounds 1
  go_ret
  exact ⟨rfl, rfl⟩
set_option maxHeartbeats 400000 in
theorem heldPairS_row (k0 : Int) (g n c m : Nat) (f : Nat → Value) (w : World) (hk : 0 ≤ k0 ∧ k0 ≤ 1000000000000) (hm : n * 2 ≤ m) (hn : n ≤ 1000000000000) (hr : RowAt w g 51 m (markCell k0 (n * 2) f)) :
    Calls Try.prog 34 #[.slice (some ⟨g, 0, none⟩) n c, .int .i64 k0] w fun e w' => e = .returned (.int .i64 (k0 + (n * 2 : Nat))) ∧ ∃ x, w' = ext w x := by
  have HR := hide hr
  clear hr
  go_enter Try.func34, Try.ntmps34
  go_wp2
  go_loopw [1, 5] (fun u1 u5 wr => ∃ k : Nat, k ≤ n ∧ u1 = .int .i64 (k0 + (k * 2 : Nat)) ∧ u5 = .int .i64 k ∧ ∃ x, wr = ext w x) (fun _ u5 _ => n - (intOf u5).toNat)
  case atStart => exact ⟨0, Nat.zero_le _, by simp, rfl, ext_same w⟩
  case round =>
    obtain ⟨k, hk2, rfl, rfl, x, rfl⟩ := hrel
    have hlg := HR.out.lt
    have hsz := ext_size w x
    by_cases hlt : k < n
    · have c1 : w.cell? ⟨g, k * 2, none⟩ = some (.int .i64 (k0 + (k * 2 : Nat))) := by
        rw [HR.out.cell (j := k * 2) (by omega)]; unfold markCell; rw [if_pos (by omega)]
      have c2 : w.cell? ⟨g, k * 2 + 1, none⟩ = some (.int .i64 (k0 + (k * 2 : Nat) + 1)) := by
        rw [HR.out.cell (j := k * 2 + 1) (by omega)]; unfold markCell; rw [if_pos (by omega)]; congr 2; omega
      go_wp2
      exact ⟨⟨k + 1, by omega, by go_num, by go_num, (ext_mk (by (repeat' (first | (with_reducible exact Below.refl _ _) | (with_reducible assumption) | (with_reducible refine below_ext _ ?_ ?_) | (with_reducible refine Below.alloc ?_ ?_ _) | (with_reducible refine Below.drew ?_) | (with_reducible refine below_drewN ?_ _) | (with_reducible refine le_drewN _ ?_) | (with_reducible refine Below.setCell ?_ ?_ _) | (with_reducible exact Nat.le_refl _) | (with_reducible refine le_ext _ ?_) | (with_reducible refine le_alloc _ ?_) | (with_reducible refine le_setCell _ _ ?_) | (with_reducible refine le_drew ?_) | omega | (simp; done) | (simp; omega)))))⟩, by simp [intOf]; omega⟩
    · have : k = n := by omega
      subst this
      go_wp2
      go_ret
      exact ⟨rfl, (ext_mk (by (repeat' (first | (with_reducible exact Below.refl _ _) | (with_reducible assumption) | (with_reducible refine below_ext _ ?_ ?_) | (with_reducible refine Below.alloc ?_ ?_ _) | (with_reducible refine Below.drew ?_) | (with_reducible refine below_drewN ?_ _) | (with_reducible refine le_drewN _ ?_) | (with_reducible refine Below.setCell ?_ ?_ _) | (with_reducible exact Nat.le_refl _) | (with_reducible refine le_ext _ ?_) | (with_reducible refine le_alloc _ ?_) | (with_reducible refine le_setCell _ _ ?_) | (with_reducible refine le_drew ?_) | omega | (simp; done) | (simp; omega)))))⟩
theorem RRow.but {w W : World} {base g : Nat} {A : Option Addr} {ps : List Pt} (h : RRow w base A ps) (hb : But w W g) (hg : g < base) : RRow W base A ps := fun h0 => by
  obtain ⟨g', m, f, hA, hg', hm, hr, hf⟩ := h h0
  exact ⟨g', m, f, hA, hg', hm, hr.but hb (by omega), hf⟩
/-- The first n points of the row at A have been marked from 1 on. -/
def MarkedR (w : World) (base : Nat) (A : Option Addr) (n : Nat) : Prop := 0 < n → ∃ g m f, A = some ⟨g, 0, none⟩ ∧ base ≤ g ∧ n * 2 ≤ m ∧ RowAt w g 51 m (markCell 1 (n * 2) f)
theorem MarkedR.below {w W : World} {base : Nat} {A : Option Addr} {n : Nat} (h : MarkedR w base A n) (hb : Below w.heap.size w W) : MarkedR W base A n := fun h0 => by
  obtain ⟨g', m, f, hA, hg', hm, hr⟩ := h h0
  exact ⟨g', m, f, hA, hg', hm, hr.below hb hr.lt⟩
theorem markPairS_any (A : Option Addr) (n c base : Nat) (ps : List Pt) (w : World) (hz : ps.length = n) (hn : n ≤ 1000000000000) (h : RRow w base A ps) :
    Calls Try.prog 33 #[.slice A n c, .int .i64 1] w fun e w' => e = .returned (.int .i64 (1 + (n * 2 : Nat))) ∧ Below base w w' ∧ w'.heap.size = w.heap.size ∧ MarkedR w' base A n := by
  by_cases h0 : n = 0
  · subst h0
    refine (markPairS_nil 1 A c w (by omega)).mono ?_
    rintro e w' ⟨rfl, rfl⟩
    exact ⟨rfl, Below.refl _ _, rfl, fun h => absurd h (Nat.lt_irrefl 0)⟩
  · obtain ⟨g, m, f, rfl, hg, hm, hr, hf⟩ := h (by omega)
    refine (markPairS_row 1 g n c m f w (by omega) (by omega) hn hr).mono ?_
    rintro e w' ⟨rfl, hb, hr'⟩
    exact ⟨rfl, hb.below hg, hb.size, fun _ => ⟨g, m, f, rfl, hg, by omega, hr'⟩⟩
theorem heldPairS_any (A : Option Addr) (n c base : Nat) (w : World) (hn : n ≤ 1000000000000) (h : MarkedR w base A n) :
    Calls Try.prog 34 #[.slice A n c, .int .i64 1] w fun e w' => e = .returned (.int .i64 (1 + (n * 2 : Nat))) ∧ ∃ x, w' = ext w x := by
  by_cases h0 : n = 0
  · subst h0
    refine (heldPairS_nil 1 A c w (by omega)).mono ?_
    rintro e w' ⟨rfl, rfl⟩
    exact ⟨rfl, ext_same _⟩
  · obtain ⟨g, m, f, rfl, hg, hm, hr⟩ := h (by omega)
    exact heldPairS_row 1 g n c m f w (by omega) hm hn hr
end Go.Proofs.Ytdneaakpdibkmaa
