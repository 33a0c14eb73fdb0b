
/- Paths: pathOk of the program, validPath of the reference. -/
import Derived.Test.YtgeilljbmjajnaaHelp
import Derived.Test.YtgeilljbmjajnaaSupp
set_option linter.unusedVariables false
set_option linter.unusedSimpArgs false
namespace Go.Proofs.Ytgeilljbmjajnaa
open Go.RowKit

def repAt (ps : List Pt) (i : Nat) : Bool := eqP (pX ps i) (pY ps i) (pX ps (i - 1)) (pY ps (i - 1))
def noRep (ps : List Pt) : Bool := decide (∀ i, i < ps.length → 1 ≤ i → repAt ps i = false)
def pathOk (ps : List Pt) : Bool := noRep ps && (listOk ps && decide (1 < ps.length))
theorem noRep_no {ps : List Pt} {i : Nat} (hi : i < ps.length) (h1 : 1 ≤ i) (hx : pX ps i = pX ps (i - 1)) (hy : pY ps i = pY ps (i - 1)) : pathOk ps = false := by
  have : noRep ps = false := decide_eq_false (fun h => by have := h i hi h1; rw [repAt, eqP_iff.2 ⟨hx, hy⟩] at this; cases this)
  unfold pathOk; rw [this]; rfl
theorem noRep_yes {ps : List Pt} (h : ∀ i, i < ps.length → 1 ≤ i → repAt ps i = false) : noRep ps = true := decide_eq_true h
theorem rep_x {ps : List Pt} {i : Nat} (h : ¬ pX ps i = pX ps (i - 1)) : repAt ps i = false := by
  rw [← Bool.not_eq_true, repAt, eqP_iff]; exact fun e => h e.1
theorem rep_y {ps : List Pt} {i : Nat} (h : ¬ pY ps i = pY ps (i - 1)) : repAt ps i = false := by
  rw [← Bool.not_eq_true, repAt, eqP_iff]; exact fun e => h e.2
theorem pathOk_list {ps : List Pt} (h : pathOk ps = true) : listOk ps = true := by simp [pathOk] at h; exact h.2.1
theorem pathOk_len {ps : List Pt} (h : pathOk ps = true) : 1 < ps.length := by simp [pathOk] at h; exact h.2.2
theorem pathOk_rep {ps : List Pt} (h : pathOk ps = true) {i : Nat} (hi : i < ps.length) (h1 : 1 ≤ i) : repAt ps i = false := by
  simp [pathOk, noRep] at h; exact h.1 i hi h1

set_option maxHeartbeats 400000 in
theorem pathOk_any (ps : List Pt) (A : Option Addr) (n c : Nat) (w : World) (hn : ps.length = n) (hm : n ≤ 2000000) (hs : PtsAt w w.heap.size A ps) :
    Calls Try.prog 37 #[.slice A n c] w fun e w' => e = .returned (.bool (pathOk ps)) ∧ ∃ m, w' = ext w m := by
  go_enter Try.func37, Try.ntmps37
  go_wp2
  go_loopw [3] (fun v wr => ∃ k : Nat, 1 ≤ k ∧ (k ≤ n ∨ k = 1) ∧ v = .int .i64 k ∧ Hid (∀ j, j < k → 1 ≤ j → repAt ps j = false) ∧ ∃ x, wr = ext w x) (fun v _ => n - (intOf v).toNat)
  case atStart => exact ⟨1, Nat.le_refl _, .inr rfl, rfl, fun j hj h1 => by omega, ext_same w⟩
  case round =>
    obtain ⟨k, hk1, hk, rfl, hp, x, rfl⟩ := hrel
    by_cases hlt : k < n
    · obtain ⟨b, o, rfl, hb, hc⟩ := hs (by omega)
      obtain ⟨x1, y1⟩ := hc k (by omega)
      obtain ⟨x2, y2⟩ := hc (k - 1) (by omega)
      have hsz := ext_size w x
      have hw1 : IntKind.i64.wrap ((k : Int) - 1) = (k : Int) - 1 := IntWalk.i64_in _ (by omega)
      have ht1 : ((k : Int) - 1).toNat = k - 1 := by omega
      clear hc
      by_cases hx : pX ps k = pX ps (k - 1)
      · by_cases hy : pY ps k = pY ps (k - 1)
        · have HR := hide (noRep_no (by omega) hk1 hx hy)
          go_wp2
          refine wp_region_ext (by kernel_rfl) (by kernel_rfl) ?_
          repeat (go_big_quiet_step (fail))
          refine wpQuiet_nil ?_
          rintro _ hnq
          have hzq := ext_sz hnq
          obtain ⟨nq, rfl⟩ := hnq
          (try simp at hzq)
          go_wp2
          go_ret
          exact ⟨ret_bool HR.out.symm, (ext_mk (by (repeat' (first | (with_reducible exact Below.refl _ _) | (with_reducible assumption) | (with_reducible refine below_ext _ ?_ ?_) | (with_reducible refine Below.alloc ?_ ?_ _) | (with_reducible refine Below.drew ?_) | (with_reducible refine below_drewN ?_ _) | (with_reducible refine le_drewN _ ?_) | (with_reducible refine Below.setCell ?_ ?_ _) | (with_reducible exact Nat.le_refl _) | (with_reducible refine le_ext _ ?_) | (with_reducible refine le_alloc _ ?_) | (with_reducible refine le_setCell _ _ ?_) | (with_reducible refine le_drew ?_) | omega | (simp; done) | (simp; omega)))))⟩
        · have HR := hide (rep_y hy)
          go_wp2
          refine wp_region_ext (by kernel_rfl) (by kernel_rfl) ?_
          repeat (go_big_quiet_step (fail))
          refine wpQuiet_nil ?_
          rintro _ hnq
          have hzq := ext_sz hnq
          obtain ⟨nq, rfl⟩ := hnq
          (try simp at hzq)
          go_wp2
          exact ⟨⟨k + 1, by omega, by omega, by go_num, fun j hj h1 => by rcases Nat.lt_succ_iff_lt_or_eq.1 hj with h | rfl; exact hp.out j h h1; exact HR.out, (ext_mk (by (repeat' (first | (with_reducible exact Below.refl _ _) | (with_reducible assumption) | (with_reducible refine below_ext _ ?_ ?_) | (with_reducible refine Below.alloc ?_ ?_ _) | (with_reducible refine Below.drew ?_) | (with_reducible refine below_drewN ?_ _) | (with_reducible refine le_drewN _ ?_) | (with_reducible refine Below.setCell ?_ ?_ _) | (with_reducible exact Nat.le_refl _) | (with_reducible refine le_ext _ ?_) | (with_reducible refine le_alloc _ ?_) | (with_reducible refine le_setCell _ _ ?_) | (with_reducible refine le_drew ?_) | omega | (simp; done) | (simp; omega)))))⟩, by simp [intOf]; omega⟩
      · have HR := hide (rep_x hx)
        go_wp2
        refine wp_region_ext (by kernel_rfl) (by kernel_rfl) ?_
        repeat (go_big_quiet_step (fail))
        refine wpQuiet_nil ?_
        rintro _ hnq
        have hzq := ext_sz hnq
        obtain ⟨nq, rfl⟩ := hnq
        (try simp at hzq)
        go_wp2
        exact ⟨⟨k + 1, by omega, by omega, by go_num, fun j hj h1 => by rcases Nat.lt_succ_iff_lt_or_eq.1 hj with h | rfl; exact hp.out j h h1; exact HR.out, (ext_mk (by (repeat' (first | (with_reducible exact Below.refl _ _) | (with_reducible assumption) | (with_reducible refine below_ext _ ?_ ?_) | (with_reducible refine Below.alloc ?_ ?_ _) | (with_reducible refine Below.drew ?_) | (with_reducible refine below_drewN ?_ _) | (with_reducible refine le_drewN _ ?_) | (with_reducible refine Below.setCell ?_ ?_ _) | (with_reducible exact Nat.le_refl _) | (with_reducible refine le_ext _ ?_) | (with_reducible refine le_alloc _ ?_) | (with_reducible refine le_setCell _ _ ?_) | (with_reducible refine le_drew ?_) | omega | (simp; done) | (simp; omega)))))⟩, by simp [intOf]; omega⟩
    · have HR : Hid (pathOk ps = (listOk ps && decide (1 < n))) := by unfold Hid pathOk; rw [noRep_yes (fun i hi h1 => hp.out i (by omega) h1), hn]; rfl
      have h3 : decide ((1 : Int) < (n : Int)) = decide (1 < n) := by rw [Bool.eq_iff_iff]; simp; omega
      have HD := hide h3
      clear h3
      cases hl : listOk ps
      all_goals
        rw [hl] at HR
        go_wp2_with (go_at_call 57; refine (listOk_any ps _ _ _ _ hn hm (hs.to (by (repeat' (first | (with_reducible exact Below.refl _ _) | (with_reducible assumption) | (with_reducible refine below_ext _ ?_ ?_) | (with_reducible refine Below.alloc ?_ ?_ _) | (with_reducible refine Below.drew ?_) | (with_reducible refine below_drewN ?_ _) | (with_reducible refine le_drewN _ ?_) | (with_reducible refine Below.setCell ?_ ?_ _) | (with_reducible exact Nat.le_refl _) | (with_reducible refine le_ext _ ?_) | (with_reducible refine le_alloc _ ?_) | (with_reducible refine le_setCell _ _ ?_) | (with_reducible refine le_drew ?_) | omega | (simp; done) | (simp; omega)))))).mono ?_; rintro e w' ⟨rfl, hw'⟩; have hzy := ext_sz hw'; obtain ⟨y, rfl⟩ := hw'; (try simp at hzy))
        go_ret
        exact ⟨ret_bool (by rw [HR.out]; first | rfl | (rw [← HD.out]; rfl)), (ext_mk (by (repeat' (first | (with_reducible exact Below.refl _ _) | (with_reducible assumption) | (with_reducible refine below_ext _ ?_ ?_) | (with_reducible refine Below.alloc ?_ ?_ _) | (with_reducible refine Below.drew ?_) | (with_reducible refine below_drewN ?_ _) | (with_reducible refine le_drewN _ ?_) | (with_reducible refine Below.setCell ?_ ?_ _) | (with_reducible exact Nat.le_refl _) | (with_reducible refine le_ext _ ?_) | (with_reducible refine le_alloc _ ?_) | (with_reducible refine le_setCell _ _ ?_) | (with_reducible refine le_drew ?_) | omega | (simp; done) | (simp; omega)))))⟩
set_option maxHeartbeats 400000 in
theorem validPath_any (ps : List Pt) (A : Option Addr) (n c : Nat) (w : World) (hn : ps.length = n) (hm : n ≤ 2000000) (hs : PtsAt w w.heap.size A ps) :
    Calls Try.prog 34 #[.slice A n c] w fun e w' => e = .returned (.bool (pathOk ps)) ∧ ∃ m, w' = ext w m := by
  go_enter Try.func34, Try.ntmps34
  go_wp2
  go_loopw [3] (fun v wr => ∃ k : Nat, 1 ≤ k ∧ (k ≤ n ∨ k = 1) ∧ v = .int .i64 k ∧ Hid (∀ j, j < k → 1 ≤ j → repAt ps j = false) ∧ ∃ x, wr = ext w x) (fun v _ => n - (intOf v).toNat)
  case atStart => exact ⟨1, Nat.le_refl _, .inr rfl, rfl, fun j hj h1 => by omega, ext_same w⟩
  case round =>
    obtain ⟨k, hk1, hk, rfl, hp, x, rfl⟩ := hrel
    by_cases hlt : k < n
    · obtain ⟨b, o, rfl, hb, hc⟩ := hs (by omega)
      obtain ⟨x1, y1⟩ := hc k (by omega)
      obtain ⟨x2, y2⟩ := hc (k - 1) (by omega)
      have hsz := ext_size w x
      have hw1 : IntKind.i64.wrap ((k : Int) - 1) = (k : Int) - 1 := IntWalk.i64_in _ (by omega)
      have ht1 : ((k : Int) - 1).toNat = k - 1 := by omega
      clear hc
      by_cases hx : pX ps k = pX ps (k - 1)
      · by_cases hy : pY ps k = pY ps (k - 1)
        · have HR := hide (noRep_no (by omega) hk1 hx hy)
          go_wp2
          refine wp_region_ext (by kernel_rfl) (by kernel_rfl) ?_
          repeat (go_big_quiet_step (fail))
          refine wpQuiet_nil ?_
          rintro _ hnq
          have hzq := ext_sz hnq
          obtain ⟨nq, rfl⟩ := hnq
          (try simp at hzq)
          go_wp2
          go_ret
          exact ⟨ret_bool HR.out.symm, (ext_mk (by (repeat' (first | (with_reducible exact Below.refl _ _) | (with_reducible assumption) | (with_reducible refine below_ext _ ?_ ?_) | (with_reducible refine Below.alloc ?_ ?_ _) | (with_reducible refine Below.drew ?_) | (with_reducible refine below_drewN ?_ _) | (with_reducible refine le_drewN _ ?_) | (with_reducible refine Below.setCell ?_ ?_ _) | (with_reducible exact Nat.le_refl _) | (with_reducible refine le_ext _ ?_) | (with_reducible refine le_alloc _ ?_) | (with_reducible refine le_setCell _ _ ?_) | (with_reducible refine le_drew ?_) | omega | (simp; done) | (simp; omega)))))⟩
        · have HR := hide (rep_y hy)
          go_wp2
          refine wp_region_ext (by kernel_rfl) (by kernel_rfl) ?_
          repeat (go_big_quiet_step (fail))
          refine wpQuiet_nil ?_
          rintro _ hnq
          have hzq := ext_sz hnq
          obtain ⟨nq, rfl⟩ := hnq
          (try simp at hzq)
          go_wp2
          exact ⟨⟨k + 1, by omega, by omega, by go_num, fun j hj h1 => by rcases Nat.lt_succ_iff_lt_or_eq.1 hj with h | rfl; exact hp.out j h h1; exact HR.out, (ext_mk (by (repeat' (first | (with_reducible exact Below.refl _ _) | (with_reducible assumption) | (with_reducible refine below_ext _ ?_ ?_) | (with_reducible refine Below.alloc ?_ ?_ _) | (with_reducible refine Below.drew ?_) | (with_reducible refine below_drewN ?_ _) | (with_reducible refine le_drewN _ ?_) | (with_reducible refine Below.setCell ?_ ?_ _) | (with_reducible exact Nat.le_refl _) | (with_reducible refine le_ext _ ?_) | (with_reducible refine le_alloc _ ?_) | (with_reducible refine le_setCell _ _ ?_) | (with_reducible refine le_drew ?_) | omega | (simp; done) | (simp; omega)))))⟩, by simp [intOf]; omega⟩
      · have HR := hide (rep_x hx)
        go_wp2
        refine wp_region_ext (by kernel_rfl) (by kernel_rfl) ?_
        repeat (go_big_quiet_step (fail))
        refine wpQuiet_nil ?_
        rintro _ hnq
        have hzq := ext_sz hnq
        obtain ⟨nq, rfl⟩ := hnq
        (try simp at hzq)
        go_wp2
        exact ⟨⟨k + 1, by omega, by omega, by go_num, fun j hj h1 => by rcases Nat.lt_succ_iff_lt_or_eq.1 hj with h | rfl; exact hp.out j h h1; exact HR.out, (ext_mk (by (repeat' (first | (with_reducible exact Below.refl _ _) | (with_reducible assumption) | (with_reducible refine below_ext _ ?_ ?_) | (with_reducible refine Below.alloc ?_ ?_ _) | (with_reducible refine Below.drew ?_) | (with_reducible refine below_drewN ?_ _) | (with_reducible refine le_drewN _ ?_) | (with_reducible refine Below.setCell ?_ ?_ _) | (with_reducible exact Nat.le_refl _) | (with_reducible refine le_ext _ ?_) | (with_reducible refine le_alloc _ ?_) | (with_reducible refine le_setCell _ _ ?_) | (with_reducible refine le_drew ?_) | omega | (simp; done) | (simp; omega)))))⟩, by simp [intOf]; omega⟩
    · have HR : Hid (pathOk ps = (listOk ps && decide (1 < n))) := by unfold Hid pathOk; rw [noRep_yes (fun i hi h1 => hp.out i (by omega) h1), hn]; rfl
      have h3 : decide ((1 : Int) < (n : Int)) = decide (1 < n) := by rw [Bool.eq_iff_iff]; simp; omega
      have HD := hide h3
      clear h3
      cases hl : listOk ps
      all_goals
        rw [hl] at HR
        go_wp2_with (go_at_call 54; refine (validPoints_any ps _ _ _ _ hn hm (hs.to (by (repeat' (first | (with_reducible exact Below.refl _ _) | (with_reducible assumption) | (with_reducible refine below_ext _ ?_ ?_) | (with_reducible refine Below.alloc ?_ ?_ _) | (with_reducible refine Below.drew ?_) | (with_reducible refine below_drewN ?_ _) | (with_reducible refine le_drewN _ ?_) | (with_reducible refine Below.setCell ?_ ?_ _) | (with_reducible exact Nat.le_refl _) | (with_reducible refine le_ext _ ?_) | (with_reducible refine le_alloc _ ?_) | (with_reducible refine le_setCell _ _ ?_) | (with_reducible refine le_drew ?_) | omega | (simp; done) | (simp; omega)))))).mono ?_; rintro e w' ⟨rfl, hw'⟩; have hzy := ext_sz hw'; obtain ⟨y, rfl⟩ := hw'; (try simp at hzy))
        go_ret
        exact ⟨ret_bool (by rw [HR.out]; first | rfl | (rw [← HD.out]; rfl)), (ext_mk (by (repeat' (first | (with_reducible exact Below.refl _ _) | (with_reducible assumption) | (with_reducible refine below_ext _ ?_ ?_) | (with_reducible refine Below.alloc ?_ ?_ _) | (with_reducible refine Below.drew ?_) | (with_reducible refine below_drewN ?_ _) | (with_reducible refine le_drewN _ ?_) | (with_reducible refine Below.setCell ?_ ?_ _) | (with_reducible exact Nat.le_refl _) | (with_reducible refine le_ext _ ?_) | (with_reducible refine le_alloc _ ?_) | (with_reducible refine le_setCell _ _ ?_) | (with_reducible refine le_drew ?_) | omega | (simp; done) | (simp; omega)))))⟩
end Go.Proofs.Ytgeilljbmjajnaa
