
/- The helpers of the laws that mark points and look for the marks. -/
import Derived.Test.YtlggmjofglmjcaaDoorHelp
import Derived.Test.YtlggmjofglmjcaaDoorSorted
set_option linter.unusedVariables false
set_option linter.unusedSimpArgs false
namespace Go.Proofs.YtlggmjofglmjcaaDoor
open Go.RowKit

/-- The cells of a row whose first n have been marked from k on. -/
def markCell (k : Int) (n : Nat) (f : Nat → Value) (j : Nat) : Value := if j < n then .int .i64 (k + j) else f j
theorem mark_zero (k : Int) (f : Nat → Value) (j : Nat) : f j = markCell k 0 f j := by unfold markCell; rw [if_neg (by omega)]
theorem mark_one {k : Int} {i : Nat} {f f' : Nat → Value} {m : Nat} (h : ∀ j, j < m → f' j = markCell k i f j) (j : Nat) (hj : j < m) :
    (if j = i then Value.int .i64 (k + i) else f' j) = markCell k (i + 1) f j := by
  by_cases h1 : j = i
  · rw [if_pos h1]; unfold markCell; rw [if_pos (by omega), h1]
  · rw [if_neg h1, h j hj]
    unfold markCell
    by_cases h2 : j < i
    · rw [if_pos h2, if_pos (by omega)]
    · rw [if_neg h2, if_neg (by omega)]
set_option maxHeartbeats 400000 in
theorem markPointS_row (k0 : Int) (g n c m : Nat) (f : Nat → Value) (w : World) (hk : 0 ≤ k0 ∧ k0 ≤ 1000000000000) (hm : n * 2 ≤ m) (hn : n ≤ 1000000000000) (hr : RowAt w g 57 m f) :
    Calls Tryd.prog 28 #[.slice (some ⟨g, 0, none⟩) n c, .int .i64 k0] w fun e w' => e = .returned (.int .i64 (k0 + (n * 2 : Nat))) ∧ But w w' g ∧ RowAt w' g 57 m (markCell k0 (n * 2) f) := by
  have HR := hide hr
  clear hr
  go_enter Tryd.func28, Tryd.ntmps28
  go_wp2
  go_loopw [1, 5] (fun u1 u5 wr => ∃ k : Nat, k ≤ n ∧ u1 = .int .i64 (k0 + (k * 2 : Nat)) ∧ u5 = .int .i64 k ∧ But w wr g ∧ ∃ f', RowAt wr g 57 m f' ∧ ∀ j, j < m → f' j = markCell k0 (k * 2) f j) (fun _ u5 _ => n - (intOf u5).toNat)
  case atStart => exact ⟨0, Nat.zero_le _, by simp, rfl, But.refl _ _, f, HR.out, fun j _ => mark_zero _ _ _⟩
  case round =>
    obtain ⟨k, hk2, rfl, rfl, hb, f', hrow, hf⟩ := hrel
    have HF := hide hf
    clear hf
    by_cases hlt : k < n
    · have c1 := hrow.cell (j := k * 2) (by omega)
      have f1 := hrow.frozen (k * 2)
      have c2 := hrow.cell (j := k * 2 + 1) (by omega)
      have f2 := hrow.frozen (k * 2 + 1)
      go_wp2
      refine ⟨⟨k + 1, by omega, by go_num, by go_num, (hb.set _ _).set _ _, _, (hrow.set (by omega) _).set (by omega) _, ?_⟩, by simp [intOf]; omega⟩
      have h1 := mark_one HF.out
      have h2 := mark_one h1
      intro j hj
      rw [show (k + 1) * 2 = k * 2 + 1 + 1 from by omega, ← h2 j hj]
      congr 2
      push_cast
      omega
    · have : k = n := by omega
      subst this
      go_wp2
      go_ret
      exact ⟨rfl, hb, hrow.congr HF.out⟩
set_option maxHeartbeats 400000 in
theorem markPointS_nil (k0 : Int) (A : Option Addr) (c : Nat) (w : World) (hk : 0 ≤ k0 ∧ k0 ≤ 1000000000000) :
    Calls Tryd.prog 28 #[.slice A 0 c, .int .i64 k0] w fun e w' => e = .returned (.int .i64 k0) ∧ w = w' := by
  go_enter Tryd.func28, Tryd.ntmps28
  go_wp2
  go_rounds 1
  go_ret
  exact ⟨rfl, rfl⟩
set_option maxHeartbeats 400000 in
theorem heldPointS_nil (k0 : Int) (A : Option Addr) (c : Nat) (w : World) (hk : 0 ≤ k0 ∧ k0 ≤ 1000000000000) :
    Calls Tryd.prog 29 #[.slice A 0 c, .int .i64 k0] w fun e w' => e = .returned (.int .i64 k0) ∧ w = w' := by
  go_enter Tryd.func29, Tryd.ntmps29
  go_wp2
  go_rounds 1
  go_ret
  exact ⟨rfl, rfl⟩
set_option maxHeartbeats 400000 in
theorem heldPointS_row (k0 : Int) (g n c m : Nat) (f : Nat → Value) (w : World) (hk : 0 ≤ k0 ∧ k0 ≤ 1000000000000) (hm : n * 2 ≤ m) (hn : n ≤ 1000000000000) (hr : RowAt w g 57 m (markCell k0 (n * 2) f)) :
    Calls Tryd.prog 29 #[.slice (some ⟨g, 0, none⟩) n c, .int .i64 k0] w fun e w' => e = .returned (.int .i64 (k0 + (n * 2 : Nat))) ∧ ∃ x, w' = ext w x := by
  have HR := hide hr
  clear hr
  go_enter Tryd.func29, Tryd.ntmps29
  go_wp2
  go_loopw [1, 5] (fun u1 u5 wr => ∃ k : Nat, k ≤ n ∧ u1 = .int .i64 (k0 + (k * 2 : Nat)) ∧ u5 = .int .i64 k ∧ ∃ x, wr = ext w x) (fun _ u5 _ => n - (intOf u5).toNat)
  case atStart => exact ⟨0, Nat.zero_le _, by simp, rfl, ext_same w⟩
  case round =>
    obtain ⟨k, hk2, rfl, rfl, x, rfl⟩ := hrel
    have hlg := HR.out.lt
    have hsz := ext_size w x
    by_cases hlt : k < n
    · have c1 : w.cell? ⟨g, k * 2, none⟩ = some (.int .i64 (k0 + (k * 2 : Nat))) := by
        rw [HR.out.cell (j := k * 2) (by omega)]; unfold markCell; rw [if_pos (by omega)]
      have c2 : w.cell? ⟨g, k * 2 + 1, none⟩ = some (.int .i64 (k0 + (k * 2 : Nat) + 1)) := by
        rw [HR.out.cell (j := k * 2 + 1) (by omega)]; unfold markCell; rw [if_pos (by omega)]; congr 2; omega
      go_wp2
      exact ⟨⟨k + 1, by omega, by go_num, by go_num, (ext_mk (by (repeat' (first | (with_reducible first | exact Below.refl _ _ | assumption | refine below_ext _ ?_ ?_ | refine Below.alloc ?_ ?_ _ | refine Below.drew ?_ | refine below_drewN ?_ _ | refine le_drewN _ ?_ | refine Below.setCell ?_ ?_ _ | exact Nat.le_refl _ | refine le_ext _ ?_ | refine le_alloc _ ?_ | refine le_setCell _ _ ?_ | refine le_drew ?_) | omega | (simp; done) | (simp; omega)))))⟩, by simp [intOf]; omega⟩
    · have : k = n := by omega
      subst this
      go_wp2
      go_ret
      exact ⟨rfl, (ext_mk (by (repeat' (first | (with_reducible first | exact Below.refl _ _ | assumption | refine below_ext _ ?_ ?_ | refine Below.alloc ?_ ?_ _ | refine Below.drew ?_ | refine below_drewN ?_ _ | refine le_drewN _ ?_ | refine Below.setCell ?_ ?_ _ | exact Nat.le_refl _ | refine le_ext _ ?_ | refine le_alloc _ ?_ | refine le_setCell _ _ ?_ | refine le_drew ?_) | omega | (simp; done) | (simp; omega)))))⟩
theorem PRow.but {w W : World} {base g : Nat} {A : Option Addr} {ps : List Pt} (h : PRow w base A ps) (hb : But w W g) (hg : g < base) : PRow W base A ps := fun h0 => by
  obtain ⟨g', m, f, hA, hg', hm, hr, hf⟩ := h h0
  exact ⟨g', m, f, hA, hg', hm, hr.but hb (by omega), hf⟩
/-- The first n points of the row at A have been marked from 1 on. -/
def MarkedP (w : World) (base : Nat) (A : Option Addr) (n : Nat) : Prop := 0 < n → ∃ g m f, A = some ⟨g, 0, none⟩ ∧ base ≤ g ∧ n * 2 ≤ m ∧ RowAt w g 57 m (markCell 1 (n * 2) f)
theorem MarkedP.below {w W : World} {base : Nat} {A : Option Addr} {n : Nat} (h : MarkedP w base A n) (hb : Below w.heap.size w W) : MarkedP W base A n := fun h0 => by
  obtain ⟨g', m, f, hA, hg', hm, hr⟩ := h h0
  exact ⟨g', m, f, hA, hg', hm, hr.below hb hr.lt⟩
theorem markPointS_any (A : Option Addr) (n c base : Nat) (ps : List Pt) (w : World) (hz : ps.length = n) (hn : n ≤ 1000000000000) (h : PRow w base A ps) :
    Calls Tryd.prog 28 #[.slice A n c, .int .i64 1] w fun e w' => e = .returned (.int .i64 (1 + (n * 2 : Nat))) ∧ Below base w w' ∧ w'.heap.size = w.heap.size ∧ MarkedP w' base A n := by
  by_cases h0 : n = 0
  · subst h0
    refine (markPointS_nil 1 A c w (by omega)).mono ?_
    rintro e w' ⟨rfl, rfl⟩
    exact ⟨rfl, Below.refl _ _, rfl, fun h => absurd h (Nat.lt_irrefl 0)⟩
  · obtain ⟨g, m, f, rfl, hg, hm, hr, hf⟩ := h (by omega)
    refine (markPointS_row 1 g n c m f w (by omega) (by omega) hn hr).mono ?_
    rintro e w' ⟨rfl, hb, hr'⟩
    exact ⟨rfl, hb.below hg, hb.size, fun _ => ⟨g, m, f, rfl, hg, by omega, hr'⟩⟩
theorem heldPointS_any (A : Option Addr) (n c base : Nat) (w : World) (hn : n ≤ 1000000000000) (h : MarkedP w base A n) :
    Calls Tryd.prog 29 #[.slice A n c, .int .i64 1] w fun e w' => e = .returned (.int .i64 (1 + (n * 2 : Nat))) ∧ ∃ x, w' = ext w x := by
  by_cases h0 : n = 0
  · subst h0
    refine (heldPointS_nil 1 A c w (by omega)).mono ?_
    rintro e w' ⟨rfl, rfl⟩
    exact ⟨rfl, ext_same _⟩
  · obtain ⟨g, m, f, rfl, hg, hm, hr⟩ := h (by omega)
    exact heldPointS_row 1 g n c m f w (by omega) hm hn hr
end Go.Proofs.YtlggmjofglmjcaaDoor
