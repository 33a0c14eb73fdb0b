
/- The laws' helpers that write marks into a row of numbers and look for them. -/
import Derived.Test.YtkkmioffclpmfaaGreatMarkP
import Derived.Test.YtkkmioffclpmfaaGreatApp
set_option linter.unusedVariables false
set_option linter.unusedSimpArgs false
namespace Go.Proofs.YtkkmioffclpmfaaGreat
open Go.RowKit

set_option maxHeartbeats 400000 in
theorem markIntS_row (k0 : Int) (g n c m : Nat) (f : Nat → Value) (w : World) (hk : 0 ≤ k0 ∧ k0 ≤ 1000000000000) (hm : n ≤ m) (hn : n ≤ 1000000000000) (hr : RowAt w g 3 m f) :
    Calls Tryz.prog 33 #[.slice (some ⟨g, 0, none⟩) n c, .int .i64 k0] w fun e w' => e = .returned (.int .i64 (k0 + n)) ∧ But w w' g ∧ RowAt w' g 3 m (markCell k0 n f) := by
  have HR := hide hr
  clear hr
  go_enter Tryz.func33, Tryz.ntmps33
  go_wp2
  go_loopw [1, 5] (fun u1 u5 wr => ∃ k : Nat, k ≤ n ∧ u1 = .int .i64 (k0 + k) ∧ u5 = .int .i64 k ∧ But w wr g ∧ ∃ f', RowAt wr g 3 m f' ∧ ∀ j, j < m → f' j = markCell k0 k f j) (fun _ u5 _ => n - (intOf u5).toNat)
  case atStart => exact ⟨0, Nat.zero_le _, by simp, rfl, But.refl _ _, f, HR.out, fun j _ => mark_zero _ _ _⟩
  case round =>
    obtain ⟨k, hk2, rfl, rfl, hb, f', hrow, hf⟩ := hrel
    have HF := hide hf
    clear hf
    by_cases hlt : k < n
    · have c1 := hrow.cell (j := k) (by omega)
      have f1 := hrow.frozen k
      go_wp2
      exact ⟨⟨k + 1, by omega, by go_num, by go_num, hb.set _ _, _, hrow.set (by omega) _, mark_one HF.out⟩, by simp [intOf]; omega⟩
    · have : k = n := by omega
      subst this
      go_wp2
      go_ret
      exact ⟨rfl, hb, hrow.congr HF.out⟩
set_option maxHeartbeats 400000 in
theorem markIntS_nil (k0 : Int) (A : Option Addr) (c : Nat) (w : World) (hk : 0 ≤ k0 ∧ k0 ≤ 1000000000000) :
    Calls Tryz.prog 33 #[.slice A 0 c, .int .i64 k0] w fun e w' => e = .returned (.int .i64 k0) ∧ w = w' := by
  go_enter Tryz.func33, Tryz.ntmps33
  go_wp2
  go_rounds 1
  go_ret
  exact ⟨rfl, rfl⟩
set_option maxHeartbeats 400000 in
theorem heldIntS_row (k0 : Int) (g n c m : Nat) (f : Nat → Value) (w : World) (hk : 0 ≤ k0 ∧ k0 ≤ 1000000000000) (hm : n ≤ m) (hn : n ≤ 1000000000000) (hr : RowAt w g 3 m (markCell k0 n f)) :
    Calls Tryz.prog 34 #[.slice (some ⟨g, 0, none⟩) n c, .int .i64 k0] w fun e w' => e = .returned (.int .i64 (k0 + n)) ∧ ∃ x, w' = ext w x := by
  have HR := hide hr
  clear hr
  go_enter Tryz.func34, Tryz.ntmps34
  go_wp2
  go_loopw [1, 5] (fun u1 u5 wr => ∃ k : Nat, k ≤ n ∧ u1 = .int .i64 (k0 + k) ∧ u5 = .int .i64 k ∧ ∃ x, wr = ext w x) (fun _ u5 _ => n - (intOf u5).toNat)
  case atStart => exact ⟨0, Nat.zero_le _, by simp, rfl, ext_same w⟩
  case round =>
    obtain ⟨k, hk2, rfl, rfl, x, rfl⟩ := hrel
    have hlg := HR.out.lt
    have hsz := ext_size w x
    by_cases hlt : k < n
    · have c1 : w.cell? ⟨g, k, none⟩ = some (.int .i64 (k0 + k)) := by
        rw [HR.out.cell (j := k) (by omega)]; unfold markCell; rw [if_pos hlt]
      go_wp2
      exact ⟨⟨k + 1, by omega, by go_num, by go_num, (ext_mk (by (repeat' (first | (with_reducible exact Below.refl _ _) | (with_reducible assumption) | (with_reducible refine below_ext _ ?_ ?_) | (with_reducible refine Below.alloc ?_ ?_ _) | (with_reducible refine Below.drew ?_) | (with_reducible refine below_drewN ?_ _) | (with_reducible refine le_drewN _ ?_) | (with_reducible refine Below.setCell ?_ ?_ _) | (with_reducible exact Nat.le_refl _) | (with_reducible refine le_ext _ ?_) | (with_reducible refine le_alloc _ ?_) | (with_reducible refine le_setCell _ _ ?_) | (with_reducible refine le_drew ?_) | omega | (simp; done) | (simp; omega)))))⟩, by simp [intOf]; omega⟩
    · have : k = n := by omega
      subst this
      go_wp2
      go_ret
      exact ⟨rfl, (ext_mk (by (repeat' (first | (with_reducible exact Below.refl _ _) | (with_reducible assumption) | (with_reducible refine below_ext _ ?_ ?_) | (with_reducible refine Below.alloc ?_ ?_ _) | (with_reducible refine Below.drew ?_) | (with_reducible refine below_drewN ?_ _) | (with_reducible refine le_drewN _ ?_) | (with_reducible refine Below.setCell ?_ ?_ _) | (with_reducible exact Nat.le_refl _) | (with_reducible refine le_ext _ ?_) | (with_reducible refine le_alloc _ ?_) | (with_reducible refine le_setCell _ _ ?_) | (with_reducible refine le_drew ?_) | omega | (simp; done) | (simp; omega)))))⟩
set_option maxHeartbeats 400000 in
theorem heldIntS_nil (k0 : Int) (A : Option Addr) (c : Nat) (w : World) (hk : 0 ≤ k0 ∧ k0 ≤ 1000000000000) :
    Calls Tryz.prog 34 #[.slice A 0 c, .int .i64 k0] w fun e w' => e = .returned (.int .i64 k0) ∧ w = w' := by
  go_enter Tryz.func34, Tryz.ntmps34
  go_wp2
  go_rounds 1
  go_ret
  exact ⟨rfl, rfl⟩
theorem IRow.but {w W : World} {base g : Nat} {A : Option Addr} {zs : List Int} (h : IRow w base A zs) (hb : But w W g) (hg : g < base) : IRow W base A zs := fun h0 => by
  obtain ⟨g', m, f, hA, hg', hm, hr, hf⟩ := h h0
  exact ⟨g', m, f, hA, hg', hm, hr.but hb (by omega), hf⟩
/-- The first n ints of the row at A have been marked from 1 on. -/
def Marked (w : World) (base : Nat) (A : Option Addr) (n : Nat) : Prop := 0 < n → ∃ g m f, A = some ⟨g, 0, none⟩ ∧ base ≤ g ∧ n ≤ m ∧ RowAt w g 3 m (markCell 1 n f)
theorem Marked.below {w W : World} {base : Nat} {A : Option Addr} {n : Nat} (h : Marked w base A n) (hb : Below w.heap.size w W) : Marked W base A n := fun h0 => by
  obtain ⟨g', m, f, hA, hg', hm, hr⟩ := h h0
  exact ⟨g', m, f, hA, hg', hm, hr.below hb hr.lt⟩
theorem markIntS_any (A : Option Addr) (n c base : Nat) (zs : List Int) (w : World) (hz : zs.length = n) (hn : n ≤ 1000000000000) (h : IRow w base A zs) :
    Calls Tryz.prog 33 #[.slice A n c, .int .i64 1] w fun e w' => e = .returned (.int .i64 (1 + n)) ∧ Below base w w' ∧ w'.heap.size = w.heap.size ∧ Marked w' base A n := by
  by_cases h0 : n = 0
  · subst h0
    refine (markIntS_nil 1 A c w (by omega)).mono ?_
    rintro e w' ⟨rfl, rfl⟩
    exact ⟨rfl, Below.refl _ _, rfl, fun h => absurd h (Nat.lt_irrefl 0)⟩
  · obtain ⟨g, m, f, rfl, hg, hm, hr, hf⟩ := h (by omega)
    refine (markIntS_row 1 g n c m f w (by omega) (by omega) hn hr).mono ?_
    rintro e w' ⟨rfl, hb, hr'⟩
    exact ⟨rfl, hb.below hg, hb.size, fun _ => ⟨g, m, f, rfl, hg, by omega, hr'⟩⟩
theorem heldIntS_any (A : Option Addr) (n c base : Nat) (w : World) (hn : n ≤ 1000000000000) (h : Marked w base A n) :
    Calls Tryz.prog 34 #[.slice A n c, .int .i64 1] w fun e w' => e = .returned (.int .i64 (1 + n)) ∧ ∃ x, w' = ext w x := by
  by_cases h0 : n = 0
  · subst h0
    refine (heldIntS_nil 1 A c w (by omega)).mono ?_
    rintro e w' ⟨rfl, rfl⟩
    exact ⟨rfl, ext_same _⟩
  · obtain ⟨g, m, f, rfl, hg, hm, hr⟩ := h (by omega)
    exact heldIntS_row 1 g n c m f w (by omega) hm hn hr
end Go.Proofs.YtkkmioffclpmfaaGreat
