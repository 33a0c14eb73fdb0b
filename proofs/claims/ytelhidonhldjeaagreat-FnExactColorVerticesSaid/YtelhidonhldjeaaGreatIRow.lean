
/- A row of numbers of the call's own, its block perhaps longer; Clip at numbers. -/
import Derived.Test.YtelhidonhldjeaaGreatAppI
set_option linter.unusedVariables false
set_option linter.unusedSimpArgs false
namespace Go.Proofs.YtelhidonhldjeaaGreat
open Go.RowKit

/-- The slice at A is a row of ints of the call's own, at block base or later; its block may be longer. -/
def IRow (w : World) (base : Nat) (A : Option Addr) (zs : List Int) : Prop :=
  0 < zs.length → ∃ g m f, A = some ⟨g, 0, none⟩ ∧ base ≤ g ∧ zs.length ≤ m ∧ RowAt w g 3 m f ∧ ∀ i, i < zs.length → f i = .int .i64 (gi zs i)
theorem IRow.nil (w : World) (base : Nat) (A : Option Addr) : IRow w base A [] := fun h => absurd h (Nat.lt_irrefl 0)
theorem IRow.below {w W : World} {base : Nat} {A : Option Addr} {zs : List Int} (h : IRow w base A zs) (hb : Below w.heap.size w W) : IRow W base A zs := fun h0 => by
  obtain ⟨g, m, f, hA, hg, hm, hr, hf⟩ := h h0
  exact ⟨g, m, f, hA, hg, hm, hr.below hb hr.lt, hf⟩
theorem IRow.more {w : World} {base base' : Nat} {A : Option Addr} {zs : List Int} (h : IRow w base A zs) (hb : base' ≤ base) : IRow w base' A zs := fun h0 => by
  obtain ⟨g, m, f, hA, hg, hm, hr, hf⟩ := h h0
  exact ⟨g, m, f, hA, Nat.le_trans hb hg, hm, hr, hf⟩
theorem IRow.ints {w : World} {base : Nat} {A : Option Addr} {zs : List Int} (h : IRow w base A zs) : IntsAt w w.heap.size A zs := fun h0 => by
  obtain ⟨g, m, f, hA, hg, hm, hr, hf⟩ := h h0
  exact ⟨g, 0, hA, hr.lt, fun i hi => by rw [Nat.zero_add, hr.cell (by omega), hf i hi]⟩
theorem Own.irow {w : World} {base : Nat} {A : Option Addr} {n c : Nat} {zs : List Int} (h : Own w base (.slice A n c) zs) : zs.length = n ∧ IRow w base A zs := by
  have hi := h.ints
  refine ⟨hi.1, fun h0 => ?_⟩
  have hin := hi.2.2.2
  unfold Own at h
  rcases h.2 with ⟨hv, h1⟩ | ⟨g, cp, cur, hv, hg, hgg, hnc, hcm, hsz, htk⟩
  · omega
  · injection hv with h1 h2 h3
    subst h1 h2 h3
    refine ⟨g, _, fun j => cur.getD j undef, rfl, hg, hnc, ⟨cur, hgg, by omega, fun j hj => ?_⟩, fun i hi2 => ?_⟩
    · have : j < cur.size := by omega
      simp [this]
    · obtain ⟨b, o, hA, _, hc⟩ := hin h0
      injection hA with hA; injection hA with e1 e2
      subst e1 e2
      have := hc i hi2
      rw [Nat.zero_add, heap_cell hgg] at this
      show cur.getD i undef = _
      rw [Array.getD_eq_getD_getElem?, this]; rfl
set_option maxHeartbeats 400000 in
theorem clipN_any (A : Option Addr) (n c : Nat) (w : World) (hn : n ≤ c) (hc : c ≤ 9223372036854775807) (hA : 0 < n → A ≠ none) :
    Calls Tryz.prog 55 #[.slice A n c] w fun e w' => e = .returned (.slice A n n) ∧ w = w' := by
  go_enter Tryz.func55, Tryz.ntmps55
  go_wp2
  go_ret
  exact ⟨rfl, rfl⟩
end Go.Proofs.YtelhidonhldjeaaGreat
