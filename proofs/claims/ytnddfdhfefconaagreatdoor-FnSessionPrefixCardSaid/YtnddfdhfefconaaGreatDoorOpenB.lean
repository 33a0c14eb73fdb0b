import Derived.Test.YtnddfdhfefconaaGreatDoorOpen
import Derived.Test.YtnddfdhfefconaaGreatDoorDrawK
set_option linter.unusedVariables false
set_option linter.unusedSimpArgs false
namespace Go.Proofs.YtnddfdhfefconaaGreatDoor
open Go.ChangeShapes Go.WideShapes Go.ChangeAt Go.RowKit Go.Deep Go.Joins
section
variable {H : Type} {enc : TypeId × Value → H} {P : Program} {w : World} {base : Nat} {spare : Nat → Bool} {held : Bool}
theorem byte_wf {z : Int} (h : (Lit.int .u8 z).wf = true) : ∃ y : Nat, y < 256 ∧ z = (y : Int) := by
  have h' : 0 ≤ z ∧ z < 256 := by
    have h1 : (decide (IntKind.u8.min ≤ z) && decide (z ≤ IntKind.u8.max)) = true := h
    rw [Bool.and_eq_true, decide_eq_true_eq, decide_eq_true_eq] at h1
    have e1 : IntKind.u8.min = 0 := by decide
    have e2 : IntKind.u8.max = 255 := by decide
    omega
  exact ⟨z.toNat, by omega, by omega⟩
theorem open_bytesAt {t e : TypeId} {fuel : Nat} {cs : List Value} {x : DataW H × List MemPlace} (ht : P.underlying t = some (.slice e)) (he : P.underlying e = some (.int .u8)) (hC : P.cellsOf e = 1)
    (h : DataW.trod enc P w base spare held fuel t cs = some x) :
    ∃ (A : Option Addr) (n c : Nat), cs = [.slice A n c] ∧ n ≤ c ∧ c ≤ maxLen ∧ BytesAt w w.heap.size A n := by
  rcases Deep.open_slice ht h with ⟨rfl, _⟩ | ⟨a, len, cap, m, n, D, Pl, rfl, hb, hl, hm, hmm, hx, hi⟩
  · exact ⟨none, 0, 0, rfl, by simp, by simp [maxLen], fun h => by simp at h⟩
  · have hlm : len ≤ m := by rw [hmm]; split <;> omega
    have key : ∀ i, i < len → ∃ z : Nat, z < 256 ∧ w.cell? (a.add i) = some (.int .u8 (z : Nat)) := fun i hil => by
      obtain ⟨cs', hc, ht'⟩ := hi i (by omega)
      rw [hC, Nat.mul_one] at hc
      obtain ⟨_, hcl, hat⟩ := World.cells?_some hc
      obtain ⟨z, e0, _, hw⟩ := DataW.trod_int he ht'
      subst e0
      have := hat 0 (by omega)
      obtain ⟨y, hy, rfl⟩ := byte_wf hw
      exact ⟨y, hy, by simpa [Addr.add] using this⟩
    refine ⟨some a, len, cap, rfl, hl, hm, fun hn' => ?_⟩
    clear hi hx hmm hb
    obtain ⟨b, o, sp⟩ := a
    have hsp : sp = none := by
      obtain ⟨z, _, h⟩ := key 0 hn'
      have e : Addr.add ⟨b, o, sp⟩ 0 = ⟨b, o, sp⟩ := by simp [Addr.add]
      rw [e] at h
      cases sp with
      | none => rfl
      | some s =>
        exfalso
        unfold World.cell? at h
        split at h <;> simp at h
    subst hsp
    have hadd : ∀ i j, Addr.add ⟨b, i, none⟩ j = ⟨b, i + j, none⟩ := fun i j => by unfold Addr.add; split <;> simp_all
    refine ⟨b, o, rfl, ?_, fun i hi => ?_⟩
    · obtain ⟨z, _, h⟩ := key 0 hn'
      rw [hadd] at h
      exact World.block_lt_of_cell? w _ h
    · obtain ⟨z, hz, h⟩ := key i hi
      rw [hadd] at h
      exact ⟨z, hz, h⟩
end
end Go.Proofs.YtnddfdhfefconaaGreatDoor
