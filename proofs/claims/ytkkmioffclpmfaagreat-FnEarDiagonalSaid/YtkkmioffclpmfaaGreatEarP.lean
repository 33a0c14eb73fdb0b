
/- What is known of a polygon's ears. No program in sight. -/
import Derived.Test.YtkkmioffclpmfaaGreatEarL
import Derived.Test.YtkkmioffclpmfaaGreatEarD
set_option linter.unusedVariables false
set_option linter.unusedSimpArgs false
namespace Go.Proofs.YtkkmioffclpmfaaGreat
open Go.RowKit

theorem ears_asc {ps : List Pt} {i : Nat} (h : i + 1 < (earsL ps).length) : gi (earsL ps) i < gi (earsL ps) (i + 1) := by
  have P := List.pairwise_iff_getElem.1 (earsTo_asc ps ps.length) i (i + 1) (by unfold earsL at h; omega) h (by omega)
  rw [gi_lt (by omega), gi_lt h]
  exact P
theorem ears_mem {ps : List Pt} {v : Nat} (hv : v < ps.length) (h : earV ps v = true) : (v : Int) ∈ earsL ps := by
  unfold earsL earsTo
  exact List.mem_map.2 ⟨v, List.mem_filter.2 ⟨List.mem_range.2 hv, h⟩, rfl⟩
theorem ears_at {ps : List Pt} {i : Nat} (h : i < (earsL ps).length) : ∃ v, v < ps.length ∧ earV ps v = true ∧ gi (earsL ps) i = (v : Int) := by
  rw [gi_lt h]
  have := List.getElem_mem h
  unfold earsL earsTo at this
  obtain ⟨v, hv, e⟩ := List.mem_map.1 this
  obtain ⟨hv, he⟩ := List.mem_filter.1 hv
  exact ⟨v, List.mem_range.1 hv, he, e.symm⟩
theorem two_lenI {l : List Int} {a b : Int} (ha : a ∈ l) (hb : b ∈ l) (hne : a ≠ b) : 2 ≤ l.length := by
  match l, ha, hb with
  | [], ha, _ => cases ha
  | [x], ha, hb =>
    rw [List.mem_singleton] at ha hb
    exact absurd (ha.trans hb.symm) hne
  | x :: y :: l, _, _ => simp
theorem ears_two {ps : List Pt} (h : simB ps = true) (h4 : 4 ≤ ps.length) : 2 ≤ (earsL ps).length := by
  obtain ⟨a, b, ha, hb, hne, ea, eb⟩ := ring_ears (ring_first h) (by rw [rgN_len]; exact h4)
  rw [rgN_len] at ha hb
  have q : ∀ i, i < ps.length → earB ps (rgN ps) i = true → (rgI ps i : Int) ∈ earsL ps := fun i hi he => ears_mem (rgI_lt hi) (by unfold earV; rw [rgI_inv hi]; exact he)
  exact two_lenI (q a ha ea) (q b hb eb) (fun e => hne (rgI_inj ha hb (by omega)))
theorem ears_three {ps : List Pt} (h : simB ps = true) (h3 : ps.length = 3) : (earsL ps).length = 3 := by
  have q : ∀ v, v < 3 → earV ps v = true := fun v hv => by
    unfold earV
    exact ring_three (ring_first h) (by rw [rgN_len]; exact h3) (by rw [rgN_len]; exact rgI_lt (by omega))
  unfold earsL earsTo
  rw [h3]
  simp [List.range, List.range.loop, q]
end Go.Proofs.YtkkmioffclpmfaaGreat
