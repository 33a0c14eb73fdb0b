
/- Texts of fractions: both EncodeRat, both EncodeRatPoint. -/
import Derived.Test.YtnddfdhfefconaaGreatDoorNum
import Derived.Test.YtnddfdhfefconaaGreatDoorSlayT
import Derived.Lib.AppendIntMem
set_option linter.unusedVariables false
set_option linter.unusedSimpArgs false
namespace Go.Proofs.YtnddfdhfefconaaGreatDoor
open Go.RowKit

/-- The table of powers of ten lies in this world. -/
def Tab (w : World) : Prop := Lib.TabIs Tryz.prog w "internal/strconv.uint64pow10" .u64 Lib.pow10Tab
theorem Tab.to {w W : World} (h : Tab w) (hb : Below w.heap.size w W) : Tab W := tab_below h hb
theorem Tab.ext {w : World} (h : Tab w) (x : World) : Tab (ext w x) := h.to (ext_below w x)
theorem itoa_any (n : Int) (w : World) (h : -9223372036854775808 ≤ n ∧ n ≤ 9223372036854775807) (ht : Tab w) :
    Calls Tryz.prog 23 #[.int .i64 n] w fun e w' => e = .returned (.string (bS (Lib.itoa n))) ∧ ∃ x, w' = ext w x := by
  have := Any.strconv_Itoa Tryz.itoaS n h.1 h.2 w ht
  refine Calls.mono this fun e w' hh => ⟨hh.1, ?_⟩
  obtain ⟨_, k, os, rfl⟩ := hh
  exact ext_mk (Lib.below_grow _ w (Nat.le_refl _) k os)
theorem bS_nil : bS [] = ⟨#[]⟩ := rfl
theorem ratE_ne {n d : Int} (h : ratB n d = false) : ratE n d = [] := by unfold ratE; rw [h]; rfl
theorem ratE_one {n d : Int} (h : ratB n d = true) (h1 : d = 1) : ratE n d = Lib.itoa n := by unfold ratE ratT; rw [if_pos h, if_pos h1]
theorem ratE_two {n d : Int} (h : ratB n d = true) (h1 : d ≠ 1) : ratE n d = (Lib.itoa n ++ [47]) ++ Lib.itoa d := by unfold ratE ratT; rw [if_pos h, if_neg h1, List.append_assoc]
theorem ratT_two {n d : Int} (h1 : d ≠ 1) : ratT n d = (Lib.itoa n ++ [47]) ++ Lib.itoa d := by unfold ratT; rw [if_neg h1, List.append_assoc]
theorem ratT_len (n d : Int) (hn : -9223372036854775808 ≤ n ∧ n ≤ 9223372036854775807) (hd : -9223372036854775808 ≤ d ∧ d ≤ 9223372036854775807) : (ratT n d).length ≤ 43 := by
  have h1 := itoa_len n hn
  have h2 := itoa_len d hd
  unfold ratT
  split
  · omega
  · simp; omega
theorem ratE_len (n d : Int) : (ratE n d).length ≤ 43 := by
  unfold ratE
  split
  · rename_i h
    obtain ⟨a, b, _⟩ := ratB_iff.1 h
    exact ratT_len n d (by omega) (by omega)
  · simp
theorem rpE_no {a b c d : Int} (h : (ratB a b && ratB c d) = false) : rpE a b c d = [] := by
  unfold rpE; rw [if_neg]; rw [← Bool.and_eq_true, h]; simp
theorem rpE_yes {a b c d : Int} (h : (ratB a b && ratB c d) = true) : rpE a b c d = (ratE a b ++ [32]) ++ ratE c d := by
  rw [Bool.and_eq_true] at h
  unfold rpE ratE; rw [if_pos h, if_pos h.1, if_pos h.2, List.append_assoc]
/-! ### the reference's -/
theorem ratE_yes {n d : Int} (h : ratB n d = true) : ratE n d = ratT n d := by unfold ratE; rw [if_pos h]
end Go.Proofs.YtnddfdhfefconaaGreatDoor
