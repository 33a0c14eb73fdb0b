
/- Fractions: valid ones; texts of numbers, plain. -/
import Derived.Test.YtnddfdhfefconaaGreatDoorLeaf
import Derived.Lib.ItoaNum
import Derived.Lib.ItoaLen
import Derived.Lib.AtoiAll
import Derived.Lib.LaidTab
set_option linter.unusedVariables false
set_option linter.unusedSimpArgs false
namespace Go.Proofs.YtnddfdhfefconaaGreatDoor
open Go.RowKit

/-- A string of these bytes. -/
def bS (l : List UInt8) : ByteArray := ⟨l.toArray⟩
theorem bS_app (a b : List UInt8) : bS a ++ bS b = bS (a ++ b) := by
  apply ByteArray.ext
  simp [bS]
theorem bS_list (a : List UInt8) : (bS a).data.toList = a := by simp [bS]
theorem bS_size (a : List UInt8) : (bS a).size = a.length := by simp [bS, ByteArray.size]
theorem bS_inj {a b : List UInt8} (h : bS a = bS b) : a = b := by
  have := congrArg (fun s : ByteArray => s.data.toList) h
  simpa [bS] using this
theorem bS_of (s : ByteArray) : s = bS s.data.toList := by
  apply ByteArray.ext
  simp [bS]

/-! ### a listed table stays -/
theorem tab_below {P : Program} {w w' : World} {name : String} {k : IntKind} {zs : List Int} (h : Lib.TabIs P w name k zs) (hb : Below w.heap.size w w') : Lib.TabIs P w' name k zs := by
  unfold Lib.TabIs World.var? at *
  cases hg : P.globalNamed name with
  | none => simp [hg] at h
  | some g =>
    simp only [hg, Option.bind_some] at h ⊢
    have hlt : g < w.heap.size := by
      rcases Nat.lt_or_ge g w.heap.size with h' | h'
      · exact h'
      · rw [Array.getElem?_eq_none h'] at h; simp at h
    rw [hb.block g hlt]
    exact h

/-! ### greatest common divisors -/
def absR (n : Int) : Int := if 0 ≤ n then n else -n
def gcdR (a b : Int) : Int := (Int.gcd a b : Int)
theorem gcdR_step (a b : Int) : gcdR b (a.tmod b) = gcdR a b := by
  unfold gcdR Int.gcd
  rw [Int.natAbs_tmod, Nat.gcd_comm b.natAbs, ← Nat.gcd_rec, Nat.gcd_comm]
theorem gcdR_end (a : Int) : gcdR a 0 = absR a := by
  unfold gcdR Int.gcd absR
  simp
  split <;> omega
theorem gcdR_abs (a b : Int) : gcdR (absR a) b = gcdR a b := by
  unfold gcdR Int.gcd
  have h : ∀ n : Int, (absR n).natAbs = n.natAbs := fun n => by unfold absR; split <;> omega
  rw [h]
theorem absR_self {a : Int} (h : 0 ≤ a) : absR a = a := if_pos h
theorem tmodR_bd (a b : Int) {M : Int} (ha : -M ≤ a ∧ a ≤ M) : -M ≤ a.tmod b ∧ a.tmod b ≤ M := by
  have h : (a.tmod b).natAbs ≤ a.natAbs := by rw [Int.natAbs_tmod]; exact Nat.mod_le _ _
  omega
theorem tmodR_lt (a : Int) {b : Int} (h : b ≠ 0) : (a.tmod b).natAbs < b.natAbs := by
  rw [Int.natAbs_tmod]; exact Nat.mod_lt _ (by omega)
theorem maxR_neg (n : Int) : max n (-n) = absR n := by unfold absR; rw [Int.max_def]; split <;> split <;> omega
set_option maxHeartbeats 400000 in
theorem iabsR_any (n : Int) (w : World) (hb : -1000000000000 ≤ n ∧ n ≤ 1000000000000) : Calls Tryz.prog 136 #[.int .i64 n] w fun e w' => e = .returned (.int .i64 (absR n)) ∧ w = w' := by
  have HM := hide (maxR_neg n)
  have i1 : IntKind.i64.wrap (-n) = -n := IntWalk.i64_in _ (by omega)
  go_enter Tryz.func136, Tryz.ntmps136
  go_wp2_with fail
  all_goals
    go_ret
    exact ⟨ret_int (by rw [← HM.out]; first | rfl | (simp [Int.max_def]; done) | (rw [Int.max_def]; split <;> omega)), rfl⟩
set_option maxHeartbeats 400000 in
theorem sabsR_any (n : Int) (w : World) (hb : -1000000000000 ≤ n ∧ n ≤ 1000000000000) : Calls Tryz.prog 120 #[.int .i64 n] w fun e w' => e = .returned (.int .i64 (absR n)) ∧ w = w' := by
  by_cases h : n < 0
  · have HV : Hid (absR n = -n) := hide (by unfold absR; rw [if_neg (by omega)])
    have d : decide (n < 0) = true := decide_eq_true h
    go_enter Tryz.func120, Tryz.ntmps120
    go_wp2_with fail
    go_ret
    exact ⟨ret_int HV.out.symm, rfl⟩
  · have HV : Hid (absR n = n) := hide (by unfold absR; rw [if_pos (by omega)])
    have d : decide (n < 0) = false := decide_eq_false h
    go_enter Tryz.func120, Tryz.ntmps120
    go_wp2_with fail
    go_ret
    exact ⟨ret_int HV.out.symm, rfl⟩
set_option maxHeartbeats 1000000 in
theorem divisorR_any (a b : Int) (w : World) (ha : -1000000000000 ≤ a ∧ a ≤ 1000000000000) (hb : -1000000000000 ≤ b ∧ b ≤ 1000000000000) :
    Calls Tryz.prog 187 #[.int .i64 a, .int .i64 b] w fun e w' => e = .returned (.int .i64 (gcdR a b)) ∧ ∃ x, w' = ext w x := by
  go_enter Tryz.func187, Tryz.ntmps187
  go_wp2_with fail
  go_loopw [0, 1] (fun u0 u1 wr => ∃ x y : Int, (-1000000000000 ≤ x ∧ x ≤ 1000000000000) ∧ (-1000000000000 ≤ y ∧ y ≤ 1000000000000) ∧ u0 = .int .i64 x ∧ u1 = .int .i64 y ∧ Hid (gcdR x y = gcdR a b) ∧ ∃ q, wr = ext w q) (fun _ u1 _ => (intOf u1).natAbs)
  case atStart => exact ⟨a, b, ha, hb, rfl, rfl, rfl, ext_same w⟩
  case round =>
    obtain ⟨x, y, hx, hy, rfl, rfl, HG, q, rfl⟩ := hrel
    by_cases h0 : y = 0
    · have d : (y != 0) = false := by simp [h0]
      have HV : Hid (absR x = gcdR a b) := hide (by rw [← HG.out, h0, gcdR_end])
      clear h0 HG
      go_wp2_with fail
      refine (iabsR_any _ _ (by omega)).mono ?_
      rintro e w' ⟨rfl, rfl⟩
      go_wp2_with fail
      go_ret
      exact ⟨ret_int HV.out, (ext_mk (by (repeat' (first | (with_reducible first | exact Below.refl _ _ | assumption | refine below_ext _ ?_ ?_ | refine Below.alloc ?_ ?_ _ | refine Below.drew ?_ | refine below_drewN ?_ _ | refine le_drewN _ ?_ | refine Below.setCell ?_ ?_ _ | exact Nat.le_refl _ | refine le_ext _ ?_ | refine le_alloc _ ?_ | refine le_setCell _ _ ?_ | refine le_drew ?_) | omega | (simp; done) | (simp; omega)))))⟩
    · have d : (y != 0) = true := by simp [h0]
      have HV : Hid (gcdR y (x.tmod y) = gcdR a b) := hide (by rw [gcdR_step]; exact HG.out)
      have HL := tmodR_lt x h0
      have HB := tmodR_bd x y hx
      have i1 : IntKind.i64.wrap (x.tmod y) = x.tmod y := IntWalk.i64_in _ (by omega)
      clear HG
      go_wp2_with fail
      go_region
      go_wp2_with fail
      exact ⟨⟨y, x.tmod y, hy, HB, rfl, rfl, HV, (ext_mk (by (repeat' (first | (with_reducible first | exact Below.refl _ _ | assumption | refine below_ext _ ?_ ?_ | refine Below.alloc ?_ ?_ _ | refine Below.drew ?_ | refine below_drewN ?_ _ | refine le_drewN _ ?_ | refine Below.setCell ?_ ?_ _ | exact Nat.le_refl _ | refine le_ext _ ?_ | refine le_alloc _ ?_ | refine le_setCell _ _ ?_ | refine le_drew ?_) | omega | (simp; done) | (simp; omega)))))⟩, HL⟩
set_option maxHeartbeats 1000000 in
theorem sgcdR_any (a b : Int) (w : World) (ha : 0 ≤ a ∧ a ≤ 1000000000000) (hb : 0 ≤ b ∧ b ≤ 1000000000000) :
    Calls Tryz.prog 170 #[.int .i64 a, .int .i64 b] w fun e w' => e = .returned (.int .i64 (gcdR a b)) ∧ ∃ x, w' = ext w x := by
  go_enter Tryz.func170, Tryz.ntmps170
  go_wp2_with fail
  go_loopw [0, 1] (fun u0 u1 wr => ∃ x y : Int, (0 ≤ x ∧ x ≤ 1000000000000) ∧ (0 ≤ y ∧ y ≤ 1000000000000) ∧ u0 = .int .i64 x ∧ u1 = .int .i64 y ∧ Hid (gcdR x y = gcdR a b) ∧ ∃ q, wr = ext w q) (fun _ u1 _ => (intOf u1).natAbs)
  case atStart => exact ⟨a, b, ha, hb, rfl, rfl, rfl, ext_same w⟩
  case round =>
    obtain ⟨x, y, hx, hy, rfl, rfl, HG, q, rfl⟩ := hrel
    by_cases h0 : y = 0
    · have d : decide (0 < y) = false := decide_eq_false (by omega)
      have HV : Hid (x = gcdR a b) := hide (by rw [← HG.out, h0, gcdR_end, absR_self hx.1])
      clear h0 HG
      go_wp2_with fail
      go_ret
      exact ⟨ret_int HV.out, (ext_mk (by (repeat' (first | (with_reducible first | exact Below.refl _ _ | assumption | refine below_ext _ ?_ ?_ | refine Below.alloc ?_ ?_ _ | refine Below.drew ?_ | refine below_drewN ?_ _ | refine le_drewN _ ?_ | refine Below.setCell ?_ ?_ _ | exact Nat.le_refl _ | refine le_ext _ ?_ | refine le_alloc _ ?_ | refine le_setCell _ _ ?_ | refine le_drew ?_) | omega | (simp; done) | (simp; omega)))))⟩
    · have d : decide (0 < y) = true := decide_eq_true (by omega)
      have HV : Hid (gcdR y (x.tmod y) = gcdR a b) := hide (by rw [gcdR_step]; exact HG.out)
      have HL := tmodR_lt x h0
      have HB := tmodR_bd x y (M := 1000000000000) (by omega)
      have HN : 0 ≤ x.tmod y := Int.tmod_nonneg y hx.1
      rw [Int.tmod_eq_emod_of_nonneg hx.1] at HV HL HB HN
      have i1 : IntKind.i64.wrap (x % y) = x % y := IntWalk.i64_in _ (by omega)
      clear HG
      go_wp2_with fail
      exact ⟨⟨y, x % y, hy, ⟨HN, HB.2⟩, rfl, rfl, HV, (ext_mk (by (repeat' (first | (with_reducible first | exact Below.refl _ _ | assumption | refine below_ext _ ?_ ?_ | refine Below.alloc ?_ ?_ _ | refine Below.drew ?_ | refine below_drewN ?_ _ | refine le_drewN _ ?_ | refine Below.setCell ?_ ?_ _ | exact Nat.le_refl _ | refine le_ext _ ?_ | refine le_alloc _ ?_ | refine le_setCell _ _ ?_ | refine le_drew ?_) | omega | (simp; done) | (simp; omega)))))⟩, HL⟩
/-! ### fractions -/
def ratB (n d : Int) : Bool := inB n (-100000000000) 100000000000 && inB d 1 20000000 && decide (gcdR n d = 1)
theorem ratB_iff {n d : Int} : ratB n d = true ↔ (-100000000000 ≤ n ∧ n ≤ 100000000000) ∧ (1 ≤ d ∧ d ≤ 20000000) ∧ gcdR n d = 1 := by simp [ratB, inB_iff, and_assoc]
theorem ratB_1 {n d : Int} (h : inB n (-100000000000) 100000000000 = false) : ratB n d = false := by simp [ratB, h]
theorem ratB_2 {n d : Int} (h : inB d 1 20000000 = false) : ratB n d = false := by simp [ratB, h]
theorem ratB_3 {n d : Int} (h : inB n (-100000000000) 100000000000 = true) (h2 : inB d 1 20000000 = true) : ratB n d = (gcdR n d == 1) := by
  unfold ratB; rw [h, h2, Bool.eq_iff_iff]; simp
end Go.Proofs.YtnddfdhfefconaaGreatDoor
