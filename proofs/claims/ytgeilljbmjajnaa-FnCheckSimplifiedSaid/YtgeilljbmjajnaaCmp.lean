
/- The library's comparisons, and the comparison of squared distances by products of 128 bits. -/
import Derived.Test.YtgeilljbmjajnaaFunc
import Derived.Shelf.Bits.Mul64
set_option linter.unusedVariables false
set_option linter.unusedSimpArgs false
namespace Go.Proofs.Ytgeilljbmjajnaa
open Go.RowKit

def sgn (n : Int) : Int := if n < 0 then -1 else if n = 0 then 0 else 1
theorem sgn_neg {n : Int} (h : n < 0) : sgn n = -1 := if_pos h
theorem sgn_zero {n : Int} (h : n = 0) : sgn n = 0 := by subst h; rfl
theorem sgn_pos {n : Int} (h : 0 < n) : sgn n = 1 := by unfold sgn; rw [if_neg (by omega), if_neg (by omega)]
theorem sgn_bd (n : Int) : -1 ≤ sgn n ∧ sgn n ≤ 1 := by unfold sgn; split <;> (try split) <;> omega

set_option maxHeartbeats 400000 in
theorem isNaNu_any (a : Int) (w : World) : Calls Try.prog 74 #[.int .u64 a] w fun e w' => e = .returned (.bool false) ∧ w = w' := by
  go_enter Try.func74, Try.ntmps74
  go_wp2
  go_ret
  exact ⟨rfl, rfl⟩
set_option maxHeartbeats 400000 in
theorem Compareu_any (a b : Int) (w : World) : Calls Try.prog 67 #[.int .u64 a, .int .u64 b] w fun e w' => e = .returned (.int .i64 (sgn (a - b))) ∧ w = w' := by
  rcases Int.lt_trichotomy a b with h | h | h
  · have HR := hide (sgn_neg (n := a - b) (by omega))
    go_enter Try.func67, Try.ntmps67
    go_wp2_with (go_at_call 74; refine (isNaNu_any _ _).mono ?_; rintro e w' ⟨rfl, rfl⟩)
    go_ret
    exact ⟨ret_int HR.out.symm, rfl⟩
  · have HR := hide (sgn_zero (n := a - b) (by omega))
    subst h
    go_enter Try.func67, Try.ntmps67
    go_wp2_with (go_at_call 74; refine (isNaNu_any _ _).mono ?_; rintro e w' ⟨rfl, rfl⟩)
    go_ret
    exact ⟨ret_int HR.out.symm, rfl⟩
  · have HR := hide (sgn_pos (n := a - b) (by omega))
    go_enter Try.func67, Try.ntmps67
    go_wp2_with (go_at_call 74; refine (isNaNu_any _ _).mono ?_; rintro e w' ⟨rfl, rfl⟩)
    go_ret
    exact ⟨ret_int HR.out.symm, rfl⟩
def orI (a b : Int) : Int := if a = 0 then b else a
set_option maxHeartbeats 400000 in
theorem Or_any (a b : Int) (g cap : Nat) (w : World) (h0 : w.cell? ⟨g, 0, none⟩ = some (.int .i64 a)) (h1 : w.cell? ⟨g, 1, none⟩ = some (.int .i64 b)) :
    Calls Try.prog 66 #[.slice (some ⟨g, 0, none⟩) 2 cap] w fun e w' => e = .returned (.int .i64 (orI a b)) ∧ w = w' := by
  by_cases ha : a = 0
  · have HR : Hid (orI a b = b) := if_pos ha
    by_cases hb : b = 0
    · subst hb ha
      go_enter Try.func66, Try.ntmps66
      go_wp2
      go_rounds 3
      all_goals (go_ret; exact ⟨ret_int HR.out.symm, rfl⟩)
    · have hb' : (b != 0) = true := by simpa using hb
      subst ha
      go_enter Try.func66, Try.ntmps66
      go_wp2
      go_rounds 3
      all_goals (go_ret; exact ⟨ret_int HR.out.symm, rfl⟩)
  · have HR : Hid (orI a b = a) := if_neg ha
    have ha' : (a != 0) = true := by simpa using ha
    go_enter Try.func66, Try.ntmps66
    go_wp2
    go_rounds 3
    all_goals (go_ret; exact ⟨ret_int HR.out.symm, rfl⟩)
def lays264ren : Go.Shelf.Ren := ⟨fun | 264 => 65 | n => n, fun | 53 => 79 | 46 => 89 | n => n, fun | n => n⟩
theorem lays264 : Go.Proofs.Lays.n264 Try.prog lays264ren := {
  mixed := by kernel_rfl
  f264 := Try.func65.trans (congrArg some (by kernel_rfl))
  t46 := Try.underlying89
  a46 := Try.isAgg89
  z46 := Try.sizeOf89
  v46 := Try.zeroValue89
  t53 := Try.underlying79
  a53 := Try.isAgg79
  z53 := Try.sizeOf79
  v53 := Try.zeroValue79 }
theorem Mul64_any (x y : Nat) (hx : x < 18446744073709551616) (hy : y < 18446744073709551616) (w : World) :
    Calls Try.prog 65 #[.int .u64 x, .int .u64 y] w fun e w' => e = .returned (.tuple #[.int .u64 ((x * y / 18446744073709551616 : Nat) : Int), .int .u64 ((x * y % 18446744073709551616 : Nat) : Int)]) ∧ w = w' :=
  (Any.bits_Mul64 lays264 x y hx hy w).mono fun _ _ ⟨h1, h2⟩ => ⟨h1, h2.symm⟩
theorem or_cmp (p q : Nat) : orI (sgn (((p / 18446744073709551616 : Nat) : Int) - ((q / 18446744073709551616 : Nat) : Int))) (sgn (((p % 18446744073709551616 : Nat) : Int) - ((q % 18446744073709551616 : Nat) : Int))) = sgn ((p : Int) - q) := by
  rcases Nat.lt_trichotomy (p / 18446744073709551616) (q / 18446744073709551616) with h | h | h
  · rw [sgn_neg (n := ((p / 18446744073709551616 : Nat) : Int) - ((q / 18446744073709551616 : Nat) : Int)) (by omega), sgn_neg (n := (p : Int) - q) (by omega)]; rfl
  · rw [sgn_zero (n := ((p / 18446744073709551616 : Nat) : Int) - ((q / 18446744073709551616 : Nat) : Int)) (by omega)]
    show sgn _ = _
    congr 1; omega
  · rw [sgn_pos (n := ((p / 18446744073709551616 : Nat) : Int) - ((q / 18446744073709551616 : Nat) : Int)) (by omega), sgn_pos (n := (p : Int) - q) (by omega)]; rfl
def cmpF (a b c d : Int) : Int := sgn (a * d - c * b)
theorem hiLo_bd (p : Nat) : (0 : Int) ≤ ((p % 18446744073709551616 : Nat) : Int) := by omega
set_option maxHeartbeats 400000 in
theorem compare_nat (a b c d : Nat) (w : World) (ha : a < 9223372036854775808) (hb : b < 9223372036854775808) (hc : c < 9223372036854775808) (hd : d < 9223372036854775808) :
    Calls Try.prog 43 #[.agg #[.int .i64 (a : Int), .int .i64 (b : Int)], .agg #[.int .i64 (c : Int), .int .i64 (d : Int)]] w fun e w' => e = .returned (.int .i64 (cmpF a b c d)) ∧ ∃ n, w' = ext w n := by
  have HR : Hid (orI (sgn (((a * d / 18446744073709551616 : Nat) : Int) - ((c * b / 18446744073709551616 : Nat) : Int))) (sgn (((a * d % 18446744073709551616 : Nat) : Int) - ((c * b % 18446744073709551616 : Nat) : Int))) = cmpF a b c d) := by
    unfold Hid cmpF; rw [or_cmp]; simp
  have M1 := hide (Mul64_any a d (by omega) (by omega))
  have M2 := hide (Mul64_any c b (by omega) (by omega))
  go_enter Try.func43, Try.ntmps43
  go_wp2_with fail
  refine (M1.out _).mono ?_
  rintro e w' ⟨rfl, rfl⟩
  generalize ((a * d / 18446744073709551616 : Nat) : Int) = h1 at *
  generalize ((a * d % 18446744073709551616 : Nat) : Int) = l1 at *
  go_wp2_with fail
  refine (M2.out _).mono ?_
  rintro e w' ⟨rfl, rfl⟩
  generalize ((c * b / 18446744073709551616 : Nat) : Int) = h2 at *
  generalize ((c * b % 18446744073709551616 : Nat) : Int) = l2 at *
  go_wp2_with (go_at_call 67; refine (Compareu_any _ _ _).mono ?_; rintro e w' ⟨rfl, rfl⟩)
  refine (Or_any (sgn (h1 - h2)) (sgn (l1 - l2)) _ _ _ (by simp [go_sem]) (by simp [go_sem])).mono ?_
  rintro e w' ⟨rfl, rfl⟩
  go_wp2
  go_ret
  exact ⟨ret_int HR.out, (ext_mk (by (repeat' (first | (with_reducible exact Below.refl _ _) | (with_reducible assumption) | (with_reducible refine below_ext _ ?_ ?_) | (with_reducible refine Below.alloc ?_ ?_ _) | (with_reducible refine Below.drew ?_) | (with_reducible refine below_drewN ?_ _) | (with_reducible refine le_drewN _ ?_) | (with_reducible refine Below.setCell ?_ ?_ _) | (with_reducible exact Nat.le_refl _) | (with_reducible refine le_ext _ ?_) | (with_reducible refine le_alloc _ ?_) | (with_reducible refine le_setCell _ _ ?_) | (with_reducible refine le_drew ?_) | omega | (simp; done) | (simp; omega)))))⟩
theorem compare_any (a b c d : Int) (w : World) (ha : 0 ≤ a ∧ a < 9223372036854775808) (hb : 0 ≤ b ∧ b < 9223372036854775808) (hc : 0 ≤ c ∧ c < 9223372036854775808) (hd : 0 ≤ d ∧ d < 9223372036854775808) :
    Calls Try.prog 43 #[.agg #[.int .i64 a, .int .i64 b], .agg #[.int .i64 c, .int .i64 d]] w fun e w' => e = .returned (.int .i64 (cmpF a b c d)) ∧ ∃ n, w' = ext w n := by
  obtain ⟨a, rfl⟩ := Int.eq_ofNat_of_zero_le ha.1
  obtain ⟨b, rfl⟩ := Int.eq_ofNat_of_zero_le hb.1
  obtain ⟨c, rfl⟩ := Int.eq_ofNat_of_zero_le hc.1
  obtain ⟨d, rfl⟩ := Int.eq_ofNat_of_zero_le hd.1
  exact compare_nat a b c d w (by omega) (by omega) (by omega) (by omega)
end Go.Proofs.Ytgeilljbmjajnaa