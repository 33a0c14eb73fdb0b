
/- Texts of fractions: both EncodeRat, both EncodeRatPoint. -/
import Derived.Test.YtlggmjofglmjcaaDoorDecM
import Derived.Test.YtlggmjofglmjcaaDoorSlayT
import Derived.Lib.AppendIntMem
set_option linter.unusedVariables false
set_option linter.unusedSimpArgs false
namespace Go.Proofs.YtlggmjofglmjcaaDoor
open Go.RowKit

/-- The table of powers of ten lies in this world. -/
def Tab (w : World) : Prop := Lib.TabIs Tryd.prog w "internal/strconv.uint64pow10" .u64 Lib.pow10Tab
theorem Tab.to {w W : World} (h : Tab w) (hb : Below w.heap.size w W) : Tab W := tab_below h hb
theorem Tab.ext {w : World} (h : Tab w) (x : World) : Tab (ext w x) := h.to (ext_below w x)
theorem itoa_any (n : Int) (w : World) (h : -9223372036854775808 ≤ n ∧ n ≤ 9223372036854775807) (ht : Tab w) :
    Calls Tryd.prog 40 #[.int .i64 n] w fun e w' => e = .returned (.string (bS (Lib.itoa n))) ∧ ∃ x, w' = ext w x := by
  have := Any.strconv_Itoa Tryd.itoaS n h.1 h.2 w ht
  refine Calls.mono this fun e w' hh => ⟨hh.1, ?_⟩
  obtain ⟨_, k, os, rfl⟩ := hh
  exact ext_mk (Lib.below_grow _ w (Nat.le_refl _) k os)
theorem bS_nil : bS [] = ⟨#[]⟩ := rfl
theorem ratE_ne {n d : Int} (h : ratB n d = false) : ratE n d = [] := by unfold ratE; rw [h]; rfl
theorem ratE_one {n d : Int} (h : ratB n d = true) (h1 : d = 1) : ratE n d = Lib.itoa n := by unfold ratE ratT; rw [if_pos h, if_pos h1]
theorem ratE_two {n d : Int} (h : ratB n d = true) (h1 : d ≠ 1) : ratE n d = (Lib.itoa n ++ [47]) ++ Lib.itoa d := by unfold ratE ratT; rw [if_pos h, if_neg h1, List.append_assoc]
theorem ratT_two {n d : Int} (h1 : d ≠ 1) : ratT n d = (Lib.itoa n ++ [47]) ++ Lib.itoa d := by unfold ratT; rw [if_neg h1, List.append_assoc]
theorem ratT_len (n d : Int) (hn : -9223372036854775808 ≤ n ∧ n ≤ 9223372036854775807) (hd : -9223372036854775808 ≤ d ∧ d ≤ 9223372036854775807) : (ratT n d).length ≤ 43 := by
  have h1 := itoa_len n hn
  have h2 := itoa_len d hd
  unfold ratT
  split
  · omega
  · simp; omega
theorem ratE_len (n d : Int) : (ratE n d).length ≤ 43 := by
  unfold ratE
  split
  · rename_i h
    obtain ⟨a, b, _⟩ := ratB_iff.1 h
    exact ratT_len n d (by omega) (by omega)
  · simp
set_option maxHeartbeats 2000000 in
theorem iEnc_any (n d : Int) (w : World) (ht : Tab w) : Calls Tryd.prog 35 #[.agg #[.int .i64 n, .int .i64 d]] w fun e w' => e = .returned (.string (bS (ratE n d))) ∧ ∃ x, w' = ext w x := by
  have RV := hide (irat_any n d)
  cases hv : ratB n d
  · have E := hide (ratE_ne hv)
    have E2 := hide (bS_nil)
    rw [hv] at RV
    rw [E.out, E2.out]
    clear E E2 ht
    go_enter Tryd.func35, Tryd.ntmps35
    go_wp2_with ((go_at_call 61; refine (RV.out _).mono ?_; rintro e w' ⟨rfl, hw'⟩; have hzy := ext_sz hw'; obtain ⟨y, rfl⟩ := hw'; (try simp at hzy)))
    go_ret
    exact ⟨rfl, (ext_mk (by (repeat' (first | (with_reducible first | exact Below.refl _ _ | assumption | refine below_ext _ ?_ ?_ | refine Below.alloc ?_ ?_ _ | refine Below.drew ?_ | refine below_drewN ?_ _ | refine le_drewN _ ?_ | refine Below.setCell ?_ ?_ _ | exact Nat.le_refl _ | refine le_ext _ ?_ | refine le_alloc _ ?_ | refine le_setCell _ _ ?_ | refine le_drew ?_) | omega | (simp; done) | (simp; omega)))))⟩
  · obtain ⟨a, b, _⟩ := ratB_iff.1 hv
    obtain ⟨IT, hIT⟩ : ∃ IT : Int → ByteArray, ∀ k, IT k = bS (Lib.itoa k) := ⟨_, fun _ => rfl⟩
    have IA := hide (fun (k : Int) (W : World) (hk : -9223372036854775808 ≤ k ∧ k ≤ 9223372036854775807) (hb : Below w.heap.size w W) => (itoa_any k W hk (ht.to hb)).mono (fun e w' hh => (⟨by rw [hIT k]; exact hh.1, hh.2⟩ : e = .returned (.string (IT k)) ∧ ∃ x, w' = ext W x)))
    rw [hv] at RV
    by_cases h1 : d = 1
    · have E := hide (ratE_one hv h1)
      rw [E.out, ← hIT n]
      have d1 : (d == 1) = true := by simp [h1]
      clear E hv h1 b hIT ht
      go_enter Tryd.func35, Tryd.ntmps35
      go_wp2_with (first | (go_at_call 61; refine (RV.out _).mono ?_; rintro e w' ⟨rfl, hw'⟩; have hzy := ext_sz hw'; obtain ⟨y, rfl⟩ := hw'; (try simp at hzy)) | (go_at_call 40; refine (IA.out _ _ (by omega) (by (repeat' (first | (with_reducible first | exact Below.refl _ _ | assumption | refine below_ext _ ?_ ?_ | refine Below.alloc ?_ ?_ _ | refine Below.drew ?_ | refine below_drewN ?_ _ | refine le_drewN _ ?_ | refine Below.setCell ?_ ?_ _ | exact Nat.le_refl _ | refine le_ext _ ?_ | refine le_alloc _ ?_ | refine le_setCell _ _ ?_ | refine le_drew ?_) | omega | (simp; done) | (simp; omega))))).mono ?_; rintro e w' ⟨rfl, hw'⟩; have hzz := ext_sz hw'; obtain ⟨z, rfl⟩ := hw'; (try simp at hzz)))
      go_ret
      exact ⟨rfl, (ext_mk (by (repeat' (first | (with_reducible first | exact Below.refl _ _ | assumption | refine below_ext _ ?_ ?_ | refine Below.alloc ?_ ?_ _ | refine Below.drew ?_ | refine below_drewN ?_ _ | refine le_drewN _ ?_ | refine Below.setCell ?_ ?_ _ | exact Nat.le_refl _ | refine le_ext _ ?_ | refine le_alloc _ ?_ | refine le_setCell _ _ ?_ | refine le_drew ?_) | omega | (simp; done) | (simp; omega)))))⟩
    · have d1 : (d == 1) = false := by simp [h1]
      have ln := itoa_len n (by omega)
      have ld := itoa_len d (by omega)
      have i47 : bS [47] = ⟨#[47]⟩ := rfl
      have E1 := hide (bS_app (Lib.itoa n) [47])
      have E2 := hide (bS_app (Lib.itoa n ++ [47]) (Lib.itoa d))
      have K1 : ¬ 9223372036854775807 < (bS (Lib.itoa n)).size + (bS [47]).size := by rw [bS_size, bS_size]; simp; omega
      have K2 : ¬ 9223372036854775807 < (bS (Lib.itoa n ++ [47])).size + (bS (Lib.itoa d)).size := by rw [bS_size, bS_size]; simp; omega
      rw [← ratE_two hv h1] at E2
      rw [i47] at E1 K1
      rw [← hIT n] at E1 K1
      rw [← hIT d] at E2 K2
      clear hv h1 ht ln ld hIT
      generalize bS (ratE n d) = S at *
      generalize bS (Lib.itoa n ++ [47]) = S1 at *
      have E1' : IT n ++ (⟨#[47]⟩ : ByteArray) = S1 := E1.out
      have E2' : S1 ++ IT d = S := E2.out
      clear E1 E2 i47
      go_enter Tryd.func35, Tryd.ntmps35
      go_wp2_with ((go_at_call 61; refine (RV.out _).mono ?_; rintro e w' ⟨rfl, hw'⟩; have hzy := ext_sz hw'; obtain ⟨y, rfl⟩ := hw'; (try simp at hzy)))
      refine wp_region_ext (by kernel_rfl) (by kernel_rfl) ?_
      repeat (go_big_quiet_step ((first | (go_at_call 40; exact Calls.in_ext (IA.out _ _ (by omega) (by (repeat' (first | (with_reducible first | exact Below.refl _ _ | assumption | refine below_ext _ ?_ ?_ | refine Below.alloc ?_ ?_ _ | refine Below.drew ?_ | refine below_drewN ?_ _ | refine le_drewN _ ?_ | refine Below.setCell ?_ ?_ _ | exact Nat.le_refl _ | refine le_ext _ ?_ | refine le_alloc _ ?_ | refine le_setCell _ _ ?_ | refine le_drew ?_) | omega | (simp; done) | (simp; omega)))))))))
      refine wpQuiet_nil ?_
      rintro _ hnq
      have hzq := ext_sz hnq
      obtain ⟨nq, rfl⟩ := hnq
      (try simp at hzq)
      go_wp2_with fail
      go_ret
      exact ⟨rfl, (ext_mk (by (repeat' (first | (with_reducible first | exact Below.refl _ _ | assumption | refine below_ext _ ?_ ?_ | refine Below.alloc ?_ ?_ _ | refine Below.drew ?_ | refine below_drewN ?_ _ | refine le_drewN _ ?_ | refine Below.setCell ?_ ?_ _ | exact Nat.le_refl _ | refine le_ext _ ?_ | refine le_alloc _ ?_ | refine le_setCell _ _ ?_ | refine le_drew ?_) | omega | (simp; done) | (simp; omega)))))⟩
set_option maxHeartbeats 2000000 in
theorem iratP_any (a b c d : Int) (w : World) : Calls Tryd.prog 34 #[.agg #[.int .i64 a, .int .i64 b, .int .i64 c, .int .i64 d]] w fun e w' => e = .returned (.bool (ratB a b && ratB c d)) ∧ ∃ x, w' = ext w x := by
  have RV := hide irat_any
  cases h1 : ratB a b
  · have R1 := hide (RV.out a b)
    rw [h1] at R1
    clear RV h1
    go_enter Tryd.func34, Tryd.ntmps34
    go_wp2_with ((go_at_call 61; refine (R1.out _).mono ?_; rintro e w' ⟨rfl, hw'⟩; have hzy := ext_sz hw'; obtain ⟨y, rfl⟩ := hw'; (try simp at hzy)))
    go_returns
    exact ⟨ret_bool (by rfl), (ext_mk (by (repeat' (first | (with_reducible first | exact Below.refl _ _ | assumption | refine below_ext _ ?_ ?_ | refine Below.alloc ?_ ?_ _ | refine Below.drew ?_ | refine below_drewN ?_ _ | refine le_drewN _ ?_ | refine Below.setCell ?_ ?_ _ | exact Nat.le_refl _ | refine le_ext _ ?_ | refine le_alloc _ ?_ | refine le_setCell _ _ ?_ | refine le_drew ?_) | omega | (simp; done) | (simp; omega)))))⟩
  · rw [Bool.true_and]
    go_enter Tryd.func34, Tryd.ntmps34
    go_wp2_with ((go_at_call 61; refine (RV.out _ _ _).mono ?_; rintro e w' ⟨rfl, hw'⟩; have hzy := ext_sz hw'; obtain ⟨y, rfl⟩ := hw'; (try simp at hzy)))
    go_returns
    exact ⟨rfl, (ext_mk (by (repeat' (first | (with_reducible first | exact Below.refl _ _ | assumption | refine below_ext _ ?_ ?_ | refine Below.alloc ?_ ?_ _ | refine Below.drew ?_ | refine below_drewN ?_ _ | refine le_drewN _ ?_ | refine Below.setCell ?_ ?_ _ | exact Nat.le_refl _ | refine le_ext _ ?_ | refine le_alloc _ ?_ | refine le_setCell _ _ ?_ | refine le_drew ?_) | omega | (simp; done) | (simp; omega)))))⟩
theorem rpE_no {a b c d : Int} (h : (ratB a b && ratB c d) = false) : rpE a b c d = [] := by
  unfold rpE; rw [if_neg]; rw [← Bool.and_eq_true, h]; simp
theorem rpE_yes {a b c d : Int} (h : (ratB a b && ratB c d) = true) : rpE a b c d = (ratE a b ++ [32]) ++ ratE c d := by
  rw [Bool.and_eq_true] at h
  unfold rpE ratE; rw [if_pos h, if_pos h.1, if_pos h.2, List.append_assoc]
set_option maxHeartbeats 2000000 in
theorem iEncP_any (a b c d : Int) (w : World) (ht : Tab w) : Calls Tryd.prog 13 #[.agg #[.int .i64 a, .int .i64 b, .int .i64 c, .int .i64 d]] w fun e w' => e = .returned (.string (bS (rpE a b c d))) ∧ ∃ x, w' = ext w x := by
  have RV := hide (iratP_any a b c d)
  cases hv : (ratB a b && ratB c d)
  · have E := hide (rpE_no hv)
    rw [hv] at RV
    rw [E.out, bS_nil]
    clear E ht
    go_enter Tryd.func13, Tryd.ntmps13
    go_wp2_with ((go_at_call 34; refine (RV.out _).mono ?_; rintro e w' ⟨rfl, hw'⟩; have hzy := ext_sz hw'; obtain ⟨y, rfl⟩ := hw'; (try simp at hzy)))
    go_ret
    exact ⟨rfl, (ext_mk (by (repeat' (first | (with_reducible first | exact Below.refl _ _ | assumption | refine below_ext _ ?_ ?_ | refine Below.alloc ?_ ?_ _ | refine Below.drew ?_ | refine below_drewN ?_ _ | refine le_drewN _ ?_ | refine Below.setCell ?_ ?_ _ | exact Nat.le_refl _ | refine le_ext _ ?_ | refine le_alloc _ ?_ | refine le_setCell _ _ ?_ | refine le_drew ?_) | omega | (simp; done) | (simp; omega)))))⟩
  · obtain ⟨IT, hIT⟩ : ∃ IT : Int → Int → ByteArray, ∀ n m, IT n m = bS (ratE n m) := ⟨_, fun _ _ => rfl⟩
    have IA := hide (fun (n m : Int) (W : World) (hb : Below w.heap.size w W) => (iEnc_any n m W (ht.to hb)).mono (fun e w' hh => (⟨by rw [hIT n m]; exact hh.1, hh.2⟩ : e = .returned (.string (IT n m)) ∧ ∃ x, w' = ext W x)))
    have l1 := ratE_len a b
    have l2 := ratE_len c d
    have i32 : bS [32] = ⟨#[32]⟩ := rfl
    have E1 := hide (bS_app (ratE a b) [32])
    have E2 := hide (bS_app (ratE a b ++ [32]) (ratE c d))
    have K1 : ¬ 9223372036854775807 < (bS (ratE a b)).size + (bS [32]).size := by rw [bS_size, bS_size]; simp; omega
    have K2 : ¬ 9223372036854775807 < (bS (ratE a b ++ [32])).size + (bS (ratE c d)).size := by rw [bS_size, bS_size]; simp; omega
    rw [hv] at RV
    rw [← rpE_yes hv] at E2
    rw [i32] at E1 K1
    rw [← hIT a b] at E1 K1
    rw [← hIT c d] at E2 K2
    clear hv ht l1 l2 hIT
    generalize bS (rpE a b c d) = S at *
    generalize bS (ratE a b ++ [32]) = S1 at *
    have E1' : IT a b ++ (⟨#[32]⟩ : ByteArray) = S1 := E1.out
    have E2' : S1 ++ IT c d = S := E2.out
    clear E1 E2 i32
    go_enter Tryd.func13, Tryd.ntmps13
    go_wp2_with ((go_at_call 34; refine (RV.out _).mono ?_; rintro e w' ⟨rfl, hw'⟩; have hzy := ext_sz hw'; obtain ⟨y, rfl⟩ := hw'; (try simp at hzy)))
    refine wp_region_ext (by kernel_rfl) (by kernel_rfl) ?_
    repeat (go_big_quiet_step ((first | (go_at_call 35; exact Calls.in_ext (IA.out _ _ _ (by (repeat' (first | (with_reducible first | exact Below.refl _ _ | assumption | refine below_ext _ ?_ ?_ | refine Below.alloc ?_ ?_ _ | refine Below.drew ?_ | refine below_drewN ?_ _ | refine le_drewN _ ?_ | refine Below.setCell ?_ ?_ _ | exact Nat.le_refl _ | refine le_ext _ ?_ | refine le_alloc _ ?_ | refine le_setCell _ _ ?_ | refine le_drew ?_) | omega | (simp; done) | (simp; omega)))))))))
    refine wpQuiet_nil ?_
    rintro _ hnq
    have hzq := ext_sz hnq
    obtain ⟨nq, rfl⟩ := hnq
    (try simp at hzq)
    go_wp2_with fail
    go_ret
    exact ⟨rfl, (ext_mk (by (repeat' (first | (with_reducible first | exact Below.refl _ _ | assumption | refine below_ext _ ?_ ?_ | refine Below.alloc ?_ ?_ _ | refine Below.drew ?_ | refine below_drewN ?_ _ | refine le_drewN _ ?_ | refine Below.setCell ?_ ?_ _ | exact Nat.le_refl _ | refine le_ext _ ?_ | refine le_alloc _ ?_ | refine le_setCell _ _ ?_ | refine le_drew ?_) | omega | (simp; done) | (simp; omega)))))⟩
/-! ### the reference's -/
set_option maxHeartbeats 2000000 in
theorem fmtR_any (n d : Int) (w : World) (hn : -9223372036854775808 < n ∧ n ≤ 9223372036854775807) (hd : -9223372036854775808 < d ∧ d ≤ 9223372036854775807) : Calls Tryd.prog 60 #[.agg #[.int .i64 n, .int .i64 d]] w fun e w' => e = .returned (.string (bS (ratT n d))) ∧ ∃ x, w' = ext w x := by
  obtain ⟨IT, hIT⟩ : ∃ IT : Int → ByteArray, ∀ k, IT k = bS (Lib.itoa k) := ⟨_, fun _ => rfl⟩
  have IA := hide (fun (k : Int) (W : World) (hk : -9223372036854775808 < k ∧ k ≤ 9223372036854775807) => (sfmt_any k W hk).mono (fun e w' hh => (⟨by rw [hIT k]; exact hh.1, hh.2⟩ : e = .returned (.string (IT k)) ∧ ∃ x, w' = ext W x)))
  by_cases h1 : d = 1
  · have E : ratT n d = Lib.itoa n := by unfold ratT; rw [if_pos h1]
    rw [E, ← hIT n]
    have d1 : (d == 1) = true := by simp [h1]
    clear E h1 hIT
    go_enter Tryd.func60, Tryd.ntmps60
    go_wp2_with ((go_at_call 79; refine (IA.out _ _ hn).mono ?_; rintro e w' ⟨rfl, hw'⟩; have hzz := ext_sz hw'; obtain ⟨z, rfl⟩ := hw'; (try simp at hzz)))
    go_ret
    exact ⟨rfl, (ext_mk (by (repeat' (first | (with_reducible first | exact Below.refl _ _ | assumption | refine below_ext _ ?_ ?_ | refine Below.alloc ?_ ?_ _ | refine Below.drew ?_ | refine below_drewN ?_ _ | refine le_drewN _ ?_ | refine Below.setCell ?_ ?_ _ | exact Nat.le_refl _ | refine le_ext _ ?_ | refine le_alloc _ ?_ | refine le_setCell _ _ ?_ | refine le_drew ?_) | omega | (simp; done) | (simp; omega)))))⟩
  · have d1 : (d == 1) = false := by simp [h1]
    have ln := itoa_len n (by omega)
    have ld := itoa_len d (by omega)
    have i47 : bS [47] = ⟨#[47]⟩ := rfl
    have E1 := hide (bS_app (Lib.itoa n) [47])
    have E2 := hide (bS_app (Lib.itoa n ++ [47]) (Lib.itoa d))
    have K1 : ¬ 9223372036854775807 < (bS (Lib.itoa n)).size + (bS [47]).size := by rw [bS_size, bS_size]; simp; omega
    have K2 : ¬ 9223372036854775807 < (bS (Lib.itoa n ++ [47])).size + (bS (Lib.itoa d)).size := by rw [bS_size, bS_size]; simp; omega
    rw [← ratT_two h1] at E2
    rw [i47] at E1 K1
    rw [← hIT n] at E1 K1
    rw [← hIT d] at E2 K2
    clear h1 ln ld hIT
    generalize bS (ratT n d) = S at *
    generalize bS (Lib.itoa n ++ [47]) = S1 at *
    have E1' : IT n ++ (⟨#[47]⟩ : ByteArray) = S1 := E1.out
    have E2' : S1 ++ IT d = S := E2.out
    clear E1 E2 i47
    go_enter Tryd.func60, Tryd.ntmps60
    go_wp2_with fail
    refine wp_region_ext (by kernel_rfl) (by kernel_rfl) ?_
    repeat (go_big_quiet_step ((first | (go_at_call 79; exact Calls.in_ext (IA.out _ _ (by first | exact hn | exact hd))))))
    refine wpQuiet_nil ?_
    rintro _ hnq
    have hzq := ext_sz hnq
    obtain ⟨nq, rfl⟩ := hnq
    (try simp at hzq)
    go_wp2_with fail
    go_ret
    exact ⟨rfl, (ext_mk (by (repeat' (first | (with_reducible first | exact Below.refl _ _ | assumption | refine below_ext _ ?_ ?_ | refine Below.alloc ?_ ?_ _ | refine Below.drew ?_ | refine below_drewN ?_ _ | refine le_drewN _ ?_ | refine Below.setCell ?_ ?_ _ | exact Nat.le_refl _ | refine le_ext _ ?_ | refine le_alloc _ ?_ | refine le_setCell _ _ ?_ | refine le_drew ?_) | omega | (simp; done) | (simp; omega)))))⟩
theorem ratE_yes {n d : Int} (h : ratB n d = true) : ratE n d = ratT n d := by unfold ratE; rw [if_pos h]
set_option maxHeartbeats 2000000 in
theorem fmtP_any (a b c d : Int) (w : World) (h1 : ratB a b = true) (h2 : ratB c d = true) : Calls Tryd.prog 32 #[.agg #[.int .i64 a, .int .i64 b, .int .i64 c, .int .i64 d]] w fun e w' => e = .returned (.string (bS (rpE a b c d))) ∧ ∃ x, w' = ext w x := by
  obtain ⟨IT, hIT⟩ : ∃ IT : Int → Int → ByteArray, ∀ n m, IT n m = bS (ratT n m) := ⟨_, fun _ _ => rfl⟩
  obtain ⟨k1, k2, _⟩ := ratB_iff.1 h1
  obtain ⟨k3, k4, _⟩ := ratB_iff.1 h2
  have IA := hide (fun (n m : Int) (W : World) (hh : (n = a ∧ m = b) ∨ (n = c ∧ m = d)) => (fmtR_any n m W (by omega) (by omega)).mono (fun e w' hh => (⟨by rw [hIT n m]; exact hh.1, hh.2⟩ : e = .returned (.string (IT n m)) ∧ ∃ x, w' = ext W x)))
  have l1 := ratT_len a b (by omega) (by omega)
  have l2 := ratT_len c d (by omega) (by omega)
  have i32 : bS [32] = ⟨#[32]⟩ := rfl
  have E1 := hide (bS_app (ratT a b) [32])
  have E2 := hide (bS_app (ratT a b ++ [32]) (ratT c d))
  have K1 : ¬ 9223372036854775807 < (bS (ratT a b)).size + (bS [32]).size := by rw [bS_size, bS_size]; simp; omega
  have K2 : ¬ 9223372036854775807 < (bS (ratT a b ++ [32])).size + (bS (ratT c d)).size := by rw [bS_size, bS_size]; simp; omega
  have EY : rpE a b c d = (ratT a b ++ [32]) ++ ratT c d := by unfold rpE; rw [if_pos ⟨h1, h2⟩, List.append_assoc]
  rw [← EY] at E2
  rw [i32] at E1 K1
  rw [← hIT a b] at E1 K1
  rw [← hIT c d] at E2 K2
  clear h1 h2 l1 l2 hIT EY k1 k2 k3 k4
  generalize bS (rpE a b c d) = S at *
  generalize bS (ratT a b ++ [32]) = S1 at *
  have E1' : IT a b ++ (⟨#[32]⟩ : ByteArray) = S1 := E1.out
  have E2' : S1 ++ IT c d = S := E2.out
  clear E1 E2 i32
  go_enter Tryd.func32, Tryd.ntmps32
  go_wp2_with fail
  refine wp_region_ext (by kernel_rfl) (by kernel_rfl) ?_
  repeat (go_big_quiet_step ((first | (go_at_call 60; exact Calls.in_ext (IA.out _ _ _ (by first | exact .inl ⟨rfl, rfl⟩ | exact .inr ⟨rfl, rfl⟩))))))
  refine wpQuiet_nil ?_
  rintro _ hnq
  have hzq := ext_sz hnq
  obtain ⟨nq, rfl⟩ := hnq
  (try simp at hzq)
  go_wp2_with fail
  go_ret
  exact ⟨rfl, (ext_mk (by (repeat' (first | (with_reducible first | exact Below.refl _ _ | assumption | refine below_ext _ ?_ ?_ | refine Below.alloc ?_ ?_ _ | refine Below.drew ?_ | refine below_drewN ?_ _ | refine le_drewN _ ?_ | refine Below.setCell ?_ ?_ _ | exact Nat.le_refl _ | refine le_ext _ ?_ | refine le_alloc _ ?_ | refine le_setCell _ _ ?_ | refine le_drew ?_) | omega | (simp; done) | (simp; omega)))))⟩
set_option maxHeartbeats 2000000 in
theorem sEncP_any (a b c d : Int) (w : World) : Calls Tryd.prog 11 #[.agg #[.int .i64 a, .int .i64 b, .int .i64 c, .int .i64 d]] w fun e w' => e = .returned (.string (bS (rpE a b c d))) ∧ ∃ x, w' = ext w x := by
  obtain ⟨BT, hBT⟩ : ∃ BT : Int → Int → Bool, ∀ n m, BT n m = ratB n m := ⟨_, fun _ _ => rfl⟩
  have RV := hide (fun (n m : Int) (W : World) => (srat_any n m W).mono (fun e w' hh => (⟨by rw [hBT n m]; exact hh.1, hh.2⟩ : e = .returned (.bool (BT n m)) ∧ ∃ x, w' = ext W x)))
  cases hv : (ratB a b && ratB c d)
  · rw [rpE_no hv, bS_nil]
    rw [Bool.and_eq_false_iff, ← hBT a b, ← hBT c d] at hv
    clear hBT
    by_cases h1 : BT a b = false
    · clear hv
      go_enter Tryd.func11, Tryd.ntmps11
      go_wp2_with ((go_at_call 31; refine (RV.out _ _ _).mono ?_; rintro e w' ⟨rfl, hw'⟩; have hzy := ext_sz hw'; obtain ⟨y, rfl⟩ := hw'; (try simp at hzy)))
      go_ret
      exact ⟨rfl, (ext_mk (by (repeat' (first | (with_reducible first | exact Below.refl _ _ | assumption | refine below_ext _ ?_ ?_ | refine Below.alloc ?_ ?_ _ | refine Below.drew ?_ | refine below_drewN ?_ _ | refine le_drewN _ ?_ | refine Below.setCell ?_ ?_ _ | exact Nat.le_refl _ | refine le_ext _ ?_ | refine le_alloc _ ?_ | refine le_setCell _ _ ?_ | refine le_drew ?_) | omega | (simp; done) | (simp; omega)))))⟩
    · have h1 : BT a b = true := by simpa using h1
      have h2 : BT c d = false := by simpa [h1] using hv
      clear hv
      go_enter Tryd.func11, Tryd.ntmps11
      go_wp2_with ((go_at_call 31; refine (RV.out _ _ _).mono ?_; rintro e w' ⟨rfl, hw'⟩; have hzy := ext_sz hw'; obtain ⟨y, rfl⟩ := hw'; (try simp at hzy)))
      go_ret
      exact ⟨rfl, (ext_mk (by (repeat' (first | (with_reducible first | exact Below.refl _ _ | assumption | refine below_ext _ ?_ ?_ | refine Below.alloc ?_ ?_ _ | refine Below.drew ?_ | refine below_drewN ?_ _ | refine le_drewN _ ?_ | refine Below.setCell ?_ ?_ _ | exact Nat.le_refl _ | refine le_ext _ ?_ | refine le_alloc _ ?_ | refine le_setCell _ _ ?_ | refine le_drew ?_) | omega | (simp; done) | (simp; omega)))))⟩
  · rw [Bool.and_eq_true] at hv
    have FR := hide (fun W => fmtP_any a b c d W hv.1 hv.2)
    rw [← hBT a b, ← hBT c d] at hv
    obtain ⟨h1, h2⟩ := hv
    clear hBT
    generalize bS (rpE a b c d) = S at *
    go_enter Tryd.func11, Tryd.ntmps11
    go_wp2_with (first | (go_at_call 31; refine (RV.out _ _ _).mono ?_; rintro e w' ⟨rfl, hw'⟩; have hzy := ext_sz hw'; obtain ⟨y, rfl⟩ := hw'; (try simp at hzy)) | (go_at_call 32; refine (FR.out _).mono ?_; rintro e w' ⟨rfl, hw'⟩; have hzz := ext_sz hw'; obtain ⟨z, rfl⟩ := hw'; (try simp at hzz)))
    go_ret
    exact ⟨rfl, (ext_mk (by (repeat' (first | (with_reducible first | exact Below.refl _ _ | assumption | refine below_ext _ ?_ ?_ | refine Below.alloc ?_ ?_ _ | refine Below.drew ?_ | refine below_drewN ?_ _ | refine le_drewN _ ?_ | refine Below.setCell ?_ ?_ _ | exact Nat.le_refl _ | refine le_ext _ ?_ | refine le_alloc _ ?_ | refine le_setCell _ _ ?_ | refine le_drew ?_) | omega | (simp; done) | (simp; omega)))))⟩
end Go.Proofs.YtlggmjofglmjcaaDoor
