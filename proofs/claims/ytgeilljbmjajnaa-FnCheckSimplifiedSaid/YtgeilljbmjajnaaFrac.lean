
/- The reference's comparison of fractions, its worst point, its simplification. -/
import Derived.Test.YtgeilljbmjajnaaTop
set_option linter.unusedVariables false
set_option linter.unusedSimpArgs false
namespace Go.Proofs.Ytgeilljbmjajnaa
open Go.RowKit

theorem frac_quo {a b c d : Int} (hb : 1 ≤ b) (hd : 1 ≤ d) (h : a / b ≠ c / d) : (a / b < c / d) ↔ (a * d < c * b) := by
  have ea := Int.mul_ediv_add_emod a b
  have ec := Int.mul_ediv_add_emod c d
  have ra := Int.emod_nonneg a (b := b) (by omega)
  have rb := Int.emod_lt_of_pos a (b := b) (by omega)
  have rc := Int.emod_nonneg c (b := d) (by omega)
  have rd := Int.emod_lt_of_pos c (b := d) (by omega)
  generalize a / b = p at *
  generalize c / d = q at *
  generalize a % b = r at *
  generalize c % d = s at *
  subst ea ec
  constructor
  · intro hlt
    have h1 : (b * p + r) * d < (b * (p + 1)) * d := Int.mul_lt_mul_of_pos_right (by rw [Int.mul_add, Int.mul_one]; omega) (by omega)
    have h2 : b * (p + 1) * d ≤ b * q * d := Int.mul_le_mul_of_nonneg_right (Int.mul_le_mul_of_nonneg_left (by omega) (by omega)) (by omega)
    have h3 : (d * q + s) * b ≥ d * q * b := Int.mul_le_mul_of_nonneg_right (by omega) (by omega)
    have h4 : b * q * d = d * q * b := by rw [Int.mul_assoc, Int.mul_comm b, Int.mul_comm q d]
    omega
  · intro hlt
    rcases Int.lt_or_le p q with h1 | h1
    · exact h1
    · exfalso
      have h5 : (d * q + s) * b < (d * (q + 1)) * b := Int.mul_lt_mul_of_pos_right (by rw [Int.mul_add, Int.mul_one]; omega) (by omega)
      have h6 : d * (q + 1) * b ≤ d * p * b := Int.mul_le_mul_of_nonneg_right (Int.mul_le_mul_of_nonneg_left (by omega) (by omega)) (by omega)
      have h7 : (b * p + r) * d ≥ b * p * d := Int.mul_le_mul_of_nonneg_right (by omega) (by omega)
      have h8 : b * p * d = d * p * b := by rw [Int.mul_assoc, Int.mul_comm b, Int.mul_comm p d]
      omega
theorem frac_rem {a b c d : Int} (h : a / b = c / d) : (a % b * d < c % d * b) ↔ (a * d < c * b) := by
  have ea := Int.mul_ediv_add_emod a b
  have ec := Int.mul_ediv_add_emod c d
  rw [h] at ea
  generalize c / d = q at *
  generalize a % b = r at *
  generalize c % d = s at *
  subst ea ec
  rw [Int.add_mul, Int.add_mul]
  have : b * q * d = d * q * b := by rw [Int.mul_assoc, Int.mul_comm b, Int.mul_comm q d]
  constructor <;> intro <;> omega

set_option maxHeartbeats 1000000 in
theorem fractionLess_any (a b c d : Int) (w : World) (ha : 0 ≤ a ∧ a ≤ 1000000000000000) (hb : 1 ≤ b ∧ b ≤ 1000000000000000) (hc : 0 ≤ c ∧ c ≤ 1000000000000000) (hd : 1 ≤ d ∧ d ≤ 1000000000000000) :
    Calls Try.prog 75 #[.int .i64 a, .int .i64 b, .int .i64 c, .int .i64 d] w fun e w' => e = .returned (.bool (decide (a * d < c * b))) ∧ ∃ x, w' = ext w x := by
  obtain ⟨T, hT⟩ : ∃ T : Bool, T = decide (a * d < c * b) := ⟨_, rfl⟩
  rw [← hT]
  have HT0 : Hid ((a * d < c * b) ↔ T = true) := by unfold Hid; rw [hT, decide_eq_true_iff]
  clear hT
  go_enter Try.func75, Try.ntmps75
  go_wp2
  go_loopw [0, 1, 2, 3] (fun u0 u1 u2 u3 wr => ∃ a b c d : Int, u0 = .int .i64 a ∧ u1 = .int .i64 b ∧ u2 = .int .i64 c ∧ u3 = .int .i64 d ∧ (0 ≤ a ∧ a ≤ 1000000000000000) ∧ (1 ≤ b ∧ b ≤ 1000000000000000) ∧ (0 ≤ c ∧ c ≤ 1000000000000000) ∧ (1 ≤ d ∧ d ≤ 1000000000000000) ∧
    Hid ((a * d < c * b) ↔ T = true) ∧ ∃ x, wr = ext w x) (fun _ u1 _ u3 _ => (intOf u1 + intOf u3).toNat)
  case atStart => exact ⟨a, b, c, d, rfl, rfl, rfl, rfl, ha, hb, hc, hd, HT0, ext_same w⟩
  case round =>
    clear ha hb hc hd HT0
    obtain ⟨a, b, c, d, rfl, rfl, rfl, rfl, ha, hb, hc, hd, HT, x, rfl⟩ := hrel
    by_cases hq : a / b = c / d
    · have ra := Int.emod_nonneg a (b := b) (by omega)
      have rb := Int.emod_lt_of_pos a (b := b) (by omega)
      have rc := Int.emod_nonneg c (b := d) (by omega)
      have rd := Int.emod_lt_of_pos c (b := d) (by omega)
      have hne : (a / b != c / d) = false := by rw [hq]; simp
      have HR := hide ((frac_rem hq).trans HT.out)
      clear hq
      by_cases hc0 : c % d = 0
      · have HF : Hid (T = false) := by
          unfold Hid; rw [← Bool.not_eq_true, ← HR.out, hc0]
          have := Int.mul_nonneg ra (b := d) (by omega)
          omega
        go_wp2
        refine wp_region_ext (by kernel_rfl) (by kernel_rfl) ?_
        repeat (go_big_quiet_step (fail))
        refine wpQuiet_nil ?_
        rintro _ hnq
        have hzq := ext_sz hnq
        obtain ⟨nq, rfl⟩ := hnq
        (try simp at hzq)
        go_wp2
        go_ret
        exact ⟨ret_bool HF.out.symm, (ext_mk (by (repeat' (first | (with_reducible exact Below.refl _ _) | (with_reducible assumption) | (with_reducible refine below_ext _ ?_ ?_) | (with_reducible refine Below.alloc ?_ ?_ _) | (with_reducible refine Below.drew ?_) | (with_reducible refine below_drewN ?_ _) | (with_reducible refine le_drewN _ ?_) | (with_reducible refine Below.setCell ?_ ?_ _) | (with_reducible exact Nat.le_refl _) | (with_reducible refine le_ext _ ?_) | (with_reducible refine le_alloc _ ?_) | (with_reducible refine le_setCell _ _ ?_) | (with_reducible refine le_drew ?_) | omega | (simp; done) | (simp; omega)))))⟩
      have hcb : (c % d == 0) = false := by simpa using hc0
      by_cases ha0 : a % b = 0
      · have HF : Hid (T = true) := by
          unfold Hid; rw [← HR.out, ha0]
          have := Int.mul_pos (a := c % d) (b := b) (by omega) (by omega)
          omega
        clear hc0
        go_wp2
        refine wp_region_ext (by kernel_rfl) (by kernel_rfl) ?_
        repeat (go_big_quiet_step (fail))
        refine wpQuiet_nil ?_
        rintro _ hnq
        have hzq := ext_sz hnq
        obtain ⟨nq, rfl⟩ := hnq
        (try simp at hzq)
        go_wp2
        go_ret
        exact ⟨ret_bool HF.out.symm, (ext_mk (by (repeat' (first | (with_reducible exact Below.refl _ _) | (with_reducible assumption) | (with_reducible refine below_ext _ ?_ ?_) | (with_reducible refine Below.alloc ?_ ?_ _) | (with_reducible refine Below.drew ?_) | (with_reducible refine below_drewN ?_ _) | (with_reducible refine le_drewN _ ?_) | (with_reducible refine Below.setCell ?_ ?_ _) | (with_reducible exact Nat.le_refl _) | (with_reducible refine le_ext _ ?_) | (with_reducible refine le_alloc _ ?_) | (with_reducible refine le_setCell _ _ ?_) | (with_reducible refine le_drew ?_) | omega | (simp; done) | (simp; omega)))))⟩
      · have hab : (a % b == 0) = false := by simpa using ha0
        have b1 : 1 ≤ a % b := by omega
        have b2 : 1 ≤ c % d := by omega
        have HS : Hid ((d * (a % b) < b * (c % d)) ↔ T = true) := by
          unfold Hid; rw [← HR.out, Int.mul_comm d, Int.mul_comm b]
        clear hc0 ha0
        go_wp2
        refine wp_region_ext (by kernel_rfl) (by kernel_rfl) ?_
        repeat (go_big_quiet_step (fail))
        refine wpQuiet_nil ?_
        rintro _ hnq
        have hzq := ext_sz hnq
        obtain ⟨nq, rfl⟩ := hnq
        (try simp at hzq)
        go_wp2
        exact ⟨⟨d, c % d, b, a % b, rfl, rfl, rfl, rfl, by omega, by omega, by omega, by omega, HS, (ext_mk (by (repeat' (first | (with_reducible exact Below.refl _ _) | (with_reducible assumption) | (with_reducible refine below_ext _ ?_ ?_) | (with_reducible refine Below.alloc ?_ ?_ _) | (with_reducible refine Below.drew ?_) | (with_reducible refine below_drewN ?_ _) | (with_reducible refine le_drewN _ ?_) | (with_reducible refine Below.setCell ?_ ?_ _) | (with_reducible exact Nat.le_refl _) | (with_reducible refine le_ext _ ?_) | (with_reducible refine le_alloc _ ?_) | (with_reducible refine le_setCell _ _ ?_) | (with_reducible refine le_drew ?_) | omega | (simp; done) | (simp; omega)))))⟩, by simp [intOf]; omega⟩
    · have hne : (a / b != c / d) = true := by simpa using hq
      have HR := hide ((frac_quo hb.1 hd.1 hq).trans HT.out)
      clear hq
      go_wp2
      refine wp_region_ext (by kernel_rfl) (by kernel_rfl) ?_
      repeat (go_big_quiet_step (fail))
      refine wpQuiet_nil ?_
      rintro _ hnq
      have hzq := ext_sz hnq
      obtain ⟨nq, rfl⟩ := hnq
      (try simp at hzq)
      go_wp2
      refine wp_region_ext (by kernel_rfl) (by kernel_rfl) ?_
      repeat (go_big_quiet_step (fail))
      refine wpQuiet_nil ?_
      rintro _ hnq
      have hzq := ext_sz hnq
      obtain ⟨nq, rfl⟩ := hnq
      (try simp at hzq)
      go_wp2
      go_ret
      exact ⟨ret_bool (by rw [Bool.eq_iff_iff, ← HR.out]; simp), (ext_mk (by (repeat' (first | (with_reducible exact Below.refl _ _) | (with_reducible assumption) | (with_reducible refine below_ext _ ?_ ?_) | (with_reducible refine Below.alloc ?_ ?_ _) | (with_reducible refine Below.drew ?_) | (with_reducible refine below_drewN ?_ _) | (with_reducible refine le_drewN _ ?_) | (with_reducible refine Below.setCell ?_ ?_ _) | (with_reducible exact Nat.le_refl _) | (with_reducible refine le_ext _ ?_) | (with_reducible refine le_alloc _ ?_) | (with_reducible refine le_setCell _ _ ?_) | (with_reducible refine le_drew ?_) | omega | (simp; done) | (simp; omega)))))⟩
def sOut (ps : List Pt) (f t k : Nat) : Nat := (sbest ps f t k).getD f
def sN (ps : List Pt) (f t k : Nat) : Int := match sbest ps f t k with | none => 0 | some b => devAtN ps f t b
def sD (ps : List Pt) (f t k : Nat) : Int := match sbest ps f t k with | none => 1 | some b => devAtD ps f t b
def sTest (ps : List Pt) (f t k : Nat) : Bool := decide (sN ps f t k * devAtD ps f t (f + 1 + k) < devAtN ps f t (f + 1 + k) * sD ps f t k)
theorem s_yes {ps : List Pt} {f t k : Nat} (h : sTest ps f t k = true) : sOut ps f t (k + 1) = f + 1 + k ∧ sN ps f t (k + 1) = devAtN ps f t (f + 1 + k) ∧ sD ps f t (k + 1) = devAtD ps f t (f + 1 + k) := by
  have : sbest ps f t (k + 1) = some (f + 1 + k) := by
    rw [sbest]
    unfold sTest sN sD at h
    cases hb : sbest ps f t k with
    | none =>
      rw [hb] at h; simp only at h
      show (if nzB ps f t (f + 1 + k) = true then some (f + 1 + k) else none) = _
      rw [if_pos (by unfold nzB; simpa using h)]
    | some b =>
      rw [hb] at h; simp only at h
      show (if gtB ps f t (f + 1 + k) b = true then some (f + 1 + k) else some b) = _
      rw [if_pos (by unfold gtB; exact h)]
  unfold sOut sN sD; rw [this]; exact ⟨rfl, rfl, rfl⟩
theorem s_no {ps : List Pt} {f t k : Nat} (h : sTest ps f t k = false) : sOut ps f t (k + 1) = sOut ps f t k ∧ sN ps f t (k + 1) = sN ps f t k ∧ sD ps f t (k + 1) = sD ps f t k := by
  have : sbest ps f t (k + 1) = sbest ps f t k := by
    rw [sbest]
    unfold sTest sN sD at h
    cases hb : sbest ps f t k with
    | none =>
      rw [hb] at h; simp only at h
      show (if nzB ps f t (f + 1 + k) = true then some (f + 1 + k) else none) = _
      rw [if_neg (by unfold nzB; rw [Bool.not_eq_true]; simpa using h)]
    | some b =>
      rw [hb] at h; simp only at h
      show (if gtB ps f t (f + 1 + k) b = true then some (f + 1 + k) else some b) = _
      rw [if_neg (by unfold gtB; rw [Bool.not_eq_true]; exact h)]
  unfold sOut sN sD; rw [this]; exact ⟨rfl, rfl, rfl⟩
theorem dev_bds {ps : List Pt} (hall : allOk ps = true) {f t i : Nat} (hf : f < ps.length) (ht : t < ps.length) (hi : i < ps.length) : (0 ≤ devAtN ps f t i ∧ devAtN ps f t i ≤ 64000000000000) ∧ (1 ≤ devAtD ps f t i ∧ devAtD ps f t i ≤ 8000000) :=
  ⟨devN_bd (inR_ok hall hf) (inR_ok hall ht) (inR_ok hall hi), devD_bd (inR_ok hall hf) (inR_ok hall ht)⟩
theorem s_bds {ps : List Pt} (hall : allOk ps = true) {f t k : Nat} (hf : f < ps.length) (ht : t < ps.length) (hk : f + 1 + k ≤ t) : (0 ≤ sN ps f t k ∧ sN ps f t k ≤ 64000000000000) ∧ (1 ≤ sD ps f t k ∧ sD ps f t k ≤ 8000000) := by
  unfold sN sD
  cases hb : sbest ps f t k with
  | none => simp
  | some b =>
    have := sbest_bd hb
    exact dev_bds hall hf ht (by omega)
def sOutK (ps : List Pt) (f t k : Nat) : Nat := sOut ps f t (k - (f + 1))
def sNK (ps : List Pt) (f t k : Nat) : Int := sN ps f t (k - (f + 1))
def sDK (ps : List Pt) (f t k : Nat) : Int := sD ps f t (k - (f + 1))
def sTestK (ps : List Pt) (f t k : Nat) : Bool := decide (sNK ps f t k * devAtD ps f t k < devAtN ps f t k * sDK ps f t k)
theorem sK_yes {ps : List Pt} {f t k : Nat} (hk : f + 1 ≤ k) (h : sTestK ps f t k = true) : sOutK ps f t (k + 1) = k ∧ sNK ps f t (k + 1) = devAtN ps f t k ∧ sDK ps f t (k + 1) = devAtD ps f t k := by
  obtain ⟨j, rfl⟩ : ∃ j, k = f + 1 + j := ⟨k - (f + 1), by omega⟩
  unfold sTestK sNK sDK at h
  unfold sOutK sNK sDK
  rw [show f + 1 + j + 1 - (f + 1) = j + 1 from by omega]
  rw [show f + 1 + j - (f + 1) = j from by omega] at h
  exact s_yes h
theorem sK_no {ps : List Pt} {f t k : Nat} (hk : f + 1 ≤ k) (h : sTestK ps f t k = false) : sOutK ps f t (k + 1) = sOutK ps f t k ∧ sNK ps f t (k + 1) = sNK ps f t k ∧ sDK ps f t (k + 1) = sDK ps f t k := by
  obtain ⟨j, rfl⟩ : ∃ j, k = f + 1 + j := ⟨k - (f + 1), by omega⟩
  unfold sTestK sNK sDK at h
  unfold sOutK sNK sDK
  rw [show f + 1 + j + 1 - (f + 1) = j + 1 from by omega, show f + 1 + j - (f + 1) = j from by omega]
  rw [show f + 1 + j - (f + 1) = j from by omega] at h
  exact s_no h
theorem sK_bds {ps : List Pt} (hall : allOk ps = true) {f t k : Nat} (hf : f < ps.length) (ht : t < ps.length) (hk : f + 1 ≤ k) (hk2 : k ≤ t) : (0 ≤ sNK ps f t k ∧ sNK ps f t k ≤ 64000000000000) ∧ (1 ≤ sDK ps f t k ∧ sDK ps f t k ≤ 8000000) :=
  s_bds hall hf ht (by omega)
theorem sK_start (ps : List Pt) (f t : Nat) : sOutK ps f t (f + 1) = f ∧ sNK ps f t (f + 1) = 0 ∧ sDK ps f t (f + 1) = 1 := by
  unfold sOutK sNK sDK; rw [Nat.sub_self]; exact ⟨rfl, rfl, rfl⟩
set_option maxHeartbeats 1000000 in
theorem worst_any (ps : List Pt) (f t : Nat) (A : Option Addr) (n c : Nat) (w : World) (hn : ps.length = n) (hm : n ≤ 2000000) (hall : allOk ps = true) (hft : f < t) (ht : t < n) (hs : PtsAt w w.heap.size A ps) :
    Calls Try.prog 69 #[.slice A n c, .int .i64 f, .int .i64 t] w fun e w' => e = .returned (.int .i64 (sOutK ps f t t : Nat)) ∧ ∃ x, w' = ext w x := by
  have HALL := hide hall
  clear hall
  go_enter Try.func69, Try.ntmps69
  go_wp2
  go_loopw [7, 8, 9, 10] (fun u7 u8 u9 u10 wr => ∃ k : Nat, f + 1 ≤ k ∧ k ≤ t ∧ u7 = .int .i64 (sOutK ps f t k : Nat) ∧ u8 = .int .i64 (sNK ps f t k) ∧ u9 = .int .i64 (sDK ps f t k) ∧ u10 = .int .i64 k ∧ ∃ x, wr = ext w x) (fun _ _ _ u10 _ => t - (intOf u10).toNat)
  case atStart =>
    obtain ⟨h1, h2, h3⟩ := sK_start ps f t
    exact ⟨f + 1, by omega, by omega, by rw [h1], by rw [h2], by rw [h3], by go_num, ext_same w⟩
  case round =>
    obtain ⟨k, hk1, hk2, rfl, rfl, rfl, rfl, x, rfl⟩ := hrel
    have hsz := ext_size w x
    by_cases hlt : k < t
    · obtain ⟨⟨n1, n2⟩, n3, n4⟩ := dev_bds HALL.out (f := f) (t := t) (i := k) (by omega) (by omega) (by omega)
      obtain ⟨⟨s1, s2⟩, s3, s4⟩ := sK_bds HALL.out (f := f) (t := t) (k := k) (by omega) (by omega) (by omega) (by omega)
      have HT : Hid (decide (sNK ps f t k * devAtD ps f t k < devAtN ps f t k * sDK ps f t k) = sTestK ps f t k) := rfl
      cases hte : sTestK ps f t k
      all_goals
        rw [hte] at HT
        have HTE := hide hte
        clear hte
        go_wp2_with fail
        (go_at_call 36; refine (deviation_any ps _ _ _ _ _ _ _ hn hm HALL.out (by omega) (by omega) (by omega) (hs.to (by (repeat' (first | (with_reducible exact Below.refl _ _) | (with_reducible assumption) | (with_reducible refine below_ext _ ?_ ?_) | (with_reducible refine Below.alloc ?_ ?_ _) | (with_reducible refine Below.drew ?_) | (with_reducible refine below_drewN ?_ _) | (with_reducible refine le_drewN _ ?_) | (with_reducible refine Below.setCell ?_ ?_ _) | (with_reducible exact Nat.le_refl _) | (with_reducible refine le_ext _ ?_) | (with_reducible refine le_alloc _ ?_) | (with_reducible refine le_setCell _ _ ?_) | (with_reducible refine le_drew ?_) | omega | (simp; done) | (simp; omega)))))).mono ?_; rintro e w' ⟨rfl, hw'⟩; have hzy := ext_sz hw'; obtain ⟨y, rfl⟩ := hw'; (try simp at hzy))
        go_wp2_with fail
        (go_at_call 75; refine (fractionLess_any _ _ _ _ _ (by omega) (by omega) (by omega) (by omega)).mono ?_; rintro e w' ⟨rfl, hw'⟩; have hzz := ext_sz hw'; obtain ⟨z, rfl⟩ := hw'; (try simp at hzz))
        rw [HT.out]
        go_wp2
      · obtain ⟨e1, e2, e3⟩ := sK_no hk1 HTE.out
        exact ⟨⟨k + 1, by omega, by omega, by rw [e1], by rw [e2], by rw [e3], by go_num, (ext_mk (by (repeat' (first | (with_reducible exact Below.refl _ _) | (with_reducible assumption) | (with_reducible refine below_ext _ ?_ ?_) | (with_reducible refine Below.alloc ?_ ?_ _) | (with_reducible refine Below.drew ?_) | (with_reducible refine below_drewN ?_ _) | (with_reducible refine le_drewN _ ?_) | (with_reducible refine Below.setCell ?_ ?_ _) | (with_reducible exact Nat.le_refl _) | (with_reducible refine le_ext _ ?_) | (with_reducible refine le_alloc _ ?_) | (with_reducible refine le_setCell _ _ ?_) | (with_reducible refine le_drew ?_) | omega | (simp; done) | (simp; omega)))))⟩, by simp [intOf]; omega⟩
      · obtain ⟨e1, e2, e3⟩ := sK_yes hk1 HTE.out
        exact ⟨⟨k + 1, by omega, by omega, by rw [e1], by rw [e2], by rw [e3], by go_num, (ext_mk (by (repeat' (first | (with_reducible exact Below.refl _ _) | (with_reducible assumption) | (with_reducible refine below_ext _ ?_ ?_) | (with_reducible refine Below.alloc ?_ ?_ _) | (with_reducible refine Below.drew ?_) | (with_reducible refine below_drewN ?_ _) | (with_reducible refine le_drewN _ ?_) | (with_reducible refine Below.setCell ?_ ?_ _) | (with_reducible exact Nat.le_refl _) | (with_reducible refine le_ext _ ?_) | (with_reducible refine le_alloc _ ?_) | (with_reducible refine le_setCell _ _ ?_) | (with_reducible refine le_drew ?_) | omega | (simp; done) | (simp; omega)))))⟩, by simp [intOf]; omega⟩
    · have : k = t := by omega
      subst this
      go_wp2
      go_ret
      exact ⟨rfl, (ext_mk (by (repeat' (first | (with_reducible exact Below.refl _ _) | (with_reducible assumption) | (with_reducible refine below_ext _ ?_ ?_) | (with_reducible refine Below.alloc ?_ ?_ _) | (with_reducible refine Below.drew ?_) | (with_reducible refine below_drewN ?_ _) | (with_reducible refine le_drewN _ ?_) | (with_reducible refine Below.setCell ?_ ?_ _) | (with_reducible exact Nat.le_refl _) | (with_reducible refine le_ext _ ?_) | (with_reducible refine le_alloc _ ?_) | (with_reducible refine le_setCell _ _ ?_) | (with_reducible refine le_drew ?_) | omega | (simp; done) | (simp; omega)))))⟩
end Go.Proofs.Ytgeilljbmjajnaa
