
/- Fractions: valid ones; texts of numbers, plain. -/
/- The reference's text of a number. -/
/- Texts of numbers and of fractions, and how they are read: plain. -/
import Derived.Test.YtnddfdhfefconaaGreatDoorLeaf
import Derived.Lib.ItoaNum
import Derived.Lib.ItoaLen
import Derived.Lib.AtoiAll
import Derived.Lib.LaidTab
import Derived.Laws.IdiomStrings
import Derived.Lib.ConvBytes
import Derived.Deep.RegionWith
import Derived.Deep.RegionHeld3
import Derived.Lib.IndexMore
import Derived.Lib.IndexLaws
set_option linter.unusedVariables false
set_option linter.unusedSimpArgs false
namespace Go.Proofs.YtnddfdhfefconaaGreatDoor
open Go.RowKit

/-- A string of these bytes. -/
def bS (l : List UInt8) : ByteArray := ⟨l.toArray⟩
theorem bS_app (a b : List UInt8) : bS a ++ bS b = bS (a ++ b) := by
  apply ByteArray.ext
  simp [bS]
theorem bS_list (a : List UInt8) : (bS a).data.toList = a := by simp [bS]
theorem bS_size (a : List UInt8) : (bS a).size = a.length := by simp [bS, ByteArray.size]
theorem bS_inj {a b : List UInt8} (h : bS a = bS b) : a = b := by
  have := congrArg (fun s : ByteArray => s.data.toList) h
  simpa [bS] using this
theorem bS_of (s : ByteArray) : s = bS s.data.toList := by
  apply ByteArray.ext
  simp [bS]

/-! ### a listed table stays -/
theorem tab_below {P : Program} {w w' : World} {name : String} {k : IntKind} {zs : List Int} (h : Lib.TabIs P w name k zs) (hb : Below w.heap.size w w') : Lib.TabIs P w' name k zs := by
  unfold Lib.TabIs World.var? at *
  cases hg : P.globalNamed name with
  | none => simp [hg] at h
  | some g =>
    simp only [hg, Option.bind_some] at h ⊢
    have hlt : g < w.heap.size := by
      rcases Nat.lt_or_ge g w.heap.size with h' | h'
      · exact h'
      · rw [Array.getElem?_eq_none h'] at h; simp at h
    rw [hb.block g hlt]
    exact h

/-! ### greatest common divisors -/
def absR (n : Int) : Int := if 0 ≤ n then n else -n
def gcdR (a b : Int) : Int := (Int.gcd a b : Int)
theorem gcdR_step (a b : Int) : gcdR b (a.tmod b) = gcdR a b := by
  unfold gcdR Int.gcd
  rw [Int.natAbs_tmod, Nat.gcd_comm b.natAbs, ← Nat.gcd_rec, Nat.gcd_comm]
theorem gcdR_end (a : Int) : gcdR a 0 = absR a := by
  unfold gcdR Int.gcd absR
  simp
  split <;> omega
theorem gcdR_abs (a b : Int) : gcdR (absR a) b = gcdR a b := by
  unfold gcdR Int.gcd
  have h : ∀ n : Int, (absR n).natAbs = n.natAbs := fun n => by unfold absR; split <;> omega
  rw [h]
theorem absR_self {a : Int} (h : 0 ≤ a) : absR a = a := if_pos h
theorem tmodR_bd (a b : Int) {M : Int} (ha : -M ≤ a ∧ a ≤ M) : -M ≤ a.tmod b ∧ a.tmod b ≤ M := by
  have h : (a.tmod b).natAbs ≤ a.natAbs := by rw [Int.natAbs_tmod]; exact Nat.mod_le _ _
  omega
theorem tmodR_lt (a : Int) {b : Int} (h : b ≠ 0) : (a.tmod b).natAbs < b.natAbs := by
  rw [Int.natAbs_tmod]; exact Nat.mod_lt _ (by omega)
theorem maxR_neg (n : Int) : max n (-n) = absR n := by unfold absR; rw [Int.max_def]; split <;> split <;> omega
set_option maxHeartbeats 400000 in
theorem iabsR_any (n : Int) (w : World) (hb : -1000000000000 ≤ n ∧ n ≤ 1000000000000) : Calls Tryz.prog 136 #[.int .i64 n] w fun e w' => e = .returned (.int .i64 (absR n)) ∧ w = w' := by
  have HM := hide (maxR_neg n)
  have i1 : IntKind.i64.wrap (-n) = -n := IntWalk.i64_in _ (by omega)
  go_enter Tryz.func136, Tryz.ntmps136
  go_wp2_with fail
  all_goals
    go_ret
    exact ⟨ret_int (by rw [← HM.out]; first | rfl | (simp [Int.max_def]; done) | (rw [Int.max_def]; split <;> omega)), rfl⟩
set_option maxHeartbeats 400000 in
theorem sabsR_any (n : Int) (w : World) (hb : -1000000000000 ≤ n ∧ n ≤ 1000000000000) : Calls Tryz.prog 120 #[.int .i64 n] w fun e w' => e = .returned (.int .i64 (absR n)) ∧ w = w' := by
  by_cases h : n < 0
  · have HV : Hid (absR n = -n) := hide (by unfold absR; rw [if_neg (by omega)])
    have d : decide (n < 0) = true := decide_eq_true h
    go_enter Tryz.func120, Tryz.ntmps120
    go_wp2_with fail
    go_ret
    exact ⟨ret_int HV.out.symm, rfl⟩
  · have HV : Hid (absR n = n) := hide (by unfold absR; rw [if_pos (by omega)])
    have d : decide (n < 0) = false := decide_eq_false h
    go_enter Tryz.func120, Tryz.ntmps120
    go_wp2_with fail
    go_ret
    exact ⟨ret_int HV.out.symm, rfl⟩
set_option maxHeartbeats 1000000 in
theorem divisorR_any (a b : Int) (w : World) (ha : -1000000000000 ≤ a ∧ a ≤ 1000000000000) (hb : -1000000000000 ≤ b ∧ b ≤ 1000000000000) :
    Calls Tryz.prog 187 #[.int .i64 a, .int .i64 b] w fun e w' => e = .returned (.int .i64 (gcdR a b)) ∧ ∃ x, w' = ext w x := by
  go_enter Tryz.func187, Tryz.ntmps187
  go_wp2_with fail
  go_loopw [0, 1] (fun u0 u1 wr => ∃ x y : Int, (-1000000000000 ≤ x ∧ x ≤ 1000000000000) ∧ (-1000000000000 ≤ y ∧ y ≤ 1000000000000) ∧ u0 = .int .i64 x ∧ u1 = .int .i64 y ∧ Hid (gcdR x y = gcdR a b) ∧ ∃ q, wr = ext w q) (fun _ u1 _ => (intOf u1).natAbs)
  case atStart => exact ⟨a, b, ha, hb, rfl, rfl, rfl, ext_same w⟩
  case round =>
    obtain ⟨x, y, hx, hy, rfl, rfl, HG, q, rfl⟩ := hrel
    by_cases h0 : y = 0
    · have d : (y != 0) = false := by simp [h0]
      have HV : Hid (absR x = gcdR a b) := hide (by rw [← HG.out, h0, gcdR_end])
      clear h0 HG
      go_wp2_with fail
      refine (iabsR_any _ _ (by omega)).mono ?_
      rintro e w' ⟨rfl, rfl⟩
      go_wp2_with fail
      go_ret
      exact ⟨ret_int HV.out, (ext_mk (by (repeat' (first | (with_reducible first | exact Below.refl _ _ | assumption | refine below_ext _ ?_ ?_ | refine Below.alloc ?_ ?_ _ | refine Below.drew ?_ | refine below_drewN ?_ _ | refine le_drewN _ ?_ | refine Below.setCell ?_ ?_ _ | exact Nat.le_refl _ | refine le_ext _ ?_ | refine le_alloc _ ?_ | refine le_setCell _ _ ?_ | refine le_drew ?_) | omega | (simp; done) | (simp; omega)))))⟩
    · have d : (y != 0) = true := by simp [h0]
      have HV : Hid (gcdR y (x.tmod y) = gcdR a b) := hide (by rw [gcdR_step]; exact HG.out)
      have HL := tmodR_lt x h0
      have HB := tmodR_bd x y hx
      have i1 : IntKind.i64.wrap (x.tmod y) = x.tmod y := IntWalk.i64_in _ (by omega)
      clear HG
      go_wp2_with fail
      go_region
      go_wp2_with fail
      exact ⟨⟨y, x.tmod y, hy, HB, rfl, rfl, HV, (ext_mk (by (repeat' (first | (with_reducible first | exact Below.refl _ _ | assumption | refine below_ext _ ?_ ?_ | refine Below.alloc ?_ ?_ _ | refine Below.drew ?_ | refine below_drewN ?_ _ | refine le_drewN _ ?_ | refine Below.setCell ?_ ?_ _ | exact Nat.le_refl _ | refine le_ext _ ?_ | refine le_alloc _ ?_ | refine le_setCell _ _ ?_ | refine le_drew ?_) | omega | (simp; done) | (simp; omega)))))⟩, HL⟩
set_option maxHeartbeats 1000000 in
theorem sgcdR_any (a b : Int) (w : World) (ha : 0 ≤ a ∧ a ≤ 1000000000000) (hb : 0 ≤ b ∧ b ≤ 1000000000000) :
    Calls Tryz.prog 170 #[.int .i64 a, .int .i64 b] w fun e w' => e = .returned (.int .i64 (gcdR a b)) ∧ ∃ x, w' = ext w x := by
  go_enter Tryz.func170, Tryz.ntmps170
  go_wp2_with fail
  go_loopw [0, 1] (fun u0 u1 wr => ∃ x y : Int, (0 ≤ x ∧ x ≤ 1000000000000) ∧ (0 ≤ y ∧ y ≤ 1000000000000) ∧ u0 = .int .i64 x ∧ u1 = .int .i64 y ∧ Hid (gcdR x y = gcdR a b) ∧ ∃ q, wr = ext w q) (fun _ u1 _ => (intOf u1).natAbs)
  case atStart => exact ⟨a, b, ha, hb, rfl, rfl, rfl, ext_same w⟩
  case round =>
    obtain ⟨x, y, hx, hy, rfl, rfl, HG, q, rfl⟩ := hrel
    by_cases h0 : y = 0
    · have d : decide (0 < y) = false := decide_eq_false (by omega)
      have HV : Hid (x = gcdR a b) := hide (by rw [← HG.out, h0, gcdR_end, absR_self hx.1])
      clear h0 HG
      go_wp2_with fail
      go_ret
      exact ⟨ret_int HV.out, (ext_mk (by (repeat' (first | (with_reducible first | exact Below.refl _ _ | assumption | refine below_ext _ ?_ ?_ | refine Below.alloc ?_ ?_ _ | refine Below.drew ?_ | refine below_drewN ?_ _ | refine le_drewN _ ?_ | refine Below.setCell ?_ ?_ _ | exact Nat.le_refl _ | refine le_ext _ ?_ | refine le_alloc _ ?_ | refine le_setCell _ _ ?_ | refine le_drew ?_) | omega | (simp; done) | (simp; omega)))))⟩
    · have d : decide (0 < y) = true := decide_eq_true (by omega)
      have HV : Hid (gcdR y (x.tmod y) = gcdR a b) := hide (by rw [gcdR_step]; exact HG.out)
      have HL := tmodR_lt x h0
      have HB := tmodR_bd x y (M := 1000000000000) (by omega)
      have HN : 0 ≤ x.tmod y := Int.tmod_nonneg y hx.1
      rw [Int.tmod_eq_emod_of_nonneg hx.1] at HV HL HB HN
      have i1 : IntKind.i64.wrap (x % y) = x % y := IntWalk.i64_in _ (by omega)
      clear HG
      go_wp2_with fail
      exact ⟨⟨y, x % y, hy, ⟨HN, HB.2⟩, rfl, rfl, HV, (ext_mk (by (repeat' (first | (with_reducible first | exact Below.refl _ _ | assumption | refine below_ext _ ?_ ?_ | refine Below.alloc ?_ ?_ _ | refine Below.drew ?_ | refine below_drewN ?_ _ | refine le_drewN _ ?_ | refine Below.setCell ?_ ?_ _ | exact Nat.le_refl _ | refine le_ext _ ?_ | refine le_alloc _ ?_ | refine le_setCell _ _ ?_ | refine le_drew ?_) | omega | (simp; done) | (simp; omega)))))⟩, HL⟩
/-! ### fractions -/
def ratB (n d : Int) : Bool := inB n (-100000000000) 100000000000 && inB d 1 20000000 && decide (gcdR n d = 1)
theorem ratB_iff {n d : Int} : ratB n d = true ↔ (-100000000000 ≤ n ∧ n ≤ 100000000000) ∧ (1 ≤ d ∧ d ≤ 20000000) ∧ gcdR n d = 1 := by simp [ratB, inB_iff, and_assoc]
theorem ratB_1 {n d : Int} (h : inB n (-100000000000) 100000000000 = false) : ratB n d = false := by simp [ratB, h]
theorem ratB_2 {n d : Int} (h : inB d 1 20000000 = false) : ratB n d = false := by simp [ratB, h]
theorem ratB_3 {n d : Int} (h : inB n (-100000000000) 100000000000 = true) (h2 : inB d 1 20000000 = true) : ratB n d = (gcdR n d == 1) := by
  unfold ratB; rw [h, h2, Bool.eq_iff_iff]; simp
end Go.Proofs.YtnddfdhfefconaaGreatDoor
namespace Go.Proofs.YtnddfdhfefconaaGreatDoor
open Go.RowKit

/-! ### texts, plain -/
theorem dec_lt {u : Nat} (h : u < 10) : Lib.decDigits u = [UInt8.ofNat (48 + u)] := Lib.decDigits_one h
theorem dec_ge {u : Nat} (h : ¬ u < 10) : Lib.decDigits u = Lib.decDigits (u / 10) ++ [UInt8.ofNat (48 + u % 10)] := by rw [Lib.decDigits, dif_neg h]
theorem itoa_pos {n : Int} (h : 0 ≤ n) : Lib.itoa n = Lib.decDigits n.toNat := by unfold Lib.itoa; rw [if_neg (by omega)]
theorem itoa_neg {n : Int} (h : n < 0) : Lib.itoa n = 45 :: Lib.itoa (-n) := by
  rw [itoa_pos (n := -n) (by omega)]; unfold Lib.itoa; rw [if_pos h]; congr 2; omega
theorem itoa_one {n : Int} (h : 0 ≤ n) (h2 : n < 10) : Lib.itoa n = [UInt8.ofNat (48 + n.toNat)] := by rw [itoa_pos h, dec_lt (by omega)]
theorem itoa_more {n : Int} (h : ¬ n < 10) : Lib.itoa n = Lib.itoa (n.tdiv 10) ++ [UInt8.ofNat (48 + (n.tmod 10).toNat)] := by
  have h0 : 0 ≤ n := by omega
  have e1 : n.tdiv 10 = n / 10 := Int.tdiv_eq_ediv_of_nonneg h0
  have e2 : n.tmod 10 = n % 10 := Int.tmod_eq_emod_of_nonneg h0
  rw [itoa_pos h0, dec_ge (by omega), e1, e2, itoa_pos (by omega)]
  congr 2
  · congr 1; omega
  · congr 2; omega
theorem itoa_len (n : Int) (h : -9223372036854775808 ≤ n ∧ n ≤ 9223372036854775807) : (Lib.itoa n).length ≤ 21 := Lib.itoa_length_le n h.1 h.2
/-- string of one byte. -/
theorem run_one (w : World) (a : Addr) (c : Nat) (z : Int) (b : UInt8) (hz : z = (b.toNat : Int)) (hc : w.cell? a = some (.int .u8 z)) :
    (convert 22 9 (.slice (some a) 1 c)).run Tryz.prog w = .ok (.string (bS [b])) w := by
  have := run_convert_bytes_back (P := Tryz.prog) w 22 9 5 a c [b] Tryz.underlying22 Tryz.underlying5 Tryz.underlying9 (fun j hj => by
    have : j = 0 := by simpa using hj
    subst this
    simpa [Addr.add, hz] using hc)
  exact this
set_option maxHeartbeats 2000000 in
theorem fmt_pos : ∀ (f : Nat) (n : Int) (w : World), 0 ≤ n → n.toNat < f → n ≤ 9223372036854775807 →
    Calls Tryz.prog 60 #[.int .i64 n] w fun e w' => e = .returned (.string (bS (Lib.itoa n))) ∧ ∃ x, w' = ext w x
  | 0, n, w, _, h, _ => by omega
  | f + 1, n, w, h0, hf, hx => by
    by_cases h : n < 10
    · have E := hide (itoa_one h0 h)
      have RC := fun (W : World) (b c : Nat) (hc : W.cell? ⟨b, 0, none⟩ = some (.int .u8 (48 + n))) => run_one W ⟨b, 0, none⟩ c (48 + n) (UInt8.ofNat (48 + n.toNat)) (by rw [show (UInt8.ofNat (48 + n.toNat)).toNat = 48 + n.toNat by simp [UInt8.toNat_ofNat']; omega]; omega) hc
      have i1 : IntKind.i64.wrap (48 + n) = 48 + n := IntWalk.i64_in _ (by omega)
      have i2 : IntKind.u8.wrap (48 + n) = 48 + n := IntWalk.u8_in _ (by omega)
      rw [← E.out] at RC
      have d1 : decide (n < -9223372036854775807) = false := decide_eq_false (by omega)
      have d2 : decide (n < 0) = false := decide_eq_false (by omega)
      have d3 : decide (n < 10) = true := decide_eq_true h
      clear E
      generalize bS (Lib.itoa n) = S at *
      go_enter Tryz.func60, Tryz.ntmps60
      go_wp2_with fail
      go_ret
      exact ⟨rfl, (ext_mk (by (repeat' (first | (with_reducible first | exact Below.refl _ _ | assumption | refine below_ext _ ?_ ?_ | refine Below.alloc ?_ ?_ _ | refine Below.drew ?_ | refine below_drewN ?_ _ | refine le_drewN _ ?_ | refine Below.setCell ?_ ?_ _ | exact Nat.le_refl _ | refine le_ext _ ?_ | refine le_alloc _ ?_ | refine le_setCell _ _ ?_ | refine le_drew ?_) | omega | (simp; done) | (simp; omega)))))⟩
    · have E := hide (itoa_more h)
      have h10 : 10 ≤ n := by omega
      have e1 : n.tdiv 10 = n / 10 := Int.tdiv_eq_ediv_of_nonneg h0
      have e2 : n.tmod 10 = n % 10 := Int.tmod_eq_emod_of_nonneg h0
      have IH := hide (fun W => fmt_pos f (n / 10) W (by omega) (by omega) (by omega))
      have RC := fun (W : World) (b c : Nat) (hc : W.cell? ⟨b, 0, none⟩ = some (.int .u8 (48 + n % 10))) => run_one W ⟨b, 0, none⟩ c (48 + n % 10) (UInt8.ofNat (48 + (n % 10).toNat)) (by rw [show (UInt8.ofNat (48 + (n % 10).toNat)).toNat = 48 + (n % 10).toNat by simp [UInt8.toNat_ofNat']; omega]; omega) hc
      rw [e1, e2] at E
      have i0 : IntKind.i64.wrap (n / 10) = n / 10 := IntWalk.i64_in _ (by omega)
      have i3 : IntKind.i64.wrap (n % 10) = n % 10 := IntWalk.i64_in _ (by omega)
      have i1 : IntKind.i64.wrap (48 + n % 10) = 48 + n % 10 := IntWalk.i64_in _ (by omega)
      have i2 : IntKind.u8.wrap (48 + n % 10) = 48 + n % 10 := IntWalk.u8_in _ (by omega)
      have d1 : decide (n < -9223372036854775807) = false := decide_eq_false (by omega)
      have d2 : decide (n < 0) = false := decide_eq_false (by omega)
      have d3 : decide (n < 10) = false := decide_eq_false h
      have EE := hide (bS_app (Lib.itoa (n / 10)) [UInt8.ofNat (48 + (n % 10).toNat)])
      rw [← E.out] at EE
      have KL : ¬ 9223372036854775807 < (bS (Lib.itoa (n / 10))).size + (bS [UInt8.ofNat (48 + (n % 10).toNat)]).size := by
        have := itoa_len (n / 10) (by omega)
        rw [bS_size, bS_size]; simp; omega
      clear E
      generalize bS (Lib.itoa n) = S at *
      generalize bS (Lib.itoa (n / 10)) = S1 at *
      generalize bS [UInt8.ofNat (48 + (n % 10).toNat)] = S2 at *
      go_enter Tryz.func60, Tryz.ntmps60
      go_wp2_with fail
      go_region_with ((go_at_call 60; refine (IH.out _).mono ?_; rintro e w' ⟨rfl, hw'⟩; have hzy := ext_sz hw'; obtain ⟨y, rfl⟩ := hw'; (try simp at hzy)))
      all_goals go_wp2_with fail
      all_goals go_ret
      all_goals exact ⟨by first | rfl | (simp only [EE.out]; rfl) | (simp [EE.out]), (ext_mk (by (repeat' (first | (with_reducible first | exact Below.refl _ _ | assumption | refine below_ext _ ?_ ?_ | refine Below.alloc ?_ ?_ _ | refine Below.drew ?_ | refine below_drewN ?_ _ | refine le_drewN _ ?_ | refine Below.setCell ?_ ?_ _ | exact Nat.le_refl _ | refine le_ext _ ?_ | refine le_alloc _ ?_ | refine le_setCell _ _ ?_ | refine le_drew ?_) | omega | (simp; done) | (simp; omega)))))⟩
theorem sfmt_any (n : Int) (w : World) (h : -9223372036854775808 < n ∧ n ≤ 9223372036854775807) :
    Calls Tryz.prog 60 #[.int .i64 n] w fun e w' => e = .returned (.string (bS (Lib.itoa n))) ∧ ∃ x, w' = ext w x := by
  by_cases h0 : n < 0
  · have FP := hide (fun W => fmt_pos ((-n).toNat + 1) (-n) W (by omega) (by omega) (by omega))
    have E := hide (itoa_neg h0)
    have EE := hide (bS_app [45] (Lib.itoa (-n)))
    rw [List.singleton_append, ← E.out] at EE
    have KL : ¬ 9223372036854775807 < (bS [45]).size + (bS (Lib.itoa (-n))).size := by
      have := itoa_len (-n) (by omega)
      rw [bS_size, bS_size]; simp; omega
    rw [show bS [45] = ⟨#[45]⟩ from rfl] at EE KL
    have i0 : IntKind.i64.wrap (-n) = -n := IntWalk.i64_in _ (by omega)
    have d1 : decide (n < -9223372036854775807) = false := decide_eq_false (by omega)
    have d2 : decide (n < 0) = true := decide_eq_true h0
    clear E
    generalize bS (Lib.itoa n) = S at *
    generalize bS (Lib.itoa (-n)) = S1 at *
    go_enter Tryz.func60, Tryz.ntmps60
    go_wp2_with fail
    refine (FP.out _).mono ?_
    rintro e w' ⟨rfl, hw'⟩; have hzy := ext_sz hw'; obtain ⟨y, rfl⟩ := hw'; (try simp at hzy)
    go_wp2_with fail
    go_ret
    exact ⟨by first | rfl | (simp only [EE.out]; rfl) | (simp [EE.out]), (ext_mk (by (repeat' (first | (with_reducible first | exact Below.refl _ _ | assumption | refine below_ext _ ?_ ?_ | refine Below.alloc ?_ ?_ _ | refine Below.drew ?_ | refine below_drewN ?_ _ | refine le_drewN _ ?_ | refine Below.setCell ?_ ?_ _ | exact Nat.le_refl _ | refine le_ext _ ?_ | refine le_alloc _ ?_ | refine le_setCell _ _ ?_ | refine le_drew ?_) | omega | (simp; done) | (simp; omega)))))⟩
  · exact fmt_pos (n.toNat + 1) n w (by omega) (by omega) h.2
end Go.Proofs.YtnddfdhfefconaaGreatDoor
namespace Go.Proofs.YtnddfdhfefconaaGreatDoor
open Go.RowKit

/-! ### bytes of numerals -/
theorem dig_val {d : Nat} (h : d < 10) : (UInt8.ofNat (48 + d)).toNat = 48 + d := by
  simp [UInt8.toNat_ofNat']; omega
theorem dec_dig : ∀ (u : Nat), ∀ b ∈ Lib.decDigits u, 48 ≤ b.toNat ∧ b.toNat ≤ 57 := by
  intro u
  induction u using Nat.strongRecOn with
  | _ u ih =>
    intro b hb
    by_cases h : u < 10
    · rw [dec_lt h] at hb
      rw [List.mem_singleton.1 hb, dig_val h]; omega
    · rw [dec_ge h] at hb
      rcases List.mem_append.1 hb with hb | hb
      · exact ih _ (by omega) b hb
      · rw [List.mem_singleton.1 hb, dig_val (by omega)]; omega
theorem dec_ne (u : Nat) : Lib.decDigits u ≠ [] := by
  by_cases h : u < 10
  · rw [dec_lt h]; simp
  · rw [dec_ge h]; simp
/-- A number's text has digits and '-' alone. -/
theorem itoa_mem (n : Int) : ∀ b ∈ Lib.itoa n, b.toNat = 45 ∨ (48 ≤ b.toNat ∧ b.toNat ≤ 57) := by
  intro b hb
  unfold Lib.itoa at hb
  split at hb
  · rcases List.mem_cons.1 hb with rfl | hb
    · exact .inl rfl
    · exact .inr (dec_dig _ b hb)
  · exact .inr (dec_dig _ b hb)
theorem itoa_ne (n : Int) : Lib.itoa n ≠ [] := by
  unfold Lib.itoa
  split
  · simp
  · exact dec_ne _
theorem dec_len : ∀ (k u : Nat), u < 10 ^ k → 0 < k → (Lib.decDigits u).length ≤ k
  | 0, u, h, h0 => by omega
  | k + 1, u, h, _ => by
    by_cases hu : u < 10
    · rw [dec_lt hu]; simp
    · rw [dec_ge hu, List.length_append]
      have : 0 < k := by
        rcases Nat.eq_zero_or_pos k with e | e
        · subst e; simp at h; omega
        · exact e
      have := dec_len k (u / 10) (by rw [Nat.pow_succ] at h; omega) this
      simp; omega
/-! ### parsing a numeral -/
theorem parse_app : ∀ (l : List UInt8) (acc u : Nat) (d : Nat), d < 10 → Lib.parseUint10 acc l = .ok u → u * 10 + d < 18446744073709551616 → Lib.parseUint10 acc (l ++ [UInt8.ofNat (48 + d)]) = .ok (u * 10 + d)
  | [], acc, u, d, hd, h, hu => by
    simp only [Lib.parseUint10, Lib.NumEnd.ok.injEq] at h
    subst h
    simp only [List.nil_append, Lib.parseUint10, dig_val hd]
    rw [if_pos (by omega), if_neg (by omega), if_neg (by omega)]
    congr 1; omega
  | c :: r, acc, u, d, hd, h, hu => by
    simp only [List.cons_append, Lib.parseUint10] at h ⊢
    split at h
    · rename_i hc
      rw [if_pos hc]
      split at h
      · cases h
      · rename_i h1
        rw [if_neg h1]
        split at h
        · cases h
        · rename_i h2
          rw [if_neg h2]
          exact parse_app r _ u d hd h hu
    · cases h
theorem parse_dec : ∀ (u : Nat), u < 9223372036854775809 → Lib.parseUint10 0 (Lib.decDigits u) = .ok u := by
  intro u
  induction u using Nat.strongRecOn with
  | _ u ih =>
    intro hu
    by_cases h : u < 10
    · rw [dec_lt h]
      have := parse_app [] 0 0 u h rfl (by omega)
      simpa using this
    · rw [dec_ge h]
      have := parse_app _ 0 (u / 10) (u % 10) (by omega) (ih (u / 10) (by omega) (by omega)) (by omega)
      rw [this]; congr 1; omega
theorem atoi_itoa {n : Int} (h : -9223372036854775808 ≤ n ∧ n ≤ 9223372036854775807) : Lib.atoiAll (Lib.itoa n) = .ok n := by
  have key : ∀ l : List UInt8, l ≠ [] → Lib.parseMag l = Lib.parseUint10 0 l := fun l hl => by unfold Lib.parseMag; rw [if_neg hl]
  by_cases h0 : n < 0
  · rw [itoa_neg h0, itoa_pos (n := -n) (by omega)]
    unfold Lib.atoiAll
    simp only
    rw [if_pos (.inr (by decide)), key _ (dec_ne _), parse_dec _ (by omega)]
    simp
    rw [if_neg (by omega)]
    congr 1; omega
  · rw [itoa_pos (by omega)]
    have hm := dec_dig n.toNat
    have hne := dec_ne n.toNat
    have hp := parse_dec n.toNat (by omega)
    generalize Lib.decDigits n.toNat = l at *
    match l, hne with
    | c :: r, _ =>
      have hc := hm c List.mem_cons_self
      unfold Lib.atoiAll
      simp only
      rw [if_neg (by omega), key _ (by simp), hp]
      simp only
      rw [if_neg (by omega), if_neg (by omega), if_neg (by omega)]
      congr 1; omega
/-! ### cutting at one byte -/
theorem cut_no {l : List UInt8} {c : UInt8} (h : c ∉ l) : Lib.cut l [c] = (l, [], false) := by
  have : ¬ 0 ≤ Lib.index l [c] := by
    rcases Lib.index_spec l [c] with ⟨e, _⟩ | ⟨i, _, hi, ho, _⟩
    · omega
    · unfold Lib.occAt at ho
      simp [List.isPrefixOf] at ho
      exfalso
      cases hd : l.drop i with
      | nil => rw [hd] at ho; simp at ho
      | cons x r =>
        rw [hd] at ho
        simp at ho
        exact h (by have : x ∈ l.drop i := by rw [hd]; simp
                    rw [ho]; exact List.mem_of_mem_drop this)
  unfold Lib.cut
  rw [if_neg this]
theorem cut_at {a b : List UInt8} {c : UInt8} (h : c ∉ a) : Lib.cut (a ++ c :: b) [c] = (a, b, true) := by
  have hi : Lib.index (a ++ c :: b) [c] = (a.length : Nat) := by
    refine Lib.index_hit ?_ (by simp) (by simp [Lib.occAt, List.isPrefixOf])
    intro j hj
    unfold Lib.occAt
    rw [List.drop_append_of_le_length (by omega)]
    cases hd : a.drop j with
    | nil => have := congrArg List.length hd; simp at this; omega
    | cons x r =>
      have : x ∈ a := List.mem_of_mem_drop (by rw [hd]; simp : x ∈ a.drop j)
      simp [List.isPrefixOf]
      intro e; exact h (by rw [e]; exact this)
  unfold Lib.cut
  rw [if_pos (by rw [hi]; omega), hi]
  simp
theorem split_at (l : List UInt8) (c : UInt8) : c ∉ l ∨ ∃ a b, l = a ++ c :: b ∧ c ∉ a := by
  induction l with
  | nil => left; simp
  | cons x r ih =>
    by_cases e : x = c
    · right; exact ⟨[], r, by rw [e]; rfl, by simp⟩
    · rcases ih with h | ⟨a, b, rfl, ha⟩
      · left; simp [h]; exact fun hh => e hh.symm
      · right; exact ⟨x :: a, b, rfl, by simp [ha]; exact fun hh => e hh.symm⟩
/-! ### texts of fractions -/
def ratT (n d : Int) : List UInt8 := if d = 1 then Lib.itoa n else Lib.itoa n ++ ([47] ++ Lib.itoa d)
def ratE (n d : Int) : List UInt8 := if ratB n d = true then ratT n d else []
theorem ratT_ne (n d : Int) : ratT n d ≠ [] := by
  unfold ratT
  split
  · exact itoa_ne n
  · simp
theorem ratT_mem (n d : Int) : (32 : UInt8) ∉ ratT n d := by
  have h : ∀ z : Int, (32 : UInt8) ∉ Lib.itoa z := fun z hz => by
    have := itoa_mem z _ hz
    simp at this
  unfold ratT
  split
  · exact h n
  · simp [h]
theorem itoa_47 (z : Int) : (47 : UInt8) ∉ Lib.itoa z := fun hz => by
  have := itoa_mem z _ hz
  simp at this
/-- l is the text of the fraction n/d. -/
def isR (l : List UInt8) (n d : Int) : Prop := ratB n d = true ∧ ratT n d = l
theorem isR_cut {l : List UInt8} {n d : Int} (h : isR l n d) : Lib.cut l [47] = (Lib.itoa n, if d = 1 then [] else Lib.itoa d, decide (d ≠ 1)) := by
  rw [← h.2]
  unfold ratT
  by_cases e : d = 1
  · rw [if_pos e, if_pos e, cut_no (itoa_47 n)]; simp [e]
  · rw [if_neg e, if_neg e, List.singleton_append, cut_at (itoa_47 n)]; simp [e]
theorem isR_one {l : List UInt8} {n d n' d' : Int} (h : isR l n d) (h' : isR l n' d') : n = n' ∧ d = d' := by
  have c := (isR_cut h).symm.trans (isR_cut h')
  obtain ⟨a, b, _⟩ := ratB_iff.1 h.1
  obtain ⟨a', b', _⟩ := ratB_iff.1 h'.1
  have e1 : Lib.itoa n = Lib.itoa n' := congrArg (·.1) c
  have e2 := congrArg (·.2.1) c
  have e3 : decide (d ≠ 1) = decide (d' ≠ 1) := congrArg (·.2.2) c
  have inj : ∀ x y : Int, (-9223372036854775808 ≤ x ∧ x ≤ 9223372036854775807) → (-9223372036854775808 ≤ y ∧ y ≤ 9223372036854775807) → Lib.itoa x = Lib.itoa y → x = y := fun x y hx hy e => by
    have h1 := atoi_itoa hx
    rw [e, atoi_itoa hy] at h1
    injection h1 with h1
    exact h1.symm
  refine ⟨inj _ _ (by omega) (by omega) e1, ?_⟩
  by_cases k : d = 1
  · have : d' = 1 := by simpa [k] using e3
    omega
  · have k' : d' ≠ 1 := by simpa [k] using e3
    simp only [if_neg k, if_neg k'] at e2
    exact inj _ _ (by omega) (by omega) e2
/-- What DecodeRat answers. -/
noncomputable def decR (l : List UInt8) : Int × Int × Bool := @dite _ (∃ p : Int × Int, isR l p.1 p.2) (Classical.propDecidable _) (fun h => (h.choose.1, h.choose.2, true)) (fun _ => (0, 0, false))
theorem decR_is {l : List UInt8} {n d : Int} (h : isR l n d) : decR l = (n, d, true) := by
  have hx : ∃ p : Int × Int, isR l p.1 p.2 := ⟨(n, d), h⟩
  unfold decR
  rw [dif_pos hx]
  obtain ⟨e1, e2⟩ := isR_one h hx.choose_spec
  rw [← e1, ← e2]
theorem decR_no {l : List UInt8} (h : ∀ n d, ¬ isR l n d) : decR l = (0, 0, false) := by
  unfold decR
  rw [dif_neg (fun ⟨p, hp⟩ => h _ _ hp)]
theorem decR_yes {l : List UInt8} (h : (decR l).2.2 = true) : isR l (decR l).1 (decR l).2.1 := by
  by_cases hx : ∃ p : Int × Int, isR l p.1 p.2
  · obtain ⟨p, hp⟩ := hx
    rw [decR_is hp]; exact hp
  · rw [decR_no (fun n d hh => hx ⟨(n, d), hh⟩)] at h; cases h
theorem decR_out {l : List UInt8} (h : (decR l).2.2 = false) : decR l = (0, 0, false) := by
  by_cases hx : ∃ p : Int × Int, isR l p.1 p.2
  · obtain ⟨p, hp⟩ := hx
    rw [decR_is hp] at h; cases h
  · exact decR_no (fun n d hh => hx ⟨(n, d), hh⟩)
theorem decR_nil : decR [] = (0, 0, false) := decR_no fun n d h => ratT_ne n d h.2
/-! ### the program's way -/
theorem dI_1 {l : List UInt8} (h : ∀ v, Lib.atoiAll (Lib.cut l [47]).1 ≠ .ok v) : decR l = (0, 0, false) := decR_no fun n d hr => by
  obtain ⟨a, b, _⟩ := ratB_iff.1 hr.1
  rw [isR_cut hr] at h
  exact h n (atoi_itoa (by omega))
theorem dI_2 {l : List UInt8} (hp : (Lib.cut l [47]).2.2 = true) (h : ∀ v, Lib.atoiAll (Lib.cut l [47]).2.1 ≠ .ok v) : decR l = (0, 0, false) := decR_no fun n d hr => by
  obtain ⟨a, b, _⟩ := ratB_iff.1 hr.1
  rw [isR_cut hr] at h hp
  have : d ≠ 1 := by simpa using hp
  simp only [if_neg this] at h
  exact h d (atoi_itoa (by omega))
/-- The fraction read. -/
theorem dI_3 {l : List UInt8} {n d : Int} (h1 : Lib.atoiAll (Lib.cut l [47]).1 = .ok n) (h2 : if (Lib.cut l [47]).2.2 = true then Lib.atoiAll (Lib.cut l [47]).2.1 = .ok d else d = 1) : decR l = if ratE n d = l then (n, d, true) else (0, 0, false) := by
  by_cases e : ratE n d = l
  · rw [if_pos e]
    refine decR_is ?_
    unfold ratE at e
    split at e
    · rename_i hb; exact ⟨hb, e⟩
    · exfalso
      rw [← e] at h1
      have : Lib.cut ([] : List UInt8) [47] = ([], [], false) := cut_no (by simp)
      rw [this] at h1
      cases h1
  · rw [if_neg e]
    refine decR_no fun n' d' hr => e ?_
    obtain ⟨a, b, _⟩ := ratB_iff.1 hr.1
    rw [isR_cut hr] at h1 h2
    have e1 : n' = n := by
      rw [atoi_itoa (by omega)] at h1
      injection h1
    have e2 : d' = d := by
      by_cases k : d' = 1
      · simp [k] at h2; omega
      · simp [k] at h2
        rw [atoi_itoa (by omega)] at h2
        injection h2
    rw [e1, e2] at hr
    unfold ratE
    rw [if_pos hr.1]; exact hr.2
/-! ### the reference's way -/
/-- What its loop has read behind k bytes. -/
def parT (l : List UInt8) : Nat → Int
  | 0 => 0
  | k + 1 => 10 * parT l k + ((l.getD k 0).toNat : Int) - 48
theorem parT_bd (l : List UInt8) : ∀ k, 48 - (10 ^ k * 48 : Int) ≤ parT l k ∧ parT l k ≤ 10 ^ k * 207 - 207
  | 0 => by simp [parT]
  | k + 1 => by
    have h := parT_bd l k
    have hb : (l.getD k 0).toNat < 256 := UInt8.toNat_lt _
    have hp : (0 : Int) < 10 ^ k := Int.pow_pos (by omega)
    rw [Int.pow_succ]
    simp only [parT]
    omega
theorem parT_app (l r : List UInt8) : ∀ k, k ≤ l.length → parT (l ++ r) k = parT l k
  | 0, _ => rfl
  | k + 1, h => by
    simp only [parT]
    rw [parT_app l r k (by omega)]
    congr 3
    simp [List.getD_eq_getElem?_getD, List.getElem?_append_left (show k < l.length by omega)]
theorem parT_dec : ∀ (u : Nat), parT (Lib.decDigits u) (Lib.decDigits u).length = u := by
  intro u
  induction u using Nat.strongRecOn with
  | _ u ih =>
    by_cases h : u < 10
    · rw [dec_lt h]
      simp only [List.length_singleton, parT]
      have : ([UInt8.ofNat (48 + u)].getD 0 0) = UInt8.ofNat (48 + u) := rfl
      rw [this, dig_val h]; omega
    · rw [dec_ge h, List.length_append, List.length_singleton]
      simp only [parT]
      rw [parT_app _ _ _ (Nat.le_refl _), ih _ (by omega)]
      have : ((Lib.decDigits (u / 10) ++ [UInt8.ofNat (48 + u % 10)]).getD (Lib.decDigits (u / 10)).length 0) = UInt8.ofNat (48 + u % 10) := by simp
      rw [this, dig_val (by omega)]; omega
/-- parseInt: at most 12 digits behind the sign. -/
def parI (l : List UInt8) : Int := if l.head? = some 45 then -parT (l.drop 1) (min 12 (l.drop 1).length) else parT l (min 12 l.length)
theorem parI_itoa {n : Int} (h : -100000000000 ≤ n ∧ n ≤ 100000000000) : parI (Lib.itoa n) = n := by
  by_cases h0 : n < 0
  · have hl := dec_len 12 (-n).toNat (by omega) (by omega)
    rw [itoa_neg h0, itoa_pos (n := -n) (by omega)]
    unfold parI
    rw [if_pos (show (45 :: Lib.decDigits (-n).toNat).head? = some 45 from rfl), List.drop_one, List.tail_cons, Nat.min_eq_right hl, parT_dec]
    omega
  · have hl := dec_len 12 n.toNat (by omega) (by omega)
    rw [itoa_pos (by omega)]
    have hd := dec_dig n.toNat
    unfold parI
    rw [if_neg (fun e => by
      have := hd 45 (List.mem_of_mem_head? (by rw [e]; rfl))
      simp at this), Nat.min_eq_right hl, parT_dec]
    omega
theorem parI_bd (l : List UInt8) : -1000000000000000 ≤ parI l ∧ parI l ≤ 1000000000000000 := by
  have key : ∀ (m : List UInt8) k, k ≤ 12 → -207000000000000 ≤ parT m k ∧ parT m k ≤ 207000000000000 := fun m k hk => by
    have h := parT_bd m k
    have hp : (10 : Int) ^ k ≤ 10 ^ 12 := by
      have := Nat.pow_le_pow_right (show 0 < 10 by omega) hk
      exact_mod_cast this
    have h0 : (0 : Int) < 10 ^ k := Int.pow_pos (by omega)
    omega
  unfold parI
  split
  · have := key (l.drop 1) _ (Nat.min_le_left 12 (l.drop 1).length); omega
  · have := key l _ (Nat.min_le_left 12 l.length); omega
theorem dS {l : List UInt8} : decR l = (let c := Lib.cut l [47]; let n := parI c.1; let d := if c.2.2 then parI c.2.1 else 1; if ratB n d = true ∧ ratT n d = l then (n, d, true) else (0, 0, false)) := by
  simp only
  generalize hn : parI (Lib.cut l [47]).1 = n0
  generalize hd : (if (Lib.cut l [47]).2.2 = true then parI (Lib.cut l [47]).2.1 else 1) = d0
  by_cases h : ratB n0 d0 = true ∧ ratT n0 d0 = l
  · rw [if_pos h]; exact decR_is h
  · rw [if_neg h]
    refine decR_no fun n d hr => h ?_
    obtain ⟨a, b, _⟩ := ratB_iff.1 hr.1
    rw [isR_cut hr] at hn hd
    simp only at hn hd
    rw [parI_itoa (by omega)] at hn
    have e : d0 = d := by
      by_cases k : d = 1
      · simp [k] at hd; omega
      · simp only [if_neg k] at hd
        rw [if_pos (by simp [k]), parI_itoa (by omega)] at hd
        exact hd.symm
    rw [← hn, e]
    exact hr
/-! ### points with fractions -/
def rpE (a b c d : Int) : List UInt8 := if ratB a b = true ∧ ratB c d = true then ratT a b ++ ([32] ++ ratT c d) else []
/-- What DecodeRatPoint answers. -/
noncomputable def decP (l : List UInt8) : (Int × Int × Int × Int) × Bool :=
  if (decR (Lib.cut l [32]).1).2.2 = true ∧ (decR (Lib.cut l [32]).2.1).2.2 = true then (((decR (Lib.cut l [32]).1).1, (decR (Lib.cut l [32]).1).2.1, (decR (Lib.cut l [32]).2.1).1, (decR (Lib.cut l [32]).2.1).2.1), true) else ((0, 0, 0, 0), false)
theorem decP_text {a b c d : Int} (h : ratB a b = true ∧ ratB c d = true) : decP (rpE a b c d) = ((a, b, c, d), true) := by
  unfold decP rpE
  rw [if_pos h, List.singleton_append, cut_at (ratT_mem a b)]
  have h1 := decR_is (l := ratT a b) ⟨h.1, rfl⟩
  have h2 := decR_is (l := ratT c d) ⟨h.2, rfl⟩
  simp [h1, h2]
theorem decP_canon {l : List UInt8} (h : (decP l).2 = true) : rpE (decP l).1.1 (decP l).1.2.1 (decP l).1.2.2.1 (decP l).1.2.2.2 = l ∧ l ≠ [] := by
  unfold decP at h ⊢
  split at h
  · rename_i hh
    rw [if_pos hh]
    have h1 := decR_yes hh.1
    have h2 := decR_yes hh.2
    rcases split_at l 32 with hc | ⟨a, b, rfl, ha⟩
    · rw [cut_no hc] at hh
      have := hh.2
      rw [decR_nil] at this
      cases this
    · rw [cut_at ha] at h1 h2 ⊢
      refine ⟨?_, by simp⟩
      unfold rpE
      simp only
      rw [if_pos ⟨h1.1, h2.1⟩, h1.2, h2.2, List.singleton_append]
  · cases h
end Go.Proofs.YtnddfdhfefconaaGreatDoor
