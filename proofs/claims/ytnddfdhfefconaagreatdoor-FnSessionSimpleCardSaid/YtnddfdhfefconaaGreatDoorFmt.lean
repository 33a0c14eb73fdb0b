
/- The reference's text of a number. -/
import Derived.Test.YtnddfdhfefconaaGreatDoorNum
import Derived.Laws.IdiomStrings
import Derived.Lib.ConvBytes
import Derived.Deep.RegionWith
import Derived.Deep.RegionHeld3
set_option linter.unusedVariables false
set_option linter.unusedSimpArgs false
namespace Go.Proofs.YtnddfdhfefconaaGreatDoor
open Go.RowKit

/-! ### texts, plain -/
theorem dec_lt {u : Nat} (h : u < 10) : Lib.decDigits u = [UInt8.ofNat (48 + u)] := Lib.decDigits_one h
theorem dec_ge {u : Nat} (h : ¬ u < 10) : Lib.decDigits u = Lib.decDigits (u / 10) ++ [UInt8.ofNat (48 + u % 10)] := by rw [Lib.decDigits, dif_neg h]
theorem itoa_pos {n : Int} (h : 0 ≤ n) : Lib.itoa n = Lib.decDigits n.toNat := by unfold Lib.itoa; rw [if_neg (by omega)]
theorem itoa_neg {n : Int} (h : n < 0) : Lib.itoa n = 45 :: Lib.itoa (-n) := by
  rw [itoa_pos (n := -n) (by omega)]; unfold Lib.itoa; rw [if_pos h]; congr 2; omega
theorem itoa_one {n : Int} (h : 0 ≤ n) (h2 : n < 10) : Lib.itoa n = [UInt8.ofNat (48 + n.toNat)] := by rw [itoa_pos h, dec_lt (by omega)]
theorem itoa_more {n : Int} (h : ¬ n < 10) : Lib.itoa n = Lib.itoa (n.tdiv 10) ++ [UInt8.ofNat (48 + (n.tmod 10).toNat)] := by
  have h0 : 0 ≤ n := by omega
  have e1 : n.tdiv 10 = n / 10 := Int.tdiv_eq_ediv_of_nonneg h0
  have e2 : n.tmod 10 = n % 10 := Int.tmod_eq_emod_of_nonneg h0
  rw [itoa_pos h0, dec_ge (by omega), e1, e2, itoa_pos (by omega)]
  congr 2
  · congr 1; omega
  · congr 2; omega
theorem itoa_len (n : Int) (h : -9223372036854775808 ≤ n ∧ n ≤ 9223372036854775807) : (Lib.itoa n).length ≤ 21 := Lib.itoa_length_le n h.1 h.2
/-- string of one byte. -/
theorem run_one (w : World) (a : Addr) (c : Nat) (z : Int) (b : UInt8) (hz : z = (b.toNat : Int)) (hc : w.cell? a = some (.int .u8 z)) :
    (convert 22 9 (.slice (some a) 1 c)).run Tryz.prog w = .ok (.string (bS [b])) w := by
  have := run_convert_bytes_back (P := Tryz.prog) w 22 9 5 a c [b] Tryz.underlying22 Tryz.underlying5 Tryz.underlying9 (fun j hj => by
    have : j = 0 := by simpa using hj
    subst this
    simpa [Addr.add, hz] using hc)
  exact this
set_option maxHeartbeats 2000000 in
theorem fmt_pos : ∀ (f : Nat) (n : Int) (w : World), 0 ≤ n → n.toNat < f → n ≤ 9223372036854775807 →
    Calls Tryz.prog 60 #[.int .i64 n] w fun e w' => e = .returned (.string (bS (Lib.itoa n))) ∧ ∃ x, w' = ext w x
  | 0, n, w, _, h, _ => by omega
  | f + 1, n, w, h0, hf, hx => by
    by_cases h : n < 10
    · have E := hide (itoa_one h0 h)
      have RC := fun (W : World) (b c : Nat) (hc : W.cell? ⟨b, 0, none⟩ = some (.int .u8 (48 + n))) => run_one W ⟨b, 0, none⟩ c (48 + n) (UInt8.ofNat (48 + n.toNat)) (by rw [show (UInt8.ofNat (48 + n.toNat)).toNat = 48 + n.toNat by simp [UInt8.toNat_ofNat']; omega]; omega) hc
      have i1 : IntKind.i64.wrap (48 + n) = 48 + n := IntWalk.i64_in _ (by omega)
      have i2 : IntKind.u8.wrap (48 + n) = 48 + n := IntWalk.u8_in _ (by omega)
      rw [← E.out] at RC
      have d1 : decide (n < -9223372036854775807) = false := decide_eq_false (by omega)
      have d2 : decide (n < 0) = false := decide_eq_false (by omega)
      have d3 : decide (n < 10) = true := decide_eq_true h
      clear E
      generalize bS (Lib.itoa n) = S at *
      go_enter Tryz.func60, Tryz.ntmps60
      go_wp2_with fail
      go_ret
      exact ⟨rfl, (ext_mk (by (repeat' (first | (with_reducible first | exact Below.refl _ _ | assumption | refine below_ext _ ?_ ?_ | refine Below.alloc ?_ ?_ _ | refine Below.drew ?_ | refine below_drewN ?_ _ | refine le_drewN _ ?_ | refine Below.setCell ?_ ?_ _ | exact Nat.le_refl _ | refine le_ext _ ?_ | refine le_alloc _ ?_ | refine le_setCell _ _ ?_ | refine le_drew ?_) | omega | (simp; done) | (simp; omega)))))⟩
    · have E := hide (itoa_more h)
      have h10 : 10 ≤ n := by omega
      have e1 : n.tdiv 10 = n / 10 := Int.tdiv_eq_ediv_of_nonneg h0
      have e2 : n.tmod 10 = n % 10 := Int.tmod_eq_emod_of_nonneg h0
      have IH := hide (fun W => fmt_pos f (n / 10) W (by omega) (by omega) (by omega))
      have RC := fun (W : World) (b c : Nat) (hc : W.cell? ⟨b, 0, none⟩ = some (.int .u8 (48 + n % 10))) => run_one W ⟨b, 0, none⟩ c (48 + n % 10) (UInt8.ofNat (48 + (n % 10).toNat)) (by rw [show (UInt8.ofNat (48 + (n % 10).toNat)).toNat = 48 + (n % 10).toNat by simp [UInt8.toNat_ofNat']; omega]; omega) hc
      rw [e1, e2] at E
      have i0 : IntKind.i64.wrap (n / 10) = n / 10 := IntWalk.i64_in _ (by omega)
      have i3 : IntKind.i64.wrap (n % 10) = n % 10 := IntWalk.i64_in _ (by omega)
      have i1 : IntKind.i64.wrap (48 + n % 10) = 48 + n % 10 := IntWalk.i64_in _ (by omega)
      have i2 : IntKind.u8.wrap (48 + n % 10) = 48 + n % 10 := IntWalk.u8_in _ (by omega)
      have d1 : decide (n < -9223372036854775807) = false := decide_eq_false (by omega)
      have d2 : decide (n < 0) = false := decide_eq_false (by omega)
      have d3 : decide (n < 10) = false := decide_eq_false h
      have EE := hide (bS_app (Lib.itoa (n / 10)) [UInt8.ofNat (48 + (n % 10).toNat)])
      rw [← E.out] at EE
      have KL : ¬ 9223372036854775807 < (bS (Lib.itoa (n / 10))).size + (bS [UInt8.ofNat (48 + (n % 10).toNat)]).size := by
        have := itoa_len (n / 10) (by omega)
        rw [bS_size, bS_size]; simp; omega
      clear E
      generalize bS (Lib.itoa n) = S at *
      generalize bS (Lib.itoa (n / 10)) = S1 at *
      generalize bS [UInt8.ofNat (48 + (n % 10).toNat)] = S2 at *
      go_enter Tryz.func60, Tryz.ntmps60
      go_wp2_with fail
      go_region_with ((go_at_call 60; refine (IH.out _).mono ?_; rintro e w' ⟨rfl, hw'⟩; have hzy := ext_sz hw'; obtain ⟨y, rfl⟩ := hw'; (try simp at hzy)))
      all_goals go_wp2_with fail
      all_goals go_ret
      all_goals exact ⟨by first | rfl | (simp only [EE.out]; rfl) | (simp [EE.out]), (ext_mk (by (repeat' (first | (with_reducible first | exact Below.refl _ _ | assumption | refine below_ext _ ?_ ?_ | refine Below.alloc ?_ ?_ _ | refine Below.drew ?_ | refine below_drewN ?_ _ | refine le_drewN _ ?_ | refine Below.setCell ?_ ?_ _ | exact Nat.le_refl _ | refine le_ext _ ?_ | refine le_alloc _ ?_ | refine le_setCell _ _ ?_ | refine le_drew ?_) | omega | (simp; done) | (simp; omega)))))⟩
theorem sfmt_any (n : Int) (w : World) (h : -9223372036854775808 < n ∧ n ≤ 9223372036854775807) :
    Calls Tryz.prog 60 #[.int .i64 n] w fun e w' => e = .returned (.string (bS (Lib.itoa n))) ∧ ∃ x, w' = ext w x := by
  by_cases h0 : n < 0
  · have FP := hide (fun W => fmt_pos ((-n).toNat + 1) (-n) W (by omega) (by omega) (by omega))
    have E := hide (itoa_neg h0)
    have EE := hide (bS_app [45] (Lib.itoa (-n)))
    rw [List.singleton_append, ← E.out] at EE
    have KL : ¬ 9223372036854775807 < (bS [45]).size + (bS (Lib.itoa (-n))).size := by
      have := itoa_len (-n) (by omega)
      rw [bS_size, bS_size]; simp; omega
    rw [show bS [45] = ⟨#[45]⟩ from rfl] at EE KL
    have i0 : IntKind.i64.wrap (-n) = -n := IntWalk.i64_in _ (by omega)
    have d1 : decide (n < -9223372036854775807) = false := decide_eq_false (by omega)
    have d2 : decide (n < 0) = true := decide_eq_true h0
    clear E
    generalize bS (Lib.itoa n) = S at *
    generalize bS (Lib.itoa (-n)) = S1 at *
    go_enter Tryz.func60, Tryz.ntmps60
    go_wp2_with fail
    refine (FP.out _).mono ?_
    rintro e w' ⟨rfl, hw'⟩; have hzy := ext_sz hw'; obtain ⟨y, rfl⟩ := hw'; (try simp at hzy)
    go_wp2_with fail
    go_ret
    exact ⟨by first | rfl | (simp only [EE.out]; rfl) | (simp [EE.out]), (ext_mk (by (repeat' (first | (with_reducible first | exact Below.refl _ _ | assumption | refine below_ext _ ?_ ?_ | refine Below.alloc ?_ ?_ _ | refine Below.drew ?_ | refine below_drewN ?_ _ | refine le_drewN _ ?_ | refine Below.setCell ?_ ?_ _ | exact Nat.le_refl _ | refine le_ext _ ?_ | refine le_alloc _ ?_ | refine le_setCell _ _ ?_ | refine le_drew ?_) | omega | (simp; done) | (simp; omega)))))⟩
  · exact fmt_pos (n.toNat + 1) n w (by omega) (by omega) h.2
end Go.Proofs.YtnddfdhfefconaaGreatDoor
