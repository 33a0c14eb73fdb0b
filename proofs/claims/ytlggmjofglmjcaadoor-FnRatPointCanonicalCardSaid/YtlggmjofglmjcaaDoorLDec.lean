
/- laws.FnExactDecodeRatPoint, laws.FnRatPointRoundTrip, laws.FnRatPointCanonical return true. -/
import Derived.Test.YtlggmjofglmjcaaDoorDrwR
set_option linter.unusedVariables false
set_option linter.unusedSimpArgs false
namespace Go.Proofs.YtlggmjofglmjcaaDoor
open Go.RowKit

set_option maxHeartbeats 400000 in
theorem eqRat_same (a b : Int) (w : World) : Calls Tryd.prog 47 #[.agg #[.int .i64 a, .int .i64 b], .agg #[.int .i64 a, .int .i64 b]] w fun e w' => e = .returned (.bool true) ∧ ∃ n, w' = ext w n := by
  go_enter Tryd.func47, Tryd.ntmps47
  go_wp2
  go_ret
  exact ⟨rfl, (ext_mk (by (repeat' (first | (with_reducible first | exact Below.refl _ _ | assumption | refine below_ext _ ?_ ?_ | refine Below.alloc ?_ ?_ _ | refine Below.drew ?_ | refine below_drewN ?_ _ | refine le_drewN _ ?_ | refine Below.setCell ?_ ?_ _ | exact Nat.le_refl _ | refine le_ext _ ?_ | refine le_alloc _ ?_ | refine le_setCell _ _ ?_ | refine le_drew ?_) | omega | (simp; done) | (simp; omega)))))⟩
set_option maxHeartbeats 1000000 in
theorem eqRatP_same (a b c d : Int) (w : World) : Calls Tryd.prog 21 #[.agg #[.int .i64 a, .int .i64 b, .int .i64 c, .int .i64 d], .agg #[.int .i64 a, .int .i64 b, .int .i64 c, .int .i64 d]] w fun e w' => e = .returned (.bool true) ∧ ∃ n, w' = ext w n := by
  go_enter Tryd.func21, Tryd.ntmps21
  go_wp2_with ((go_at_call 47; refine (eqRat_same _ _ _).mono ?_; rintro e w' ⟨rfl, hw'⟩; have hzy := ext_sz hw'; obtain ⟨y, rfl⟩ := hw'; (try simp at hzy)))
  go_ret
  exact ⟨rfl, (ext_mk (by (repeat' (first | (with_reducible first | exact Below.refl _ _ | assumption | refine below_ext _ ?_ ?_ | refine Below.alloc ?_ ?_ _ | refine Below.drew ?_ | refine below_drewN ?_ _ | refine le_drewN _ ?_ | refine Below.setCell ?_ ?_ _ | exact Nat.le_refl _ | refine le_ext _ ?_ | refine le_alloc _ ?_ | refine le_setCell _ _ ?_ | refine le_drew ?_) | omega | (simp; done) | (simp; omega)))))⟩
set_option maxHeartbeats 4000000 in
theorem lawDec (l : List UInt8) (w : World) (ht : Tab w) (hE : Errs w) (hM : MaxL w) : Calls Tryd.prog 5 #[.string (bS l)] w fun e w' => e = .returned (.bool true) ∧ Below w.heap.size w w' := by
  have SZ := bS_size l
  by_cases hl : l.length ≤ 1048576
  · have SD := hide (fun W => sDecP_any l W (by omega))
    have ID := hide (fun W (hb : Below w.heap.size w W) => iDecP_any l W (by omega) (ht.to hb) (hE.to hb) (hM.to hb))
    clear ht hE hM
    generalize decP l = X at *
    obtain ⟨⟨a, b, c, d⟩, p⟩ := X
    go_enter Tryd.func5, Tryd.ntmps5
    go_wp2_with fail
    refine (SD.out _).mono ?_
    rintro e w1 ⟨rfl, hx⟩
    have B1 := hide (ext_bel hx)
    have z1 := B1.out.size
    clear hx
    go_wp2_with fail
    have A1 := hide (heap_alloc_new w1 (.cells #[.int .i64 a, .int .i64 b, .int .i64 c, .int .i64 d] 29))
    refine (ID.out _ (B1.out.alloc (by first | omega | (simp; done) | (simp; omega)) _)).mono ?_
    rintro e w2 ⟨rfl, hx⟩
    have B2 : Hid (Below w.heap.size w w2) := hide ((B1.out.alloc (by first | omega | (simp; done) | (simp; omega)) _).trans ((ext_bel hx).mono (by first | omega | (simp; done) | (simp; omega))))
    have A2 := hide (blk_keep A1.out (ext_bel hx))
    have z2 := B2.out.size
    have zz := heap_lt A2.out
    obtain ⟨⟨c0, c1, c2, c3⟩, _⟩ := box4_all A2.out
    clear hx SD ID A1 A2
    cases p
    all_goals
      go_wp2_with ((go_at_call 21; refine (eqRatP_same _ _ _ _ _).mono ?_; rintro e w' ⟨rfl, hw'⟩; have hzy := ext_sz hw'; obtain ⟨y, rfl⟩ := hw'; (try simp at hzy)))
      go_ret
      exact ⟨rfl, by have := B2.out; exact (by (repeat' (first | (with_reducible first | exact Below.refl _ _ | assumption | refine below_ext _ ?_ ?_ | refine Below.alloc ?_ ?_ _ | refine Below.drew ?_ | refine below_drewN ?_ _ | refine le_drewN _ ?_ | refine Below.setCell ?_ ?_ _ | exact Nat.le_refl _ | refine le_ext _ ?_ | refine le_alloc _ ?_ | refine le_setCell _ _ ?_ | refine le_drew ?_) | omega | (simp; done) | (simp; omega))))⟩
  · have hl' : ¬ l.length ≤ 1048576 := hl
    have d0 : 1048576 < l.length := by omega
    go_enter Tryd.func5, Tryd.ntmps5
    go_wp2_with fail
    go_ret
    exact ⟨rfl, (by (repeat' (first | (with_reducible first | exact Below.refl _ _ | assumption | refine below_ext _ ?_ ?_ | refine Below.alloc ?_ ?_ _ | refine Below.drew ?_ | refine below_drewN ?_ _ | refine le_drewN _ ?_ | refine Below.setCell ?_ ?_ _ | exact Nat.le_refl _ | refine le_ext _ ?_ | refine le_alloc _ ?_ | refine le_setCell _ _ ?_ | refine le_drew ?_) | omega | (simp; done) | (simp; omega))))⟩
theorem run_eqRP (a b c d : Int) (w : World) : (binOp .eql 29 (.agg #[.int .i64 a, .int .i64 b, .int .i64 c, .int .i64 d]) (.agg #[.int .i64 a, .int .i64 b, .int .i64 c, .int .i64 d])).run Tryd.prog w = .ok (.bool true) w := by
  simp [go_sem]
theorem run_neRP (a b c d : Int) (w : World) : (binOp .neq 29 (.agg #[.int .i64 a, .int .i64 b, .int .i64 c, .int .i64 d]) (.agg #[.int .i64 a, .int .i64 b, .int .i64 c, .int .i64 d])).run Tryd.prog w = .ok (.bool false) w := by
  simp [go_sem]
theorem rpE_nil {a b c d : Int} (h : ¬ (ratB a b = true ∧ ratB c d = true)) : rpE a b c d = [] := by unfold rpE; rw [if_neg h]
theorem rpE_len (a b c d : Int) : (rpE a b c d).length ≤ 100 := by
  cases h : (ratB a b && ratB c d)
  · rw [rpE_no h]; simp
  · have h1 := ratE_len a b
    have h2 := ratE_len c d
    rw [rpE_yes h]; simp; omega
set_option maxHeartbeats 4000000 in
theorem lawRtr (n c : Nat) (A : Option Addr) (w : World) (hn : n ≤ c) (hc : c ≤ 9223372036854775807) (hA : BytesAt w w.heap.size A n) (ht : Tab w) (hE : Errs w) (hM : MaxL w) :
    Calls Tryd.prog 6 #[.slice A n c] w fun e w' => e = .returned (.bool true) ∧ Below w.heap.size w w' := by
  have EQ := @run_eqRP
  by_cases hl : n ≤ 1048576
  · go_enter Tryd.func6, Tryd.ntmps6
    go_wp2_with fail
    refine (drawEncR_any n c A _ hn hc hA).mono ?_
    rintro e w1 ⟨x, y, z, t, rfl, B1⟩
    have B1 := hide B1
    have z1 := B1.out.size
    have SD := hide (fun (W : World) => sEncP_any x y z t W)
    have IE := hide (fun (W : World) (hb : Below w.heap.size w W) => iEncP_any x y z t W (ht.to hb))
    have hlen := rpE_len x y z t
    have ID := hide (fun (W : World) (hb : Below w.heap.size w W) => iDecP_any (rpE x y z t) W (by omega) (ht.to hb) (hE.to hb) (hM.to hb))
    have A1 := hide (heap_alloc_new w1 (.cells #[.int .i64 x, .int .i64 y, .int .i64 z, .int .i64 t] 29))
    obtain ⟨⟨c0, c1, c2, c3⟩, _⟩ := box4_all A1.out
    have ES : ((bS (rpE x y z t)).toList == (bS (rpE x y z t)).toList) = true := by rw [bS_ne]; simp
    clear ht hE hM hA
    by_cases hv : ratB x y = true ∧ ratB z t = true
    · have e0 : (bS (rpE x y z t)).toList.isEmpty = false := by
        rw [ByteArray.toList_eq, bS_list]
        unfold rpE; rw [if_pos hv]; simp
      rw [decP_text hv] at ID
      clear hv hlen
      generalize bS (rpE x y z t) = S at *
      go_wp2_with fail
      refine (IE.out _ (B1.out.alloc (by first | omega | (simp; done) | (simp; omega)) _)).mono ?_
      rintro e w2 ⟨rfl, hx⟩
      have B2 : Hid (Below w.heap.size w w2) := hide ((B1.out.alloc (by first | omega | (simp; done) | (simp; omega)) _).trans ((ext_bel hx).mono (by first | omega | (simp; done) | (simp; omega))))
      have A2 := hide (blk_keep A1.out (ext_bel hx))
      have z2 := heap_lt A2.out
      clear hx c0 c1 c2 c3
      obtain ⟨⟨c0, c1, c2, c3⟩, _⟩ := box4_all A2.out
      go_wp2_with fail
      refine (SD.out _).mono ?_
      rintro e w3 ⟨rfl, hx⟩
      have B3 : Hid (Below w.heap.size w w3) := hide (B2.out.trans ((ext_bel hx).mono B2.out.size))
      have A3 := hide (blk_keep A2.out (ext_bel hx))
      have z3 := heap_lt A3.out
      clear hx c0 c1 c2 c3
      go_wp2_with fail
      refine (ID.out _ B3.out).mono ?_
      rintro e w4 ⟨rfl, hx⟩
      have B4 : Hid (Below w.heap.size w w4) := hide (B3.out.trans ((ext_bel hx).mono B3.out.size))
      have A4 := hide (blk_keep A3.out (ext_bel hx))
      have z4 := heap_lt A4.out
      clear hx
      obtain ⟨⟨c0, c1, c2, c3⟩, _⟩ := box4_all A4.out
      have z5 := B4.out.size
      clear A1 A2 A3 A4 SD IE ID
      go_wp2_with fail
      go_ret
      exact ⟨rfl, by have := B4.out; exact (by (repeat' (first | (with_reducible first | exact Below.refl _ _ | assumption | refine below_ext _ ?_ ?_ | refine Below.alloc ?_ ?_ _ | refine Below.drew ?_ | refine below_drewN ?_ _ | refine le_drewN _ ?_ | refine Below.setCell ?_ ?_ _ | exact Nat.le_refl _ | refine le_ext _ ?_ | refine le_alloc _ ?_ | refine le_setCell _ _ ?_ | refine le_drew ?_) | omega | (simp; done) | (simp; omega))))⟩
    · have e0 := rpE_nil hv
      rw [e0, bS_nil] at IE SD
      clear hv ES ID hlen
      have e1 : (⟨#[]⟩ : ByteArray).toList.isEmpty = true := by rw [ByteArray.toList_eq]; rfl
      go_wp2_with fail
      refine (IE.out _ (B1.out.alloc (by first | omega | (simp; done) | (simp; omega)) _)).mono ?_
      rintro e w2 ⟨rfl, hx⟩
      have B2 : Hid (Below w.heap.size w w2) := hide ((B1.out.alloc (by first | omega | (simp; done) | (simp; omega)) _).trans ((ext_bel hx).mono (by first | omega | (simp; done) | (simp; omega))))
      have A2 := hide (blk_keep A1.out (ext_bel hx))
      have z2 := heap_lt A2.out
      clear hx c0 c1 c2 c3
      obtain ⟨⟨c0, c1, c2, c3⟩, _⟩ := box4_all A2.out
      go_wp2_with fail
      refine (SD.out _).mono ?_
      rintro e w3 ⟨rfl, hx⟩
      have B3 : Hid (Below w.heap.size w w3) := hide (B2.out.trans ((ext_bel hx).mono B2.out.size))
      have A3 := hide (blk_keep A2.out (ext_bel hx))
      have z3 := heap_lt A3.out
      clear hx c0 c1 c2 c3
      obtain ⟨⟨c0, c1, c2, c3⟩, _⟩ := box4_all A3.out
      go_wp2_with fail
      refine (SD.out _).mono ?_
      rintro e w4 ⟨rfl, hx⟩
      have B4 : Hid (Below w.heap.size w w4) := hide (B3.out.trans ((ext_bel hx).mono B3.out.size))
      clear hx c0 c1 c2 c3
      go_wp2_with fail
      go_ret
      exact ⟨rfl, by have := B4.out; exact (by (repeat' (first | (with_reducible first | exact Below.refl _ _ | assumption | refine below_ext _ ?_ ?_ | refine Below.alloc ?_ ?_ _ | refine Below.drew ?_ | refine below_drewN ?_ _ | refine le_drewN _ ?_ | refine Below.setCell ?_ ?_ _ | exact Nat.le_refl _ | refine le_ext _ ?_ | refine le_alloc _ ?_ | refine le_setCell _ _ ?_ | refine le_drew ?_) | omega | (simp; done) | (simp; omega))))⟩
  · go_enter Tryd.func6, Tryd.ntmps6
    go_wp2_with fail
    go_ret
    exact ⟨rfl, (by (repeat' (first | (with_reducible first | exact Below.refl _ _ | assumption | refine below_ext _ ?_ ?_ | refine Below.alloc ?_ ?_ _ | refine Below.drew ?_ | refine below_drewN ?_ _ | refine le_drewN _ ?_ | refine Below.setCell ?_ ?_ _ | exact Nat.le_refl _ | refine le_ext _ ?_ | refine le_alloc _ ?_ | refine le_setCell _ _ ?_ | refine le_drew ?_) | omega | (simp; done) | (simp; omega))))⟩
end Go.Proofs.YtlggmjofglmjcaaDoor
