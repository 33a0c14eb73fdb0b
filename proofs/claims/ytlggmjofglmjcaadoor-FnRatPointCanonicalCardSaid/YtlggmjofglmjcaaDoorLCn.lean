
/- laws.FnRatPointCanonical returns true. -/
import Derived.Test.YtlggmjofglmjcaaDoorMut
import Derived.Test.YtlggmjofglmjcaaDoorLDec
set_option linter.unusedVariables false
set_option linter.unusedSimpArgs false
namespace Go.Proofs.YtlggmjofglmjcaaDoor
open Go.RowKit

set_option maxHeartbeats 4000000 in
theorem drawDecR_any (n c : Nat) (A : Option Addr) (w : World) (hn : n ≤ c) (hc : c ≤ 9223372036854775807) (hA : BytesAt w w.heap.size A n) :
    Calls Tryd.prog 23 #[.slice A n c] w fun e w' => ∃ y : List UInt8, e = .returned (.string (bS y)) ∧ y.length ≤ 1000 ∧ Below w.heap.size w w' := by
  have b0 := Below.refl w.heap.size w
  go_enter Tryd.func23, Tryd.ntmps23
  go_wp2_with fail
  refine (newReader_any n c A _ hn hc hA).mono ?_
  rintro e w1 ⟨g, nb, rfl, hg, hnb, hr, hx⟩
  have D1 := ext_bel hx
  have lg := hr.lt
  have s1 : w.heap.size ≤ w1.heap.size := D1.size
  clear hx
  go_wp2_with fail
  refine (anyRat_any _ nb _ g 0 A _ (by omega) hnb hr).mono ?_
  rintro e w2 ⟨a, b, p', rfl, hp', hD⟩
  have s2 := hD.size
  have B2 : Below w.heap.size w w2 := D1.trans (hD.below (by omega) (by omega))
  have hr2 := hide (fun (W : World) (h : Below w2.heap.size w2 W) => hD.rd.to h)
  have lg2 : g < w2.heap.size := hD.rd.lt
  have kk := hide (heap_alloc_new w2 (.cells #[.int .i64 a, .int .i64 b] 27))
  have BB : Hid (Below w.heap.size w (w2.alloc (.cells #[.int .i64 a, .int .i64 b] 27))) := hide (B2.alloc (by omega) _)
  have HH := hide (fun (W : World) (hW : Below (w2.heap.size + 1) (w2.alloc (.cells #[.int .i64 a, .int .i64 b] 27)) W) => anyRat_any _ nb _ g p' A W (by omega) hnb (hr2.out W (((Below.refl _ w2).alloc (Nat.le_refl _) (.cells #[.int .i64 a, .int .i64 b] 27)).trans (hW.mono (by omega)))))
  have EN := hide sEncP_any
  clear hD B2 hr
  obtain ⟨q0, q1, _, _⟩ := box_one kk.out
  go_wp2_with fail
  go_region_with (first | (go_at_call 49; refine (HH.out _ (by (repeat' (first | (with_reducible first | exact Below.refl _ _ | assumption | refine below_ext _ ?_ ?_ | refine Below.alloc ?_ ?_ _ | refine Below.drew ?_ | refine below_drewN ?_ _ | refine le_drewN _ ?_ | refine Below.setCell ?_ ?_ _ | exact Nat.le_refl _ | refine le_ext _ ?_ | refine le_alloc _ ?_ | refine le_setCell _ _ ?_ | refine le_drew ?_) | omega | (simp; done) | (simp; omega))))).mono ?_; rintro e w3 ⟨x, y, p3, rfl, hp3, D3⟩; have kk3 := Drew.heap D3 (k := w2.heap.size) kk.out (by omega); have B3 : Hid (Below w.heap.size w w3) := hide (BB.out.drew.trans (D3.below (by omega) (by show _ ≤ (w2.alloc _).heap.size; rw [size_alloc]; omega))); have k30 := (box_one kk3).1; have k31 := (box_one kk3).2.1; have t3 := B3.out.size; have R3 := hide D3.rd; have g3 := D3.rd.lt; clear kk3 D3) | (go_at_call 11; refine (EN.out _ _ _ _ _).mono ?_; rintro e w4 ⟨rfl, hx⟩; have B4 := hide (B3.out.trans ((ext_bel hx).mono B3.out.size)); have R4 := hide (R3.out.to (ext_bel hx)); have z4 := B4.out.size; clear hx))
  all_goals
    have hlen := rpE_len a b x y
    clear HH EN kk BB hr2
    generalize rpE a b x y = l at *
    have PK := hide (fun (W : World) (h : Below w4.heap.size w4 W) => pick_any 2 _ nb _ g p3 A W (by omega) (by omega) (by omega) hnb (R4.out.to h))
    go_wp2_with fail
    refine (PK.out _ (Below.refl _ _)).mono ?_
    rintro e w5 ⟨v, rfl, hv, hb5, hr5⟩
    have B5 : Hid (Below w.heap.size w w5) := hide (B4.out.trans ((hb5.below (B := w.heap.size) (by omega))))
    have MU := hide (mutate_any l _ nb _ g (p3 + 1) A w5 (by omega) (by omega) hnb hr5)
    have gl := hr5.lt
    have z5 := B5.out.size
    clear hb5 hr5 PK R3 R4
    by_cases h0 : v = 0
    · subst h0
      go_wp2_with fail
      go_ret
      exact ⟨l, rfl, by omega, B5.out⟩
    · have hd0 : ((v : Int) == 0) = false := by rw [beq_eq_false_iff_ne]; omega
      go_wp2_with fail
      refine (MU.out).mono ?_
      rintro e w6 ⟨y', p6, rfl, hy, hp6, D6⟩
      have B6 := hide (B5.out.trans (D6.below (by omega) (by omega)))
      clear D6 MU
      go_wp2_with fail
      go_ret
      exact ⟨y', rfl, by omega, B6.out⟩
set_option maxHeartbeats 4000000 in
theorem lawCn (n c : Nat) (A : Option Addr) (w : World) (hn : n ≤ c) (hc : c ≤ 9223372036854775807) (hA : BytesAt w w.heap.size A n) (ht : Tab w) (hE : Errs w) (hM : MaxL w) :
    Calls Tryd.prog 7 #[.slice A n c] w fun e w' => e = .returned (.bool true) ∧ Below w.heap.size w w' := by
  have EQ := @run_eqRP
  have NE := @run_neRP
  by_cases hl : n ≤ 1048576
  · go_enter Tryd.func7, Tryd.ntmps7
    go_wp2_with fail
    refine (drawDecR_any n c A _ hn hc hA).mono ?_
    rintro e w1 ⟨l, rfl, hlen, B1⟩
    have B1 := hide B1
    have z1 := B1.out.size
    have SD := hide (fun (W : World) => sDecP_any l W (by omega))
    have ID := hide (fun (W : World) (hb : Below w.heap.size w W) => iDecP_any l W (by omega) (ht.to hb) (hE.to hb) (hM.to hb))
    have IE := hide (fun (x y z t : Int) (W : World) (hb : Below w.heap.size w W) => iEncP_any x y z t W (ht.to hb))
    have CN := hide (@decP_canon l)
    have ES : ((bS l).toList == (bS l).toList) = true := by rw [bS_ne]; simp
    clear ht hE hM hA
    generalize decP l = X at *
    obtain ⟨⟨x, y, z, t⟩, p⟩ := X
    go_wp2_with fail
    refine (ID.out _ B1.out).mono ?_
    rintro e w2 ⟨rfl, hx⟩
    have B2 : Hid (Below w.heap.size w w2) := hide (B1.out.trans ((ext_bel hx).mono B1.out.size))
    have z2 := B2.out.size
    clear hx
    have A2 := hide (heap_alloc_new w2 (.cells #[.int .i64 x, .int .i64 y, .int .i64 z, .int .i64 t] 29))
    go_wp2_with fail
    refine (SD.out _).mono ?_
    rintro e w3 ⟨rfl, hx⟩
    have B3 : Hid (Below w.heap.size w w3) := hide ((B2.out.alloc (by first | omega | (simp; done) | (simp; omega)) _).trans ((ext_bel hx).mono (by first | omega | (simp; done) | (simp; omega))))
    have A3 := hide (blk_keep A2.out (ext_bel hx))
    have z3 := heap_lt A3.out
    have z4 := B3.out.size
    obtain ⟨⟨c0, c1, c2, c3⟩, _⟩ := box4_all A3.out
    clear hx SD ID A2
    cases p
    · clear CN IE
      go_wp2_with fail
      go_ret
      exact ⟨rfl, by have := B3.out; exact (by (repeat' (first | (with_reducible first | exact Below.refl _ _ | assumption | refine below_ext _ ?_ ?_ | refine Below.alloc ?_ ?_ _ | refine Below.drew ?_ | refine below_drewN ?_ _ | refine le_drewN _ ?_ | refine Below.setCell ?_ ?_ _ | exact Nat.le_refl _ | refine le_ext _ ?_ | refine le_alloc _ ?_ | refine le_setCell _ _ ?_ | refine le_drew ?_) | omega | (simp; done) | (simp; omega))))⟩
    · have CN' := (CN.out rfl).1
      have CN' : rpE x y z t = l := CN'
      have IE' := hide (fun (W : World) (hb : Below w.heap.size w W) => IE.out x y z t W hb)
      rw [CN'] at IE'
      clear CN CN' IE
      have BX : Hid (Below w.heap.size w (w3.alloc (.cells #[.int .i64 x, .int .i64 y, .int .i64 z, .int .i64 t] 29))) := hide (B3.out.alloc (by first | omega | (simp; done) | (simp; omega)) _)
      go_wp2_with fail
      refine (IE'.out _ BX.out).mono ?_
      rintro e w5 ⟨rfl, hx⟩
      have B5 : Hid (Below w.heap.size w w5) := hide (BX.out.trans ((ext_bel hx).mono BX.out.size))
      clear hx IE'
      go_wp2_with fail
      go_ret
      exact ⟨rfl, B5.out⟩
  · go_enter Tryd.func7, Tryd.ntmps7
    go_wp2_with fail
    go_ret
    exact ⟨rfl, (by (repeat' (first | (with_reducible first | exact Below.refl _ _ | assumption | refine below_ext _ ?_ ?_ | refine Below.alloc ?_ ?_ _ | refine Below.drew ?_ | refine below_drewN ?_ _ | refine le_drewN _ ?_ | refine Below.setCell ?_ ?_ _ | exact Nat.le_refl _ | refine le_ext _ ?_ | refine le_alloc _ ?_ | refine le_setCell _ _ ?_ | refine le_drew ?_) | omega | (simp; done) | (simp; omega))))⟩
end Go.Proofs.YtlggmjofglmjcaaDoor
