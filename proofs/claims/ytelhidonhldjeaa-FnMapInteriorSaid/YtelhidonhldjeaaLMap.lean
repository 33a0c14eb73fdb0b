
/- FnMapArea, FnMapInterior: the laws' walks. -/
import Derived.Test.YtelhidonhldjeaaCount
import Derived.Test.YtelhidonhldjeaaConv
import Derived.Test.YtelhidonhldjeaaMap
import Derived.Test.YtelhidonhldjeaaDrawM
import Derived.Test.YtelhidonhldjeaaHlp2
set_option linter.unusedVariables false
set_option linter.unusedSimpArgs false
namespace Go.Proofs.Ytelhidonhldjeaa
open Go.RowKit

set_option maxHeartbeats 400000 in
theorem iIsSimple_any (ps : List Pt) (A : Option Addr) (n c : Nat) (w : World) (hn : ps.length = n) (hm : n ≤ 2000000) (hA : Plain A n) (hs : PtsAt w w.heap.size A ps) :
    Calls Try.prog 23 #[.slice A n c] w fun e w' => e = .returned (.bool (simB ps)) ∧ ∃ x, w' = ext w x := by
  have HC := hide (simple_any ps A n c w hn hm hA hs)
  clear hn hs
  go_enter Try.func23, Try.ntmps23
  go_wp2_with fail
  refine HC.out.mono ?_
  rintro e w' ⟨rfl, hw'⟩; have hzy1 := ext_sz hw'; obtain ⟨y1, rfl⟩ := hw'; (try simp at hzy1)
  go_wp2_with fail
  go_ret
  exact ⟨rfl, (ext_mk (by (repeat' (first | (with_reducible exact Below.refl _ _) | (with_reducible assumption) | (with_reducible refine below_ext _ ?_ ?_) | (with_reducible refine Below.alloc ?_ ?_ _) | (with_reducible refine Below.drew ?_) | (with_reducible refine below_drewN ?_ _) | (with_reducible refine le_drewN _ ?_) | (with_reducible refine Below.setCell ?_ ?_ _) | (with_reducible exact Nat.le_refl _) | (with_reducible refine le_ext _ ?_) | (with_reducible refine le_alloc _ ?_) | (with_reducible refine le_setCell _ _ ?_) | (with_reducible refine le_drew ?_) | omega | (simp; done) | (simp; omega)))))⟩
theorem map_fact {m : Mt} {ps : List Pt} (hd : m.det ≠ 0) (hok : mapOk m ps = true) (hn : dblA ps ≠ 0) : simB (mapL m ps) = true ∧ dblA (mapL m ps) = m.det * dblA ps ∧ simB ps = true := by
  have hs : simB ps = true := by
    cases h : simB ps
    · rw [dblA_1 h] at hn; exact absurd rfl hn
    · rfl
  have hk := hok
  unfold mapOk at hk
  simp only [Bool.and_eq_true] at hk
  have e : mapL m ps = ps.map m.ap := (mapOk_3 hk.1 hk.2).2
  have hs2 := ap_simple hd hk.2 hs
  rw [e]
  exact ⟨hs2, by rw [dblA_2 hs2, dblA_2 hs, ap_area], hs⟩
theorem map_fact2 {m : Mt} {ps : List Pt} (hd : m.det = 1 ∨ m.det = -1) (hok : mapOk m ps = true) (hn : 0 ≤ intr ps) : intr (mapL m ps) = intr ps ∧ bnd (mapL m ps) = bnd ps := by
  have hs : simB ps = true := by
    cases h : simB ps
    · rw [intr_1 h] at hn; omega
    · rfl
  have hk := hok
  unfold mapOk at hk
  simp only [Bool.and_eq_true] at hk
  have e : mapL m ps = ps.map m.ap := (mapOk_3 hk.1 hk.2).2
  have hs2 := ap_simple (m := m) (by omega) hk.2 hs
  rw [e]
  refine ⟨?_, by rw [bnd_2 hs2, bnd_2 hs, ap_bnd hd]⟩
  have h1 : intr (ps.map m.ap) = intrL (ps.map m.ap) := by unfold intr; rw [hs2]; rfl
  have h2 : intr ps = intrL ps := by unfold intr; rw [hs]; rfl
  rw [h1, h2, ap_intr hd]
theorem mapL_len (m : Mt) (ps : List Pt) : (mapL m ps).length ≤ ps.length := by
  unfold mapL; split <;> simp
theorem dblA_bd (ps : List Pt) : -40000000 ≤ dblA ps ∧ dblA ps ≤ 40000000 := by
  cases h : simB ps
  · rw [dblA_1 h]; omega
  · rw [dblA_2 h]; exact (simB_nums h).2.2.1
set_option maxHeartbeats 4000000 in
theorem lawMapArea (n c : Nat) (A : Option Addr) (w : World) (hn : n ≤ c) (hc : c ≤ 9223372036854775807) (hA : BytesAt w w.heap.size A n) :
    Calls Try.prog 4 #[.slice A n c] w fun e w' => e = .returned (.bool true) ∧ Below w.heap.size w w' := by
  by_cases hle : n ≤ 1048576
  · have hd : decide ((1048576 : Int) < (n : Int)) = false := decide_eq_false (by omega)
    go_enter Try.func4, Try.ntmps4
    go_wp2_with fail
    refine (drawMapped_any n c A _ hn hc hA).mono ?_
    rintro e w1 ⟨x, y, z, t, v1, ps, rfl, hx, hy, hz, ht, o1, lp, cbp, B1⟩
    obtain ⟨A1, n1, c1, rfl⟩ := o1.slice
    have h1 := hide o1.pts.1
    have P1 := hide o1.pts.2.2.2
    have F1 := hide o1.form.1
    have k1 : n1 ≤ 9 := by have := h1.out; omega
    have s1 := B1.size
    have ID := hide (fun (W : World) (hb : Below w1.heap.size w1 W) => iDbl_any ps A1 n1 c1 W h1.out (by omega) F1.out (P1.out.to hb))
    have SD := hide (fun (W : World) (hb : Below w1.heap.size w1 W) => sDbl_any ps A1 n1 c1 W h1.out (by omega) (P1.out.to hb))
    have IMP := hide (fun (W : World) (hb : Below w1.heap.size w1 W) => iMap_any ps x y z t A1 n1 c1 W (by omega) (by omega) (by omega) (by omega) h1.out (by omega) (P1.out.to hb))
    have SMP := hide (fun (W : World) (hb : Below w1.heap.size w1 W) => sMap_any ps x y z t A1 n1 c1 W (by omega) (by omega) (by omega) (by omega) h1.out (by omega) (P1.out.to hb))
    have DT := hide (fun (W : World) => det_any x y z t W (by omega) (by omega) (by omega) (by omega))
    have ML := mapL_len ⟨x, y, z, t⟩ ps
    have DB := dblA_bd ps
    have FACT : Hid (x * t - y * z ≠ 0 → mapOk ⟨x, y, z, t⟩ ps = true → dblA ps ≠ 0 → simB (mapL ⟨x, y, z, t⟩ ps) = true ∧ dblA (mapL ⟨x, y, z, t⟩ ps) = (x * t - y * z) * dblA ps) := hide (fun a b c => by
      obtain ⟨q1, q2, _⟩ := map_fact (m := ⟨x, y, z, t⟩) a b c
      exact ⟨q1, q2⟩)
    have mb1 := mul_bd (M := 5) (N := 5) hx ht
    have mb2 := mul_bd (M := 5) (N := 5) hy hz
    have mb3 := mul_bd (a := x * t - y * z) (b := dblA ps) (M := 50) (N := 40000000) (by omega) (by omega)
    clear o1 hA cbp hx hy hz ht
    have V1 : (dblA ps != dblA ps) = false := by simp
    have V2 : (mapOk ⟨x, y, z, t⟩ ps != mapOk ⟨x, y, z, t⟩ ps) = false := by simp
    have V3 : (dblA ps == dblA ps) = true := by simp
    have V4 : (mapOk ⟨x, y, z, t⟩ ps == mapOk ⟨x, y, z, t⟩ ps) = true := by simp
    go_wp2_with fail
    refine (ID.out _ (by (repeat' (first | (with_reducible exact Below.refl _ _) | (with_reducible assumption) | (with_reducible refine below_ext _ ?_ ?_) | (with_reducible refine Below.alloc ?_ ?_ _) | (with_reducible refine Below.drew ?_) | (with_reducible refine below_drewN ?_ _) | (with_reducible refine le_drewN _ ?_) | (with_reducible refine Below.setCell ?_ ?_ _) | (with_reducible exact Nat.le_refl _) | (with_reducible refine le_ext _ ?_) | (with_reducible refine le_alloc _ ?_) | (with_reducible refine le_setCell _ _ ?_) | (with_reducible refine le_drew ?_) | omega | (simp; done) | (simp; omega))))).mono ?_
    rintro e w' ⟨rfl, hw'⟩; have hzy1 := ext_sz hw'; obtain ⟨y1, rfl⟩ := hw'; (try simp at hzy1)
    go_wp2_with fail
    refine (IMP.out _ (by (repeat' (first | (with_reducible exact Below.refl _ _) | (with_reducible assumption) | (with_reducible refine below_ext _ ?_ ?_) | (with_reducible refine Below.alloc ?_ ?_ _) | (with_reducible refine Below.drew ?_) | (with_reducible refine below_drewN ?_ _) | (with_reducible refine le_drewN _ ?_) | (with_reducible refine Below.setCell ?_ ?_ _) | (with_reducible exact Nat.le_refl _) | (with_reducible refine le_ext _ ?_) | (with_reducible refine le_alloc _ ?_) | (with_reducible refine le_setCell _ _ ?_) | (with_reducible refine le_drew ?_) | omega | (simp; done) | (simp; omega))))).mono ?_
    rintro e w3 ⟨v3, rfl, o3, x3, rfl⟩
    obtain ⟨A3, n3, c3, rfl⟩ := o3.slice
    have l3 := hide o3.pts.1
    have P3 := hide o3.pts.2.2.2
    have F3 := hide o3.form.1
    have k3 : n3 ≤ 9 := by have := l3.out; have := h1.out; omega
    have hz3 := ext_size (ext (w1.alloc (.cells #[.int .i64 x, .int .i64 y, .int .i64 z, .int .i64 t] 29)) y1) x3
    have BW := hide (show Below w1.heap.size w1 (ext (ext (w1.alloc (.cells #[.int .i64 x, .int .i64 y, .int .i64 z, .int .i64 t] 29)) y1) x3) from (by (repeat' (first | (with_reducible exact Below.refl _ _) | (with_reducible assumption) | (with_reducible refine below_ext _ ?_ ?_) | (with_reducible refine Below.alloc ?_ ?_ _) | (with_reducible refine Below.drew ?_) | (with_reducible refine below_drewN ?_ _) | (with_reducible refine le_drewN _ ?_) | (with_reducible refine Below.setCell ?_ ?_ _) | (with_reducible exact Nat.le_refl _) | (with_reducible refine le_ext _ ?_) | (with_reducible refine le_alloc _ ?_) | (with_reducible refine le_setCell _ _ ?_) | (with_reducible refine le_drew ?_) | omega | (simp; done) | (simp; omega)))))
    have BX := hide ((Below.block (show Below (w1.alloc (.cells #[.int .i64 x, .int .i64 y, .int .i64 z, .int .i64 t] 29)).heap.size (w1.alloc (.cells #[.int .i64 x, .int .i64 y, .int .i64 z, .int .i64 t] 29)) (ext (ext (w1.alloc (.cells #[.int .i64 x, .int .i64 y, .int .i64 z, .int .i64 t] 29)) y1) x3) from (by (repeat' (first | (with_reducible exact Below.refl _ _) | (with_reducible assumption) | (with_reducible refine below_ext _ ?_ ?_) | (with_reducible refine Below.alloc ?_ ?_ _) | (with_reducible refine Below.drew ?_) | (with_reducible refine below_drewN ?_ _) | (with_reducible refine le_drewN _ ?_) | (with_reducible refine Below.setCell ?_ ?_ _) | (with_reducible exact Nat.le_refl _) | (with_reducible refine le_ext _ ?_) | (with_reducible refine le_alloc _ ?_) | (with_reducible refine le_setCell _ _ ?_) | (with_reducible refine le_drew ?_) | omega | (simp; done) | (simp; omega))))) w1.heap.size (by simp)).trans (heap_alloc_new w1 (.cells #[.int .i64 x, .int .i64 y, .int .i64 z, .int .i64 t] 29)))
    have sW : w1.heap.size + 1 ≤ (ext (ext (w1.alloc (.cells #[.int .i64 x, .int .i64 y, .int .i64 z, .int .i64 t] 29)) y1) x3).heap.size := by omega
    clear o3 hz3
    generalize ext (ext (w1.alloc (.cells #[.int .i64 x, .int .i64 y, .int .i64 z, .int .i64 t] 29)) y1) x3 = W3 at *
    have m0 := heap_cell BX.out 0
    have m1 := heap_cell BX.out 1
    have m2 := heap_cell BX.out 2
    have m3 := heap_cell BX.out 3
    simp at m0 m1 m2 m3
    have SD3 := hide (fun (W : World) (hb : Below W3.heap.size W3 W) => SD.out W (BW.out.trans (hb.mono BW.out.size)))
    have SMP3 := hide (fun (W : World) (hb : Below W3.heap.size W3 W) => SMP.out W (BW.out.trans (hb.mono BW.out.size)))
    have BF := hide (B1.trans (BW.out.mono s1))
    clear SD SMP ID IMP B1
    go_wp2_with fail
    refine (SMP3.out _ (Below.refl _ _)).mono ?_
    rintro e w4 ⟨v4, rfl, o4, x4, rfl⟩
    obtain ⟨A4, n4, c4, rfl⟩ := o4.slice
    have l4 := hide o4.pts.1
    have P4 := hide o4.pts.2.2.2
    have F4 := hide o4.form.1
    have k4 : n4 ≤ 9 := by have := l4.out; have := h1.out; omega
    have hz4 := ext_size W3 x4
    have B34 := ext_below W3 x4
    have s4 : W3.heap.size ≤ (ext W3 x4).heap.size := hz4
    have M4 := hide ((B34.block w1.heap.size (by omega)).trans (show W3.heap[w1.heap.size]? = some (.cells #[.int .i64 x, .int .i64 y, .int .i64 z, .int .i64 t] 29 (0, 0)) from BX.out))
    have BF4 := hide (BF.out.trans (B34.mono (by omega)))
    have P34 := hide (P3.out.to B34)
    clear m0 m1 m2 m3 o4 BX P3
    generalize ext W3 x4 = W4 at *
    have m0 := heap_cell M4.out 0
    have m1 := heap_cell M4.out 1
    have m2 := heap_cell M4.out 2
    have m3 := heap_cell M4.out 3
    simp at m0 m1 m2 m3
    have SD4 := hide (fun (W : World) (hb : Below W4.heap.size W4 W) => SD3.out W (B34.trans (hb.mono s4)))
    have EQ : Hid (∀ (W : World) (hb : Below W4.heap.size W4 W), Calls Try.prog 21 #[.slice A3 n3 c3, .slice A4 n4 c4] W fun e w' => e = .returned (.bool true) ∧ ∃ m, w' = ext W m) := hide (fun W hb => by
      have := equalPoints_any (mapL ⟨x, y, z, t⟩ ps) (mapL ⟨x, y, z, t⟩ ps) A3 A4 n3 c3 n4 c4 W l3.out l4.out (by omega) (by omega) (P34.out.to hb) (P4.out.to hb)
      rw [decide_eq_true rfl] at this
      exact this)
    clear SD3 SMP3
    go_wp2_with fail
    refine (SD4.out _ (Below.refl _ _)).mono ?_
    rintro e w' ⟨rfl, hw'⟩; have hzy5 := ext_sz hw'; obtain ⟨y5, rfl⟩ := hw'; (try simp at hzy5)
    go_wp2_with fail
    refine (EQ.out _ (by (repeat' (first | (with_reducible exact Below.refl _ _) | (with_reducible assumption) | (with_reducible refine below_ext _ ?_ ?_) | (with_reducible refine Below.alloc ?_ ?_ _) | (with_reducible refine Below.drew ?_) | (with_reducible refine below_drewN ?_ _) | (with_reducible refine le_drewN _ ?_) | (with_reducible refine Below.setCell ?_ ?_ _) | (with_reducible exact Nat.le_refl _) | (with_reducible refine le_ext _ ?_) | (with_reducible refine le_alloc _ ?_) | (with_reducible refine le_setCell _ _ ?_) | (with_reducible refine le_drew ?_) | omega | (simp; done) | (simp; omega))))).mono ?_
    rintro e w' ⟨rfl, hw'⟩; have hzy6 := ext_sz hw'; obtain ⟨y6, rfl⟩ := hw'; (try simp at hzy6)
    cases hok : mapOk ⟨x, y, z, t⟩ ps
    · rw [hok] at V2 V4
      clear FACT hok
      go_wp2_with fail
      refine (SD4.out _ (by (repeat' (first | (with_reducible exact Below.refl _ _) | (with_reducible assumption) | (with_reducible refine below_ext _ ?_ ?_) | (with_reducible refine Below.alloc ?_ ?_ _) | (with_reducible refine Below.drew ?_) | (with_reducible refine below_drewN ?_ _) | (with_reducible refine le_drewN _ ?_) | (with_reducible refine Below.setCell ?_ ?_ _) | (with_reducible exact Nat.le_refl _) | (with_reducible refine le_ext _ ?_) | (with_reducible refine le_alloc _ ?_) | (with_reducible refine le_setCell _ _ ?_) | (with_reducible refine le_drew ?_) | omega | (simp; done) | (simp; omega))))).mono ?_
      rintro e w' ⟨rfl, hw'⟩; have hzy7 := ext_sz hw'; obtain ⟨y7, rfl⟩ := hw'; (try simp at hzy7)
      go_wp2_with fail
      refine (EQ.out _ (by (repeat' (first | (with_reducible exact Below.refl _ _) | (with_reducible assumption) | (with_reducible refine below_ext _ ?_ ?_) | (with_reducible refine Below.alloc ?_ ?_ _) | (with_reducible refine Below.drew ?_) | (with_reducible refine below_drewN ?_ _) | (with_reducible refine le_drewN _ ?_) | (with_reducible refine Below.setCell ?_ ?_ _) | (with_reducible exact Nat.le_refl _) | (with_reducible refine le_ext _ ?_) | (with_reducible refine le_alloc _ ?_) | (with_reducible refine le_setCell _ _ ?_) | (with_reducible refine le_drew ?_) | omega | (simp; done) | (simp; omega))))).mono ?_
      rintro e w' ⟨rfl, hw'⟩; have hzy8 := ext_sz hw'; obtain ⟨y8, rfl⟩ := hw'; (try simp at hzy8)
      go_wp2_with fail
      go_ret
      exact ⟨rfl, BF4.out.trans (Below.mono (show Below W4.heap.size W4 _ from (by (repeat' (first | (with_reducible exact Below.refl _ _) | (with_reducible assumption) | (with_reducible refine below_ext _ ?_ ?_) | (with_reducible refine Below.alloc ?_ ?_ _) | (with_reducible refine Below.drew ?_) | (with_reducible refine below_drewN ?_ _) | (with_reducible refine le_drewN _ ?_) | (with_reducible refine Below.setCell ?_ ?_ _) | (with_reducible exact Nat.le_refl _) | (with_reducible refine le_ext _ ?_) | (with_reducible refine le_alloc _ ?_) | (with_reducible refine le_setCell _ _ ?_) | (with_reducible refine le_drew ?_) | omega | (simp; done) | (simp; omega))))) (by omega))⟩
    · rw [hok] at V2 V4
      have FACT2 := hide (fun a b => FACT.out a hok b)
      clear FACT hok
      by_cases hn0 : dblA ps = 0
      · have d0 : (dblA ps == 0) = true := by rw [beq_iff_eq]; exact hn0
        clear hn0 FACT2
        go_wp2_with fail
        refine (SD4.out _ (by (repeat' (first | (with_reducible exact Below.refl _ _) | (with_reducible assumption) | (with_reducible refine below_ext _ ?_ ?_) | (with_reducible refine Below.alloc ?_ ?_ _) | (with_reducible refine Below.drew ?_) | (with_reducible refine below_drewN ?_ _) | (with_reducible refine le_drewN _ ?_) | (with_reducible refine Below.setCell ?_ ?_ _) | (with_reducible exact Nat.le_refl _) | (with_reducible refine le_ext _ ?_) | (with_reducible refine le_alloc _ ?_) | (with_reducible refine le_setCell _ _ ?_) | (with_reducible refine le_drew ?_) | omega | (simp; done) | (simp; omega))))).mono ?_
        rintro e w' ⟨rfl, hw'⟩; have hzy7 := ext_sz hw'; obtain ⟨y7, rfl⟩ := hw'; (try simp at hzy7)
        go_wp2_with fail
        refine (EQ.out _ (by (repeat' (first | (with_reducible exact Below.refl _ _) | (with_reducible assumption) | (with_reducible refine below_ext _ ?_ ?_) | (with_reducible refine Below.alloc ?_ ?_ _) | (with_reducible refine Below.drew ?_) | (with_reducible refine below_drewN ?_ _) | (with_reducible refine le_drewN _ ?_) | (with_reducible refine Below.setCell ?_ ?_ _) | (with_reducible exact Nat.le_refl _) | (with_reducible refine le_ext _ ?_) | (with_reducible refine le_alloc _ ?_) | (with_reducible refine le_setCell _ _ ?_) | (with_reducible refine le_drew ?_) | omega | (simp; done) | (simp; omega))))).mono ?_
        rintro e w' ⟨rfl, hw'⟩; have hzy8 := ext_sz hw'; obtain ⟨y8, rfl⟩ := hw'; (try simp at hzy8)
        go_wp2_with fail
        go_ret
        exact ⟨rfl, BF4.out.trans (Below.mono (show Below W4.heap.size W4 _ from (by (repeat' (first | (with_reducible exact Below.refl _ _) | (with_reducible assumption) | (with_reducible refine below_ext _ ?_ ?_) | (with_reducible refine Below.alloc ?_ ?_ _) | (with_reducible refine Below.drew ?_) | (with_reducible refine below_drewN ?_ _) | (with_reducible refine le_drewN _ ?_) | (with_reducible refine Below.setCell ?_ ?_ _) | (with_reducible exact Nat.le_refl _) | (with_reducible refine le_ext _ ?_) | (with_reducible refine le_alloc _ ?_) | (with_reducible refine le_setCell _ _ ?_) | (with_reducible refine le_drew ?_) | omega | (simp; done) | (simp; omega))))) (by omega))⟩
      · have d0 : (dblA ps == 0) = false := by rw [beq_eq_false_iff_ne]; exact hn0
        by_cases hdt : x * t - y * z = 0
        · have d1 : (x * t - y * z == 0) = true := by rw [beq_iff_eq]; exact hdt
          clear hn0 hdt FACT2
          go_wp2_with fail
          refine (DT.out _).mono ?_
          rintro e w' ⟨rfl, hw'⟩; have hzyd := ext_sz hw'; obtain ⟨yd, rfl⟩ := hw'; (try simp at hzyd)
          go_wp2_with fail
          refine (SD4.out _ (by (repeat' (first | (with_reducible exact Below.refl _ _) | (with_reducible assumption) | (with_reducible refine below_ext _ ?_ ?_) | (with_reducible refine Below.alloc ?_ ?_ _) | (with_reducible refine Below.drew ?_) | (with_reducible refine below_drewN ?_ _) | (with_reducible refine le_drewN _ ?_) | (with_reducible refine Below.setCell ?_ ?_ _) | (with_reducible exact Nat.le_refl _) | (with_reducible refine le_ext _ ?_) | (with_reducible refine le_alloc _ ?_) | (with_reducible refine le_setCell _ _ ?_) | (with_reducible refine le_drew ?_) | omega | (simp; done) | (simp; omega))))).mono ?_
          rintro e w' ⟨rfl, hw'⟩; have hzy7 := ext_sz hw'; obtain ⟨y7, rfl⟩ := hw'; (try simp at hzy7)
          go_wp2_with fail
          refine (EQ.out _ (by (repeat' (first | (with_reducible exact Below.refl _ _) | (with_reducible assumption) | (with_reducible refine below_ext _ ?_ ?_) | (with_reducible refine Below.alloc ?_ ?_ _) | (with_reducible refine Below.drew ?_) | (with_reducible refine below_drewN ?_ _) | (with_reducible refine le_drewN _ ?_) | (with_reducible refine Below.setCell ?_ ?_ _) | (with_reducible exact Nat.le_refl _) | (with_reducible refine le_ext _ ?_) | (with_reducible refine le_alloc _ ?_) | (with_reducible refine le_setCell _ _ ?_) | (with_reducible refine le_drew ?_) | omega | (simp; done) | (simp; omega))))).mono ?_
          rintro e w' ⟨rfl, hw'⟩; have hzy8 := ext_sz hw'; obtain ⟨y8, rfl⟩ := hw'; (try simp at hzy8)
          go_wp2_with fail
          go_ret
          exact ⟨rfl, BF4.out.trans (Below.mono (show Below W4.heap.size W4 _ from (by (repeat' (first | (with_reducible exact Below.refl _ _) | (with_reducible assumption) | (with_reducible refine below_ext _ ?_ ?_) | (with_reducible refine Below.alloc ?_ ?_ _) | (with_reducible refine Below.drew ?_) | (with_reducible refine below_drewN ?_ _) | (with_reducible refine le_drewN _ ?_) | (with_reducible refine Below.setCell ?_ ?_ _) | (with_reducible exact Nat.le_refl _) | (with_reducible refine le_ext _ ?_) | (with_reducible refine le_alloc _ ?_) | (with_reducible refine le_setCell _ _ ?_) | (with_reducible refine le_drew ?_) | omega | (simp; done) | (simp; omega))))) (by omega))⟩
        · have d1 : (x * t - y * z == 0) = false := by rw [beq_eq_false_iff_ne]; exact hdt
          obtain ⟨f1, f2⟩ := FACT2.out hdt hn0
          have IS : Hid (∀ (W : World) (hb : Below W4.heap.size W4 W), Calls Try.prog 23 #[.slice A3 n3 c3] W fun e w' => e = .returned (.bool true) ∧ ∃ m, w' = ext W m) := hide (fun W hb => by
            have := iIsSimple_any (mapL ⟨x, y, z, t⟩ ps) A3 n3 c3 W l3.out (by omega) F3.out (P34.out.to hb)
            rw [f1] at this
            exact this)
          have IDQ : Hid (∀ (W : World) (hb : Below W4.heap.size W4 W), Calls Try.prog 16 #[.slice A3 n3 c3] W fun e w' => e = .returned (.int .i64 ((x * t - y * z) * dblA ps)) ∧ ∃ m, w' = ext W m) := hide (fun W hb => by
            have := iDbl_any (mapL ⟨x, y, z, t⟩ ps) A3 n3 c3 W l3.out (by omega) F3.out (P34.out.to hb)
            rw [f2] at this
            exact this)
          have i1 : IntKind.i64.wrap ((x * t - y * z) * dblA ps) = (x * t - y * z) * dblA ps := IntWalk.i64_in _ (by omega)
          clear hn0 hdt FACT2 f1 f2
          go_wp2_with fail
          refine (DT.out _).mono ?_
          rintro e w' ⟨rfl, hw'⟩; have hzyd := ext_sz hw'; obtain ⟨yd, rfl⟩ := hw'; (try simp at hzyd)
          go_wp2_with fail
          refine wp_region_ext (by kernel_rfl) (by kernel_rfl) ?_
          repeat (go_big_quiet_step ((first | (go_at_call 23; exact Calls.in_ext (IS.out _ (by (repeat' (first | (with_reducible exact Below.refl _ _) | (with_reducible assumption) | (with_reducible refine below_ext _ ?_ ?_) | (with_reducible refine Below.alloc ?_ ?_ _) | (with_reducible refine Below.drew ?_) | (with_reducible refine below_drewN ?_ _) | (with_reducible refine le_drewN _ ?_) | (with_reducible refine Below.setCell ?_ ?_ _) | (with_reducible exact Nat.le_refl _) | (with_reducible refine le_ext _ ?_) | (with_reducible refine le_alloc _ ?_) | (with_reducible refine le_setCell _ _ ?_) | (with_reducible refine le_drew ?_) | omega | (simp; done) | (simp; omega)))))) | (go_at_call 16; exact Calls.in_ext (IDQ.out _ (by (repeat' (first | (with_reducible exact Below.refl _ _) | (with_reducible assumption) | (with_reducible refine below_ext _ ?_ ?_) | (with_reducible refine Below.alloc ?_ ?_ _) | (with_reducible refine Below.drew ?_) | (with_reducible refine below_drewN ?_ _) | (with_reducible refine le_drewN _ ?_) | (with_reducible refine Below.setCell ?_ ?_ _) | (with_reducible exact Nat.le_refl _) | (with_reducible refine le_ext _ ?_) | (with_reducible refine le_alloc _ ?_) | (with_reducible refine le_setCell _ _ ?_) | (with_reducible refine le_drew ?_) | omega | (simp; done) | (simp; omega)))))) | (go_at_call 22; exact Calls.in_ext (DT.out _)))))
          refine wpQuiet_nil ?_
          rintro _ hnq
          have hzq := ext_sz hnq
          obtain ⟨nq, rfl⟩ := hnq
          (try simp at hzq)
          go_wp2_with fail
          go_ret
          exact ⟨by simp, BF4.out.trans (Below.mono (show Below W4.heap.size W4 _ from (by (repeat' (first | (with_reducible exact Below.refl _ _) | (with_reducible assumption) | (with_reducible refine below_ext _ ?_ ?_) | (with_reducible refine Below.alloc ?_ ?_ _) | (with_reducible refine Below.drew ?_) | (with_reducible refine below_drewN ?_ _) | (with_reducible refine le_drewN _ ?_) | (with_reducible refine Below.setCell ?_ ?_ _) | (with_reducible exact Nat.le_refl _) | (with_reducible refine le_ext _ ?_) | (with_reducible refine le_alloc _ ?_) | (with_reducible refine le_setCell _ _ ?_) | (with_reducible refine le_drew ?_) | omega | (simp; done) | (simp; omega))))) (by omega))⟩
  · skip
    have hd : decide ((1048576 : Int) < (n : Int)) = true := decide_eq_true (by omega)
    go_enter Try.func4, Try.ntmps4
    go_wp2
    go_ret
    exact ⟨rfl, (by (repeat' (first | (with_reducible exact Below.refl _ _) | (with_reducible assumption) | (with_reducible refine below_ext _ ?_ ?_) | (with_reducible refine Below.alloc ?_ ?_ _) | (with_reducible refine Below.drew ?_) | (with_reducible refine below_drewN ?_ _) | (with_reducible refine le_drewN _ ?_) | (with_reducible refine Below.setCell ?_ ?_ _) | (with_reducible exact Nat.le_refl _) | (with_reducible refine le_ext _ ?_) | (with_reducible refine le_alloc _ ?_) | (with_reducible refine le_setCell _ _ ?_) | (with_reducible refine le_drew ?_) | omega | (simp; done) | (simp; omega))))⟩
set_option maxHeartbeats 4000000 in
theorem lawMapInt (n c : Nat) (A : Option Addr) (w : World) (hn : n ≤ c) (hc : c ≤ 9223372036854775807) (hA : BytesAt w w.heap.size A n) :
    Calls Try.prog 5 #[.slice A n c] w fun e w' => e = .returned (.bool true) ∧ Below w.heap.size w w' := by
  by_cases hle : n ≤ 1048576
  · have hd : decide ((1048576 : Int) < (n : Int)) = false := decide_eq_false (by omega)
    go_enter Try.func5, Try.ntmps5
    go_wp2_with fail
    refine (drawMapped_any n c A _ hn hc hA).mono ?_
    rintro e w1 ⟨x, y, z, t, v1, ps, rfl, hx, hy, hz, ht, o1, lp, cbp, B1⟩
    obtain ⟨A1, n1, c1, rfl⟩ := o1.slice
    have h1 := hide o1.pts.1
    have P1 := hide o1.pts.2.2.2
    have F1 := hide o1.form.1
    have k1 : n1 ≤ 9 := by have := h1.out; omega
    have s1 := B1.size
    have ID := hide (fun (W : World) (hb : Below w1.heap.size w1 W) => iInt_any ps A1 n1 c1 W h1.out (by omega) F1.out (P1.out.to hb))
    have IB := hide (fun (W : World) (hb : Below w1.heap.size w1 W) => iBnd_any ps A1 n1 c1 W h1.out (by omega) F1.out (P1.out.to hb))
    have SD := hide (fun (W : World) (hb : Below w1.heap.size w1 W) => sInt_any ps A1 n1 c1 W h1.out (by omega) (P1.out.to hb))
    have IMP := hide (fun (W : World) (hb : Below w1.heap.size w1 W) => iMap_any ps x y z t A1 n1 c1 W (by omega) (by omega) (by omega) (by omega) h1.out (by omega) (P1.out.to hb))
    have DT := hide (fun (W : World) => det_any x y z t W (by omega) (by omega) (by omega) (by omega))
    have ML := mapL_len ⟨x, y, z, t⟩ ps
    have FACT : Hid ((x * t - y * z = 1 ∨ x * t - y * z = -1) → mapOk ⟨x, y, z, t⟩ ps = true → 0 ≤ intr ps → intr (mapL ⟨x, y, z, t⟩ ps) = intr ps ∧ bnd (mapL ⟨x, y, z, t⟩ ps) = bnd ps) := hide (fun a b c => map_fact2 (m := ⟨x, y, z, t⟩) a b c)
    have mb1 := mul_bd (M := 5) (N := 5) hx ht
    have mb2 := mul_bd (M := 5) (N := 5) hy hz
    clear o1 hA cbp hx hy hz ht
    have V1 : (intr ps != intr ps) = false := by simp
    have V3 : (intr ps == intr ps) = true := by simp
    go_wp2_with fail
    refine (ID.out _ (by (repeat' (first | (with_reducible exact Below.refl _ _) | (with_reducible assumption) | (with_reducible refine below_ext _ ?_ ?_) | (with_reducible refine Below.alloc ?_ ?_ _) | (with_reducible refine Below.drew ?_) | (with_reducible refine below_drewN ?_ _) | (with_reducible refine le_drewN _ ?_) | (with_reducible refine Below.setCell ?_ ?_ _) | (with_reducible exact Nat.le_refl _) | (with_reducible refine le_ext _ ?_) | (with_reducible refine le_alloc _ ?_) | (with_reducible refine le_setCell _ _ ?_) | (with_reducible refine le_drew ?_) | omega | (simp; done) | (simp; omega))))).mono ?_
    rintro e w' ⟨rfl, hw'⟩; have hzy1 := ext_sz hw'; obtain ⟨y1, rfl⟩ := hw'; (try simp at hzy1)
    go_wp2_with fail
    refine (IMP.out _ (by (repeat' (first | (with_reducible exact Below.refl _ _) | (with_reducible assumption) | (with_reducible refine below_ext _ ?_ ?_) | (with_reducible refine Below.alloc ?_ ?_ _) | (with_reducible refine Below.drew ?_) | (with_reducible refine below_drewN ?_ _) | (with_reducible refine le_drewN _ ?_) | (with_reducible refine Below.setCell ?_ ?_ _) | (with_reducible exact Nat.le_refl _) | (with_reducible refine le_ext _ ?_) | (with_reducible refine le_alloc _ ?_) | (with_reducible refine le_setCell _ _ ?_) | (with_reducible refine le_drew ?_) | omega | (simp; done) | (simp; omega))))).mono ?_
    rintro e w3 ⟨v3, rfl, o3, x3, rfl⟩
    obtain ⟨A3, n3, c3, rfl⟩ := o3.slice
    have l3 := hide o3.pts.1
    have P3 := hide o3.pts.2.2.2
    have F3 := hide o3.form.1
    have k3 : n3 ≤ 9 := by have := l3.out; have := h1.out; omega
    have hz3 := ext_size (ext (w1.alloc (.cells #[.int .i64 x, .int .i64 y, .int .i64 z, .int .i64 t] 29)) y1) x3
    have BW := hide (show Below w1.heap.size w1 (ext (ext (w1.alloc (.cells #[.int .i64 x, .int .i64 y, .int .i64 z, .int .i64 t] 29)) y1) x3) from (by (repeat' (first | (with_reducible exact Below.refl _ _) | (with_reducible assumption) | (with_reducible refine below_ext _ ?_ ?_) | (with_reducible refine Below.alloc ?_ ?_ _) | (with_reducible refine Below.drew ?_) | (with_reducible refine below_drewN ?_ _) | (with_reducible refine le_drewN _ ?_) | (with_reducible refine Below.setCell ?_ ?_ _) | (with_reducible exact Nat.le_refl _) | (with_reducible refine le_ext _ ?_) | (with_reducible refine le_alloc _ ?_) | (with_reducible refine le_setCell _ _ ?_) | (with_reducible refine le_drew ?_) | omega | (simp; done) | (simp; omega)))))
    have BX := hide ((Below.block (show Below (w1.alloc (.cells #[.int .i64 x, .int .i64 y, .int .i64 z, .int .i64 t] 29)).heap.size (w1.alloc (.cells #[.int .i64 x, .int .i64 y, .int .i64 z, .int .i64 t] 29)) (ext (ext (w1.alloc (.cells #[.int .i64 x, .int .i64 y, .int .i64 z, .int .i64 t] 29)) y1) x3) from (by (repeat' (first | (with_reducible exact Below.refl _ _) | (with_reducible assumption) | (with_reducible refine below_ext _ ?_ ?_) | (with_reducible refine Below.alloc ?_ ?_ _) | (with_reducible refine Below.drew ?_) | (with_reducible refine below_drewN ?_ _) | (with_reducible refine le_drewN _ ?_) | (with_reducible refine Below.setCell ?_ ?_ _) | (with_reducible exact Nat.le_refl _) | (with_reducible refine le_ext _ ?_) | (with_reducible refine le_alloc _ ?_) | (with_reducible refine le_setCell _ _ ?_) | (with_reducible refine le_drew ?_) | omega | (simp; done) | (simp; omega))))) w1.heap.size (by simp)).trans (heap_alloc_new w1 (.cells #[.int .i64 x, .int .i64 y, .int .i64 z, .int .i64 t] 29)))
    have sW : w1.heap.size + 1 ≤ (ext (ext (w1.alloc (.cells #[.int .i64 x, .int .i64 y, .int .i64 z, .int .i64 t] 29)) y1) x3).heap.size := by omega
    clear o3 hz3
    generalize ext (ext (w1.alloc (.cells #[.int .i64 x, .int .i64 y, .int .i64 z, .int .i64 t] 29)) y1) x3 = W3 at *
    have m0 := heap_cell BX.out 0
    have m1 := heap_cell BX.out 1
    have m2 := heap_cell BX.out 2
    have m3 := heap_cell BX.out 3
    simp at m0 m1 m2 m3
    have SD3 := hide (fun (W : World) (hb : Below W3.heap.size W3 W) => SD.out W (BW.out.trans (hb.mono BW.out.size)))
    have IB3 := hide (fun (W : World) (hb : Below W3.heap.size W3 W) => IB.out W (BW.out.trans (hb.mono BW.out.size)))
    have BF := hide (B1.trans (BW.out.mono s1))
    clear SD IMP ID IB BX B1
    go_wp2_with fail
    refine (DT.out _).mono ?_
    rintro e w' ⟨rfl, hw'⟩; have hzyd := ext_sz hw'; obtain ⟨yd, rfl⟩ := hw'; (try simp at hzyd)
    go_wp2_with fail
    refine (SD3.out _ (by (repeat' (first | (with_reducible exact Below.refl _ _) | (with_reducible assumption) | (with_reducible refine below_ext _ ?_ ?_) | (with_reducible refine Below.alloc ?_ ?_ _) | (with_reducible refine Below.drew ?_) | (with_reducible refine below_drewN ?_ _) | (with_reducible refine le_drewN _ ?_) | (with_reducible refine Below.setCell ?_ ?_ _) | (with_reducible exact Nat.le_refl _) | (with_reducible refine le_ext _ ?_) | (with_reducible refine le_alloc _ ?_) | (with_reducible refine le_setCell _ _ ?_) | (with_reducible refine le_drew ?_) | omega | (simp; done) | (simp; omega))))).mono ?_
    rintro e w' ⟨rfl, hw'⟩; have hzy5 := ext_sz hw'; obtain ⟨y5, rfl⟩ := hw'; (try simp at hzy5)
    cases hok : mapOk ⟨x, y, z, t⟩ ps
    · clear FACT
      go_wp2_with fail
      refine (SD3.out _ (by (repeat' (first | (with_reducible exact Below.refl _ _) | (with_reducible assumption) | (with_reducible refine below_ext _ ?_ ?_) | (with_reducible refine Below.alloc ?_ ?_ _) | (with_reducible refine Below.drew ?_) | (with_reducible refine below_drewN ?_ _) | (with_reducible refine le_drewN _ ?_) | (with_reducible refine Below.setCell ?_ ?_ _) | (with_reducible exact Nat.le_refl _) | (with_reducible refine le_ext _ ?_) | (with_reducible refine le_alloc _ ?_) | (with_reducible refine le_setCell _ _ ?_) | (with_reducible refine le_drew ?_) | omega | (simp; done) | (simp; omega))))).mono ?_
      rintro e w' ⟨rfl, hw'⟩; have hzy8 := ext_sz hw'; obtain ⟨y8, rfl⟩ := hw'; (try simp at hzy8)
      go_wp2_with fail
      go_ret
      exact ⟨rfl, BF.out.trans (Below.mono (show Below W3.heap.size W3 _ from (by (repeat' (first | (with_reducible exact Below.refl _ _) | (with_reducible assumption) | (with_reducible refine below_ext _ ?_ ?_) | (with_reducible refine Below.alloc ?_ ?_ _) | (with_reducible refine Below.drew ?_) | (with_reducible refine below_drewN ?_ _) | (with_reducible refine le_drewN _ ?_) | (with_reducible refine Below.setCell ?_ ?_ _) | (with_reducible exact Nat.le_refl _) | (with_reducible refine le_ext _ ?_) | (with_reducible refine le_alloc _ ?_) | (with_reducible refine le_setCell _ _ ?_) | (with_reducible refine le_drew ?_) | omega | (simp; done) | (simp; omega))))) (by omega))⟩
    · have FACT2 := hide (fun a b => FACT.out a hok b)
      clear FACT
      by_cases hn0 : intr ps < 0
      · have d0 : decide (intr ps < 0) = true := decide_eq_true hn0
        clear hn0 FACT2
        go_wp2_with fail
        refine (SD3.out _ (by (repeat' (first | (with_reducible exact Below.refl _ _) | (with_reducible assumption) | (with_reducible refine below_ext _ ?_ ?_) | (with_reducible refine Below.alloc ?_ ?_ _) | (with_reducible refine Below.drew ?_) | (with_reducible refine below_drewN ?_ _) | (with_reducible refine le_drewN _ ?_) | (with_reducible refine Below.setCell ?_ ?_ _) | (with_reducible exact Nat.le_refl _) | (with_reducible refine le_ext _ ?_) | (with_reducible refine le_alloc _ ?_) | (with_reducible refine le_setCell _ _ ?_) | (with_reducible refine le_drew ?_) | omega | (simp; done) | (simp; omega))))).mono ?_
        rintro e w' ⟨rfl, hw'⟩; have hzy8 := ext_sz hw'; obtain ⟨y8, rfl⟩ := hw'; (try simp at hzy8)
        go_wp2_with fail
        go_ret
        exact ⟨rfl, BF.out.trans (Below.mono (show Below W3.heap.size W3 _ from (by (repeat' (first | (with_reducible exact Below.refl _ _) | (with_reducible assumption) | (with_reducible refine below_ext _ ?_ ?_) | (with_reducible refine Below.alloc ?_ ?_ _) | (with_reducible refine Below.drew ?_) | (with_reducible refine below_drewN ?_ _) | (with_reducible refine le_drewN _ ?_) | (with_reducible refine Below.setCell ?_ ?_ _) | (with_reducible exact Nat.le_refl _) | (with_reducible refine le_ext _ ?_) | (with_reducible refine le_alloc _ ?_) | (with_reducible refine le_setCell _ _ ?_) | (with_reducible refine le_drew ?_) | omega | (simp; done) | (simp; omega))))) (by omega))⟩
      · have d0 : decide (intr ps < 0) = false := decide_eq_false hn0
        by_cases hdt : x * t - y * z = 1
        · obtain ⟨f1, f2⟩ := FACT2.out (.inl hdt) (by omega)
          have d1 : (x * t - y * z != 1) = false := by simp [hdt]
          clear FACT2 hdt hn0
          have IQ : Hid (∀ (W : World) (hb : Below W3.heap.size W3 W), Calls Try.prog 11 #[.slice A3 n3 c3] W fun e w' => e = .returned (.int .i64 (intr ps)) ∧ ∃ m, w' = ext W m) := hide (fun W hb => by
            have := iInt_any (mapL ⟨x, y, z, t⟩ ps) A3 n3 c3 W l3.out (by omega) F3.out (P3.out.to hb)
            rw [f1] at this
            exact this)
          have BQ : Hid (∀ (W : World) (hb : Below W3.heap.size W3 W), Calls Try.prog 12 #[.slice A3 n3 c3] W fun e w' => e = .returned (.int .i64 (bnd ps)) ∧ ∃ m, w' = ext W m) := hide (fun W hb => by
            have := iBnd_any (mapL ⟨x, y, z, t⟩ ps) A3 n3 c3 W l3.out (by omega) F3.out (P3.out.to hb)
            rw [f2] at this
            exact this)
          have V6 : (bnd ps == bnd ps) = true := by simp
          clear f1 f2
          go_wp2_with fail
          refine (IQ.out _ (by (repeat' (first | (with_reducible exact Below.refl _ _) | (with_reducible assumption) | (with_reducible refine below_ext _ ?_ ?_) | (with_reducible refine Below.alloc ?_ ?_ _) | (with_reducible refine Below.drew ?_) | (with_reducible refine below_drewN ?_ _) | (with_reducible refine le_drewN _ ?_) | (with_reducible refine Below.setCell ?_ ?_ _) | (with_reducible exact Nat.le_refl _) | (with_reducible refine le_ext _ ?_) | (with_reducible refine le_alloc _ ?_) | (with_reducible refine le_setCell _ _ ?_) | (with_reducible refine le_drew ?_) | omega | (simp; done) | (simp; omega))))).mono ?_
          rintro e w' ⟨rfl, hw'⟩; have hzy6 := ext_sz hw'; obtain ⟨y6, rfl⟩ := hw'; (try simp at hzy6)
          go_wp2_with fail
          refine (BQ.out _ (by (repeat' (first | (with_reducible exact Below.refl _ _) | (with_reducible assumption) | (with_reducible refine below_ext _ ?_ ?_) | (with_reducible refine Below.alloc ?_ ?_ _) | (with_reducible refine Below.drew ?_) | (with_reducible refine below_drewN ?_ _) | (with_reducible refine le_drewN _ ?_) | (with_reducible refine Below.setCell ?_ ?_ _) | (with_reducible exact Nat.le_refl _) | (with_reducible refine le_ext _ ?_) | (with_reducible refine le_alloc _ ?_) | (with_reducible refine le_setCell _ _ ?_) | (with_reducible refine le_drew ?_) | omega | (simp; done) | (simp; omega))))).mono ?_
          rintro e w' ⟨rfl, hw'⟩; have hzy7 := ext_sz hw'; obtain ⟨y7, rfl⟩ := hw'; (try simp at hzy7)
          go_wp2_with fail
          refine (IB3.out _ (by (repeat' (first | (with_reducible exact Below.refl _ _) | (with_reducible assumption) | (with_reducible refine below_ext _ ?_ ?_) | (with_reducible refine Below.alloc ?_ ?_ _) | (with_reducible refine Below.drew ?_) | (with_reducible refine below_drewN ?_ _) | (with_reducible refine le_drewN _ ?_) | (with_reducible refine Below.setCell ?_ ?_ _) | (with_reducible exact Nat.le_refl _) | (with_reducible refine le_ext _ ?_) | (with_reducible refine le_alloc _ ?_) | (with_reducible refine le_setCell _ _ ?_) | (with_reducible refine le_drew ?_) | omega | (simp; done) | (simp; omega))))).mono ?_
          rintro e w' ⟨rfl, hw'⟩; have hzy8 := ext_sz hw'; obtain ⟨y8, rfl⟩ := hw'; (try simp at hzy8)
          go_wp2_with fail
          go_ret
          exact ⟨rfl, BF.out.trans (Below.mono (show Below W3.heap.size W3 _ from (by (repeat' (first | (with_reducible exact Below.refl _ _) | (with_reducible assumption) | (with_reducible refine below_ext _ ?_ ?_) | (with_reducible refine Below.alloc ?_ ?_ _) | (with_reducible refine Below.drew ?_) | (with_reducible refine below_drewN ?_ _) | (with_reducible refine le_drewN _ ?_) | (with_reducible refine Below.setCell ?_ ?_ _) | (with_reducible exact Nat.le_refl _) | (with_reducible refine le_ext _ ?_) | (with_reducible refine le_alloc _ ?_) | (with_reducible refine le_setCell _ _ ?_) | (with_reducible refine le_drew ?_) | omega | (simp; done) | (simp; omega))))) (by omega))⟩
        · have d1 : (x * t - y * z != 1) = true := by simp [hdt]
          by_cases hdt2 : x * t - y * z = -1
          · obtain ⟨f1, f2⟩ := FACT2.out (.inr hdt2) (by omega)
            have d2 : (x * t - y * z != -1) = false := by simp [hdt2]
            clear FACT2 hdt hdt2 hn0
            have IQ : Hid (∀ (W : World) (hb : Below W3.heap.size W3 W), Calls Try.prog 11 #[.slice A3 n3 c3] W fun e w' => e = .returned (.int .i64 (intr ps)) ∧ ∃ m, w' = ext W m) := hide (fun W hb => by
              have := iInt_any (mapL ⟨x, y, z, t⟩ ps) A3 n3 c3 W l3.out (by omega) F3.out (P3.out.to hb)
              rw [f1] at this
              exact this)
            have BQ : Hid (∀ (W : World) (hb : Below W3.heap.size W3 W), Calls Try.prog 12 #[.slice A3 n3 c3] W fun e w' => e = .returned (.int .i64 (bnd ps)) ∧ ∃ m, w' = ext W m) := hide (fun W hb => by
              have := iBnd_any (mapL ⟨x, y, z, t⟩ ps) A3 n3 c3 W l3.out (by omega) F3.out (P3.out.to hb)
              rw [f2] at this
              exact this)
            have V6 : (bnd ps == bnd ps) = true := by simp
            clear f1 f2
            go_wp2_with fail
            refine (IQ.out _ (by (repeat' (first | (with_reducible exact Below.refl _ _) | (with_reducible assumption) | (with_reducible refine below_ext _ ?_ ?_) | (with_reducible refine Below.alloc ?_ ?_ _) | (with_reducible refine Below.drew ?_) | (with_reducible refine below_drewN ?_ _) | (with_reducible refine le_drewN _ ?_) | (with_reducible refine Below.setCell ?_ ?_ _) | (with_reducible exact Nat.le_refl _) | (with_reducible refine le_ext _ ?_) | (with_reducible refine le_alloc _ ?_) | (with_reducible refine le_setCell _ _ ?_) | (with_reducible refine le_drew ?_) | omega | (simp; done) | (simp; omega))))).mono ?_
            rintro e w' ⟨rfl, hw'⟩; have hzy6 := ext_sz hw'; obtain ⟨y6, rfl⟩ := hw'; (try simp at hzy6)
            go_wp2_with fail
            refine (BQ.out _ (by (repeat' (first | (with_reducible exact Below.refl _ _) | (with_reducible assumption) | (with_reducible refine below_ext _ ?_ ?_) | (with_reducible refine Below.alloc ?_ ?_ _) | (with_reducible refine Below.drew ?_) | (with_reducible refine below_drewN ?_ _) | (with_reducible refine le_drewN _ ?_) | (with_reducible refine Below.setCell ?_ ?_ _) | (with_reducible exact Nat.le_refl _) | (with_reducible refine le_ext _ ?_) | (with_reducible refine le_alloc _ ?_) | (with_reducible refine le_setCell _ _ ?_) | (with_reducible refine le_drew ?_) | omega | (simp; done) | (simp; omega))))).mono ?_
            rintro e w' ⟨rfl, hw'⟩; have hzy7 := ext_sz hw'; obtain ⟨y7, rfl⟩ := hw'; (try simp at hzy7)
            go_wp2_with fail
            refine (IB3.out _ (by (repeat' (first | (with_reducible exact Below.refl _ _) | (with_reducible assumption) | (with_reducible refine below_ext _ ?_ ?_) | (with_reducible refine Below.alloc ?_ ?_ _) | (with_reducible refine Below.drew ?_) | (with_reducible refine below_drewN ?_ _) | (with_reducible refine le_drewN _ ?_) | (with_reducible refine Below.setCell ?_ ?_ _) | (with_reducible exact Nat.le_refl _) | (with_reducible refine le_ext _ ?_) | (with_reducible refine le_alloc _ ?_) | (with_reducible refine le_setCell _ _ ?_) | (with_reducible refine le_drew ?_) | omega | (simp; done) | (simp; omega))))).mono ?_
            rintro e w' ⟨rfl, hw'⟩; have hzy8 := ext_sz hw'; obtain ⟨y8, rfl⟩ := hw'; (try simp at hzy8)
            go_wp2_with fail
            go_ret
            exact ⟨rfl, BF.out.trans (Below.mono (show Below W3.heap.size W3 _ from (by (repeat' (first | (with_reducible exact Below.refl _ _) | (with_reducible assumption) | (with_reducible refine below_ext _ ?_ ?_) | (with_reducible refine Below.alloc ?_ ?_ _) | (with_reducible refine Below.drew ?_) | (with_reducible refine below_drewN ?_ _) | (with_reducible refine le_drewN _ ?_) | (with_reducible refine Below.setCell ?_ ?_ _) | (with_reducible exact Nat.le_refl _) | (with_reducible refine le_ext _ ?_) | (with_reducible refine le_alloc _ ?_) | (with_reducible refine le_setCell _ _ ?_) | (with_reducible refine le_drew ?_) | omega | (simp; done) | (simp; omega))))) (by omega))⟩
          · have d2 : (x * t - y * z != -1) = true := by simp [hdt2]
            clear FACT2 hdt hdt2 hn0
            go_wp2_with fail
            refine (SD3.out _ (by (repeat' (first | (with_reducible exact Below.refl _ _) | (with_reducible assumption) | (with_reducible refine below_ext _ ?_ ?_) | (with_reducible refine Below.alloc ?_ ?_ _) | (with_reducible refine Below.drew ?_) | (with_reducible refine below_drewN ?_ _) | (with_reducible refine le_drewN _ ?_) | (with_reducible refine Below.setCell ?_ ?_ _) | (with_reducible exact Nat.le_refl _) | (with_reducible refine le_ext _ ?_) | (with_reducible refine le_alloc _ ?_) | (with_reducible refine le_setCell _ _ ?_) | (with_reducible refine le_drew ?_) | omega | (simp; done) | (simp; omega))))).mono ?_
            rintro e w' ⟨rfl, hw'⟩; have hzy8 := ext_sz hw'; obtain ⟨y8, rfl⟩ := hw'; (try simp at hzy8)
            go_wp2_with fail
            go_ret
            exact ⟨rfl, BF.out.trans (Below.mono (show Below W3.heap.size W3 _ from (by (repeat' (first | (with_reducible exact Below.refl _ _) | (with_reducible assumption) | (with_reducible refine below_ext _ ?_ ?_) | (with_reducible refine Below.alloc ?_ ?_ _) | (with_reducible refine Below.drew ?_) | (with_reducible refine below_drewN ?_ _) | (with_reducible refine le_drewN _ ?_) | (with_reducible refine Below.setCell ?_ ?_ _) | (with_reducible exact Nat.le_refl _) | (with_reducible refine le_ext _ ?_) | (with_reducible refine le_alloc _ ?_) | (with_reducible refine le_setCell _ _ ?_) | (with_reducible refine le_drew ?_) | omega | (simp; done) | (simp; omega))))) (by omega))⟩
  · skip
    have hd : decide ((1048576 : Int) < (n : Int)) = true := decide_eq_true (by omega)
    go_enter Try.func5, Try.ntmps5
    go_wp2
    go_ret
    exact ⟨rfl, (by (repeat' (first | (with_reducible exact Below.refl _ _) | (with_reducible assumption) | (with_reducible refine below_ext _ ?_ ?_) | (with_reducible refine Below.alloc ?_ ?_ _) | (with_reducible refine Below.drew ?_) | (with_reducible refine below_drewN ?_ _) | (with_reducible refine le_drewN _ ?_) | (with_reducible refine Below.setCell ?_ ?_ _) | (with_reducible exact Nat.le_refl _) | (with_reducible refine le_ext _ ?_) | (with_reducible refine le_alloc _ ?_) | (with_reducible refine le_setCell _ _ ?_) | (with_reducible refine le_drew ?_) | omega | (simp; done) | (simp; omega))))⟩
end Go.Proofs.Ytelhidonhldjeaa
