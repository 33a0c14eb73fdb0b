
/- FnSupportValue: the law's walk. -/
import Derived.Test.YtoendanihhocjaaSupM
import Derived.Test.YtoendanihhocjaaAreaI
import Derived.Test.YtoendanihhocjaaDrawH
set_option linter.unusedVariables false
set_option linter.unusedSimpArgs false
namespace Go.Proofs.Ytoendanihhocjaa
open Go.RowKit

set_option maxHeartbeats 2000000 in
theorem lawSup (n c : Nat) (A : Option Addr) (w : World) (hn : n ≤ c) (hc : c ≤ 9223372036854775807) (hA : BytesAt w w.heap.size A n) :
    Calls Try.prog 3 #[.slice A n c] w fun e w' => e = .returned (.bool true) ∧ Below w.heap.size w w' := by
  by_cases hle : n ≤ 1048576
  · have hd : decide ((1048576 : Int) < (n : Int)) = false := decide_eq_false (by omega)
    go_enter Try.func3, Try.ntmps3
    go_wp2_with fail
    refine (drawSupport_any n c A _ hn hc hA).mono ?_
    rintro e w1 ⟨v, ps, x, y, rfl, hown, hlen, hcb, hx, hy, B1⟩
    obtain ⟨A2, n2, c2, rfl⟩ := hown.slice
    obtain ⟨l1, l2, l3, p1⟩ := hown.pts
    have pl2 := hown.form.1
    have s1 := B1.size
    have k1 : n2 ≤ 2000000 := by omega
    have CS := hide (fun (a b : Int) (W : World) (hb : Below w1.heap.size w1 W) => iSupport_any ps a b A2 n2 c2 W l1 k1 (p1.to hb))
    have CR := hide (fun (W : World) (hb : Below w1.heap.size w1 W) => sSupport_any ps x y A2 n2 c2 W l1 k1 (p1.to hb))
    have CE := hide (fun (W : World) (hb : Below w1.heap.size w1 W) => iExtreme_any ps x y A2 n2 c2 W l1 k1 (p1.to hb))
    have CH := hide (fun (W : World) (hb : Below w1.heap.size w1 W) => iHull_any ps A2 n2 c2 W l1 k1 pl2 (p1.to hb))
    have C4 := hide (fun (W : World) (A4 : Option Addr) (n4 c4 : Nat) (h1 : (hullL ps).length = n4) (h2 : n4 ≤ 2000000) (h3 : PtsAt W W.heap.size A4 (hullL ps)) => iSupport_any (hullL ps) x y A4 n4 c4 W h1 h2 h3)
    have HLL : Hid ((hullL ps).length ≤ 2000000) := hide (by
      unfold hullL; split
      · have := hullOf_len' ps; omega
      · simp)
    clear hcb hown p1 pl2 hA
    go_wp2_with fail
    refine (CS.out x y _ (by (repeat' (first | (with_reducible exact Below.refl _ _) | (with_reducible assumption) | (with_reducible refine below_ext _ ?_ ?_) | (with_reducible refine Below.alloc ?_ ?_ _) | (with_reducible refine Below.drew ?_) | (with_reducible refine below_drewN ?_ _) | (with_reducible refine le_drewN _ ?_) | (with_reducible refine Below.setCell ?_ ?_ _) | (with_reducible exact Nat.le_refl _) | (with_reducible refine le_ext _ ?_) | (with_reducible refine le_alloc _ ?_) | (with_reducible refine le_setCell _ _ ?_) | (with_reducible refine le_drew ?_) | omega | (simp; done) | (simp; omega))))).mono ?_
    rintro e w' ⟨rfl, hw'⟩; have hzy2 := ext_sz hw'; obtain ⟨y2, rfl⟩ := hw'; (try simp at hzy2)
    go_wp2_with fail
    refine (CR.out _ (by (repeat' (first | (with_reducible exact Below.refl _ _) | (with_reducible assumption) | (with_reducible refine below_ext _ ?_ ?_) | (with_reducible refine Below.alloc ?_ ?_ _) | (with_reducible refine Below.drew ?_) | (with_reducible refine below_drewN ?_ _) | (with_reducible refine le_drewN _ ?_) | (with_reducible refine Below.setCell ?_ ?_ _) | (with_reducible exact Nat.le_refl _) | (with_reducible refine le_ext _ ?_) | (with_reducible refine le_alloc _ ?_) | (with_reducible refine le_setCell _ _ ?_) | (with_reducible refine le_drew ?_) | omega | (simp; done) | (simp; omega))))).mono ?_
    rintro e w' ⟨rfl, hw'⟩; have hzy3 := ext_sz hw'; obtain ⟨y3, rfl⟩ := hw'; (try simp at hzy3)
    go_wp2_with fail
    by_cases hex : extremeOf ps x y < 0
    · have hd2 : decide (extremeOf ps x y < 0) = true := decide_eq_true hex
      refine (CE.out _ (by (repeat' (first | (with_reducible exact Below.refl _ _) | (with_reducible assumption) | (with_reducible refine below_ext _ ?_ ?_) | (with_reducible refine Below.alloc ?_ ?_ _) | (with_reducible refine Below.drew ?_) | (with_reducible refine below_drewN ?_ _) | (with_reducible refine le_drewN _ ?_) | (with_reducible refine Below.setCell ?_ ?_ _) | (with_reducible exact Nat.le_refl _) | (with_reducible refine le_ext _ ?_) | (with_reducible refine le_alloc _ ?_) | (with_reducible refine le_setCell _ _ ?_) | (with_reducible refine le_drew ?_) | omega | (simp; done) | (simp; omega))))).mono ?_
      rintro e w' ⟨rfl, hw'⟩; have hzy4 := ext_sz hw'; obtain ⟨y4, rfl⟩ := hw'; (try simp at hzy4)
      clear hex
      go_wp2_with fail
      refine (CR.out _ (by (repeat' (first | (with_reducible exact Below.refl _ _) | (with_reducible assumption) | (with_reducible refine below_ext _ ?_ ?_) | (with_reducible refine Below.alloc ?_ ?_ _) | (with_reducible refine Below.drew ?_) | (with_reducible refine below_drewN ?_ _) | (with_reducible refine le_drewN _ ?_) | (with_reducible refine Below.setCell ?_ ?_ _) | (with_reducible exact Nat.le_refl _) | (with_reducible refine le_ext _ ?_) | (with_reducible refine le_alloc _ ?_) | (with_reducible refine le_setCell _ _ ?_) | (with_reducible refine le_drew ?_) | omega | (simp; done) | (simp; omega))))).mono ?_
      rintro e w' ⟨rfl, hw'⟩; have hzy5 := ext_sz hw'; obtain ⟨y5, rfl⟩ := hw'; (try simp at hzy5)
      go_wp2_with fail
      go_ret
      exact ⟨ret_bool (by simp), (by (repeat' (first | (with_reducible exact Below.refl _ _) | (with_reducible assumption) | (with_reducible refine below_ext _ ?_ ?_) | (with_reducible refine Below.alloc ?_ ?_ _) | (with_reducible refine Below.drew ?_) | (with_reducible refine below_drewN ?_ _) | (with_reducible refine le_drewN _ ?_) | (with_reducible refine Below.setCell ?_ ?_ _) | (with_reducible exact Nat.le_refl _) | (with_reducible refine le_ext _ ?_) | (with_reducible refine le_alloc _ ?_) | (with_reducible refine le_setCell _ _ ?_) | (with_reducible refine le_drew ?_) | omega | (simp; done) | (simp; omega))))⟩
    · have hd2 : decide (extremeOf ps x y < 0) = false := decide_eq_false hex
      have SO := (SupOk.iff ps x y).2 hex
      have HE : hullL ps = hullOf ps := if_pos SO.1
      have e1 := hide (support_hull SO)
      rw [← HE] at e1
      have e2 := support_opp SO
      have e3 := support_bd SO
      have e4 := support_bd SO.opp
      refine (CE.out _ (by (repeat' (first | (with_reducible exact Below.refl _ _) | (with_reducible assumption) | (with_reducible refine below_ext _ ?_ ?_) | (with_reducible refine Below.alloc ?_ ?_ _) | (with_reducible refine Below.drew ?_) | (with_reducible refine below_drewN ?_ _) | (with_reducible refine le_drewN _ ?_) | (with_reducible refine Below.setCell ?_ ?_ _) | (with_reducible exact Nat.le_refl _) | (with_reducible refine le_ext _ ?_) | (with_reducible refine le_alloc _ ?_) | (with_reducible refine le_setCell _ _ ?_) | (with_reducible refine le_drew ?_) | omega | (simp; done) | (simp; omega))))).mono ?_
      rintro e w' ⟨rfl, hw'⟩; have hzy4 := ext_sz hw'; obtain ⟨y4, rfl⟩ := hw'; (try simp at hzy4)
      clear hex SO HE
      rw [e1.out] at C4
      generalize supportOf ps x y = N at *
      have CM := hide (CS.out (-x) (-y))
      have HW0 : Hid ((ext (ext (ext (w1.alloc (.cells #[.int .i64 x, .int .i64 y] 25)) y2) y3) y4).heap[w1.heap.size]? = some (.cells #[.int .i64 x, .int .i64 y] 25 (0, 0))) := hide ((((show Below (w1.alloc (.cells #[.int .i64 x, .int .i64 y] 25)).heap.size (w1.alloc (.cells #[.int .i64 x, .int .i64 y] 25)) (ext (ext (ext (w1.alloc (.cells #[.int .i64 x, .int .i64 y] 25)) y2) y3) y4) from (by (repeat' (first | (with_reducible exact Below.refl _ _) | (with_reducible assumption) | (with_reducible refine below_ext _ ?_ ?_) | (with_reducible refine Below.alloc ?_ ?_ _) | (with_reducible refine Below.drew ?_) | (with_reducible refine below_drewN ?_ _) | (with_reducible refine le_drewN _ ?_) | (with_reducible refine Below.setCell ?_ ?_ _) | (with_reducible exact Nat.le_refl _) | (with_reducible refine le_ext _ ?_) | (with_reducible refine le_alloc _ ?_) | (with_reducible refine le_setCell _ _ ?_) | (with_reducible refine le_drew ?_) | omega | (simp; done) | (simp; omega))))).block w1.heap.size (by simp))).trans (heap_alloc_new w1 _))
      have B4 := hide (show Below w1.heap.size w1 (ext (ext (ext (w1.alloc (.cells #[.int .i64 x, .int .i64 y] 25)) y2) y3) y4) from (by (repeat' (first | (with_reducible exact Below.refl _ _) | (with_reducible assumption) | (with_reducible refine below_ext _ ?_ ?_) | (with_reducible refine Below.alloc ?_ ?_ _) | (with_reducible refine Below.drew ?_) | (with_reducible refine below_drewN ?_ _) | (with_reducible refine le_drewN _ ?_) | (with_reducible refine Below.setCell ?_ ?_ _) | (with_reducible exact Nat.le_refl _) | (with_reducible refine le_ext _ ?_) | (with_reducible refine le_alloc _ ?_) | (with_reducible refine le_setCell _ _ ?_) | (with_reducible refine le_drew ?_) | omega | (simp; done) | (simp; omega)))))
      have s4 : w1.heap.size + 1 ≤ (ext (ext (ext (w1.alloc (.cells #[.int .i64 x, .int .i64 y] 25)) y2) y3) y4).heap.size := by omega
      generalize ext (ext (ext (w1.alloc (.cells #[.int .i64 x, .int .i64 y] 25)) y2) y3) y4 = W4 at *
      generalize supportOf ps (-x) (-y) = M at *
      have SC : Hid (∀ W, Below (w1.heap.size + 1) W4 W → W.cell? ⟨w1.heap.size, 0, none⟩ = some (.int .i64 x) ∧ W.cell? ⟨w1.heap.size, 1, none⟩ = some (.int .i64 y)) := hide (fun W hW => by
        have h := (hW.block w1.heap.size (Nat.lt_succ_self _)).trans HW0.out
        exact ⟨(heap_cell h 0).trans rfl, (heap_cell h 1).trans rfl⟩)
      have i1 : IntKind.i64.wrap (-x) = -x := IntWalk.i64_in _ (by omega)
      have i2 : IntKind.i64.wrap (-y) = -y := IntWalk.i64_in _ (by omega)
      have i3 : IntKind.i64.wrap (N + M) = N + M := IntWalk.i64_in _ (by omega)
      have tok1 : True := trivial
      have BF : Hid (∀ W, Below w1.heap.size W4 W → Below w.heap.size w W) := hide (fun W hW => B1.trans ((B4.out.trans hW).mono s1))
      clear CS CR CE HW0 e1
      go_wp2_with fail
      go_region_held3 (fun W => W.cell? ⟨w1.heap.size, 0, none⟩ = some (.int .i64 x) ∧ W.cell? ⟨w1.heap.size, 1, none⟩ = some (.int .i64 y)) (exact SC.out _ (by (repeat' (first | (with_reducible exact Below.refl _ _) | (with_reducible assumption) | (with_reducible refine below_ext _ ?_ ?_) | (with_reducible refine Below.alloc ?_ ?_ _) | (with_reducible refine Below.drew ?_) | (with_reducible refine below_drewN ?_ _) | (with_reducible refine le_drewN _ ?_) | (with_reducible refine Below.setCell ?_ ?_ _) | (with_reducible exact Nat.le_refl _) | (with_reducible refine le_ext _ ?_) | (with_reducible refine le_alloc _ ?_) | (with_reducible refine le_setCell _ _ ?_) | (with_reducible refine le_drew ?_) | omega | (simp; done) | (simp; omega))))) (first | (go_at_call 18; refine (CH.out _ (B4.out.trans (by (repeat' (first | (with_reducible exact Below.refl _ _) | (with_reducible assumption) | (with_reducible refine below_ext _ ?_ ?_) | (with_reducible refine Below.alloc ?_ ?_ _) | (with_reducible refine Below.drew ?_) | (with_reducible refine below_drewN ?_ _) | (with_reducible refine le_drewN _ ?_) | (with_reducible refine Below.setCell ?_ ?_ _) | (with_reducible exact Nat.le_refl _) | (with_reducible refine le_ext _ ?_) | (with_reducible refine le_alloc _ ?_) | (with_reducible refine le_setCell _ _ ?_) | (with_reducible refine le_drew ?_) | omega | (simp; done) | (simp; omega)))))).mono ?_; rintro e w6 ⟨A6, n6, c6, rfl, l6, q6, q6b, p6, f6, hx6⟩; have P6 := hide p6.pts; have L6 := hide l6; have q7 : n6 ≤ 2000000 := Nat.le_trans (Nat.le_of_eq L6.out.symm) HLL.out; have hz6 := ext_sz hx6; obtain ⟨y6, rfl⟩ := hx6; clear p6 f6 l6) | (go_at_call 15; have _t := tok1; refine (C4.out _ _ _ _ L6.out q7 P6.out).mono ?_; rintro e w7 ⟨rfl, hx7⟩; have hz7 := ext_sz hx7; obtain ⟨y7, rfl⟩ := hx7; clear tok1 _t) | (go_at_call 15; refine (CM.out _ (B4.out.trans (by (repeat' (first | (with_reducible exact Below.refl _ _) | (with_reducible assumption) | (with_reducible refine below_ext _ ?_ ?_) | (with_reducible refine Below.alloc ?_ ?_ _) | (with_reducible refine Below.drew ?_) | (with_reducible refine below_drewN ?_ _) | (with_reducible refine le_drewN _ ?_) | (with_reducible refine Below.setCell ?_ ?_ _) | (with_reducible exact Nat.le_refl _) | (with_reducible refine le_ext _ ?_) | (with_reducible refine le_alloc _ ?_) | (with_reducible refine le_setCell _ _ ?_) | (with_reducible refine le_drew ?_) | omega | (simp; done) | (simp; omega)))))).mono ?_; rintro e w8 ⟨rfl, hx8⟩; have hz8 := ext_sz hx8; obtain ⟨y8, rfl⟩ := hx8))
      go_wp2_with fail
      go_ret
      exact ⟨ret_bool (by first | (simp; done) | (simp; omega)), BF.out _ (by (repeat' (first | (with_reducible exact Below.refl _ _) | (with_reducible assumption) | (with_reducible refine below_ext _ ?_ ?_) | (with_reducible refine Below.alloc ?_ ?_ _) | (with_reducible refine Below.drew ?_) | (with_reducible refine below_drewN ?_ _) | (with_reducible refine le_drewN _ ?_) | (with_reducible refine Below.setCell ?_ ?_ _) | (with_reducible exact Nat.le_refl _) | (with_reducible refine le_ext _ ?_) | (with_reducible refine le_alloc _ ?_) | (with_reducible refine le_setCell _ _ ?_) | (with_reducible refine le_drew ?_) | omega | (simp; done) | (simp; omega))))⟩
  · have hd : decide ((1048576 : Int) < (n : Int)) = true := decide_eq_true (by omega)
    go_enter Try.func3, Try.ntmps3
    go_wp2
    go_ret
    exact ⟨rfl, (by (repeat' (first | (with_reducible exact Below.refl _ _) | (with_reducible assumption) | (with_reducible refine below_ext _ ?_ ?_) | (with_reducible refine Below.alloc ?_ ?_ _) | (with_reducible refine Below.drew ?_) | (with_reducible refine below_drewN ?_ _) | (with_reducible refine le_drewN _ ?_) | (with_reducible refine Below.setCell ?_ ?_ _) | (with_reducible exact Nat.le_refl _) | (with_reducible refine le_ext _ ?_) | (with_reducible refine le_alloc _ ?_) | (with_reducible refine le_setCell _ _ ?_) | (with_reducible refine le_drew ?_) | omega | (simp; done) | (simp; omega))))⟩
end Go.Proofs.Ytoendanihhocjaa
