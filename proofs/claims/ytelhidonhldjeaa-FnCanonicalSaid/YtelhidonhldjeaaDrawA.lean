
/- The draws of polygons: anyPolygon. -/
import Derived.Test.YtelhidonhldjeaaDrawG
import Derived.Test.YtelhidonhldjeaaPickM
set_option linter.unusedVariables false
set_option linter.unusedSimpArgs false
namespace Go.Proofs.Ytelhidonhldjeaa
open Go.RowKit

theorem OwnP.two (w : World) (base : Nat) (hb : base ≤ w.heap.size) (p q : Pt) : OwnP (w.alloc (.cells #[.int .i64 p.x, .int .i64 p.y, .int .i64 q.x, .int .i64 q.y] 39)) base (.slice (some ⟨w.heap.size, 0, none⟩) 2 2) [p, q] :=
  ⟨rfl, .inr ⟨w.heap.size, 2, _, rfl, hb, heap_alloc_new w _, Nat.le_refl _, by simp [maxLen], rfl, rfl⟩⟩
set_option maxHeartbeats 2000000 in
theorem anyPolygon_any (B nb c g p : Nat) (A : Option Addr) (w : World) (hp : p ≤ 600000) (hnb : nb ≤ 2000) (hr : Rd w B A nb c g p) :
    Calls Try.prog 45 #[.pointer (some ⟨g, 0, none⟩)] w fun e w' => ∃ v ps p', e = .returned v ∧ OwnP w' w.heap.size v ps ∧ ps.length ≤ 9 ∧ CB 1001 ps ∧ p' ≤ p + 60 ∧ Drew w w' B A nb c g p p' := by
  have lg := hr.lt
  have hBg := hr.le
  go_enter Try.func45, Try.ntmps45
  go_wp2_with fail
  refine (someShape_any B nb c g p A _ (by omega) hnb hr).mono ?_
  rintro e w1 ⟨v1, ps, p1, rfl, hown1, hl3, hl8, hcb, hp1, D1⟩
  obtain ⟨A1, n1, c1, rfl⟩ := hown1.slice
  have hn1 := hown1.pts.1
  have hnc := hown1.pts.2.1
  have O1 := hide hown1
  have CB1 := hide hcb
  clear hown1 hcb hr
  go_wp2_with fail
  refine (pick_any 10 B nb c g p1 A _ (by omega) (by omega) (by omega) hnb D1.rd).mono ?_
  rintro e w2 ⟨v2, rfl, hv2, hb2, hr2⟩
  have D2 := hide (D1.trans (Drew.of_but (p := p1) hb2 hr2))
  have O2 := hide (O1.out.drew (Drew.of_but (p := p1) hb2 hr2) lg)
  clear D1 O1 hb2 hr2
  obtain ⟨gb, rfl, hgb, hgl, hfr, hcs⟩ := O2.out.head (by omega)
  have s2 := D2.out.size
  by_cases h0 : v2 = 0
  · have d0 : ((v2 : Int) == 0) = true := by rw [beq_iff_eq]; omega
    clear h0 hfr hcs
    go_wp2_with fail
    refine (randomPoints_any 6 B nb c g (p1 + 1) A _ (by omega) (by omega) hnb D2.out.rd).mono ?_
    rintro e w3 ⟨v3, rs, p3, rfl, hown3, hl, hcb3, hp3, D3⟩
    have DF := hide (D2.out.trans D3)
    have OF := hide (hown3.base (show w.heap.size ≤ w2.heap.size by omega))
    clear hown3 D3
    go_wp2_with fail
    go_ret
    exact ⟨_, _, _, rfl, OF.out, by omega, hcb3.more (by omega), by omega, DF.out⟩
  have d0 : ((v2 : Int) == 0) = false := by rw [beq_eq_false_iff_ne]; omega
  by_cases h1 : v2 = 1
  · have d1 : ((v2 : Int) == 1) = true := by rw [beq_iff_eq]; omega
    clear h0 h1
    go_wp2_with fail
    refine (pick_any n1 B nb c g (p1 + 1) A _ (by omega) (by omega) (by omega) hnb D2.out.rd).mono ?_
    rintro e w3 ⟨v3, rfl, hv3, hb3, hr3⟩
    have D3 := hide (D2.out.trans (Drew.of_but (p := p1 + 1) hb3 hr3))
    have O3 := hide (O2.out.drew (Drew.of_but (p := p1 + 1) hb3 hr3) lg)
    clear D2 O2 hb3 hr3 hfr hcs
    go_wp2_with fail
    refine (anyPoint_any B nb c g (p1 + 1 + 1) A _ (by omega) hnb D3.out.rd).mono ?_
    rintro e w4 ⟨x, y, p4, rfl, hx, hy, hp4, D4⟩
    have D5 := hide (D3.out.trans D4)
    have O5 := hide (O3.out.drew D4 lg)
    clear D3 O3 D4
    obtain ⟨gb', hgbe, hgb', hgl', hfr, hcs⟩ := O5.out.head (by omega)
    injection hgbe with hgbe
    injection hgbe with hgbe
    subst hgbe
    obtain ⟨k0, k1⟩ := hcs v3 hv3
    have f0 := hfr (v3 * 2)
    have f1 := hfr (v3 * 2 + 1)
    have OF := hide (O5.out.setP v3 x y)
    have DF := hide ((D5.out.set lg (by omega) (q := ⟨gb, v3 * 2, none⟩) hgb (.int .i64 x)).set lg (by omega) (q := ⟨gb, v3 * 2 + 1, none⟩) hgb (.int .i64 y))
    clear hfr hcs
    go_wp2_with fail
    go_ret
    exact ⟨_, _, _, rfl, OF.out, by rw [List.length_set]; omega, (CB1.out.more (by omega)).set hx hy, by omega, DF.out⟩
  have d1 : ((v2 : Int) == 1) = false := by rw [beq_eq_false_iff_ne]; omega
  by_cases h2 : v2 = 2
  · have d2 : ((v2 : Int) == 2) = true := by rw [beq_iff_eq]; omega
    clear h0 h1 h2 hfr hcs
    go_wp2_with fail
    refine (randomPoints_any 9 B nb c g (p1 + 1) A _ (by omega) (by omega) hnb D2.out.rd).mono ?_
    rintro e w3 ⟨v3, rs, p3, rfl, hown3, hl, hcb3, hp3, D3⟩
    obtain ⟨A3, n3, c3, rfl⟩ := hown3.slice
    have DF := hide (D2.out.trans D3)
    have s3 := DF.out.size
    have P3 := hide hown3.pts.2.2.2
    have l3 := hide hown3.pts.1
    have F3 := hide hown3.form.1
    have SH := hide (fun (W : World) (hb : Below w3.heap.size w3 W) => shull_any rs A3 n3 c3 W l3.out (by have := l3.out; omega) (fun q hq => by have := hcb3 q hq; omega) (P3.out.to hb))
    have hcbh : Hid (CB 1001 (hullOf rs)) := hide (fun q hq => by have := hcb3 q (hullOf_sub hq); omega)
    have hlh : (hullOf rs).length ≤ 9 := by have := hullOf_len' rs; omega
    clear hown3 D3 hcb3
    go_wp2_with fail
    refine (SH.out _ (Below.refl _ _)).mono ?_
    rintro e w4 ⟨v4, rfl, hown4, x4, rfl⟩
    have OF := hide (hown4.base (show w.heap.size ≤ w3.heap.size by omega))
    have DF2 := hide (DF.out.then (ext_below w3 x4))
    clear hown4 DF SH
    go_wp2_with fail
    go_ret
    exact ⟨_, _, _, rfl, OF.out, hlh, hcbh.out, by omega, DF2.out⟩
  have d2 : ((v2 : Int) == 2) = false := by rw [beq_eq_false_iff_ne]; omega
  by_cases h3 : v2 = 3
  · have d3 : ((v2 : Int) == 3) = true := by rw [beq_iff_eq]; omega
    clear h0 h1 h2 h3
    obtain ⟨x0, y0⟩ := hcs 0 (by omega)
    obtain ⟨x1, y1⟩ := hcs 1 (by omega)
    simp at x0 y0 x1 y1
    obtain ⟨⟨b1, b2⟩, b3, b4⟩ := CB1.out.at (i := 0) (by omega)
    obtain ⟨⟨b5, b6⟩, b7, b8⟩ := CB1.out.at (i := 1) (by omega)
    have P2 := O2.out.pts.2.2.2
    have PTD : Hid (∀ W, Below w2.heap.size w2 W → PtsAt W w2.heap.size (some ⟨gb, 0 + 2 * 2, none⟩) ((ps.drop 2).take (n1 - 2))) := hide (fun W hW => (P2.cut (a := 2) (m := n1 - 2) (by omega)).below hW)
    rw [List.take_of_length_le (by rw [List.length_drop]; omega)] at PTD
    have LD : Hid ((ps.drop 2).length = n1 - 2) := hide (by rw [List.length_drop]; omega)
    clear hfr hcs O2 P2
    generalize pX ps 0 = X0 at *
    generalize pY ps 0 = Y0 at *
    generalize pX ps 1 = X1 at *
    generalize pY ps 1 = Y1 at *
    have t1 := tdiv2_bd (X0 + X1) (M := 29) (by omega)
    have t2 := tdiv2_bd (Y0 + Y1) (M := 29) (by omega)
    have i1 : IntKind.i64.wrap (X0 + X1) = X0 + X1 := IntWalk.i64_in _ (by omega)
    have i2 : IntKind.i64.wrap (Y0 + Y1) = Y0 + Y1 := IntWalk.i64_in _ (by omega)
    have i3 : IntKind.i64.wrap ((X0 + X1).tdiv 2) = (X0 + X1).tdiv 2 := IntWalk.i64_in _ (by omega)
    have i4 : IntKind.i64.wrap ((Y0 + Y1).tdiv 2) = (Y0 + Y1).tdiv 2 := IntWalk.i64_in _ (by omega)
    have hq6 : ¬ c1 = 2 := by omega
    have hq7 : (2 : Int) ≤ (n1 : Int) := by omega
    have hq8 : (0 : Int) < (n1 : Int) := by omega
    have hq9 : (1 : Int) < (n1 : Int) := by omega
    have hq10 : 0 < n1 := by omega
    have hq11 : ¬ n1 = 0 := by omega
    go_wp2_with fail
    have BX := hide (heap_alloc_new w2 (.cells #[.int .i64 X1, .int .i64 Y1] 39))
    have BW := hide (show Below w2.heap.size w2 (w2.alloc (.cells #[.int .i64 X1, .int .i64 Y1] 39)) from (by (repeat' (first | (with_reducible exact Below.refl _ _) | (with_reducible assumption) | (with_reducible refine below_ext _ ?_ ?_) | (with_reducible refine Below.alloc ?_ ?_ _) | (with_reducible refine Below.drew ?_) | (with_reducible refine below_drewN ?_ _) | (with_reducible refine le_drewN _ ?_) | (with_reducible refine Below.setCell ?_ ?_ _) | (with_reducible exact Nat.le_refl _) | (with_reducible refine le_ext _ ?_) | (with_reducible refine le_alloc _ ?_) | (with_reducible refine le_setCell _ _ ?_) | (with_reducible refine le_drew ?_) | omega | (simp; done) | (simp; omega)))))
    have sw : w2.heap.size + 1 ≤ (w2.alloc (.cells #[.int .i64 X1, .int .i64 Y1] 39)).heap.size := by simp
    generalize w2.alloc (.cells #[.int .i64 X1, .int .i64 Y1] 39) = W0 at *
    have SC : Hid (∀ W : World, Below W0.heap.size W0 W → W.cell? ⟨gb, 0, none⟩ = some (.int .i64 X0) ∧ W.cell? ⟨gb, 1, none⟩ = some (.int .i64 Y0) ∧ W.cell? ⟨w2.heap.size, 0, none⟩ = some (.int .i64 X1) ∧ W.cell? ⟨w2.heap.size, 1, none⟩ = some (.int .i64 Y1)) := hide (fun W hW => by
      have h1 : W.heap[gb]? = w2.heap[gb]? := (hW.block gb (by omega)).trans (BW.out.block gb hgl)
      have h2 := (hW.block w2.heap.size (by omega)).trans BX.out
      exact ⟨(World.cell?_of_block h1).trans x0, (World.cell?_of_block h1).trans y0, heap_cell h2 0, heap_cell h2 1⟩)
    have V1o : Hid (OwnP (((W0.alloc (.cells #[.int .i64 X0, .int .i64 Y0, .int .i64 ((X0 + X1).tdiv 2), .int .i64 ((Y0 + Y1).tdiv 2)] 39)).alloc (.cells #[.int .i64 X1, .int .i64 Y1] 39)).drew) W0.heap.size (.slice (some ⟨W0.heap.size, 0, none⟩) 2 2) [⟨X0, Y0⟩, ⟨(X0 + X1).tdiv 2, (Y0 + Y1).tdiv 2⟩]) := hide ((OwnP.two W0 W0.heap.size (Nat.le_refl _) ⟨X0, Y0⟩ ⟨(X0 + X1).tdiv 2, (Y0 + Y1).tdiv 2⟩).below (by (repeat' (first | (with_reducible exact Below.refl _ _) | (with_reducible assumption) | (with_reducible refine below_ext _ ?_ ?_) | (with_reducible refine Below.alloc ?_ ?_ _) | (with_reducible refine Below.drew ?_) | (with_reducible refine below_drewN ?_ _) | (with_reducible refine le_drewN _ ?_) | (with_reducible refine Below.setCell ?_ ?_ _) | (with_reducible exact Nat.le_refl _) | (with_reducible refine le_ext _ ?_) | (with_reducible refine le_alloc _ ?_) | (with_reducible refine le_setCell _ _ ?_) | (with_reducible refine le_drew ?_) | omega | (simp; done) | (simp; omega)))))
    have V1c : Hid ((((W0.alloc (.cells #[.int .i64 X0, .int .i64 Y0, .int .i64 ((X0 + X1).tdiv 2), .int .i64 ((Y0 + Y1).tdiv 2)] 39)).alloc (.cells #[.int .i64 X1, .int .i64 Y1] 39)).drew).cell? ⟨W0.heap.size + 1, 0, none⟩ = some (.int .i64 X1) ∧ (((W0.alloc (.cells #[.int .i64 X0, .int .i64 Y0, .int .i64 ((X0 + X1).tdiv 2), .int .i64 ((Y0 + Y1).tdiv 2)] 39)).alloc (.cells #[.int .i64 X1, .int .i64 Y1] 39)).drew).cell? ⟨W0.heap.size + 1, 1, none⟩ = some (.int .i64 Y1)) := hide (by
      have h := heap_alloc_new (W0.alloc (.cells #[.int .i64 X0, .int .i64 Y0, .int .i64 ((X0 + X1).tdiv 2), .int .i64 ((Y0 + Y1).tdiv 2)] 39)) (.cells #[.int .i64 X1, .int .i64 Y1] 39)
      rw [size_alloc] at h
      exact ⟨heap_cell h 0, heap_cell h 1⟩)
    have V2o : Hid (OwnP (((W0.alloc (.cells #[.int .i64 X1, .int .i64 Y1] 39)).alloc (.cells #[.int .i64 X0, .int .i64 Y0, .int .i64 ((X0 + X1).tdiv 2), .int .i64 ((Y0 + Y1).tdiv 2)] 39)).drew) W0.heap.size (.slice (some ⟨W0.heap.size + 1, 0, none⟩) 2 2) [⟨X0, Y0⟩, ⟨(X0 + X1).tdiv 2, (Y0 + Y1).tdiv 2⟩]) := hide (by
      have h := (OwnP.two (W0.alloc (.cells #[.int .i64 X1, .int .i64 Y1] 39)) W0.heap.size (by simp) ⟨X0, Y0⟩ ⟨(X0 + X1).tdiv 2, (Y0 + Y1).tdiv 2⟩)
      rw [size_alloc] at h
      exact h.below (by (repeat' (first | (with_reducible exact Below.refl _ _) | (with_reducible assumption) | (with_reducible refine below_ext _ ?_ ?_) | (with_reducible refine Below.alloc ?_ ?_ _) | (with_reducible refine Below.drew ?_) | (with_reducible refine below_drewN ?_ _) | (with_reducible refine le_drewN _ ?_) | (with_reducible refine Below.setCell ?_ ?_ _) | (with_reducible exact Nat.le_refl _) | (with_reducible refine le_ext _ ?_) | (with_reducible refine le_alloc _ ?_) | (with_reducible refine le_setCell _ _ ?_) | (with_reducible refine le_drew ?_) | omega | (simp; done) | (simp; omega)))))
    have V2c : Hid ((((W0.alloc (.cells #[.int .i64 X1, .int .i64 Y1] 39)).alloc (.cells #[.int .i64 X0, .int .i64 Y0, .int .i64 ((X0 + X1).tdiv 2), .int .i64 ((Y0 + Y1).tdiv 2)] 39)).drew).cell? ⟨W0.heap.size, 0, none⟩ = some (.int .i64 X1) ∧ (((W0.alloc (.cells #[.int .i64 X1, .int .i64 Y1] 39)).alloc (.cells #[.int .i64 X0, .int .i64 Y0, .int .i64 ((X0 + X1).tdiv 2), .int .i64 ((Y0 + Y1).tdiv 2)] 39)).drew).cell? ⟨W0.heap.size, 1, none⟩ = some (.int .i64 Y1)) := hide (by
      have h : (((W0.alloc (.cells #[.int .i64 X1, .int .i64 Y1] 39)).alloc (.cells #[.int .i64 X0, .int .i64 Y0, .int .i64 ((X0 + X1).tdiv 2), .int .i64 ((Y0 + Y1).tdiv 2)] 39)).drew).heap[W0.heap.size]? = some (.cells #[.int .i64 X1, .int .i64 Y1] 39 (0, 0)) := (Below.heap_alloc _ _ _ (by simp)).trans (heap_alloc_new W0 _)
      exact ⟨heap_cell h 0, heap_cell h 1⟩)
    have BD1 : Hid (∀ o p : Obj, Below W0.heap.size W0 (((W0.alloc o).alloc p).drew)) := hide (fun o p => (by (repeat' (first | (with_reducible exact Below.refl _ _) | (with_reducible assumption) | (with_reducible refine below_ext _ ?_ ?_) | (with_reducible refine Below.alloc ?_ ?_ _) | (with_reducible refine Below.drew ?_) | (with_reducible refine below_drewN ?_ _) | (with_reducible refine le_drewN _ ?_) | (with_reducible refine Below.setCell ?_ ?_ _) | (with_reducible exact Nat.le_refl _) | (with_reducible refine le_ext _ ?_) | (with_reducible refine le_alloc _ ?_) | (with_reducible refine le_setCell _ _ ?_) | (with_reducible refine le_drew ?_) | omega | (simp; done) | (simp; omega)))))
    have SZ : Hid (∀ o p : Obj, W0.heap.size ≤ (((W0.alloc o).alloc p).drew).heap.size) := hide (fun o p => (BD1.out o p).size)
    have FD : Hid ((some (⟨gb, 4, none⟩ : Addr) = none → n1 - 2 = 0) ∧ ∀ b o s, some (⟨gb, 4, none⟩ : Addr) = some ⟨b, o, s⟩ → s = none) := ⟨(fun h => by cases h), (fun b o s h => by injection h with h; injection h with _ _ h; exact h.symm)⟩
    have K1 : ([⟨X0, Y0⟩, ⟨(X0 + X1).tdiv 2, (Y0 + Y1).tdiv 2⟩] : List Pt).length ≤ 2000000 := by simp
    have K2 : ([⟨X0, Y0⟩, ⟨(X0 + X1).tdiv 2, (Y0 + Y1).tdiv 2⟩] ++ [⟨X1, Y1⟩] : List Pt).length ≤ 2000000 := by simp
    have K3 : n1 - 2 ≤ 2000000 := by omega
    have PT2 : Hid (∀ W, Below W0.heap.size W0 W → PtsAt W w2.heap.size (some ⟨gb, 4, none⟩) (ps.drop 2)) := hide (fun W hW => PTD.out W (BW.out.trans (hW.mono (by omega))))
    have AL0 := hide (show Below W0.heap.size W0 W0.drew from (by (repeat' (first | (with_reducible exact Below.refl _ _) | (with_reducible assumption) | (with_reducible refine below_ext _ ?_ ?_) | (with_reducible refine Below.alloc ?_ ?_ _) | (with_reducible refine Below.drew ?_) | (with_reducible refine below_drewN ?_ _) | (with_reducible refine le_drewN _ ?_) | (with_reducible refine Below.setCell ?_ ?_ _) | (with_reducible exact Nat.le_refl _) | (with_reducible refine le_ext _ ?_) | (with_reducible refine le_alloc _ ?_) | (with_reducible refine le_setCell _ _ ?_) | (with_reducible refine le_drew ?_) | omega | (simp; done) | (simp; omega)))))
    have AL := hide (fun (o : Obj) => show Below W0.heap.size W0 ((W0.alloc o).drew) from (by (repeat' (first | (with_reducible exact Below.refl _ _) | (with_reducible assumption) | (with_reducible refine below_ext _ ?_ ?_) | (with_reducible refine Below.alloc ?_ ?_ _) | (with_reducible refine Below.drew ?_) | (with_reducible refine below_drewN ?_ _) | (with_reducible refine le_drewN _ ?_) | (with_reducible refine Below.setCell ?_ ?_ _) | (with_reducible exact Nat.le_refl _) | (with_reducible refine le_ext _ ?_) | (with_reducible refine le_alloc _ ?_) | (with_reducible refine le_setCell _ _ ?_) | (with_reducible refine le_drew ?_) | omega | (simp; done) | (simp; omega)))))
    go_region_held3 (fun W => W.cell? ⟨gb, 0, none⟩ = some (.int .i64 X0) ∧ W.cell? ⟨gb, 1, none⟩ = some (.int .i64 Y0) ∧ W.cell? ⟨w2.heap.size, 0, none⟩ = some (.int .i64 X1) ∧ W.cell? ⟨w2.heap.size, 1, none⟩ = some (.int .i64 Y1)) (first | exact SC.out _ AL0.out | exact SC.out _ (AL.out _) | exact SC.out _ (BD1.out _ _) | exact SC.out _ B7.out | exact SC.out _ B13.out) (first | (refine step_pt (by rfl) (.tmp 55) (.tmp 57) (by rfl) W0.heap.size (.slice (some ⟨W0.heap.size, 0, none⟩) 2 2) [⟨X0, Y0⟩, ⟨(X0 + X1).tdiv 2, (Y0 + Y1).tdiv 2⟩] (by rfl) V1o.out X1 Y1 (W0.heap.size + 1) 1 (by rfl) V1c.out.1 V1c.out.2 K1 (SZ.out _ _) ?_; intro v7 w7 hown7 hb7 hat7 hgr7; obtain ⟨A7, n7, c7, rfl⟩ := hown7.slice; have O7 := hide hown7; have B7 := hide ((BD1.out _ _).trans hb7); have SZ7 : W0.heap.size ≤ w7.heap.size := B7.out.size; clear hown7 hat7 hgr7 hb7) | (refine step_pt (by rfl) (.tmp 55) (.tmp 57) (by rfl) W0.heap.size (.slice (some ⟨W0.heap.size + 1, 0, none⟩) 2 2) [⟨X0, Y0⟩, ⟨(X0 + X1).tdiv 2, (Y0 + Y1).tdiv 2⟩] (by rfl) V2o.out X1 Y1 (W0.heap.size) 1 (by rfl) V2c.out.1 V2c.out.2 K1 (SZ.out _ _) ?_; intro v7 w7 hown7 hb7 hat7 hgr7; obtain ⟨A7, n7, c7, rfl⟩ := hown7.slice; have O7 := hide hown7; have B7 := hide ((BD1.out _ _).trans hb7); have SZ7 : W0.heap.size ≤ w7.heap.size := B7.out.size; clear hown7 hat7 hgr7 hb7) | (refine step_pts (by rfl) (.tmp 58) (.tmp 60) (by rfl) W0.heap.size (.slice A7 n7 c7) ([⟨X0, Y0⟩, ⟨(X0 + X1).tdiv 2, (Y0 + Y1).tdiv 2⟩] ++ [⟨X1, Y1⟩]) (by rfl) O7.out (some ⟨gb, 4, none⟩) (n1 - 2) (c1 - 2) w2.heap.size (ps.drop 2) (by rfl) LD.out (PT2.out _ B7.out) FD.out K2 K3 SZ7 ?_; intro v13 w13 hown13 hb13 hat13 hgr13; obtain ⟨A13, n13, c13, rfl⟩ := hown13.slice; have O13 := hide hown13; have B13 := hide (B7.out.trans hb13); clear hown13 hat13 hgr13 hb13))
    all_goals go_wp2_with fail
    all_goals go_ret
    all_goals exact ⟨_, _, _, rfl, O13.out.base (by omega), by simp [LD.out]; omega, fun q hq => by
      rcases List.mem_append.1 hq with hq | hq
      · simp only [List.mem_append, List.mem_cons, List.not_mem_nil, or_false] at hq
        rcases hq with (rfl | rfl) | rfl <;> simp only <;> omega
      · have := CB1.out.drop 2 q hq
        omega, by omega, D2.out.then (BW.out.trans (B13.out.mono (by omega)))⟩
  · have d3 : ((v2 : Int) == 3) = false := by rw [beq_eq_false_iff_ne]; omega
    clear h0 h1 h2 h3 hfr hcs
    go_wp2_with fail
    go_ret
    exact ⟨_, _, _, rfl, O2.out, by omega, CB1.out.more (by omega), by omega, D2.out⟩
end Go.Proofs.Ytelhidonhldjeaa
