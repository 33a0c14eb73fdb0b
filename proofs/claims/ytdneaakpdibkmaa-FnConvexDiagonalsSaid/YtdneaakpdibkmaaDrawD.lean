
/- The draws of diagonals and convex polygons. -/
import Derived.Test.YtdneaakpdibkmaaDrawA
set_option linter.unusedVariables false
set_option linter.unusedSimpArgs false
namespace Go.Proofs.Ytdneaakpdibkmaa
open Go.RowKit

set_option maxHeartbeats 1000000 in
theorem drawIsDiag_any (n c : Nat) (A : Option Addr) (w : World) (hn : n ≤ c) (hc : c ≤ 9223372036854775807) (hA : BytesAt w w.heap.size A n) :
    Calls Try.prog 27 #[.slice A n c] w fun e w' => ∃ v ps, ∃ i k : Int, e = .returned (.tuple #[v, .int .i64 i, .int .i64 k]) ∧ OwnP w' w.heap.size v ps ∧ ps.length ≤ 9 ∧ CB 1001 ps ∧ (-1 ≤ i ∧ i ≤ 9) ∧ (0 ≤ k ∧ k ≤ 9) ∧ Below w.heap.size w w' := by
  go_enter Try.func27, Try.ntmps27
  go_wp2_with fail
  refine (newReader_any n c A _ hn hc hA).mono ?_
  rintro e w1 ⟨g, nb, rfl, hg, hnb, hr, hx⟩
  have B1 := ext_bel hx
  have lg := hr.lt
  clear hx
  go_wp2_with fail
  refine (anyPolygon_any _ nb _ g 0 A _ (by omega) hnb hr).mono ?_
  rintro e w2 ⟨v, ps, p2, rfl, hown2, hlen, hcb, hp2, D2⟩
  obtain ⟨A2, n2, c2, rfl⟩ := hown2.slice
  have l2 := hown2.pts.1
  have O2 := hide hown2
  have DD2 := hide D2
  have i1 : IntKind.i64.wrap ((n2 : Int) + 1) = ((n2 + 1 : Nat) : Int) := IntWalk.i64_in _ (by omega)
  clear hown2 D2 hr
  go_wp2_with fail
  refine (pick_any (n2 + 1) _ nb _ g p2 A _ (by omega) (by omega) (by omega) hnb DD2.out.rd).mono ?_
  rintro e w3 ⟨v3, rfl, hv3, hb3, hr3⟩
  have D3 := hide (DD2.out.trans (Drew.of_but (p := p2) hb3 hr3))
  have O3 := hide (O2.out.drew (Drew.of_but (p := p2) hb3 hr3) lg)
  clear O2 hb3 hr3
  go_wp2_with fail
  refine (pick_any 2 _ nb _ g (p2 + 1) A _ (by omega) (by omega) (by omega) hnb D3.out.rd).mono ?_
  rintro e w4 ⟨v4, rfl, hv4, hb4, hr4⟩
  have D4 := hide (D3.out.trans (Drew.of_but (p := p2 + 1) hb4 hr4))
  have O4 := hide (O3.out.drew (Drew.of_but (p := p2 + 1) hb4 hr4) lg)
  have i2 : IntKind.i64.wrap ((v3 : Int) - (v4 : Int)) = (v3 : Int) - (v4 : Int) := IntWalk.i64_in _ (by omega)
  clear O3 D3 hb4 hr4
  go_wp2_with fail
  refine (pick_any (n2 + 1) _ nb _ g (p2 + 1 + 1) A _ (by omega) (by omega) (by omega) hnb D4.out.rd).mono ?_
  rintro e w5 ⟨v5, rfl, hv5, hb5, hr5⟩
  have D5 := hide (D4.out.trans (Drew.of_but (p := p2 + 1 + 1) hb5 hr5))
  have O5 := hide (O4.out.drew (Drew.of_but (p := p2 + 1 + 1) hb5 hr5) lg)
  clear O4 D4 hb5 hr5
  have B2 := hide (B1.trans (D5.out.below hg B1.size))
  have OF := hide (O5.out.base B1.size)
  go_wp2_with fail
  ((try simp only [Exit.inBlock, Exit.then]); refine bodyPost_ret (by simp [results, Try.results27, go_sem, ↓IntWalk.iteOmega]; try rfl) rfl ?_)
  exact ⟨_, ps, _, _, rfl, OF.out, hlen, hcb, by omega, by omega, B2.out⟩
set_option maxHeartbeats 1000000 in
theorem drawDiags_any (n c : Nat) (A : Option Addr) (w : World) (hn : n ≤ c) (hc : c ≤ 9223372036854775807) (hA : BytesAt w w.heap.size A n) :
    Calls Try.prog 39 #[.slice A n c] w fun e w' => ∃ v ps, e = .returned v ∧ OwnP w' w.heap.size v ps ∧ ps.length ≤ 9 ∧ CB 1001 ps ∧ Below w.heap.size w w' := by
  go_enter Try.func39, Try.ntmps39
  go_wp2_with fail
  refine (newReader_any n c A _ hn hc hA).mono ?_
  rintro e w1 ⟨g, nb, rfl, hg, hnb, hr, hx⟩
  have B1 := ext_bel hx
  have lg := hr.lt
  clear hx
  go_wp2_with fail
  refine (anyPolygon_any _ nb _ g 0 A _ (by omega) hnb hr).mono ?_
  rintro e w2 ⟨v, ps, p2, rfl, hown2, hlen, hcb, hp2, D2⟩
  have B2 := hide (B1.trans (D2.below hg B1.size))
  have OF := hide (hown2.base B1.size)
  clear hown2 D2 hr B1
  go_wp2
  go_ret
  exact ⟨_, ps, rfl, OF.out, hlen, hcb, B2.out⟩
set_option maxHeartbeats 1000000 in
theorem drawConv_any (n c : Nat) (A : Option Addr) (w : World) (hn : n ≤ c) (hc : c ≤ 9223372036854775807) (hA : BytesAt w w.heap.size A n) :
    Calls Try.prog 23 #[.slice A n c] w fun e w' => ∃ v ps, e = .returned v ∧ OwnP w' w.heap.size v ps ∧ ps.length ≤ 10 ∧ CB 1001 ps ∧ Below w.heap.size w w' := by
  go_enter Try.func23, Try.ntmps23
  go_wp2_with fail
  refine (newReader_any n c A _ hn hc hA).mono ?_
  rintro e w1 ⟨g, nb, rfl, hg, hnb, hr, hx⟩
  have B1 := hide (ext_bel hx)
  have s1 := B1.out.size
  have lg := hr.lt
  clear hx
  go_wp2_with fail
  refine (pick_any 2 _ nb _ g 0 A _ (by omega) (by omega) (by omega) hnb hr).mono ?_
  rintro e w2 ⟨v2, rfl, hv2, hb2, hr2⟩
  have D2 := hide (Drew.of_but (p := 0) hb2 hr2)
  clear hb2 hr2 hr
  by_cases h0 : v2 = 0
  · have d0 : ((v2 : Int) == 0) = true := by rw [beq_iff_eq]; omega
    clear h0
    go_wp2_with fail
    refine (randomPoints_any 10 _ nb _ g (0 + 1) A _ (by omega) (by omega) hnb D2.out.rd).mono ?_
    rintro e w3 ⟨v3, rs, p3, rfl, hown3, hl, hcb3, hp3, D3⟩
    obtain ⟨A3, n3, c3, rfl⟩ := hown3.slice
    have DF := hide (D2.out.trans D3)
    have s3 := DF.out.size
    have P3 := hide hown3.pts.2.2.2
    have l3 := hide hown3.pts.1
    have SH := hide (fun (W : World) (hb : Below w3.heap.size w3 W) => shull_any rs A3 n3 c3 W l3.out (by have := l3.out; omega) (fun q hq => by have := hcb3 q hq; omega) (P3.out.to hb))
    have hcbh : Hid (CB 1001 (hullOf rs)) := hide (fun q hq => by have := hcb3 q (hullOf_sub hq); omega)
    have hlh : (hullOf rs).length ≤ 10 := by have := hullOf_len' rs; omega
    clear hown3 D3 hcb3
    go_wp2_with fail
    refine (SH.out _ (Below.refl _ _)).mono ?_
    rintro e w4 ⟨v4, rfl, hown4, x4, rfl⟩
    have OF := hide (hown4.base (show w.heap.size ≤ w3.heap.size by omega))
    have DF2 := hide (DF.out.then (ext_below w3 x4))
    have B2 := hide (B1.out.trans (DF2.out.below hg s1))
    clear hown4 DF SH DF2
    go_wp2_with fail
    go_ret
    exact ⟨_, _, rfl, OF.out, hlh, hcbh.out, B2.out⟩
  · have d0 : ((v2 : Int) == 0) = false := by rw [beq_eq_false_iff_ne]; omega
    clear h0
    go_wp2_with fail
    refine (anyPolygon_any _ nb _ g (0 + 1) A _ (by omega) hnb D2.out.rd).mono ?_
    rintro e w3 ⟨v, ps, p3, rfl, hown3, hlen, hcb, hp3, D3⟩
    have D4 := hide (D2.out.trans D3)
    have s2 := D2.out.size
    have B2 := hide (B1.out.trans (D4.out.below hg s1))
    have OF := hide (hown3.base (show w.heap.size ≤ w2.heap.size by omega))
    clear hown3 D3
    go_wp2_with fail
    go_ret
    exact ⟨_, ps, rfl, OF.out, by omega, hcb, B2.out⟩
set_option maxHeartbeats 2000000 in
theorem drawLocC_any (n c : Nat) (A : Option Addr) (w : World) (hn : n ≤ c) (hc : c ≤ 9223372036854775807) (hA : BytesAt w w.heap.size A n) :
    Calls Try.prog 12 #[.slice A n c] w fun e w' => ∃ v ps x y, e = .returned (.tuple #[v, .agg #[.int .i64 x, .int .i64 y]]) ∧ OwnP w' w.heap.size v ps ∧ ps.length ≤ 10 ∧ CB 1001 ps ∧ (-1001 ≤ x ∧ x ≤ 1001) ∧ (-1001 ≤ y ∧ y ≤ 1001) ∧ Below w.heap.size w w' := by
  have hg0 := heap_alloc_new w (.cells #[.int .i64 0, .int .i64 0] 25)
  have b0 := (Below.refl w.heap.size w).alloc (Nat.le_refl _) (.cells #[.int .i64 0, .int .i64 0] 25)
  go_enter Try.func12, Try.ntmps12
  go_wp2_with fail
  refine (newReader_any n c A _ hn hc (BytesAt.more (BytesAt.below hA b0) (by first | (simp; done) | (simp; omega)))).mono ?_
  rintro e w1 ⟨g, nb, rfl, hg, hnb, hr, hx⟩
  have D1 := ext_bel hx
  have hg1 := (D1.block w.heap.size (by simp)).trans hg0
  have B1 := hide (b0.trans (D1.mono (by first | (simp; done) | (simp; omega))))
  have lg := hr.lt
  have hgw : w.heap.size + 1 ≤ g := by rw [size_alloc] at hg; exact hg
  have s1 : w.heap.size + 1 ≤ w1.heap.size := by omega
  clear hx hg0 D1 b0 hg
  go_wp2_with fail
  refine (randomPoints_any 10 _ nb _ g 0 A _ (by omega) (by omega) hnb hr).mono ?_
  rintro e w3 ⟨v3, rs, p3, rfl, hown3, hl, hcb3, hp3, D3⟩
  obtain ⟨A3, n3, c3, rfl⟩ := hown3.slice
  have s3 := D3.size
  have hg3 := (D3.block w.heap.size (by omega) (by omega)).trans hg1
  have P3 := hide hown3.pts.2.2.2
  have l3 := hide hown3.pts.1
  have DD3 := hide D3
  have SH := hide (fun (W : World) (hb : Below w3.heap.size w3 W) => shull_any rs A3 n3 c3 W l3.out (by have := l3.out; omega) (fun q hq => by have := hcb3 q hq; omega) (P3.out.to hb))
  have hcbh : Hid (CB 1001 (hullOf rs)) := hide (fun q hq => by have := hcb3 q (hullOf_sub hq); omega)
  have hlh : (hullOf rs).length ≤ 10 := by have := hullOf_len' rs; omega
  clear hown3 D3 hcb3 hr hg1
  go_wp2_with fail
  refine (SH.out _ (Below.refl _ _)).mono ?_
  rintro e w4 ⟨v4, rfl, hown4, x4, hw4⟩
  obtain ⟨A4, n4, c4, rfl⟩ := hown4.slice
  have E4 := hide (show Below w3.heap.size w3 w4 by rw [hw4]; exact ext_below w3 x4)
  have hg4 := (E4.out.block w.heap.size (by omega)).trans hg3
  have D4 := hide (DD3.out.then E4.out)
  have O4s := hide hown4
  have z4 : w3.heap.size ≤ w4.heap.size := E4.out.size
  clear hown4 DD3 SH hw4 hg3 E4
  go_wp2_with fail
  refine (pick_any 8 _ nb _ g p3 A _ (by omega) (by omega) (by omega) hnb D4.out.rd).mono ?_
  rintro e w5 ⟨v5, rfl, hv5, hb5, hr5⟩
  have E5 := hide (Drew.of_but (p := p3) hb5 hr5)
  have D5 := hide (D4.out.trans E5.out)
  have hg5 := (E5.out.block w.heap.size (by omega) (by omega)).trans hg4
  have s5 := E5.out.size
  have O5 := hide (O4s.out.drew E5.out (by omega))
  clear O4s D4 hb5 hr5 hg4 E5
  by_cases h0 : v5 = 0
  · have d0 : ((v5 : Int) == 0) = true := by rw [beq_iff_eq]; omega
    clear h0 O5
    go_wp2_with fail
    refine (anyPolygon_any _ nb _ g (p3 + 1) A _ (by omega) hnb D5.out.rd).mono ?_
    rintro e w6 ⟨v6, ps, p6, rfl, hown6, hlen, hcb, hp6, D6⟩
    obtain ⟨A6, n6, c6, rfl⟩ := hown6.slice
    have hg6 := (D6.block w.heap.size (by omega) (by omega)).trans hg5
    have s6 := D6.size
    have D7 := hide (D5.out.trans D6)
    have O7 := hide hown6
    clear hown6 D6 D5 hg5
    go_wp2_with fail
    refine (anyPoint_any _ nb _ g p6 A _ (by omega) hnb D7.out.rd).mono ?_
    rintro e w8 ⟨x, y, p8, rfl, hx, hy, hp8, D8⟩
    have hg8 := (D8.block w.heap.size (by omega) (by omega)).trans hg6
    have D9 := hide (D7.out.trans D8)
    have O8 := hide (O7.out.drew D8 (by omega))
    have s8 := D9.out.size
    have B8 := hide (B1.out.trans (D9.out.below (C := w.heap.size) (by omega) (by omega)))
    clear D8 O7 D7 hg6
    have c0 := heap_cell hg8 0
    have c1 := heap_cell hg8 1
    have f0 := heap_frozen hg8 0
    have f1 := heap_frozen hg8 1
    simp at c0 c1
    have HGF := hide (box_set2 hg8 (.int .i64 x) (.int .i64 y))
    have HOF := hide (((O8.out.far (q := ⟨w.heap.size, 0, none⟩) (fun j hj => by have := O8.out.lt j hj; show j ≠ w.heap.size; omega) (.int .i64 x)).far (q := ⟨w.heap.size, 1, none⟩) (fun j hj => by have := O8.out.lt j hj; show j ≠ w.heap.size; omega) (.int .i64 y)).base (base' := w.heap.size) (by omega))
    have HBF := hide ((B8.out.setCell (p := ⟨w.heap.size, 0, none⟩) (Nat.le_refl _) (.int .i64 x)).setCell (p := ⟨w.heap.size, 1, none⟩) (Nat.le_refl _) (.int .i64 y))
    clear hg8 O8 B8 D9
    go_wp2
    generalize (w8.setCell ⟨w.heap.size, 0, none⟩ (.int .i64 x)).setCell ⟨w.heap.size, 1, none⟩ (.int .i64 y) = W at *
    have k0 := heap_cell HGF.out 0
    have k1 := heap_cell HGF.out 1
    simp at k0 k1
    ((try simp only [Exit.inBlock, Exit.then]); refine bodyPost_ret (by simp [results, Try.results12, go_sem, ↓IntWalk.iteOmega, k0, k1]; try rfl) rfl ?_)
    exact ⟨_, ps, x, y, rfl, HOF.out, by omega, hcb, hx, hy, HBF.out⟩
  · have d0 : ((v5 : Int) == 0) = false := by rw [beq_eq_false_iff_ne]; omega
    clear h0
    go_wp2_with fail
    refine (anyPoint_any _ nb _ g (p3 + 1) A _ (by omega) hnb D5.out.rd).mono ?_
    rintro e w8 ⟨x, y, p8, rfl, hx, hy, hp8, D8⟩
    have hg8 := (D8.block w.heap.size (by omega) (by omega)).trans hg5
    have D9 := hide (D5.out.trans D8)
    have O8 := hide (O5.out.drew D8 (by omega))
    have s8 := D9.out.size
    have B8 := hide (B1.out.trans (D9.out.below (C := w.heap.size) (by omega) (by omega)))
    clear D8 O5 D5 hg5
    have c0 := heap_cell hg8 0
    have c1 := heap_cell hg8 1
    have f0 := heap_frozen hg8 0
    have f1 := heap_frozen hg8 1
    simp at c0 c1
    have HGF := hide (box_set2 hg8 (.int .i64 x) (.int .i64 y))
    have HOF := hide (((O8.out.far (q := ⟨w.heap.size, 0, none⟩) (fun j hj => by have := O8.out.lt j hj; show j ≠ w.heap.size; omega) (.int .i64 x)).far (q := ⟨w.heap.size, 1, none⟩) (fun j hj => by have := O8.out.lt j hj; show j ≠ w.heap.size; omega) (.int .i64 y)).base (base' := w.heap.size) (by omega))
    have HBF := hide ((B8.out.setCell (p := ⟨w.heap.size, 0, none⟩) (Nat.le_refl _) (.int .i64 x)).setCell (p := ⟨w.heap.size, 1, none⟩) (Nat.le_refl _) (.int .i64 y))
    clear hg8 O8 B8 D9
    go_wp2
    generalize (w8.setCell ⟨w.heap.size, 0, none⟩ (.int .i64 x)).setCell ⟨w.heap.size, 1, none⟩ (.int .i64 y) = W at *
    have k0 := heap_cell HGF.out 0
    have k1 := heap_cell HGF.out 1
    simp at k0 k1
    ((try simp only [Exit.inBlock, Exit.then]); refine bodyPost_ret (by simp [results, Try.results12, go_sem, ↓IntWalk.iteOmega, k0, k1]; try rfl) rfl ?_)
    exact ⟨_, _, x, y, rfl, HOF.out, hlh, hcbh.out, hx, hy, HBF.out⟩
end Go.Proofs.Ytdneaakpdibkmaa
