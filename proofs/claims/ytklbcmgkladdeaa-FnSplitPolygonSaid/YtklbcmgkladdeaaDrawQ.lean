
/- DrawSplitPolygon. -/
import Derived.Test.YtklbcmgkladdeaaDrawA
import Derived.Test.YtklbcmgkladdeaaDiagOf
set_option linter.unusedVariables false
set_option linter.unusedSimpArgs false
namespace Go.Proofs.Ytklbcmgkladdeaa
open Go.RowKit

set_option maxRecDepth 20000 in
set_option maxHeartbeats 600000 in
theorem drawSplit_any (n c : Nat) (A : Option Addr) (w : World) (hn : n ≤ c) (hc : c ≤ 9223372036854775807) (hA : BytesAt w w.heap.size A n) :
    Calls Try.prog 12 #[.slice A n c] w fun e w' => ∃ v ps, ∃ i k : Int, e = .returned (.tuple #[v, .int .i64 i, .int .i64 k]) ∧ OwnP w' w.heap.size v ps ∧ ps.length ≤ 9 ∧ CB 1001 ps ∧ Below w.heap.size w w' := by
  go_enter Try.func12, Try.ntmps12
  go_wp2_with fail
  refine (newReader_any n c A _ hn hc hA).mono ?_
  rintro e w1 ⟨g, nb, rfl, hg, hnb, hr, hx⟩
  have B1 := ext_bel hx
  have lg := hr.lt
  clear hx
  go_wp2_with fail
  refine (anyPolygon_any _ nb _ g 0 A _ (by omega) hnb hr).mono ?_
  rintro e w2 ⟨v, ps, p2, rfl, hown2, hlen, hcb, hp2, D2⟩
  obtain ⟨A2, n2, c2, rfl⟩ := hown2.slice
  have l2 := hown2.pts.1
  have O2 := hide hown2
  have DD2 := hide D2
  have s2 := D2.size
  have i1 : IntKind.i64.wrap ((n2 : Int) + 1) = ((n2 + 1 : Nat) : Int) := IntWalk.i64_in _ (by omega)
  clear hr
  go_wp2_with fail
  refine (sDiags_any ps A2 n2 c2 _ l2 (by omega) hown2.pts.2.2.2).mono ?_
  rintro e w7 ⟨v7, rfl, own7, hx7⟩
  obtain ⟨A7, n7, c7, rfl⟩ := own7.slice
  have E7 := ext_bel hx7
  have l7 := own7.pts.1
  have k7 : n7 ≤ 1000 := by have := diagL_len ps; omega
  have D7 := hide (D2.then E7)
  have O7 := hide (hown2.below E7)
  have R7 := hide own7
  clear hown2 D2 hx7 own7 O2 DD2
  have LST : Hid (∀ (w8 : World) (p8 : Nat), p8 ≤ 600000 → Drew w1 w8 w.heap.size A nb c g 0 p8 → OwnP w8 w1.heap.size (.slice A2 n2 c2) ps → True) := hide (fun _ _ _ _ _ => trivial)
  by_cases h0 : n7 = 0
  · have d0 : decide ((0 : Int) < (n7 : Int)) = false := decide_eq_false (by omega)
    have z0 : ¬ 0 < n7 := by omega
    clear h0
    go_wp2_with fail
    refine (pick_any (n2 + 1) _ nb _ g p2 A _ (by omega) (by omega) (by omega) hnb D7.out.rd).mono ?_
    rintro e w3 ⟨v3, rfl, hv3, hb3, hr3⟩
    have D3 := hide (D7.out.trans (Drew.of_but (p := p2) hb3 hr3))
    have O3 := hide (O7.out.drew (Drew.of_but (p := p2) hb3 hr3) lg)
    clear hb3 hr3
    go_wp2_with fail
    refine (pick_any (n2 + 1) _ nb _ g (p2 + 1) A _ (by omega) (by omega) (by omega) hnb D3.out.rd).mono ?_
    rintro e w4 ⟨v4, rfl, hv4, hb4, hr4⟩
    have D4 := hide (D3.out.trans (Drew.of_but (p := p2 + 1) hb4 hr4))
    have O4 := hide (O3.out.drew (Drew.of_but (p := p2 + 1) hb4 hr4) lg)
    clear hb4 hr4
    have BF := hide (B1.trans (D4.out.below hg B1.size))
    have OF := hide (O4.out.base B1.size)
    go_wp2_with fail
    ((try simp only [Exit.inBlock, Exit.then]); refine bodyPost_ret (by simp [results, Try.results12, go_sem, ↓IntWalk.iteOmega]; try rfl) rfl ?_)
    exact ⟨_, ps, _, _, rfl, OF.out, hlen, hcb, BF.out⟩
  · have d0 : decide ((0 : Int) < (n7 : Int)) = true := decide_eq_true (by omega)
    have z0 : 0 < n7 := by omega
    go_wp2_with fail
    refine (pick_any 3 _ nb _ g p2 A _ (by omega) (by omega) (by omega) hnb D7.out.rd).mono ?_
    rintro e w8 ⟨v8, rfl, hv8, hb8, hr8⟩
    have D8 := hide (D7.out.trans (Drew.of_but (p := p2) hb8 hr8))
    have O8 := hide (O7.out.drew (Drew.of_but (p := p2) hb8 hr8) lg)
    have K8 := hide hb8
    clear hb8 hr8
    by_cases h8 : v8 = 0
    · have d8 : decide ((0 : Int) < (v8 : Int)) = false := decide_eq_false (by omega)
      have z8 : ¬ 0 < v8 := by omega
      clear h0 h8
      go_wp2_with fail
      refine (pick_any (n2 + 1) _ nb _ g (p2 + 1) A _ (by omega) (by omega) (by omega) hnb D8.out.rd).mono ?_
      rintro e w3 ⟨v3, rfl, hv3, hb3, hr3⟩
      have D3 := hide (D8.out.trans (Drew.of_but (p := p2 + 1) hb3 hr3))
      have O3 := hide (O8.out.drew (Drew.of_but (p := p2 + 1) hb3 hr3) lg)
      clear hb3 hr3
      go_wp2_with fail
      refine (pick_any (n2 + 1) _ nb _ g (p2 + 1 + 1) A _ (by omega) (by omega) (by omega) hnb D3.out.rd).mono ?_
      rintro e w4 ⟨v4, rfl, hv4, hb4, hr4⟩
      have D4 := hide (D3.out.trans (Drew.of_but (p := p2 + 1 + 1) hb4 hr4))
      have O4 := hide (O3.out.drew (Drew.of_but (p := p2 + 1 + 1) hb4 hr4) lg)
      clear hb4 hr4
      have BF := hide (B1.trans (D4.out.below hg B1.size))
      have OF := hide (O4.out.base B1.size)
      go_wp2_with fail
      ((try simp only [Exit.inBlock, Exit.then]); refine bodyPost_ret (by simp [results, Try.results12, go_sem, ↓IntWalk.iteOmega]; try rfl) rfl ?_)
      exact ⟨_, ps, _, _, rfl, OF.out, hlen, hcb, BF.out⟩
    · have d8 : decide ((0 : Int) < (v8 : Int)) = true := decide_eq_true (by omega)
      have z8 : 0 < v8 := by omega
      obtain ⟨gb, hA7, hgb, hgs, _, hcs⟩ := R7.out.head (by omega)
      subst hA7
      have CS := hide hcs
      have s7 := D7.out.size
      clear hcs h8
      go_wp2_with fail
      refine (pick_any n7 _ nb _ g (p2 + 1) A _ (by omega) (by omega) (by omega) hnb D8.out.rd).mono ?_
      rintro e w9 ⟨v9, rfl, hv9, hb9, hr9⟩
      have D9 := hide (D8.out.trans (Drew.of_but (p := p2 + 1) hb9 hr9))
      have O9 := hide (O8.out.drew (Drew.of_but (p := p2 + 1) hb9 hr9) lg)
      have hne : gb ≠ g := by omega
      have hblk : w9.heap[gb]? = w7.heap[gb]? := (hb9.block gb hne).trans (K8.out.block gb hne)
      obtain ⟨hx0, hy0⟩ := CS.out v9 (by omega)
      have hx := (World.cell?_of_block (a := ⟨gb, v9 * 2, none⟩) hblk).trans hx0
      have hy := (World.cell?_of_block (a := ⟨gb, v9 * 2 + 1, none⟩) hblk).trans hy0
      have q1 : (0 : Int) ≤ (v9 : Int) := by omega
      have q2 : (v9 : Int) < (n7 : Int) := by omega
      have s9 := D9.out.size
      clear hb9 hr9 hx0 hy0 hblk CS K8 h0
      generalize pX (diagL ps) v9 = X at *
      generalize pY (diagL ps) v9 = Y at *
      have SX := hide (D9.out.then (show Below w9.heap.size w9 (w9.alloc (.cells #[.int .i64 X, .int .i64 Y] 51)) from (by (repeat' (first | (with_reducible exact Below.refl _ _) | (with_reducible assumption) | (with_reducible refine below_ext _ ?_ ?_) | (with_reducible refine Below.alloc ?_ ?_ _) | (with_reducible refine Below.drew ?_) | (with_reducible refine below_drewN ?_ _) | (with_reducible refine le_drewN _ ?_) | (with_reducible refine Below.setCell ?_ ?_ _) | (with_reducible exact Nat.le_refl _) | (with_reducible refine le_ext _ ?_) | (with_reducible refine le_alloc _ ?_) | (with_reducible refine le_setCell _ _ ?_) | (with_reducible refine le_drew ?_) | omega | (simp; done) | (simp; omega))))))
      have OX : Hid (OwnP (w9.alloc (.cells #[.int .i64 X, .int .i64 Y] 51)) w1.heap.size (.slice A2 n2 c2) ps) := hide (O9.out.below (show Below w9.heap.size w9 (w9.alloc (.cells #[.int .i64 X, .int .i64 Y] 51)) from (by (repeat' (first | (with_reducible exact Below.refl _ _) | (with_reducible assumption) | (with_reducible refine below_ext _ ?_ ?_) | (with_reducible refine Below.alloc ?_ ?_ _) | (with_reducible refine Below.drew ?_) | (with_reducible refine below_drewN ?_ _) | (with_reducible refine le_drewN _ ?_) | (with_reducible refine Below.setCell ?_ ?_ _) | (with_reducible exact Nat.le_refl _) | (with_reducible refine le_ext _ ?_) | (with_reducible refine le_alloc _ ?_) | (with_reducible refine le_setCell _ _ ?_) | (with_reducible refine le_drew ?_) | omega | (simp; done) | (simp; omega))))))
      have CX : Hid ((w9.alloc (.cells #[.int .i64 X, .int .i64 Y] 51)).cell? ⟨w9.heap.size, 0, none⟩ = some (.int .i64 X) ∧ (w9.alloc (.cells #[.int .i64 X, .int .i64 Y] 51)).cell? ⟨w9.heap.size, 1, none⟩ = some (.int .i64 Y)) := hide ⟨(heap_cell (heap_alloc_new _ _) 0).trans rfl, (heap_cell (heap_alloc_new _ _) 1).trans rfl⟩
      go_wp2_with fail
      refine (pick_any 2 _ nb _ g (p2 + 1 + 1) A _ (by omega) (by omega) (by omega) hnb SX.out.rd).mono ?_
      rintro e w10 ⟨v10, rfl, hv10, hb10, hr10⟩
      have D10 := hide (SX.out.trans (Drew.of_but (p := p2 + 1 + 1) hb10 hr10))
      have O10 := hide (OX.out.drew (Drew.of_but (p := p2 + 1 + 1) hb10 hr10) lg)
      have hn9 : w9.heap.size ≠ g := by omega
      have hblk := hb10.block w9.heap.size hn9
      have gx := (World.cell?_of_block (a := ⟨w9.heap.size, 0, none⟩) hblk).trans CX.out.1
      have gy := (World.cell?_of_block (a := ⟨w9.heap.size, 1, none⟩) hblk).trans CX.out.2
      have lt10 : w9.heap.size < w10.heap.size := World.block_lt_of_cell? w10 _ gx
      have BF := hide (B1.trans (D10.out.below hg B1.size))
      have OF := hide (O10.out.base B1.size)
      clear hb10 hr10 hblk hx hy
      by_cases h10 : v10 = 0
      · have d10 : ((v10 : Int) == 0) = true := by rw [h10]; rfl
        clear h10
        go_wp2_with fail
        refine wp_region_ext (by kernel_rfl) (by kernel_rfl) ?_
        repeat (go_big_quiet_step (fail))
        refine wpQuiet_nil ?_
        rintro _ hnq
        have hzq := ext_sz hnq
        obtain ⟨nq, rfl⟩ := hnq
        (try simp at hzq)
        go_wp2_with fail
        ((try simp only [Exit.inBlock, Exit.then]); refine bodyPost_ret (by simp [results, Try.results12, go_sem, ↓IntWalk.iteOmega]; try rfl) rfl ?_)
        exact ⟨_, ps, _, _, rfl, OF.out.below (ext_below w10 _), hlen, hcb, BF.out.trans ((ext_below w10 _).mono BF.out.size)⟩
      · have d10 : ((v10 : Int) == 0) = false := by rw [beq_eq_false_iff_ne]; omega
        clear h10
        go_wp2_with fail
        refine wp_region_ext (by kernel_rfl) (by kernel_rfl) ?_
        repeat (go_big_quiet_step (fail))
        refine wpQuiet_nil ?_
        rintro _ hnq
        have hzq := ext_sz hnq
        obtain ⟨nq, rfl⟩ := hnq
        (try simp at hzq)
        go_wp2_with fail
        ((try simp only [Exit.inBlock, Exit.then]); refine bodyPost_ret (by simp [results, Try.results12, go_sem, ↓IntWalk.iteOmega]; try rfl) rfl ?_)
        exact ⟨_, ps, _, _, rfl, OF.out.below (ext_below w10 _), hlen, hcb, BF.out.trans ((ext_below w10 _).mono BF.out.size)⟩
end Go.Proofs.Ytklbcmgkladdeaa
