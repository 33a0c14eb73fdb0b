
/- The draw of a matrix and a polygon. -/
import Derived.Test.YtelhidonhldjeaaDrawA
import Derived.Test.YtelhidonhldjeaaSimI
set_option linter.unusedVariables false
set_option linter.unusedSimpArgs false
namespace Go.Proofs.Ytelhidonhldjeaa
open Go.RowKit

theorem box_new4 (w : World) (cs : Array Value) (T : TypeId) : (w.alloc (.cells cs T)).heap[w.heap.size]? = some (.cells cs T (0, 0)) := heap_alloc_new w _
theorem Drew.set4 {w w' : World} {B : Nat} {A : Option Addr} {nb c g p p' q : Nat} (h : Drew w w' B A nb c g p p') (hg : g < w.heap.size) (hB : B ≤ w.heap.size) (hq : w.heap.size ≤ q) (a b c' d : Value) : Drew w ((((w'.setCell ⟨q, 0, none⟩ a).setCell ⟨q, 1, none⟩ b).setCell ⟨q, 2, none⟩ c').setCell ⟨q, 3, none⟩ d) B A nb c g p p' :=
  ((((h.set hg hB (q := ⟨q, 0, none⟩) hq a).set hg hB (q := ⟨q, 1, none⟩) hq b).set hg hB (q := ⟨q, 2, none⟩) hq c').set hg hB (q := ⟨q, 3, none⟩) hq d)
set_option maxHeartbeats 2000000 in
theorem randomMatrix_any (B nb c g p : Nat) (A : Option Addr) (w : World) (hp : p ≤ 700000) (hnb : nb ≤ 2000) (hr : Rd w B A nb c g p) :
    Calls Try.prog 55 #[.pointer (some ⟨g, 0, none⟩)] w fun e w' => ∃ (x y z t : Int) (p' : Nat), e = .returned (.agg #[.int .i64 x, .int .i64 y, .int .i64 z, .int .i64 t]) ∧ (-5 ≤ x ∧ x ≤ 5) ∧ (-5 ≤ y ∧ y ≤ 5) ∧ (-5 ≤ z ∧ z ≤ 5) ∧ (-5 ≤ t ∧ t ≤ 5) ∧ p' ≤ p + 10 ∧ Drew w w' B A nb c g p p' := by
  have lg := hr.lt
  have hle := hr.le
  have hr0 := hr.below ((Below.refl _ w).alloc (Nat.le_refl _) (.cells #[.int .i64 0, .int .i64 0, .int .i64 0, .int .i64 0] 29))
  have D0 := Drew.first hr ((Below.refl _ w).alloc (Nat.le_refl _) (.cells #[.int .i64 0, .int .i64 0, .int .i64 0, .int .i64 0] 29))
  have hg0 := heap_alloc_new w (.cells #[.int .i64 0, .int .i64 0, .int .i64 0, .int .i64 0] 29)
  go_enter Try.func55, Try.ntmps55
  go_wp2_with fail
  refine (pick_any 2 B nb c g p A _ (by omega) (by omega) (by omega) hnb hr0).mono ?_
  rintro e w1 ⟨v1, rfl, hv1, hb1, hr1⟩
  have D1 := D0.trans (Drew.of_but (p := p) hb1 hr1)
  have hg1 := (hb1.block w.heap.size (by omega)).trans hg0
  clear hb1 D0 hg0 hr0
  by_cases h1 : v1 = 0
  · have d1 : ((v1 : Int) == 0) = true := by rw [beq_iff_eq]; omega
    clear h1
    go_wp2_with fail
    refine (pick_any 5 B nb c g (p + 1) A _ (by omega) (by omega) (by omega) hnb hr1).mono ?_
    rintro e w2 ⟨v2, rfl, hv2, hb2, hr2⟩
    have D2 := D1.trans (Drew.of_but (p := p + 1) hb2 hr2)
    have hg2 := (hb2.block w.heap.size (by omega)).trans hg1
    clear hb2 D1 hg1 hr1
    go_wp2_with fail
    refine (pick_any 5 B nb c g (p + 1 + 1) A _ (by omega) (by omega) (by omega) hnb hr2).mono ?_
    rintro e w3 ⟨v3, rfl, hv3, hb3, hr3⟩
    have D3 := D2.trans (Drew.of_but (p := p + 1 + 1) hb3 hr3)
    have hg3 := (hb3.block w.heap.size (by omega)).trans hg2
    clear hb3 D2 hg2 hr2
    have mb : -4 ≤ ((v2 : Int) - 2) * ((v3 : Int) - 2) ∧ ((v2 : Int) - 2) * ((v3 : Int) - 2) ≤ 4 := mul_bd (M := 2) (N := 2) (by omega) (by omega)
    have f0 := heap_frozen hg3 0
    have f1 := heap_frozen hg3 1
    have f2 := heap_frozen hg3 2
    have f3 := heap_frozen hg3 3
    have c0 := heap_cell hg3 0
    have c1 := heap_cell hg3 1
    have c2 := heap_cell hg3 2
    have c3 := heap_cell hg3 3
    simp at c0 c1 c2 c3
    have HG := hide (box_set4 hg3 (.int .i64 (1 + ((v2 : Int) - 2) * ((v3 : Int) - 2))) (.int .i64 ((v2 : Int) - 2)) (.int .i64 ((v3 : Int) - 2)) (.int .i64 1))
    have DF := hide (D3.set4 lg (by omega) (Nat.le_refl w.heap.size) (.int .i64 (1 + ((v2 : Int) - 2) * ((v3 : Int) - 2))) (.int .i64 ((v2 : Int) - 2)) (.int .i64 ((v3 : Int) - 2)) (.int .i64 1))
    clear hg3 D3 hr3
    go_wp2_with fail
    generalize (((w3.setCell ⟨w.heap.size, 0, none⟩ (.int .i64 (1 + ((v2 : Int) - 2) * ((v3 : Int) - 2)))).setCell ⟨w.heap.size, 1, none⟩ (.int .i64 ((v2 : Int) - 2))).setCell ⟨w.heap.size, 2, none⟩ (.int .i64 ((v3 : Int) - 2))).setCell ⟨w.heap.size, 3, none⟩ (.int .i64 1) = W at *
    have k0 := heap_cell HG.out 0
    have k1 := heap_cell HG.out 1
    have k2 := heap_cell HG.out 2
    have k3 := heap_cell HG.out 3
    simp at k0 k1 k2 k3
    ((try simp only [Exit.inBlock, Exit.then]); refine bodyPost_ret (by simp [results, Try.results55, go_sem, ↓IntWalk.iteOmega, k0, k1, k2, k3]; try rfl) rfl ?_)
    exact ⟨_, _, _, _, _, rfl, by omega, by omega, by omega, by omega, by omega, DF.out⟩
  · have d1 : ((v1 : Int) == 0) = false := by rw [beq_eq_false_iff_ne]; omega
    clear h1
    go_wp2_with fail
    refine (pick_any 7 B nb c g (p + 1) A _ (by omega) (by omega) (by omega) hnb hr1).mono ?_
    rintro e w2 ⟨v2, rfl, hv2, hb2, hr2⟩
    have D2 := D1.trans (Drew.of_but (p := p + 1) hb2 hr2)
    have hg2 := (hb2.block w.heap.size (by omega)).trans hg1
    clear hb2 D1 hg1 hr1
    go_wp2_with fail
    refine (pick_any 7 B nb c g (p + 1 + 1) A _ (by omega) (by omega) (by omega) hnb hr2).mono ?_
    rintro e w3 ⟨v3, rfl, hv3, hb3, hr3⟩
    have D3 := D2.trans (Drew.of_but (p := p + 1 + 1) hb3 hr3)
    have hg3 := (hb3.block w.heap.size (by omega)).trans hg2
    clear hb3 D2 hg2 hr2
    go_wp2_with fail
    refine (pick_any 7 B nb c g (p + 1 + 1 + 1) A _ (by omega) (by omega) (by omega) hnb hr3).mono ?_
    rintro e w4 ⟨v4, rfl, hv4, hb4, hr4⟩
    have D4 := D3.trans (Drew.of_but (p := p + 1 + 1 + 1) hb4 hr4)
    have hg4 := (hb4.block w.heap.size (by omega)).trans hg3
    clear hb4 D3 hg3 hr3
    go_wp2_with fail
    refine (pick_any 7 B nb c g (p + 1 + 1 + 1 + 1) A _ (by omega) (by omega) (by omega) hnb hr4).mono ?_
    rintro e w5 ⟨v5, rfl, hv5, hb5, hr5⟩
    have D5 := D4.trans (Drew.of_but (p := p + 1 + 1 + 1 + 1) hb5 hr5)
    have hg5 := (hb5.block w.heap.size (by omega)).trans hg4
    clear hb5 D4 hg4 hr4
    have f0 := heap_frozen hg5 0
    have f1 := heap_frozen hg5 1
    have f2 := heap_frozen hg5 2
    have f3 := heap_frozen hg5 3
    have c0 := heap_cell hg5 0
    have c1 := heap_cell hg5 1
    have c2 := heap_cell hg5 2
    have c3 := heap_cell hg5 3
    simp at c0 c1 c2 c3
    have HG := hide (box_set4 hg5 (.int .i64 ((v2 : Int) - 3)) (.int .i64 ((v3 : Int) - 3)) (.int .i64 ((v4 : Int) - 3)) (.int .i64 ((v5 : Int) - 3)))
    have DF := hide (D5.set4 lg (by omega) (Nat.le_refl w.heap.size) (.int .i64 ((v2 : Int) - 3)) (.int .i64 ((v3 : Int) - 3)) (.int .i64 ((v4 : Int) - 3)) (.int .i64 ((v5 : Int) - 3)))
    clear hg5 D5 hr5
    go_wp2_with fail
    generalize (((w5.setCell ⟨w.heap.size, 0, none⟩ (.int .i64 ((v2 : Int) - 3))).setCell ⟨w.heap.size, 1, none⟩ (.int .i64 ((v3 : Int) - 3))).setCell ⟨w.heap.size, 2, none⟩ (.int .i64 ((v4 : Int) - 3))).setCell ⟨w.heap.size, 3, none⟩ (.int .i64 ((v5 : Int) - 3)) = W at *
    have k0 := heap_cell HG.out 0
    have k1 := heap_cell HG.out 1
    have k2 := heap_cell HG.out 2
    have k3 := heap_cell HG.out 3
    simp at k0 k1 k2 k3
    ((try simp only [Exit.inBlock, Exit.then]); refine bodyPost_ret (by simp [results, Try.results55, go_sem, ↓IntWalk.iteOmega, k0, k1, k2, k3]; try rfl) rfl ?_)
    exact ⟨_, _, _, _, _, rfl, by omega, by omega, by omega, by omega, by omega, DF.out⟩
set_option maxHeartbeats 2000000 in
theorem drawMapped_any (n c : Nat) (A : Option Addr) (w : World) (hn : n ≤ c) (hc : c ≤ 9223372036854775807) (hA : BytesAt w w.heap.size A n) :
    Calls Try.prog 17 #[.slice A n c] w fun e w' => ∃ x y z t v ps, e = .returned (.tuple #[.agg #[.int .i64 x, .int .i64 y, .int .i64 z, .int .i64 t], v]) ∧ (-5 ≤ x ∧ x ≤ 5) ∧ (-5 ≤ y ∧ y ≤ 5) ∧ (-5 ≤ z ∧ z ≤ 5) ∧ (-5 ≤ t ∧ t ≤ 5) ∧ OwnP w' w.heap.size v ps ∧ ps.length ≤ 9 ∧ CB 1001 ps ∧ Below w.heap.size w w' := by
  have hg0 := heap_alloc_new w (.cells #[.int .i64 0, .int .i64 0, .int .i64 0, .int .i64 0] 29)
  have b0 := (Below.refl w.heap.size w).alloc (Nat.le_refl _) (.cells #[.int .i64 0, .int .i64 0, .int .i64 0, .int .i64 0] 29)
  go_enter Try.func17, Try.ntmps17
  go_wp2_with fail
  refine (newReader_any n c A _ hn hc (BytesAt.more (BytesAt.below hA b0) (by first | (simp; done) | (simp; omega)))).mono ?_
  rintro e w1 ⟨g, nb, rfl, hg, hnb, hr, hx⟩
  have D1 := ext_bel hx
  have hg1 := (D1.block w.heap.size (by simp)).trans hg0
  have B1 := b0.trans (D1.mono (by first | (simp; done) | (simp; omega)))
  have lg := hr.lt
  have hgw : w.heap.size + 1 ≤ g := by rw [size_alloc] at hg; exact hg
  have s1 : w.heap.size + 1 ≤ w1.heap.size := by omega
  clear hx hg0 D1 b0 hg
  go_wp2_with fail
  refine (randomMatrix_any _ nb _ g 0 A _ (by omega) hnb hr).mono ?_
  rintro e w2 ⟨x, y, z, t, p', rfl, hx, hy, hz, ht, hp', hD⟩
  have hg2 := (hD.block w.heap.size (by omega) (by omega)).trans hg1
  have B2 : Below w.heap.size w w2 := B1.trans (hD.below (by omega) (by omega))
  have s2 := hD.size
  have hrd := hD.rd
  clear hg1 hD hr B1
  go_wp2_with fail
  have BC := hide (show Below w2.heap.size w2 ((w2.alloc (.cells #[.int .i64 x, .int .i64 y, .int .i64 z, .int .i64 t] 29)).drew) from (by (repeat' (first | (with_reducible exact Below.refl _ _) | (with_reducible assumption) | (with_reducible refine below_ext _ ?_ ?_) | (with_reducible refine Below.alloc ?_ ?_ _) | (with_reducible refine Below.drew ?_) | (with_reducible refine below_drewN ?_ _) | (with_reducible refine le_drewN _ ?_) | (with_reducible refine Below.setCell ?_ ?_ _) | (with_reducible exact Nat.le_refl _) | (with_reducible refine le_ext _ ?_) | (with_reducible refine le_alloc _ ?_) | (with_reducible refine le_setCell _ _ ?_) | (with_reducible refine le_drew ?_) | omega | (simp; done) | (simp; omega)))))
  have sC : w2.heap.size + 1 ≤ ((w2.alloc (.cells #[.int .i64 x, .int .i64 y, .int .i64 z, .int .i64 t] 29)).drew).heap.size := by show _ ≤ (w2.alloc _).heap.size; rw [size_alloc]; exact Nat.le_refl _
  have hgC : ((w2.alloc (.cells #[.int .i64 x, .int .i64 y, .int .i64 z, .int .i64 t] 29)).drew).heap[w.heap.size]? = some (.cells #[.int .i64 0, .int .i64 0, .int .i64 0, .int .i64 0] 29 (0, 0)) := (BC.out.block w.heap.size (by omega)).trans hg2
  have mxC : ((w2.alloc (.cells #[.int .i64 x, .int .i64 y, .int .i64 z, .int .i64 t] 29)).drew).heap[w2.heap.size]? = some (.cells #[.int .i64 x, .int .i64 y, .int .i64 z, .int .i64 t] 29 (0, 0)) := heap_alloc_new w2 _
  have RD1 := hide (hrd.to BC.out)
  have BC2 := hide (B2.trans (BC.out.mono (show w.heap.size ≤ w2.heap.size by omega)))
  have S4 : Hid (∀ W : World, W.heap[w.heap.size]? = some (.cells #[.int .i64 0, .int .i64 0, .int .i64 0, .int .i64 0] 29 (0, 0)) → ((((W.setCell ⟨w.heap.size, 0, none⟩ (.int .i64 x)).setCell ⟨w.heap.size, 1, none⟩ (.int .i64 y)).setCell ⟨w.heap.size, 2, none⟩ (.int .i64 z)).setCell ⟨w.heap.size, 3, none⟩ (.int .i64 t)).heap[w.heap.size]? = some (.cells #[.int .i64 x, .int .i64 y, .int .i64 z, .int .i64 t] 29 (0, 0))) := hide (fun W h => box_set4 h _ _ _ _)
  have B4 : Hid (∀ W : World, Below w.heap.size w W → Below w.heap.size w ((((W.setCell ⟨w.heap.size, 0, none⟩ (.int .i64 x)).setCell ⟨w.heap.size, 1, none⟩ (.int .i64 y)).setCell ⟨w.heap.size, 2, none⟩ (.int .i64 z)).setCell ⟨w.heap.size, 3, none⟩ (.int .i64 t))) := hide (fun W h => (((h.setCell (p := ⟨w.heap.size, 0, none⟩) (Nat.le_refl _) _).setCell (p := ⟨w.heap.size, 1, none⟩) (Nat.le_refl _) _).setCell (p := ⟨w.heap.size, 2, none⟩) (Nat.le_refl _) _).setCell (p := ⟨w.heap.size, 3, none⟩) (Nat.le_refl _) _)
  have K4 : Hid (∀ (W : World) (k : Nat), k ≠ w.heap.size → ((((W.setCell ⟨w.heap.size, 0, none⟩ (.int .i64 x)).setCell ⟨w.heap.size, 1, none⟩ (.int .i64 y)).setCell ⟨w.heap.size, 2, none⟩ (.int .i64 z)).setCell ⟨w.heap.size, 3, none⟩ (.int .i64 t)).heap[k]? = W.heap[k]?) := hide (fun W k hk => by
    rw [Below.heap_setCell _ _ _ k hk, Below.heap_setCell _ _ _ k hk, Below.heap_setCell _ _ _ k hk, Below.heap_setCell _ _ _ k hk])
  have RD2 : Hid (Rd ((((((w2.alloc (.cells #[.int .i64 x, .int .i64 y, .int .i64 z, .int .i64 t] 29)).drew).setCell ⟨w.heap.size, 0, none⟩ (.int .i64 x)).setCell ⟨w.heap.size, 1, none⟩ (.int .i64 y)).setCell ⟨w.heap.size, 2, none⟩ (.int .i64 z)).setCell ⟨w.heap.size, 3, none⟩ (.int .i64 t)) w1.heap.size A nb c g p' → True) := hide (fun _ => trivial)
  have c0 := heap_cell hgC 0
  have c1 := heap_cell hgC 1
  have c2 := heap_cell hgC 2
  have c3 := heap_cell hgC 3
  have f0 := heap_frozen hgC 0
  have f1 := heap_frozen hgC 1
  have f2 := heap_frozen hgC 2
  have f3 := heap_frozen hgC 3
  simp at c0 c1 c2 c3
  go_region_with (go_at_call 45; first | (refine (anyPolygon_any _ nb _ g p' A _ (by omega) hnb RD1.out).mono ?_; rintro e w3 ⟨v, ps, p3, rfl, hown3, hlen, hcb, hp3, D3⟩; have hg3 := (D3.block w.heap.size (by omega) (by omega)).trans hgC; have mx3 := (D3.block w2.heap.size (by omega) (by omega)).trans mxC; have m0 := heap_cell mx3 0; have m1 := heap_cell mx3 1; have m2 := heap_cell mx3 2; have m3 := heap_cell mx3 3; simp at m0 m1 m2 m3; clear mx3; have O3 := hide hown3; have D3h := hide D3; have e0 := heap_cell hg3 0; have e1 := heap_cell hg3 1; have e2 := heap_cell hg3 2; have e3 := heap_cell hg3 3; have h0 := heap_frozen hg3 0; have h1 := heap_frozen hg3 1; have h2 := heap_frozen hg3 2; have h3 := heap_frozen hg3 3; simp at e0 e1 e2 e3; have HG3 := hide hg3; clear hown3 D3 hg3))
  all_goals
    have GF := hide (S4.out w3 HG3.out)
    have BF := hide (B4.out w3 (BC2.out.trans (D3h.out.below (by omega) (by omega))))
    have ne : ∀ j, v.ownBlock = some j → j ≠ w.heap.size := fun j hj => by have := O3.out.lt j hj; omega
    have OF := hide (((((O3.out.far (q := ⟨w.heap.size, 0, none⟩) ne (.int .i64 x)).far (q := ⟨w.heap.size, 1, none⟩) ne (.int .i64 y)).far (q := ⟨w.heap.size, 2, none⟩) ne (.int .i64 z)).far (q := ⟨w.heap.size, 3, none⟩) ne (.int .i64 t)).base (base' := w.heap.size) (by omega))
    clear S4 B4 HG3 BC2 D3h O3 ne c0 c1 c2 c3 f0 f1 f2 f3 e0 e1 e2 e3 h0 h1 h2 h3 m0 m1 m2 m3 K4 RD2
    go_wp2_with fail
    generalize ((((w3.setCell ⟨w.heap.size, 0, none⟩ (.int .i64 x)).setCell ⟨w.heap.size, 1, none⟩ (.int .i64 y)).setCell ⟨w.heap.size, 2, none⟩ (.int .i64 z)).setCell ⟨w.heap.size, 3, none⟩ (.int .i64 t)) = W at *
    have k0 := heap_cell GF.out 0
    have k1 := heap_cell GF.out 1
    have k2 := heap_cell GF.out 2
    have k3 := heap_cell GF.out 3
    simp at k0 k1 k2 k3
    ((try simp only [Exit.inBlock, Exit.then]); refine bodyPost_ret (by simp [results, Try.results17, go_sem, ↓IntWalk.iteOmega, k0, k1, k2, k3]; try rfl) rfl ?_)
    exact ⟨x, y, z, t, _, ps, rfl, hx, hy, hz, ht, OF.out, hlen, hcb, BF.out⟩
end Go.Proofs.Ytelhidonhldjeaa
