import Derived.Test.YtnddfdhfefconaaGreatDoorDrawK
import Derived.BigRegion
import Derived.Test.YtnddfdhfefconaaGreatDoorRelM
set_option linter.unusedVariables false
set_option linter.unusedSimpArgs false
namespace Go.Proofs.YtnddfdhfefconaaGreatDoor
open Go.RowKit
set_option maxHeartbeats 2000000 in
theorem someShape_any (B nb c g p : Nat) (A : Option Addr) (w : World) (hp : p ≤ 700000) (hnb : nb ≤ 2000) (hr : Rd w B A nb c g p) :
    Calls Tryz.prog 39 #[.pointer (some ⟨g, 0, none⟩)] w fun e w' => ∃ v ps p', e = .returned v ∧ OwnP w' w.heap.size v ps ∧ 3 ≤ ps.length ∧ ps.length ≤ 8 ∧ CB 29 ps ∧ p' ≤ p + 10 ∧ Drew w w' B A nb c g p p' := by
  have lg := hr.lt
  have hBg := hr.le
  have KEY := hide (shapes_key w)
  go_enter Tryz.func39, Tryz.ntmps39
  go_wp2_with fail
  have BW := hide (show Below w.heap.size w ((((((((w.alloc (.cells #[.int .i64 0, .int .i64 0, .int .i64 4, .int .i64 0, .int .i64 4, .int .i64 4, .int .i64 0, .int .i64 4] 41)).alloc (.cells #[.int .i64 0, .int .i64 0, .int .i64 6, .int .i64 0, .int .i64 6, .int .i64 6, .int .i64 3, .int .i64 2, .int .i64 0, .int .i64 6] 41)).alloc (.cells #[.int .i64 0, .int .i64 0, .int .i64 5, .int .i64 1, .int .i64 7, .int .i64 5, .int .i64 2, .int .i64 7, .int .i64 (-1), .int .i64 4] 41)).alloc (.cells #[.int .i64 0, .int .i64 0, .int .i64 2, .int .i64 0, .int .i64 2, .int .i64 3, .int .i64 4, .int .i64 3, .int .i64 4, .int .i64 0, .int .i64 6, .int .i64 0, .int .i64 6, .int .i64 5, .int .i64 0, .int .i64 5] 41)).alloc (.cells #[.int .i64 0, .int .i64 0, .int .i64 3, .int .i64 1, .int .i64 6, .int .i64 0, .int .i64 5, .int .i64 3, .int .i64 6, .int .i64 6, .int .i64 3, .int .i64 5, .int .i64 0, .int .i64 6, .int .i64 1, .int .i64 3] 41)).alloc (.cells #[.int .i64 0, .int .i64 0, .int .i64 9, .int .i64 2, .int .i64 1, .int .i64 3] 41)).alloc (.cells #[.slice (some ⟨w.heap.size, 0, none⟩) 4 4, .slice (some ⟨w.heap.size + 1, 0, none⟩) 5 5, .slice (some ⟨w.heap.size + 1 + 1, 0, none⟩) 5 5, .slice (some ⟨w.heap.size + 1 + 1 + 1, 0, none⟩) 8 8, .slice (some ⟨w.heap.size + 1 + 1 + 1 + 1, 0, none⟩) 8 8, .slice (some ⟨w.heap.size + 1 + 1 + 1 + 1 + 1, 0, none⟩) 3 3] 23))) from (by (repeat' (first | (with_reducible first | exact Below.refl _ _ | assumption | refine below_ext _ ?_ ?_ | refine Below.alloc ?_ ?_ _ | refine Below.drew ?_ | refine below_drewN ?_ _ | refine le_drewN _ ?_ | refine Below.setCell ?_ ?_ _ | exact Nat.le_refl _ | refine le_ext _ ?_ | refine le_alloc _ ?_ | refine le_setCell _ _ ?_ | refine le_drew ?_) | omega | (simp; done) | (simp; omega)))))
  have s1 : w.heap.size + 7 ≤ ((((((((w.alloc (.cells #[.int .i64 0, .int .i64 0, .int .i64 4, .int .i64 0, .int .i64 4, .int .i64 4, .int .i64 0, .int .i64 4] 41)).alloc (.cells #[.int .i64 0, .int .i64 0, .int .i64 6, .int .i64 0, .int .i64 6, .int .i64 6, .int .i64 3, .int .i64 2, .int .i64 0, .int .i64 6] 41)).alloc (.cells #[.int .i64 0, .int .i64 0, .int .i64 5, .int .i64 1, .int .i64 7, .int .i64 5, .int .i64 2, .int .i64 7, .int .i64 (-1), .int .i64 4] 41)).alloc (.cells #[.int .i64 0, .int .i64 0, .int .i64 2, .int .i64 0, .int .i64 2, .int .i64 3, .int .i64 4, .int .i64 3, .int .i64 4, .int .i64 0, .int .i64 6, .int .i64 0, .int .i64 6, .int .i64 5, .int .i64 0, .int .i64 5] 41)).alloc (.cells #[.int .i64 0, .int .i64 0, .int .i64 3, .int .i64 1, .int .i64 6, .int .i64 0, .int .i64 5, .int .i64 3, .int .i64 6, .int .i64 6, .int .i64 3, .int .i64 5, .int .i64 0, .int .i64 6, .int .i64 1, .int .i64 3] 41)).alloc (.cells #[.int .i64 0, .int .i64 0, .int .i64 9, .int .i64 2, .int .i64 1, .int .i64 3] 41)).alloc (.cells #[.slice (some ⟨w.heap.size, 0, none⟩) 4 4, .slice (some ⟨w.heap.size + 1, 0, none⟩) 5 5, .slice (some ⟨w.heap.size + 1 + 1, 0, none⟩) 5 5, .slice (some ⟨w.heap.size + 1 + 1 + 1, 0, none⟩) 8 8, .slice (some ⟨w.heap.size + 1 + 1 + 1 + 1, 0, none⟩) 8 8, .slice (some ⟨w.heap.size + 1 + 1 + 1 + 1 + 1, 0, none⟩) 3 3] 23))).heap.size := by simp
  have e1 := hide (show ((((((((w.alloc (.cells #[.int .i64 0, .int .i64 0, .int .i64 4, .int .i64 0, .int .i64 4, .int .i64 4, .int .i64 0, .int .i64 4] 41)).alloc (.cells #[.int .i64 0, .int .i64 0, .int .i64 6, .int .i64 0, .int .i64 6, .int .i64 6, .int .i64 3, .int .i64 2, .int .i64 0, .int .i64 6] 41)).alloc (.cells #[.int .i64 0, .int .i64 0, .int .i64 5, .int .i64 1, .int .i64 7, .int .i64 5, .int .i64 2, .int .i64 7, .int .i64 (-1), .int .i64 4] 41)).alloc (.cells #[.int .i64 0, .int .i64 0, .int .i64 2, .int .i64 0, .int .i64 2, .int .i64 3, .int .i64 4, .int .i64 3, .int .i64 4, .int .i64 0, .int .i64 6, .int .i64 0, .int .i64 6, .int .i64 5, .int .i64 0, .int .i64 5] 41)).alloc (.cells #[.int .i64 0, .int .i64 0, .int .i64 3, .int .i64 1, .int .i64 6, .int .i64 0, .int .i64 5, .int .i64 3, .int .i64 6, .int .i64 6, .int .i64 3, .int .i64 5, .int .i64 0, .int .i64 6, .int .i64 1, .int .i64 3] 41)).alloc (.cells #[.int .i64 0, .int .i64 0, .int .i64 9, .int .i64 2, .int .i64 1, .int .i64 3] 41)).alloc (.cells #[.slice (some ⟨w.heap.size, 0, none⟩) 4 4, .slice (some ⟨w.heap.size + 1, 0, none⟩) 5 5, .slice (some ⟨w.heap.size + 1 + 1, 0, none⟩) 5 5, .slice (some ⟨w.heap.size + 1 + 1 + 1, 0, none⟩) 8 8, .slice (some ⟨w.heap.size + 1 + 1 + 1 + 1, 0, none⟩) 8 8, .slice (some ⟨w.heap.size + 1 + 1 + 1 + 1 + 1, 0, none⟩) 3 3] 23))).heap.size = w.heap.size + 1 + 1 + 1 + 1 + 1 + 1 + 1 from by simp only [size_alloc])
  generalize (((((((w.alloc (.cells #[.int .i64 0, .int .i64 0, .int .i64 4, .int .i64 0, .int .i64 4, .int .i64 4, .int .i64 0, .int .i64 4] 41)).alloc (.cells #[.int .i64 0, .int .i64 0, .int .i64 6, .int .i64 0, .int .i64 6, .int .i64 6, .int .i64 3, .int .i64 2, .int .i64 0, .int .i64 6] 41)).alloc (.cells #[.int .i64 0, .int .i64 0, .int .i64 5, .int .i64 1, .int .i64 7, .int .i64 5, .int .i64 2, .int .i64 7, .int .i64 (-1), .int .i64 4] 41)).alloc (.cells #[.int .i64 0, .int .i64 0, .int .i64 2, .int .i64 0, .int .i64 2, .int .i64 3, .int .i64 4, .int .i64 3, .int .i64 4, .int .i64 0, .int .i64 6, .int .i64 0, .int .i64 6, .int .i64 5, .int .i64 0, .int .i64 5] 41)).alloc (.cells #[.int .i64 0, .int .i64 0, .int .i64 3, .int .i64 1, .int .i64 6, .int .i64 0, .int .i64 5, .int .i64 3, .int .i64 6, .int .i64 6, .int .i64 3, .int .i64 5, .int .i64 0, .int .i64 6, .int .i64 1, .int .i64 3] 41)).alloc (.cells #[.int .i64 0, .int .i64 0, .int .i64 9, .int .i64 2, .int .i64 1, .int .i64 3] 41)).alloc (.cells #[.slice (some ⟨w.heap.size, 0, none⟩) 4 4, .slice (some ⟨w.heap.size + 1, 0, none⟩) 5 5, .slice (some ⟨w.heap.size + 1 + 1, 0, none⟩) 5 5, .slice (some ⟨w.heap.size + 1 + 1 + 1, 0, none⟩) 8 8, .slice (some ⟨w.heap.size + 1 + 1 + 1 + 1, 0, none⟩) 8 8, .slice (some ⟨w.heap.size + 1 + 1 + 1 + 1 + 1, 0, none⟩) 3 3] 23)) = W1 at *
  refine (pick_any 6 B nb c g p A _ (by omega) (by omega) (by omega) hnb (hr.to (BW.out.alloc (by omega) _))).mono ?_
  rintro e w2 ⟨v2, rfl, hv2, hb2, hr2⟩
  have O2 : OwnP w2 w.heap.size (.slice (some ⟨W1.heap.size, 0, none⟩) 0 0) [] := (OwnP.empty W1 w.heap.size 0 (by omega) #[] rfl (by simp [maxLen])).drew (Drew.of_but (p := p) hb2 hr2) (by omega)
  have D2 : Drew w w2 B A nb c g p (p + 1) := (Drew.first hr (BW.out.alloc (by omega) (.cells #[] 41))).trans (Drew.of_but hb2 hr2)
  obtain ⟨gs, ns, qs, hcell, hl, h3, h8, hcb, hgs, hpts⟩ := KEY.out v2 hv2
  have hs2 : W1.heap.size + 1 ≤ w2.heap.size := by rw [hb2.size]; simp
  have hcell2 : w2.cell? ⟨w.heap.size + 1 + 1 + 1 + 1 + 1 + 1, v2, none⟩ = some (.slice (some ⟨gs, 0, none⟩) ns ns) :=
    (World.cell?_of_block ((hb2.block _ (show w.heap.size + 1 + 1 + 1 + 1 + 1 + 1 ≠ g by omega)).trans (Below.heap_alloc _ _ _ (by omega)))).trans hcell
  have hgl : gs < w.heap.size + 6 := by
    obtain ⟨b', o', hA, hB, _⟩ := hpts (by omega)
    injection hA with hA; injection hA with h1 h2 _
    omega
  have P2 := hide ((hpts.blk ((hb2.block _ (show gs ≠ g by omega)).trans (Below.heap_alloc W1 (.cells #[] 41) gs (by omega)))))
  clear hb2 hr KEY BW hcell hpts
  rw [e1.out] at O2
  have HO2 := hide O2
  have HD2 := hide D2
  have HR2 := hide hr2
  clear O2 D2 hr2
  go_wp2_with (at_builtin; refine app_pts rfl (.tmp 49) (.tmp 56) rfl w.heap.size (.slice (some ⟨w.heap.size + 1 + 1 + 1 + 1 + 1 + 1 + 1, 0, none⟩) 0 0) [] rfl HO2.out (some ⟨gs, 0, none⟩) ns ns (w.heap.size + 6) qs rfl hl P2.out (fun h => by cases h) (fun b o s h => by injection h with h; injection h with _ _ h; exact h.symm) (Nat.zero_le _) (by omega) (by omega) ?_; intro v7 w7 hown7 hb7 hat7 hgr7; obtain ⟨A7, n7, c7, rfl⟩ := hown7.slice; have O7 := hide hown7; have G7 := hide hgr7; clear hown7 hat7 hb7 hgr7)
  have D7 := HD2.out.grown G7.out (fun j hj => HO2.out.lt j hj) lg
  have l7 : n7 = ns := by have := O7.out.pts.1; rw [List.nil_append] at this; omega
  subst l7
  have O7b : Hid (OwnP w7 w.heap.size (.slice A7 n7 c7) qs) := O7
  clear O7 HO2 HD2 G7 hcell2 P2 HR2
  refine (pick_any 5 B nb c g (p + 1) A _ (by omega) (by omega) (by omega) hnb D7.rd).mono ?_
  rintro e w8 ⟨v8, rfl, hv8, hb8, hr8⟩
  have D8 := D7.trans (Drew.of_but (p := p + 1) hb8 hr8)
  have O8 := hide (O7b.out.drew (Drew.of_but (p := p + 1) hb8 hr8) lg)
  clear D7 O7b hb8 hr8
  go_wp2_with fail
  refine (pick_any 3 B nb c g (p + 1 + 1) A _ (by omega) (by omega) (by omega) hnb D8.rd).mono ?_
  rintro e w9 ⟨v9, rfl, hv9, hb9, hr9⟩
  have D9 := hide (D8.trans (Drew.of_but (p := p + 1 + 1) hb9 hr9))
  have O9 := hide (O8.out.drew (Drew.of_but (p := p + 1 + 1) hb9 hr9) lg)
  have CB0 := hide hcb
  clear D8 O8 hb9 hr9 hcb
  have n7b : 3 ≤ n7 ∧ n7 ≤ 8 := by omega
  go_wp2_with fail
  go_loopw [7] (fun u7 wr => ∃ (i : Nat) (rs : List Pt), i ≤ n7 ∧ u7 = .int .i64 i ∧ OwnP wr w.heap.size (.slice A7 n7 c7) rs ∧ Hid (∀ j, j < i → (-29 ≤ pX rs j ∧ pX rs j ≤ 29) ∧ (-29 ≤ pY rs j ∧ pY rs j ≤ 29)) ∧ Hid (∀ j, i ≤ j → j < n7 → (-9 ≤ pX rs j ∧ pX rs j ≤ 9) ∧ (-9 ≤ pY rs j ∧ pY rs j ≤ 9)) ∧ Drew w wr B A nb c g p (p + 1 + 1 + 1)) (fun u7 _ => n7 - (intOf u7).toNat)
  case atStart => exact ⟨0, qs, Nat.zero_le _, rfl, O9.out, (fun j hj => absurd hj (Nat.not_lt_zero _)), (fun j _ hj => CB0.out.at (by omega)), D9.out⟩
  case round =>
    obtain ⟨i, rs, hi, rfl, hown, HLo, HHi, hD⟩ := hrel
    have HO := hide hown
    have HD := hide hD
    have hlr := hown.pts.1
    clear hown hD D9 O9 CB0
    by_cases hlt : i < n7
    · obtain ⟨gb, rfl, hgb, hgl, hfr, hcs⟩ := HO.out.head (by omega)
      obtain ⟨k0, k1⟩ := hcs i hlt
      obtain ⟨⟨x1, x2⟩, y1, y2⟩ := HHi.out i (Nat.le_refl _) hlt
      have f0 := hfr (i * 2)
      have f1 := hfr (i * 2 + 1)
      have q3 : (0 : Int) ≤ (i : Int) := by omega
      have q4 : (i : Int) < (n7 : Int) := by omega
      have m1 := mul_bd (a := 1 + (v9 : Int)) (b := pX rs i) (M := 3) (N := 9) (by omega) (by omega)
      have m2 := mul_bd (a := 1 + (v9 : Int)) (b := pY rs i) (M := 3) (N := 9) (by omega) (by omega)
      have SETX : Hid (∀ x y : Int, (-29 ≤ x ∧ x ≤ 29) → (-29 ≤ y ∧ y ≤ 29) → Hid (∀ j, j < i + 1 → (-29 ≤ pX (rs.set i ⟨x, y⟩) j ∧ pX (rs.set i ⟨x, y⟩) j ≤ 29) ∧ (-29 ≤ pY (rs.set i ⟨x, y⟩) j ∧ pY (rs.set i ⟨x, y⟩) j ≤ 29)) ∧ Hid (∀ j, i + 1 ≤ j → j < n7 → (-9 ≤ pX (rs.set i ⟨x, y⟩) j ∧ pX (rs.set i ⟨x, y⟩) j ≤ 9) ∧ (-9 ≤ pY (rs.set i ⟨x, y⟩) j ∧ pY (rs.set i ⟨x, y⟩) j ≤ 9))) := hide (fun x y hx hy => ⟨hide (fun j hj => by
          unfold pX pY
          by_cases e : j = i
          · subst e; rw [gp_set_eq (by omega)]; exact ⟨hx, hy⟩
          · rw [gp_set_ne (by omega)]; exact HLo.out j (by omega)), hide (fun j hj hj2 => by
          unfold pX pY
          rw [gp_set_ne (by omega)]; exact HHi.out j (by omega) hj2)⟩)
      have OS : Hid (∀ (W : World) (x y : Int), OwnP W w.heap.size (.slice (some ⟨gb, 0, none⟩) n7 c7) rs → OwnP ((W.setCell ⟨gb, i * 2, none⟩ (.int .i64 x)).setCell ⟨gb, i * 2 + 1, none⟩ (.int .i64 y)) w.heap.size (.slice (some ⟨gb, 0, none⟩) n7 c7) (rs.set i ⟨x, y⟩)) := hide (fun W x y h => h.setP i x y)
      have DS : Hid (∀ (W : World) (x y : Int), Drew w W B A nb c g p (p + 1 + 1 + 1) → Drew w ((W.setCell ⟨gb, i * 2, none⟩ (.int .i64 x)).setCell ⟨gb, i * 2 + 1, none⟩ (.int .i64 y)) B A nb c g p (p + 1 + 1 + 1)) := hide (fun W x y h => (h.set lg (by omega) (q := ⟨gb, i * 2, none⟩) hgb _).set lg (by omega) (q := ⟨gb, i * 2 + 1, none⟩) hgb _)
      clear hcs hfr HLo HHi
      generalize pX rs i = X at *
      generalize pY rs i = Y at *
      go_wp2_with fail
      go_region
      go_wp2_with fail
      obtain ⟨L1, L2⟩ := SETX.out ((1 + (v9 : Int)) * X + ((v8 : Int) - 2)) ((1 + (v9 : Int)) * Y) (by omega) (by omega)
      have OE := hide (OS.out _ ((1 + (v9 : Int)) * X + ((v8 : Int) - 2)) ((1 + (v9 : Int)) * Y) HO.out)
      have DE := hide (DS.out _ ((1 + (v9 : Int)) * X + ((v8 : Int) - 2)) ((1 + (v9 : Int)) * Y) HD.out)
      exact ⟨⟨i + 1, _, by omega, by go_num, OE.out.below (by (repeat' (first | (with_reducible first | exact Below.refl _ _ | assumption | refine below_ext _ ?_ ?_ | refine Below.alloc ?_ ?_ _ | refine Below.drew ?_ | refine below_drewN ?_ _ | refine le_drewN _ ?_ | refine Below.setCell ?_ ?_ _ | exact Nat.le_refl _ | refine le_ext _ ?_ | refine le_alloc _ ?_ | refine le_setCell _ _ ?_ | refine le_drew ?_) | omega | (simp; done) | (simp; omega)))), L1, L2, DE.out.then (by (repeat' (first | (with_reducible first | exact Below.refl _ _ | assumption | refine below_ext _ ?_ ?_ | refine Below.alloc ?_ ?_ _ | refine Below.drew ?_ | refine below_drewN ?_ _ | refine le_drewN _ ?_ | refine Below.setCell ?_ ?_ _ | exact Nat.le_refl _ | refine le_ext _ ?_ | refine le_alloc _ ?_ | refine le_setCell _ _ ?_ | refine le_drew ?_) | omega | (simp; done) | (simp; omega))))⟩, by simp [intOf]; omega⟩
    · have hCB : Hid (CB 29 rs) := hide (CB.of fun j hj => HLo.out j (by omega))
      clear HLo HHi
      go_wp2_with fail
      refine (pick_any 2 B nb c g (p + 1 + 1 + 1) A _ (by omega) (by omega) (by omega) hnb HD.out.rd).mono ?_
      rintro e w10 ⟨v10, rfl, hv10, hb10, hr10⟩
      have D10 := hide (HD.out.trans (Drew.of_but (p := p + 1 + 1 + 1) hb10 hr10))
      have O10 := hide (HO.out.drew (Drew.of_but (p := p + 1 + 1 + 1) hb10 hr10) lg)
      clear HD HO hb10 hr10
      by_cases h10 : v10 = 0
      · have d10 : ((v10 : Int) == 0) = true := by rw [beq_iff_eq]; omega
        have RV := hide (reversed_any rs A7 n7 c7 w10 hlr (by omega) O10.out.pts.2.2.2)
        clear h10
        go_wp2_with fail
        refine RV.out.mono ?_
        rintro e w11 ⟨v11, rfl, hown11, x11, rfl⟩
        obtain ⟨A11, n11, c11, rfl⟩ := hown11.slice
        have l11 : rs.reverse.length = n11 := hown11.pts.1
        have n11b : 3 ≤ n11 ∧ n11 ≤ 8 := by rw [List.length_reverse] at l11; omega
        have s10 := D10.out.size
        have O11 := hide (hown11.base (show w.heap.size ≤ w10.heap.size by omega))
        have D11 := hide (D10.out.then (ext_below w10 x11))
        have CB11 := hide hCB.out.rev
        clear hown11 RV D10 O10 hCB
        generalize ext w10 x11 = W11 at *
        generalize rs.reverse = ts at *
        go_wp2_with fail
        refine (pick_any n11 B nb c g (p + 1 + 1 + 1 + 1) A _ (by omega) (by omega) (by omega) hnb D11.out.rd).mono ?_
        rintro e w12 ⟨v12, rfl, hv12, hb12, hr12⟩
        have D12 := hide (D11.out.trans (Drew.of_but (p := p + 1 + 1 + 1 + 1) hb12 hr12))
        have O12 := hide (O11.out.drew (Drew.of_but (p := p + 1 + 1 + 1 + 1) hb12 hr12) lg)
        clear D11 O11 hb12 hr12
        obtain ⟨gb, rfl, hgb, hgl, hfr, hcs⟩ := O12.out.head (by omega)
        clear hcs hfr
        go_wp2_with fail
        have hcc : n11 ≤ c11 := O12.out.pts.2.1
        have hq6 : ¬ c11 = v12 := by omega
        have hi0 : (0 : Int) ≤ (v12 : Int) := by omega
        have hi1 : (v12 : Int) ≤ (n11 : Int) := by omega
        have hi2 : (n11 : Int) ≤ (c11 : Int) := by omega
        have hi3 : (v12 : Int) ≤ (c11 : Int) := by omega
        have s12 := D12.out.size
        have P12 := O12.out.pts.2.2.2
        have PTK : Hid (∀ W, Below w12.heap.size w12 W → PtsAt W w12.heap.size (some ⟨gb, 0, none⟩) (ts.take v12)) := hide (fun W hW => (P12.pre v12).below hW)
        have PTD : Hid (∀ W, Below w12.heap.size w12 W → PtsAt W w12.heap.size (some ⟨gb, 0 + v12 * 2, none⟩) ((ts.drop v12).take (n11 - v12))) := hide (fun W hW => (P12.cut (a := v12) (m := n11 - v12) (by omega)).below hW)
        rw [List.take_of_length_le (by rw [List.length_drop]; omega), Nat.zero_add] at PTD
        have E1 : Hid (OwnP ((w12.alloc (.cells #[] 41)).drew) w12.heap.size (.slice (some ⟨w12.heap.size, 0, none⟩) 0 0) []) := hide ((OwnP.empty w12 w12.heap.size 0 (Nat.le_refl _) #[] rfl (by simp [maxLen])).below (show Below (w12.alloc (.cells #[] 41)).heap.size (w12.alloc (.cells #[] 41)) (w12.alloc (.cells #[] 41)).drew from (by (repeat' (first | (with_reducible first | exact Below.refl _ _ | assumption | refine below_ext _ ?_ ?_ | refine Below.alloc ?_ ?_ _ | refine Below.drew ?_ | refine below_drewN ?_ _ | refine le_drewN _ ?_ | refine Below.setCell ?_ ?_ _ | exact Nat.le_refl _ | refine le_ext _ ?_ | refine le_alloc _ ?_ | refine le_setCell _ _ ?_ | refine le_drew ?_) | omega | (simp; done) | (simp; omega))))))
        have BD := hide (show Below w12.heap.size w12 ((w12.alloc (.cells #[] 41)).drew) from (by (repeat' (first | (with_reducible first | exact Below.refl _ _ | assumption | refine below_ext _ ?_ ?_ | refine Below.alloc ?_ ?_ _ | refine Below.drew ?_ | refine below_drewN ?_ _ | refine le_drewN _ ?_ | refine Below.setCell ?_ ?_ _ | exact Nat.le_refl _ | refine le_ext _ ?_ | refine le_alloc _ ?_ | refine le_setCell _ _ ?_ | refine le_drew ?_) | omega | (simp; done) | (simp; omega)))))
        have SZ : w12.heap.size ≤ ((w12.alloc (.cells #[] 41)).drew).heap.size := BD.out.size
        have LD : (ts.drop v12).length = n11 - v12 := by rw [List.length_drop]; omega
        have LT : (ts.take v12).length = v12 := by rw [List.length_take]; omega
        have LA : ([] ++ ts.drop v12).length ≤ 2000000 := by rw [List.nil_append, LD]; omega
        have FD : Hid ((some (⟨gb, v12 * 2, none⟩ : Addr) = none → n11 - v12 = 0) ∧ ∀ b o s, some (⟨gb, v12 * 2, none⟩ : Addr) = some ⟨b, o, s⟩ → s = none) := ⟨(fun h => by cases h), (fun b o s h => by injection h with h; injection h with _ _ h; exact h.symm)⟩
        have FT : Hid ((some (⟨gb, 0, none⟩ : Addr) = none → v12 = 0) ∧ ∀ b o s, some (⟨gb, 0, none⟩ : Addr) = some ⟨b, o, s⟩ → s = none) := ⟨(fun h => by cases h), (fun b o s h => by injection h with h; injection h with _ _ h; exact h.symm)⟩
        have K1 : n11 - v12 ≤ 2000000 := by omega
        have K2 : v12 ≤ 2000000 := by omega
        have LD2 := hide LD
        have LT2 := hide LT
        clear LD LT P12 O12
        go_region_held3 (fun W => True) (exact trivial) (first | (refine step_pts (by rfl) (.tmp 99) (.tmp 102) (by rfl) w12.heap.size (.slice (some ⟨w12.heap.size, 0, none⟩) 0 0) [] (by rfl) E1.out (some ⟨gb, v12 * 2, none⟩) (n11 - v12) (c11 - v12) w12.heap.size (ts.drop v12) (by rfl) LD2.out (PTD.out _ BD.out) FD.out (Nat.zero_le _) K1 SZ ?_; intro v7 w7 hown7 hb7 hat7 hgr7; obtain ⟨A7, n7, c7, rfl⟩ := hown7.slice; have O7 := hide hown7; have B7 := hide (BD.out.trans hb7); have SZ7 : w12.heap.size ≤ w7.heap.size := B7.out.size; clear hown7 hat7 hgr7 hb7) | (refine step_pts (by rfl) (.tmp 103) (.tmp 106) (by rfl) w12.heap.size (.slice A7 n7 c7) ([] ++ ts.drop v12) (by rfl) O7.out (some ⟨gb, 0, none⟩) v12 c11 w12.heap.size (ts.take v12) (by rfl) LT2.out (PTK.out _ B7.out) FT.out LA K2 SZ7 ?_; intro v13 w13 hown13 hb13 hat13 hgr13; obtain ⟨A13, n13, c13, rfl⟩ := hown13.slice; have O13 := hide hown13; have B13 := hide (B7.out.trans hb13); clear hown13 hat13 hgr13 hb13))
        all_goals go_wp2_with fail
        all_goals go_ret
        all_goals exact ⟨_, _, _, rfl, O13.out.base s12, by rw [List.nil_append, List.length_append, LD2.out, LT2.out]; omega, by rw [List.nil_append, List.length_append, LD2.out, LT2.out]; omega, by rw [List.nil_append]; exact (CB11.out.drop v12).app (CB11.out.take v12), by omega, D12.out.then B13.out⟩
      · have d10 : ((v10 : Int) == 0) = false := by rw [beq_eq_false_iff_ne]; omega
        obtain ⟨n11, hn11⟩ : ∃ n11, n11 = n7 := ⟨_, rfl⟩
        subst hn11
        obtain ⟨A11, hA11⟩ : ∃ A11, A11 = A7 := ⟨_, rfl⟩
        subst hA11
        obtain ⟨c11, hc11⟩ : ∃ c11, c11 = c7 := ⟨_, rfl⟩
        subst hc11
        have l11 : rs.length = n11 := hlr
        have n11b : 3 ≤ n11 ∧ n11 ≤ 8 := by omega
        have O11 := O10
        have D11 := D10
        have CB11 := hCB
        clear D10 O10 hCB h10
        generalize rs = ts at *
        generalize w10 = W11 at *
        go_wp2_with fail
        refine (pick_any n11 B nb c g (p + 1 + 1 + 1 + 1) A _ (by omega) (by omega) (by omega) hnb D11.out.rd).mono ?_
        rintro e w12 ⟨v12, rfl, hv12, hb12, hr12⟩
        have D12 := hide (D11.out.trans (Drew.of_but (p := p + 1 + 1 + 1 + 1) hb12 hr12))
        have O12 := hide (O11.out.drew (Drew.of_but (p := p + 1 + 1 + 1 + 1) hb12 hr12) lg)
        clear D11 O11 hb12 hr12
        obtain ⟨gb, rfl, hgb, hgl, hfr, hcs⟩ := O12.out.head (by omega)
        clear hcs hfr
        go_wp2_with fail
        have hcc : n11 ≤ c11 := O12.out.pts.2.1
        have hq6 : ¬ c11 = v12 := by omega
        have hi0 : (0 : Int) ≤ (v12 : Int) := by omega
        have hi1 : (v12 : Int) ≤ (n11 : Int) := by omega
        have hi2 : (n11 : Int) ≤ (c11 : Int) := by omega
        have hi3 : (v12 : Int) ≤ (c11 : Int) := by omega
        have s12 := D12.out.size
        have P12 := O12.out.pts.2.2.2
        have PTK : Hid (∀ W, Below w12.heap.size w12 W → PtsAt W w12.heap.size (some ⟨gb, 0, none⟩) (ts.take v12)) := hide (fun W hW => (P12.pre v12).below hW)
        have PTD : Hid (∀ W, Below w12.heap.size w12 W → PtsAt W w12.heap.size (some ⟨gb, 0 + v12 * 2, none⟩) ((ts.drop v12).take (n11 - v12))) := hide (fun W hW => (P12.cut (a := v12) (m := n11 - v12) (by omega)).below hW)
        rw [List.take_of_length_le (by rw [List.length_drop]; omega), Nat.zero_add] at PTD
        have E1 : Hid (OwnP ((w12.alloc (.cells #[] 41)).drew) w12.heap.size (.slice (some ⟨w12.heap.size, 0, none⟩) 0 0) []) := hide ((OwnP.empty w12 w12.heap.size 0 (Nat.le_refl _) #[] rfl (by simp [maxLen])).below (show Below (w12.alloc (.cells #[] 41)).heap.size (w12.alloc (.cells #[] 41)) (w12.alloc (.cells #[] 41)).drew from (by (repeat' (first | (with_reducible first | exact Below.refl _ _ | assumption | refine below_ext _ ?_ ?_ | refine Below.alloc ?_ ?_ _ | refine Below.drew ?_ | refine below_drewN ?_ _ | refine le_drewN _ ?_ | refine Below.setCell ?_ ?_ _ | exact Nat.le_refl _ | refine le_ext _ ?_ | refine le_alloc _ ?_ | refine le_setCell _ _ ?_ | refine le_drew ?_) | omega | (simp; done) | (simp; omega))))))
        have BD := hide (show Below w12.heap.size w12 ((w12.alloc (.cells #[] 41)).drew) from (by (repeat' (first | (with_reducible first | exact Below.refl _ _ | assumption | refine below_ext _ ?_ ?_ | refine Below.alloc ?_ ?_ _ | refine Below.drew ?_ | refine below_drewN ?_ _ | refine le_drewN _ ?_ | refine Below.setCell ?_ ?_ _ | exact Nat.le_refl _ | refine le_ext _ ?_ | refine le_alloc _ ?_ | refine le_setCell _ _ ?_ | refine le_drew ?_) | omega | (simp; done) | (simp; omega)))))
        have SZ : w12.heap.size ≤ ((w12.alloc (.cells #[] 41)).drew).heap.size := BD.out.size
        have LD : (ts.drop v12).length = n11 - v12 := by rw [List.length_drop]; omega
        have LT : (ts.take v12).length = v12 := by rw [List.length_take]; omega
        have LA : ([] ++ ts.drop v12).length ≤ 2000000 := by rw [List.nil_append, LD]; omega
        have FD : Hid ((some (⟨gb, v12 * 2, none⟩ : Addr) = none → n11 - v12 = 0) ∧ ∀ b o s, some (⟨gb, v12 * 2, none⟩ : Addr) = some ⟨b, o, s⟩ → s = none) := ⟨(fun h => by cases h), (fun b o s h => by injection h with h; injection h with _ _ h; exact h.symm)⟩
        have FT : Hid ((some (⟨gb, 0, none⟩ : Addr) = none → v12 = 0) ∧ ∀ b o s, some (⟨gb, 0, none⟩ : Addr) = some ⟨b, o, s⟩ → s = none) := ⟨(fun h => by cases h), (fun b o s h => by injection h with h; injection h with _ _ h; exact h.symm)⟩
        have K1 : n11 - v12 ≤ 2000000 := by omega
        have K2 : v12 ≤ 2000000 := by omega
        have LD2 := hide LD
        have LT2 := hide LT
        clear LD LT P12 O12
        go_region_held3 (fun W => True) (exact trivial) (first | (refine step_pts (by rfl) (.tmp 99) (.tmp 102) (by rfl) w12.heap.size (.slice (some ⟨w12.heap.size, 0, none⟩) 0 0) [] (by rfl) E1.out (some ⟨gb, v12 * 2, none⟩) (n11 - v12) (c11 - v12) w12.heap.size (ts.drop v12) (by rfl) LD2.out (PTD.out _ BD.out) FD.out (Nat.zero_le _) K1 SZ ?_; intro v7 w7 hown7 hb7 hat7 hgr7; obtain ⟨A7, n7, c7, rfl⟩ := hown7.slice; have O7 := hide hown7; have B7 := hide (BD.out.trans hb7); have SZ7 : w12.heap.size ≤ w7.heap.size := B7.out.size; clear hown7 hat7 hgr7 hb7) | (refine step_pts (by rfl) (.tmp 103) (.tmp 106) (by rfl) w12.heap.size (.slice A7 n7 c7) ([] ++ ts.drop v12) (by rfl) O7.out (some ⟨gb, 0, none⟩) v12 c11 w12.heap.size (ts.take v12) (by rfl) LT2.out (PTK.out _ B7.out) FT.out LA K2 SZ7 ?_; intro v13 w13 hown13 hb13 hat13 hgr13; obtain ⟨A13, n13, c13, rfl⟩ := hown13.slice; have O13 := hide hown13; have B13 := hide (B7.out.trans hb13); clear hown13 hat13 hgr13 hb13))
        all_goals go_wp2_with fail
        all_goals go_ret
        all_goals exact ⟨_, _, _, rfl, O13.out.base s12, by rw [List.nil_append, List.length_append, LD2.out, LT2.out]; omega, by rw [List.nil_append, List.length_append, LD2.out, LT2.out]; omega, by rw [List.nil_append]; exact (CB11.out.drop v12).app (CB11.out.take v12), by omega, D12.out.then B13.out⟩
end Go.Proofs.YtnddfdhfefconaaGreatDoor
set_option linter.unusedVariables false
set_option linter.unusedSimpArgs false
namespace Go.Proofs.YtnddfdhfefconaaGreatDoor
open Go.RowKit
theorem OwnP.two (w : World) (base : Nat) (hb : base ≤ w.heap.size) (p q : Pt) : OwnP (w.alloc (.cells #[.int .i64 p.x, .int .i64 p.y, .int .i64 q.x, .int .i64 q.y] 41)) base (.slice (some ⟨w.heap.size, 0, none⟩) 2 2) [p, q] :=
  ⟨rfl, .inr ⟨w.heap.size, 2, _, rfl, hb, heap_alloc_new w _, Nat.le_refl _, by simp [maxLen], rfl, rfl⟩⟩
end Go.Proofs.YtnddfdhfefconaaGreatDoor
set_option linter.unusedVariables false
set_option linter.unusedSimpArgs false
namespace Go.Proofs.YtnddfdhfefconaaGreatDoor
open Go.RowKit
end Go.Proofs.YtnddfdhfefconaaGreatDoor
