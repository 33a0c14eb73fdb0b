
/- The reference's generator of paths: some points or other. -/
import Derived.Test.YtgeilljbmjajnaaDrawP
import Derived.Deep.CutRange
import Derived.Deep.DeepCutAuto
import Derived.Outline
import Derived.Deep.RegionHeld3
set_option linter.unusedVariables false
set_option linter.unusedSimpArgs false
namespace Go.Proofs.Ytgeilljbmjajnaa
open Go.RowKit

set_option maxHeartbeats 2000000 in
theorem anyPath_any (B nb c g p : Nat) (A : Option Addr) (w : World) (hp : p ≤ 500000) (hnb : nb ≤ 2000) (hr : Rd w B A nb c g p) :
    Calls Try.prog 45 #[.pointer (some ⟨g, 0, none⟩)] w fun e w' => ∃ v ps p', e = .returned v ∧ OwnP w' w.heap.size v ps ∧ ps.length ≤ 20 ∧ p' ≤ p + 1000 ∧ Drew w w' B A nb c g p p' := by
  have lg := hr.lt
  have hBg := hr.le
  go_enter Try.func45, Try.ntmps45
  go_wp2_with fail
  refine (pick_any 9 B nb c g p A _ (by omega) (by omega) (by omega) hnb (hr.to (by (repeat' (first | (with_reducible exact Below.refl _ _) | (with_reducible assumption) | (with_reducible refine below_ext _ ?_ ?_) | (with_reducible refine Below.alloc ?_ ?_ _) | (with_reducible refine Below.drew ?_) | (with_reducible refine below_drewN ?_ _) | (with_reducible refine le_drewN _ ?_) | (with_reducible refine Below.setCell ?_ ?_ _) | (with_reducible exact Nat.le_refl _) | (with_reducible refine le_ext _ ?_) | (with_reducible refine le_alloc _ ?_) | (with_reducible refine le_setCell _ _ ?_) | (with_reducible refine le_drew ?_) | omega | (simp; done) | (simp; omega)))))).mono ?_
  rintro e w1 ⟨v1, rfl, hv1, hb1, hr1⟩
  have D1 : Drew w w1 B A nb c g p (p + 1) := (Drew.first hr (by (repeat' (first | (with_reducible exact Below.refl _ _) | (with_reducible assumption) | (with_reducible refine below_ext _ ?_ ?_) | (with_reducible refine Below.alloc ?_ ?_ _) | (with_reducible refine Below.drew ?_) | (with_reducible refine below_drewN ?_ _) | (with_reducible refine le_drewN _ ?_) | (with_reducible refine Below.setCell ?_ ?_ _) | (with_reducible exact Nat.le_refl _) | (with_reducible refine le_ext _ ?_) | (with_reducible refine le_alloc _ ?_) | (with_reducible refine le_setCell _ _ ?_) | (with_reducible refine le_drew ?_) | omega | (simp; done) | (simp; omega))))).trans (Drew.of_but hb1 hr1)
  have O1 : OwnP w1 w.heap.size (.slice (some ⟨w.heap.size, 0, none⟩) 0 0) [] := (OwnP.empty w w.heap.size 0 (Nat.le_refl _) #[] rfl (by simp [maxLen])).drew (Drew.of_but (p := p) hb1 hr1) lg
  clear hb1 hr1
  go_wp2_with fail
  go_loopw [3, 4] (fun u3 u4 wr => ∃ k ps p', k ≤ 9 ∧ u4 = .int .i64 (k : Nat) ∧ OwnP wr w.heap.size u3 ps ∧ ps.length + k ≤ 9 ∧ p' + 50 * k ≤ p + 600 ∧ Drew w wr B A nb c g p p') (fun _ u4 _ => (intOf u4).toNat)
  case atStart => exact ⟨v1 + 1, [], p + 1, by omega, by go_num, O1, by simp; omega, by omega, D1⟩
  case round =>
    obtain ⟨k, ps, p', hk, rfl, hown, hlen, hp', hD⟩ := hrel
    obtain ⟨A', n', c', rfl⟩ := hown.slice
    obtain ⟨hl1, hl2, hl3, hpts⟩ := hown.pts
    by_cases hlt : 0 < k
    · go_wp2_with fail
      refine (pick_any 3 B nb c g p' A _ (by omega) (by omega) (by omega) hnb hD.rd).mono ?_
      rintro e w2 ⟨v2, rfl, hv2, hb2, hr2⟩
      go_wp2_with fail
      refine (pick_any 7 B nb c g (p' + 1) A _ (by omega) (by omega) (by omega) hnb hr2).mono ?_
      rintro e w3 ⟨v3, rfl, hv3, hb3, hr3⟩
      have D3 : Drew w w3 B A nb c g p (p' + 2) := (hD.trans (Drew.of_but (p := p') hb2 hr2)).trans (Drew.of_but (p := p' + 1) hb3 hr3)
      have O3 : OwnP w3 w.heap.size (.slice A' n' c') ps := (hown.drew (Drew.of_but (p := p') hb2 hr2) lg).drew (Drew.of_but (p := p' + 1) hb3 hr3) lg
      have hfar : ∀ j, (Value.slice A' n' c').ownBlock = some j → j ≠ w3.heap.size := fun j hj => by have := O3.lt2 j hj; omega
      have s3 : w.heap.size ≤ w3.heap.size := D3.size
      have HF := hide hfar
      clear hb2 hr2 hb3 hfar hown hpts hD
      go_upto_region 6 with (fail)
      go_wp2_with fail
      refine (pick_any 8 B nb c g (p' + 2) A _ (by omega) (by omega) (by omega) hnb (hr3.to (by (repeat' (first | (with_reducible exact Below.refl _ _) | (with_reducible assumption) | (with_reducible refine below_ext _ ?_ ?_) | (with_reducible refine Below.alloc ?_ ?_ _) | (with_reducible refine Below.drew ?_) | (with_reducible refine below_drewN ?_ _) | (with_reducible refine le_drewN _ ?_) | (with_reducible refine Below.setCell ?_ ?_ _) | (with_reducible exact Nat.le_refl _) | (with_reducible refine le_ext _ ?_) | (with_reducible refine le_alloc _ ?_) | (with_reducible refine le_setCell _ _ ?_) | (with_reducible refine le_drew ?_) | omega | (simp; done) | (simp; omega)))))).mono ?_
      rintro e w4 ⟨v4, rfl, hv4, hb4, hr4⟩
      have hne : w3.heap.size ≠ g := by omega
      have hbx := (hb4.block w3.heap.size hne).trans (heap_alloc_new w3 _)
      have D4 : Drew w w4 B A nb c g p (p' + 3) := (D3.then (by (repeat' (first | (with_reducible exact Below.refl _ _) | (with_reducible assumption) | (with_reducible refine below_ext _ ?_ ?_) | (with_reducible refine Below.alloc ?_ ?_ _) | (with_reducible refine Below.drew ?_) | (with_reducible refine below_drewN ?_ _) | (with_reducible refine le_drewN _ ?_) | (with_reducible refine Below.setCell ?_ ?_ _) | (with_reducible exact Nat.le_refl _) | (with_reducible refine le_ext _ ?_) | (with_reducible refine le_alloc _ ?_) | (with_reducible refine le_setCell _ _ ?_) | (with_reducible refine le_drew ?_) | omega | (simp; done) | (simp; omega))))).trans (Drew.of_but (p := p' + 2) hb4 hr4)
      have O4 : OwnP w4 w.heap.size (.slice A' n' c') ps := (O3.below (by (repeat' (first | (with_reducible exact Below.refl _ _) | (with_reducible assumption) | (with_reducible refine below_ext _ ?_ ?_) | (with_reducible refine Below.alloc ?_ ?_ _) | (with_reducible refine Below.drew ?_) | (with_reducible refine below_drewN ?_ _) | (with_reducible refine le_drewN _ ?_) | (with_reducible refine Below.setCell ?_ ?_ _) | (with_reducible exact Nat.le_refl _) | (with_reducible refine le_ext _ ?_) | (with_reducible refine le_alloc _ ?_) | (with_reducible refine le_setCell _ _ ?_) | (with_reducible refine le_drew ?_) | omega | (simp; done) | (simp; omega))))).drew (Drew.of_but (p := p' + 2) hb4 hr4) lg
      have s4 : w3.heap.size + 1 ≤ w4.heap.size := by have := hb4.size; simp at this; omega
      clear hr3 hb4 D3 O3
      have HBX := hide hbx
      clear hbx
      go_upto_if 25 with (fail)
      go_cut [] from 26 to 27 (fun wx => ∃ x y q, wx.heap[w3.heap.size]? = some (.cells #[.int .i64 x, .int .i64 y] 29 (0, 0)) ∧ OwnP wx w.heap.size (.slice A' n' c') ps ∧ q ≤ p' + 10 ∧ Drew w wx B A nb c g p q ∧ w3.heap.size + 1 ≤ wx.heap.size)
      case first =>
        by_cases h0 : v4 = 0
        · subst h0
          go_wp2_with fail
          refine (randomPoint_any B nb c g (p' + 3) A _ (by omega) hnb hr4).mono ?_
          rintro e w5 ⟨x, y, rfl, _, _, D5⟩
          have HB5 := hide ((D5.block _ (by omega) hne).trans HBX.out)
          have O5 := O4.drew D5 lg
          have D6 := D4.trans D5
          have c0 := heap_cell HB5.out 0
          have c1 := heap_cell HB5.out 1
          have f0 := heap_frozen HB5.out 0
          have f1 := heap_frozen HB5.out 1
          simp at c0 c1
          go_wp2_with fail
          go_meet
          exact ⟨x, y, p' + 5, box_set2 HB5.out _ _, (O5.far (q := ⟨w3.heap.size, 0, none⟩) HF.out _).far (q := ⟨w3.heap.size, 1, none⟩) HF.out _, by omega, (D6.set lg (by omega) (q := ⟨w3.heap.size, 0, none⟩) s3 _).set lg (by omega) (q := ⟨w3.heap.size, 1, none⟩) s3 _, by simp; have := D5.size; omega⟩
        · have hd : ((v4 : Int) == 0) = false := by rw [beq_eq_false_iff_ne]; omega
          go_wp2_with fail
          go_meet
          exact ⟨_, _, p' + 3, HBX.out, O4, by omega, D4, s4⟩
      case rest =>
        obtain ⟨x, y, q, hbx, hO, hq, hDx, hsx⟩ := hcut
        have H2 := hide hbx
        have HPX := hide hO.pts.2.2.2
        have c0 := heap_cell hbx 0
        have c1 := heap_cell hbx 1
        simp at c0 c1
        clear hbx HBX
        go_upto_region 8 with (fail)
        go_cut [45] from 28 to 45 (fun u45 wx => ∃ (bb : Bool) (q2 : Nat), u45 = .bool bb ∧ wx.heap[w3.heap.size]? = some (.cells #[.int .i64 x, .int .i64 y] 29 (0, 0)) ∧ OwnP wx w.heap.size (.slice A' n' c') ps ∧ q2 ≤ p' + 20 ∧ Drew w wx B A nb c g p q2 ∧ w3.heap.size + 1 ≤ wx.heap.size)
        case first =>
          by_cases hn0 : n' = 0
          · subst hn0
            go_quiet (fail)
            go_wp2_with fail
            go_meet
            exact ⟨true, q, rfl, H2.out, hO.below (by (repeat' (first | (with_reducible exact Below.refl _ _) | (with_reducible assumption) | (with_reducible refine below_ext _ ?_ ?_) | (with_reducible refine Below.alloc ?_ ?_ _) | (with_reducible refine Below.drew ?_) | (with_reducible refine below_drewN ?_ _) | (with_reducible refine le_drewN _ ?_) | (with_reducible refine Below.setCell ?_ ?_ _) | (with_reducible exact Nat.le_refl _) | (with_reducible refine le_ext _ ?_) | (with_reducible refine le_alloc _ ?_) | (with_reducible refine le_setCell _ _ ?_) | (with_reducible refine le_drew ?_) | omega | (simp; done) | (simp; omega)))), by omega, hDx.then (by (repeat' (first | (with_reducible exact Below.refl _ _) | (with_reducible assumption) | (with_reducible refine below_ext _ ?_ ?_) | (with_reducible refine Below.alloc ?_ ?_ _) | (with_reducible refine Below.drew ?_) | (with_reducible refine below_drewN ?_ _) | (with_reducible refine le_drewN _ ?_) | (with_reducible refine Below.setCell ?_ ?_ _) | (with_reducible exact Nat.le_refl _) | (with_reducible refine le_ext _ ?_) | (with_reducible refine le_alloc _ ?_) | (with_reducible refine le_setCell _ _ ?_) | (with_reducible refine le_drew ?_) | omega | (simp; done) | (simp; omega)))), hsx⟩
          · obtain ⟨m, rfl⟩ : ∃ m, n' = m + 1 := ⟨n' - 1, by omega⟩
            obtain ⟨b, o, rfl, hbl, hcs⟩ := HPX.out (by omega)
            obtain ⟨k1, k2⟩ := hcs m (by omega)
            clear hcs
            have hbg : b ≠ g := by
              have := hO.lt b rfl
              omega
            have hd : ((m : Int) + 1 == 0) = false := by rw [beq_eq_false_iff_ne]; omega
            by_cases hx : pX ps m = x
            · by_cases hy : pY ps m = y
              · have HS : ∀ W : World, (∀ j, j ≠ g → W.heap[j]? = wc.heap[j]?) → W.cell? ⟨w3.heap.size, 0, none⟩ = some (.int .i64 x) ∧ W.cell? ⟨w3.heap.size, 1, none⟩ = some (.int .i64 y) ∧ W.cell? ⟨b, o + m * 2, none⟩ = some (.int .i64 (pX ps m)) ∧ W.cell? ⟨b, o + m * 2 + 1, none⟩ = some (.int .i64 (pY ps m)) := fun W hW =>
                  ⟨(World.cell?_of_block (hW _ hne)).trans c0, (World.cell?_of_block (hW _ hne)).trans c1, (World.cell?_of_block (hW _ hbg)).trans k1, (World.cell?_of_block (hW _ hbg)).trans k2⟩
                have HSH := hide HS
                clear HS
                have e1 : IntKind.i64.wrap ((m : Int) + 1 - 1) = m := by rw [Int.add_sub_cancel]; exact IntWalk.i64_in _ (by unfold maxLen at hl3; omega)
                have e2 : IntKind.i64.wrap (m : Int) = m := IntWalk.i64_in _ (by unfold maxLen at hl3; omega)
                have q1 : (0 : Int) ≤ (m : Int) := by omega
                have q2 : (m : Int) < (m : Int) + 1 := by omega
                go_region_held3 (fun W => W.cell? ⟨w3.heap.size, 0, none⟩ = some (.int .i64 x) ∧ W.cell? ⟨w3.heap.size, 1, none⟩ = some (.int .i64 y) ∧ W.cell? ⟨b, o + m * 2, none⟩ = some (.int .i64 (pX ps m)) ∧ W.cell? ⟨b, o + m * 2 + 1, none⟩ = some (.int .i64 (pY ps m))) (first | exact HSH.out _ (fun j _ => rfl) | exact HSH.out _ (fun j hj => hb6.block j hj)) (first | (go_at_call 50; refine (pick_any 10 B nb c g q A _ (by omega) (by omega) (by omega) hnb (hDx.rd.to (by (repeat' (first | (with_reducible exact Below.refl _ _) | (with_reducible assumption) | (with_reducible refine below_ext _ ?_ ?_) | (with_reducible refine Below.alloc ?_ ?_ _) | (with_reducible refine Below.drew ?_) | (with_reducible refine below_drewN ?_ _) | (with_reducible refine le_drewN _ ?_) | (with_reducible refine Below.setCell ?_ ?_ _) | (with_reducible exact Nat.le_refl _) | (with_reducible refine le_ext _ ?_) | (with_reducible refine le_alloc _ ?_) | (with_reducible refine le_setCell _ _ ?_) | (with_reducible refine le_drew ?_) | omega | (simp; done) | (simp; omega)))))).mono ?_; rintro e w6 ⟨v6, rfl, hv6, hb6, hr6⟩))
                go_wp2_with fail
                go_meet
                exact ⟨_, q + 1, rfl, (hb6.block _ hne).trans H2.out, (hO.below (by (repeat' (first | (with_reducible exact Below.refl _ _) | (with_reducible assumption) | (with_reducible refine below_ext _ ?_ ?_) | (with_reducible refine Below.alloc ?_ ?_ _) | (with_reducible refine Below.drew ?_) | (with_reducible refine below_drewN ?_ _) | (with_reducible refine le_drewN _ ?_) | (with_reducible refine Below.setCell ?_ ?_ _) | (with_reducible exact Nat.le_refl _) | (with_reducible refine le_ext _ ?_) | (with_reducible refine le_alloc _ ?_) | (with_reducible refine le_setCell _ _ ?_) | (with_reducible refine le_drew ?_) | omega | (simp; done) | (simp; omega))))).drew (Drew.of_but (p := q) hb6 hr6) lg, by omega, (hDx.then (by (repeat' (first | (with_reducible exact Below.refl _ _) | (with_reducible assumption) | (with_reducible refine below_ext _ ?_ ?_) | (with_reducible refine Below.alloc ?_ ?_ _) | (with_reducible refine Below.drew ?_) | (with_reducible refine below_drewN ?_ _) | (with_reducible refine le_drewN _ ?_) | (with_reducible refine Below.setCell ?_ ?_ _) | (with_reducible exact Nat.le_refl _) | (with_reducible refine le_ext _ ?_) | (with_reducible refine le_alloc _ ?_) | (with_reducible refine le_setCell _ _ ?_) | (with_reducible refine le_drew ?_) | omega | (simp; done) | (simp; omega))))).trans (Drew.of_but (p := q) hb6 hr6), by have := hb6.size; simp at this; omega⟩
              · go_quiet (fail)
                go_wp2_with fail
                go_meet
                exact ⟨true, q, rfl, H2.out, hO.below (by (repeat' (first | (with_reducible exact Below.refl _ _) | (with_reducible assumption) | (with_reducible refine below_ext _ ?_ ?_) | (with_reducible refine Below.alloc ?_ ?_ _) | (with_reducible refine Below.drew ?_) | (with_reducible refine below_drewN ?_ _) | (with_reducible refine le_drewN _ ?_) | (with_reducible refine Below.setCell ?_ ?_ _) | (with_reducible exact Nat.le_refl _) | (with_reducible refine le_ext _ ?_) | (with_reducible refine le_alloc _ ?_) | (with_reducible refine le_setCell _ _ ?_) | (with_reducible refine le_drew ?_) | omega | (simp; done) | (simp; omega)))), by omega, hDx.then (by (repeat' (first | (with_reducible exact Below.refl _ _) | (with_reducible assumption) | (with_reducible refine below_ext _ ?_ ?_) | (with_reducible refine Below.alloc ?_ ?_ _) | (with_reducible refine Below.drew ?_) | (with_reducible refine below_drewN ?_ _) | (with_reducible refine le_drewN _ ?_) | (with_reducible refine Below.setCell ?_ ?_ _) | (with_reducible exact Nat.le_refl _) | (with_reducible refine le_ext _ ?_) | (with_reducible refine le_alloc _ ?_) | (with_reducible refine le_setCell _ _ ?_) | (with_reducible refine le_drew ?_) | omega | (simp; done) | (simp; omega)))), hsx⟩
            · go_quiet (fail)
              go_wp2_with fail
              go_meet
              exact ⟨true, q, rfl, H2.out, hO.below (by (repeat' (first | (with_reducible exact Below.refl _ _) | (with_reducible assumption) | (with_reducible refine below_ext _ ?_ ?_) | (with_reducible refine Below.alloc ?_ ?_ _) | (with_reducible refine Below.drew ?_) | (with_reducible refine below_drewN ?_ _) | (with_reducible refine le_drewN _ ?_) | (with_reducible refine Below.setCell ?_ ?_ _) | (with_reducible exact Nat.le_refl _) | (with_reducible refine le_ext _ ?_) | (with_reducible refine le_alloc _ ?_) | (with_reducible refine le_setCell _ _ ?_) | (with_reducible refine le_drew ?_) | omega | (simp; done) | (simp; omega)))), by omega, hDx.then (by (repeat' (first | (with_reducible exact Below.refl _ _) | (with_reducible assumption) | (with_reducible refine below_ext _ ?_ ?_) | (with_reducible refine Below.alloc ?_ ?_ _) | (with_reducible refine Below.drew ?_) | (with_reducible refine below_drewN ?_ _) | (with_reducible refine le_drewN _ ?_) | (with_reducible refine Below.setCell ?_ ?_ _) | (with_reducible exact Nat.le_refl _) | (with_reducible refine le_ext _ ?_) | (with_reducible refine le_alloc _ ?_) | (with_reducible refine le_setCell _ _ ?_) | (with_reducible refine le_drew ?_) | omega | (simp; done) | (simp; omega)))), hsx⟩
        case rest =>
          obtain ⟨bb, q2, rfl, hbx2, hO2, hq2, hD2, hs2⟩ := hcut
          cases bb
          · have HO2 := hide hO2
            clear hO2 hbx2
            go_wp2_with fail
            exact ⟨⟨k - 1, ps, q2, by omega, by go_num, HO2.out, by omega, by omega, hD2⟩, by simp [intOf]; omega⟩
          · have c0 := heap_cell hbx2 0
            have c1 := heap_cell hbx2 1
            simp at c0 c1
            have HO2 := hide hO2
            clear hO2 hbx2
            have hsW := hD2.size
            go_wp2_with (at_builtin; refine app_pt rfl _ _ rfl w.heap.size (.slice A' n' c') ps rfl (HO2.out.below (by (repeat' (first | (with_reducible exact Below.refl _ _) | (with_reducible assumption) | (with_reducible refine below_ext _ ?_ ?_) | (with_reducible refine Below.alloc ?_ ?_ _) | (with_reducible refine Below.drew ?_) | (with_reducible refine below_drewN ?_ _) | (with_reducible refine le_drewN _ ?_) | (with_reducible refine Below.setCell ?_ ?_ _) | (with_reducible exact Nat.le_refl _) | (with_reducible refine le_ext _ ?_) | (with_reducible refine le_alloc _ ?_) | (with_reducible refine le_setCell _ _ ?_) | (with_reducible refine le_drew ?_) | omega | (simp; done) | (simp; omega))))) x y _ _ rfl (by simp [go_sem]) (by simp [go_sem]) (by omega) (by simp; omega) ?_; intro v' w' hown' hb' hat hgr; obtain ⟨A2, n2, c2, rfl⟩ := hown'.slice; have HO3 := hide hown'; clear hown' hat)
            have hDF := (hD2.then (by (repeat' (first | (with_reducible exact Below.refl _ _) | (with_reducible assumption) | (with_reducible refine below_ext _ ?_ ?_) | (with_reducible refine Below.alloc ?_ ?_ _) | (with_reducible refine Below.drew ?_) | (with_reducible refine below_drewN ?_ _) | (with_reducible refine le_drewN _ ?_) | (with_reducible refine Below.setCell ?_ ?_ _) | (with_reducible exact Nat.le_refl _) | (with_reducible refine le_ext _ ?_) | (with_reducible refine le_alloc _ ?_) | (with_reducible refine le_setCell _ _ ?_) | (with_reducible refine le_drew ?_) | omega | (simp; done) | (simp; omega))))).grown hgr (fun j hj => HO2.out.lt j hj) lg
            clear hgr
            go_wp2_with fail
            exact ⟨⟨k - 1, ps ++ [⟨x, y⟩], q2, by omega, by go_num, HO3.out, by simp; omega, by omega, hDF⟩, by simp [intOf]; omega⟩
    · have hk0 : k = 0 := by omega
      subst hk0
      have HO := hide hown
      have HD := hide hD
      have hrd := hD.rd
      clear hown hD
      by_cases h2 : 2 < n'
      · have hd : decide ((2 : Int) < (n' : Int)) = true := decide_eq_true (by omega)
        obtain ⟨gb, rfl, _, _, _, _⟩ := HO.out.head (by omega)
        go_wp2_with fail
        refine (pick_any 6 B nb c g p' A _ (by omega) (by omega) (by omega) hnb hrd).mono ?_
        rintro e w2 ⟨v2, rfl, hv2, hb2, hr2⟩
        have O2 := hide (HO.out.drew (Drew.of_but (p := p') hb2 hr2) lg)
        have D2 := hide (HD.out.trans (Drew.of_but (p := p') hb2 hr2))
        clear hb2 hr2 hpts hrd
        by_cases h0 : v2 = 0
        · subst h0
          obtain ⟨m, rfl⟩ : ∃ m, n' = m + 1 := ⟨n' - 1, by omega⟩
          obtain ⟨gb', hgb, hgb2, hgb3, hfr, hcs⟩ := O2.out.head (by omega)
          injection hgb with hgb
          injection hgb with hgb
          subst hgb
          obtain ⟨k1, k2⟩ := hcs 0 (by omega)
          obtain ⟨k3, k4⟩ := hcs m (by omega)
          have f3 := hfr (m * 2)
          have f4 := hfr (m * 2 + 1)
          have SW := D2.out.size
          have OF := hide (O2.out.set (i := m) (by omega) (pX ps 0) (pY ps 0))
          have DF := hide ((D2.out.set lg (by omega) (q := ⟨gb, m * 2, none⟩) hgb2 (.int .i64 (pX ps 0))).set lg (by omega) (q := ⟨gb, m * 2 + 1, none⟩) hgb2 (.int .i64 (pY ps 0)))
          clear hfr hcs
          simp at k1 k2
          go_wp2
          go_ret
          exact ⟨_, _, p' + 1, rfl, OF.out, by rw [List.length_set]; omega, by omega, DF.out⟩
        · have hd2 : ((v2 : Int) == 0) = false := by rw [beq_eq_false_iff_ne]; omega
          go_wp2
          go_ret
          exact ⟨_, ps, p' + 1, rfl, O2.out, by omega, by omega, D2.out⟩
      · have hd : decide ((2 : Int) < (n' : Int)) = false := decide_eq_false (by omega)
        go_wp2
        go_ret
        exact ⟨_, ps, p', rfl, HO.out, by omega, by omega, HD.out⟩
end Go.Proofs.Ytgeilljbmjajnaa
