
/- The reference's ring of a polygon's vertices, places in it, and the angle of a vertex. -/
import Derived.Test.YtkkmioffclpmfaaGreatPoly
import Derived.Test.YtkkmioffclpmfaaGreatApp
import Derived.Test.YtkkmioffclpmfaaGreatCanM
import Derived.Test.YtkkmioffclpmfaaGreatEarM
set_option linter.unusedVariables false
set_option linter.unusedSimpArgs false
namespace Go.Proofs.YtkkmioffclpmfaaGreat
open Go.RowKit

set_option maxHeartbeats 1000000 in
theorem ringOf_any (ps : List Pt) (A : Option Addr) (n c : Nat) (w : World) (hn : ps.length = n) (hm : n ≤ 1000) (hb : ∀ p ∈ ps, (-1000 ≤ p.x ∧ p.x ≤ 1000) ∧ -1000 ≤ p.y ∧ p.y ≤ 1000) (hs : PtsAt w w.heap.size A ps) :
    Calls Tryz.prog 45 #[.slice A n c] w fun e w' => ∃ v, e = .returned v ∧ Own w' w.heap.size v (rgL ps) ∧ ∃ x, w' = ext w x := by
  have SA := hide (fun (W : World) (hbl : Below w.heap.size w W) => sarea_any ps A n c W hn hm hb (hs.to hbl))
  have RS := hide (rgTo_succ ps)
  have RL := hide (rgTo_len ps)
  have RN : Hid (rgTo ps n = rgL ps) := hide (by unfold rgL; rw [hn])
  have RI : Hid (∀ k, rgI ps k = if areaL ps < 0 then (n - k) % n else k) := hide (fun k => by unfold rgI; rw [hn])
  have AB := areaTo_bd3 hb n (by omega)
  have AE : areaTo ps n = areaL ps := by unfold areaL; rw [hn]
  rw [AE] at AB
  have abl : -2000000000 ≤ areaL ps ∧ areaL ps ≤ 2000000000 := by omega
  clear hn hb hs AB AE
  go_enter Tryz.func45, Tryz.ntmps45
  go_wp2_with fail
  go_loopw [3, 4] (fun u3 u4 wr => ∃ k : Nat, k ≤ n ∧ u4 = .int .i64 k ∧ Own wr w.heap.size u3 (rgTo ps k) ∧ Below w.heap.size w wr) (fun _ u4 _ => n - (intOf u4).toNat)
  case atStart => exact ⟨0, Nat.zero_le _, rfl, Own.empty w _ (Nat.le_refl _), (by (repeat' (first | (with_reducible first | exact Below.refl _ _ | assumption | refine below_ext _ ?_ ?_ | refine Below.alloc ?_ ?_ _ | refine Below.drew ?_ | refine below_drewN ?_ _ | refine le_drewN _ ?_ | refine Below.setCell ?_ ?_ _ | exact Nat.le_refl _ | refine le_ext _ ?_ | refine le_alloc _ ?_ | refine le_setCell _ _ ?_ | refine le_drew ?_) | omega | (simp; done) | (simp; omega))))⟩
  case round =>
    obtain ⟨k, hk, rfl, hown, hbel⟩ := hrel
    obtain ⟨Ak, nk, ck, rfl⟩ := own_slice hown
    have hsz := hbel.size
    have OWN := hide hown
    clear hown
    have hal : (rgTo ps k).length ≤ 2000000 := by rw [RL.out]; omega
    by_cases hlt : k < n
    · go_wp2_with fail
      refine (SA.out _ (by (repeat' (first | (with_reducible first | exact Below.refl _ _ | assumption | refine below_ext _ ?_ ?_ | refine Below.alloc ?_ ?_ _ | refine Below.drew ?_ | refine below_drewN ?_ _ | refine le_drewN _ ?_ | refine Below.setCell ?_ ?_ _ | exact Nat.le_refl _ | refine le_ext _ ?_ | refine le_alloc _ ?_ | refine le_setCell _ _ ?_ | refine le_drew ?_) | omega | (simp; done) | (simp; omega))))).mono ?_
      rintro e w' ⟨rfl, hw'⟩; have hzy1 := ext_sz hw'; obtain ⟨y1, rfl⟩ := hw'; (try simp at hzy1)
      have RIk := RI.out k
      by_cases hneg : areaL ps < 0
      · have d1 : decide (areaL ps < 0) = true := decide_eq_true hneg
        rw [if_pos hneg] at RIk
        have RK := hide RIk
        obtain ⟨j, hj⟩ : ∃ j, j = (n - k) % n := ⟨_, rfl⟩
        have hjl : j < n := by rw [hj]; exact Nat.mod_lt _ (by omega)
        have e2 : Int.tmod ((n : Int) - (k : Int)) (n : Int) = (j : Int) := by
          rw [hj, show ((n : Int) - (k : Int)) = ((n - k : Nat) : Int) by omega]
          exact (Int.ofNat_tmod (n - k) n).symm
        rw [← hj] at RK
        clear hneg RIk hj
        have w1 : IntKind.i64.wrap ((n : Int) - (k : Int)) = (n : Int) - (k : Int) := IntWalk.i64_in _ (by omega)
        have w3 : IntKind.i64.wrap (j : Int) = (j : Int) := IntWalk.i64_in _ (by omega)
        have q5 : ¬ n = 0 := by omega
        go_wp2_with (at_builtin; refine app_one rfl _ _ rfl w.heap.size (.slice Ak nk ck) (rgTo ps k) rfl (OWN.out.below (by (repeat' (first | (with_reducible first | exact Below.refl _ _ | assumption | refine below_ext _ ?_ ?_ | refine Below.alloc ?_ ?_ _ | refine Below.drew ?_ | refine below_drewN ?_ _ | refine le_drewN _ ?_ | refine Below.setCell ?_ ?_ _ | exact Nat.le_refl _ | refine le_ext _ ?_ | refine le_alloc _ ?_ | refine le_setCell _ _ ?_ | refine le_drew ?_) | omega | (simp; done) | (simp; omega))))) (j : Int) _ _ rfl (by simp [go_sem]) hal (by simp; omega) ?_; intro v' w' hown' hb' hat hgr; obtain ⟨A', n', c', rfl⟩ := own_slice hown'; have OWN' := hide hown'; clear hown' hat hgr)
        exact ⟨⟨k + 1, by omega, by go_num, by rw [RS.out, RK.out]; exact OWN'.out, Below.trans (Below.trans hbel (by (repeat' (first | (with_reducible first | exact Below.refl _ _ | assumption | refine below_ext _ ?_ ?_ | refine Below.alloc ?_ ?_ _ | refine Below.drew ?_ | refine below_drewN ?_ _ | refine le_drewN _ ?_ | refine Below.setCell ?_ ?_ _ | exact Nat.le_refl _ | refine le_ext _ ?_ | refine le_alloc _ ?_ | refine le_setCell _ _ ?_ | refine le_drew ?_) | omega | (simp; done) | (simp; omega))))) hb'⟩, by simp [intOf]; omega⟩
      · have d1 : decide (areaL ps < 0) = false := decide_eq_false hneg
        rw [if_neg hneg] at RIk
        have RK := hide RIk
        clear hneg RIk
        go_wp2_with (at_builtin; refine app_one rfl _ _ rfl w.heap.size (.slice Ak nk ck) (rgTo ps k) rfl (OWN.out.below (by (repeat' (first | (with_reducible first | exact Below.refl _ _ | assumption | refine below_ext _ ?_ ?_ | refine Below.alloc ?_ ?_ _ | refine Below.drew ?_ | refine below_drewN ?_ _ | refine le_drewN _ ?_ | refine Below.setCell ?_ ?_ _ | exact Nat.le_refl _ | refine le_ext _ ?_ | refine le_alloc _ ?_ | refine le_setCell _ _ ?_ | refine le_drew ?_) | omega | (simp; done) | (simp; omega))))) (k : Int) _ _ rfl (by simp [go_sem]) hal (by simp; omega) ?_; intro v' w' hown' hb' hat hgr; obtain ⟨A', n', c', rfl⟩ := own_slice hown'; have OWN' := hide hown'; clear hown' hat hgr)
        exact ⟨⟨k + 1, by omega, by go_num, by rw [RS.out, RK.out]; exact OWN'.out, Below.trans (Below.trans hbel (by (repeat' (first | (with_reducible first | exact Below.refl _ _ | assumption | refine below_ext _ ?_ ?_ | refine Below.alloc ?_ ?_ _ | refine Below.drew ?_ | refine below_drewN ?_ _ | refine le_drewN _ ?_ | refine Below.setCell ?_ ?_ _ | exact Nat.le_refl _ | refine le_ext _ ?_ | refine le_alloc _ ?_ | refine le_setCell _ _ ?_ | refine le_drew ?_) | omega | (simp; done) | (simp; omega))))) hb'⟩, by simp [intOf]; omega⟩
    · have ek : k = n := by omega
      subst ek
      go_wp2
      go_ret
      exact ⟨_, rfl, by rw [← RN.out]; exact OWN.out, ext_mk hbel⟩
end Go.Proofs.YtkkmioffclpmfaaGreat
