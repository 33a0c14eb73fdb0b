
/- FnCheckSimplified: the law's walk. -/
import Derived.Test.YtgeilljbmjajnaaDrawC
import Derived.Test.YtgeilljbmjajnaaSegp
set_option linter.unusedVariables false
set_option linter.unusedSimpArgs false
namespace Go.Proofs.Ytgeilljbmjajnaa
open Go.RowKit

set_option maxHeartbeats 4000000 in
theorem lawCS (n c m d : Nat) (A A' : Option Addr) (w : World) (hn : n ≤ c) (hc : c ≤ 9223372036854775807) (hA : BytesAt w w.heap.size A n) (hm : m ≤ 9223372036854775807) :
    Calls Try.prog 6 #[.slice A n c, .slice A' m d] w fun e w' => e = .returned (.bool true) ∧ Below w.heap.size w w' := by
  by_cases hle : n ≤ 1048576
  · have hd : decide ((1048576 : Int) < (n : Int)) = false := decide_eq_false (by omega)
    by_cases hle2 : m ≤ 1048576
    · have hd2 : decide ((1048576 : Int) < (m : Int)) = false := decide_eq_false (by omega)
      go_enter Try.func6, Try.ntmps6
      go_wp2_with fail
      refine (drawCheck_any n c A _ hn hc hA).mono ?_
      rintro e w1 ⟨v, ps, most, v2, zs, rfl, hown, hlen, hmo, hkept, hzl, B1⟩
      obtain ⟨A1, n1, c1, rfl⟩ := hown.slice
      obtain ⟨l1, l2, l3, hp1⟩ := hown.pts
      obtain ⟨A2, n2, c2, rfl⟩ := own_slice hkept
      obtain ⟨z1, z2, z3, hi1⟩ := hkept.ints
      have l3' : c1 ≤ 9223372036854775807 := by unfold maxLen at l3; exact l3
      clear hown hkept
      cases hck : checkOk ps most zs
      · have HCK := hide hck
        clear hck
        go_wp2_with fail
        refine (iCheck_any ps most zs A1 A2 n1 c1 n2 c2 _ l1 z1 (by omega) (by omega) hp1 hi1 l2 l3').mono ?_
        rw [HCK.out]
        rintro e w2 ⟨rfl, hx2⟩
        have D2 := ext_bel hx2
        have B2 := B1.trans (D2.mono B1.size)
        clear hx2
        go_wp2_with fail
        refine (sCheck_any ps most zs A1 A2 n1 c1 n2 c2 _ l1 z1 (by omega) (by omega) (hp1.to D2) (hi1.to D2)).mono ?_
        rw [HCK.out]
        rintro e w3 ⟨rfl, hx3⟩
        have D3 := ext_bel hx3
        have B3 := B2.trans (D3.mono B2.size)
        clear hx3
        go_wp2_with fail
        refine (sCheck_any ps most zs A1 A2 n1 c1 n2 c2 _ l1 z1 (by omega) (by omega) ((hp1.to D2).to D3) ((hi1.to D2).to D3)).mono ?_
        rw [HCK.out]
        rintro e w4 ⟨rfl, hx4⟩
        have B4 := B3.trans ((ext_bel hx4).mono B3.size)
        clear hx4
        go_wp2_with fail
        go_ret
        exact ⟨rfl, B4⟩
      · have HCK := hide hck
        have HM : Hid (∀ M : Int, most ≤ M → M ≤ 8000000 → checkOk ps M zs = true) := hide (fun M h1 h2 => check_mono hck h1 h2)
        have H0 := hide (check_all (check_parts hck).1)
        rw [l1] at H0
        have hmo2 := inB_iff.1 (check_parts hck).2.1
        clear hck
        go_wp2_with fail
        refine (iCheck_any ps most zs A1 A2 n1 c1 n2 c2 _ l1 z1 (by omega) (by omega) hp1 hi1 l2 l3').mono ?_
        rw [HCK.out]
        rintro e w2 ⟨rfl, hx2⟩
        have D2 := ext_bel hx2
        have B2 := B1.trans (D2.mono B1.size)
        clear hx2
        go_wp2_with fail
        refine (sCheck_any ps most zs A1 A2 n1 c1 n2 c2 _ l1 z1 (by omega) (by omega) (hp1.to D2) (hi1.to D2)).mono ?_
        rw [HCK.out]
        rintro e w3 ⟨rfl, hx3⟩
        have D3 := ext_bel hx3
        have B3 := B2.trans (D3.mono B2.size)
        have hp3 := hide ((hp1.to D2).to D3)
        have hi3 := hide ((hi1.to D2).to D3)
        clear hx3 hp1 hi1
        go_wp2_with fail
        go_loopw [9, 10] (fun u9 u10 wr => ∃ k : Nat, k ≤ n1 ∧ u10 = .int .i64 k ∧ Own wr w3.heap.size u9 (allIdx k) ∧ Below w3.heap.size w3 wr) (fun _ u10 _ => n1 - (intOf u10).toNat)
        case atStart => exact ⟨0, Nat.zero_le _, rfl, Own.empty w3 _ (Nat.le_refl _), (by (repeat' (first | (with_reducible exact Below.refl _ _) | (with_reducible assumption) | (with_reducible refine below_ext _ ?_ ?_) | (with_reducible refine Below.alloc ?_ ?_ _) | (with_reducible refine Below.drew ?_) | (with_reducible refine below_drewN ?_ _) | (with_reducible refine le_drewN _ ?_) | (with_reducible refine Below.setCell ?_ ?_ _) | (with_reducible exact Nat.le_refl _) | (with_reducible refine le_ext _ ?_) | (with_reducible refine le_alloc _ ?_) | (with_reducible refine le_setCell _ _ ?_) | (with_reducible refine le_drew ?_) | omega | (simp; done) | (simp; omega))))⟩
        case round =>
          obtain ⟨k, hk, rfl, hall, hbl⟩ := hrel
          obtain ⟨Ak, nk, ck, rfl⟩ := own_slice hall
          have hszl := hbl.size
          have HALL := hide hall
          clear hall
          by_cases hlt : k < n1
          · have hal : (allIdx k).length ≤ 2000000 := by rw [allIdx_len]; omega
            go_wp2_with (at_builtin; refine app_one rfl _ _ rfl w3.heap.size (.slice Ak nk ck) (allIdx k) rfl (HALL.out.below (by (repeat' (first | (with_reducible exact Below.refl _ _) | (with_reducible assumption) | (with_reducible refine below_ext _ ?_ ?_) | (with_reducible refine Below.alloc ?_ ?_ _) | (with_reducible refine Below.drew ?_) | (with_reducible refine below_drewN ?_ _) | (with_reducible refine le_drewN _ ?_) | (with_reducible refine Below.setCell ?_ ?_ _) | (with_reducible exact Nat.le_refl _) | (with_reducible refine le_ext _ ?_) | (with_reducible refine le_alloc _ ?_) | (with_reducible refine le_setCell _ _ ?_) | (with_reducible refine le_drew ?_) | omega | (simp; done) | (simp; omega))))) (k : Int) _ _ rfl (by simp [go_sem]) hal (by simp; omega) ?_; intro v' w' hown' hb' hat hgr; obtain ⟨A', n', c', rfl⟩ := own_slice hown'; have OWN' := hide hown'; clear hown' hat hgr)
            exact ⟨⟨k + 1, by omega, by go_num, by rw [allIdx_succ]; exact OWN'.out, (hbl.alloc hszl _).trans hb'⟩, by simp [intOf]; omega⟩
          · have ek : k = n1 := by omega
            subst ek
            obtain ⟨y1, y2, y3, hy⟩ := HALL.out.ints
            have HY := hide hy
            have Y1 := hide y1
            have hnk : nk ≤ 2000000 := by rw [allIdx_len] at y1; omega
            clear hy y1
            go_wp2_with fail
            refine (iCheck_any ps 0 (allIdx k) A1 Ak k c1 nk ck _ l1 Y1.out (by omega) hnk (hp3.out.to hbl) HY.out l2 l3').mono ?_
            rw [H0.out]
            rintro e w5 ⟨rfl, hx5⟩
            have D5 := ext_bel hx5
            have B5 : Below w3.heap.size w3 w5 := hbl.trans (D5.mono hszl)
            clear hx5
            have ht : Int.tmod (m : Int) 1000 = (m : Int) % 1000 := Int.tmod_eq_emod_of_nonneg (by omega)
            go_wp2_with fail
            refine (iCheck_any ps _ zs A1 A2 k c1 n2 c2 _ l1 z1 (by omega) (by omega) (hp3.out.to B5) (hi3.out.to B5) l2 l3').mono ?_
            rw [HM.out _ (by omega) (by omega)]
            rintro e w6 ⟨rfl, hx6⟩
            have B6 := B3.trans ((B5.trans ((ext_bel hx6).mono B5.size)).mono B3.size)
            clear hx6
            go_wp2_with fail
            go_ret
            exact ⟨rfl, B6⟩
    · have hd2 : decide ((1048576 : Int) < (m : Int)) = true := decide_eq_true (by omega)
      go_enter Try.func6, Try.ntmps6
      go_wp2
      go_ret
      exact ⟨rfl, (by (repeat' (first | (with_reducible exact Below.refl _ _) | (with_reducible assumption) | (with_reducible refine below_ext _ ?_ ?_) | (with_reducible refine Below.alloc ?_ ?_ _) | (with_reducible refine Below.drew ?_) | (with_reducible refine below_drewN ?_ _) | (with_reducible refine le_drewN _ ?_) | (with_reducible refine Below.setCell ?_ ?_ _) | (with_reducible exact Nat.le_refl _) | (with_reducible refine le_ext _ ?_) | (with_reducible refine le_alloc _ ?_) | (with_reducible refine le_setCell _ _ ?_) | (with_reducible refine le_drew ?_) | omega | (simp; done) | (simp; omega))))⟩
  · have hd : decide ((1048576 : Int) < (n : Int)) = true := decide_eq_true (by omega)
    go_enter Try.func6, Try.ntmps6
    go_wp2
    go_ret
    exact ⟨rfl, (by (repeat' (first | (with_reducible exact Below.refl _ _) | (with_reducible assumption) | (with_reducible refine below_ext _ ?_ ?_) | (with_reducible refine Below.alloc ?_ ?_ _) | (with_reducible refine Below.drew ?_) | (with_reducible refine below_drewN ?_ _) | (with_reducible refine le_drewN _ ?_) | (with_reducible refine Below.setCell ?_ ?_ _) | (with_reducible exact Nat.le_refl _) | (with_reducible refine le_ext _ ?_) | (with_reducible refine le_alloc _ ?_) | (with_reducible refine le_setCell _ _ ?_) | (with_reducible refine le_drew ?_) | omega | (simp; done) | (simp; omega))))⟩
end Go.Proofs.Ytgeilljbmjajnaa
