
/- laws.FnSessionHull returns true. -/
import Derived.Test.YtnddfdhfefconaaGreatDoorCmd
import Derived.Test.YtnddfdhfefconaaGreatDoorDrawK
set_option linter.unusedVariables false
set_option linter.unusedSimpArgs false
namespace Go.Proofs.YtnddfdhfefconaaGreatDoor
open Go.RowKit

set_option maxRecDepth 20000 in
set_option maxHeartbeats 4000000 in
theorem lawSesH (n c : Nat) (A : Option Addr) (w : World) (hn : n ≤ c) (hc : c ≤ 9223372036854775807) (hA : BytesAt w w.heap.size A n) (ht : Tab w) (hE : Errs w) (hM : MaxL w) :
    Calls Tryz.prog 3 #[.slice A n c] w fun e w' => e = .returned (.bool true) ∧ Below w.heap.size w w' := by
  by_cases hl : n ≤ 1048576
  · go_enter Tryz.func3, Tryz.ntmps3
    go_wp2_with fail
    refine (drawEncL_any n c A _ hn hc hA).mono ?_
    rintro e w1 ⟨v1, ps, rfl, hown, hlen, B1⟩
    obtain ⟨A1, n1, c1, rfl⟩ := hown.slice
    obtain ⟨l1, _, _, p1⟩ := hown.pts
    have SE := hide (fun (W : World) (hb : Below w1.heap.size w1 W) => sEncL_any ps A1 n1 c1 W l1 (by omega) (p1.to hb))
    have IE := hide (fun (W : World) (hb : Below w1.heap.size w1 W) => iEncL_any ps A1 n1 c1 W l1 (by omega) (p1.to hb) (ht.to (B1.trans (hb.mono B1.size))))
    have IH := hide (fun (W : World) (hb : Below w1.heap.size w1 W) => iHull_any ps A1 n1 c1 W l1 (by omega) hown.form.1 (p1.to hb))
    have hln := encE_len2 ps
    have ES : ((bS (encE ps)).toList == (bS (encE ps)).toList) = true := by rw [bS_ne]; simp
    have NS : ((bS (encE ps)).toList != (bS (encE ps)).toList) = false := by rw [bne, ES]; rfl
    by_cases hv : encE ps = []
    · have e1 : (⟨#[]⟩ : ByteArray).toList.isEmpty = true := by rw [ByteArray.toList_eq]; rfl
      rw [hv, bS_nil] at IE SE
      clear hv ES NS hln IH hE hM hA hown
      go_wp2_with fail
      refine (IE.out _ (Below.refl _ _)).mono ?_
      rintro e w2 ⟨rfl, hx⟩
      have F2 := ext_bel hx
      clear hx
      go_wp2_with fail
      refine (SE.out _ F2).mono ?_
      rintro e w3 ⟨rfl, hx⟩
      have F3 := F2.trans ((ext_bel hx).mono F2.size)
      clear hx
      go_wp2_with fail
      refine (SE.out _ F3).mono ?_
      rintro e w4 ⟨rfl, hx⟩
      have F4 := F3.trans ((ext_bel hx).mono F3.size)
      clear hx
      go_wp2_with fail
      go_ret
      exact ⟨rfl, B1.trans (F4.mono B1.size)⟩
    · have e0 : (bS (encE ps)).toList.isEmpty = false := by
        rw [ByteArray.toList_eq, bS_list]
        cases h : encE ps with
        | nil => exact absurd h hv
        | cons a r => rfl
      have hok : listOk ps = true := (run_two (G := G0) (c := qHull) hv (by decide) (by decide)).2.2.1
      have RH := hide (fun (W : World) (hb : Below w1.heap.size w1 W) => have k := B1.trans (hb.mono B1.size); iTwo_any (ps := ps) (c := qHull) hv (by decide) (by decide) (by decide) (some ⟨W.heap.size, 0, none⟩) (W.alloc (.cells #[.string (bS (qPts ++ encE ps)), .string (bS qHull)] 9)) (strs_two W _ _) (ht.to (k.alloc k.size _)) (hE.to (k.alloc k.size _)) (hM.to (k.alloc k.size _)) (fun h0 k' hk' A' n' c' W' hb' h1 _ _ h4 h5 => by
        have e : k' = 87 := by
          have : cmdFn qHull = some 87 := rfl
          rw [this] at hk'
          injection hk' with hk'
          exact hk'.symm
        subst e
        rw [G0_hull]
        exact q1_any ps A' n' c' W' h1 hok h4 h5 (ht.to ((k.alloc k.size _).trans (hb'.mono (by simp; have := k.size; omega))))))
      have RA := hide (fun (W : World) (hb : Below w1.heap.size w1 W) => have k := B1.trans (hb.mono B1.size); iTwo_any (ps := ps) (c := qArea) hv (by decide) (by decide) (by decide) (some ⟨W.heap.size, 0, none⟩) (W.alloc (.cells #[.string (bS (qPts ++ encE ps)), .string (bS qArea)] 9)) (strs_two W _ _) (ht.to (k.alloc k.size _)) (hE.to (k.alloc k.size _)) (hM.to (k.alloc k.size _)) (fun h0 k' hk' A' n' c' W' hb' h1 _ _ h4 h5 => by
        have e : k' = 88 := by
          have : cmdFn qArea = some 88 := rfl
          rw [this] at hk'
          injection hk' with hk'
          exact hk'.symm
        subst e
        rw [G0_area]
        exact q2_any ps A' n' c' W' h1 hok h4 h5 (ht.to ((k.alloc k.size _).trans (hb'.mono (by simp; have := k.size; omega))))))
      have SA := hide (fun (W : World) => sTwo_any (ps := ps) (c := qArea) hv (by decide) (by decide) (by decide) (some ⟨W.heap.size, 0, none⟩) (W.alloc (.cells #[.string (bS (qPts ++ encE ps)), .string (bS qArea)] 9)) (strs_two W _ _) (G0_area ps) (sq_area ps))
      have EH := hide (fun (A' : Option Addr) (n' c' : Nat) (W : World) (hb : Below w1.heap.size w1 W) (h1 : (hullL ps).length = n') (hm : n' ≤ 2000000) (h2 : PtsAt W W.heap.size A' (hullL ps)) => iEncL_any (hullL ps) A' n' c' W h1 hm h2 (ht.to (B1.trans (hb.mono B1.size))))
      have HL : Hid ((hullL ps).length ≤ 21) := hide (by
        unfold hullL; rw [if_pos hok]
        have := hullOf_len' ps
        have := (listOk_1 hok).1
        omega)
      have E1 : (⟨#[112, 111, 105, 110, 116, 115, 32]⟩ : ByteArray) ++ bS (encE ps) = bS (qPts ++ encE ps) := bS_app qPts (encE ps)
      have K1 : ¬ 9223372036854775807 < 7 + (bS (encE ps)).size := by rw [bS_size]; omega
      have K2 : ¬ 9223372036854775807 < (⟨#[112, 111, 105, 110, 116, 115, 32]⟩ : ByteArray).size + (bS (encE ps)).size := by rw [bS_size]; show ¬ 9223372036854775807 < 7 + _; omega
      have Q1 : Hid ((⟨#[104, 117, 108, 108]⟩ : ByteArray) = bS qHull) := hide rfl
      have Q2 : Hid ((⟨#[97, 114, 101, 97]⟩ : ByteArray) = bS qArea) := hide rfl
      have RES : ((⟨#[111, 107, 10]⟩ : ByteArray) ++ bS (encE (hullL ps))) ++ (⟨#[10]⟩ : ByteArray) = bS (((sOk ++ [10]) ++ G0 qHull ps) ++ [10]) := by
        rw [G0_hull]
        rw [show (⟨#[111, 107, 10]⟩ : ByteArray) = bS (sOk ++ [10]) from rfl, show (⟨#[10]⟩ : ByteArray) = bS [10] from rfl, bS_app, bS_app]
      have hl2 := encE_len2 (hullL ps)
      have K3 : ¬ 9223372036854775807 < 3 + (bS (encE (hullL ps))).size := by rw [bS_size]; omega
      have K4 : ((⟨#[111, 107, 10]⟩ : ByteArray) ++ bS (encE (hullL ps))).size ≤ 883 := by rw [ByteArray.size_append, bS_size]; show 3 + _ ≤ _; omega
      have K5 : ¬ 9223372036854775807 < 3 + (bS (encE (hullL ps))).size + 1 := by rw [bS_size]; omega
      have K6 : ¬ 9223372036854775807 < ((⟨#[111, 107, 10]⟩ : ByteArray) ++ bS (encE (hullL ps))).size + (⟨#[10]⟩ : ByteArray).size := by show ¬ 9223372036854775807 < _ + 1; omega
      have K7 : ¬ 9223372036854775807 < ((⟨#[111, 107, 10]⟩ : ByteArray) ++ bS (encE (hullL ps))).size + 1 := by omega
      have RH2 := bS_ne (((sOk ++ [10]) ++ G0 qHull ps) ++ [10]) (((sOk ++ [10]) ++ G0 qHull ps) ++ [10])
      have RA2 := bS_ne (((sOk ++ [10]) ++ G0 qArea ps) ++ [10]) (((sOk ++ [10]) ++ G0 qArea ps) ++ [10])
      rw [decide_eq_true rfl] at RH2 RA2
      clear hv hln ht hE hM hA hown hok hl2
      generalize bS (((sOk ++ [10]) ++ G0 qHull ps) ++ [10]) = R at *
      generalize bS (((sOk ++ [10]) ++ G0 qArea ps) ++ [10]) = R' at *
      generalize bS (qPts ++ encE ps) = S1 at *
      generalize bS (encE ps) = S at *
      generalize hEH : bS (encE (hullL ps)) = SH at *
      rw [← Q1.out] at RH
      rw [← Q2.out] at RA SA
      go_wp2_with fail
      refine (IE.out _ (Below.refl _ _)).mono ?_
      rintro e w2 ⟨rfl, hx⟩
      have F2 := ext_bel hx
      clear hx
      go_wp2_with fail
      refine (SE.out _ F2).mono ?_
      rintro e w3 ⟨rfl, hx⟩
      have F3 := F2.trans ((ext_bel hx).mono F2.size)
      clear hx
      go_wp2_with fail
      refine (RH.out _ F3).mono ?_
      rintro e w4 ⟨rfl, hb4⟩
      have F4 := F3.trans ((show Below w3.heap.size w3 w4 from Below.trans ((Below.refl _ _).alloc (Nat.le_refl _) _) (hb4.mono (by simp))).mono F3.size)
      clear hb4
      go_wp2_with fail
      refine (IH.out _ F4).mono ?_
      rintro e w5 ⟨A5, n5, c5, rfl, l5, q5, qb5, pr5, pl5, hx⟩
      have F5 := F4.trans ((ext_bel hx).mono F4.size)
      have EHk := hide (EH.out A5 n5 c5 w5 F5 l5 (by have := HL.out; omega) pr5.pts)
      clear hx IH EH pr5 l5
      go_wp2_with fail
      refine EHk.out.mono ?_
      rintro e w6 ⟨rfl, hx⟩
      have F6 := F5.trans ((ext_bel hx).mono F5.size)
      clear hx EHk
      go_wp2_with fail
      refine (SA.out _).mono ?_
      rintro e w7 ⟨rfl, hx⟩
      have F7 := F6.trans ((show Below w6.heap.size w6 w7 from Below.trans ((Below.refl _ _).alloc (Nat.le_refl _) _) ((ext_bel hx).mono (by simp))).mono F6.size)
      clear hx
      go_wp2_with fail
      refine (RA.out _ F7).mono ?_
      rintro e w8 ⟨rfl, hb8⟩
      have F8 := F7.trans ((show Below w7.heap.size w7 w8 from Below.trans ((Below.refl _ _).alloc (Nat.le_refl _) _) (hb8.mono (by simp))).mono F7.size)
      clear hb8
      go_wp2_with fail
      go_ret
      exact ⟨rfl, B1.trans (F8.mono B1.size)⟩
  · have d0 : 1048576 < n := by omega
    go_enter Tryz.func3, Tryz.ntmps3
    go_wp2_with fail
    go_ret
    exact ⟨rfl, (by (repeat' (first | (with_reducible first | exact Below.refl _ _ | assumption | refine below_ext _ ?_ ?_ | refine Below.alloc ?_ ?_ _ | refine Below.drew ?_ | refine below_drewN ?_ _ | refine le_drewN _ ?_ | refine Below.setCell ?_ ?_ _ | exact Nat.le_refl _ | refine le_ext _ ?_ | refine le_alloc _ ?_ | refine le_setCell _ _ ?_ | refine le_drew ?_) | omega | (simp; done) | (simp; omega))))⟩
end Go.Proofs.YtnddfdhfefconaaGreatDoor
