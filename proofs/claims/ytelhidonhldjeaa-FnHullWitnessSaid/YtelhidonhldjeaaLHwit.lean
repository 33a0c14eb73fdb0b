
/- FnHullWitness: the law's walk. -/
import Derived.Test.YtelhidonhldjeaaChkW
import Derived.Test.YtelhidonhldjeaaHwis
import Derived.Test.YtelhidonhldjeaaAreaI
import Derived.Test.YtelhidonhldjeaaDrawK
set_option linter.unusedVariables false
set_option linter.unusedSimpArgs false
namespace Go.Proofs.Ytelhidonhldjeaa
open Go.RowKit

set_option maxHeartbeats 1000000 in
theorem drawHwit_any (n c : Nat) (A : Option Addr) (w : World) (hn : n ≤ c) (hc : c ≤ 9223372036854775807) (hA : BytesAt w w.heap.size A n) :
    Calls Try.prog 29 #[.slice A n c] w fun e w' => ∃ v ps, e = .returned v ∧ OwnP w' w.heap.size v ps ∧ ps.length ≤ 21 ∧ Below w.heap.size w w' := by
  go_enter Try.func29, Try.ntmps29
  go_wp2_with fail
  refine (newReader_any n c A _ hn hc hA).mono ?_
  rintro e w1 ⟨g, nb, rfl, hg, hnb, hr, hx⟩
  have B1 := hide (ext_bel hx)
  have s1 := B1.out.size
  have lg := hr.lt
  clear hx
  go_wp2_with fail
  refine (anyPoints_any 8 _ nb _ g 0 A _ (by omega) (by omega) hnb hr).mono ?_
  rintro e w2 ⟨v, ps, p', rfl, hown, hlen, hcb, hp', hD⟩
  obtain ⟨A2, n2, c2, rfl⟩ := hown.slice
  have OF := hide (hown.base s1)
  have BF := hide (B1.out.trans (hD.below hg s1))
  clear hown hD hr
  go_wp2_with fail
  go_ret
  exact ⟨_, ps, rfl, OF.out, hlen, BF.out⟩
theorem WtsL.small {hs ps : List Pt} {k : Nat} {zss : List (List Int)} (h : WtsL hs ps k zss) (j : Nat) : (gz zss j).length ≤ 1000 := by
  by_cases hj : j < k
  · exact Nat.le_trans (isWL_len (h.2 j hj)) (by omega)
  · have : gz zss j = [] := by unfold gz; rw [List.getD_eq_getElem?_getD, List.getElem?_eq_none (by rw [h.1]; omega)]; rfl
    rw [this]; simp
set_option maxRecDepth 20000 in
set_option maxHeartbeats 2000000 in
theorem lawHwit (n c : Nat) (A : Option Addr) (w : World) (hn : n ≤ c) (hc : c ≤ 9223372036854775807) (hA : BytesAt w w.heap.size A n) :
    Calls Try.prog 7 #[.slice A n c] w fun e w' => e = .returned (.bool true) ∧ Below w.heap.size w w' := by
  by_cases hle : n ≤ 1048576
  · have hd : decide ((1048576 : Int) < (n : Int)) = false := decide_eq_false (by omega)
    go_enter Try.func7, Try.ntmps7
    go_wp2_with fail
    refine (drawHwit_any n c A _ hn hc hA).mono ?_
    rintro e w1 ⟨v1, ps, rfl, o1, lp, B1⟩
    obtain ⟨A1, n1, c1, rfl⟩ := o1.slice
    have h1 := hide o1.pts.1
    have P1 := hide o1.pts.2.2.2
    have F1 := hide o1.form.1
    have k1 : n1 ≤ 21 := by have := h1.out; omega
    have IC := hide (fun (W : World) (hb : Below w1.heap.size w1 W) => iHwit_any ps A1 n1 c1 W h1.out (by omega) F1.out (P1.out.to hb))
    have SC := hide (fun (W : World) (hb : Below w1.heap.size w1 W) => sHwit_any ps A1 n1 c1 W h1.out (by omega) (P1.out.to hb))
    have HU := hide (fun (W : World) (hb : Below w1.heap.size w1 W) => iHull_any ps A1 n1 c1 W h1.out (by omega) F1.out (P1.out.to hb))
    have s1 := B1.size
    clear o1 hA
    go_wp2_with fail
    refine (IC.out _ (by (repeat' (first | (with_reducible exact Below.refl _ _) | (with_reducible assumption) | (with_reducible refine below_ext _ ?_ ?_) | (with_reducible refine Below.alloc ?_ ?_ _) | (with_reducible refine Below.drew ?_) | (with_reducible refine below_drewN ?_ _) | (with_reducible refine le_drewN _ ?_) | (with_reducible refine Below.setCell ?_ ?_ _) | (with_reducible exact Nat.le_refl _) | (with_reducible refine le_ext _ ?_) | (with_reducible refine le_alloc _ ?_) | (with_reducible refine le_setCell _ _ ?_) | (with_reducible refine le_drew ?_) | omega | (simp; done) | (simp; omega))))).mono ?_
    rintro e w2 ⟨A2, n2, c2, zss, rfl, rz, hz, hx2⟩
    have E2 := hide (ext_bel hx2)
    have R2 := hide rz
    clear hx2 rz IC
    go_wp2_with fail
    refine (SC.out _ E2.out).mono ?_
    rintro e w3 ⟨A3, n3, c3, yss, rfl, ry, hy, hx3⟩
    have E3 := hide (ext_bel hx3)
    have R3 := hide ry
    have D3 := hide (E2.out.trans (E3.out.mono E2.out.size))
    have R2b := hide (R2.out.below E3.out)
    clear hx3 ry
    have eqz : zss = yss := by
      by_cases hok : listOk ps = true
      · simp only [if_pos hok] at hz hy
        exact hz.only hy
      · simp only [if_neg hok] at hz hy
        rw [hz, hy]
    subst eqz
    have SM : ∀ j, (gz zss j).length ≤ 1000 := by
      by_cases hok : listOk ps = true
      · simp only [if_pos hok] at hz
        exact hz.small
      · simp only [if_neg hok] at hz
        intro j; rw [hz]; simp [gz]
    have l2 : n2 ≤ 21 := by
      by_cases hok : listOk ps = true
      · simp only [if_pos hok] at hz
        have := hz.1; have := R2.out.1; omega
      · simp only [if_neg hok] at hz
        have := R2.out.1; rw [hz] at this; simp at this; omega
    have l3 : n3 ≤ 21 := by have := R2.out.1; have := R3.out.1; omega
    have EQ : Hid (∀ W (X : Option Addr) (a b : Nat), a ≤ 21 → RowsAt W A2 n2 zss → RowsAt W X a zss → Calls Try.prog 31 #[.slice A2 n2 c2, .slice X a b] W fun e w' => e = .returned (.bool true) ∧ ∃ m, w' = ext W m) := hide (fun W X a b ha r1 r2 =>
      (equalProofs_any zss zss A2 X n2 c2 a b W (by omega) (by omega) r1 r2 (fun j => ⟨SM j, SM j⟩)).mono (fun e w' hh => ⟨by rw [hh.1]; simp, hh.2⟩))
    have HZ := hide hz
    have HY := hide hy
    clear hz hy
    go_wp2_with fail
    refine (EQ.out _ _ _ _ l3 R2b.out R3.out).mono ?_
    rintro e w4 ⟨rfl, hx4⟩
    have E4 := hide (ext_bel hx4)
    have D4 := hide (D3.out.trans (E4.out.mono D3.out.size))
    have R2c := hide (R2b.out.below E4.out)
    clear hx4 R3 R2b
    by_cases h0 : n2 = 0
    · have d0 : ((n2 : Int) == 0) = true := by rw [h0]; rfl
      clear h0
      go_wp2_with fail
      refine (SC.out _ D4.out).mono ?_
      rintro e w5 ⟨A5, n5, c5, xss, rfl, rx, hx, hx5⟩
      have exz : xss = zss := by
        have hz := HZ.out
        by_cases hok : listOk ps = true
        · simp only [if_pos hok] at hz hx
          exact hx.only hz
        · simp only [if_neg hok] at hz hx
          rw [hz, hx]
      subst exz
      have E5 := hide (ext_bel hx5)
      have D5 := hide (D4.out.trans (E5.out.mono D4.out.size))
      have R5 := hide rx
      have R2d := hide (R2c.out.below E5.out)
      have l5 : n5 ≤ 21 := by have := R2.out.1; have := R5.out.1; omega
      clear hx5 rx hx
      go_wp2_with fail
      refine (EQ.out _ _ _ _ l5 R2d.out R5.out).mono ?_
      rintro e w6 ⟨rfl, hx6⟩
      have D6 := hide (D5.out.trans ((ext_bel hx6).mono D5.out.size))
      clear hx6
      go_wp2_with fail
      go_ret
      exact ⟨rfl, B1.trans (D6.out.mono s1)⟩
    · have hok : listOk ps = true := by
        by_cases hok : listOk ps = true
        · exact hok
        · have hz := HZ.out
          simp only [if_neg hok] at hz
          have := R2.out.1; rw [hz] at this; simp at this; omega
      have hz := HZ.out
      simp only [if_pos hok] at hz
      have e21 : n2 = n1 := by have := hz.1; have := R2.out.1; omega
      have hne : ps ≠ [] := fun e => by have := h1.out; rw [e] at this; simp at this; omega
      have HL : hullL ps = hullOf ps := if_pos hok
      have SHP := hull_shaped hok hne
      have HOK := hull_ok hok
      have WT : Hid (∀ i, i < n1 → Wit3 (hullOf ps) (gp ps i) (gz zss i)) := hide (fun i hi => wl_found (gp_mem (by rw [h1.out]; exact hi)) (hz.2 i hi))
      have d0 : ((n2 : Int) == 0) = false := by rw [beq_eq_false_iff_ne]; omega
      have d7 : ((n2 : Int) == (n1 : Int)) = true := by rw [e21]; simp
      rw [HL] at HU
      have ZR := hide (show n2 = n1 from e21)
      have np : 0 < n1 := by omega
      have HOKh := hide hok
      clear h0 hz HZ HY e21 hok
      go_wp2_with fail
      refine (HU.out _ D4.out).mono ?_
      rintro e w5 ⟨A5, n5, c5, rfl, l5, q5, qb5, pr5, pl5, hx5⟩
      have E5 := hide (ext_bel hx5)
      have D5 := hide (D4.out.trans (E5.out.mono D4.out.size))
      have P5 := hide pr5.pts
      have L5 := hide l5
      have R2d := hide (R2c.out.below E5.out)
      clear hx5 pr5 l5
      go_wp2_with fail
      refine (iChk_any ps (hullOf ps) zss A1 A5 A2 n1 c1 n5 c5 n2 c2 _ h1.out L5.out F1.out pl5 HOKh.out HOK np SHP (fun q hq => hullOf_sub hq) ZR.out (P1.out.to D5.out) P5.out R2d.out WT.out).mono ?_
      rintro e w6 ⟨rfl, hx6⟩
      have D6 := hide (D5.out.trans ((ext_bel hx6).mono D5.out.size))
      clear hx6
      go_wp2_with fail
      go_ret
      exact ⟨rfl, B1.trans (D6.out.mono s1)⟩
  · skip
    have hd : decide ((1048576 : Int) < (n : Int)) = true := decide_eq_true (by omega)
    go_enter Try.func7, Try.ntmps7
    go_wp2
    go_ret
    exact ⟨rfl, (by (repeat' (first | (with_reducible exact Below.refl _ _) | (with_reducible assumption) | (with_reducible refine below_ext _ ?_ ?_) | (with_reducible refine Below.alloc ?_ ?_ _) | (with_reducible refine Below.drew ?_) | (with_reducible refine below_drewN ?_ _) | (with_reducible refine le_drewN _ ?_) | (with_reducible refine Below.setCell ?_ ?_ _) | (with_reducible exact Nat.le_refl _) | (with_reducible refine le_ext _ ?_) | (with_reducible refine le_alloc _ ?_) | (with_reducible refine le_setCell _ _ ?_) | (with_reducible refine le_drew ?_) | omega | (simp; done) | (simp; omega))))⟩
end Go.Proofs.Ytelhidonhldjeaa
