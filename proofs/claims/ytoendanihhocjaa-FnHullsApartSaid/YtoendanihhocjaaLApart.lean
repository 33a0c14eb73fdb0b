
/- FnHullsApart: the law's walk. -/
import Derived.Test.YtoendanihhocjaaLHm
import Derived.Test.YtoendanihhocjaaApartM
import Derived.Test.YtoendanihhocjaaConv
import Derived.Test.YtoendanihhocjaaAreaI
set_option linter.unusedVariables false
set_option linter.unusedSimpArgs false
namespace Go.Proofs.Ytoendanihhocjaa
open Go.RowKit

theorem apart_neg {ps qs : List Pt} (h1 : ¬ hullArea ps < 0) (h3 : 3 ≤ (hullL qs).length) (hm : meetOf ps qs = false) {k : Nat} (hk : k < ps.length) : locC (hullL qs) ⟨pX ps k, pY ps k⟩ < 0 := by
  have l1 : listOk ps = true := by
    unfold hullArea at h1
    split at h1
    · assumption
    · exact absurd (by omega) h1
  have l2 : listOk qs = true := by
    unfold hullL at h3
    split at h3
    · assumption
    · simp at h3
  have e : hullL qs = hullOf qs := if_pos l2
  rw [e] at h3 ⊢
  have hB : bothL ps qs = true := bothL_mk l1 l2 (fun e => by rw [e] at hk; simp at hk) (fun e => by rw [e] at h3; simp [hullOf, sortP] at h3)
  have hv : vP (pX ps k) (pY ps k) = true := List.all_eq_true.1 (lOk_all l1) _ (gp_mem hk)
  rw [locC_3 (q := ⟨pX ps k, pY ps k⟩) (hull_convB l2 h3) hv]
  exact apart_right hB hm h3 (gp_mem hk)
theorem hullL_len (qs : List Pt) : (hullL qs).length ≤ qs.length := by
  unfold hullL; split
  · exact hullOf_len' qs
  · simp
set_option maxHeartbeats 4000000 in
theorem lawApart (n c : Nat) (A : Option Addr) (w : World) (hn : n ≤ c) (hc : c ≤ 9223372036854775807) (hA : BytesAt w w.heap.size A n) :
    Calls Try.prog 13 #[.slice A n c] w fun e w' => e = .returned (.bool true) ∧ Below w.heap.size w w' := by
  by_cases hle : n ≤ 1048576
  · have hd : decide ((1048576 : Int) < (n : Int)) = false := decide_eq_false (by omega)
    go_enter Try.func13, Try.ntmps13
    go_wp2_with fail
    refine (drawMeet_any n c A _ hn hc hA).mono ?_
    rintro e w1 ⟨v1, ps, v2, qs, rfl, o1, lp, cbp, o2, lq, cbq, B1⟩
    obtain ⟨A1, n1, c1, rfl⟩ := o1.slice
    obtain ⟨A2, n2, c2, rfl⟩ := o2.slice
    have h1 := hide o1.pts.1
    have h2 := hide o2.pts.1
    have P1 := hide o1.pts.2.2.2
    have P2 := hide o2.pts.2.2.2
    have F1 := hide o1.form.1
    have F2 := hide o2.form.1
    have k1 : n1 ≤ 21 := by have := h1.out; omega
    have k2 : n2 ≤ 21 := by have := h2.out; omega
    have IM := hide (fun (W : World) (hb : Below w1.heap.size w1 W) => iMeet_any ps qs A1 A2 n1 c1 n2 c2 W h1.out h2.out (by omega) (by omega) (P1.out.to hb) (P2.out.to hb))
    have SM := hide (fun (W : World) (hb : Below w1.heap.size w1 W) => sMeet_any ps qs A1 A2 n1 c1 n2 c2 W h1.out h2.out (by omega) (by omega) (P1.out.to hb) (P2.out.to hb))
    have IH := hide (fun (W : World) (hb : Below w1.heap.size w1 W) => iHull_any qs A2 n2 c2 W h2.out (by omega) F2.out (P2.out.to hb))
    have IA := hide (fun (W : World) (hb : Below w1.heap.size w1 W) => iHullArea_any ps A1 n1 c1 W h1.out (by omega) F1.out (P1.out.to hb))
    have FACT : Hid (0 ≤ hullArea ps → 3 ≤ (hullL qs).length → meetOf ps qs = false → ∀ k, k < ps.length → locC (hullL qs) ⟨pX ps k, pY ps k⟩ < 0) := hide (fun a b m k hk => apart_neg (by omega) b m hk)
    have s1 := B1.size
    clear o1 o2 hA cbp cbq
    have hV : (meetOf ps qs != meetOf ps qs) = false := by simp
    have hV2 : (meetOf ps qs == meetOf ps qs) = true := by simp
    go_wp2_with fail
    refine (IM.out _ (Below.refl _ _)).mono ?_
    rintro e w' ⟨rfl, hw'⟩; have hzy1 := ext_sz hw'; obtain ⟨y1, rfl⟩ := hw'; (try simp at hzy1)
    go_wp2_with fail
    refine (IH.out _ (by (repeat' (first | (with_reducible exact Below.refl _ _) | (with_reducible assumption) | (with_reducible refine below_ext _ ?_ ?_) | (with_reducible refine Below.alloc ?_ ?_ _) | (with_reducible refine Below.drew ?_) | (with_reducible refine below_drewN ?_ _) | (with_reducible refine le_drewN _ ?_) | (with_reducible refine Below.setCell ?_ ?_ _) | (with_reducible exact Nat.le_refl _) | (with_reducible refine le_ext _ ?_) | (with_reducible refine le_alloc _ ?_) | (with_reducible refine le_setCell _ _ ?_) | (with_reducible refine le_drew ?_) | omega | (simp; done) | (simp; omega))))).mono ?_
    rintro e w4 ⟨A4, n4, c4, rfl, l4, q4, q4b, p4, f4, x4, rfl⟩
    have L4 := hide l4
    have P4 := hide p4.pts
    have F4 := hide f4
    clear l4 p4 f4
    have B4 := hide (show Below w1.heap.size w1 (ext (ext w1 y1) x4) from (by (repeat' (first | (with_reducible exact Below.refl _ _) | (with_reducible assumption) | (with_reducible refine below_ext _ ?_ ?_) | (with_reducible refine Below.alloc ?_ ?_ _) | (with_reducible refine Below.drew ?_) | (with_reducible refine below_drewN ?_ _) | (with_reducible refine le_drewN _ ?_) | (with_reducible refine Below.setCell ?_ ?_ _) | (with_reducible exact Nat.le_refl _) | (with_reducible refine le_ext _ ?_) | (with_reducible refine le_alloc _ ?_) | (with_reducible refine le_setCell _ _ ?_) | (with_reducible refine le_drew ?_) | omega | (simp; done) | (simp; omega)))))
    generalize ext (ext w1 y1) x4 = W4 at *
    have s4 := B4.out.size
    have SM2 := hide (fun (W : World) (hb : Below W4.heap.size W4 W) => SM.out W (B4.out.trans (hb.mono s4)))
    have IA2 := hide (fun (W : World) (hb : Below W4.heap.size W4 W) => IA.out W (B4.out.trans (hb.mono s4)))
    have B14 := hide (B1.trans (B4.out.mono s1))
    have P14 := hide (P1.out.to B4.out)
    clear SM IA IM IH P1 P2
    cases hm : meetOf ps qs
    · rw [hm] at SM2 hV hV2
      have FA : Hid (0 ≤ hullArea ps → 3 ≤ (hullL qs).length → ∀ k, k < ps.length → locC (hullL qs) ⟨pX ps k, pY ps k⟩ < 0) := hide (fun a b => FACT.out a b hm)
      clear hm FACT
      by_cases h3 : n4 < 3
      · have d3 : decide ((n4 : Int) < 3) = true := decide_eq_true (by omega)
        clear h3 FA
        go_wp2_with fail
        refine (SM2.out _ (Below.refl _ _)).mono ?_
        rintro e w' ⟨rfl, hw'⟩; have hzy2 := ext_sz hw'; obtain ⟨y2, rfl⟩ := hw'; (try simp at hzy2)
        go_wp2_with fail
        refine (SM2.out _ (by (repeat' (first | (with_reducible exact Below.refl _ _) | (with_reducible assumption) | (with_reducible refine below_ext _ ?_ ?_) | (with_reducible refine Below.alloc ?_ ?_ _) | (with_reducible refine Below.drew ?_) | (with_reducible refine below_drewN ?_ _) | (with_reducible refine le_drewN _ ?_) | (with_reducible refine Below.setCell ?_ ?_ _) | (with_reducible exact Nat.le_refl _) | (with_reducible refine le_ext _ ?_) | (with_reducible refine le_alloc _ ?_) | (with_reducible refine le_setCell _ _ ?_) | (with_reducible refine le_drew ?_) | omega | (simp; done) | (simp; omega))))).mono ?_
        rintro e w' ⟨rfl, hw'⟩; have hzy3 := ext_sz hw'; obtain ⟨y3, rfl⟩ := hw'; (try simp at hzy3)
        go_wp2
        go_ret
        exact ⟨rfl, B14.out.trans (Below.mono (show Below W4.heap.size W4 _ from (by (repeat' (first | (with_reducible exact Below.refl _ _) | (with_reducible assumption) | (with_reducible refine below_ext _ ?_ ?_) | (with_reducible refine Below.alloc ?_ ?_ _) | (with_reducible refine Below.drew ?_) | (with_reducible refine below_drewN ?_ _) | (with_reducible refine le_drewN _ ?_) | (with_reducible refine Below.setCell ?_ ?_ _) | (with_reducible exact Nat.le_refl _) | (with_reducible refine le_ext _ ?_) | (with_reducible refine le_alloc _ ?_) | (with_reducible refine le_setCell _ _ ?_) | (with_reducible refine le_drew ?_) | omega | (simp; done) | (simp; omega))))) (by omega))⟩
      · have d3 : decide ((n4 : Int) < 3) = false := decide_eq_false (by omega)
        have FA3 := hide (fun a => FA.out a (by have := L4.out; omega))

        by_cases h5 : hullArea ps < 0
        · have d5 : decide (hullArea ps < 0) = true := decide_eq_true h5
          clear h3 FA FA3 h5
          go_wp2_with fail
          refine (SM2.out _ (Below.refl _ _)).mono ?_
          rintro e w' ⟨rfl, hw'⟩; have hzy2 := ext_sz hw'; obtain ⟨y2, rfl⟩ := hw'; (try simp at hzy2)
          go_wp2_with fail
          refine (IA2.out _ (by (repeat' (first | (with_reducible exact Below.refl _ _) | (with_reducible assumption) | (with_reducible refine below_ext _ ?_ ?_) | (with_reducible refine Below.alloc ?_ ?_ _) | (with_reducible refine Below.drew ?_) | (with_reducible refine below_drewN ?_ _) | (with_reducible refine le_drewN _ ?_) | (with_reducible refine Below.setCell ?_ ?_ _) | (with_reducible exact Nat.le_refl _) | (with_reducible refine le_ext _ ?_) | (with_reducible refine le_alloc _ ?_) | (with_reducible refine le_setCell _ _ ?_) | (with_reducible refine le_drew ?_) | omega | (simp; done) | (simp; omega))))).mono ?_
          rintro e w' ⟨rfl, hw'⟩; have hzy4 := ext_sz hw'; obtain ⟨y4, rfl⟩ := hw'; (try simp at hzy4)
          go_wp2_with fail
          refine (SM2.out _ (by (repeat' (first | (with_reducible exact Below.refl _ _) | (with_reducible assumption) | (with_reducible refine below_ext _ ?_ ?_) | (with_reducible refine Below.alloc ?_ ?_ _) | (with_reducible refine Below.drew ?_) | (with_reducible refine below_drewN ?_ _) | (with_reducible refine le_drewN _ ?_) | (with_reducible refine Below.setCell ?_ ?_ _) | (with_reducible exact Nat.le_refl _) | (with_reducible refine le_ext _ ?_) | (with_reducible refine le_alloc _ ?_) | (with_reducible refine le_setCell _ _ ?_) | (with_reducible refine le_drew ?_) | omega | (simp; done) | (simp; omega))))).mono ?_
          rintro e w' ⟨rfl, hw'⟩; have hzy3 := ext_sz hw'; obtain ⟨y3, rfl⟩ := hw'; (try simp at hzy3)
          go_wp2
          go_ret
          exact ⟨rfl, B14.out.trans (Below.mono (show Below W4.heap.size W4 _ from (by (repeat' (first | (with_reducible exact Below.refl _ _) | (with_reducible assumption) | (with_reducible refine below_ext _ ?_ ?_) | (with_reducible refine Below.alloc ?_ ?_ _) | (with_reducible refine Below.drew ?_) | (with_reducible refine below_drewN ?_ _) | (with_reducible refine le_drewN _ ?_) | (with_reducible refine Below.setCell ?_ ?_ _) | (with_reducible exact Nat.le_refl _) | (with_reducible refine le_ext _ ?_) | (with_reducible refine le_alloc _ ?_) | (with_reducible refine le_setCell _ _ ?_) | (with_reducible refine le_drew ?_) | omega | (simp; done) | (simp; omega))))) (by omega))⟩
        · have d5 : decide (hullArea ps < 0) = false := decide_eq_false h5
          have FA4 := hide (fun k (hk : k < n1) => FA3.out (by omega) k (by rw [h1.out]; exact hk))
          have h4m : n4 ≤ 2000000 := by
            have := hullL_len qs
            have := L4.out
            have := h2.out
            omega
          have LC := hide (fun (x y : Int) (W : World) (hb : Below W4.heap.size W4 W) => locC_any (hullL qs) x y A4 n4 c4 W L4.out h4m F4.out (P4.out.to hb))
          clear h3 FA FA3 h5
          go_wp2_with fail
          refine (SM2.out _ (Below.refl _ _)).mono ?_
          rintro e w' ⟨rfl, hw'⟩; have hzy2 := ext_sz hw'; obtain ⟨y2, rfl⟩ := hw'; (try simp at hzy2)
          go_wp2_with fail
          refine (IA2.out _ (by (repeat' (first | (with_reducible exact Below.refl _ _) | (with_reducible assumption) | (with_reducible refine below_ext _ ?_ ?_) | (with_reducible refine Below.alloc ?_ ?_ _) | (with_reducible refine Below.drew ?_) | (with_reducible refine below_drewN ?_ _) | (with_reducible refine le_drewN _ ?_) | (with_reducible refine Below.setCell ?_ ?_ _) | (with_reducible exact Nat.le_refl _) | (with_reducible refine le_ext _ ?_) | (with_reducible refine le_alloc _ ?_) | (with_reducible refine le_setCell _ _ ?_) | (with_reducible refine le_drew ?_) | omega | (simp; done) | (simp; omega))))).mono ?_
          rintro e w' ⟨rfl, hw'⟩; have hzy4 := ext_sz hw'; obtain ⟨y4, rfl⟩ := hw'; (try simp at hzy4)
          have B5 := hide (show Below W4.heap.size W4 (ext (ext W4 y2) y4) from (by (repeat' (first | (with_reducible exact Below.refl _ _) | (with_reducible assumption) | (with_reducible refine below_ext _ ?_ ?_) | (with_reducible refine Below.alloc ?_ ?_ _) | (with_reducible refine Below.drew ?_) | (with_reducible refine below_drewN ?_ _) | (with_reducible refine le_drewN _ ?_) | (with_reducible refine Below.setCell ?_ ?_ _) | (with_reducible exact Nat.le_refl _) | (with_reducible refine le_ext _ ?_) | (with_reducible refine le_alloc _ ?_) | (with_reducible refine le_setCell _ _ ?_) | (with_reducible refine le_drew ?_) | omega | (simp; done) | (simp; omega)))))
          generalize ext (ext W4 y2) y4 = W5 at *
          go_wp2
          go_loopw [7] (fun u7 wr => ∃ k : Nat, k ≤ n1 ∧ u7 = .int .i64 k ∧ Below W4.heap.size W4 wr) (fun u7 _ => n1 - (intOf u7).toNat)
          case atStart => exact ⟨0, Nat.zero_le _, rfl, B5.out⟩
          case round =>
            obtain ⟨k, hk, rfl, hbel⟩ := hrel
            have hsz := hbel.size
            by_cases hlt : k < n1
            · obtain ⟨b, o, rfl, hb, hcs⟩ := P14.out (by rw [h1.out]; omega)
              obtain ⟨hx0, hy0⟩ := hcs k (by rw [h1.out]; omega)
              have hx := (hbel.cell (p := ⟨b, o + k * 2, none⟩) hb).trans hx0
              have hy := (hbel.cell (p := ⟨b, o + k * 2 + 1, none⟩) hb).trans hy0
              clear hcs hx0 hy0
              have fk := FA4.out k hlt
              have LK := hide (fun (W : World) (hb : Below W4.heap.size W4 W) => LC.out (pX ps k) (pY ps k) W hb)
              generalize pX ps k = X at *
              generalize pY ps k = Y at *
              generalize locC (hullL qs) ⟨X, Y⟩ = V at *
              have d6 : decide (0 ≤ V) = false := decide_eq_false (by omega)
              go_wp2_with fail
              refine (LK.out _ hbel).mono ?_
              rintro e w' ⟨rfl, hw'⟩; have hzy6 := ext_sz hw'; obtain ⟨y6, rfl⟩ := hw'; (try simp at hzy6)
              go_wp2_with fail
              exact ⟨⟨k + 1, by omega, by go_num, hbel.trans (by (repeat' (first | (with_reducible exact Below.refl _ _) | (with_reducible assumption) | (with_reducible refine below_ext _ ?_ ?_) | (with_reducible refine Below.alloc ?_ ?_ _) | (with_reducible refine Below.drew ?_) | (with_reducible refine below_drewN ?_ _) | (with_reducible refine le_drewN _ ?_) | (with_reducible refine Below.setCell ?_ ?_ _) | (with_reducible exact Nat.le_refl _) | (with_reducible refine le_ext _ ?_) | (with_reducible refine le_alloc _ ?_) | (with_reducible refine le_setCell _ _ ?_) | (with_reducible refine le_drew ?_) | omega | (simp; done) | (simp; omega))))⟩, by simp [intOf]; omega⟩
            · have hkn : k = n1 := by omega
              subst hkn
              go_wp2
              go_ret
              exact ⟨rfl, B14.out.trans (hbel.mono (by omega))⟩
    · rw [hm] at SM2 hV hV2
      clear hm FACT
      go_wp2_with fail
      refine (SM2.out _ (Below.refl _ _)).mono ?_
      rintro e w' ⟨rfl, hw'⟩; have hzy2 := ext_sz hw'; obtain ⟨y2, rfl⟩ := hw'; (try simp at hzy2)
      go_wp2_with fail
      refine (SM2.out _ (by (repeat' (first | (with_reducible exact Below.refl _ _) | (with_reducible assumption) | (with_reducible refine below_ext _ ?_ ?_) | (with_reducible refine Below.alloc ?_ ?_ _) | (with_reducible refine Below.drew ?_) | (with_reducible refine below_drewN ?_ _) | (with_reducible refine le_drewN _ ?_) | (with_reducible refine Below.setCell ?_ ?_ _) | (with_reducible exact Nat.le_refl _) | (with_reducible refine le_ext _ ?_) | (with_reducible refine le_alloc _ ?_) | (with_reducible refine le_setCell _ _ ?_) | (with_reducible refine le_drew ?_) | omega | (simp; done) | (simp; omega))))).mono ?_
      rintro e w' ⟨rfl, hw'⟩; have hzy3 := ext_sz hw'; obtain ⟨y3, rfl⟩ := hw'; (try simp at hzy3)
      go_wp2
      go_ret
      exact ⟨rfl, B14.out.trans (Below.mono (show Below W4.heap.size W4 _ from (by (repeat' (first | (with_reducible exact Below.refl _ _) | (with_reducible assumption) | (with_reducible refine below_ext _ ?_ ?_) | (with_reducible refine Below.alloc ?_ ?_ _) | (with_reducible refine Below.drew ?_) | (with_reducible refine below_drewN ?_ _) | (with_reducible refine le_drewN _ ?_) | (with_reducible refine Below.setCell ?_ ?_ _) | (with_reducible exact Nat.le_refl _) | (with_reducible refine le_ext _ ?_) | (with_reducible refine le_alloc _ ?_) | (with_reducible refine le_setCell _ _ ?_) | (with_reducible refine le_drew ?_) | omega | (simp; done) | (simp; omega))))) (by omega))⟩
  · skip
    have hd : decide ((1048576 : Int) < (n : Int)) = true := decide_eq_true (by omega)
    go_enter Try.func13, Try.ntmps13
    go_wp2
    go_ret
    exact ⟨rfl, (by (repeat' (first | (with_reducible exact Below.refl _ _) | (with_reducible assumption) | (with_reducible refine below_ext _ ?_ ?_) | (with_reducible refine Below.alloc ?_ ?_ _) | (with_reducible refine Below.drew ?_) | (with_reducible refine below_drewN ?_ _) | (with_reducible refine le_drewN _ ?_) | (with_reducible refine Below.setCell ?_ ?_ _) | (with_reducible exact Nat.le_refl _) | (with_reducible refine le_ext _ ?_) | (with_reducible refine le_alloc _ ?_) | (with_reducible refine le_setCell _ _ ?_) | (with_reducible refine le_drew ?_) | omega | (simp; done) | (simp; omega))))⟩
end Go.Proofs.Ytoendanihhocjaa
