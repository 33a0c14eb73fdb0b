
/- FnPick: the law's walk. -/
import Derived.Test.YtelhidonhldjeaaCount
import Derived.Test.YtelhidonhldjeaaConv
import Derived.Test.YtelhidonhldjeaaDrawA
set_option linter.unusedVariables false
set_option linter.unusedSimpArgs false
namespace Go.Proofs.Ytelhidonhldjeaa
open Go.RowKit

set_option maxHeartbeats 1000000 in
theorem drawInt_any (n c : Nat) (A : Option Addr) (w : World) (hn : n ≤ c) (hc : c ≤ 9223372036854775807) (hA : BytesAt w w.heap.size A n) :
    Calls Try.prog 10 #[.slice A n c] w fun e w' => ∃ v ps, e = .returned v ∧ OwnP w' w.heap.size v ps ∧ ps.length ≤ 9 ∧ CB 1001 ps ∧ Below w.heap.size w w' := by
  go_enter Try.func10, Try.ntmps10
  go_wp2_with fail
  refine (newReader_any n c A _ hn hc hA).mono ?_
  rintro e w1 ⟨g, nb, rfl, hg, hnb, hr, hx⟩
  have B1 := ext_bel hx
  have lg := hr.lt
  clear hx
  go_wp2_with fail
  refine (anyPolygon_any _ nb _ g 0 A _ (by omega) hnb hr).mono ?_
  rintro e w2 ⟨v, ps, p2, rfl, hown2, hlen, hcb, hp2, D2⟩
  have B2 := hide (B1.trans (D2.below hg B1.size))
  have OF := hide (hown2.base B1.size)
  clear hown2 D2 hr B1
  go_wp2
  go_ret
  exact ⟨_, ps, rfl, OF.out, hlen, hcb, B2.out⟩
set_option maxHeartbeats 2000000 in
theorem lawPick (n c : Nat) (A : Option Addr) (w : World) (hn : n ≤ c) (hc : c ≤ 9223372036854775807) (hA : BytesAt w w.heap.size A n) :
    Calls Try.prog 3 #[.slice A n c] w fun e w' => e = .returned (.bool true) ∧ Below w.heap.size w w' := by
  by_cases hle : n ≤ 1048576
  · have hd : decide ((1048576 : Int) < (n : Int)) = false := decide_eq_false (by omega)
    go_enter Try.func3, Try.ntmps3
    go_wp2_with fail
    refine (drawInt_any n c A _ hn hc hA).mono ?_
    rintro e w1 ⟨v1, ps, rfl, o1, lp, cbp, B1⟩
    obtain ⟨A1, n1, c1, rfl⟩ := o1.slice
    have h1 := hide o1.pts.1
    have P1 := hide o1.pts.2.2.2
    have F1 := hide o1.form.1
    have k1 : n1 ≤ 9 := by have := h1.out; omega
    have II := hide (fun (W : World) (hb : Below w1.heap.size w1 W) => iInt_any ps A1 n1 c1 W h1.out (by omega) F1.out (P1.out.to hb))
    have IB := hide (fun (W : World) (hb : Below w1.heap.size w1 W) => iBnd_any ps A1 n1 c1 W h1.out (by omega) F1.out (P1.out.to hb))
    have ID := hide (fun (W : World) (hb : Below w1.heap.size w1 W) => iDbl_any ps A1 n1 c1 W h1.out (by omega) F1.out (P1.out.to hb))
    have SI := hide (fun (W : World) (hb : Below w1.heap.size w1 W) => sInt_any ps A1 n1 c1 W h1.out (by omega) (P1.out.to hb))
    have SB := hide (fun (W : World) (hb : Below w1.heap.size w1 W) => sBnd_any ps A1 n1 c1 W h1.out (by omega) (P1.out.to hb))
    have s1 := B1.size
    have FACT : Hid (0 ≤ intr ps → (-40000000 ≤ dblA ps ∧ dblA ps ≤ 40000000) ∧ absI (dblA ps) = 2 * intr ps + bnd ps - 2 ∧ (n1 : Int) ≤ bnd ps ∧ bnd ps ≤ 40000 ∧ intr ps ≤ 40000000) := hide (fun h => by
      by_cases hs : simB ps = true
      · obtain ⟨h3, h20, ha, hb⟩ := simB_nums hs
        obtain ⟨_, q3, _, _, qd⟩ := simB_parts hs
        rw [dblA_2 hs, bnd_2 hs]
        have e : intr ps = intrL ps := by unfold intr; rw [hs]; rfl
        rw [e] at h ⊢
        have := pick_area h
        have hl := bnd_len qd (by omega) (k := ps.length) (Nat.le_refl _)
        have aa := absI_eq (areaL ps)
        have : bndTo ps ps.length = bndL ps := rfl
        have := h1.out
        exact ⟨ha, by omega, by omega, by omega, by omega⟩
      · rw [intr_1 (eq_false_of_ne_true hs)] at h; omega)
    clear o1 hA cbp
    have V1 : (intr ps != intr ps) = false := by simp
    have V2 : (bnd ps != bnd ps) = false := by simp
    have V3 : (intr ps == intr ps) = true := by simp
    have V4 : (bnd ps == bnd ps) = true := by simp
    go_wp2_with fail
    refine (II.out _ (Below.refl _ _)).mono ?_
    rintro e w' ⟨rfl, hw'⟩; have hzy1 := ext_sz hw'; obtain ⟨y1, rfl⟩ := hw'; (try simp at hzy1)
    go_wp2_with fail
    refine (IB.out _ (by (repeat' (first | (with_reducible exact Below.refl _ _) | (with_reducible assumption) | (with_reducible refine below_ext _ ?_ ?_) | (with_reducible refine Below.alloc ?_ ?_ _) | (with_reducible refine Below.drew ?_) | (with_reducible refine below_drewN ?_ _) | (with_reducible refine le_drewN _ ?_) | (with_reducible refine Below.setCell ?_ ?_ _) | (with_reducible exact Nat.le_refl _) | (with_reducible refine le_ext _ ?_) | (with_reducible refine le_alloc _ ?_) | (with_reducible refine le_setCell _ _ ?_) | (with_reducible refine le_drew ?_) | omega | (simp; done) | (simp; omega))))).mono ?_
    rintro e w' ⟨rfl, hw'⟩; have hzy2 := ext_sz hw'; obtain ⟨y2, rfl⟩ := hw'; (try simp at hzy2)
    go_wp2_with fail
    refine (SI.out _ (by (repeat' (first | (with_reducible exact Below.refl _ _) | (with_reducible assumption) | (with_reducible refine below_ext _ ?_ ?_) | (with_reducible refine Below.alloc ?_ ?_ _) | (with_reducible refine Below.drew ?_) | (with_reducible refine below_drewN ?_ _) | (with_reducible refine le_drewN _ ?_) | (with_reducible refine Below.setCell ?_ ?_ _) | (with_reducible exact Nat.le_refl _) | (with_reducible refine le_ext _ ?_) | (with_reducible refine le_alloc _ ?_) | (with_reducible refine le_setCell _ _ ?_) | (with_reducible refine le_drew ?_) | omega | (simp; done) | (simp; omega))))).mono ?_
    rintro e w' ⟨rfl, hw'⟩; have hzy3 := ext_sz hw'; obtain ⟨y3, rfl⟩ := hw'; (try simp at hzy3)
    go_wp2_with fail
    refine (SB.out _ (by (repeat' (first | (with_reducible exact Below.refl _ _) | (with_reducible assumption) | (with_reducible refine below_ext _ ?_ ?_) | (with_reducible refine Below.alloc ?_ ?_ _) | (with_reducible refine Below.drew ?_) | (with_reducible refine below_drewN ?_ _) | (with_reducible refine le_drewN _ ?_) | (with_reducible refine Below.setCell ?_ ?_ _) | (with_reducible exact Nat.le_refl _) | (with_reducible refine le_ext _ ?_) | (with_reducible refine le_alloc _ ?_) | (with_reducible refine le_setCell _ _ ?_) | (with_reducible refine le_drew ?_) | omega | (simp; done) | (simp; omega))))).mono ?_
    rintro e w' ⟨rfl, hw'⟩; have hzy4 := ext_sz hw'; obtain ⟨y4, rfl⟩ := hw'; (try simp at hzy4)
    by_cases hneg : intr ps < 0
    · have d1 : decide (intr ps < 0) = true := decide_eq_true hneg
      clear hneg FACT
      go_wp2_with fail
      refine (SI.out _ (by (repeat' (first | (with_reducible exact Below.refl _ _) | (with_reducible assumption) | (with_reducible refine below_ext _ ?_ ?_) | (with_reducible refine Below.alloc ?_ ?_ _) | (with_reducible refine Below.drew ?_) | (with_reducible refine below_drewN ?_ _) | (with_reducible refine le_drewN _ ?_) | (with_reducible refine Below.setCell ?_ ?_ _) | (with_reducible exact Nat.le_refl _) | (with_reducible refine le_ext _ ?_) | (with_reducible refine le_alloc _ ?_) | (with_reducible refine le_setCell _ _ ?_) | (with_reducible refine le_drew ?_) | omega | (simp; done) | (simp; omega))))).mono ?_
      rintro e w' ⟨rfl, hw'⟩; have hzy5 := ext_sz hw'; obtain ⟨y5, rfl⟩ := hw'; (try simp at hzy5)
      go_wp2_with fail
      refine (SB.out _ (by (repeat' (first | (with_reducible exact Below.refl _ _) | (with_reducible assumption) | (with_reducible refine below_ext _ ?_ ?_) | (with_reducible refine Below.alloc ?_ ?_ _) | (with_reducible refine Below.drew ?_) | (with_reducible refine below_drewN ?_ _) | (with_reducible refine le_drewN _ ?_) | (with_reducible refine Below.setCell ?_ ?_ _) | (with_reducible exact Nat.le_refl _) | (with_reducible refine le_ext _ ?_) | (with_reducible refine le_alloc _ ?_) | (with_reducible refine le_setCell _ _ ?_) | (with_reducible refine le_drew ?_) | omega | (simp; done) | (simp; omega))))).mono ?_
      rintro e w' ⟨rfl, hw'⟩; have hzy6 := ext_sz hw'; obtain ⟨y6, rfl⟩ := hw'; (try simp at hzy6)
      go_wp2_with fail
      go_ret
      exact ⟨rfl, B1.trans (Below.mono (by (repeat' (first | (with_reducible exact Below.refl _ _) | (with_reducible assumption) | (with_reducible refine below_ext _ ?_ ?_) | (with_reducible refine Below.alloc ?_ ?_ _) | (with_reducible refine Below.drew ?_) | (with_reducible refine below_drewN ?_ _) | (with_reducible refine le_drewN _ ?_) | (with_reducible refine Below.setCell ?_ ?_ _) | (with_reducible exact Nat.le_refl _) | (with_reducible refine le_ext _ ?_) | (with_reducible refine le_alloc _ ?_) | (with_reducible refine le_setCell _ _ ?_) | (with_reducible refine le_drew ?_) | omega | (simp; done) | (simp; omega)))) s1)⟩
    · have d1 : decide (intr ps < 0) = false := decide_eq_false hneg
      obtain ⟨f1, f2, f3, f4, f5⟩ := FACT.out (by omega)
      have LS := hide (fun W => lsize_any (dblA ps) W (by omega))
      have F2 := hide f2
      have i1 : IntKind.i64.wrap (2 * intr ps) = 2 * intr ps := IntWalk.i64_in _ (by omega)
      have i2 : IntKind.i64.wrap (2 * intr ps + bnd ps) = 2 * intr ps + bnd ps := IntWalk.i64_in _ (by omega)
      have i3 : IntKind.i64.wrap (2 * intr ps + bnd ps - 2) = 2 * intr ps + bnd ps - 2 := IntWalk.i64_in _ (by omega)
      have V5 : (absI (dblA ps) == 2 * intr ps + bnd ps - 2) = true := by rw [beq_iff_eq]; exact f2
      have V6 : decide ((n1 : Int) ≤ bnd ps) = true := decide_eq_true f3
      clear hneg FACT f2
      go_wp2_with fail
      refine (ID.out _ (by (repeat' (first | (with_reducible exact Below.refl _ _) | (with_reducible assumption) | (with_reducible refine below_ext _ ?_ ?_) | (with_reducible refine Below.alloc ?_ ?_ _) | (with_reducible refine Below.drew ?_) | (with_reducible refine below_drewN ?_ _) | (with_reducible refine le_drewN _ ?_) | (with_reducible refine Below.setCell ?_ ?_ _) | (with_reducible exact Nat.le_refl _) | (with_reducible refine le_ext _ ?_) | (with_reducible refine le_alloc _ ?_) | (with_reducible refine le_setCell _ _ ?_) | (with_reducible refine le_drew ?_) | omega | (simp; done) | (simp; omega))))).mono ?_
      rintro e w' ⟨rfl, hw'⟩; have hzy5 := ext_sz hw'; obtain ⟨y5, rfl⟩ := hw'; (try simp at hzy5)
      go_wp2_with fail
      refine (LS.out _).mono ?_
      rintro e w' ⟨rfl, rfl⟩
      go_wp2_with fail
      go_ret
      exact ⟨rfl, B1.trans (Below.mono (by (repeat' (first | (with_reducible exact Below.refl _ _) | (with_reducible assumption) | (with_reducible refine below_ext _ ?_ ?_) | (with_reducible refine Below.alloc ?_ ?_ _) | (with_reducible refine Below.drew ?_) | (with_reducible refine below_drewN ?_ _) | (with_reducible refine le_drewN _ ?_) | (with_reducible refine Below.setCell ?_ ?_ _) | (with_reducible exact Nat.le_refl _) | (with_reducible refine le_ext _ ?_) | (with_reducible refine le_alloc _ ?_) | (with_reducible refine le_setCell _ _ ?_) | (with_reducible refine le_drew ?_) | omega | (simp; done) | (simp; omega)))) s1)⟩
  · skip
    have hd : decide ((1048576 : Int) < (n : Int)) = true := decide_eq_true (by omega)
    go_enter Try.func3, Try.ntmps3
    go_wp2
    go_ret
    exact ⟨rfl, (by (repeat' (first | (with_reducible exact Below.refl _ _) | (with_reducible assumption) | (with_reducible refine below_ext _ ?_ ?_) | (with_reducible refine Below.alloc ?_ ?_ _) | (with_reducible refine Below.drew ?_) | (with_reducible refine below_drewN ?_ _) | (with_reducible refine le_drewN _ ?_) | (with_reducible refine Below.setCell ?_ ?_ _) | (with_reducible exact Nat.le_refl _) | (with_reducible refine le_ext _ ?_) | (with_reducible refine le_alloc _ ?_) | (with_reducible refine le_setCell _ _ ?_) | (with_reducible refine le_drew ?_) | omega | (simp; done) | (simp; omega))))⟩
end Go.Proofs.Ytelhidonhldjeaa
