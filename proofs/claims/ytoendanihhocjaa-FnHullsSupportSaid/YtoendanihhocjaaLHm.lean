
/- FnHullsMeet, FnHullsSupport: the laws' walks. -/
import Derived.Test.YtoendanihhocjaaSupM
import Derived.Test.YtoendanihhocjaaDrawH
import Derived.Test.YtoendanihhocjaaHlp2
import Derived.Test.YtoendanihhocjaaMeetS
set_option linter.unusedVariables false
set_option linter.unusedSimpArgs false
namespace Go.Proofs.Ytoendanihhocjaa
open Go.RowKit

def comTo (ps qs : List Pt) : Nat → Bool
  | 0 => false
  | k + 1 => comTo ps qs k || decide ((⟨pX ps k, pY ps k⟩ : Pt) ∈ qs)
theorem comTo_mem {ps qs : List Pt} : ∀ {k : Nat}, k ≤ ps.length → comTo ps qs k = true → ∃ p, p ∈ ps ∧ p ∈ qs
  | 0, _, h => by cases h
  | k + 1, hk, h => by
    unfold comTo at h
    simp only [Bool.or_eq_true, decide_eq_true_eq] at h
    rcases h with h | h
    · exact comTo_mem (by omega) h
    · exact ⟨_, gp_mem (show k < ps.length by omega), h⟩
set_option maxHeartbeats 4000000 in
theorem lawHm (n c : Nat) (A : Option Addr) (w : World) (hn : n ≤ c) (hc : c ≤ 9223372036854775807) (hA : BytesAt w w.heap.size A n) :
    Calls Try.prog 11 #[.slice A n c] w fun e w' => e = .returned (.bool true) ∧ Below w.heap.size w w' := by
  by_cases hle : n ≤ 1048576
  · have hd : decide ((1048576 : Int) < (n : Int)) = false := decide_eq_false (by omega)
    go_enter Try.func11, Try.ntmps11
    go_wp2_with fail
    refine (drawMeet_any n c A _ hn hc hA).mono ?_
    rintro e w1 ⟨v1, ps, v2, qs, rfl, o1, lp, cbp, o2, lq, cbq, B1⟩
    obtain ⟨A1, n1, c1, rfl⟩ := o1.slice
    obtain ⟨A2, n2, c2, rfl⟩ := o2.slice
    have h1 := hide o1.pts.1
    have h2 := hide o2.pts.1
    have P1 := hide o1.pts.2.2.2
    have P2 := hide o2.pts.2.2.2
    have F1 := hide o1.form.1
    have F2 := hide o2.form.1
    have k1 : n1 ≤ 21 := by have := h1.out; omega
    have k2 : n2 ≤ 21 := by have := h2.out; omega
    have IM := hide (fun (W : World) (hb : Below w1.heap.size w1 W) => iMeet_any ps qs A1 A2 n1 c1 n2 c2 W h1.out h2.out (by omega) (by omega) (P1.out.to hb) (P2.out.to hb))
    have SM := hide (fun (W : World) (hb : Below w1.heap.size w1 W) => sMeet_any ps qs A1 A2 n1 c1 n2 c2 W h1.out h2.out (by omega) (by omega) (P1.out.to hb) (P2.out.to hb))
    have s1 := B1.size
    clear o1 o2 hA cbp cbq
    have N1 := hide (fun (W : World) (hb : Below w1.heap.size w1 W) => near_any ps A1 n1 c1 W h1.out (by omega) (P1.out.to hb))
    have N2 := hide (fun (W : World) (hb : Below w1.heap.size w1 W) => near_any qs A2 n2 c2 W h2.out (by omega) (P2.out.to hb))
    have IB := hide (fun (W : World) (hb : Below w1.heap.size w1 W) => iMeet_any qs ps A2 A1 n2 c2 n1 c1 W h2.out h1.out (by omega) (by omega) (P2.out.to hb) (P1.out.to hb))
    have IA := hide (fun (W : World) (hb : Below w1.heap.size w1 W) => iMeet_any ps ps A1 A1 n1 c1 n1 c1 W h1.out h1.out (by omega) (by omega) (P1.out.to hb) (P1.out.to hb))
    have HP := hide (fun (x y : Int) (W : World) (hb : Below w1.heap.size w1 W) => hasPoint_any qs x y A2 n2 c2 W h2.out (by omega) (P2.out.to hb))
    have FACT : Hid (0 < n1 → 0 < n2 → n1 ≤ 20 → n2 ≤ 20 → nearP ps = true → nearP qs = true → meetOf qs ps = meetOf ps qs ∧ meetOf ps ps = true ∧ (∀ k, k ≤ ps.length → comTo ps qs k = true → meetOf ps qs = true)) := hide (fun a1 a2 a3 a4 a5 a6 => by
      have l1 := listOk_near (nearP_iff.1 a5) (by rw [h1.out]; exact a3)
      have l2 := listOk_near (nearP_iff.1 a6) (by rw [h2.out]; exact a4)
      have e1 : ps ≠ [] := fun e => by have := h1.out; rw [e] at this; simp at this; omega
      have e2 : qs ≠ [] := fun e => by have := h2.out; rw [e] at this; simp at this; omega
      have hb := bothL_mk l1 l2 e1 e2
      refine ⟨meet_comm hb, meet_self l1 e1, fun k hk h => ?_⟩
      obtain ⟨p, hp, hq⟩ := comTo_mem hk h
      exact meet_common hb hp hq)
    have hV : (meetOf ps qs != meetOf ps qs) = false := by simp
    have hV2 : (meetOf ps qs == meetOf ps qs) = true := by simp
    go_wp2_with fail
    refine (IM.out _ (Below.refl _ _)).mono ?_
    rintro e w' ⟨rfl, hw'⟩; have hzy1 := ext_sz hw'; obtain ⟨y1, rfl⟩ := hw'; (try simp at hzy1)
    go_wp2_with fail
    refine (SM.out _ (by (repeat' (first | (with_reducible exact Below.refl _ _) | (with_reducible assumption) | (with_reducible refine below_ext _ ?_ ?_) | (with_reducible refine Below.alloc ?_ ?_ _) | (with_reducible refine Below.drew ?_) | (with_reducible refine below_drewN ?_ _) | (with_reducible refine le_drewN _ ?_) | (with_reducible refine Below.setCell ?_ ?_ _) | (with_reducible exact Nat.le_refl _) | (with_reducible refine le_ext _ ?_) | (with_reducible refine le_alloc _ ?_) | (with_reducible refine le_setCell _ _ ?_) | (with_reducible refine le_drew ?_) | omega | (simp; done) | (simp; omega))))).mono ?_
    rintro e w' ⟨rfl, hw'⟩; have hzy2 := ext_sz hw'; obtain ⟨y2, rfl⟩ := hw'; (try simp at hzy2)
    by_cases z1 : n1 = 0
    · have d1 : ((n1 : Int) == 0) = true := by rw [beq_iff_eq]; omega
      clear z1
      go_wp2_with fail
      refine (SM.out _ (by (repeat' (first | (with_reducible exact Below.refl _ _) | (with_reducible assumption) | (with_reducible refine below_ext _ ?_ ?_) | (with_reducible refine Below.alloc ?_ ?_ _) | (with_reducible refine Below.drew ?_) | (with_reducible refine below_drewN ?_ _) | (with_reducible refine le_drewN _ ?_) | (with_reducible refine Below.setCell ?_ ?_ _) | (with_reducible exact Nat.le_refl _) | (with_reducible refine le_ext _ ?_) | (with_reducible refine le_alloc _ ?_) | (with_reducible refine le_setCell _ _ ?_) | (with_reducible refine le_drew ?_) | omega | (simp; done) | (simp; omega))))).mono ?_
      rintro e w' ⟨rfl, hw'⟩; have hzy9 := ext_sz hw'; obtain ⟨y9, rfl⟩ := hw'; (try simp at hzy9)
      go_wp2
      go_ret
      exact ⟨ret_bool (by simp), B1.trans (Below.mono (by (repeat' (first | (with_reducible exact Below.refl _ _) | (with_reducible assumption) | (with_reducible refine below_ext _ ?_ ?_) | (with_reducible refine Below.alloc ?_ ?_ _) | (with_reducible refine Below.drew ?_) | (with_reducible refine below_drewN ?_ _) | (with_reducible refine le_drewN _ ?_) | (with_reducible refine Below.setCell ?_ ?_ _) | (with_reducible exact Nat.le_refl _) | (with_reducible refine le_ext _ ?_) | (with_reducible refine le_alloc _ ?_) | (with_reducible refine le_setCell _ _ ?_) | (with_reducible refine le_drew ?_) | omega | (simp; done) | (simp; omega)))) s1)⟩
    have d1 : ((n1 : Int) == 0) = false := by rw [beq_eq_false_iff_ne]; omega
    by_cases z2 : n2 = 0
    · have d2 : ((n2 : Int) == 0) = true := by rw [beq_iff_eq]; omega
      clear z2
      go_wp2_with fail
      refine (SM.out _ (by (repeat' (first | (with_reducible exact Below.refl _ _) | (with_reducible assumption) | (with_reducible refine below_ext _ ?_ ?_) | (with_reducible refine Below.alloc ?_ ?_ _) | (with_reducible refine Below.drew ?_) | (with_reducible refine below_drewN ?_ _) | (with_reducible refine le_drewN _ ?_) | (with_reducible refine Below.setCell ?_ ?_ _) | (with_reducible exact Nat.le_refl _) | (with_reducible refine le_ext _ ?_) | (with_reducible refine le_alloc _ ?_) | (with_reducible refine le_setCell _ _ ?_) | (with_reducible refine le_drew ?_) | omega | (simp; done) | (simp; omega))))).mono ?_
      rintro e w' ⟨rfl, hw'⟩; have hzy9 := ext_sz hw'; obtain ⟨y9, rfl⟩ := hw'; (try simp at hzy9)
      go_wp2
      go_ret
      exact ⟨ret_bool (by simp), B1.trans (Below.mono (by (repeat' (first | (with_reducible exact Below.refl _ _) | (with_reducible assumption) | (with_reducible refine below_ext _ ?_ ?_) | (with_reducible refine Below.alloc ?_ ?_ _) | (with_reducible refine Below.drew ?_) | (with_reducible refine below_drewN ?_ _) | (with_reducible refine le_drewN _ ?_) | (with_reducible refine Below.setCell ?_ ?_ _) | (with_reducible exact Nat.le_refl _) | (with_reducible refine le_ext _ ?_) | (with_reducible refine le_alloc _ ?_) | (with_reducible refine le_setCell _ _ ?_) | (with_reducible refine le_drew ?_) | omega | (simp; done) | (simp; omega)))) s1)⟩
    have d2 : ((n2 : Int) == 0) = false := by rw [beq_eq_false_iff_ne]; omega
    by_cases z3 : 20 < n1
    · have d3 : decide ((20 : Int) < (n1 : Int)) = true := decide_eq_true (by omega)
      clear z3
      go_wp2_with fail
      refine (SM.out _ (by (repeat' (first | (with_reducible exact Below.refl _ _) | (with_reducible assumption) | (with_reducible refine below_ext _ ?_ ?_) | (with_reducible refine Below.alloc ?_ ?_ _) | (with_reducible refine Below.drew ?_) | (with_reducible refine below_drewN ?_ _) | (with_reducible refine le_drewN _ ?_) | (with_reducible refine Below.setCell ?_ ?_ _) | (with_reducible exact Nat.le_refl _) | (with_reducible refine le_ext _ ?_) | (with_reducible refine le_alloc _ ?_) | (with_reducible refine le_setCell _ _ ?_) | (with_reducible refine le_drew ?_) | omega | (simp; done) | (simp; omega))))).mono ?_
      rintro e w' ⟨rfl, hw'⟩; have hzy9 := ext_sz hw'; obtain ⟨y9, rfl⟩ := hw'; (try simp at hzy9)
      go_wp2
      go_ret
      exact ⟨ret_bool (by simp), B1.trans (Below.mono (by (repeat' (first | (with_reducible exact Below.refl _ _) | (with_reducible assumption) | (with_reducible refine below_ext _ ?_ ?_) | (with_reducible refine Below.alloc ?_ ?_ _) | (with_reducible refine Below.drew ?_) | (with_reducible refine below_drewN ?_ _) | (with_reducible refine le_drewN _ ?_) | (with_reducible refine Below.setCell ?_ ?_ _) | (with_reducible exact Nat.le_refl _) | (with_reducible refine le_ext _ ?_) | (with_reducible refine le_alloc _ ?_) | (with_reducible refine le_setCell _ _ ?_) | (with_reducible refine le_drew ?_) | omega | (simp; done) | (simp; omega)))) s1)⟩
    have d3 : decide ((20 : Int) < (n1 : Int)) = false := decide_eq_false (by omega)
    by_cases z4 : 20 < n2
    · have d4 : decide ((20 : Int) < (n2 : Int)) = true := decide_eq_true (by omega)
      clear z4
      go_wp2_with fail
      refine (SM.out _ (by (repeat' (first | (with_reducible exact Below.refl _ _) | (with_reducible assumption) | (with_reducible refine below_ext _ ?_ ?_) | (with_reducible refine Below.alloc ?_ ?_ _) | (with_reducible refine Below.drew ?_) | (with_reducible refine below_drewN ?_ _) | (with_reducible refine le_drewN _ ?_) | (with_reducible refine Below.setCell ?_ ?_ _) | (with_reducible exact Nat.le_refl _) | (with_reducible refine le_ext _ ?_) | (with_reducible refine le_alloc _ ?_) | (with_reducible refine le_setCell _ _ ?_) | (with_reducible refine le_drew ?_) | omega | (simp; done) | (simp; omega))))).mono ?_
      rintro e w' ⟨rfl, hw'⟩; have hzy9 := ext_sz hw'; obtain ⟨y9, rfl⟩ := hw'; (try simp at hzy9)
      go_wp2
      go_ret
      exact ⟨ret_bool (by simp), B1.trans (Below.mono (by (repeat' (first | (with_reducible exact Below.refl _ _) | (with_reducible assumption) | (with_reducible refine below_ext _ ?_ ?_) | (with_reducible refine Below.alloc ?_ ?_ _) | (with_reducible refine Below.drew ?_) | (with_reducible refine below_drewN ?_ _) | (with_reducible refine le_drewN _ ?_) | (with_reducible refine Below.setCell ?_ ?_ _) | (with_reducible exact Nat.le_refl _) | (with_reducible refine le_ext _ ?_) | (with_reducible refine le_alloc _ ?_) | (with_reducible refine le_setCell _ _ ?_) | (with_reducible refine le_drew ?_) | omega | (simp; done) | (simp; omega)))) s1)⟩
    have d4 : decide ((20 : Int) < (n2 : Int)) = false := decide_eq_false (by omega)
    by_cases z5 : nearP ps = true
    · have FF := hide (fun h => FACT.out (by omega) (by omega) (by omega) (by omega) z5 h)
      rw [z5] at N1
      clear z1 z2 z3 z4 z5 FACT
      go_wp2_with fail
      refine (N1.out _ (by (repeat' (first | (with_reducible exact Below.refl _ _) | (with_reducible assumption) | (with_reducible refine below_ext _ ?_ ?_) | (with_reducible refine Below.alloc ?_ ?_ _) | (with_reducible refine Below.drew ?_) | (with_reducible refine below_drewN ?_ _) | (with_reducible refine le_drewN _ ?_) | (with_reducible refine Below.setCell ?_ ?_ _) | (with_reducible exact Nat.le_refl _) | (with_reducible refine le_ext _ ?_) | (with_reducible refine le_alloc _ ?_) | (with_reducible refine le_setCell _ _ ?_) | (with_reducible refine le_drew ?_) | omega | (simp; done) | (simp; omega))))).mono ?_
      rintro e w' ⟨rfl, hw'⟩; have hzy3 := ext_sz hw'; obtain ⟨y3, rfl⟩ := hw'; (try simp at hzy3)
      by_cases z6 : nearP qs = true
      · obtain ⟨f1, f2, f3⟩ := FF.out z6
        rw [z6] at N2
        rw [f1] at IB
        rw [f2] at IA
        have F3 := hide f3
        clear z6 f1 f2 f3 FF
        go_wp2_with fail
        refine (N2.out _ (by (repeat' (first | (with_reducible exact Below.refl _ _) | (with_reducible assumption) | (with_reducible refine below_ext _ ?_ ?_) | (with_reducible refine Below.alloc ?_ ?_ _) | (with_reducible refine Below.drew ?_) | (with_reducible refine below_drewN ?_ _) | (with_reducible refine le_drewN _ ?_) | (with_reducible refine Below.setCell ?_ ?_ _) | (with_reducible exact Nat.le_refl _) | (with_reducible refine le_ext _ ?_) | (with_reducible refine le_alloc _ ?_) | (with_reducible refine le_setCell _ _ ?_) | (with_reducible refine le_drew ?_) | omega | (simp; done) | (simp; omega))))).mono ?_
        rintro e w' ⟨rfl, hw'⟩; have hzy4 := ext_sz hw'; obtain ⟨y4, rfl⟩ := hw'; (try simp at hzy4)
        have CW := hide (show Below w1.heap.size w1 (ext (ext (ext (ext w1 y1) y2) y3) y4) from (by (repeat' (first | (with_reducible exact Below.refl _ _) | (with_reducible assumption) | (with_reducible refine below_ext _ ?_ ?_) | (with_reducible refine Below.alloc ?_ ?_ _) | (with_reducible refine Below.drew ?_) | (with_reducible refine below_drewN ?_ _) | (with_reducible refine le_drewN _ ?_) | (with_reducible refine Below.setCell ?_ ?_ _) | (with_reducible exact Nat.le_refl _) | (with_reducible refine le_ext _ ?_) | (with_reducible refine le_alloc _ ?_) | (with_reducible refine le_setCell _ _ ?_) | (with_reducible refine le_drew ?_) | omega | (simp; done) | (simp; omega)))))
        generalize hWW : ext (ext (ext (ext w1 y1) y2) y3) y4 = W0 at *
        clear hWW
        go_wp2
        go_loopw [6, 7] (fun u6 u7 wr => ∃ k : Nat, k ≤ n1 ∧ u7 = .int .i64 k ∧ u6 = .bool (comTo ps qs k) ∧ Below w1.heap.size w1 wr) (fun _ u7 _ => n1 - (intOf u7).toNat)
        case atStart => exact ⟨0, Nat.zero_le _, rfl, rfl, CW.out⟩
        case round =>
          obtain ⟨k, hk, rfl, rfl, hbel⟩ := hrel
          have hsz := hbel.size
          by_cases hlt : k < n1
          · obtain ⟨b, o, rfl, hb, hcs⟩ := P1.out (by rw [h1.out]; omega)
            obtain ⟨hx0, hy0⟩ := hcs k (by rw [h1.out]; omega)
            have hx := (hbel.cell (p := ⟨b, o + k * 2, none⟩) hb).trans hx0
            have hy := (hbel.cell (p := ⟨b, o + k * 2 + 1, none⟩) hb).trans hy0
            clear hcs hx0 hy0
            have NX : Hid (comTo ps qs (k + 1) = (comTo ps qs k || decide ((⟨pX ps k, pY ps k⟩ : Pt) ∈ qs))) := hide rfl
            cases hcm : comTo ps qs k
            · rw [hcm, Bool.false_or] at NX
              clear hcm
              go_wp2_with fail
              refine (HP.out _ _ _ hbel).mono ?_
              rintro e w' ⟨rfl, hw'⟩; have hzy5 := ext_sz hw'; obtain ⟨y5, rfl⟩ := hw'; (try simp at hzy5)
              go_wp2_with fail
              exact ⟨⟨k + 1, by omega, by go_num, by rw [NX.out], hbel.trans (by (repeat' (first | (with_reducible exact Below.refl _ _) | (with_reducible assumption) | (with_reducible refine below_ext _ ?_ ?_) | (with_reducible refine Below.alloc ?_ ?_ _) | (with_reducible refine Below.drew ?_) | (with_reducible refine below_drewN ?_ _) | (with_reducible refine le_drewN _ ?_) | (with_reducible refine Below.setCell ?_ ?_ _) | (with_reducible exact Nat.le_refl _) | (with_reducible refine le_ext _ ?_) | (with_reducible refine le_alloc _ ?_) | (with_reducible refine le_setCell _ _ ?_) | (with_reducible refine le_drew ?_) | omega | (simp; done) | (simp; omega))))⟩, by simp [intOf]; omega⟩
            · rw [hcm, Bool.true_or] at NX
              clear hcm
              go_wp2_with fail
              exact ⟨⟨k + 1, by omega, by go_num, by rw [NX.out], hbel⟩, by simp [intOf]; omega⟩
          · have hkn : k = n1 := by omega
            subst hkn
            have F4 : Hid (comTo ps qs k = true → meetOf ps qs = true) := hide (F3.out k (by rw [h1.out]; exact Nat.le_refl _))
            go_wp2_with fail
            refine (IB.out _ hbel).mono ?_
            rintro e w' ⟨rfl, hw'⟩; have hzy6 := ext_sz hw'; obtain ⟨y6, rfl⟩ := hw'; (try simp at hzy6)
            cases hcm : comTo ps qs k
            · clear hcm
              go_wp2_with fail
              refine (IA.out _ (hbel.trans (by (repeat' (first | (with_reducible exact Below.refl _ _) | (with_reducible assumption) | (with_reducible refine below_ext _ ?_ ?_) | (with_reducible refine Below.alloc ?_ ?_ _) | (with_reducible refine Below.drew ?_) | (with_reducible refine below_drewN ?_ _) | (with_reducible refine le_drewN _ ?_) | (with_reducible refine Below.setCell ?_ ?_ _) | (with_reducible exact Nat.le_refl _) | (with_reducible refine le_ext _ ?_) | (with_reducible refine le_alloc _ ?_) | (with_reducible refine le_setCell _ _ ?_) | (with_reducible refine le_drew ?_) | omega | (simp; done) | (simp; omega)))))).mono ?_
              rintro e w' ⟨rfl, hw'⟩; have hzy7 := ext_sz hw'; obtain ⟨y7, rfl⟩ := hw'; (try simp at hzy7)
              go_wp2
              go_ret
              exact ⟨rfl, B1.trans ((hbel.trans (by (repeat' (first | (with_reducible exact Below.refl _ _) | (with_reducible assumption) | (with_reducible refine below_ext _ ?_ ?_) | (with_reducible refine Below.alloc ?_ ?_ _) | (with_reducible refine Below.drew ?_) | (with_reducible refine below_drewN ?_ _) | (with_reducible refine le_drewN _ ?_) | (with_reducible refine Below.setCell ?_ ?_ _) | (with_reducible exact Nat.le_refl _) | (with_reducible refine le_ext _ ?_) | (with_reducible refine le_alloc _ ?_) | (with_reducible refine le_setCell _ _ ?_) | (with_reducible refine le_drew ?_) | omega | (simp; done) | (simp; omega))))).mono s1)⟩
            · have hm := F4.out hcm
              clear hcm
              go_wp2_with fail
              refine (IA.out _ (hbel.trans (by (repeat' (first | (with_reducible exact Below.refl _ _) | (with_reducible assumption) | (with_reducible refine below_ext _ ?_ ?_) | (with_reducible refine Below.alloc ?_ ?_ _) | (with_reducible refine Below.drew ?_) | (with_reducible refine below_drewN ?_ _) | (with_reducible refine le_drewN _ ?_) | (with_reducible refine Below.setCell ?_ ?_ _) | (with_reducible exact Nat.le_refl _) | (with_reducible refine le_ext _ ?_) | (with_reducible refine le_alloc _ ?_) | (with_reducible refine le_setCell _ _ ?_) | (with_reducible refine le_drew ?_) | omega | (simp; done) | (simp; omega)))))).mono ?_
              rintro e w' ⟨rfl, hw'⟩; have hzy7 := ext_sz hw'; obtain ⟨y7, rfl⟩ := hw'; (try simp at hzy7)
              go_wp2
              go_ret
              exact ⟨rfl, B1.trans ((hbel.trans (by (repeat' (first | (with_reducible exact Below.refl _ _) | (with_reducible assumption) | (with_reducible refine below_ext _ ?_ ?_) | (with_reducible refine Below.alloc ?_ ?_ _) | (with_reducible refine Below.drew ?_) | (with_reducible refine below_drewN ?_ _) | (with_reducible refine le_drewN _ ?_) | (with_reducible refine Below.setCell ?_ ?_ _) | (with_reducible exact Nat.le_refl _) | (with_reducible refine le_ext _ ?_) | (with_reducible refine le_alloc _ ?_) | (with_reducible refine le_setCell _ _ ?_) | (with_reducible refine le_drew ?_) | omega | (simp; done) | (simp; omega))))).mono s1)⟩
      · rw [eq_false_of_ne_true z6] at N2
        clear z6 FF
        go_wp2_with fail
        refine (N2.out _ (by (repeat' (first | (with_reducible exact Below.refl _ _) | (with_reducible assumption) | (with_reducible refine below_ext _ ?_ ?_) | (with_reducible refine Below.alloc ?_ ?_ _) | (with_reducible refine Below.drew ?_) | (with_reducible refine below_drewN ?_ _) | (with_reducible refine le_drewN _ ?_) | (with_reducible refine Below.setCell ?_ ?_ _) | (with_reducible exact Nat.le_refl _) | (with_reducible refine le_ext _ ?_) | (with_reducible refine le_alloc _ ?_) | (with_reducible refine le_setCell _ _ ?_) | (with_reducible refine le_drew ?_) | omega | (simp; done) | (simp; omega))))).mono ?_
        rintro e w' ⟨rfl, hw'⟩; have hzy4 := ext_sz hw'; obtain ⟨y4, rfl⟩ := hw'; (try simp at hzy4)
        go_wp2_with fail
        refine (SM.out _ (by (repeat' (first | (with_reducible exact Below.refl _ _) | (with_reducible assumption) | (with_reducible refine below_ext _ ?_ ?_) | (with_reducible refine Below.alloc ?_ ?_ _) | (with_reducible refine Below.drew ?_) | (with_reducible refine below_drewN ?_ _) | (with_reducible refine le_drewN _ ?_) | (with_reducible refine Below.setCell ?_ ?_ _) | (with_reducible exact Nat.le_refl _) | (with_reducible refine le_ext _ ?_) | (with_reducible refine le_alloc _ ?_) | (with_reducible refine le_setCell _ _ ?_) | (with_reducible refine le_drew ?_) | omega | (simp; done) | (simp; omega))))).mono ?_
        rintro e w' ⟨rfl, hw'⟩; have hzy9 := ext_sz hw'; obtain ⟨y9, rfl⟩ := hw'; (try simp at hzy9)
        go_wp2
        go_ret
        exact ⟨ret_bool (by simp), B1.trans (Below.mono (by (repeat' (first | (with_reducible exact Below.refl _ _) | (with_reducible assumption) | (with_reducible refine below_ext _ ?_ ?_) | (with_reducible refine Below.alloc ?_ ?_ _) | (with_reducible refine Below.drew ?_) | (with_reducible refine below_drewN ?_ _) | (with_reducible refine le_drewN _ ?_) | (with_reducible refine Below.setCell ?_ ?_ _) | (with_reducible exact Nat.le_refl _) | (with_reducible refine le_ext _ ?_) | (with_reducible refine le_alloc _ ?_) | (with_reducible refine le_setCell _ _ ?_) | (with_reducible refine le_drew ?_) | omega | (simp; done) | (simp; omega)))) s1)⟩
    · rw [eq_false_of_ne_true z5] at N1
      clear z1 z2 z3 z4 z5 FACT
      go_wp2_with fail
      refine (N1.out _ (by (repeat' (first | (with_reducible exact Below.refl _ _) | (with_reducible assumption) | (with_reducible refine below_ext _ ?_ ?_) | (with_reducible refine Below.alloc ?_ ?_ _) | (with_reducible refine Below.drew ?_) | (with_reducible refine below_drewN ?_ _) | (with_reducible refine le_drewN _ ?_) | (with_reducible refine Below.setCell ?_ ?_ _) | (with_reducible exact Nat.le_refl _) | (with_reducible refine le_ext _ ?_) | (with_reducible refine le_alloc _ ?_) | (with_reducible refine le_setCell _ _ ?_) | (with_reducible refine le_drew ?_) | omega | (simp; done) | (simp; omega))))).mono ?_
      rintro e w' ⟨rfl, hw'⟩; have hzy3 := ext_sz hw'; obtain ⟨y3, rfl⟩ := hw'; (try simp at hzy3)
      go_wp2_with fail
      refine (SM.out _ (by (repeat' (first | (with_reducible exact Below.refl _ _) | (with_reducible assumption) | (with_reducible refine below_ext _ ?_ ?_) | (with_reducible refine Below.alloc ?_ ?_ _) | (with_reducible refine Below.drew ?_) | (with_reducible refine below_drewN ?_ _) | (with_reducible refine le_drewN _ ?_) | (with_reducible refine Below.setCell ?_ ?_ _) | (with_reducible exact Nat.le_refl _) | (with_reducible refine le_ext _ ?_) | (with_reducible refine le_alloc _ ?_) | (with_reducible refine le_setCell _ _ ?_) | (with_reducible refine le_drew ?_) | omega | (simp; done) | (simp; omega))))).mono ?_
      rintro e w' ⟨rfl, hw'⟩; have hzy9 := ext_sz hw'; obtain ⟨y9, rfl⟩ := hw'; (try simp at hzy9)
      go_wp2
      go_ret
      exact ⟨ret_bool (by simp), B1.trans (Below.mono (by (repeat' (first | (with_reducible exact Below.refl _ _) | (with_reducible assumption) | (with_reducible refine below_ext _ ?_ ?_) | (with_reducible refine Below.alloc ?_ ?_ _) | (with_reducible refine Below.drew ?_) | (with_reducible refine below_drewN ?_ _) | (with_reducible refine le_drewN _ ?_) | (with_reducible refine Below.setCell ?_ ?_ _) | (with_reducible exact Nat.le_refl _) | (with_reducible refine le_ext _ ?_) | (with_reducible refine le_alloc _ ?_) | (with_reducible refine le_setCell _ _ ?_) | (with_reducible refine le_drew ?_) | omega | (simp; done) | (simp; omega)))) s1)⟩
  · skip
    have hd : decide ((1048576 : Int) < (n : Int)) = true := decide_eq_true (by omega)
    go_enter Try.func11, Try.ntmps11
    go_wp2
    go_ret
    exact ⟨rfl, (by (repeat' (first | (with_reducible exact Below.refl _ _) | (with_reducible assumption) | (with_reducible refine below_ext _ ?_ ?_) | (with_reducible refine Below.alloc ?_ ?_ _) | (with_reducible refine Below.drew ?_) | (with_reducible refine below_drewN ?_ _) | (with_reducible refine le_drewN _ ?_) | (with_reducible refine Below.setCell ?_ ?_ _) | (with_reducible exact Nat.le_refl _) | (with_reducible refine le_ext _ ?_) | (with_reducible refine le_alloc _ ?_) | (with_reducible refine le_setCell _ _ ?_) | (with_reducible refine le_drew ?_) | omega | (simp; done) | (simp; omega))))⟩
set_option maxHeartbeats 4000000 in
theorem lawHs (n c : Nat) (A : Option Addr) (w : World) (hn : n ≤ c) (hc : c ≤ 9223372036854775807) (hA : BytesAt w w.heap.size A n) :
    Calls Try.prog 12 #[.slice A n c] w fun e w' => e = .returned (.bool true) ∧ Below w.heap.size w w' := by
  by_cases hle : n ≤ 1048576
  · have hd : decide ((1048576 : Int) < (n : Int)) = false := decide_eq_false (by omega)
    go_enter Try.func12, Try.ntmps12
    go_wp2_with fail
    refine (drawMeet_any n c A _ hn hc hA).mono ?_
    rintro e w1 ⟨v1, ps, v2, qs, rfl, o1, lp, cbp, o2, lq, cbq, B1⟩
    obtain ⟨A1, n1, c1, rfl⟩ := o1.slice
    obtain ⟨A2, n2, c2, rfl⟩ := o2.slice
    have h1 := hide o1.pts.1
    have h2 := hide o2.pts.1
    have P1 := hide o1.pts.2.2.2
    have P2 := hide o2.pts.2.2.2
    have F1 := hide o1.form.1
    have F2 := hide o2.form.1
    have k1 : n1 ≤ 21 := by have := h1.out; omega
    have k2 : n2 ≤ 21 := by have := h2.out; omega
    have IM := hide (fun (W : World) (hb : Below w1.heap.size w1 W) => iMeet_any ps qs A1 A2 n1 c1 n2 c2 W h1.out h2.out (by omega) (by omega) (P1.out.to hb) (P2.out.to hb))
    have SM := hide (fun (W : World) (hb : Below w1.heap.size w1 W) => sMeet_any ps qs A1 A2 n1 c1 n2 c2 W h1.out h2.out (by omega) (by omega) (P1.out.to hb) (P2.out.to hb))
    have s1 := B1.size
    clear o1 o2 hA cbp cbq
    have E1 := hide (fun (W : World) (hb : Below w1.heap.size w1 W) => iExtreme_any ps 1 0 A1 n1 c1 W h1.out (by omega) (P1.out.to hb))
    have E2 := hide (fun (W : World) (hb : Below w1.heap.size w1 W) => iExtreme_any qs (-1) 0 A2 n2 c2 W h2.out (by omega) (P2.out.to hb))
    have C1 := hide (fun (W : World) (hb : Below w1.heap.size w1 W) => iSupport_any ps 1 0 A1 n1 c1 W h1.out (by omega) (P1.out.to hb))
    have C2 := hide (fun (W : World) (hb : Below w1.heap.size w1 W) => iSupport_any qs (-1) 0 A2 n2 c2 W h2.out (by omega) (P2.out.to hb))
    have hV : (meetOf ps qs != meetOf ps qs) = false := by simp
    have hV2 : (meetOf ps qs == meetOf ps qs) = true := by simp
    have X1 := hide (fun h h' => meet_support (a := ps) (b := qs) ((SupOk.iff _ _ _).2 h) ((SupOk.iff _ _ _).2 h'))
    have X2 := hide (fun h => support_bd ((SupOk.iff ps 1 0).2 h))
    have X3 := hide (fun h => support_bd ((SupOk.iff qs (-1) 0).2 h))
    go_wp2_with fail
    refine (IM.out _ (Below.refl _ _)).mono ?_
    rintro e w' ⟨rfl, hw'⟩; have hzy1 := ext_sz hw'; obtain ⟨y1, rfl⟩ := hw'; (try simp at hzy1)
    go_wp2_with fail
    refine (SM.out _ (by (repeat' (first | (with_reducible exact Below.refl _ _) | (with_reducible assumption) | (with_reducible refine below_ext _ ?_ ?_) | (with_reducible refine Below.alloc ?_ ?_ _) | (with_reducible refine Below.drew ?_) | (with_reducible refine below_drewN ?_ _) | (with_reducible refine le_drewN _ ?_) | (with_reducible refine Below.setCell ?_ ?_ _) | (with_reducible exact Nat.le_refl _) | (with_reducible refine le_ext _ ?_) | (with_reducible refine le_alloc _ ?_) | (with_reducible refine le_setCell _ _ ?_) | (with_reducible refine le_drew ?_) | omega | (simp; done) | (simp; omega))))).mono ?_
    rintro e w' ⟨rfl, hw'⟩; have hzy2 := ext_sz hw'; obtain ⟨y2, rfl⟩ := hw'; (try simp at hzy2)
    by_cases hex1 : extremeOf ps 1 0 < 0
    · have d1 : decide (extremeOf ps 1 0 < 0) = true := decide_eq_true hex1
      clear hex1
      go_wp2_with fail
      refine (E1.out _ (by (repeat' (first | (with_reducible exact Below.refl _ _) | (with_reducible assumption) | (with_reducible refine below_ext _ ?_ ?_) | (with_reducible refine Below.alloc ?_ ?_ _) | (with_reducible refine Below.drew ?_) | (with_reducible refine below_drewN ?_ _) | (with_reducible refine le_drewN _ ?_) | (with_reducible refine Below.setCell ?_ ?_ _) | (with_reducible exact Nat.le_refl _) | (with_reducible refine le_ext _ ?_) | (with_reducible refine le_alloc _ ?_) | (with_reducible refine le_setCell _ _ ?_) | (with_reducible refine le_drew ?_) | omega | (simp; done) | (simp; omega))))).mono ?_
      rintro e w' ⟨rfl, hw'⟩; have hzy3 := ext_sz hw'; obtain ⟨y3, rfl⟩ := hw'; (try simp at hzy3)
      go_wp2_with fail
      refine (SM.out _ (by (repeat' (first | (with_reducible exact Below.refl _ _) | (with_reducible assumption) | (with_reducible refine below_ext _ ?_ ?_) | (with_reducible refine Below.alloc ?_ ?_ _) | (with_reducible refine Below.drew ?_) | (with_reducible refine below_drewN ?_ _) | (with_reducible refine le_drewN _ ?_) | (with_reducible refine Below.setCell ?_ ?_ _) | (with_reducible exact Nat.le_refl _) | (with_reducible refine le_ext _ ?_) | (with_reducible refine le_alloc _ ?_) | (with_reducible refine le_setCell _ _ ?_) | (with_reducible refine le_drew ?_) | omega | (simp; done) | (simp; omega))))).mono ?_
      rintro e w' ⟨rfl, hw'⟩; have hzy9 := ext_sz hw'; obtain ⟨y9, rfl⟩ := hw'; (try simp at hzy9)
      go_wp2
      go_ret
      exact ⟨ret_bool (by simp), B1.trans (Below.mono (by (repeat' (first | (with_reducible exact Below.refl _ _) | (with_reducible assumption) | (with_reducible refine below_ext _ ?_ ?_) | (with_reducible refine Below.alloc ?_ ?_ _) | (with_reducible refine Below.drew ?_) | (with_reducible refine below_drewN ?_ _) | (with_reducible refine le_drewN _ ?_) | (with_reducible refine Below.setCell ?_ ?_ _) | (with_reducible exact Nat.le_refl _) | (with_reducible refine le_ext _ ?_) | (with_reducible refine le_alloc _ ?_) | (with_reducible refine le_setCell _ _ ?_) | (with_reducible refine le_drew ?_) | omega | (simp; done) | (simp; omega)))) s1)⟩
    have d1 : decide (extremeOf ps 1 0 < 0) = false := decide_eq_false hex1
    have b1 := X2.out (by omega)
    go_wp2_with fail
    refine (E1.out _ (by (repeat' (first | (with_reducible exact Below.refl _ _) | (with_reducible assumption) | (with_reducible refine below_ext _ ?_ ?_) | (with_reducible refine Below.alloc ?_ ?_ _) | (with_reducible refine Below.drew ?_) | (with_reducible refine below_drewN ?_ _) | (with_reducible refine le_drewN _ ?_) | (with_reducible refine Below.setCell ?_ ?_ _) | (with_reducible exact Nat.le_refl _) | (with_reducible refine le_ext _ ?_) | (with_reducible refine le_alloc _ ?_) | (with_reducible refine le_setCell _ _ ?_) | (with_reducible refine le_drew ?_) | omega | (simp; done) | (simp; omega))))).mono ?_
    rintro e w' ⟨rfl, hw'⟩; have hzy3 := ext_sz hw'; obtain ⟨y3, rfl⟩ := hw'; (try simp at hzy3)
    by_cases hex2 : extremeOf qs (-1) 0 < 0
    · have d2 : decide (extremeOf qs (-1) 0 < 0) = true := decide_eq_true hex2
      clear hex1 hex2
      go_wp2_with fail
      refine (E2.out _ (by (repeat' (first | (with_reducible exact Below.refl _ _) | (with_reducible assumption) | (with_reducible refine below_ext _ ?_ ?_) | (with_reducible refine Below.alloc ?_ ?_ _) | (with_reducible refine Below.drew ?_) | (with_reducible refine below_drewN ?_ _) | (with_reducible refine le_drewN _ ?_) | (with_reducible refine Below.setCell ?_ ?_ _) | (with_reducible exact Nat.le_refl _) | (with_reducible refine le_ext _ ?_) | (with_reducible refine le_alloc _ ?_) | (with_reducible refine le_setCell _ _ ?_) | (with_reducible refine le_drew ?_) | omega | (simp; done) | (simp; omega))))).mono ?_
      rintro e w' ⟨rfl, hw'⟩; have hzy4 := ext_sz hw'; obtain ⟨y4, rfl⟩ := hw'; (try simp at hzy4)
      go_wp2_with fail
      refine (SM.out _ (by (repeat' (first | (with_reducible exact Below.refl _ _) | (with_reducible assumption) | (with_reducible refine below_ext _ ?_ ?_) | (with_reducible refine Below.alloc ?_ ?_ _) | (with_reducible refine Below.drew ?_) | (with_reducible refine below_drewN ?_ _) | (with_reducible refine le_drewN _ ?_) | (with_reducible refine Below.setCell ?_ ?_ _) | (with_reducible exact Nat.le_refl _) | (with_reducible refine le_ext _ ?_) | (with_reducible refine le_alloc _ ?_) | (with_reducible refine le_setCell _ _ ?_) | (with_reducible refine le_drew ?_) | omega | (simp; done) | (simp; omega))))).mono ?_
      rintro e w' ⟨rfl, hw'⟩; have hzy9 := ext_sz hw'; obtain ⟨y9, rfl⟩ := hw'; (try simp at hzy9)
      go_wp2
      go_ret
      exact ⟨ret_bool (by simp), B1.trans (Below.mono (by (repeat' (first | (with_reducible exact Below.refl _ _) | (with_reducible assumption) | (with_reducible refine below_ext _ ?_ ?_) | (with_reducible refine Below.alloc ?_ ?_ _) | (with_reducible refine Below.drew ?_) | (with_reducible refine below_drewN ?_ _) | (with_reducible refine le_drewN _ ?_) | (with_reducible refine Below.setCell ?_ ?_ _) | (with_reducible exact Nat.le_refl _) | (with_reducible refine le_ext _ ?_) | (with_reducible refine le_alloc _ ?_) | (with_reducible refine le_setCell _ _ ?_) | (with_reducible refine le_drew ?_) | omega | (simp; done) | (simp; omega)))) s1)⟩
    have d2 : decide (extremeOf qs (-1) 0 < 0) = false := decide_eq_false hex2
    have b2 := X3.out (by omega)
    have XM := hide (X1.out (by omega) (by omega))
    clear hex1 hex2 X1 X2 X3
    generalize supportOf ps 1 0 = N at *
    generalize supportOf qs (-1) 0 = M at *
    have CU : Hid (∀ (W : World) (hb : Below w1.heap.size w1 W) (B : Option Addr) (k d : Nat) (x y v : Int), ((B, k, d, x, y, v) = (A1, n1, c1, (1 : Int), (0 : Int), N) ∨ (B, k, d, x, y, v) = (A2, n2, c2, (-1 : Int), (0 : Int), M)) → Calls Try.prog 15 #[.slice B k d, .agg #[.int .i64 x, .int .i64 y]] W fun e w' => e = .returned (.int .i64 v) ∧ ∃ m, w' = ext W m) := hide (fun W hb B k d x y v h => by
      rcases h with h | h
      · simp only [Prod.mk.injEq] at h
        obtain ⟨rfl, rfl, rfl, rfl, rfl, rfl⟩ := h
        exact C1.out W hb
      · simp only [Prod.mk.injEq] at h
        obtain ⟨rfl, rfl, rfl, rfl, rfl, rfl⟩ := h
        exact C2.out W hb)
    have i1 : IntKind.i64.wrap (-M) = -M := IntWalk.i64_in _ (by omega)
    clear C1 C2
    go_wp2_with fail
    refine (E2.out _ (by (repeat' (first | (with_reducible exact Below.refl _ _) | (with_reducible assumption) | (with_reducible refine below_ext _ ?_ ?_) | (with_reducible refine Below.alloc ?_ ?_ _) | (with_reducible refine Below.drew ?_) | (with_reducible refine below_drewN ?_ _) | (with_reducible refine le_drewN _ ?_) | (with_reducible refine Below.setCell ?_ ?_ _) | (with_reducible exact Nat.le_refl _) | (with_reducible refine le_ext _ ?_) | (with_reducible refine le_alloc _ ?_) | (with_reducible refine le_setCell _ _ ?_) | (with_reducible refine le_drew ?_) | omega | (simp; done) | (simp; omega))))).mono ?_
    rintro e w' ⟨rfl, hw'⟩; have hzy4 := ext_sz hw'; obtain ⟨y4, rfl⟩ := hw'; (try simp at hzy4)
    by_cases hge : -M ≤ N
    · have d3 : decide (-M ≤ N) = true := decide_eq_true hge
      clear hge
      go_wp2_with fail
      refine wp_region_ext (by kernel_rfl) (by kernel_rfl) ?_
      repeat (go_big_quiet_step ((first | (go_at_call 15; exact Calls.in_ext (CU.out _ (by (repeat' (first | (with_reducible exact Below.refl _ _) | (with_reducible assumption) | (with_reducible refine below_ext _ ?_ ?_) | (with_reducible refine Below.alloc ?_ ?_ _) | (with_reducible refine Below.drew ?_) | (with_reducible refine below_drewN ?_ _) | (with_reducible refine le_drewN _ ?_) | (with_reducible refine Below.setCell ?_ ?_ _) | (with_reducible exact Nat.le_refl _) | (with_reducible refine le_ext _ ?_) | (with_reducible refine le_alloc _ ?_) | (with_reducible refine le_setCell _ _ ?_) | (with_reducible refine le_drew ?_) | omega | (simp; done) | (simp; omega)))) _ _ _ _ _ _ (by first | exact .inl rfl | exact .inr rfl))))))
      refine wpQuiet_nil ?_
      rintro _ hnq
      have hzq := ext_sz hnq
      obtain ⟨nq, rfl⟩ := hnq
      (try simp at hzq)
      go_wp2
      go_ret
      exact ⟨rfl, B1.trans (Below.mono (by (repeat' (first | (with_reducible exact Below.refl _ _) | (with_reducible assumption) | (with_reducible refine below_ext _ ?_ ?_) | (with_reducible refine Below.alloc ?_ ?_ _) | (with_reducible refine Below.drew ?_) | (with_reducible refine below_drewN ?_ _) | (with_reducible refine le_drewN _ ?_) | (with_reducible refine Below.setCell ?_ ?_ _) | (with_reducible exact Nat.le_refl _) | (with_reducible refine le_ext _ ?_) | (with_reducible refine le_alloc _ ?_) | (with_reducible refine le_setCell _ _ ?_) | (with_reducible refine le_drew ?_) | omega | (simp; done) | (simp; omega)))) s1)⟩
    · have d3 : decide (-M ≤ N) = false := decide_eq_false hge
      have hm : meetOf ps qs = false := by
        rw [← Bool.not_eq_true]; intro h; exact hge (XM.out h)
      clear hge
      go_wp2_with fail
      refine wp_region_ext (by kernel_rfl) (by kernel_rfl) ?_
      repeat (go_big_quiet_step ((first | (go_at_call 15; exact Calls.in_ext (CU.out _ (by (repeat' (first | (with_reducible exact Below.refl _ _) | (with_reducible assumption) | (with_reducible refine below_ext _ ?_ ?_) | (with_reducible refine Below.alloc ?_ ?_ _) | (with_reducible refine Below.drew ?_) | (with_reducible refine below_drewN ?_ _) | (with_reducible refine le_drewN _ ?_) | (with_reducible refine Below.setCell ?_ ?_ _) | (with_reducible exact Nat.le_refl _) | (with_reducible refine le_ext _ ?_) | (with_reducible refine le_alloc _ ?_) | (with_reducible refine le_setCell _ _ ?_) | (with_reducible refine le_drew ?_) | omega | (simp; done) | (simp; omega)))) _ _ _ _ _ _ (by first | exact .inl rfl | exact .inr rfl))))))
      refine wpQuiet_nil ?_
      rintro _ hnq
      have hzq := ext_sz hnq
      obtain ⟨nq, rfl⟩ := hnq
      (try simp at hzq)
      go_wp2
      go_ret
      exact ⟨rfl, B1.trans (Below.mono (by (repeat' (first | (with_reducible exact Below.refl _ _) | (with_reducible assumption) | (with_reducible refine below_ext _ ?_ ?_) | (with_reducible refine Below.alloc ?_ ?_ _) | (with_reducible refine Below.drew ?_) | (with_reducible refine below_drewN ?_ _) | (with_reducible refine le_drewN _ ?_) | (with_reducible refine Below.setCell ?_ ?_ _) | (with_reducible exact Nat.le_refl _) | (with_reducible refine le_ext _ ?_) | (with_reducible refine le_alloc _ ?_) | (with_reducible refine le_setCell _ _ ?_) | (with_reducible refine le_drew ?_) | omega | (simp; done) | (simp; omega)))) s1)⟩
  · skip
    have hd : decide ((1048576 : Int) < (n : Int)) = true := decide_eq_true (by omega)
    go_enter Try.func12, Try.ntmps12
    go_wp2
    go_ret
    exact ⟨rfl, (by (repeat' (first | (with_reducible exact Below.refl _ _) | (with_reducible assumption) | (with_reducible refine below_ext _ ?_ ?_) | (with_reducible refine Below.alloc ?_ ?_ _) | (with_reducible refine Below.drew ?_) | (with_reducible refine below_drewN ?_ _) | (with_reducible refine le_drewN _ ?_) | (with_reducible refine Below.setCell ?_ ?_ _) | (with_reducible exact Nat.le_refl _) | (with_reducible refine le_ext _ ?_) | (with_reducible refine le_alloc _ ?_) | (with_reducible refine le_setCell _ _ ?_) | (with_reducible refine le_drew ?_) | omega | (simp; done) | (simp; omega))))⟩
end Go.Proofs.Ytoendanihhocjaa
