
/- The reference's HullsMeet. -/
import Derived.Test.YtoendanihhocjaaWitS
import Derived.Test.YtoendanihhocjaaMeetI
set_option linter.unusedVariables false
set_option linter.unusedSimpArgs false
namespace Go.Proofs.Ytoendanihhocjaa
open Go.RowKit

set_option maxHeartbeats 2000000 in
theorem sMeetNo (a b : List Pt) (A1 A2 : Option Addr) (n1 c1 n2 c2 : Nat) (w : World) (h1 : a.length = n1) (h2 : b.length = n2) (m1 : n1 ≤ 2000000) (m2 : n2 ≤ 2000000) (s1 : PtsAt w w.heap.size A1 a) (s2 : PtsAt w w.heap.size A2 b) (hB : bothL a b = false) :
    Calls Try.prog 28 #[.slice A1 n1 c1, .slice A2 n2 c2] w fun e w' => e = .returned (.bool (meetOf a b)) ∧ ∃ x, w' = ext w x := by
  have M := hide (meetOf_no hB)
  by_cases ha : listOk a = true
  · have HC1 : Hid (∀ W, Below w.heap.size w W → Calls Try.prog 43 #[.slice A1 n1 c1] W fun e w' => e = .returned (.bool true) ∧ ∃ m, w' = ext W m) := hide (fun W hbw => (validPoints_any a A1 n1 c1 W h1 m1 (s1.to hbw)).mono (fun e w' hh => ⟨by rw [hh.1, ha], hh.2⟩))
    by_cases hb : listOk b = true
    · have HC2 : Hid (∀ W, Below w.heap.size w W → Calls Try.prog 43 #[.slice A2 n2 c2] W fun e w' => e = .returned (.bool true) ∧ ∃ m, w' = ext W m) := hide (fun W hbw => (validPoints_any b A2 n2 c2 W h2 m2 (s2.to hbw)).mono (fun e w' hh => ⟨by rw [hh.1, hb], hh.2⟩))
      by_cases hz1 : n1 = 0
      · subst hz1
        clear hB ha hb h1 h2 s1 s2
        go_enter Try.func28, Try.ntmps28
        go_wp2_with fail
        refine (HC1.out _ (by (repeat' (first | (with_reducible exact Below.refl _ _) | (with_reducible assumption) | (with_reducible refine below_ext _ ?_ ?_) | (with_reducible refine Below.alloc ?_ ?_ _) | (with_reducible refine Below.drew ?_) | (with_reducible refine below_drewN ?_ _) | (with_reducible refine le_drewN _ ?_) | (with_reducible refine Below.setCell ?_ ?_ _) | (with_reducible exact Nat.le_refl _) | (with_reducible refine le_ext _ ?_) | (with_reducible refine le_alloc _ ?_) | (with_reducible refine le_setCell _ _ ?_) | (with_reducible refine le_drew ?_) | omega | (simp; done) | (simp; omega))))).mono ?_
        rintro e w' ⟨rfl, hw'⟩; have hzy1 := ext_sz hw'; obtain ⟨y1, rfl⟩ := hw'; (try simp at hzy1)
        go_wp2_with fail
        refine (HC2.out _ (by (repeat' (first | (with_reducible exact Below.refl _ _) | (with_reducible assumption) | (with_reducible refine below_ext _ ?_ ?_) | (with_reducible refine Below.alloc ?_ ?_ _) | (with_reducible refine Below.drew ?_) | (with_reducible refine below_drewN ?_ _) | (with_reducible refine le_drewN _ ?_) | (with_reducible refine Below.setCell ?_ ?_ _) | (with_reducible exact Nat.le_refl _) | (with_reducible refine le_ext _ ?_) | (with_reducible refine le_alloc _ ?_) | (with_reducible refine le_setCell _ _ ?_) | (with_reducible refine le_drew ?_) | omega | (simp; done) | (simp; omega))))).mono ?_
        rintro e w' ⟨rfl, hw'⟩; have hzy2 := ext_sz hw'; obtain ⟨y2, rfl⟩ := hw'; (try simp at hzy2)
        go_wp2
        go_ret
        exact ⟨ret_bool M.out.symm, (ext_mk (by (repeat' (first | (with_reducible exact Below.refl _ _) | (with_reducible assumption) | (with_reducible refine below_ext _ ?_ ?_) | (with_reducible refine Below.alloc ?_ ?_ _) | (with_reducible refine Below.drew ?_) | (with_reducible refine below_drewN ?_ _) | (with_reducible refine le_drewN _ ?_) | (with_reducible refine Below.setCell ?_ ?_ _) | (with_reducible exact Nat.le_refl _) | (with_reducible refine le_ext _ ?_) | (with_reducible refine le_alloc _ ?_) | (with_reducible refine le_setCell _ _ ?_) | (with_reducible refine le_drew ?_) | omega | (simp; done) | (simp; omega)))))⟩
      · have hza : ((n1 : Int) == 0) = false := by rw [beq_eq_false_iff_ne]; omega
        have hz2 : n2 = 0 := by
          unfold bothL at hB
          rw [ha, hb, h1, h2] at hB
          simp at hB
          omega
        subst hz2
        clear hB ha hb h1 h2 s1 s2 hz1
        go_enter Try.func28, Try.ntmps28
        go_wp2_with fail
        refine (HC1.out _ (by (repeat' (first | (with_reducible exact Below.refl _ _) | (with_reducible assumption) | (with_reducible refine below_ext _ ?_ ?_) | (with_reducible refine Below.alloc ?_ ?_ _) | (with_reducible refine Below.drew ?_) | (with_reducible refine below_drewN ?_ _) | (with_reducible refine le_drewN _ ?_) | (with_reducible refine Below.setCell ?_ ?_ _) | (with_reducible exact Nat.le_refl _) | (with_reducible refine le_ext _ ?_) | (with_reducible refine le_alloc _ ?_) | (with_reducible refine le_setCell _ _ ?_) | (with_reducible refine le_drew ?_) | omega | (simp; done) | (simp; omega))))).mono ?_
        rintro e w' ⟨rfl, hw'⟩; have hzy1 := ext_sz hw'; obtain ⟨y1, rfl⟩ := hw'; (try simp at hzy1)
        go_wp2_with fail
        refine (HC2.out _ (by (repeat' (first | (with_reducible exact Below.refl _ _) | (with_reducible assumption) | (with_reducible refine below_ext _ ?_ ?_) | (with_reducible refine Below.alloc ?_ ?_ _) | (with_reducible refine Below.drew ?_) | (with_reducible refine below_drewN ?_ _) | (with_reducible refine le_drewN _ ?_) | (with_reducible refine Below.setCell ?_ ?_ _) | (with_reducible exact Nat.le_refl _) | (with_reducible refine le_ext _ ?_) | (with_reducible refine le_alloc _ ?_) | (with_reducible refine le_setCell _ _ ?_) | (with_reducible refine le_drew ?_) | omega | (simp; done) | (simp; omega))))).mono ?_
        rintro e w' ⟨rfl, hw'⟩; have hzy2 := ext_sz hw'; obtain ⟨y2, rfl⟩ := hw'; (try simp at hzy2)
        go_wp2
        go_ret
        exact ⟨ret_bool M.out.symm, (ext_mk (by (repeat' (first | (with_reducible exact Below.refl _ _) | (with_reducible assumption) | (with_reducible refine below_ext _ ?_ ?_) | (with_reducible refine Below.alloc ?_ ?_ _) | (with_reducible refine Below.drew ?_) | (with_reducible refine below_drewN ?_ _) | (with_reducible refine le_drewN _ ?_) | (with_reducible refine Below.setCell ?_ ?_ _) | (with_reducible exact Nat.le_refl _) | (with_reducible refine le_ext _ ?_) | (with_reducible refine le_alloc _ ?_) | (with_reducible refine le_setCell _ _ ?_) | (with_reducible refine le_drew ?_) | omega | (simp; done) | (simp; omega)))))⟩
    · have hb := eq_false_of_ne_true hb
      have HC2 : Hid (∀ W, Below w.heap.size w W → Calls Try.prog 43 #[.slice A2 n2 c2] W fun e w' => e = .returned (.bool false) ∧ ∃ m, w' = ext W m) := hide (fun W hbw => (validPoints_any b A2 n2 c2 W h2 m2 (s2.to hbw)).mono (fun e w' hh => ⟨by rw [hh.1, hb], hh.2⟩))
      clear hB ha hb h1 h2 s1 s2
      go_enter Try.func28, Try.ntmps28
      go_wp2_with fail
      refine (HC1.out _ (by (repeat' (first | (with_reducible exact Below.refl _ _) | (with_reducible assumption) | (with_reducible refine below_ext _ ?_ ?_) | (with_reducible refine Below.alloc ?_ ?_ _) | (with_reducible refine Below.drew ?_) | (with_reducible refine below_drewN ?_ _) | (with_reducible refine le_drewN _ ?_) | (with_reducible refine Below.setCell ?_ ?_ _) | (with_reducible exact Nat.le_refl _) | (with_reducible refine le_ext _ ?_) | (with_reducible refine le_alloc _ ?_) | (with_reducible refine le_setCell _ _ ?_) | (with_reducible refine le_drew ?_) | omega | (simp; done) | (simp; omega))))).mono ?_
      rintro e w' ⟨rfl, hw'⟩; have hzy1 := ext_sz hw'; obtain ⟨y1, rfl⟩ := hw'; (try simp at hzy1)
      go_wp2_with fail
      refine (HC2.out _ (by (repeat' (first | (with_reducible exact Below.refl _ _) | (with_reducible assumption) | (with_reducible refine below_ext _ ?_ ?_) | (with_reducible refine Below.alloc ?_ ?_ _) | (with_reducible refine Below.drew ?_) | (with_reducible refine below_drewN ?_ _) | (with_reducible refine le_drewN _ ?_) | (with_reducible refine Below.setCell ?_ ?_ _) | (with_reducible exact Nat.le_refl _) | (with_reducible refine le_ext _ ?_) | (with_reducible refine le_alloc _ ?_) | (with_reducible refine le_setCell _ _ ?_) | (with_reducible refine le_drew ?_) | omega | (simp; done) | (simp; omega))))).mono ?_
      rintro e w' ⟨rfl, hw'⟩; have hzy2 := ext_sz hw'; obtain ⟨y2, rfl⟩ := hw'; (try simp at hzy2)
      go_wp2
      go_ret
      exact ⟨ret_bool M.out.symm, (ext_mk (by (repeat' (first | (with_reducible exact Below.refl _ _) | (with_reducible assumption) | (with_reducible refine below_ext _ ?_ ?_) | (with_reducible refine Below.alloc ?_ ?_ _) | (with_reducible refine Below.drew ?_) | (with_reducible refine below_drewN ?_ _) | (with_reducible refine le_drewN _ ?_) | (with_reducible refine Below.setCell ?_ ?_ _) | (with_reducible exact Nat.le_refl _) | (with_reducible refine le_ext _ ?_) | (with_reducible refine le_alloc _ ?_) | (with_reducible refine le_setCell _ _ ?_) | (with_reducible refine le_drew ?_) | omega | (simp; done) | (simp; omega)))))⟩
  · have ha := eq_false_of_ne_true ha
    have HC1 : Hid (∀ W, Below w.heap.size w W → Calls Try.prog 43 #[.slice A1 n1 c1] W fun e w' => e = .returned (.bool false) ∧ ∃ m, w' = ext W m) := hide (fun W hbw => (validPoints_any a A1 n1 c1 W h1 m1 (s1.to hbw)).mono (fun e w' hh => ⟨by rw [hh.1, ha], hh.2⟩))
    clear hB ha h1 h2 s1 s2
    go_enter Try.func28, Try.ntmps28
    go_wp2_with fail
    refine (HC1.out _ (by (repeat' (first | (with_reducible exact Below.refl _ _) | (with_reducible assumption) | (with_reducible refine below_ext _ ?_ ?_) | (with_reducible refine Below.alloc ?_ ?_ _) | (with_reducible refine Below.drew ?_) | (with_reducible refine below_drewN ?_ _) | (with_reducible refine le_drewN _ ?_) | (with_reducible refine Below.setCell ?_ ?_ _) | (with_reducible exact Nat.le_refl _) | (with_reducible refine le_ext _ ?_) | (with_reducible refine le_alloc _ ?_) | (with_reducible refine le_setCell _ _ ?_) | (with_reducible refine le_drew ?_) | omega | (simp; done) | (simp; omega))))).mono ?_
    rintro e w' ⟨rfl, hw'⟩; have hzy1 := ext_sz hw'; obtain ⟨y1, rfl⟩ := hw'; (try simp at hzy1)
    go_wp2
    go_ret
    exact ⟨ret_bool M.out.symm, (ext_mk (by (repeat' (first | (with_reducible exact Below.refl _ _) | (with_reducible assumption) | (with_reducible refine below_ext _ ?_ ?_) | (with_reducible refine Below.alloc ?_ ?_ _) | (with_reducible refine Below.drew ?_) | (with_reducible refine below_drewN ?_ _) | (with_reducible refine le_drewN _ ?_) | (with_reducible refine Below.setCell ?_ ?_ _) | (with_reducible exact Nat.le_refl _) | (with_reducible refine le_ext _ ?_) | (with_reducible refine le_alloc _ ?_) | (with_reducible refine le_setCell _ _ ?_) | (with_reducible refine le_drew ?_) | omega | (simp; done) | (simp; omega)))))⟩
set_option maxHeartbeats 2000000 in
theorem sMeetYes (a b : List Pt) (A1 A2 : Option Addr) (n1 c1 n2 c2 : Nat) (w : World) (h1 : a.length = n1) (h2 : b.length = n2) (m1 : n1 ≤ 2000000) (m2 : n2 ≤ 2000000) (s1 : PtsAt w w.heap.size A1 a) (s2 : PtsAt w w.heap.size A2 b) (hB : bothL a b = true) :
    Calls Try.prog 28 #[.slice A1 n1 c1, .slice A2 n2 c2] w fun e w' => e = .returned (.bool (meetOf a b)) ∧ ∃ x, w' = ext w x := by
  have M := hide (meetOf_yes hB)
  obtain ⟨la, lb, ls, ba, bb, bs⟩ := sums_20 (bothL_neg hB)
  rw [List.length_map] at lb
  have BQ := hide (sums_20 hB).2.2.2.2.1
  unfold bothL at hB
  simp only [Bool.and_eq_true] at hB
  obtain ⟨⟨⟨ha, hb⟩, hz1⟩, hz2⟩ := hB
  have hz1 := of_decide_eq_true hz1
  have hz2 := of_decide_eq_true hz2
  have HC1 : Hid (∀ W, Below w.heap.size w W → Calls Try.prog 43 #[.slice A1 n1 c1] W fun e w' => e = .returned (.bool true) ∧ ∃ m, w' = ext W m) := hide (fun W hbw => (validPoints_any a A1 n1 c1 W h1 m1 (s1.to hbw)).mono (fun e w' hh => ⟨by rw [hh.1, ha], hh.2⟩))
  have HC2 : Hid (∀ W, Below w.heap.size w W → Calls Try.prog 43 #[.slice A2 n2 c2] W fun e w' => e = .returned (.bool true) ∧ ∃ m, w' = ext W m) := hide (fun W hbw => (validPoints_any b A2 n2 c2 W h2 m2 (s2.to hbw)).mono (fun e w' hh => ⟨by rw [hh.1, hb], hh.2⟩))
  have HH1 := hide (fun W (hb : Below w.heap.size w W) => shull_any a A1 n1 c1 W h1 (by omega) ba (s1.to hb))
  have LA := hide (hullOf_len' a)
  have LB := hide (hullOf_len' (b.map negP))
  have LMB : Hid ((b.map negP).length = n2) := hide (by rw [List.length_map]; exact h2)
  have BB0 := hide bb
  have BA : Hid (InB (hullOf a)) := hide (fun p hp => ba p (hullOf_sub hp))
  have BB : Hid (InB (hullOf (b.map negP))) := hide (fun p hp => bb p (hullOf_sub hp))
  have BS : Hid (InB (sumsL (hullOf a) (hullOf (b.map negP)))) := hide (fun r hr => by
    obtain ⟨p, q, hp, hq, rfl⟩ := sumsL_mem.1 hr
    exact bs _ (sumsL_mem.2 ⟨p, q, hullOf_sub hp, hullOf_sub hq, rfl⟩))
  have NE : Hid (sumsL a (b.map negP) ≠ []) := hide (fun e => by
    have := sumsL_len a (b.map negP)
    rw [e, List.length_map] at this
    have h3 := Nat.mul_pos hz1 hz2
    simp at this
    omega)
  have BHH : Hid (∀ p ∈ hullOf (sumsL a (b.map negP)), (-100000 ≤ p.x ∧ p.x ≤ 100000) ∧ -100000 ≤ p.y ∧ p.y ≤ 100000) := hide (fun p hp => by
    have := bs p (hullOf_sub hp)
    omega)
  have hza : ((n1 : Int) == 0) = false := by rw [beq_eq_false_iff_ne]; omega
  have hzb : ((n2 : Int) == 0) = false := by rw [beq_eq_false_iff_ne]; omega
  have g1 : n1 ≤ 20 := by omega
  have g2 : n2 ≤ 20 := by omega
  have LA2 : (hullOf a).length ≤ 20 := by have := LA.out; omega
  have LB2 : (hullOf (b.map negP)).length ≤ 20 := by have := LB.out; have := LMB.out; omega
  have HN2 := hide h2
  have HS := hide s1
  have HS2 := hide s2
  clear ha hb h1 h2 s1 s2 ba bb bs hz1 hz2 la lb ls
  go_enter Try.func28, Try.ntmps28
  go_wp2_with fail
  refine (HC1.out _ (by (repeat' (first | (with_reducible exact Below.refl _ _) | (with_reducible assumption) | (with_reducible refine below_ext _ ?_ ?_) | (with_reducible refine Below.alloc ?_ ?_ _) | (with_reducible refine Below.drew ?_) | (with_reducible refine below_drewN ?_ _) | (with_reducible refine le_drewN _ ?_) | (with_reducible refine Below.setCell ?_ ?_ _) | (with_reducible exact Nat.le_refl _) | (with_reducible refine le_ext _ ?_) | (with_reducible refine le_alloc _ ?_) | (with_reducible refine le_setCell _ _ ?_) | (with_reducible refine le_drew ?_) | omega | (simp; done) | (simp; omega))))).mono ?_
  rintro e w' ⟨rfl, hw'⟩; have hzy1 := ext_sz hw'; obtain ⟨y1, rfl⟩ := hw'; (try simp at hzy1)
  go_wp2_with fail
  refine (HC2.out _ (by (repeat' (first | (with_reducible exact Below.refl _ _) | (with_reducible assumption) | (with_reducible refine below_ext _ ?_ ?_) | (with_reducible refine Below.alloc ?_ ?_ _) | (with_reducible refine Below.drew ?_) | (with_reducible refine below_drewN ?_ _) | (with_reducible refine le_drewN _ ?_) | (with_reducible refine Below.setCell ?_ ?_ _) | (with_reducible exact Nat.le_refl _) | (with_reducible refine le_ext _ ?_) | (with_reducible refine le_alloc _ ?_) | (with_reducible refine le_setCell _ _ ?_) | (with_reducible refine le_drew ?_) | omega | (simp; done) | (simp; omega))))).mono ?_
  rintro e w' ⟨rfl, hw'⟩; have hzy2 := ext_sz hw'; obtain ⟨y2, rfl⟩ := hw'; (try simp at hzy2)
  have Bw := (show Below w.heap.size w (ext (ext w y1) y2) from (by (repeat' (first | (with_reducible exact Below.refl _ _) | (with_reducible assumption) | (with_reducible refine below_ext _ ?_ ?_) | (with_reducible refine Below.alloc ?_ ?_ _) | (with_reducible refine Below.drew ?_) | (with_reducible refine below_drewN ?_ _) | (with_reducible refine le_drewN _ ?_) | (with_reducible refine Below.setCell ?_ ?_ _) | (with_reducible exact Nat.le_refl _) | (with_reducible refine le_ext _ ?_) | (with_reducible refine le_alloc _ ?_) | (with_reducible refine le_setCell _ _ ?_) | (with_reducible refine le_drew ?_) | omega | (simp; done) | (simp; omega)))))
  generalize hW : ext (ext w y1) y2 = W1 at *
  clear hW
  have S2 := hide (HS2.out.to Bw)
  go_wp2
  go_loopw [5, 6] (fun u5 u6 wr => ∃ (k : Nat), k ≤ n2 ∧ u6 = .int .i64 k ∧ OwnP wr W1.heap.size u5 ((b.take k).map negP) ∧ Below W1.heap.size W1 wr) (fun _ u6 _ => n2 - (intOf u6).toNat)
  case atStart => exact ⟨0, Nat.zero_le _, rfl, OwnP.empty W1 W1.heap.size 0 (Nat.le_refl _) #[] rfl (by simp [maxLen]), (by (repeat' (first | (with_reducible exact Below.refl _ _) | (with_reducible assumption) | (with_reducible refine below_ext _ ?_ ?_) | (with_reducible refine Below.alloc ?_ ?_ _) | (with_reducible refine Below.drew ?_) | (with_reducible refine below_drewN ?_ _) | (with_reducible refine le_drewN _ ?_) | (with_reducible refine Below.setCell ?_ ?_ _) | (with_reducible exact Nat.le_refl _) | (with_reducible refine le_ext _ ?_) | (with_reducible refine le_alloc _ ?_) | (with_reducible refine le_setCell _ _ ?_) | (with_reducible refine le_drew ?_) | omega | (simp; done) | (simp; omega))))⟩
  case round =>
    obtain ⟨k, hk, rfl, hown, hbel⟩ := hrel
    obtain ⟨A0, n0, c0, rfl⟩ := hown.slice
    have hsz := hbel.size
    have OWN0 := hide hown
    clear hown
    by_cases hlt : k < n2
    · obtain ⟨b1, o1, rfl, hbl1, hc1⟩ := S2.out (by rw [HN2.out]; omega)
      obtain ⟨hx0, hy0⟩ := hc1 k (by rw [HN2.out]; omega)
      obtain ⟨⟨p1, p2⟩, p3, p4⟩ := BQ.out.at (i := k) (by rw [HN2.out]; exact hlt)
      have hx := (hbel.cell (p := ⟨b1, o1 + k * 2, none⟩) hbl1).trans hx0
      have hy := (hbel.cell (p := ⟨b1, o1 + k * 2 + 1, none⟩) hbl1).trans hy0
      clear hc1 hx0 hy0
      have NX := hide (neg_take (b := b) (k := k) (by rw [HN2.out]; exact hlt))
      have NL : ((b.take k).map negP).length ≤ 2000000 := by rw [List.length_map, List.length_take]; omega
      have OD : Hid (∀ o, OwnP (wr.drew.alloc o) W1.heap.size (.slice A0 n0 c0) ((b.take k).map negP)) := hide (fun o => OWN0.out.below (by (repeat' (first | (with_reducible exact Below.refl _ _) | (with_reducible assumption) | (with_reducible refine below_ext _ ?_ ?_) | (with_reducible refine Below.alloc ?_ ?_ _) | (with_reducible refine Below.drew ?_) | (with_reducible refine below_drewN ?_ _) | (with_reducible refine le_drewN _ ?_) | (with_reducible refine Below.setCell ?_ ?_ _) | (with_reducible exact Nat.le_refl _) | (with_reducible refine le_ext _ ?_) | (with_reducible refine le_alloc _ ?_) | (with_reducible refine le_setCell _ _ ?_) | (with_reducible refine le_drew ?_) | omega | (simp; done) | (simp; omega)))))
      have SZ : Hid (∀ o : Obj, W1.heap.size ≤ (wr.drew.alloc o).heap.size) := hide (fun o => by simp; omega)
      have SC : Hid (∀ W : World, (∀ j, j < W1.heap.size → W.heap[j]? = wr.heap[j]?) → W.cell? ⟨b1, o1 + k * 2, none⟩ = some (.int .i64 (pX b k)) ∧ W.cell? ⟨b1, o1 + k * 2 + 1, none⟩ = some (.int .i64 (pY b k))) := hide (fun W hW => ⟨(World.cell?_of_block (hW _ hbl1)).trans hx, (World.cell?_of_block (hW _ hbl1)).trans hy⟩)
      have i2 : IntKind.i64.wrap (k : Int) = k := IntWalk.i64_in _ (by omega)
      have i3 : IntKind.i64.wrap (-pX b k) = -pX b k := IntWalk.i64_in _ (by omega)
      have i4 : IntKind.i64.wrap (-pY b k) = -pY b k := IntWalk.i64_in _ (by omega)
      have q2 : (0 : Int) ≤ (k : Int) := by omega
      have q4 : (k : Int) < (n2 : Int) := by omega
      go_wp2_with fail
      go_region_held3 (fun W => W.cell? ⟨b1, o1 + k * 2, none⟩ = some (.int .i64 (pX b k)) ∧ W.cell? ⟨b1, o1 + k * 2 + 1, none⟩ = some (.int .i64 (pY b k))) (first | exact SC.out _ (fun j _ => rfl) | exact SC.out _ (fun j hj => heap_alloc_old _ _ j (Nat.lt_of_lt_of_le hj hsz)) | exact SC.out _ (fun j hj => (B7.out.block j hj).trans (heap_alloc_old _ _ j (Nat.lt_of_lt_of_le hj hsz)))) (first | (refine step_pt (by rfl) (.tmp 33) (.tmp 47) (by rfl) W1.heap.size (.slice A0 n0 c0) ((b.take k).map negP) (by rfl) (OD.out _) (-pX b k) (-pY b k) _ _ (by rfl) ((heap_cell (heap_alloc_new _ _) 0).trans rfl) ((heap_cell (heap_alloc_new _ _) 1).trans rfl) NL (SZ.out _) ?_; intro v7 w7 hown7 hb7 hat7 hgr7; obtain ⟨A7, n7, c7, rfl⟩ := hown7.slice; have O7 := hide hown7; have B7 := hide hb7; clear hown7 hat7 hgr7 hb7))
      go_wp2_with fail
      exact ⟨⟨k + 1, by omega, by go_num, by rw [NX.out]; exact O7.out, Below.trans (Below.trans hbel (by (repeat' (first | (with_reducible exact Below.refl _ _) | (with_reducible assumption) | (with_reducible refine below_ext _ ?_ ?_) | (with_reducible refine Below.alloc ?_ ?_ _) | (with_reducible refine Below.drew ?_) | (with_reducible refine below_drewN ?_ _) | (with_reducible refine le_drewN _ ?_) | (with_reducible refine Below.setCell ?_ ?_ _) | (with_reducible exact Nat.le_refl _) | (with_reducible refine le_ext _ ?_) | (with_reducible refine le_alloc _ ?_) | (with_reducible refine le_setCell _ _ ?_) | (with_reducible refine le_drew ?_) | omega | (simp; done) | (simp; omega))))) B7.out⟩, by simp [intOf]; omega⟩
    · have hkn : k = n2 := by omega
      subst hkn
      have e0 : b.take k = b := List.take_of_length_le (by rw [HN2.out]; exact Nat.le_refl _)
      have OWN1 : Hid (OwnP wr W1.heap.size (.slice A0 n0 c0) (b.map negP)) := hide (by have := OWN0.out; rw [e0] at this; exact this)
      clear e0 OWN0
      have l0 := hide OWN1.out.pts.1
      have P2 := hide OWN1.out.pts.2.2.2
      have BF := hide (Bw.trans (hbel.mono Bw.size))
      have z0 : n0 ≤ 20 := by have := l0.out; have := LMB.out; omega
      clear OWN1
      go_wp2_with fail
      refine (HH1.out _ BF.out).mono ?_
      rintro e w3 ⟨v3, rfl, hown3, x3, rfl⟩
      obtain ⟨A3, n3, c3, rfl⟩ := hown3.slice
      have l3 := hide hown3.pts.1
      have p3 := hide hown3.pts.2.2.2
      have P2b := hide (P2.out.to (ext_below wr x3))
      clear hown3
      go_wp2_with fail
      refine (shull_any (b.map negP) A0 n0 c0 _ l0.out (by omega) BB0.out P2b.out).mono ?_
      rintro e w4 ⟨v4, rfl, hown4, x4, rfl⟩
      obtain ⟨A4, n4, c4, rfl⟩ := hown4.slice
      have l4 := hide hown4.pts.1
      have p4 := hide hown4.pts.2.2.2
      have p3b := hide (p3.out.to (ext_below _ x4))
      clear hown4
      have z3 : n3 ≤ 20 := by have := l3.out; omega
      have z4 : n4 ≤ 20 := by have := l4.out; omega
      go_wp2_with fail
      refine (ssums_any (hullOf a) (hullOf (b.map negP)) A3 A4 n3 c3 n4 c4 _ l3.out l4.out (by omega) (by omega) BA.out BB.out p3b.out p4.out).mono ?_
      rintro e w5 ⟨v5, rfl, hown5, x5, rfl⟩
      obtain ⟨A5, n5, c5, rfl⟩ := hown5.slice
      have l5 := hide hown5.pts.1
      have p5 := hide hown5.pts.2.2.2
      clear hown5
      have z5 : n5 ≤ 1000 := by
        have h := l5.out
        rw [sumsL_len, l3.out, l4.out] at h
        have := Nat.mul_le_mul z3 z4
        omega
      go_wp2_with fail
      refine (shull_any (sumsL (hullOf a) (hullOf (b.map negP))) A5 n5 c5 _ l5.out z5 BS.out p5.out).mono ?_
      rintro e w6 ⟨v6, rfl, hown6, x6, rfl⟩
      obtain ⟨A6, n6, c6, rfl⟩ := hown6.slice
      rw [← hull_sums] at hown6
      have l6 := hide hown6.pts.1
      have P6 := hide hown6.pts.2.2.2
      have z6 : n6 ≤ 1000 := by
        have h := hullOf_len' (sumsL (hullOf a) (hullOf (b.map negP)))
        rw [← hull_sums, l6.out, l5.out] at h
        omega
      have BF2 := hide (BF.out.trans (show Below w.heap.size wr (ext (ext (ext (ext wr x3) x4) x5) x6) from (by (repeat' (first | (with_reducible exact Below.refl _ _) | (with_reducible assumption) | (with_reducible refine below_ext _ ?_ ?_) | (with_reducible refine Below.alloc ?_ ?_ _) | (with_reducible refine Below.drew ?_) | (with_reducible refine below_drewN ?_ _) | (with_reducible refine le_drewN _ ?_) | (with_reducible refine Below.setCell ?_ ?_ _) | (with_reducible exact Nat.le_refl _) | (with_reducible refine le_ext _ ?_) | (with_reducible refine le_alloc _ ?_) | (with_reducible refine le_setCell _ _ ?_) | (with_reducible refine le_drew ?_) | omega | (simp; done) | (simp; omega))))))
      have WI := hide (wit_iff NE.out)
      generalize hW6 : ext (ext (ext (ext wr x3) x4) x5) x6 = w6 at *
      clear hown6 hW6 p3 p3b p4 p5 P2b P2
      generalize hullOf (sumsL a (b.map negP)) = L at *
      go_wp2_with fail
      refine (switness_any L 0 0 A6 n6 c6 _ l6.out z6 (by omega) (by omega) BHH.out P6.out).mono ?_
      rintro e w7 ⟨v7, zs, rfl, own7, hw7, x7, rfl⟩
      obtain ⟨A7, n7, c7, rfl⟩ := own_slice own7
      have l7 := own7.ints.1
      have RES : Hid (meetOf a b = decide (0 < n7)) := hide (by
        rw [M.out, Bool.eq_iff_iff, ← WI.out, decide_eq_true_eq]
        have h := hw7.pos
        rw [l7] at h
        exact h.symm)
      have s6 := BF2.out.size
      clear own7 hw7 l7
      go_wp2
      go_ret
      exact ⟨ret_bool RES.out.symm, ext_mk (BF2.out.trans (by (repeat' (first | (with_reducible exact Below.refl _ _) | (with_reducible assumption) | (with_reducible refine below_ext _ ?_ ?_) | (with_reducible refine Below.alloc ?_ ?_ _) | (with_reducible refine Below.drew ?_) | (with_reducible refine below_drewN ?_ _) | (with_reducible refine le_drewN _ ?_) | (with_reducible refine Below.setCell ?_ ?_ _) | (with_reducible exact Nat.le_refl _) | (with_reducible refine le_ext _ ?_) | (with_reducible refine le_alloc _ ?_) | (with_reducible refine le_setCell _ _ ?_) | (with_reducible refine le_drew ?_) | omega | (simp; done) | (simp; omega)))))⟩
theorem sMeet_any (a b : List Pt) (A1 A2 : Option Addr) (n1 c1 n2 c2 : Nat) (w : World) (h1 : a.length = n1) (h2 : b.length = n2) (m1 : n1 ≤ 2000000) (m2 : n2 ≤ 2000000) (s1 : PtsAt w w.heap.size A1 a) (s2 : PtsAt w w.heap.size A2 b) :
    Calls Try.prog 28 #[.slice A1 n1 c1, .slice A2 n2 c2] w fun e w' => e = .returned (.bool (meetOf a b)) ∧ ∃ x, w' = ext w x := by
  by_cases hB : bothL a b = true
  · exact sMeetYes a b A1 A2 n1 c1 n2 c2 w h1 h2 m1 m2 s1 s2 hB
  · exact sMeetNo a b A1 A2 n1 c1 n2 c2 w h1 h2 m1 m2 s1 s2 (eq_false_of_ne_true hB)
end Go.Proofs.Ytoendanihhocjaa
