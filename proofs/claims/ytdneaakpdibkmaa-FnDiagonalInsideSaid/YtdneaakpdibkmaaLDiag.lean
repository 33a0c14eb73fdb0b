
/- FnIsDiagonal, FnDiagonalInside: the laws' walks. -/
import Derived.Test.YtdneaakpdibkmaaDiagL
import Derived.Test.YtdneaakpdibkmaaDrawD
import Derived.Test.YtdneaakpdibkmaaLoc
set_option linter.unusedVariables false
set_option linter.unusedSimpArgs false
namespace Go.Proofs.Ytdneaakpdibkmaa
open Go.RowKit

set_option maxHeartbeats 400000 in
theorem iSim_any (ps : List Pt) (A : Option Addr) (n c : Nat) (w : World) (hn : ps.length = n) (hm : n ≤ 2000000) (hA : Plain A n) (hs : PtsAt w w.heap.size A ps) :
    Calls Try.prog 30 #[.slice A n c] w fun e w' => e = .returned (.bool (simB ps)) ∧ ∃ x, w' = ext w x := by
  have HC := hide (simple_any ps A n c w hn hm hA hs)
  clear hn hs
  go_enter Try.func30, Try.ntmps30
  go_wp2_with fail
  refine HC.out.mono ?_
  rintro e w' ⟨rfl, hw'⟩; have hzy1 := ext_sz hw'; obtain ⟨y1, rfl⟩ := hw'; (try simp at hzy1)
  go_wp2_with fail
  go_ret
  exact ⟨rfl, (ext_mk (by (repeat' (first | (with_reducible exact Below.refl _ _) | (with_reducible assumption) | (with_reducible refine below_ext _ ?_ ?_) | (with_reducible refine Below.alloc ?_ ?_ _) | (with_reducible refine Below.drew ?_) | (with_reducible refine below_drewN ?_ _) | (with_reducible refine le_drewN _ ?_) | (with_reducible refine Below.setCell ?_ ?_ _) | (with_reducible exact Nat.le_refl _) | (with_reducible refine le_ext _ ?_) | (with_reducible refine le_alloc _ ?_) | (with_reducible refine le_setCell _ _ ?_) | (with_reducible refine le_drew ?_) | omega | (simp; done) | (simp; omega)))))⟩
theorem dgB_symm (ps : List Pt) (i k : Int) : dgB ps k i = dgB ps i k := by
  by_cases h : verB ps i k = true
  · have h' : verB ps k i = true := by rw [verB_iff] at h ⊢; exact ⟨h.1, h.2.2, h.2.1⟩
    obtain ⟨hs, ⟨i0, i1⟩, k0, k1⟩ := verB_iff.1 h
    rw [dgB_2 h, dgB_2 h']
    exact diag_symm (sim_of hs) (by omega) (by omega)
  · have h' : verB ps k i = false := by
      rw [← Bool.not_eq_true]
      intro hh
      exact h (by rw [verB_iff] at hh ⊢; exact ⟨hh.1, hh.2.2, hh.2.1⟩)
    rw [dgB_1 (eq_false_of_ne_true h), dgB_1 h']
theorem dgB_same (ps : List Pt) (i : Nat) : dgB ps i i = false := by
  by_cases h : verB ps i i = true
  · obtain ⟨hs, ⟨i0, i1⟩, _⟩ := verB_iff.1 h
    rw [dgB_2 h]
    refine diagI_no fun hh => ?_
    have := (apart_iff (n := ps.length) (i := i) (k := i) (by have := simB_parts hs; omega) (by omega) (by omega)).1 (by first | exact hh | simpa using hh)
    exact this.1 rfl
  · exact dgB_1 (eq_false_of_ne_true h)
theorem dgB_next (ps : List Pt) (i : Nat) : dgB ps i (((i + 1) % ps.length : Nat) : Int) = false := by
  by_cases h : verB ps i (((i + 1) % ps.length : Nat) : Int) = true
  · obtain ⟨hs, ⟨i0, i1⟩, _⟩ := verB_iff.1 h
    rw [dgB_2 h, Int.toNat_natCast, Int.toNat_natCast]
    have h3 := (simB_parts hs).2.1
    refine diagI_no fun hh => ?_
    exact ((apart_iff h3 (by omega) (Nat.mod_lt _ (by omega))).1 hh).2.1 rfl
  · exact dgB_1 (eq_false_of_ne_true h)
set_option maxHeartbeats 2000000 in
theorem lawIsDiag (n c : Nat) (A : Option Addr) (w : World) (hn : n ≤ c) (hc : c ≤ 9223372036854775807) (hA : BytesAt w w.heap.size A n) :
    Calls Try.prog 6 #[.slice A n c] w fun e w' => e = .returned (.bool true) ∧ Below w.heap.size w w' := by
  by_cases hle : n ≤ 1048576
  · have hd : decide ((1048576 : Int) < (n : Int)) = false := decide_eq_false (by omega)
    go_enter Try.func6, Try.ntmps6
    go_wp2_with fail
    refine (drawIsDiag_any n c A _ hn hc hA).mono ?_
    rintro e w1 ⟨v1, ps, i, k, rfl, o1, lp, cbp, bi, bk, B1⟩
    obtain ⟨A1, n1, c1, rfl⟩ := o1.slice
    have h1 := hide o1.pts.1
    have P1 := hide o1.pts.2.2.2
    have F1 := hide o1.form.1
    have k1 : n1 ≤ 9 := by have := h1.out; omega
    have ID := hide (fun (i k : Int) (W : World) (hb : Below w1.heap.size w1 W) => iIsDiag_any ps i k A1 n1 c1 W h1.out (by omega) F1.out (P1.out.to hb))
    have SD := hide (fun (W : World) (hb : Below w1.heap.size w1 W) => sIsDiag_any ps i k A1 n1 c1 W h1.out (by omega) (P1.out.to hb))
    have IS := hide (fun (W : World) (hb : Below w1.heap.size w1 W) => iSim_any ps A1 n1 c1 W h1.out (by omega) F1.out (P1.out.to hb))
    have s1 := B1.size
    have E1 := hide (dgB_symm ps i k)
    have E2 := hide (dgB_same ps)
    have E3 := hide (dgB_next ps)
    rw [h1.out] at E3
    clear o1 hA cbp
    have V1 : (dgB ps i k != dgB ps i k) = false := by simp
    have V2 : (dgB ps i k == dgB ps i k) = true := by simp
    by_cases hok : simB ps = true
    · rw [hok] at IS
      by_cases i0 : i < 0
      · have d0 : decide (i < 0) = true := decide_eq_true i0
        clear i0
        go_wp2_with fail
        refine (ID.out _ _ _ (Below.refl _ _)).mono ?_
        rintro e w' ⟨rfl, hw'⟩; have hzy1 := ext_sz hw'; obtain ⟨y1, rfl⟩ := hw'; (try simp at hzy1)
        go_wp2_with fail
        refine (SD.out _ (by (repeat' (first | (with_reducible exact Below.refl _ _) | (with_reducible assumption) | (with_reducible refine below_ext _ ?_ ?_) | (with_reducible refine Below.alloc ?_ ?_ _) | (with_reducible refine Below.drew ?_) | (with_reducible refine below_drewN ?_ _) | (with_reducible refine le_drewN _ ?_) | (with_reducible refine Below.setCell ?_ ?_ _) | (with_reducible exact Nat.le_refl _) | (with_reducible refine le_ext _ ?_) | (with_reducible refine le_alloc _ ?_) | (with_reducible refine le_setCell _ _ ?_) | (with_reducible refine le_drew ?_) | omega | (simp; done) | (simp; omega))))).mono ?_
        rintro e w' ⟨rfl, hw'⟩; have hzy2 := ext_sz hw'; obtain ⟨y2, rfl⟩ := hw'; (try simp at hzy2)
        go_wp2_with fail
        refine (IS.out _ (by (repeat' (first | (with_reducible exact Below.refl _ _) | (with_reducible assumption) | (with_reducible refine below_ext _ ?_ ?_) | (with_reducible refine Below.alloc ?_ ?_ _) | (with_reducible refine Below.drew ?_) | (with_reducible refine below_drewN ?_ _) | (with_reducible refine le_drewN _ ?_) | (with_reducible refine Below.setCell ?_ ?_ _) | (with_reducible exact Nat.le_refl _) | (with_reducible refine le_ext _ ?_) | (with_reducible refine le_alloc _ ?_) | (with_reducible refine le_setCell _ _ ?_) | (with_reducible refine le_drew ?_) | omega | (simp; done) | (simp; omega))))).mono ?_
        rintro e w' ⟨rfl, hw'⟩; have hzy3 := ext_sz hw'; obtain ⟨y3, rfl⟩ := hw'; (try simp at hzy3)
        go_wp2_with fail
        refine (SD.out _ (by (repeat' (first | (with_reducible exact Below.refl _ _) | (with_reducible assumption) | (with_reducible refine below_ext _ ?_ ?_) | (with_reducible refine Below.alloc ?_ ?_ _) | (with_reducible refine Below.drew ?_) | (with_reducible refine below_drewN ?_ _) | (with_reducible refine le_drewN _ ?_) | (with_reducible refine Below.setCell ?_ ?_ _) | (with_reducible exact Nat.le_refl _) | (with_reducible refine le_ext _ ?_) | (with_reducible refine le_alloc _ ?_) | (with_reducible refine le_setCell _ _ ?_) | (with_reducible refine le_drew ?_) | omega | (simp; done) | (simp; omega))))).mono ?_
        rintro e w' ⟨rfl, hw'⟩; have hzy4 := ext_sz hw'; obtain ⟨y4, rfl⟩ := hw'; (try simp at hzy4)
        go_wp2_with fail
        go_ret
        exact ⟨rfl, B1.trans (Below.mono (by (repeat' (first | (with_reducible exact Below.refl _ _) | (with_reducible assumption) | (with_reducible refine below_ext _ ?_ ?_) | (with_reducible refine Below.alloc ?_ ?_ _) | (with_reducible refine Below.drew ?_) | (with_reducible refine below_drewN ?_ _) | (with_reducible refine le_drewN _ ?_) | (with_reducible refine Below.setCell ?_ ?_ _) | (with_reducible exact Nat.le_refl _) | (with_reducible refine le_ext _ ?_) | (with_reducible refine le_alloc _ ?_) | (with_reducible refine le_setCell _ _ ?_) | (with_reducible refine le_drew ?_) | omega | (simp; done) | (simp; omega)))) s1)⟩
      · have d0 : decide (i < 0) = false := decide_eq_false i0
        by_cases i1 : (n1 : Int) ≤ i
        · have d1 : decide ((n1 : Int) ≤ i) = true := decide_eq_true i1
          clear i0 i1
          go_wp2_with fail
          refine (ID.out _ _ _ (Below.refl _ _)).mono ?_
          rintro e w' ⟨rfl, hw'⟩; have hzy1 := ext_sz hw'; obtain ⟨y1, rfl⟩ := hw'; (try simp at hzy1)
          go_wp2_with fail
          refine (SD.out _ (by (repeat' (first | (with_reducible exact Below.refl _ _) | (with_reducible assumption) | (with_reducible refine below_ext _ ?_ ?_) | (with_reducible refine Below.alloc ?_ ?_ _) | (with_reducible refine Below.drew ?_) | (with_reducible refine below_drewN ?_ _) | (with_reducible refine le_drewN _ ?_) | (with_reducible refine Below.setCell ?_ ?_ _) | (with_reducible exact Nat.le_refl _) | (with_reducible refine le_ext _ ?_) | (with_reducible refine le_alloc _ ?_) | (with_reducible refine le_setCell _ _ ?_) | (with_reducible refine le_drew ?_) | omega | (simp; done) | (simp; omega))))).mono ?_
          rintro e w' ⟨rfl, hw'⟩; have hzy2 := ext_sz hw'; obtain ⟨y2, rfl⟩ := hw'; (try simp at hzy2)
          go_wp2_with fail
          refine (IS.out _ (by (repeat' (first | (with_reducible exact Below.refl _ _) | (with_reducible assumption) | (with_reducible refine below_ext _ ?_ ?_) | (with_reducible refine Below.alloc ?_ ?_ _) | (with_reducible refine Below.drew ?_) | (with_reducible refine below_drewN ?_ _) | (with_reducible refine le_drewN _ ?_) | (with_reducible refine Below.setCell ?_ ?_ _) | (with_reducible exact Nat.le_refl _) | (with_reducible refine le_ext _ ?_) | (with_reducible refine le_alloc _ ?_) | (with_reducible refine le_setCell _ _ ?_) | (with_reducible refine le_drew ?_) | omega | (simp; done) | (simp; omega))))).mono ?_
          rintro e w' ⟨rfl, hw'⟩; have hzy3 := ext_sz hw'; obtain ⟨y3, rfl⟩ := hw'; (try simp at hzy3)
          go_wp2_with fail
          refine (SD.out _ (by (repeat' (first | (with_reducible exact Below.refl _ _) | (with_reducible assumption) | (with_reducible refine below_ext _ ?_ ?_) | (with_reducible refine Below.alloc ?_ ?_ _) | (with_reducible refine Below.drew ?_) | (with_reducible refine below_drewN ?_ _) | (with_reducible refine le_drewN _ ?_) | (with_reducible refine Below.setCell ?_ ?_ _) | (with_reducible exact Nat.le_refl _) | (with_reducible refine le_ext _ ?_) | (with_reducible refine le_alloc _ ?_) | (with_reducible refine le_setCell _ _ ?_) | (with_reducible refine le_drew ?_) | omega | (simp; done) | (simp; omega))))).mono ?_
          rintro e w' ⟨rfl, hw'⟩; have hzy4 := ext_sz hw'; obtain ⟨y4, rfl⟩ := hw'; (try simp at hzy4)
          go_wp2_with fail
          go_ret
          exact ⟨rfl, B1.trans (Below.mono (by (repeat' (first | (with_reducible exact Below.refl _ _) | (with_reducible assumption) | (with_reducible refine below_ext _ ?_ ?_) | (with_reducible refine Below.alloc ?_ ?_ _) | (with_reducible refine Below.drew ?_) | (with_reducible refine below_drewN ?_ _) | (with_reducible refine le_drewN _ ?_) | (with_reducible refine Below.setCell ?_ ?_ _) | (with_reducible exact Nat.le_refl _) | (with_reducible refine le_ext _ ?_) | (with_reducible refine le_alloc _ ?_) | (with_reducible refine le_setCell _ _ ?_) | (with_reducible refine le_drew ?_) | omega | (simp; done) | (simp; omega)))) s1)⟩
        · have d1 : decide ((n1 : Int) ≤ i) = false := decide_eq_false i1
          obtain ⟨a, rfl⟩ := Int.eq_ofNat_of_zero_le (show 0 ≤ i by omega)
          obtain ⟨j, hj⟩ : ∃ j, j = (a + 1) % n1 := ⟨_, rfl⟩
          have hjl : j < n1 := by rw [hj]; exact Nat.mod_lt _ (by omega)
          have e2 : Int.tmod ((a : Int) + 1) (n1 : Int) = (j : Int) := by rw [hj]; exact (Int.ofNat_tmod (a + 1) n1).symm
          have j1 : IntKind.i64.wrap ((a : Int) + 1) = (a : Int) + 1 := IntWalk.i64_in _ (by omega)
          have j3 : IntKind.i64.wrap (j : Int) = (j : Int) := IntWalk.i64_in _ (by omega)
          have q5 : ¬ n1 = 0 := by omega
          have E2a := hide (E2.out a)
          have E3a := hide (E3.out a)
          rw [← hj] at E3a
          have i2 : ¬ n1 ≤ a := by omega
          have i3 : a < n1 := by omega
          clear i0 i1 hj E2 E3
          go_wp2_with fail
          refine (ID.out _ _ _ (Below.refl _ _)).mono ?_
          rintro e w' ⟨rfl, hw'⟩; have hzy1 := ext_sz hw'; obtain ⟨y1, rfl⟩ := hw'; (try simp at hzy1)
          go_wp2_with fail
          refine (SD.out _ (by (repeat' (first | (with_reducible exact Below.refl _ _) | (with_reducible assumption) | (with_reducible refine below_ext _ ?_ ?_) | (with_reducible refine Below.alloc ?_ ?_ _) | (with_reducible refine Below.drew ?_) | (with_reducible refine below_drewN ?_ _) | (with_reducible refine le_drewN _ ?_) | (with_reducible refine Below.setCell ?_ ?_ _) | (with_reducible exact Nat.le_refl _) | (with_reducible refine le_ext _ ?_) | (with_reducible refine le_alloc _ ?_) | (with_reducible refine le_setCell _ _ ?_) | (with_reducible refine le_drew ?_) | omega | (simp; done) | (simp; omega))))).mono ?_
          rintro e w' ⟨rfl, hw'⟩; have hzy2 := ext_sz hw'; obtain ⟨y2, rfl⟩ := hw'; (try simp at hzy2)
          go_wp2_with fail
          refine (IS.out _ (by (repeat' (first | (with_reducible exact Below.refl _ _) | (with_reducible assumption) | (with_reducible refine below_ext _ ?_ ?_) | (with_reducible refine Below.alloc ?_ ?_ _) | (with_reducible refine Below.drew ?_) | (with_reducible refine below_drewN ?_ _) | (with_reducible refine le_drewN _ ?_) | (with_reducible refine Below.setCell ?_ ?_ _) | (with_reducible exact Nat.le_refl _) | (with_reducible refine le_ext _ ?_) | (with_reducible refine le_alloc _ ?_) | (with_reducible refine le_setCell _ _ ?_) | (with_reducible refine le_drew ?_) | omega | (simp; done) | (simp; omega))))).mono ?_
          rintro e w' ⟨rfl, hw'⟩; have hzy3 := ext_sz hw'; obtain ⟨y3, rfl⟩ := hw'; (try simp at hzy3)
          go_wp2_with fail
          refine (ID.out _ _ _ (by (repeat' (first | (with_reducible exact Below.refl _ _) | (with_reducible assumption) | (with_reducible refine below_ext _ ?_ ?_) | (with_reducible refine Below.alloc ?_ ?_ _) | (with_reducible refine Below.drew ?_) | (with_reducible refine below_drewN ?_ _) | (with_reducible refine le_drewN _ ?_) | (with_reducible refine Below.setCell ?_ ?_ _) | (with_reducible exact Nat.le_refl _) | (with_reducible refine le_ext _ ?_) | (with_reducible refine le_alloc _ ?_) | (with_reducible refine le_setCell _ _ ?_) | (with_reducible refine le_drew ?_) | omega | (simp; done) | (simp; omega))))).mono ?_
          rintro e w' ⟨rfl, hw'⟩; have hzy4 := ext_sz hw'; obtain ⟨y4, rfl⟩ := hw'; (try simp at hzy4)
          rw [E1.out]
          go_wp2_with fail
          refine (ID.out _ _ _ (by (repeat' (first | (with_reducible exact Below.refl _ _) | (with_reducible assumption) | (with_reducible refine below_ext _ ?_ ?_) | (with_reducible refine Below.alloc ?_ ?_ _) | (with_reducible refine Below.drew ?_) | (with_reducible refine below_drewN ?_ _) | (with_reducible refine le_drewN _ ?_) | (with_reducible refine Below.setCell ?_ ?_ _) | (with_reducible exact Nat.le_refl _) | (with_reducible refine le_ext _ ?_) | (with_reducible refine le_alloc _ ?_) | (with_reducible refine le_setCell _ _ ?_) | (with_reducible refine le_drew ?_) | omega | (simp; done) | (simp; omega))))).mono ?_
          rintro e w' ⟨rfl, hw'⟩; have hzy5 := ext_sz hw'; obtain ⟨y5, rfl⟩ := hw'; (try simp at hzy5)
          rw [E2a.out]
          go_wp2_with fail
          refine (ID.out _ _ _ (by (repeat' (first | (with_reducible exact Below.refl _ _) | (with_reducible assumption) | (with_reducible refine below_ext _ ?_ ?_) | (with_reducible refine Below.alloc ?_ ?_ _) | (with_reducible refine Below.drew ?_) | (with_reducible refine below_drewN ?_ _) | (with_reducible refine le_drewN _ ?_) | (with_reducible refine Below.setCell ?_ ?_ _) | (with_reducible exact Nat.le_refl _) | (with_reducible refine le_ext _ ?_) | (with_reducible refine le_alloc _ ?_) | (with_reducible refine le_setCell _ _ ?_) | (with_reducible refine le_drew ?_) | omega | (simp; done) | (simp; omega))))).mono ?_
          rintro e w' ⟨rfl, hw'⟩; have hzy6 := ext_sz hw'; obtain ⟨y6, rfl⟩ := hw'; (try simp at hzy6)
          rw [E3a.out]
          go_wp2_with fail
          go_ret
          exact ⟨rfl, B1.trans (Below.mono (by (repeat' (first | (with_reducible exact Below.refl _ _) | (with_reducible assumption) | (with_reducible refine below_ext _ ?_ ?_) | (with_reducible refine Below.alloc ?_ ?_ _) | (with_reducible refine Below.drew ?_) | (with_reducible refine below_drewN ?_ _) | (with_reducible refine le_drewN _ ?_) | (with_reducible refine Below.setCell ?_ ?_ _) | (with_reducible exact Nat.le_refl _) | (with_reducible refine le_ext _ ?_) | (with_reducible refine le_alloc _ ?_) | (with_reducible refine le_setCell _ _ ?_) | (with_reducible refine le_drew ?_) | omega | (simp; done) | (simp; omega)))) s1)⟩
    · rw [eq_false_of_ne_true hok] at IS
      go_wp2_with fail
      refine (ID.out _ _ _ (Below.refl _ _)).mono ?_
      rintro e w' ⟨rfl, hw'⟩; have hzy1 := ext_sz hw'; obtain ⟨y1, rfl⟩ := hw'; (try simp at hzy1)
      go_wp2_with fail
      refine (SD.out _ (by (repeat' (first | (with_reducible exact Below.refl _ _) | (with_reducible assumption) | (with_reducible refine below_ext _ ?_ ?_) | (with_reducible refine Below.alloc ?_ ?_ _) | (with_reducible refine Below.drew ?_) | (with_reducible refine below_drewN ?_ _) | (with_reducible refine le_drewN _ ?_) | (with_reducible refine Below.setCell ?_ ?_ _) | (with_reducible exact Nat.le_refl _) | (with_reducible refine le_ext _ ?_) | (with_reducible refine le_alloc _ ?_) | (with_reducible refine le_setCell _ _ ?_) | (with_reducible refine le_drew ?_) | omega | (simp; done) | (simp; omega))))).mono ?_
      rintro e w' ⟨rfl, hw'⟩; have hzy2 := ext_sz hw'; obtain ⟨y2, rfl⟩ := hw'; (try simp at hzy2)
      go_wp2_with fail
      refine (IS.out _ (by (repeat' (first | (with_reducible exact Below.refl _ _) | (with_reducible assumption) | (with_reducible refine below_ext _ ?_ ?_) | (with_reducible refine Below.alloc ?_ ?_ _) | (with_reducible refine Below.drew ?_) | (with_reducible refine below_drewN ?_ _) | (with_reducible refine le_drewN _ ?_) | (with_reducible refine Below.setCell ?_ ?_ _) | (with_reducible exact Nat.le_refl _) | (with_reducible refine le_ext _ ?_) | (with_reducible refine le_alloc _ ?_) | (with_reducible refine le_setCell _ _ ?_) | (with_reducible refine le_drew ?_) | omega | (simp; done) | (simp; omega))))).mono ?_
      rintro e w' ⟨rfl, hw'⟩; have hzy3 := ext_sz hw'; obtain ⟨y3, rfl⟩ := hw'; (try simp at hzy3)
      go_wp2_with fail
      refine (SD.out _ (by (repeat' (first | (with_reducible exact Below.refl _ _) | (with_reducible assumption) | (with_reducible refine below_ext _ ?_ ?_) | (with_reducible refine Below.alloc ?_ ?_ _) | (with_reducible refine Below.drew ?_) | (with_reducible refine below_drewN ?_ _) | (with_reducible refine le_drewN _ ?_) | (with_reducible refine Below.setCell ?_ ?_ _) | (with_reducible exact Nat.le_refl _) | (with_reducible refine le_ext _ ?_) | (with_reducible refine le_alloc _ ?_) | (with_reducible refine le_setCell _ _ ?_) | (with_reducible refine le_drew ?_) | omega | (simp; done) | (simp; omega))))).mono ?_
      rintro e w' ⟨rfl, hw'⟩; have hzy4 := ext_sz hw'; obtain ⟨y4, rfl⟩ := hw'; (try simp at hzy4)
      go_wp2_with fail
      go_ret
      exact ⟨rfl, B1.trans (Below.mono (by (repeat' (first | (with_reducible exact Below.refl _ _) | (with_reducible assumption) | (with_reducible refine below_ext _ ?_ ?_) | (with_reducible refine Below.alloc ?_ ?_ _) | (with_reducible refine Below.drew ?_) | (with_reducible refine below_drewN ?_ _) | (with_reducible refine le_drewN _ ?_) | (with_reducible refine Below.setCell ?_ ?_ _) | (with_reducible exact Nat.le_refl _) | (with_reducible refine le_ext _ ?_) | (with_reducible refine le_alloc _ ?_) | (with_reducible refine le_setCell _ _ ?_) | (with_reducible refine le_drew ?_) | omega | (simp; done) | (simp; omega)))) s1)⟩
  · skip
    have hd : decide ((1048576 : Int) < (n : Int)) = true := decide_eq_true (by omega)
    go_enter Try.func6, Try.ntmps6
    go_wp2
    go_ret
    exact ⟨rfl, (by (repeat' (first | (with_reducible exact Below.refl _ _) | (with_reducible assumption) | (with_reducible refine below_ext _ ?_ ?_) | (with_reducible refine Below.alloc ?_ ?_ _) | (with_reducible refine Below.drew ?_) | (with_reducible refine below_drewN ?_ _) | (with_reducible refine le_drewN _ ?_) | (with_reducible refine Below.setCell ?_ ?_ _) | (with_reducible exact Nat.le_refl _) | (with_reducible refine le_ext _ ?_) | (with_reducible refine le_alloc _ ?_) | (with_reducible refine le_setCell _ _ ?_) | (with_reducible refine le_drew ?_) | omega | (simp; done) | (simp; omega))))⟩
theorem tmod2_bd (x : Int) : -2 ≤ x.tmod 2 ∧ x.tmod 2 ≤ 2 := by
  have h1 := Int.tmod_lt_of_pos x (show (0 : Int) < 2 by omega)
  have h2 := Int.lt_tmod_of_pos x (show (0 : Int) < 2 by omega)
  omega
theorem tdiv2_id (x : Int) : 2 * x.tdiv 2 + x.tmod 2 = x := by first | exact Int.mul_tdiv_add_tmod x 2 | exact Int.tdiv_add_tmod x 2 | omega
theorem locI_sc {k : Int} (hk : 0 < k) (ps : List Pt) (q : Pt) : locI (ps.map (scP k)) (scP k q) = locI ps q := by
  have h1 : onAny (ps.map (scP k)) (scP k q) = onAny ps q := by
    unfold onAny
    rw [List.length_map]
    congr 1
    funext j
    rw [gp_sc, gp_sc, onSeg_sc hk]
  have h2 : ∀ m, cwTo (ps.map (scP k)) (scP k q) m = cwTo ps q m := fun m => by
    unfold cwTo
    congr 1
    funext j
    rw [List.length_map, gp_sc, gp_sc, cw_sc hk]
  unfold locI inK
  rw [h1, h2, List.length_map]
theorem mid_loc {ps : List Pt} {i k : Nat} (h : simB ps = true) (hi : i < ps.length) (hk : k < ps.length) (hd : diagI ps i k = true) {x y : Int} (hx : 2 * x = pX ps i + pX ps k) (hy : 2 * y = pY ps i + pY ps k) : locW ps ⟨x, y⟩ = 1 := by
  have h0 := ((diagI_iff (sim_of h) hi hk).1 hd).2
  have e : midP (gp ps i) (gp ps k) = scP 2 ⟨x, y⟩ := by
    unfold midP scP pX pY at *
    simp only [Pt.mk.injEq]
    omega
  rw [e, locI_sc (by omega)] at h0
  have p3 := simB_P3 h
  have b1 := p3 _ (gp_mem hi)
  have b2 := p3 _ (gp_mem hk)
  rw [locW_3 h ((vP_iff (x := x) (y := y)).2 (by unfold pX pY at *; omega))]
  exact h0
set_option maxHeartbeats 2000000 in
theorem lawDiagIn (n c : Nat) (A : Option Addr) (w : World) (hn : n ≤ c) (hc : c ≤ 9223372036854775807) (hA : BytesAt w w.heap.size A n) :
    Calls Try.prog 7 #[.slice A n c] w fun e w' => e = .returned (.bool true) ∧ Below w.heap.size w w' := by
  by_cases hle : n ≤ 1048576
  · have hd : decide ((1048576 : Int) < (n : Int)) = false := decide_eq_false (by omega)
    go_enter Try.func7, Try.ntmps7
    go_wp2_with fail
    refine (drawIsDiag_any n c A _ hn hc hA).mono ?_
    rintro e w1 ⟨v1, ps, i, k, rfl, o1, lp, cbp, bi, bk, B1⟩
    obtain ⟨A1, n1, c1, rfl⟩ := o1.slice
    have h1 := hide o1.pts.1
    have P1 := hide o1.pts.2.2.2
    have F1 := hide o1.form.1
    have k1 : n1 ≤ 9 := by have := h1.out; omega
    have ID := hide (fun (W : World) (hb : Below w1.heap.size w1 W) => iIsDiag_any ps i k A1 n1 c1 W h1.out (by omega) F1.out (P1.out.to hb))
    have SD := hide (fun (W : World) (hb : Below w1.heap.size w1 W) => sIsDiag_any ps i k A1 n1 c1 W h1.out (by omega) (P1.out.to hb))
    have s1 := B1.size
    clear o1 hA cbp
    have V1 : (dgB ps i k != dgB ps i k) = false := by simp
    have V2 : (dgB ps i k == dgB ps i k) = true := by simp
    by_cases hdg : dgB ps i k = true
    · have hv : verB ps i k = true := by
        by_cases h : verB ps i k = true
        · exact h
        · rw [dgB_1 (eq_false_of_ne_true h)] at hdg; cases hdg
      obtain ⟨hok, ⟨i0, i1⟩, k0, k2⟩ := verB_iff.1 hv
      rw [h1.out] at i1 k2
      obtain ⟨a, rfl⟩ := Int.eq_ofNat_of_zero_le i0
      obtain ⟨b, rfl⟩ := Int.eq_ofNat_of_zero_le k0
      have hdI : diagI ps a b = true := by have := dgB_2 hv; rw [hdg] at this; simpa using this.symm
      have p3 := simB_P3 hok
      have ba := p3 _ (gp_mem (show a < ps.length by rw [h1.out]; omega))
      have bb := p3 _ (gp_mem (show b < ps.length by rw [h1.out]; omega))
      have HX1 : -1000 ≤ (pX ps a) ∧ (pX ps a) ≤ 1000 := by unfold pX; omega
      have HX2 : -1000 ≤ (pX ps b) ∧ (pX ps b) ≤ 1000 := by unfold pX; omega
      have HY1 : -1000 ≤ (pY ps a) ∧ (pY ps a) ≤ 1000 := by unfold pY; omega
      have HY2 : -1000 ≤ (pY ps b) ∧ (pY ps b) ≤ 1000 := by unfold pY; omega
      have ML := hide (fun (x y : Int) hx hy => mid_loc hok (show a < ps.length by rw [h1.out]; omega) (show b < ps.length by rw [h1.out]; omega) hdI (x := x) (y := y) hx hy)
      have LO0 := hide (fun (x y : Int) (W : World) (hb : Below w1.heap.size w1 W) => iLocate_any ps x y A1 n1 c1 W h1.out (by omega) F1.out (P1.out.to hb))
      obtain ⟨bk0, o, rfl, hbl, hcs⟩ := P1.out (by rw [h1.out]; omega)
      obtain ⟨xi, yi⟩ := hcs a (by rw [h1.out]; omega)
      obtain ⟨xk, yk⟩ := hcs b (by rw [h1.out]; omega)
      rw [hdg] at ID SD V1 V2
      clear hcs hdI p3 ba bb hok hv hdg P1
      generalize pX ps a = XI at *
      generalize pY ps a = YI at *
      generalize pX ps b = XK at *
      generalize pY ps b = YK at *
      have j1 : IntKind.i64.wrap (XI + XK) = XI + XK := IntWalk.i64_in _ (by omega)
      have j2 : IntKind.i64.wrap (YI + YK) = YI + YK := IntWalk.i64_in _ (by omega)
      go_wp2_with fail
      refine (ID.out _ (Below.refl _ _)).mono ?_
      rintro e w' ⟨rfl, hw'⟩; have hzy1 := ext_sz hw'; obtain ⟨y1, rfl⟩ := hw'; (try simp at hzy1)
      go_wp2_with fail
      refine (SD.out _ (by (repeat' (first | (with_reducible exact Below.refl _ _) | (with_reducible assumption) | (with_reducible refine below_ext _ ?_ ?_) | (with_reducible refine Below.alloc ?_ ?_ _) | (with_reducible refine Below.drew ?_) | (with_reducible refine below_drewN ?_ _) | (with_reducible refine le_drewN _ ?_) | (with_reducible refine Below.setCell ?_ ?_ _) | (with_reducible exact Nat.le_refl _) | (with_reducible refine le_ext _ ?_) | (with_reducible refine le_alloc _ ?_) | (with_reducible refine le_setCell _ _ ?_) | (with_reducible refine le_drew ?_) | omega | (simp; done) | (simp; omega))))).mono ?_
      rintro e w' ⟨rfl, hw'⟩; have hzy2 := ext_sz hw'; obtain ⟨y2, rfl⟩ := hw'; (try simp at hzy2)
      have B3 := hide (show Below w1.heap.size w1 (ext (ext w1 y1) y2) from (by (repeat' (first | (with_reducible exact Below.refl _ _) | (with_reducible assumption) | (with_reducible refine below_ext _ ?_ ?_) | (with_reducible refine Below.alloc ?_ ?_ _) | (with_reducible refine Below.drew ?_) | (with_reducible refine below_drewN ?_ _) | (with_reducible refine le_drewN _ ?_) | (with_reducible refine Below.setCell ?_ ?_ _) | (with_reducible exact Nat.le_refl _) | (with_reducible refine le_ext _ ?_) | (with_reducible refine le_alloc _ ?_) | (with_reducible refine le_setCell _ _ ?_) | (with_reducible refine le_drew ?_) | omega | (simp; done) | (simp; omega)))))
      have g1 := (B3.out.cell (p := ⟨bk0, o + a * 2, none⟩) hbl).trans xi
      have g2 := (B3.out.cell (p := ⟨bk0, o + a * 2 + 1, none⟩) hbl).trans yi
      have g3 := (B3.out.cell (p := ⟨bk0, o + b * 2, none⟩) hbl).trans xk
      have g4 := (B3.out.cell (p := ⟨bk0, o + b * 2 + 1, none⟩) hbl).trans yk
      have SZ := B3.out.size
      have LO := hide (fun (x y : Int) (W : World) (hb : Below (ext (ext w1 y1) y2).heap.size (ext (ext w1 y1) y2) W) => LO0.out x y W (B3.out.trans (hb.mono SZ)))
      clear xi yi xk yk LO0
      generalize ext (ext w1 y1) y2 = W3 at *
      have j3 : IntKind.i64.wrap ((XI + XK).tmod 2) = (XI + XK).tmod 2 := IntWalk.i64_in _ (by have := tmod2_bd (XI + XK); omega)
      have j4 : IntKind.i64.wrap ((YI + YK).tmod 2) = (YI + YK).tmod 2 := IntWalk.i64_in _ (by have := tmod2_bd (YI + YK); omega)
      have j5 : IntKind.i64.wrap ((XI + XK).tdiv 2) = (XI + XK).tdiv 2 := IntWalk.i64_in _ (by have := tmod2_bd (XI + XK); have := tdiv2_id (XI + XK); omega)
      have j6 : IntKind.i64.wrap ((YI + YK).tdiv 2) = (YI + YK).tdiv 2 := IntWalk.i64_in _ (by have := tmod2_bd (YI + YK); have := tdiv2_id (YI + YK); omega)
      have tx : Hid (2 * (XI + XK).tdiv 2 + (XI + XK).tmod 2 = XI + XK) := hide (tdiv2_id _)
      have ty : Hid (2 * (YI + YK).tdiv 2 + (YI + YK).tmod 2 = YI + YK) := hide (tdiv2_id _)
      have r0 : (0 : Int) ≤ (a : Int) := by omega
      have r1 : (0 : Int) ≤ (b : Int) := by omega
      have BF := hide (B1.trans (B3.out.mono s1))
      have sF := BF.out.size
      clear B3 B1 ID SD
      by_cases hx : (XI + XK).tmod 2 = 0
      · have dx : (((XI + XK).tmod 2) != 0) = false := by simp [hx]
        by_cases hy : (YI + YK).tmod 2 = 0
        · have dy : (((YI + YK).tmod 2) != 0) = false := by simp [hy]
          have K := hide (ML.out ((XI + XK).tdiv 2) ((YI + YK).tdiv 2) (by have := tx.out; omega) (by have := ty.out; omega))
          have LO2 := hide (fun (W : World) (hb : Below W3.heap.size W3 W) => LO.out ((XI + XK).tdiv 2) ((YI + YK).tdiv 2) W hb)
          rw [K.out] at LO2
          clear hx hy tx ty ML LO K
          go_wp2_with fail
          go_region
          go_wp2_with fail
          go_region
          go_wp2_with fail
          refine (LO2.out _ (by (repeat' (first | (with_reducible exact Below.refl _ _) | (with_reducible assumption) | (with_reducible refine below_ext _ ?_ ?_) | (with_reducible refine Below.alloc ?_ ?_ _) | (with_reducible refine Below.drew ?_) | (with_reducible refine below_drewN ?_ _) | (with_reducible refine le_drewN _ ?_) | (with_reducible refine Below.setCell ?_ ?_ _) | (with_reducible exact Nat.le_refl _) | (with_reducible refine le_ext _ ?_) | (with_reducible refine le_alloc _ ?_) | (with_reducible refine le_setCell _ _ ?_) | (with_reducible refine le_drew ?_) | omega | (simp; done) | (simp; omega))))).mono ?_
          rintro e w' ⟨rfl, hw'⟩; have hzy9 := ext_sz hw'; obtain ⟨y9, rfl⟩ := hw'; (try simp at hzy9)
          go_wp2_with fail
          go_ret
          exact ⟨rfl, BF.out.trans (Below.mono (by (repeat' (first | (with_reducible exact Below.refl _ _) | (with_reducible assumption) | (with_reducible refine below_ext _ ?_ ?_) | (with_reducible refine Below.alloc ?_ ?_ _) | (with_reducible refine Below.drew ?_) | (with_reducible refine below_drewN ?_ _) | (with_reducible refine le_drewN _ ?_) | (with_reducible refine Below.setCell ?_ ?_ _) | (with_reducible exact Nat.le_refl _) | (with_reducible refine le_ext _ ?_) | (with_reducible refine le_alloc _ ?_) | (with_reducible refine le_setCell _ _ ?_) | (with_reducible refine le_drew ?_) | omega | (simp; done) | (simp; omega)))) sF)⟩
        · have dy : (((YI + YK).tmod 2) != 0) = true := by simp [hy]
          clear hx hy tx ty ML LO
          go_wp2_with fail
          go_region
          go_wp2_with fail
          go_region
          go_wp2_with fail
          go_ret
          exact ⟨rfl, BF.out.trans (Below.mono (by (repeat' (first | (with_reducible exact Below.refl _ _) | (with_reducible assumption) | (with_reducible refine below_ext _ ?_ ?_) | (with_reducible refine Below.alloc ?_ ?_ _) | (with_reducible refine Below.drew ?_) | (with_reducible refine below_drewN ?_ _) | (with_reducible refine le_drewN _ ?_) | (with_reducible refine Below.setCell ?_ ?_ _) | (with_reducible exact Nat.le_refl _) | (with_reducible refine le_ext _ ?_) | (with_reducible refine le_alloc _ ?_) | (with_reducible refine le_setCell _ _ ?_) | (with_reducible refine le_drew ?_) | omega | (simp; done) | (simp; omega)))) sF)⟩
      · have dx : (((XI + XK).tmod 2) != 0) = true := by simp [hx]
        clear hx tx ty ML LO
        go_wp2_with fail
        go_region
        go_wp2_with fail
        go_region
        go_wp2_with fail
        go_ret
        exact ⟨rfl, BF.out.trans (Below.mono (by (repeat' (first | (with_reducible exact Below.refl _ _) | (with_reducible assumption) | (with_reducible refine below_ext _ ?_ ?_) | (with_reducible refine Below.alloc ?_ ?_ _) | (with_reducible refine Below.drew ?_) | (with_reducible refine below_drewN ?_ _) | (with_reducible refine le_drewN _ ?_) | (with_reducible refine Below.setCell ?_ ?_ _) | (with_reducible exact Nat.le_refl _) | (with_reducible refine le_ext _ ?_) | (with_reducible refine le_alloc _ ?_) | (with_reducible refine le_setCell _ _ ?_) | (with_reducible refine le_drew ?_) | omega | (simp; done) | (simp; omega)))) sF)⟩
    · rw [eq_false_of_ne_true hdg] at ID SD V1 V2
      clear hdg
      go_wp2_with fail
      refine (ID.out _ (Below.refl _ _)).mono ?_
      rintro e w' ⟨rfl, hw'⟩; have hzy1 := ext_sz hw'; obtain ⟨y1, rfl⟩ := hw'; (try simp at hzy1)
      go_wp2_with fail
      refine (SD.out _ (by (repeat' (first | (with_reducible exact Below.refl _ _) | (with_reducible assumption) | (with_reducible refine below_ext _ ?_ ?_) | (with_reducible refine Below.alloc ?_ ?_ _) | (with_reducible refine Below.drew ?_) | (with_reducible refine below_drewN ?_ _) | (with_reducible refine le_drewN _ ?_) | (with_reducible refine Below.setCell ?_ ?_ _) | (with_reducible exact Nat.le_refl _) | (with_reducible refine le_ext _ ?_) | (with_reducible refine le_alloc _ ?_) | (with_reducible refine le_setCell _ _ ?_) | (with_reducible refine le_drew ?_) | omega | (simp; done) | (simp; omega))))).mono ?_
      rintro e w' ⟨rfl, hw'⟩; have hzy2 := ext_sz hw'; obtain ⟨y2, rfl⟩ := hw'; (try simp at hzy2)
      go_wp2_with fail
      refine (SD.out _ (by (repeat' (first | (with_reducible exact Below.refl _ _) | (with_reducible assumption) | (with_reducible refine below_ext _ ?_ ?_) | (with_reducible refine Below.alloc ?_ ?_ _) | (with_reducible refine Below.drew ?_) | (with_reducible refine below_drewN ?_ _) | (with_reducible refine le_drewN _ ?_) | (with_reducible refine Below.setCell ?_ ?_ _) | (with_reducible exact Nat.le_refl _) | (with_reducible refine le_ext _ ?_) | (with_reducible refine le_alloc _ ?_) | (with_reducible refine le_setCell _ _ ?_) | (with_reducible refine le_drew ?_) | omega | (simp; done) | (simp; omega))))).mono ?_
      rintro e w' ⟨rfl, hw'⟩; have hzy4 := ext_sz hw'; obtain ⟨y4, rfl⟩ := hw'; (try simp at hzy4)
      go_wp2_with fail
      go_ret
      exact ⟨rfl, B1.trans (Below.mono (by (repeat' (first | (with_reducible exact Below.refl _ _) | (with_reducible assumption) | (with_reducible refine below_ext _ ?_ ?_) | (with_reducible refine Below.alloc ?_ ?_ _) | (with_reducible refine Below.drew ?_) | (with_reducible refine below_drewN ?_ _) | (with_reducible refine le_drewN _ ?_) | (with_reducible refine Below.setCell ?_ ?_ _) | (with_reducible exact Nat.le_refl _) | (with_reducible refine le_ext _ ?_) | (with_reducible refine le_alloc _ ?_) | (with_reducible refine le_setCell _ _ ?_) | (with_reducible refine le_drew ?_) | omega | (simp; done) | (simp; omega)))) s1)⟩
  · skip
    have hd : decide ((1048576 : Int) < (n : Int)) = true := decide_eq_true (by omega)
    go_enter Try.func7, Try.ntmps7
    go_wp2
    go_ret
    exact ⟨rfl, (by (repeat' (first | (with_reducible exact Below.refl _ _) | (with_reducible assumption) | (with_reducible refine below_ext _ ?_ ?_) | (with_reducible refine Below.alloc ?_ ?_ _) | (with_reducible refine Below.drew ?_) | (with_reducible refine below_drewN ?_ _) | (with_reducible refine le_drewN _ ?_) | (with_reducible refine Below.setCell ?_ ?_ _) | (with_reducible exact Nat.le_refl _) | (with_reducible refine le_ext _ ?_) | (with_reducible refine le_alloc _ ?_) | (with_reducible refine le_setCell _ _ ?_) | (with_reducible refine le_drew ?_) | omega | (simp; done) | (simp; omega))))⟩
end Go.Proofs.Ytdneaakpdibkmaa
