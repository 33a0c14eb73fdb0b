
/- IsDiagonal: the program's and the reference's. -/
import Derived.Test.YtkkmioffclpmfaaGreatDiagI
import Derived.Test.YtkkmioffclpmfaaGreatDiagS
set_option linter.unusedVariables false
set_option linter.unusedSimpArgs false
namespace Go.Proofs.YtkkmioffclpmfaaGreat
open Go.RowKit

def verB (ps : List Pt) (i k : Int) : Bool := simB ps && (inB i 0 ((ps.length : Int) - 1) && inB k 0 ((ps.length : Int) - 1))
def dgB (ps : List Pt) (i k : Int) : Bool := verB ps i k && diagI ps i.toNat k.toNat
theorem verB_iff {ps : List Pt} {i k : Int} : verB ps i k = true ↔ simB ps = true ∧ (0 ≤ i ∧ i < ps.length) ∧ 0 ≤ k ∧ k < ps.length := by
  unfold verB inB
  simp only [Bool.and_eq_true, decide_eq_true_eq]
  constructor
  · rintro ⟨h, ⟨a, b⟩, c, d⟩
    exact ⟨h, ⟨a, by omega⟩, c, by omega⟩
  · rintro ⟨h, ⟨a, b⟩, c, d⟩
    exact ⟨h, ⟨a, by omega⟩, c, by omega⟩
theorem verB_1 {ps : List Pt} {i k : Int} (h : simB ps = false) : verB ps i k = false := by unfold verB; rw [h]; rfl
theorem verB_2 {ps : List Pt} {i k : Int} (h : inB i 0 ((ps.length : Int) - 1) = false) : verB ps i k = false := by unfold verB; rw [h]; simp
theorem verB_3 {ps : List Pt} {i k : Int} (h : simB ps = true) (h2 : inB i 0 ((ps.length : Int) - 1) = true) : verB ps i k = inB k 0 ((ps.length : Int) - 1) := by unfold verB; rw [h, h2]; rfl
theorem dgB_1 {ps : List Pt} {i k : Int} (h : verB ps i k = false) : dgB ps i k = false := by unfold dgB; rw [h]; rfl
theorem dgB_2 {ps : List Pt} {i k : Int} (h : verB ps i k = true) : dgB ps i k = diagI ps i.toNat k.toNat := by unfold dgB; rw [h]; rfl
set_option maxHeartbeats 1000000 in
theorem verIn_any (ps : List Pt) (i k : Int) (A : Option Addr) (n c : Nat) (w : World) (hn : ps.length = n) (hm : n ≤ 2000000) (hA : Plain A n) (hs : PtsAt w w.heap.size A ps) :
    Calls Tryz.prog 47 #[.slice A n c, .int .i64 i, .int .i64 k] w fun e w' => e = .returned (.bool (verB ps i k)) ∧ ∃ x, w' = ext w x := by
  have HC := hide (simple_any ps A n c w hn hm hA hs)
  have i1 : IntKind.i64.wrap ((n : Int) - 1) = (n : Int) - 1 := IntWalk.i64_in _ (by omega)
  have V1 := hide (verB_1 (ps := ps) (i := i) (k := k))
  have V2 := hide (verB_2 (ps := ps) (i := i) (k := k))
  have V3 := hide (verB_3 (ps := ps) (i := i) (k := k))
  rw [hn] at V2 V3
  clear hs hn hA
  by_cases hok : simB ps = true
  · rw [hok] at HC
    by_cases h1 : inB i 0 ((n : Int) - 1) = true
    · have K := hide (V3.out hok h1)
      clear V1 V2 V3 hok
      go_enter Tryz.func47, Tryz.ntmps47
      go_wp2_with fail
      refine HC.out.mono ?_
      rintro e w' ⟨rfl, hw'⟩; have hzy1 := ext_sz hw'; obtain ⟨y1, rfl⟩ := hw'; (try simp at hzy1)
      go_wp2_with fail
      refine (within_any _ _ _ _).mono ?_
      rintro e w' ⟨rfl, rfl⟩
      go_wp2_with fail
      refine (within_any _ _ _ _).mono ?_
      rintro e w' ⟨rfl, rfl⟩
      go_wp2_with fail
      go_ret
      exact ⟨ret_bool K.out.symm, (ext_mk (by (repeat' (first | (with_reducible exact Below.refl _ _) | (with_reducible assumption) | (with_reducible refine below_ext _ ?_ ?_) | (with_reducible refine Below.alloc ?_ ?_ _) | (with_reducible refine Below.drew ?_) | (with_reducible refine below_drewN ?_ _) | (with_reducible refine le_drewN _ ?_) | (with_reducible refine Below.setCell ?_ ?_ _) | (with_reducible exact Nat.le_refl _) | (with_reducible refine le_ext _ ?_) | (with_reducible refine le_alloc _ ?_) | (with_reducible refine le_setCell _ _ ?_) | (with_reducible refine le_drew ?_) | omega | (simp; done) | (simp; omega)))))⟩
    · have h1 := eq_false_of_ne_true h1
      have K := hide (V2.out h1)
      clear V1 V2 V3 hok
      go_enter Tryz.func47, Tryz.ntmps47
      go_wp2_with fail
      refine HC.out.mono ?_
      rintro e w' ⟨rfl, hw'⟩; have hzy1 := ext_sz hw'; obtain ⟨y1, rfl⟩ := hw'; (try simp at hzy1)
      go_wp2_with fail
      refine (within_any _ _ _ _).mono ?_
      rintro e w' ⟨rfl, rfl⟩
      go_wp2_with fail
      go_ret
      exact ⟨ret_bool K.out.symm, (ext_mk (by (repeat' (first | (with_reducible exact Below.refl _ _) | (with_reducible assumption) | (with_reducible refine below_ext _ ?_ ?_) | (with_reducible refine Below.alloc ?_ ?_ _) | (with_reducible refine Below.drew ?_) | (with_reducible refine below_drewN ?_ _) | (with_reducible refine le_drewN _ ?_) | (with_reducible refine Below.setCell ?_ ?_ _) | (with_reducible exact Nat.le_refl _) | (with_reducible refine le_ext _ ?_) | (with_reducible refine le_alloc _ ?_) | (with_reducible refine le_setCell _ _ ?_) | (with_reducible refine le_drew ?_) | omega | (simp; done) | (simp; omega)))))⟩
  · rw [eq_false_of_ne_true hok] at HC
    have K := hide (V1.out (eq_false_of_ne_true hok))
    clear V1 V2 V3 hok
    go_enter Tryz.func47, Tryz.ntmps47
    go_wp2_with fail
    refine HC.out.mono ?_
    rintro e w' ⟨rfl, hw'⟩; have hzy1 := ext_sz hw'; obtain ⟨y1, rfl⟩ := hw'; (try simp at hzy1)
    go_wp2_with fail
    go_ret
    exact ⟨ret_bool K.out.symm, (ext_mk (by (repeat' (first | (with_reducible exact Below.refl _ _) | (with_reducible assumption) | (with_reducible refine below_ext _ ?_ ?_) | (with_reducible refine Below.alloc ?_ ?_ _) | (with_reducible refine Below.drew ?_) | (with_reducible refine below_drewN ?_ _) | (with_reducible refine le_drewN _ ?_) | (with_reducible refine Below.setCell ?_ ?_ _) | (with_reducible exact Nat.le_refl _) | (with_reducible refine le_ext _ ?_) | (with_reducible refine le_alloc _ ?_) | (with_reducible refine le_setCell _ _ ?_) | (with_reducible refine le_drew ?_) | omega | (simp; done) | (simp; omega)))))⟩
set_option maxHeartbeats 1000000 in
theorem iIsDiag_any (ps : List Pt) (i k : Int) (A : Option Addr) (n c : Nat) (w : World) (hn : ps.length = n) (hm : n ≤ 2000000) (hA : Plain A n) (hs : PtsAt w w.heap.size A ps) :
    Calls Tryz.prog 14 #[.slice A n c, .int .i64 i, .int .i64 k] w fun e w' => e = .returned (.bool (dgB ps i k)) ∧ ∃ x, w' = ext w x := by
  have HC := hide (verIn_any ps i k A n c w hn hm hA hs)
  by_cases hv : verB ps i k = true
  · rw [hv] at HC
    obtain ⟨hok, ⟨i0, i1⟩, k0, k1⟩ := verB_iff.1 hv
    obtain ⟨a, rfl⟩ := Int.eq_ofNat_of_zero_le i0
    obtain ⟨b, rfl⟩ := Int.eq_ofNat_of_zero_le k0
    have HD := hide (fun (W : World) (hb : Below w.heap.size w W) => diagonal_any ps a b A n c W hn hok (by omega) (by omega) (hs.to hb))
    have K := hide (dgB_2 hv)
    rw [Int.toNat_natCast, Int.toNat_natCast] at K
    clear hs hn hA hok hv i0 i1 k0 k1
    go_enter Tryz.func14, Tryz.ntmps14
    go_wp2_with fail
    refine HC.out.mono ?_
    rintro e w' ⟨rfl, hw'⟩; have hzy1 := ext_sz hw'; obtain ⟨y1, rfl⟩ := hw'; (try simp at hzy1)
    go_wp2_with fail
    refine (HD.out _ (by (repeat' (first | (with_reducible exact Below.refl _ _) | (with_reducible assumption) | (with_reducible refine below_ext _ ?_ ?_) | (with_reducible refine Below.alloc ?_ ?_ _) | (with_reducible refine Below.drew ?_) | (with_reducible refine below_drewN ?_ _) | (with_reducible refine le_drewN _ ?_) | (with_reducible refine Below.setCell ?_ ?_ _) | (with_reducible exact Nat.le_refl _) | (with_reducible refine le_ext _ ?_) | (with_reducible refine le_alloc _ ?_) | (with_reducible refine le_setCell _ _ ?_) | (with_reducible refine le_drew ?_) | omega | (simp; done) | (simp; omega))))).mono ?_
    rintro e w' ⟨rfl, hw'⟩; have hzy2 := ext_sz hw'; obtain ⟨y2, rfl⟩ := hw'; (try simp at hzy2)
    go_wp2_with fail
    go_ret
    exact ⟨ret_bool K.out.symm, (ext_mk (by (repeat' (first | (with_reducible exact Below.refl _ _) | (with_reducible assumption) | (with_reducible refine below_ext _ ?_ ?_) | (with_reducible refine Below.alloc ?_ ?_ _) | (with_reducible refine Below.drew ?_) | (with_reducible refine below_drewN ?_ _) | (with_reducible refine le_drewN _ ?_) | (with_reducible refine Below.setCell ?_ ?_ _) | (with_reducible exact Nat.le_refl _) | (with_reducible refine le_ext _ ?_) | (with_reducible refine le_alloc _ ?_) | (with_reducible refine le_setCell _ _ ?_) | (with_reducible refine le_drew ?_) | omega | (simp; done) | (simp; omega)))))⟩
  · rw [eq_false_of_ne_true hv] at HC
    have K := hide (dgB_1 (eq_false_of_ne_true hv))
    clear hs hn hA hv
    go_enter Tryz.func14, Tryz.ntmps14
    go_wp2_with fail
    refine HC.out.mono ?_
    rintro e w' ⟨rfl, hw'⟩; have hzy1 := ext_sz hw'; obtain ⟨y1, rfl⟩ := hw'; (try simp at hzy1)
    go_wp2_with fail
    go_ret
    exact ⟨ret_bool K.out.symm, (ext_mk (by (repeat' (first | (with_reducible exact Below.refl _ _) | (with_reducible assumption) | (with_reducible refine below_ext _ ?_ ?_) | (with_reducible refine Below.alloc ?_ ?_ _) | (with_reducible refine Below.drew ?_) | (with_reducible refine below_drewN ?_ _) | (with_reducible refine le_drewN _ ?_) | (with_reducible refine Below.setCell ?_ ?_ _) | (with_reducible exact Nat.le_refl _) | (with_reducible refine le_ext _ ?_) | (with_reducible refine le_alloc _ ?_) | (with_reducible refine le_setCell _ _ ?_) | (with_reducible refine le_drew ?_) | omega | (simp; done) | (simp; omega)))))⟩
end Go.Proofs.YtkkmioffclpmfaaGreat
