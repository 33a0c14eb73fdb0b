
/- laws.FnSessionWhat returns true. -/
import Derived.Test.YtnddfdhfefconaaGreatDoorSes8
import Derived.Test.YtnddfdhfefconaaGreatDoorDrwX
set_option linter.unusedVariables false
set_option linter.unusedSimpArgs false
namespace Go.Proofs.YtnddfdhfefconaaGreatDoor
open Go.RowKit

def l12 : List UInt8 := [112, 111, 105, 110, 116, 115, 32, 49, 32, 50]
def l1 : List UInt8 := [112, 111, 105, 110, 116, 115, 32, 49]
theorem run_what : runL G8 [qHull, qKd] = [119, 104, 97, 116, 10, 119, 104, 97, 116, 10] := by kernel_rfl
theorem enc_12 : encE [⟨1, 2⟩] = [49, 32, 50] := by kernel_rfl
theorem dec_12 : decL [49, 32, 50] = ([⟨1, 2⟩], true) := by
  have := dec_enc (ps := [⟨1, 2⟩]) (by rw [enc_12]; decide)
  rwa [enc_12] at this
theorem dec_1 : (decL [49]).2 = false := by kernel_rfl
theorem hull_12 : hullL [⟨1, 2⟩] = [⟨1, 2⟩] := by kernel_rfl
theorem run_12 : runL G8 [l12, l1, qHull] = [111, 107, 10, 110, 111, 10, 49, 32, 50, 10] := by
  have s1 : stepL G8 l12 [] = (sOk, [⟨1, 2⟩]) := by
    unfold stepL
    rw [if_pos (by decide), show Lib.trimPrefix l12 qPts = [49, 32, 50] by decide, dec_12]; rfl
  have s2 : stepL G8 l1 [⟨1, 2⟩] = (sNo, [⟨1, 2⟩]) := by
    unfold stepL
    rw [if_pos (by decide), show Lib.trimPrefix l1 qPts = [49] by decide, dec_1]; rfl
  have s3 : stepL G8 qHull [⟨1, 2⟩] = ([49, 32, 50], [⟨1, 2⟩]) := by
    unfold stepL
    rw [if_neg (by decide), if_pos ⟨by decide, by simp⟩, G8_1, hull_12, enc_12]
  show ouN G8 [l12, l1, qHull] 3 = _
  show (((((([] ++ (stepL G8 l12 []).1) ++ [10]) ++ (stepL G8 l1 (stepL G8 l12 []).2).1) ++ [10]) ++ (stepL G8 qHull (stepL G8 l1 (stepL G8 l12 []).2).2).1) ++ [10]) = _
  rw [s1]
  show (((((([] ++ sOk) ++ [10]) ++ (stepL G8 l1 [⟨1, 2⟩]).1) ++ [10]) ++ (stepL G8 qHull (stepL G8 l1 [⟨1, 2⟩]).2).1) ++ [10]) = _
  rw [s2]
  show (((((([] ++ sOk) ++ [10]) ++ sNo) ++ [10]) ++ (stepL G8 qHull [⟨1, 2⟩]).1) ++ [10]) = _
  rw [s3]; rfl
theorem strs_three (W : World) (a b d : List UInt8) : StrsAt (W.alloc (.cells #[.string (bS a), .string (bS b), .string (bS d)] 9)) (W.alloc (.cells #[.string (bS a), .string (bS b), .string (bS d)] 9)).heap.size (some ⟨W.heap.size, 0, none⟩) [a, b, d] := fun _ =>
  ⟨W.heap.size, 0, rfl, by simp, fun i hi => by
    have hi : i < 3 := hi
    match i, hi with
    | 0, _ => exact (heap_cell (heap_alloc_new W _) 0).trans rfl
    | 1, _ => exact (heap_cell (heap_alloc_new W _) 1).trans rfl
    | 2, _ => exact (heap_cell (heap_alloc_new W _) 2).trans rfl⟩
theorem bS_self (l : List UInt8) : ((bS l).toList == (bS l).toList) = true := by
  have := bS_ne l l
  rwa [decide_eq_true rfl] at this
set_option maxRecDepth 20000 in
set_option maxHeartbeats 4000000 in
theorem lawWhat (n c : Nat) (A : Option Addr) (w : World) (hn : n ≤ c) (hc : c ≤ 9223372036854775807) (hA : BytesAt w w.heap.size A n) (ht : Tab w) (hE : Errs w) (hM : MaxL w) :
    Calls Tryz.prog 5 #[.slice A n c] w fun e w' => e = .returned (.bool true) ∧ Below w.heap.size w w' := by
  by_cases hl : n ≤ 1048576
  · have DR := hide (drawRun_any n c A w hn hc hA)
    have RUN := hide (fun (ss : List (List UInt8)) (A' : Option Addr) (n' c' : Nat) (W : World) (hb : Below w.heap.size w W) h1 h2 h3 (h4 : ∀ l ∈ ss, l.length ≤ 1048576) h5 => iRun8 ss A' n' c' W h1 h2 h3 h4 h5 (ht.to hb) (hE.to hb) (hM.to hb))
    have SRN := hide (fun (ss : List (List UInt8)) (A' : Option Addr) (n' c' : Nat) (W : World) h1 h3 (h4 : ∀ l ∈ ss, l.length ≤ 1048576) h5 => sRun8 ss A' n' c' W h1 h3 h4 h5)
    have R1 := hide (fun (W : World) (hb : Below w.heap.size w W) => RUN.out [qHull, qKd] (some ⟨W.heap.size, 0, none⟩) 2 2 (W.alloc (.cells #[.string (bS qHull), .string (bS qKd)] 9)) (hb.trans (((Below.refl _ _).alloc (Nat.le_refl _) _).mono hb.size)) rfl (Nat.le_refl _) (by omega) (by decide) (strs_two W qHull qKd))
    have R2 := hide (fun (W : World) (hb : Below w.heap.size w W) => RUN.out [l12, l1, qHull] (some ⟨W.heap.size, 0, none⟩) 3 3 (W.alloc (.cells #[.string (bS l12), .string (bS l1), .string (bS qHull)] 9)) (hb.trans (((Below.refl _ _).alloc (Nat.le_refl _) _).mono hb.size)) rfl (Nat.le_refl _) (by omega) (by decide) (strs_three W l12 l1 qHull))
    have R3 := hide (fun (W : World) (hb : Below w.heap.size w W) => RUN.out [] (some ⟨W.heap.size, 0, none⟩) 0 0 (W.alloc (.cells #[] 9)) (hb.trans (((Below.refl _ _).alloc (Nat.le_refl _) _).mono hb.size)) rfl (Nat.le_refl _) (by omega) (fun l hl => by cases hl) (fun h => absurd h (Nat.lt_irrefl 0)))
    rw [run_what] at R1
    rw [run_12] at R2
    rw [show runL G8 [] = [] from rfl] at R3
    have L1 : (⟨#[104, 117, 108, 108]⟩ : ByteArray) = bS qHull := rfl
    have L2 : (⟨#[107, 100]⟩ : ByteArray) = bS qKd := rfl
    have L3 : (⟨#[112, 111, 105, 110, 116, 115, 32, 49, 32, 50]⟩ : ByteArray) = bS l12 := rfl
    have L4 : (⟨#[112, 111, 105, 110, 116, 115, 32, 49]⟩ : ByteArray) = bS l1 := rfl
    rw [← L1, ← L2] at R1
    rw [← L1, ← L3, ← L4] at R2
    rw [bS_nil] at R3
    have e1 : (⟨#[]⟩ : ByteArray).toList.isEmpty = true := by rw [ByteArray.toList_eq]; rfl
    have Y1 := lit_yes (l := [119, 104, 97, 116, 10, 119, 104, 97, 116, 10]) (q := [119, 104, 97, 116, 10, 119, 104, 97, 116, 10]) rfl
    have Y2 := lit_yes (l := [111, 107, 10, 110, 111, 10, 49, 32, 50, 10]) (q := [111, 107, 10, 110, 111, 10, 49, 32, 50, 10]) rfl
    clear L1 L2 L3 L4 hA ht hE hM hn hc
    generalize bS [119, 104, 97, 116, 10, 119, 104, 97, 116, 10] = T1 at *
    generalize bS [111, 107, 10, 110, 111, 10, 49, 32, 50, 10] = T2 at *
    go_enter Tryz.func5, Tryz.ntmps5
    go_wp2_with fail
    refine DR.out.mono ?_
    rintro e w1 ⟨v1, ss, rfl, hown, hlen, hlin, B1⟩
    obtain ⟨A1, n1, c1, rfl⟩ := hown.slice
    obtain ⟨l1, q1, q2, p1⟩ := hown.strs
    have hl2 : ∀ l ∈ ss, l.length ≤ 1048576 := fun l hl => by have := hlin l hl; omega
    have IR := hide (RUN.out ss A1 n1 c1 w1 B1 l1 q1 (by unfold maxLen at q2; omega) hl2 p1)
    have SR := hide (fun (W : World) (hb : Below w1.heap.size w1 W) => SRN.out ss A1 n1 c1 W l1 (by omega) hl2 (p1.below hb |> fun h h0 => by
      obtain ⟨b, o, g1, g2, g3⟩ := h h0
      exact ⟨b, o, g1, Nat.lt_of_lt_of_le g2 hb.size, g3⟩))
    have ES := bS_self (runL G8 ss)
    have NE : ((bS (runL G8 ss)).toList != (bS (runL G8 ss)).toList) = false := by rw [bne, ES]; rfl
    clear RUN SRN DR hown p1 hl2 hlin
    generalize bS (runL G8 ss) = R at *
    go_wp2_with fail
    refine IR.out.mono ?_
    rintro e w2 ⟨rfl, hb2⟩
    go_wp2_with fail
    refine (SR.out w2 hb2).mono ?_
    rintro e w3 ⟨rfl, hx⟩
    have F3 := B1.trans ((hb2.trans ((ext_bel hx).mono hb2.size)).mono B1.size)
    clear hx IR SR hb2
    go_wp2_with fail
    refine (R1.out w3 F3).mono ?_
    rintro e w4 ⟨rfl, hb4⟩
    have F4 := F3.trans ((show Below w3.heap.size w3 w4 from Below.trans ((Below.refl _ _).alloc (Nat.le_refl _) _) (hb4.mono (by simp))).mono F3.size)
    clear hb4 R1
    go_wp2_with fail
    refine (R2.out w4 F4).mono ?_
    rintro e w5 ⟨rfl, hb5⟩
    have F5 := F4.trans ((show Below w4.heap.size w4 w5 from Below.trans ((Below.refl _ _).alloc (Nat.le_refl _) _) (hb5.mono (by simp))).mono F4.size)
    clear hb5 R2
    go_wp2_with fail
    refine (R3.out w5 F5).mono ?_
    rintro e w6 ⟨rfl, hb6⟩
    have F6 := F5.trans ((show Below w5.heap.size w5 w6 from Below.trans ((Below.refl _ _).alloc (Nat.le_refl _) _) (hb6.mono (by simp))).mono F5.size)
    clear hb6 R3
    go_wp2_with fail
    go_ret
    exact ⟨rfl, F6⟩
  · have d0 : 1048576 < n := by omega
    go_enter Tryz.func5, Tryz.ntmps5
    go_wp2_with fail
    go_ret
    exact ⟨rfl, (by (repeat' (first | (with_reducible first | exact Below.refl _ _ | assumption | refine below_ext _ ?_ ?_ | refine Below.alloc ?_ ?_ _ | refine Below.drew ?_ | refine below_drewN ?_ _ | refine le_drewN _ ?_ | refine Below.setCell ?_ ?_ _ | exact Nat.le_refl _ | refine le_ext _ ?_ | refine le_alloc _ ?_ | refine le_setCell _ _ ?_ | refine le_drew ?_) | omega | (simp; done) | (simp; omega))))⟩
end Go.Proofs.YtnddfdhfefconaaGreatDoor
