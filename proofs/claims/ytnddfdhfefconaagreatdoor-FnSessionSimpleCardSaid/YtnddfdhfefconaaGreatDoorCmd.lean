
/- The questions for the hull, the area, the points inside and a simple polygon. -/
import Derived.Test.YtnddfdhfefconaaGreatDoorAns
import Derived.Test.YtnddfdhfefconaaGreatDoorAreaI
import Derived.Test.YtnddfdhfefconaaGreatDoorCount
import Derived.Test.YtnddfdhfefconaaGreatDoorSimI
set_option linter.unusedVariables false
set_option linter.unusedSimpArgs false
namespace Go.Proofs.YtnddfdhfefconaaGreatDoor
open Go.RowKit

def sYes : List UInt8 := [121, 101, 115]
/-- What the questions answer; D, C, K, T: to diameter, circle, kd and tree. -/
def ansL (D C K T : List Pt → List UInt8) (l : List UInt8) (ps : List Pt) : List UInt8 :=
  if l = qHull then encE (hullL ps) else if l = qArea then Lib.itoa (hullArea ps) else if l = qInside then Lib.itoa (intr ps) else if l = qSimple then (if simB ps = true then sYes else sNo) else
  if l = qDiameter then D ps else if l = qCircle then C ps else if l = qKd then K ps else if l = qTree then T ps else []
theorem area_big (ps : List Pt) : -400000000000 ≤ hullArea ps ∧ hullArea ps ≤ 400000000000 := by
  unfold hullArea
  split
  · rename_i h
    obtain ⟨h1, h2⟩ := listOk_InB h
    have h3 := hullOf_len' ps
    have := areaTo_bd (ps := hullOf ps) (fun p hp => h1 p (hullOf_sub hp)) _ (Nat.le_refl _)
    unfold areaL
    have h4 : ((hullOf ps).length : Int) ≤ 20 := by omega
    omega
  · omega
theorem intr_big (ps : List Pt) (h : listOk ps = true) : -100000000 ≤ intr ps ∧ intr ps ≤ 100000000 := by
  by_cases hs : simB ps = true
  · obtain ⟨h1, h2⟩ := listOk_1 h
    have h3 : ∀ p ∈ ps, (-1000 ≤ p.x ∧ p.x ≤ 1000) ∧ -1000 ≤ p.y ∧ p.y ≤ 1000 := fun p hp => ok_bd (h2 p hp)
    have a := areaTo_bd3 h3 ps.length (Nat.le_refl _)
    have b := bndTo_bd h3 ps.length (Nat.le_refl _)
    have hl : (ps.length : Int) ≤ 20 := by omega
    rw [intr_2 hs]
    have ab : 0 ≤ absI (areaL ps) ∧ absI (areaL ps) ≤ 40000000 := by
      unfold absI areaL
      split <;> omega
    have bb : 0 ≤ bndL ps ∧ bndL ps ≤ 40000 := by unfold bndL; omega
    exact tdiv2_bd (absI (areaL ps) - bndL ps + 2) (M := 100000000) (by omega)
  · rw [intr_1 (by simpa using hs)]
    omega
theorem big_one {z : Int} (h : -400000000000 ≤ z ∧ z ≤ 400000000000) : Big [z] := fun y hy => by
  rw [List.mem_singleton.1 hy]; omega
theorem encE_len2 (ps : List Pt) : (encE ps).length ≤ 880 := by
  unfold encE
  split
  · rename_i h
    have h1 := listOk_1 h
    have h2 := encL_len h1.2
    omega
  · simp
theorem ansL_short {D C K T : List Pt → List UInt8} (hD : ∀ ps, ps ≠ [] → listOk ps = true → (D ps).length ≤ 100000) (hC : ∀ ps, ps ≠ [] → listOk ps = true → (C ps).length ≤ 100000) (hK : ∀ ps, ps ≠ [] → listOk ps = true → (K ps).length ≤ 100000) (hT : ∀ ps, ps ≠ [] → listOk ps = true → (T ps).length ≤ 100000) (l : List UInt8) (ps : List Pt) (h0 : ps ≠ []) (h : listOk ps = true) : (ansL D C K T l ps).length ≤ 100000 := by
  unfold ansL
  split
  · have := encE_len2 (hullL ps); omega
  split
  · have := area_big ps
    have := itoa_len (hullArea ps) ⟨by omega, by omega⟩
    omega
  split
  · have := intr_big ps h
    have := itoa_len (intr ps) ⟨by omega, by omega⟩
    omega
  split
  · split <;> simp [sYes, sNo]
  split
  · exact hD ps h0 h
  split
  · exact hC ps h0 h
  split
  · exact hK ps h0 h
  split
  · exact hT ps h0 h
  · simp
theorem ints1 (W : World) (z : Int) : IntsAt (W.alloc (.cells #[.int .i64 z] 3)) (W.alloc (.cells #[.int .i64 z] 3)).heap.size (some ⟨W.heap.size, 0, none⟩) [z] := fun _ =>
  ⟨W.heap.size, 0, rfl, by simp, fun i hi => by
    have : i = 0 := by simp at hi; omega
    subst this
    exact (heap_cell (heap_alloc_new W _) 0).trans rfl⟩
set_option maxHeartbeats 1000000 in
theorem q1_any (ps : List Pt) (A : Option Addr) (n c : Nat) (w : World) (hn : ps.length = n) (hok : listOk ps = true) (hs : PtsAt w w.heap.size A ps) (hA : Plain A n) (ht : Tab w) :
    Calls Tryz.prog 87 #[.slice A n c] w fun e w' => e = .returned (.string (bS (encE (hullL ps)))) ∧ ∃ x, w' = ext w x := by
  have h20 := (listOk_1 hok).1
  have HH := hide (iHull_any ps A n c w hn (by omega) hA hs)
  have HL : (hullL ps).length ≤ 20 := by
    unfold hullL; rw [if_pos hok]
    have := hullOf_len' ps
    omega
  have IE := hide (fun (A' : Option Addr) (n' c' : Nat) (W : World) (hb : Below w.heap.size w W) (h1 : (hullL ps).length = n') (h2 : PtsAt W W.heap.size A' (hullL ps)) => iEncL_any (hullL ps) A' n' c' W h1 (by omega) h2 (ht.to hb))
  clear hn hok hs hA ht
  generalize hullL ps = hs at *
  go_enter Tryz.func87, Tryz.ntmps87
  go_wp2_with fail
  refine HH.out.mono ?_
  rintro e w2 ⟨A2, n2, c2, rfl, l2, q2, qb2, pr2, pl2, hx⟩
  have B2 := hide (ext_bel hx)
  have I2 := hide (IE.out A2 n2 c2 w2 B2.out l2 pr2.pts)
  clear hx pr2 IE l2
  go_wp2_with fail
  refine I2.out.mono ?_
  rintro e w' ⟨rfl, hw'⟩; have hzy := ext_sz hw'; obtain ⟨y, rfl⟩ := hw'; (try simp at hzy)
  go_wp2_with fail
  go_ret
  exact ⟨rfl, ext_mk (B2.out.trans (Below.mono (show Below w2.heap.size w2 _ from (by (repeat' (first | (with_reducible first | exact Below.refl _ _ | assumption | refine below_ext _ ?_ ?_ | refine Below.alloc ?_ ?_ _ | refine Below.drew ?_ | refine below_drewN ?_ _ | refine le_drewN _ ?_ | refine Below.setCell ?_ ?_ _ | exact Nat.le_refl _ | refine le_ext _ ?_ | refine le_alloc _ ?_ | refine le_setCell _ _ ?_ | refine le_drew ?_) | omega | (simp; done) | (simp; omega))))) B2.out.size))⟩
set_option maxHeartbeats 1000000 in
theorem q2_any (ps : List Pt) (A : Option Addr) (n c : Nat) (w : World) (hn : ps.length = n) (hok : listOk ps = true) (hs : PtsAt w w.heap.size A ps) (hA : Plain A n) (ht : Tab w) :
    Calls Tryz.prog 88 #[.slice A n c] w fun e w' => e = .returned (.string (bS (Lib.itoa (hullArea ps)))) ∧ ∃ x, w' = ext w x := by
  have h20 := (listOk_1 hok).1
  have HH := hide (iHullArea_any ps A n c w hn (by omega) hA hs)
  have TO := hide (fun (A' : Option Addr) (W : World) (hb : Below w.heap.size w W) (h2 : IntsAt W W.heap.size A' [hullArea ps]) => told_any [hullArea ps] A' 1 1 W rfl (by omega) (big_one (area_big ps)) h2 (ht.to hb))
  have ON := hide ints1
  rw [intsT_one] at TO
  clear hn hok hs hA ht
  generalize hullArea ps = z at *
  go_enter Tryz.func88, Tryz.ntmps88
  go_wp2_with fail
  refine HH.out.mono ?_
  rintro e w' ⟨rfl, hw'⟩; have hzy1 := ext_sz hw'; obtain ⟨y1, rfl⟩ := hw'; (try simp at hzy1)
  go_wp2_with fail
  refine (TO.out _ _ (by (repeat' (first | (with_reducible first | exact Below.refl _ _ | assumption | refine below_ext _ ?_ ?_ | refine Below.alloc ?_ ?_ _ | refine Below.drew ?_ | refine below_drewN ?_ _ | refine le_drewN _ ?_ | refine Below.setCell ?_ ?_ _ | exact Nat.le_refl _ | refine le_ext _ ?_ | refine le_alloc _ ?_ | refine le_setCell _ _ ?_ | refine le_drew ?_) | omega | (simp; done) | (simp; omega)))) (ON.out _ _)).mono ?_
  rintro e w' ⟨rfl, hw'⟩; have hzy2 := ext_sz hw'; obtain ⟨y2, rfl⟩ := hw'; (try simp at hzy2)
  go_wp2_with fail
  go_ret
  exact ⟨rfl, (ext_mk (by (repeat' (first | (with_reducible first | exact Below.refl _ _ | assumption | refine below_ext _ ?_ ?_ | refine Below.alloc ?_ ?_ _ | refine Below.drew ?_ | refine below_drewN ?_ _ | refine le_drewN _ ?_ | refine Below.setCell ?_ ?_ _ | exact Nat.le_refl _ | refine le_ext _ ?_ | refine le_alloc _ ?_ | refine le_setCell _ _ ?_ | refine le_drew ?_) | omega | (simp; done) | (simp; omega)))))⟩
set_option maxHeartbeats 1000000 in
theorem q3_any (ps : List Pt) (A : Option Addr) (n c : Nat) (w : World) (hn : ps.length = n) (hok : listOk ps = true) (hs : PtsAt w w.heap.size A ps) (hA : Plain A n) (ht : Tab w) :
    Calls Tryz.prog 91 #[.slice A n c] w fun e w' => e = .returned (.string (bS (Lib.itoa (intr ps)))) ∧ ∃ x, w' = ext w x := by
  have h20 := (listOk_1 hok).1
  have HH := hide (iInt_any ps A n c w hn (by omega) hA hs)
  have TO := hide (fun (A' : Option Addr) (W : World) (hb : Below w.heap.size w W) (h2 : IntsAt W W.heap.size A' [intr ps]) => told_any [intr ps] A' 1 1 W rfl (by omega) (big_one (by have := intr_big ps hok; omega)) h2 (ht.to hb))
  have ON := hide ints1
  rw [intsT_one] at TO
  clear hn hok hs hA ht
  generalize intr ps = z at *
  go_enter Tryz.func91, Tryz.ntmps91
  go_wp2_with fail
  refine HH.out.mono ?_
  rintro e w' ⟨rfl, hw'⟩; have hzy1 := ext_sz hw'; obtain ⟨y1, rfl⟩ := hw'; (try simp at hzy1)
  go_wp2_with fail
  refine (TO.out _ _ (by (repeat' (first | (with_reducible first | exact Below.refl _ _ | assumption | refine below_ext _ ?_ ?_ | refine Below.alloc ?_ ?_ _ | refine Below.drew ?_ | refine below_drewN ?_ _ | refine le_drewN _ ?_ | refine Below.setCell ?_ ?_ _ | exact Nat.le_refl _ | refine le_ext _ ?_ | refine le_alloc _ ?_ | refine le_setCell _ _ ?_ | refine le_drew ?_) | omega | (simp; done) | (simp; omega)))) (ON.out _ _)).mono ?_
  rintro e w' ⟨rfl, hw'⟩; have hzy2 := ext_sz hw'; obtain ⟨y2, rfl⟩ := hw'; (try simp at hzy2)
  go_wp2_with fail
  go_ret
  exact ⟨rfl, (ext_mk (by (repeat' (first | (with_reducible first | exact Below.refl _ _ | assumption | refine below_ext _ ?_ ?_ | refine Below.alloc ?_ ?_ _ | refine Below.drew ?_ | refine below_drewN ?_ _ | refine le_drewN _ ?_ | refine Below.setCell ?_ ?_ _ | exact Nat.le_refl _ | refine le_ext _ ?_ | refine le_alloc _ ?_ | refine le_setCell _ _ ?_ | refine le_drew ?_) | omega | (simp; done) | (simp; omega)))))⟩
set_option maxHeartbeats 400000 in
theorem iSim4_any (ps : List Pt) (A : Option Addr) (n c : Nat) (w : World) (hn : ps.length = n) (hm : n ≤ 2000000) (hA : Plain A n) (hs : PtsAt w w.heap.size A ps) :
    Calls Tryz.prog 16 #[.slice A n c] w fun e w' => e = .returned (.bool (simB ps)) ∧ ∃ x, w' = ext w x := by
  have HC := hide (simple_any ps A n c w hn hm hA hs)
  clear hn hs
  go_enter Tryz.func16, Tryz.ntmps16
  go_wp2_with fail
  refine HC.out.mono ?_
  rintro e w' ⟨rfl, hw'⟩; have hzy1 := ext_sz hw'; obtain ⟨y1, rfl⟩ := hw'; (try simp at hzy1)
  go_wp2_with fail
  go_ret
  exact ⟨rfl, (ext_mk (by (repeat' (first | (with_reducible first | exact Below.refl _ _ | assumption | refine below_ext _ ?_ ?_ | refine Below.alloc ?_ ?_ _ | refine Below.drew ?_ | refine below_drewN ?_ _ | refine le_drewN _ ?_ | refine Below.setCell ?_ ?_ _ | exact Nat.le_refl _ | refine le_ext _ ?_ | refine le_alloc _ ?_ | refine le_setCell _ _ ?_ | refine le_drew ?_) | omega | (simp; done) | (simp; omega)))))⟩
set_option maxHeartbeats 1000000 in
theorem q4_any (ps : List Pt) (A : Option Addr) (n c : Nat) (w : World) (hn : ps.length = n) (hok : listOk ps = true) (hs : PtsAt w w.heap.size A ps) (hA : Plain A n) :
    Calls Tryz.prog 93 #[.slice A n c] w fun e w' => e = .returned (.string (bS (if simB ps = true then sYes else sNo))) ∧ ∃ x, w' = ext w x := by
  have h20 := (listOk_1 hok).1
  have HH := hide (iSim4_any ps A n c w hn (by omega) hA hs)
  have YS := hide yes_any
  clear hn hok hs hA
  cases hz : simB ps
  · rw [hz] at HH
    clear hz
    go_enter Tryz.func93, Tryz.ntmps93
    go_wp2_with fail
    refine HH.out.mono ?_
    rintro e w' ⟨rfl, hw'⟩; have hzy1 := ext_sz hw'; obtain ⟨y1, rfl⟩ := hw'; (try simp at hzy1)
    go_wp2_with fail
    refine (YS.out _ _ _ _).mono ?_
    rintro e w3 ⟨rfl, rfl⟩
    go_wp2_with fail
    go_ret
    exact ⟨rfl, (ext_mk (by (repeat' (first | (with_reducible first | exact Below.refl _ _ | assumption | refine below_ext _ ?_ ?_ | refine Below.alloc ?_ ?_ _ | refine Below.drew ?_ | refine below_drewN ?_ _ | refine le_drewN _ ?_ | refine Below.setCell ?_ ?_ _ | exact Nat.le_refl _ | refine le_ext _ ?_ | refine le_alloc _ ?_ | refine le_setCell _ _ ?_ | refine le_drew ?_) | omega | (simp; done) | (simp; omega)))))⟩
  · rw [hz] at HH
    clear hz
    go_enter Tryz.func93, Tryz.ntmps93
    go_wp2_with fail
    refine HH.out.mono ?_
    rintro e w' ⟨rfl, hw'⟩; have hzy1 := ext_sz hw'; obtain ⟨y1, rfl⟩ := hw'; (try simp at hzy1)
    go_wp2_with fail
    refine (YS.out _ _ _ _).mono ?_
    rintro e w3 ⟨rfl, rfl⟩
    go_wp2_with fail
    go_ret
    exact ⟨rfl, (ext_mk (by (repeat' (first | (with_reducible first | exact Below.refl _ _ | assumption | refine below_ext _ ?_ ?_ | refine Below.alloc ?_ ?_ _ | refine Below.drew ?_ | refine below_drewN ?_ _ | refine le_drewN _ ?_ | refine Below.setCell ?_ ?_ _ | exact Nat.le_refl _ | refine le_ext _ ?_ | refine le_alloc _ ?_ | refine le_setCell _ _ ?_ | refine le_drew ?_) | omega | (simp; done) | (simp; omega)))))⟩
end Go.Proofs.YtnddfdhfefconaaGreatDoor
