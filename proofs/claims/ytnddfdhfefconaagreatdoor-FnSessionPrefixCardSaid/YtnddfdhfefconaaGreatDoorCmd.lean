
/- The questions for the hull, the area, the points inside and a simple polygon. -/
/- RunSession of the reference, whatever answers. -/
/- The reference's answers: hull, area, inside, simple, and what. -/
/- Sessions of two lines. -/
import Derived.Test.YtnddfdhfefconaaGreatDoorRun
import Derived.Test.YtnddfdhfefconaaGreatDoorHullI
import Derived.Test.YtnddfdhfefconaaGreatDoorSimS
import Derived.Test.YtnddfdhfefconaaGreatDoorSimI
import Derived.Test.YtnddfdhfefconaaGreatDoorDecI
import Derived.Test.YtnddfdhfefconaaGreatDoorSHull
set_option linter.unusedVariables false
set_option linter.unusedSimpArgs false
namespace Go.Proofs.YtnddfdhfefconaaGreatDoor
open Go.RowKit

def sYes : List UInt8 := [121, 101, 115]
/-- What the questions answer; D, C, K, T: to diameter, circle, kd and tree. -/
def ansL (D C K T : List Pt → List UInt8) (l : List UInt8) (ps : List Pt) : List UInt8 :=
  if l = qHull then encE (hullL ps) else if l = qArea then Lib.itoa (hullArea ps) else if l = qInside then Lib.itoa (intr ps) else if l = qSimple then (if simB ps = true then sYes else sNo) else
  if l = qDiameter then D ps else if l = qCircle then C ps else if l = qKd then K ps else if l = qTree then T ps else []
theorem area_big (ps : List Pt) : -400000000000 ≤ hullArea ps ∧ hullArea ps ≤ 400000000000 := by
  unfold hullArea
  split
  · rename_i h
    obtain ⟨h1, h2⟩ := listOk_InB h
    have h3 := hullOf_len' ps
    have := areaTo_bd (ps := hullOf ps) (fun p hp => h1 p (hullOf_sub hp)) _ (Nat.le_refl _)
    unfold areaL
    have h4 : ((hullOf ps).length : Int) ≤ 20 := by omega
    omega
  · omega
theorem intr_big (ps : List Pt) (h : listOk ps = true) : -100000000 ≤ intr ps ∧ intr ps ≤ 100000000 := by
  by_cases hs : simB ps = true
  · obtain ⟨h1, h2⟩ := listOk_1 h
    have h3 : ∀ p ∈ ps, (-1000 ≤ p.x ∧ p.x ≤ 1000) ∧ -1000 ≤ p.y ∧ p.y ≤ 1000 := fun p hp => ok_bd (h2 p hp)
    have a := areaTo_bd3 h3 ps.length (Nat.le_refl _)
    have b := bndTo_bd h3 ps.length (Nat.le_refl _)
    have hl : (ps.length : Int) ≤ 20 := by omega
    rw [intr_2 hs]
    have ab : 0 ≤ absI (areaL ps) ∧ absI (areaL ps) ≤ 40000000 := by
      unfold absI areaL
      split <;> omega
    have bb : 0 ≤ bndL ps ∧ bndL ps ≤ 40000 := by unfold bndL; omega
    exact tdiv2_bd (absI (areaL ps) - bndL ps + 2) (M := 100000000) (by omega)
  · rw [intr_1 (by simpa using hs)]
    omega
theorem big_one {z : Int} (h : -400000000000 ≤ z ∧ z ≤ 400000000000) : Big [z] := fun y hy => by
  rw [List.mem_singleton.1 hy]; omega
theorem encE_len2 (ps : List Pt) : (encE ps).length ≤ 880 := by
  unfold encE
  split
  · rename_i h
    have h1 := listOk_1 h
    have h2 := encL_len h1.2
    omega
  · simp
theorem ansL_short {D C K T : List Pt → List UInt8} (hD : ∀ ps, ps ≠ [] → listOk ps = true → (D ps).length ≤ 100000) (hC : ∀ ps, ps ≠ [] → listOk ps = true → (C ps).length ≤ 100000) (hK : ∀ ps, ps ≠ [] → listOk ps = true → (K ps).length ≤ 100000) (hT : ∀ ps, ps ≠ [] → listOk ps = true → (T ps).length ≤ 100000) (l : List UInt8) (ps : List Pt) (h0 : ps ≠ []) (h : listOk ps = true) : (ansL D C K T l ps).length ≤ 100000 := by
  unfold ansL
  split
  · have := encE_len2 (hullL ps); omega
  split
  · have := area_big ps
    have := itoa_len (hullArea ps) ⟨by omega, by omega⟩
    omega
  split
  · have := intr_big ps h
    have := itoa_len (intr ps) ⟨by omega, by omega⟩
    omega
  split
  · split <;> simp [sYes, sNo]
  split
  · exact hD ps h0 h
  split
  · exact hC ps h0 h
  split
  · exact hK ps h0 h
  split
  · exact hT ps h0 h
  · simp
theorem ints1 (W : World) (z : Int) : IntsAt (W.alloc (.cells #[.int .i64 z] 3)) (W.alloc (.cells #[.int .i64 z] 3)).heap.size (some ⟨W.heap.size, 0, none⟩) [z] := fun _ =>
  ⟨W.heap.size, 0, rfl, by simp, fun i hi => by
    have : i = 0 := by simp at hi; omega
    subst this
    exact (heap_cell (heap_alloc_new W _) 0).trans rfl⟩
set_option maxHeartbeats 1000000 in
theorem q1_any (ps : List Pt) (A : Option Addr) (n c : Nat) (w : World) (hn : ps.length = n) (hok : listOk ps = true) (hs : PtsAt w w.heap.size A ps) (hA : Plain A n) (ht : Tab w) :
    Calls Tryz.prog 87 #[.slice A n c] w fun e w' => e = .returned (.string (bS (encE (hullL ps)))) ∧ ∃ x, w' = ext w x := by
  have h20 := (listOk_1 hok).1
  have HH := hide (iHull_any ps A n c w hn (by omega) hA hs)
  have HL : (hullL ps).length ≤ 20 := by
    unfold hullL; rw [if_pos hok]
    have := hullOf_len' ps
    omega
  have IE := hide (fun (A' : Option Addr) (n' c' : Nat) (W : World) (hb : Below w.heap.size w W) (h1 : (hullL ps).length = n') (h2 : PtsAt W W.heap.size A' (hullL ps)) => iEncL_any (hullL ps) A' n' c' W h1 (by omega) h2 (ht.to hb))
  clear hn hok hs hA ht
  generalize hullL ps = hs at *
  go_enter Tryz.func87, Tryz.ntmps87
  go_wp2_with fail
  refine HH.out.mono ?_
  rintro e w2 ⟨A2, n2, c2, rfl, l2, q2, qb2, pr2, pl2, hx⟩
  have B2 := hide (ext_bel hx)
  have I2 := hide (IE.out A2 n2 c2 w2 B2.out l2 pr2.pts)
  clear hx pr2 IE l2
  go_wp2_with fail
  refine I2.out.mono ?_
  rintro e w' ⟨rfl, hw'⟩; have hzy := ext_sz hw'; obtain ⟨y, rfl⟩ := hw'; (try simp at hzy)
  go_wp2_with fail
  go_ret
  exact ⟨rfl, ext_mk (B2.out.trans (Below.mono (show Below w2.heap.size w2 _ from (by (repeat' (first | (with_reducible first | exact Below.refl _ _ | assumption | refine below_ext _ ?_ ?_ | refine Below.alloc ?_ ?_ _ | refine Below.drew ?_ | refine below_drewN ?_ _ | refine le_drewN _ ?_ | refine Below.setCell ?_ ?_ _ | exact Nat.le_refl _ | refine le_ext _ ?_ | refine le_alloc _ ?_ | refine le_setCell _ _ ?_ | refine le_drew ?_) | omega | (simp; done) | (simp; omega))))) B2.out.size))⟩
set_option maxHeartbeats 1000000 in
theorem q2_any (ps : List Pt) (A : Option Addr) (n c : Nat) (w : World) (hn : ps.length = n) (hok : listOk ps = true) (hs : PtsAt w w.heap.size A ps) (hA : Plain A n) (ht : Tab w) :
    Calls Tryz.prog 88 #[.slice A n c] w fun e w' => e = .returned (.string (bS (Lib.itoa (hullArea ps)))) ∧ ∃ x, w' = ext w x := by
  have h20 := (listOk_1 hok).1
  have HH := hide (iHullArea_any ps A n c w hn (by omega) hA hs)
  have TO := hide (fun (A' : Option Addr) (W : World) (hb : Below w.heap.size w W) (h2 : IntsAt W W.heap.size A' [hullArea ps]) => told_any [hullArea ps] A' 1 1 W rfl (by omega) (big_one (area_big ps)) h2 (ht.to hb))
  have ON := hide ints1
  rw [intsT_one] at TO
  clear hn hok hs hA ht
  generalize hullArea ps = z at *
  go_enter Tryz.func88, Tryz.ntmps88
  go_wp2_with fail
  refine HH.out.mono ?_
  rintro e w' ⟨rfl, hw'⟩; have hzy1 := ext_sz hw'; obtain ⟨y1, rfl⟩ := hw'; (try simp at hzy1)
  go_wp2_with fail
  refine (TO.out _ _ (by (repeat' (first | (with_reducible first | exact Below.refl _ _ | assumption | refine below_ext _ ?_ ?_ | refine Below.alloc ?_ ?_ _ | refine Below.drew ?_ | refine below_drewN ?_ _ | refine le_drewN _ ?_ | refine Below.setCell ?_ ?_ _ | exact Nat.le_refl _ | refine le_ext _ ?_ | refine le_alloc _ ?_ | refine le_setCell _ _ ?_ | refine le_drew ?_) | omega | (simp; done) | (simp; omega)))) (ON.out _ _)).mono ?_
  rintro e w' ⟨rfl, hw'⟩; have hzy2 := ext_sz hw'; obtain ⟨y2, rfl⟩ := hw'; (try simp at hzy2)
  go_wp2_with fail
  go_ret
  exact ⟨rfl, (ext_mk (by (repeat' (first | (with_reducible first | exact Below.refl _ _ | assumption | refine below_ext _ ?_ ?_ | refine Below.alloc ?_ ?_ _ | refine Below.drew ?_ | refine below_drewN ?_ _ | refine le_drewN _ ?_ | refine Below.setCell ?_ ?_ _ | exact Nat.le_refl _ | refine le_ext _ ?_ | refine le_alloc _ ?_ | refine le_setCell _ _ ?_ | refine le_drew ?_) | omega | (simp; done) | (simp; omega)))))⟩
set_option maxHeartbeats 1000000 in
theorem q3_any (ps : List Pt) (A : Option Addr) (n c : Nat) (w : World) (hn : ps.length = n) (hok : listOk ps = true) (hs : PtsAt w w.heap.size A ps) (hA : Plain A n) (ht : Tab w) :
    Calls Tryz.prog 91 #[.slice A n c] w fun e w' => e = .returned (.string (bS (Lib.itoa (intr ps)))) ∧ ∃ x, w' = ext w x := by
  have h20 := (listOk_1 hok).1
  have HH := hide (iInt_any ps A n c w hn (by omega) hA hs)
  have TO := hide (fun (A' : Option Addr) (W : World) (hb : Below w.heap.size w W) (h2 : IntsAt W W.heap.size A' [intr ps]) => told_any [intr ps] A' 1 1 W rfl (by omega) (big_one (by have := intr_big ps hok; omega)) h2 (ht.to hb))
  have ON := hide ints1
  rw [intsT_one] at TO
  clear hn hok hs hA ht
  generalize intr ps = z at *
  go_enter Tryz.func91, Tryz.ntmps91
  go_wp2_with fail
  refine HH.out.mono ?_
  rintro e w' ⟨rfl, hw'⟩; have hzy1 := ext_sz hw'; obtain ⟨y1, rfl⟩ := hw'; (try simp at hzy1)
  go_wp2_with fail
  refine (TO.out _ _ (by (repeat' (first | (with_reducible first | exact Below.refl _ _ | assumption | refine below_ext _ ?_ ?_ | refine Below.alloc ?_ ?_ _ | refine Below.drew ?_ | refine below_drewN ?_ _ | refine le_drewN _ ?_ | refine Below.setCell ?_ ?_ _ | exact Nat.le_refl _ | refine le_ext _ ?_ | refine le_alloc _ ?_ | refine le_setCell _ _ ?_ | refine le_drew ?_) | omega | (simp; done) | (simp; omega)))) (ON.out _ _)).mono ?_
  rintro e w' ⟨rfl, hw'⟩; have hzy2 := ext_sz hw'; obtain ⟨y2, rfl⟩ := hw'; (try simp at hzy2)
  go_wp2_with fail
  go_ret
  exact ⟨rfl, (ext_mk (by (repeat' (first | (with_reducible first | exact Below.refl _ _ | assumption | refine below_ext _ ?_ ?_ | refine Below.alloc ?_ ?_ _ | refine Below.drew ?_ | refine below_drewN ?_ _ | refine le_drewN _ ?_ | refine Below.setCell ?_ ?_ _ | exact Nat.le_refl _ | refine le_ext _ ?_ | refine le_alloc _ ?_ | refine le_setCell _ _ ?_ | refine le_drew ?_) | omega | (simp; done) | (simp; omega)))))⟩
set_option maxHeartbeats 400000 in
theorem iSim4_any (ps : List Pt) (A : Option Addr) (n c : Nat) (w : World) (hn : ps.length = n) (hm : n ≤ 2000000) (hA : Plain A n) (hs : PtsAt w w.heap.size A ps) :
    Calls Tryz.prog 16 #[.slice A n c] w fun e w' => e = .returned (.bool (simB ps)) ∧ ∃ x, w' = ext w x := by
  have HC := hide (simple_any ps A n c w hn hm hA hs)
  clear hn hs
  go_enter Tryz.func16, Tryz.ntmps16
  go_wp2_with fail
  refine HC.out.mono ?_
  rintro e w' ⟨rfl, hw'⟩; have hzy1 := ext_sz hw'; obtain ⟨y1, rfl⟩ := hw'; (try simp at hzy1)
  go_wp2_with fail
  go_ret
  exact ⟨rfl, (ext_mk (by (repeat' (first | (with_reducible first | exact Below.refl _ _ | assumption | refine below_ext _ ?_ ?_ | refine Below.alloc ?_ ?_ _ | refine Below.drew ?_ | refine below_drewN ?_ _ | refine le_drewN _ ?_ | refine Below.setCell ?_ ?_ _ | exact Nat.le_refl _ | refine le_ext _ ?_ | refine le_alloc _ ?_ | refine le_setCell _ _ ?_ | refine le_drew ?_) | omega | (simp; done) | (simp; omega)))))⟩
set_option maxHeartbeats 1000000 in
theorem q4_any (ps : List Pt) (A : Option Addr) (n c : Nat) (w : World) (hn : ps.length = n) (hok : listOk ps = true) (hs : PtsAt w w.heap.size A ps) (hA : Plain A n) :
    Calls Tryz.prog 93 #[.slice A n c] w fun e w' => e = .returned (.string (bS (if simB ps = true then sYes else sNo))) ∧ ∃ x, w' = ext w x := by
  have h20 := (listOk_1 hok).1
  have HH := hide (iSim4_any ps A n c w hn (by omega) hA hs)
  have YS := hide yes_any
  clear hn hok hs hA
  cases hz : simB ps
  · rw [hz] at HH
    clear hz
    go_enter Tryz.func93, Tryz.ntmps93
    go_wp2_with fail
    refine HH.out.mono ?_
    rintro e w' ⟨rfl, hw'⟩; have hzy1 := ext_sz hw'; obtain ⟨y1, rfl⟩ := hw'; (try simp at hzy1)
    go_wp2_with fail
    refine (YS.out _ _ _ _).mono ?_
    rintro e w3 ⟨rfl, rfl⟩
    go_wp2_with fail
    go_ret
    exact ⟨rfl, (ext_mk (by (repeat' (first | (with_reducible first | exact Below.refl _ _ | assumption | refine below_ext _ ?_ ?_ | refine Below.alloc ?_ ?_ _ | refine Below.drew ?_ | refine below_drewN ?_ _ | refine le_drewN _ ?_ | refine Below.setCell ?_ ?_ _ | exact Nat.le_refl _ | refine le_ext _ ?_ | refine le_alloc _ ?_ | refine le_setCell _ _ ?_ | refine le_drew ?_) | omega | (simp; done) | (simp; omega)))))⟩
  · rw [hz] at HH
    clear hz
    go_enter Tryz.func93, Tryz.ntmps93
    go_wp2_with fail
    refine HH.out.mono ?_
    rintro e w' ⟨rfl, hw'⟩; have hzy1 := ext_sz hw'; obtain ⟨y1, rfl⟩ := hw'; (try simp at hzy1)
    go_wp2_with fail
    refine (YS.out _ _ _ _).mono ?_
    rintro e w3 ⟨rfl, rfl⟩
    go_wp2_with fail
    go_ret
    exact ⟨rfl, (ext_mk (by (repeat' (first | (with_reducible first | exact Below.refl _ _ | assumption | refine below_ext _ ?_ ?_ | refine Below.alloc ?_ ?_ _ | refine Below.drew ?_ | refine below_drewN ?_ _ | refine le_drewN _ ?_ | refine Below.setCell ?_ ?_ _ | exact Nat.le_refl _ | refine le_ext _ ?_ | refine le_alloc _ ?_ | refine le_setCell _ _ ?_ | refine le_drew ?_) | omega | (simp; done) | (simp; omega)))))⟩
end Go.Proofs.YtnddfdhfefconaaGreatDoor
namespace Go.Proofs.YtnddfdhfefconaaGreatDoor
open Go.RowKit

def qPoints : List UInt8 := [112, 111, 105, 110, 116, 115]
theorem qPts_list : (bS qPoints).toList = [112, 111, 105, 110, 116, 115] := by rw [ByteArray.toList_eq, bS_list]; rfl
theorem cut_pts {l : List UInt8} : (Lib.hasPrefix l qPts = true → (Lib.cut l [32]).2.2 = true ∧ (Lib.cut l [32]).1 = qPoints ∧ (Lib.cut l [32]).2.1 = Lib.trimPrefix l qPts) ∧
    (Lib.hasPrefix l qPts = false → ¬ ((Lib.cut l [32]).2.2 = true ∧ (Lib.cut l [32]).1 = qPoints)) := by
  have q : qPts = qPoints ++ [32] := rfl
  constructor
  · intro h
    unfold Lib.hasPrefix at h
    rw [List.isPrefixOf_iff_prefix] at h
    obtain ⟨s, hs⟩ := h
    have hp : Lib.hasPrefix l qPts = true := by unfold Lib.hasPrefix; rw [List.isPrefixOf_iff_prefix]; exact ⟨s, hs⟩
    have e : l = qPoints ++ (32 : UInt8) :: s := by rw [← hs, q]; simp
    have c := cut_at (a := qPoints) (b := s) (c := 32) (by decide)
    rw [e, c]
    refine ⟨rfl, rfl, ?_⟩
    unfold Lib.trimPrefix
    rw [← e, if_pos hp, e, q]
    simp
  · intro h ⟨h1, h2⟩
    rcases split_at l 32 with hn | ⟨a, b, e, ha⟩
    · rw [cut_no hn] at h1; cases h1
    · have c := cut_at (a := a) (b := b) (c := 32) ha
      rw [e, c] at h2
      have h2 : a = qPoints := h2
      have : Lib.hasPrefix l qPts = true := by
        unfold Lib.hasPrefix
        rw [List.isPrefixOf_iff_prefix]
        exact ⟨b, by rw [e, h2, q]; simp⟩
      rw [h] at this; cases this
theorem cut_cmd {l : List UInt8} (h : (Lib.cut l [32]).2.2 = true) : cmdFn l = none := by
  rcases split_at l 32 with hn | ⟨a, b, e, ha⟩
  · rw [cut_no hn] at h; cases h
  · have hm : (32 : UInt8) ∈ l := by rw [e]; simp
    unfold cmdFn
    have ne : ∀ q : List UInt8, (32 : UInt8) ∉ q → l ≠ q := fun q hq e => hq (by rw [← e]; exact hm)
    rw [if_neg (ne _ (by decide)), if_neg (ne _ (by decide)), if_neg (ne _ (by decide)), if_neg (ne _ (by decide)), if_neg (ne _ (by decide)), if_neg (ne _ (by decide)), if_neg (ne _ (by decide)), if_neg (ne _ (by decide))]
theorem cut_whole {l : List UInt8} (h : (Lib.cut l [32]).2.2 = false) : (Lib.cut l [32]).1 = l := by
  rcases split_at l 32 with hn | ⟨a, b, e, ha⟩
  · rw [cut_no hn]
  · rw [e, cut_at ha] at h; cases h
/-- What a line prints, in the reference's words. -/
theorem step_ref (G : List UInt8 → List Pt → List UInt8) (l : List UInt8) (ps : List Pt) :
    stepL G l ps = if (Lib.cut l [32]).2.2 = true ∧ (Lib.cut l [32]).1 = qPoints then (if (decL (Lib.cut l [32]).2.1).2 = true then (sOk, (decL (Lib.cut l [32]).2.1).1) else (sNo, ps))
      else if (Lib.cut l [32]).2.2 = true ∨ ps = [] then (sWhat, ps) else ((if (cmdFn l).isSome = true then G l ps else sWhat), ps) := by
  unfold stepL
  by_cases hp : Lib.hasPrefix l qPts = true
  · obtain ⟨h1, h2, h3⟩ := cut_pts.1 hp
    conv => lhs; rw [if_pos hp]
    conv => rhs; rw [if_pos ⟨h1, h2⟩, h3]
  · have hp' : Lib.hasPrefix l qPts = false := by simpa using hp
    conv => lhs; rw [if_neg hp]
    conv => rhs; rw [if_neg (cut_pts.2 hp')]
    by_cases hf : (Lib.cut l [32]).2.2 = true
    · conv => rhs; rw [if_pos (.inl hf)]
      rw [cut_cmd hf]; rfl
    · by_cases h0 : ps = []
      · conv => rhs; rw [if_pos (.inr h0)]
        rw [if_neg (fun h => h.2 h0)]
      · conv => rhs; rw [if_neg (fun h => h.elim hf h0)]
        by_cases hc : (cmdFn l).isSome = true
        · rw [if_pos ⟨hc, h0⟩, if_pos hc]
        · rw [if_neg (fun h => hc h.1), if_neg hc]
/-- The reference's answer to a line without a space, at these points. -/
def CmdS (G : List UInt8 → List Pt → List UInt8) (l : List UInt8) (ps : List Pt) (w : World) : Prop :=
  ps ≠ [] → (Lib.cut l [32]).2.2 = false → ∀ (A : Option Addr) (n c : Nat) (W : World), Below w.heap.size w W → ps.length = n → n ≤ c → c ≤ 9223372036854775807 → PtsAt W W.heap.size A ps →
    Calls Tryz.prog 34 #[.string (bS l), .slice A n c] W fun e w' => e = .returned (.string (bS (if (cmdFn l).isSome = true then G l ps else sWhat))) ∧ ∃ x, w' = ext W x
/-- The slice v has these points. -/
def LsAt (w : World) (v : Value) (ps : List Pt) : Prop := ∃ A n c, v = .slice A n c ∧ ps.length = n ∧ n ≤ c ∧ c ≤ 9223372036854775807 ∧ PtsAt w w.heap.size A ps
theorem LsAt.to {w W : World} {v : Value} {ps : List Pt} (h : LsAt w v ps) (hb : Below w.heap.size w W) : LsAt W v ps := by
  obtain ⟨A, n, c, h1, h2, h3, h4, h5⟩ := h
  exact ⟨A, n, c, h1, h2, h3, h4, h5.to hb⟩
set_option maxRecDepth 20000 in
set_option maxHeartbeats 8000000 in
theorem sRun_any (G : List UInt8 → List Pt → List UInt8) (hG : Short G) (ls : List (List UInt8)) (A : Option Addr) (n c : Nat) (w : World) (hn : ls.length = n) (hcm : n ≤ 9223372036854775807) (hl : ∀ l ∈ ls, l.length ≤ 1048576) (hs : StrsAt w w.heap.size A ls)
    (hC : ∀ k, k < min n 30 → CmdS G (gstr ls k) (stN G ls k) w) :
    Calls Tryz.prog 13 #[.slice A n c] w fun e w' => e = .returned (.string (bS (runL G ls))) ∧ ∃ x, w' = ext w x := by
  obtain ⟨m, hm⟩ : ∃ m, m = min n 30 := ⟨_, rfl⟩
  have hm1 : m ≤ n := by omega
  have hm2 : m ≤ 30 := by omega
  have RES : Hid (runL G ls = ouN G ls m) := hide (by unfold runL; rw [hn, hm])
  rw [RES.out]
  have CELL : Hid (∀ k, k < m → ∃ b o, A = some ⟨b, o, none⟩ ∧ b < w.heap.size ∧ w.cell? ⟨b, o + k, none⟩ = some (.string (bS (gstr ls k)))) := hide (fun k hk => by
    obtain ⟨b, o, hA, hb, hc⟩ := hs (by omega)
    exact ⟨b, o, hA, hb, hc k (by omega)⟩)
  have LEN : Hid (∀ k, k < m → (gstr ls k).length ≤ 1048576) := hide (fun k hk => hl _ (gstr_mem (by omega)))
  have CM := hide (fun k (hk : k < m) => hC k (by omega))
  have OL := hide (fun k => ouN_len hG ls k)
  have SL := hide (fun k => step_len hG (gstr ls k) (stN G ls k) (stN_ok G ls k))
  obtain ⟨FT, hFT⟩ : ∃ FT : Nat → ByteArray, ∀ k, FT k = bS (ouN G ls k) := ⟨_, fun _ => rfl⟩
  have F0 : FT 0 = ⟨#[]⟩ := by rw [hFT 0]; rfl
  have FN : Hid (FT m = bS (ouN G ls m)) := hide (hFT m)
  rw [← FN.out]
  have FZ : Hid (∀ k, k ≤ m → (FT k).size ≤ 10000000) := hide (fun k hk => by rw [hFT k, bS_size]; have := OL.out k; omega)
  have FS : Hid (∀ k, FT (k + 1) = (FT k ++ bS (stepL G (gstr ls k) (stN G ls k)).1) ++ (⟨#[10]⟩ : ByteArray)) := hide (fun k => by
    have i10 : (⟨#[10]⟩ : ByteArray) = bS [10] := rfl
    rw [hFT (k + 1), hFT k, i10, bS_app, bS_app]; rfl)
  have SN : Hid (∀ k, stN G ls (k + 1) = (stepL G (gstr ls k) (stN G ls k)).2) := hide (fun k => rfl)
  have SP := hide (fun (l : List UInt8) (W : World) (h : l.length ≤ 1048576) => split_any l 32 1 W (by omega) (by omega))
  have DE := hide (fun (l : List UInt8) (W : World) (h : l.length ≤ 1048576) => sDecL_any l W (by omega))
  have SR := hide (step_ref G)
  have S1 := hide (fun l : List UInt8 => splN_1 l 32)
  have CL := hide (fun l : List UInt8 => cut_len l 32)
  have CW := hide (fun l : List UInt8 => @cut_whole l)
  have i1 : Hid (bS sOk ++ (⟨#[10]⟩ : ByteArray) = ⟨#[111, 107, 10]⟩) := hide rfl
  have i2 : Hid (bS sNo ++ (⟨#[10]⟩ : ByteArray) = ⟨#[110, 111, 10]⟩) := hide rfl
  have i3 : Hid (bS sWhat ++ (⟨#[10]⟩ : ByteArray) = ⟨#[119, 104, 97, 116, 10]⟩) := hide rfl
  have H0 : Hid (LsAt (w.alloc (.cells #[] 41)) (.slice (some ⟨w.heap.size, 0, none⟩) 0 0) (stN G ls 0)) := hide ⟨_, _, _, rfl, rfl, Nat.le_refl _, by omega, fun h => absurd h (Nat.lt_irrefl 0)⟩
  have HME := hide hm
  clear hn hl hs hC hm RES hFT FN OL
  go_enter Tryz.func13, Tryz.ntmps13
  go_wp2_with fail
  go_loopw [3, 4, 5] (fun u3 u4 u5 wr => ∃ k : Nat, k ≤ m ∧ u5 = .int .i64 k ∧ u4 = .string (FT k) ∧ Hid (LsAt wr u3 (stN G ls k)) ∧ Below w.heap.size w wr) (fun _ _ u5 _ => m - (intOf u5).toNat)
  case atStart => exact ⟨0, Nat.zero_le _, rfl, by rw [F0], H0, (by (repeat' (first | (with_reducible first | exact Below.refl _ _ | assumption | refine below_ext _ ?_ ?_ | refine Below.alloc ?_ ?_ _ | refine Below.drew ?_ | refine below_drewN ?_ _ | refine le_drewN _ ?_ | refine Below.setCell ?_ ?_ _ | exact Nat.le_refl _ | refine le_ext _ ?_ | refine le_alloc _ ?_ | refine le_setCell _ _ ?_ | refine le_drew ?_) | omega | (simp; done) | (simp; omega))))⟩
  case round =>
    obtain ⟨k, hk, rfl, rfl, hL, hbel⟩ := hrel
    obtain ⟨A3, n3, c3, rfl, hn3, hc3, hcm3, hp3⟩ := hL.out
    by_cases hlt : k < m
    · obtain ⟨b1, o1, rfl, hb1, hc1⟩ := CELL.out k hlt
      have hx := (hbel.cell (p := ⟨b1, o1 + k, none⟩) hb1).trans hc1
      have q1 : (k : Int) < (n : Int) := by omega
      have q2 : (k : Int) < 30 := by omega
      have ll := LEN.out k hlt
      have CK := hide (CM.out k hlt)
      have fs := FS.out k
      have sn := SN.out k
      have sl := SL.out k
      have fz := FZ.out k hk
      rw [SR.out (gstr ls k) (stN G ls k)] at fs sn sl
      have FSH := fs
      have SNH := sn
      have s1 := S1.out (gstr ls k)
      have cl := CL.out (gstr ls k)
      have cw := hide (CW.out (gstr ls k))
      have SPk := hide (SP.out (gstr ls k) wr ll)
      have HB := hide hbel
      have HP := hide hp3
      have HN3 := hide hn3
      clear hc1 fs sn CM LEN CELL SL SN FS FZ SP SR S1 CL CW hp3 hn3
      generalize hst : stN G ls k = ps at *
      have hk1 : (k + 1 : Nat) ≤ m := by omega
      go_wp2_with fail
      refine SPk.out.mono ?_
      rintro e w2 ⟨v2, rfl, hown, hx2⟩
      obtain ⟨A2, n2, c2, rfl⟩ := hown.slice
      obtain ⟨hn2, hc2, _, hs2⟩ := hown.strs
      have B2 := hide (ext_bel hx2)
      have z2 := B2.out.size
      have BB2 := hide (HB.out.trans (B2.out.mono HB.out.size))
      rw [s1] at hn2 hs2
      clear hown hx2 s1
      by_cases hp : (Lib.cut (gstr ls k) [32]).2.2 = true
      · rw [if_pos hp] at hn2 hs2
        have en : n2 = 2 := by rw [← hn2]; rfl
        subst en
        obtain ⟨b2, o2, rfl, hb2, hcs2⟩ := hs2 (by simp)
        have cs0 : w2.cell? ⟨b2, o2, none⟩ = some (.string (bS (Lib.cut (gstr ls k) [32]).1)) := hcs2 0 (by simp)
        have cs1 : w2.cell? ⟨b2, o2 + 1, none⟩ = some (.string (bS (Lib.cut (gstr ls k) [32]).2.1)) := hcs2 1 (by simp)
        clear hcs2 hn2 hs2
        by_cases hq : (Lib.cut (gstr ls k) [32]).1 = qPoints
        · have eq := bS_ne (Lib.cut (gstr ls k) [32]).1 qPoints
          rw [qPts_list] at eq
          rw [decide_eq_true hq] at eq
          rw [if_pos ⟨hp, hq⟩] at FSH SNH sl
          have DEk := hide (DE.out (Lib.cut (gstr ls k) [32]).2.1)
          have cl2 := cl.2
          clear hp hq cl cw CK HN3 DE
          generalize (Lib.cut (gstr ls k) [32]).1 = la at *
          generalize (Lib.cut (gstr ls k) [32]).2.1 = lb at *
          go_wp2_with fail
          refine (DEk.out _ (by omega)).mono ?_
          rintro e w4 ⟨v4, rfl, hown, hx4⟩
          have B4 := hide (BB2.out.trans ((ext_bel hx4).mono BB2.out.size))
          have B42 := hide (ext_bel hx4)
          by_cases hd : (decL lb).2 = true
          · rw [hd] at FSH SNH sl ⊢
            rw [if_pos rfl] at FSH SNH sl
            obtain ⟨A4, n4, c4, rfl⟩ := hown.slice
            obtain ⟨hn4, hc4, hcm4, hp4⟩ := hown.pts
            have LN : Hid (LsAt w4 (.slice A4 n4 c4) (decL lb).1) := hide ⟨_, _, _, rfl, hn4, hc4, by unfold maxLen at hcm4; omega, hp4⟩
            have FZ : FT (k + 1) = FT k ++ (⟨#[111, 107, 10]⟩ : ByteArray) := by rw [FSH, ByteArray.append_assoc, i1.out]
            clear hd hown hx4 hn4 hp4 FSH
            go_wp2_with fail
            exact ⟨⟨k + 1, hk1, by go_num, by rw [FZ], hide (by rw [SNH]; exact LN.out), B4.out⟩, by simp [intOf]; omega⟩
          · have hd' : (decL lb).2 = false := by simpa using hd
            rw [hd'] at FSH SNH sl ⊢
            rw [if_neg (by decide)] at FSH SNH sl
            have LN : Hid (LsAt w4 (.slice A3 n3 c3) ps) := hide (hL.out.to (B2.out.trans (B42.out.mono B2.out.size)))
            have FZ : FT (k + 1) = FT k ++ (⟨#[110, 111, 10]⟩ : ByteArray) := by rw [FSH, ByteArray.append_assoc, i2.out]
            clear hd hd' hown hx4 FSH
            go_wp2_with fail
            exact ⟨⟨k + 1, hk1, by go_num, by rw [FZ], hide (by rw [SNH]; exact LN.out), B4.out⟩, by simp [intOf]; omega⟩
        · have eq := bS_ne (Lib.cut (gstr ls k) [32]).1 qPoints
          rw [qPts_list] at eq
          rw [decide_eq_false hq] at eq
          rw [if_neg (fun h => hq h.2), if_pos (.inl hp)] at FSH SNH sl
          have LN : Hid (LsAt w2 (.slice A3 n3 c3) ps) := hide (hL.out.to B2.out)
          have FZ : FT (k + 1) = FT k ++ (⟨#[119, 104, 97, 116, 10]⟩ : ByteArray) := by rw [FSH, ByteArray.append_assoc, i3.out]
          clear FSH
          clear hp hq cl cw CK HN3 DE
          generalize (Lib.cut (gstr ls k) [32]).1 = la at *
          generalize (Lib.cut (gstr ls k) [32]).2.1 = lb at *
          go_wp2_with fail
          exact ⟨⟨k + 1, hk1, by go_num, by rw [FZ], hide (by rw [SNH]; exact LN.out), BB2.out⟩, by simp [intOf]; omega⟩
      · rw [if_neg hp] at hn2 hs2
        have en : n2 = 1 := by rw [← hn2]; rfl
        subst en
        obtain ⟨b2, o2, rfl, hb2, hcs2⟩ := hs2 (by simp)
        have cs0 : w2.cell? ⟨b2, o2, none⟩ = some (.string (bS (Lib.cut (gstr ls k) [32]).1)) := hcs2 0 (by simp)
        clear hcs2 hn2 hs2
        rw [if_neg (fun h => hp h.1)] at FSH SNH sl
        have hp' : (Lib.cut (gstr ls k) [32]).2.2 = false := by simpa using hp
        have ew := cw.out hp'
        rw [ew] at cs0
        by_cases h0 : ps = []
        · rw [if_pos (.inr h0)] at FSH SNH sl
          have n30 : n3 = 0 := by rw [← HN3.out, h0]; rfl
          have LN : Hid (LsAt w2 (.slice A3 n3 c3) ps) := hide (hL.out.to B2.out)
          have FZ : FT (k + 1) = FT k ++ (⟨#[119, 104, 97, 116, 10]⟩ : ByteArray) := by rw [FSH, ByteArray.append_assoc, i3.out]
          have bz : ((n3 : Int) == 0) = true := by rw [n30]; rfl
          have SNZ := hide SNH
          clear FSH hp hp' ew cl cw CK HN3 DE h0 n30 SNH
          generalize gstr ls k = l at *
          by_cases hq : (bS l).toList = [112, 111, 105, 110, 116, 115]
          · go_wp2_with fail
            exact ⟨⟨k + 1, hk1, by go_num, by rw [FZ], hide (by rw [SNZ.out]; exact LN.out), BB2.out⟩, by simp [intOf]; omega⟩
          · go_wp2_with fail
            exact ⟨⟨k + 1, hk1, by go_num, by rw [FZ], hide (by rw [SNZ.out]; exact LN.out), BB2.out⟩, by simp [intOf]; omega⟩
        · rw [if_neg (fun h => h.elim hp h0)] at FSH SNH sl
          have n30 : 0 < n3 := by
            rw [← HN3.out]; exact List.length_pos_iff.2 h0
          have CKk := hide (CK.out h0 hp' A3 n3 c3 w2 BB2.out HN3.out hc3 hcm3 (HP.out.to B2.out))
          have bz : ((n3 : Int) == 0) = false := by rw [beq_eq_false_iff_ne]; omega
          have SNZ := hide SNH
          have FZ := hide FSH
          have HL2 := hide (hL.out.to B2.out)
          have z3 : (bS (if (cmdFn (gstr ls k)).isSome = true then G (gstr ls k) ps else sWhat)).size ≤ 100000 := by rw [bS_size]; exact sl
          clear FSH hp hp' ew cl cw CK HN3 DE h0 SNH sl
          generalize (if (cmdFn (gstr ls k)).isSome = true then G (gstr ls k) ps else sWhat) = R at *
          generalize gstr ls k = l at *
          by_cases hq : (bS l).toList = [112, 111, 105, 110, 116, 115]
          · go_wp2_with fail
            refine CKk.out.mono ?_
            rintro e w' ⟨rfl, hw'⟩; have hzy5 := ext_sz hw'; obtain ⟨y5, rfl⟩ := hw'; (try simp at hzy5)
            have B5 := hide (BB2.out.trans (below_ext _ (Below.refl _ _) BB2.out.size : Below w.heap.size w2 (ext w2 y5)))
            have LN := hide (HL2.out.to (below_ext _ (Below.refl _ _) (Nat.le_refl _) : Below w2.heap.size w2 (ext w2 y5)))
            go_wp2_with fail
            exact ⟨⟨k + 1, hk1, by go_num, by rw [FZ.out], hide (by rw [SNZ.out]; exact LN.out), B5.out⟩, by simp [intOf]; omega⟩
          · go_wp2_with fail
            refine CKk.out.mono ?_
            rintro e w' ⟨rfl, hw'⟩; have hzy5 := ext_sz hw'; obtain ⟨y5, rfl⟩ := hw'; (try simp at hzy5)
            have B5 := hide (BB2.out.trans (below_ext _ (Below.refl _ _) BB2.out.size : Below w.heap.size w2 (ext w2 y5)))
            have LN := hide (HL2.out.to (below_ext _ (Below.refl _ _) (Nat.le_refl _) : Below w2.heap.size w2 (ext w2 y5)))
            go_wp2_with fail
            exact ⟨⟨k + 1, hk1, by go_num, by rw [FZ.out], hide (by rw [SNZ.out]; exact LN.out), B5.out⟩, by simp [intOf]; omega⟩
    · obtain rfl : k = m := by omega
      have HB := hide hbel
      clear CM LEN CELL SL SN FS FZ SP SR S1 CL CW hp3 hL hbel
      by_cases hkn : k < n
      · have q1 : ¬ ((k : Int) < 30) := by have := HME.out; omega
        have q2 : (k : Int) < (n : Int) := by omega
        clear HME
        go_wp2_with fail
        go_ret
        exact ⟨rfl, ext_mk HB.out⟩
      · have q2 : ¬ (k : Int) < (n : Int) := by omega
        clear HME
        go_wp2_with fail
        go_ret
        exact ⟨rfl, ext_mk HB.out⟩
end Go.Proofs.YtnddfdhfefconaaGreatDoor
namespace Go.Proofs.YtnddfdhfefconaaGreatDoor
open Go.RowKit

theorem lit_no {l q : List UInt8} (h : l ≠ q) : ((bS l).toList == q) = false := by
  rw [ByteArray.toList_eq, bS_list]; simpa using h
theorem lit_yes {l q : List UInt8} (h : l = q) : ((bS l).toList == q) = true := by
  rw [ByteArray.toList_eq, bS_list, h]; simp
/-- The reference's word to q is R. -/
def AnsS (q R : List UInt8) (ps : List Pt) : Prop := ∀ (A : Option Addr) (n c : Nat) (W : World), ps.length = n → listOk ps = true → n ≤ c → c ≤ 9223372036854775807 → PtsAt W W.heap.size A ps →
    Calls Tryz.prog 34 #[.string (bS q), .slice A n c] W fun e w' => e = .returned (.string (bS R)) ∧ ∃ x, w' = ext W x
set_option maxHeartbeats 1000000 in
theorem sq_hull (ps : List Pt) : AnsS qHull (encE (hullL ps)) ps := by
  intro A n c w hn hok hc hcm hs
  obtain ⟨h1, h2⟩ := listOk_InB hok
  have h20 := (listOk_1 hok).1
  have HH := hide (shull_any ps A n c w hn (by omega) h1 hs)
  have ho := hull_ok hok
  have e1 : encE (hullL ps) = encL (hullOf ps) := by unfold hullL; rw [if_pos hok]; unfold encE; rw [if_pos ho]
  rw [e1]
  have FP := hide (fun (A' : Option Addr) (n' c' : Nat) (W : World) h1 h2 => fmtL_any (hullOf ps) A' n' c' W h1 ho h2)
  have y1 := lit_yes (l := qHull) (q := [104, 117, 108, 108]) rfl
  clear hn hok hs ho e1 h1 h2
  generalize bS qHull = S at *
  generalize hullOf ps = hs at *
  go_enter Tryz.func34, Tryz.ntmps34
  go_wp2_with fail
  refine HH.out.mono ?_
  rintro e w2 ⟨v2, rfl, hown, hx⟩
  obtain ⟨A2, n2, c2, rfl⟩ := hown.slice
  obtain ⟨hn2, hc2, _, hs2⟩ := hown.pts
  have B2 := hide (ext_bel hx)
  have F2 := hide (FP.out A2 n2 c2 w2 hn2 hs2)
  clear hx hown hs2 FP hn2
  go_wp2_with fail
  refine F2.out.mono ?_
  rintro e w' ⟨rfl, hw'⟩; have hzy := ext_sz hw'; obtain ⟨y, rfl⟩ := hw'; (try simp at hzy)
  go_wp2_with fail
  go_ret
  exact ⟨rfl, ext_mk (B2.out.trans (Below.mono (show Below w2.heap.size w2 _ from (by (repeat' (first | (with_reducible first | exact Below.refl _ _ | assumption | refine below_ext _ ?_ ?_ | refine Below.alloc ?_ ?_ _ | refine Below.drew ?_ | refine below_drewN ?_ _ | refine le_drewN _ ?_ | refine Below.setCell ?_ ?_ _ | exact Nat.le_refl _ | refine le_ext _ ?_ | refine le_alloc _ ?_ | refine le_setCell _ _ ?_ | refine le_drew ?_) | omega | (simp; done) | (simp; omega))))) B2.out.size))⟩
set_option maxHeartbeats 1000000 in
theorem sq_area (ps : List Pt) : AnsS qArea (Lib.itoa (hullArea ps)) ps := by
  intro A n c w hn hok hc hcm hs
  obtain ⟨h1, h2⟩ := listOk_InB hok
  have h20 := (listOk_1 hok).1
  have HH := hide (shull_any ps A n c w hn (by omega) h1 hs)
  have ho := listOk_1 (hull_ok hok)
  have e1 : hullArea ps = areaL (hullOf ps) := by unfold hullArea; rw [if_pos hok]
  have ab := area_big ps
  rw [e1] at ab ⊢
  have FP := hide (fun (A' : Option Addr) (n' c' : Nat) (W : World) h1 h2 => sarea_any (hullOf ps) A' n' c' W h1 (by have := ho.1; omega) (fun p hp => ok_bd (ho.2 p hp)) h2)
  have FI := hide (fun W : World => sfmt_any (areaL (hullOf ps)) W ⟨by omega, by omega⟩)
  have y1 := lit_no (l := qArea) (q := [104, 117, 108, 108]) (by decide)
  have y2 := lit_yes (l := qArea) (q := [97, 114, 101, 97]) rfl
  clear hn hok hs ho e1 h1 h2
  generalize bS qArea = S at *
  generalize hullOf ps = hs at *
  go_enter Tryz.func34, Tryz.ntmps34
  go_wp2_with fail
  refine HH.out.mono ?_
  rintro e w2 ⟨v2, rfl, hown, hx⟩
  obtain ⟨A2, n2, c2, rfl⟩ := hown.slice
  obtain ⟨hn2, hc2, _, hs2⟩ := hown.pts
  have B2 := hide (ext_bel hx)
  have F2 := hide (FP.out A2 n2 c2 w2 hn2 hs2)
  clear hx hown hs2 FP hn2
  go_wp2_with fail
  refine F2.out.mono ?_
  rintro e w' ⟨rfl, hw'⟩; have hzy := ext_sz hw'; obtain ⟨y, rfl⟩ := hw'; (try simp at hzy)
  go_wp2_with fail
  refine (FI.out _).mono ?_
  rintro e w' ⟨rfl, hw'⟩; have hzy3 := ext_sz hw'; obtain ⟨y3, rfl⟩ := hw'; (try simp at hzy3)
  go_wp2_with fail
  go_ret
  exact ⟨rfl, ext_mk (B2.out.trans (Below.mono (show Below w2.heap.size w2 _ from (by (repeat' (first | (with_reducible first | exact Below.refl _ _ | assumption | refine below_ext _ ?_ ?_ | refine Below.alloc ?_ ?_ _ | refine Below.drew ?_ | refine below_drewN ?_ _ | refine le_drewN _ ?_ | refine Below.setCell ?_ ?_ _ | exact Nat.le_refl _ | refine le_ext _ ?_ | refine le_alloc _ ?_ | refine le_setCell _ _ ?_ | refine le_drew ?_) | omega | (simp; done) | (simp; omega))))) B2.out.size))⟩
set_option maxHeartbeats 1000000 in
theorem sq_inside (ps : List Pt) : AnsS qInside (Lib.itoa (intr ps)) ps := by
  intro A n c w hn hok hc hcm hs
  have h20 := (listOk_1 hok).1
  have HH := hide (sInt_any ps A n c w hn (by omega) hs)
  have ab := intr_big ps hok
  have FI := hide (fun W : World => sfmt_any (intr ps) W ⟨by omega, by omega⟩)
  have y1 := lit_no (l := qInside) (q := [104, 117, 108, 108]) (by decide)
  have y2 := lit_no (l := qInside) (q := [97, 114, 101, 97]) (by decide)
  have y3 := lit_no (l := qInside) (q := [100, 105, 97, 109, 101, 116, 101, 114]) (by decide)
  have y4 := lit_no (l := qInside) (q := [99, 105, 114, 99, 108, 101]) (by decide)
  have y5 := lit_no (l := qInside) (q := [116, 114, 101, 101]) (by decide)
  have y6 := lit_no (l := qInside) (q := [107, 100]) (by decide)
  have y7 := lit_no (l := qInside) (q := [115, 105, 109, 112, 108, 101]) (by decide)
  have y8 := lit_yes (l := qInside) (q := [105, 110, 115, 105, 100, 101]) rfl
  clear hn hok hs
  generalize bS qInside = S at *
  generalize intr ps = z at *
  go_enter Tryz.func34, Tryz.ntmps34
  go_wp2_with fail
  refine HH.out.mono ?_
  rintro e w' ⟨rfl, hw'⟩; have hzu := ext_sz hw'; obtain ⟨u, rfl⟩ := hw'; (try simp at hzu)
  go_wp2_with fail
  refine (FI.out _).mono ?_
  rintro e w' ⟨rfl, hw'⟩; have hzu3 := ext_sz hw'; obtain ⟨u3, rfl⟩ := hw'; (try simp at hzu3)
  go_wp2_with fail
  go_ret
  exact ⟨rfl, (ext_mk (by (repeat' (first | (with_reducible first | exact Below.refl _ _ | assumption | refine below_ext _ ?_ ?_ | refine Below.alloc ?_ ?_ _ | refine Below.drew ?_ | refine below_drewN ?_ _ | refine le_drewN _ ?_ | refine Below.setCell ?_ ?_ _ | exact Nat.le_refl _ | refine le_ext _ ?_ | refine le_alloc _ ?_ | refine le_setCell _ _ ?_ | refine le_drew ?_) | omega | (simp; done) | (simp; omega)))))⟩
set_option maxHeartbeats 1000000 in
theorem sq_simple (ps : List Pt) : AnsS qSimple (if simB ps = true then sYes else sNo) ps := by
  intro A n c w hn hok hc hcm hs
  have h20 := (listOk_1 hok).1
  have HH := hide (isSimple_any ps A n c w hn (by omega) hs)
  have y1 := lit_no (l := qSimple) (q := [104, 117, 108, 108]) (by decide)
  have y2 := lit_no (l := qSimple) (q := [97, 114, 101, 97]) (by decide)
  have y3 := lit_no (l := qSimple) (q := [100, 105, 97, 109, 101, 116, 101, 114]) (by decide)
  have y4 := lit_no (l := qSimple) (q := [99, 105, 114, 99, 108, 101]) (by decide)
  have y5 := lit_no (l := qSimple) (q := [116, 114, 101, 101]) (by decide)
  have y6 := lit_no (l := qSimple) (q := [107, 100]) (by decide)
  have y7 := lit_yes (l := qSimple) (q := [115, 105, 109, 112, 108, 101]) rfl
  clear hn hok hs
  generalize bS qSimple = S at *
  cases hz : simB ps
  · rw [hz] at HH
    clear hz
    go_enter Tryz.func34, Tryz.ntmps34
    go_wp2_with fail
    refine HH.out.mono ?_
    rintro e w' ⟨rfl, hw'⟩; have hzu := ext_sz hw'; obtain ⟨u, rfl⟩ := hw'; (try simp at hzu)
    go_wp2_with fail
    go_ret
    exact ⟨rfl, (ext_mk (by (repeat' (first | (with_reducible first | exact Below.refl _ _ | assumption | refine below_ext _ ?_ ?_ | refine Below.alloc ?_ ?_ _ | refine Below.drew ?_ | refine below_drewN ?_ _ | refine le_drewN _ ?_ | refine Below.setCell ?_ ?_ _ | exact Nat.le_refl _ | refine le_ext _ ?_ | refine le_alloc _ ?_ | refine le_setCell _ _ ?_ | refine le_drew ?_) | omega | (simp; done) | (simp; omega)))))⟩
  · rw [hz] at HH
    clear hz
    go_enter Tryz.func34, Tryz.ntmps34
    go_wp2_with fail
    refine HH.out.mono ?_
    rintro e w' ⟨rfl, hw'⟩; have hzu := ext_sz hw'; obtain ⟨u, rfl⟩ := hw'; (try simp at hzu)
    go_wp2_with fail
    go_ret
    exact ⟨rfl, (ext_mk (by (repeat' (first | (with_reducible first | exact Below.refl _ _ | assumption | refine below_ext _ ?_ ?_ | refine Below.alloc ?_ ?_ _ | refine Below.drew ?_ | refine below_drewN ?_ _ | refine le_drewN _ ?_ | refine Below.setCell ?_ ?_ _ | exact Nat.le_refl _ | refine le_ext _ ?_ | refine le_alloc _ ?_ | refine le_setCell _ _ ?_ | refine le_drew ?_) | omega | (simp; done) | (simp; omega)))))⟩
theorem cmd_none {l : List UInt8} (h : cmdFn l = none) : l ≠ qHull ∧ l ≠ qArea ∧ l ≠ qInside ∧ l ≠ qSimple ∧ l ≠ qDiameter ∧ l ≠ qCircle ∧ l ≠ qKd ∧ l ≠ qTree := by
  refine ⟨?_, ?_, ?_, ?_, ?_, ?_, ?_, ?_⟩ <;> (intro e; rw [e] at h; exact absurd h (by decide))
set_option maxHeartbeats 1000000 in
theorem sq_what (l : List UInt8) (ps : List Pt) (hl : cmdFn l = none) (A : Option Addr) (n c : Nat) (w : World) :
    Calls Tryz.prog 34 #[.string (bS l), .slice A n c] w fun e w' => e = .returned (.string (bS sWhat)) ∧ ∃ x, w' = ext w x := by
  obtain ⟨h1, h2, h3, h4, h5, h6, h7, h8⟩ := cmd_none hl
  have y1 := lit_no (l := l) (q := [104, 117, 108, 108]) h1
  have y2 := lit_no (l := l) (q := [97, 114, 101, 97]) h2
  have y3 := lit_no (l := l) (q := [100, 105, 97, 109, 101, 116, 101, 114]) h5
  have y4 := lit_no (l := l) (q := [99, 105, 114, 99, 108, 101]) h6
  have y5 := lit_no (l := l) (q := [116, 114, 101, 101]) h8
  have y6 := lit_no (l := l) (q := [107, 100]) h7
  have y7 := lit_no (l := l) (q := [115, 105, 109, 112, 108, 101]) h4
  have y8 := lit_no (l := l) (q := [105, 110, 115, 105, 100, 101]) h3
  clear hl h1 h2 h3 h4 h5 h6 h7 h8
  generalize bS l = S at *
  go_enter Tryz.func34, Tryz.ntmps34
  go_wp2_with fail
  go_ret
  exact ⟨rfl, (ext_mk (by (repeat' (first | (with_reducible first | exact Below.refl _ _ | assumption | refine below_ext _ ?_ ?_ | refine Below.alloc ?_ ?_ _ | refine Below.drew ?_ | refine below_drewN ?_ _ | refine le_drewN _ ?_ | refine Below.setCell ?_ ?_ _ | exact Nat.le_refl _ | refine le_ext _ ?_ | refine le_alloc _ ?_ | refine le_setCell _ _ ?_ | refine le_drew ?_) | omega | (simp; done) | (simp; omega)))))⟩
end Go.Proofs.YtnddfdhfefconaaGreatDoor
namespace Go.Proofs.YtnddfdhfefconaaGreatDoor
open Go.RowKit

theorem pre_at (s : List UInt8) : Lib.hasPrefix (qPts ++ s) qPts = true ∧ Lib.trimPrefix (qPts ++ s) qPts = s := by
  have h : Lib.hasPrefix (qPts ++ s) qPts = true := by
    unfold Lib.hasPrefix
    rw [List.isPrefixOf_iff_prefix]
    exact List.prefix_append _ _
  refine ⟨h, ?_⟩
  unfold Lib.trimPrefix
  rw [if_pos h]
  simp
/-- A session that sets points and asks one question. -/
theorem run_two {G : List UInt8 → List Pt → List UInt8} {ps : List Pt} {c : List UInt8} (h : encE ps ≠ []) (hp : Lib.hasPrefix c qPts = false) (hc : (cmdFn c).isSome = true) :
    stN G [qPts ++ encE ps, c] 1 = ps ∧ ps ≠ [] ∧ listOk ps = true ∧ runL G [qPts ++ encE ps, c] = ((sOk ++ [10]) ++ G c ps) ++ [10] := by
  obtain ⟨p1, p2⟩ := pre_at (encE ps)
  have d := dec_enc h
  have h0 : ps ≠ [] := fun e => h (by rw [e]; rfl)
  have hok : listOk ps = true := by
    refine Decidable.byContradiction fun hn => h ?_
    unfold encE; rw [if_neg hn]
  have s1 : stepL G (qPts ++ encE ps) [] = (sOk, ps) := by
    unfold stepL
    rw [if_pos p1, p2, d]; rfl
  have e1 : stN G [qPts ++ encE ps, c] 1 = ps := by
    show (stepL G (qPts ++ encE ps) []).2 = ps
    rw [s1]
  have s2 : stepL G c ps = (G c ps, ps) := by
    unfold stepL
    rw [if_neg (by rw [hp]; simp), if_pos ⟨hc, h0⟩]
  refine ⟨e1, h0, hok, ?_⟩
  show ((ouN G [qPts ++ encE ps, c] 1) ++ (stepL G c (stN G [qPts ++ encE ps, c] 1)).1) ++ [10] = _
  rw [e1, s2]
  show ((([] ++ (stepL G (qPts ++ encE ps) []).1) ++ [10]) ++ G c ps) ++ [10] = _
  rw [s1]; rfl
theorem strs_two (W : World) (a b : List UInt8) : StrsAt (W.alloc (.cells #[.string (bS a), .string (bS b)] 9)) (W.alloc (.cells #[.string (bS a), .string (bS b)] 9)).heap.size (some ⟨W.heap.size, 0, none⟩) [a, b] := fun _ =>
  ⟨W.heap.size, 0, rfl, by simp, fun i hi => by
    have hi : i < 2 := hi
    match i, hi with
    | 0, _ => exact (heap_cell (heap_alloc_new W _) 0).trans rfl
    | 1, _ => exact (heap_cell (heap_alloc_new W _) 1).trans rfl⟩
def noA : List Pt → List UInt8 := fun _ => []
theorem noA_short : ∀ ps, ps ≠ [] → listOk ps = true → (noA ps).length ≤ 100000 := fun _ _ _ => by simp [noA]
def G0 : List UInt8 → List Pt → List UInt8 := ansL noA noA noA noA
theorem G0_short : Short G0 := fun l ps h0 h => ansL_short noA_short noA_short noA_short noA_short l ps h0 h
theorem G0_simple (ps : List Pt) : G0 qSimple ps = if simB ps = true then sYes else sNo := by
  unfold G0 ansL
  rw [if_neg (by decide), if_neg (by decide), if_neg (by decide), if_pos rfl]
theorem G0_hull (ps : List Pt) : G0 qHull ps = encE (hullL ps) := by
  unfold G0 ansL
  rw [if_pos rfl]
theorem G0_area (ps : List Pt) : G0 qArea ps = Lib.itoa (hullArea ps) := by
  unfold G0 ansL
  rw [if_neg (by decide), if_pos rfl]
/-- The program's session of two lines. -/
theorem iTwo_any {ps : List Pt} {c : List UInt8} (h : encE ps ≠ []) (hp : Lib.hasPrefix c qPts = false) (hc : (cmdFn c).isSome = true) (hcl : c.length ≤ 100) (A : Option Addr) (w : World) (hs : StrsAt w w.heap.size A [qPts ++ encE ps, c]) (ht : Tab w) (hE : Errs w) (hM : MaxL w)
    (hC : CmdI G0 c ps w) : Calls Tryz.prog 11 #[.slice A 2 2] w fun e w' => e = .returned (.string (bS (((sOk ++ [10]) ++ G0 c ps) ++ [10]))) ∧ Below w.heap.size w w' := by
  obtain ⟨e1, h0, hok, er⟩ := run_two (G := G0) h hp hc
  rw [← er]
  have hl := encE_len2 ps
  refine iRun_any G0 G0_short [qPts ++ encE ps, c] A 2 2 w rfl (Nat.le_refl _) (by omega) (fun l hl' => ?_) hs ht hE hM (fun k hk => ?_)
  · rcases List.mem_cons.1 hl' with e | e
    · subst e
      rw [List.length_append]
      have : qPts.length = 7 := rfl
      omega
    · rw [List.mem_singleton.1 e]; omega
  · have hk : k < 2 := by omega
    match k, hk with
    | 0, _ => exact fun hne => absurd rfl hne
    | 1, _ =>
      rw [e1]
      exact hC
/-- The reference's session of two lines. -/
theorem sTwo_any {ps : List Pt} {c : List UInt8} {R : List UInt8} (h : encE ps ≠ []) (hp : Lib.hasPrefix c qPts = false) (hc : (cmdFn c).isSome = true) (hcl : c.length ≤ 100) (A : Option Addr) (w : World) (hs : StrsAt w w.heap.size A [qPts ++ encE ps, c])
    (hG : G0 c ps = R) (hC : AnsS c R ps) : Calls Tryz.prog 13 #[.slice A 2 2] w fun e w' => e = .returned (.string (bS (((sOk ++ [10]) ++ G0 c ps) ++ [10]))) ∧ ∃ x, w' = ext w x := by
  obtain ⟨e1, h0, hok, er⟩ := run_two (G := G0) h hp hc
  rw [← er]
  have hl := encE_len2 ps
  refine sRun_any G0 G0_short [qPts ++ encE ps, c] A 2 2 w rfl (by omega) (fun l hl' => ?_) hs (fun k hk => ?_)
  · rcases List.mem_cons.1 hl' with e | e
    · subst e
      rw [List.length_append]
      have : qPts.length = 7 := rfl
      omega
    · rw [List.mem_singleton.1 e]; omega
  · have hk : k < 2 := by omega
    match k, hk with
    | 0, _ => exact fun hne => absurd rfl hne
    | 1, _ =>
      rw [e1]
      intro _ _ A' n' c' W _ h1 h2 h3 h4
      have eg : gstr [qPts ++ encE ps, c] 1 = c := rfl
      rw [eg, if_pos hc, hG]
      exact hC A' n' c' W h1 hok h2 h3 h4
end Go.Proofs.YtnddfdhfefconaaGreatDoor
