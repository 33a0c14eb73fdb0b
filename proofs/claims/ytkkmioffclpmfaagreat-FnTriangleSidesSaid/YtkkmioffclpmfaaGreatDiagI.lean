
/- The program's diagonals. -/
import Derived.Test.YtkkmioffclpmfaaGreatLoc
import Derived.Test.YtkkmioffclpmfaaGreatRel
import Derived.Maps.AppendAt
set_option linter.unusedVariables false
set_option linter.unusedSimpArgs false
namespace Go.Proofs.YtkkmioffclpmfaaGreat
open Go.RowKit

theorem dbl_take {ps : List Pt} {k : Nat} (h : k < ps.length) : (ps.take (k + 1)).map (scP 2) = (ps.take k).map (scP 2) ++ [⟨pX ps k + pX ps k, pY ps k + pY ps k⟩] := by
  rw [List.take_succ_eq_append_getElem h, List.map_append, ← gp_lt h]
  have : scP 2 (gp ps k) = ⟨pX ps k + pX ps k, pY ps k + pY ps k⟩ := by unfold scP pX pY; congr 1 <;> omega
  rw [← this]; rfl
set_option maxHeartbeats 1000000 in
theorem twice_any (ps : List Pt) (A : Option Addr) (n c : Nat) (w : World) (hn : ps.length = n) (hm : n ≤ 1000) (hib : ∀ p ∈ ps, (-1000 ≤ p.x ∧ p.x ≤ 1000) ∧ (-1000 ≤ p.y ∧ p.y ≤ 1000)) (hs : PtsAt w w.heap.size A ps) :
    Calls Tryz.prog 96 #[.slice A n c] w fun e w' => ∃ v, e = .returned v ∧ OwnP w' w.heap.size v (ps.map (scP 2)) ∧ ∃ x, w' = ext w x := by
  have HN := hide hn
  have HB := hide hib
  have S2 := hide hs
  obtain ⟨i0, hi, hz0, hz1, hz2⟩ := info_parts ptElt.inf
  have IP := hide (And.intro hi (And.intro hz0 (And.intro hz1 hz2)))
  clear hi hz0 hz1 hz2
  have mk1 : i0.bytes * n ≤ 281474976710656 := by rw [IP.out.2.2.2]; omega
  have mk2 : n ≤ maxLen := by unfold maxLen; omega
  clear hn hib hs
  go_enter Tryz.func96, Tryz.ntmps96
  go_wp2_with (refine wpList_make_own _ rfl (.const (.int .i64 0)) (.tmp 7) 23 rfl w.heap.size 35 i0 _ 2 ptElt.und IP.out.1 IP.out.2.1 IP.out.2.2.1 .i64 .i64 _ n rfl rfl rfl mk1 mk2 (Nat.le_refl _) ?_; intro w1 hown1 hgr1; have O1 := hide (show OwnP w1 w.heap.size _ [] from hown1); have B1 := hide ((Below.refl _ _).grown hgr1 (Nat.le_refl _) (fun k hk => by cases hk)); clear hown1 hgr1)
  go_loopw [3, 11] (fun u3 u11 wr => ∃ (k : Nat), k ≤ n ∧ u11 = .int .i64 k ∧ OwnP wr w.heap.size u3 ((ps.take k).map (scP 2)) ∧ Below w.heap.size w wr) (fun _ u11 _ => n - (intOf u11).toNat)
  case atStart => exact ⟨0, Nat.zero_le _, rfl, O1.out.below (by (repeat' (first | (with_reducible exact Below.refl _ _) | (with_reducible assumption) | (with_reducible refine below_ext _ ?_ ?_) | (with_reducible refine Below.alloc ?_ ?_ _) | (with_reducible refine Below.drew ?_) | (with_reducible refine below_drewN ?_ _) | (with_reducible refine le_drewN _ ?_) | (with_reducible refine Below.setCell ?_ ?_ _) | (with_reducible exact Nat.le_refl _) | (with_reducible refine le_ext _ ?_) | (with_reducible refine le_alloc _ ?_) | (with_reducible refine le_setCell _ _ ?_) | (with_reducible refine le_drew ?_) | omega | (simp; done) | (simp; omega)))), Below.trans B1.out (by (repeat' (first | (with_reducible exact Below.refl _ _) | (with_reducible assumption) | (with_reducible refine below_ext _ ?_ ?_) | (with_reducible refine Below.alloc ?_ ?_ _) | (with_reducible refine Below.drew ?_) | (with_reducible refine below_drewN ?_ _) | (with_reducible refine le_drewN _ ?_) | (with_reducible refine Below.setCell ?_ ?_ _) | (with_reducible exact Nat.le_refl _) | (with_reducible refine le_ext _ ?_) | (with_reducible refine le_alloc _ ?_) | (with_reducible refine le_setCell _ _ ?_) | (with_reducible refine le_drew ?_) | omega | (simp; done) | (simp; omega))))⟩
  case round =>
    obtain ⟨k, hk, rfl, hown, hbel⟩ := hrel
    obtain ⟨A0, n0, c0, rfl⟩ := hown.slice
    have hsz := hbel.size
    have OWN0 := hide hown
    clear hown
    by_cases hlt : k < n
    · obtain ⟨b1, o1, rfl, hbl1, hc1⟩ := S2.out (by rw [HN.out]; omega)
      obtain ⟨hx0, hy0⟩ := hc1 k (by rw [HN.out]; omega)
      obtain ⟨⟨p1, p2⟩, p3, p4⟩ := HB.out _ (gp_mem (i := k) (by rw [HN.out]; exact hlt))
      have hx := (hbel.cell (p := ⟨b1, o1 + k * 2, none⟩) hbl1).trans hx0
      have hy := (hbel.cell (p := ⟨b1, o1 + k * 2 + 1, none⟩) hbl1).trans hy0
      have p1' : -100000 ≤ (pX ps k) ∧ (pX ps k) ≤ 100000 := by unfold pX; omega
      have p2' : -100000 ≤ (pY ps k) ∧ (pY ps k) ≤ 100000 := by unfold pY; omega
      clear hc1 hx0 hy0 p1 p2 p3 p4
      have NX := hide (dbl_take (ps := ps) (k := k) (by rw [HN.out]; exact hlt))
      have NL : ((ps.take k).map (scP 2)).length ≤ 2000000 := by rw [List.length_map, List.length_take]; omega
      go_wp2_with fail
      refine (plus_any _ _ _ _ _ p1' p2' p1' p2').mono ?_
      rintro e w' ⟨rfl, hw'⟩; have hzy2 := ext_sz hw'; obtain ⟨y2, rfl⟩ := hw'; (try simp at hzy2)
      go_wp2_with (at_builtin; refine app_pt rfl _ _ rfl w.heap.size (.slice A0 n0 c0) ((ps.take k).map (scP 2)) rfl (OWN0.out.below (by (repeat' (first | (with_reducible exact Below.refl _ _) | (with_reducible assumption) | (with_reducible refine below_ext _ ?_ ?_) | (with_reducible refine Below.alloc ?_ ?_ _) | (with_reducible refine Below.drew ?_) | (with_reducible refine below_drewN ?_ _) | (with_reducible refine le_drewN _ ?_) | (with_reducible refine Below.setCell ?_ ?_ _) | (with_reducible exact Nat.le_refl _) | (with_reducible refine le_ext _ ?_) | (with_reducible refine le_alloc _ ?_) | (with_reducible refine le_setCell _ _ ?_) | (with_reducible refine le_drew ?_) | omega | (simp; done) | (simp; omega))))) (pX ps k + pX ps k) (pY ps k + pY ps k) _ _ rfl (by simp [go_sem]) (by simp [go_sem]) NL (by simp; omega) ?_; intro v' w' hown' hb' hat hgr; obtain ⟨A4, n4, c4, rfl⟩ := hown'.slice; have O4 := hide hown'; clear hown' hat hgr)
      exact ⟨⟨k + 1, by omega, by go_num, by rw [NX.out]; exact O4.out, Below.trans (Below.trans hbel (by (repeat' (first | (with_reducible exact Below.refl _ _) | (with_reducible assumption) | (with_reducible refine below_ext _ ?_ ?_) | (with_reducible refine Below.alloc ?_ ?_ _) | (with_reducible refine Below.drew ?_) | (with_reducible refine below_drewN ?_ _) | (with_reducible refine le_drewN _ ?_) | (with_reducible refine Below.setCell ?_ ?_ _) | (with_reducible exact Nat.le_refl _) | (with_reducible refine le_ext _ ?_) | (with_reducible refine le_alloc _ ?_) | (with_reducible refine le_setCell _ _ ?_) | (with_reducible refine le_drew ?_) | omega | (simp; done) | (simp; omega))))) hb'⟩, by simp [intOf]; omega⟩
    · have hkn : k = n := by omega
      subst hkn
      have e0 : ps.take k = ps := List.take_of_length_le (by rw [HN.out]; exact Nat.le_refl _)
      have OWN1 : Hid (OwnP wr w.heap.size (.slice A0 n0 c0) (ps.map (scP 2))) := hide (by have := OWN0.out; rw [e0] at this; exact this)
      clear e0 OWN0
      go_wp2
      go_ret
      exact ⟨_, rfl, OWN1.out, ext_mk hbel⟩
theorem diagI_no {ps : List Pt} {i k : Nat} (h : ¬ (2 ≤ (k + ps.length - i) % ps.length ∧ (k + ps.length - i) % ps.length + 2 ≤ ps.length)) : diagI ps i k = false := by
  unfold diagI
  rw [← Bool.not_eq_true]
  simp only [Bool.and_eq_true, decide_eq_true_eq]
  exact fun hh => h hh.1
theorem diagI_at {ps : List Pt} {i k j : Nat} (hj : j < ps.length) (h : eI ps i k j = false) : diagI ps i k = false := by
  unfold diagI
  rw [← Bool.not_eq_true]
  simp only [Bool.and_eq_true, List.all_eq_true, List.mem_range]
  exact fun hh => by rw [hh.2.1 j hj] at h; cases h
theorem diagI_last {ps : List Pt} {i k : Nat} (h1 : 2 ≤ (k + ps.length - i) % ps.length ∧ (k + ps.length - i) % ps.length + 2 ≤ ps.length) (h2 : ∀ j, j < ps.length → eI ps i k j = true) : diagI ps i k = decide (locI (ps.map (scP 2)) (midP (gp ps i) (gp ps k)) = 1) := by
  unfold diagI
  rw [decide_eq_true h1.1, decide_eq_true h1.2, List.all_eq_true.2 fun j hj => h2 j (List.mem_range.1 hj)]
  rfl
theorem sc2_bd {ps : List Pt} (h : ∀ p ∈ ps, (-1000 ≤ p.x ∧ p.x ≤ 1000) ∧ (-1000 ≤ p.y ∧ p.y ≤ 1000)) : ∀ p ∈ ps.map (scP 2), (-100000 ≤ p.x ∧ p.x ≤ 100000) ∧ (-100000 ≤ p.y ∧ p.y ≤ 100000) := fun p hp => by
  obtain ⟨q, hq, rfl⟩ := List.mem_map.1 hp
  have := h q hq
  unfold scP
  simp only
  omega
set_option maxHeartbeats 4000000 in
theorem diagonal_any (ps : List Pt) (i k : Nat) (A : Option Addr) (n c : Nat) (w : World) (hn : ps.length = n) (hok : simB ps = true) (hi : i < n) (hk : k < n) (hs : PtsAt w w.heap.size A ps) :
    Calls Tryz.prog 48 #[.slice A n c, .int .i64 i, .int .i64 k] w fun e w' => e = .returned (.bool (diagI ps i k)) ∧ ∃ x, w' = ext w x := by
  obtain ⟨hib, h3, h20, _⟩ := simB_parts hok
  have hp3 := simB_P3 hok
  have e2 : Int.tmod ((k : Int) - (i : Int) + (n : Int)) (n : Int) = (((k + n - i) % n : Nat) : Int) := by
    rw [show ((k : Int) - (i : Int) + (n : Int)) = ((k + n - i : Nat) : Int) by omega]
    exact (Int.ofNat_tmod (k + n - i) n).symm
  have DN := hide (diagI_no (ps := ps) (i := i) (k := k))
  have DA := hide (fun j => diagI_at (ps := ps) (i := i) (k := k) (j := j))
  have DL := hide (diagI_last (ps := ps) (i := i) (k := k))
  rw [hn] at DN DA DL
  have hdl : (k + n - i) % n < n := Nat.mod_lt _ (by omega)
  generalize (k + n - i) % n = d at *
  have w1 : IntKind.i64.wrap ((k : Int) - (i : Int)) = (k : Int) - (i : Int) := IntWalk.i64_in _ (by omega)
  have w2 : IntKind.i64.wrap ((k : Int) - (i : Int) + (n : Int)) = (k : Int) - (i : Int) + (n : Int) := IntWalk.i64_in _ (by omega)
  have w3 : IntKind.i64.wrap (d : Int) = (d : Int) := IntWalk.i64_in _ (by omega)
  have w4 : IntKind.i64.wrap ((n : Int) - 2) = (n : Int) - 2 := IntWalk.i64_in _ (by omega)
  have q5 : ¬ n = 0 := by omega
  by_cases hd1 : d < 2
  · have d1 : decide ((d : Int) < 2) = true := decide_eq_true (by omega)
    have K := hide (DN.out (by omega))
    clear DN DA DL hib hp3 hok hs
    go_enter Tryz.func48, Tryz.ntmps48
    go_wp2_with fail
    go_ret
    exact ⟨ret_bool K.out.symm, (ext_mk (by (repeat' (first | (with_reducible exact Below.refl _ _) | (with_reducible assumption) | (with_reducible refine below_ext _ ?_ ?_) | (with_reducible refine Below.alloc ?_ ?_ _) | (with_reducible refine Below.drew ?_) | (with_reducible refine below_drewN ?_ _) | (with_reducible refine le_drewN _ ?_) | (with_reducible refine Below.setCell ?_ ?_ _) | (with_reducible exact Nat.le_refl _) | (with_reducible refine le_ext _ ?_) | (with_reducible refine le_alloc _ ?_) | (with_reducible refine le_setCell _ _ ?_) | (with_reducible refine le_drew ?_) | omega | (simp; done) | (simp; omega)))))⟩
  have d1 : decide ((d : Int) < 2) = false := decide_eq_false (by omega)
  by_cases hd2 : n < d + 2
  · have d2 : decide ((n : Int) - 2 < (d : Int)) = true := decide_eq_true (by omega)
    have K := hide (DN.out (by omega))
    clear DN DA DL hib hp3 hok hs
    go_enter Tryz.func48, Tryz.ntmps48
    go_wp2_with fail
    go_ret
    exact ⟨ret_bool K.out.symm, (ext_mk (by (repeat' (first | (with_reducible exact Below.refl _ _) | (with_reducible assumption) | (with_reducible refine below_ext _ ?_ ?_) | (with_reducible refine Below.alloc ?_ ?_ _) | (with_reducible refine Below.drew ?_) | (with_reducible refine below_drewN ?_ _) | (with_reducible refine le_drewN _ ?_) | (with_reducible refine Below.setCell ?_ ?_ _) | (with_reducible exact Nat.le_refl _) | (with_reducible refine le_ext _ ?_) | (with_reducible refine le_alloc _ ?_) | (with_reducible refine le_setCell _ _ ?_) | (with_reducible refine le_drew ?_) | omega | (simp; done) | (simp; omega)))))⟩
  have d2 : decide ((n : Int) - 2 < (d : Int)) = false := decide_eq_false (by omega)
  have DL := hide (DL.out (by omega))
  have HE := hide (fun (W : World) (hb : Below w.heap.size w W) => edges_any ps A n c W hn (by omega) (hs.to hb))
  have TW := hide (fun (W : World) (hb : Below w.heap.size w W) => twice_any ps A n c W hn (by omega) hp3 (hs.to hb))
  have PA := hide (hs (by omega))
  have HN := hide hn
  have BI : Hid (∀ i, i < n → (-100000 ≤ (gp ps i).x ∧ (gp ps i).x ≤ 100000) ∧ (-100000 ≤ (gp ps i).y ∧ (gp ps i).y ≤ 100000)) := hide (fun i hi => hib _ (gp_mem (by omega)))
  have mid : Hid (midP (gp ps i) (gp ps k) = ⟨pX ps i + pX ps k, pY ps i + pY ps k⟩) := hide rfl
  have ic := hp3 _ (gp_mem (show i < ps.length by omega))
  have kc := hp3 _ (gp_mem (show k < ps.length by omega))
  have LO := hide (fun (At : Option Addr) (ct : Nat) (W : World) (hP : PtsAt W W.heap.size At (ps.map (scP 2))) => locate_any (ps.map (scP 2)) (pX ps i + pX ps k) (pY ps i + pY ps k) At n ct W (by rw [List.length_map]; exact hn) (by omega) (sc2_bd hp3) (by unfold pX pY; omega) hP)
  have l2 : Hid ((ps.map (scP 2)).length = n) := hide (by rw [List.length_map]; exact hn)
  obtain ⟨b, o, rfl, hbl, hcs⟩ := PA.out
  obtain ⟨xi, yi⟩ := hcs i (by omega)
  obtain ⟨xk, yk⟩ := hcs k (by omega)
  have hX1 : -1000 ≤ (pX ps i) ∧ (pX ps i) ≤ 1000 := by unfold pX; omega
  have hY1 : -1000 ≤ (pY ps i) ∧ (pY ps i) ≤ 1000 := by unfold pY; omega
  have hX2 : -1000 ≤ (pX ps k) ∧ (pX ps k) ≤ 1000 := by unfold pX; omega
  have hY2 : -1000 ≤ (pY ps k) ∧ (pY ps k) ≤ 1000 := by unfold pY; omega
  have PL := hide (fun W => plus_any (pX ps i) (pY ps i) (pX ps k) (pY ps k) W (by omega) (by omega) (by omega) (by omega))
  have RK : Hid (diagI ps i k = true ∨ diagI ps i k = false) := hide (by cases diagI ps i k <;> simp)
  have hnk : n ≤ 20 := by omega
  have q1 : (0 : Int) ≤ (i : Int) := by omega
  have q2 : (i : Int) < (n : Int) := by omega
  have q3 : (0 : Int) ≤ (k : Int) := by omega
  have q4 : (k : Int) < (n : Int) := by omega
  have P1x : Hid (pX ps i = (gp ps i).x ∧ pY ps i = (gp ps i).y ∧ pX ps k = (gp ps k).x ∧ pY ps k = (gp ps k).y) := hide ⟨rfl, rfl, rfl, rfl⟩
  have CE : Hid (∀ j W, j < n → Calls Tryz.prog 93 #[.agg #[.int .i64 (pX ps i), .int .i64 (pY ps i), .int .i64 (pX ps k), .int .i64 (pY ps k)], .agg #[.int .i64 (gp ps j).x, .int .i64 (gp ps j).y, .int .i64 (gp ps ((j + 1) % n)).x, .int .i64 (gp ps ((j + 1) % n)).y]] W fun r w' => ∃ v, r = .returned v ∧ OwnP w' W.heap.size v (cmn (gp ps i, gp ps k) (gp ps j, gp ps ((j + 1) % n))) ∧ ∃ n, w' = ext W n) := hide (fun j W hj => by
    have h1 := BI.out j hj
    have h2 := BI.out _ (Nat.mod_lt (j + 1) (show 0 < n by omega))
    exact common_any _ _ _ _ _ _ _ _ W (by omega) (by omega) (by omega) (by omega) h1.1 h1.2 h2.1 h2.2)
  have RE0 : Hid (∀ j W, j < n → Calls Tryz.prog 95 #[.agg #[.int .i64 (pX ps i), .int .i64 (pY ps i), .int .i64 (pX ps k), .int .i64 (pY ps k)], .agg #[.int .i64 (gp ps j).x, .int .i64 (gp ps j).y, .int .i64 (gp ps ((j + 1) % n)).x, .int .i64 (gp ps ((j + 1) % n)).y]] W fun r w' => r = .returned (.int .i64 (relI (gp ps i, gp ps k) (gp ps j, gp ps ((j + 1) % n)))) ∧ ∃ n, w' = ext W n) := hide (fun j W hj => by
    have h1 := BI.out j hj
    have h2 := BI.out _ (Nat.mod_lt (j + 1) (show 0 < n by omega))
    exact relation_any _ _ _ _ _ _ _ _ W (by omega) (by omega) (by omega) (by omega) h1.1 h1.2 h2.1 h2.2)
  have IE0 : Hid (∀ x y W, Calls Tryz.prog 94 #[.agg #[.int .i64 (pX ps i), .int .i64 (pY ps i), .int .i64 (pX ps k), .int .i64 (pY ps k)], .agg #[.int .i64 x, .int .i64 y]] W fun r w' => r = .returned (.bool (isEndB (gp ps i, gp ps k) ⟨x, y⟩)) ∧ ∃ n, w' = ext W n) := hide (fun x y W => isEnd_any _ _ _ _ _ _ W)
  have EVj : Hid (∀ j, eI ps i k j = if (isEndB (gp ps i, gp ps k) ⟨(gp ps j).x, (gp ps j).y⟩ || isEndB (gp ps i, gp ps k) ⟨(gp ps ((j + 1) % n)).x, (gp ps ((j + 1) % n)).y⟩) = true then decide ((cmn (gp ps i, gp ps k) (gp ps j, gp ps ((j + 1) % n))).length = 1) else decide (relI (gp ps i, gp ps k) (gp ps j, gp ps ((j + 1) % n)) = 0)) := hide (fun j => by
    rw [← HN.out]; rfl)
  clear hcs hs hib hp3 hok ic kc hn PA
  generalize pX ps i = XI at *
  generalize pY ps i = YI at *
  generalize pX ps k = XK at *
  generalize pY ps k = YK at *
  go_enter Tryz.func48, Tryz.ntmps48
  go_wp2_with fail
  go_region
  go_wp2_with fail
  refine (HE.out _ (by (repeat' (first | (with_reducible exact Below.refl _ _) | (with_reducible assumption) | (with_reducible refine below_ext _ ?_ ?_) | (with_reducible refine Below.alloc ?_ ?_ _) | (with_reducible refine Below.drew ?_) | (with_reducible refine below_drewN ?_ _) | (with_reducible refine le_drewN _ ?_) | (with_reducible refine Below.setCell ?_ ?_ _) | (with_reducible exact Nat.le_refl _) | (with_reducible refine le_ext _ ?_) | (with_reducible refine le_alloc _ ?_) | (with_reducible refine le_setCell _ _ ?_) | (with_reducible refine le_drew ?_) | omega | (simp; done) | (simp; omega))))).mono ?_
  rintro e w5 ⟨v5, rfl, hown5, x5, rfl⟩
  obtain ⟨A5, n5, c5, rfl⟩ := hown5.slice
  have l5 := hown5.segs.1
  have e5 : n = n5 := by have := HN.out; rw [edgesL_len] at l5; omega
  subst e5
  have SG := hide hown5.segs.2.2.2
  clear hown5 l5
  have B6 := hide (show Below w.heap.size w (ext (w.alloc (.cells #[.int .i64 XI, .int .i64 YI, .int .i64 XK, .int .i64 YK] 91)).drew x5) from (by (repeat' (first | (with_reducible exact Below.refl _ _) | (with_reducible assumption) | (with_reducible refine below_ext _ ?_ ?_) | (with_reducible refine Below.alloc ?_ ?_ _) | (with_reducible refine Below.drew ?_) | (with_reducible refine below_drewN ?_ _) | (with_reducible refine le_drewN _ ?_) | (with_reducible refine Below.setCell ?_ ?_ _) | (with_reducible exact Nat.le_refl _) | (with_reducible refine le_ext _ ?_) | (with_reducible refine le_alloc _ ?_) | (with_reducible refine le_setCell _ _ ?_) | (with_reducible refine le_drew ?_) | omega | (simp; done) | (simp; omega)))))
  have BX := hide ((Below.block (show Below (w.alloc (.cells #[.int .i64 XI, .int .i64 YI, .int .i64 XK, .int .i64 YK] 91)).heap.size (w.alloc (.cells #[.int .i64 XI, .int .i64 YI, .int .i64 XK, .int .i64 YK] 91)) (ext (w.alloc (.cells #[.int .i64 XI, .int .i64 YI, .int .i64 XK, .int .i64 YK] 91)).drew x5) from (by (repeat' (first | (with_reducible exact Below.refl _ _) | (with_reducible assumption) | (with_reducible refine below_ext _ ?_ ?_) | (with_reducible refine Below.alloc ?_ ?_ _) | (with_reducible refine Below.drew ?_) | (with_reducible refine below_drewN ?_ _) | (with_reducible refine le_drewN _ ?_) | (with_reducible refine Below.setCell ?_ ?_ _) | (with_reducible exact Nat.le_refl _) | (with_reducible refine le_ext _ ?_) | (with_reducible refine le_alloc _ ?_) | (with_reducible refine le_setCell _ _ ?_) | (with_reducible refine le_drew ?_) | omega | (simp; done) | (simp; omega))))) w.heap.size (by simp)).trans (heap_alloc_new w (.cells #[.int .i64 XI, .int .i64 YI, .int .i64 XK, .int .i64 YK] 91)))
  have hwb : w.heap.size + 1 ≤ (ext (w.alloc (.cells #[.int .i64 XI, .int .i64 YI, .int .i64 XK, .int .i64 YK] 91)).drew x5).heap.size := Nat.le_trans (by simp) (ext_size _ x5)
  generalize ext (w.alloc (.cells #[.int .i64 XI, .int .i64 YI, .int .i64 XK, .int .i64 YK] 91)).drew x5 = W5 at *
  have CS : Hid (0 < n → ∃ b o, A5 = some ⟨b, o, none⟩ ∧ b < W5.heap.size ∧ ∀ i, i < n → W5.cell? ⟨b, o + i * 4, none⟩ = some (.int .i64 (gp ps i).x) ∧ W5.cell? ⟨b, o + i * 4 + 1, none⟩ = some (.int .i64 (gp ps i).y) ∧ W5.cell? ⟨b, o + i * 4 + 2, none⟩ = some (.int .i64 (gp ps ((i + 1) % n)).x) ∧ W5.cell? ⟨b, o + i * 4 + 3, none⟩ = some (.int .i64 (gp ps ((i + 1) % n)).y)) := hide (fun h0 => by
    obtain ⟨b5, o5, hA, hb5, hcs5⟩ := SG.out (by rw [edgesL_len, HN.out]; exact h0)
    refine ⟨b5, o5, hA, hb5, fun i hi => ?_⟩
    have := hcs5 i (by rw [edgesL_len, HN.out]; exact hi)
    rw [edgesL_at (by rw [HN.out]; exact hi)] at this
    unfold edgeAt at this
    rw [HN.out] at this
    exact this)
  clear SG
  go_wp2_with fail
  go_loopw [43] (fun u43 wr => ∃ j : Nat, j ≤ n ∧ u43 = .int .i64 j ∧ Hid (∀ q, q < j → eI ps i k q = true) ∧ Below W5.heap.size W5 wr) (fun u43 _ => n - (intOf u43).toNat)
  case atStart => exact ⟨0, Nat.zero_le _, rfl, hide (fun q hq => by omega), Below.refl _ _⟩
  case round =>
    obtain ⟨j, hj, rfl, HF, hbel⟩ := hrel
    have hsz := hbel.size
    have bx := (hbel.block w.heap.size (by omega)).trans BX.out
    have s0 := heap_cell bx 0
    have s1 := heap_cell bx 1
    have s2 := heap_cell bx 2
    have s3 := heap_cell bx 3
    simp at s0 s1 s2 s3
    clear bx
    have xi' := (hbel.cell (p := ⟨b, o + i * 2, none⟩) (by simp; omega)).trans ((B6.out.cell (p := ⟨b, o + i * 2, none⟩) hbl).trans xi)
    have yi' := (hbel.cell (p := ⟨b, o + i * 2 + 1, none⟩) (by simp; omega)).trans ((B6.out.cell (p := ⟨b, o + i * 2 + 1, none⟩) hbl).trans yi)
    have xk' := (hbel.cell (p := ⟨b, o + k * 2, none⟩) (by simp; omega)).trans ((B6.out.cell (p := ⟨b, o + k * 2, none⟩) hbl).trans xk)
    have yk' := (hbel.cell (p := ⟨b, o + k * 2 + 1, none⟩) (by simp; omega)).trans ((B6.out.cell (p := ⟨b, o + k * 2 + 1, none⟩) hbl).trans yk)
    by_cases hlt : j < n
    · obtain ⟨b5, o5, rfl, hb5, cs5⟩ := CS.out (by omega)
      obtain ⟨c1, c2, c3, c4⟩ := cs5 j hlt
      have g1 := (hbel.cell (p := ⟨b5, o5 + j * 4, none⟩) hb5).trans c1
      have g2 := (hbel.cell (p := ⟨b5, o5 + j * 4 + 1, none⟩) hb5).trans c2
      have g3 := (hbel.cell (p := ⟨b5, o5 + j * 4 + 2, none⟩) hb5).trans c3
      have g4 := (hbel.cell (p := ⟨b5, o5 + j * 4 + 3, none⟩) hb5).trans c4
      clear c1 c2 c3 c4 cs5
      have CM := hide (fun W => CE.out j W hlt)
      have RE := hide (fun W => RE0.out j W hlt)
      have EV := hide (EVj.out j)
      have I1 := hide (fun W => IE0.out (gp ps j).x (gp ps j).y W)
      have I2 := hide (fun W => IE0.out (gp ps ((j + 1) % n)).x (gp ps ((j + 1) % n)).y W)
      have NF : Hid (eI ps i k j = true → ∀ q, q < j + 1 → eI ps i k q = true) := hide (fun h q hq => by
        by_cases e : q = j
        · rw [e]; exact h
        · exact HF.out q (by omega))
      have FA := hide (DA.out j hlt)
      obtain ⟨L, hL⟩ : ∃ L, L = (cmn (gp ps i, gp ps k) (gp ps j, gp ps ((j + 1) % n))).length := ⟨_, rfl⟩
      have LC := hide hL.symm
      rw [← hL] at EV
      clear hL DA CE RE0 IE0 EVj DL LO TW PL xi' yi' xk' yk'
      generalize eI ps i k j = EI at *
      generalize isEndB (gp ps i, gp ps k) ⟨(gp ps j).x, (gp ps j).y⟩ = IE1 at *
      generalize isEndB (gp ps i, gp ps k) ⟨(gp ps ((j + 1) % n)).x, (gp ps ((j + 1) % n)).y⟩ = IE2 at *
      generalize relI (gp ps i, gp ps k) (gp ps j, gp ps ((j + 1) % n)) = RI at *
      generalize cmn (gp ps i, gp ps k) (gp ps j, gp ps ((j + 1) % n)) = CML at *
      generalize (gp ps j).x = X1 at *
      generalize (gp ps j).y = Y1 at *
      generalize (gp ps ((j + 1) % n)).x = X2 at *
      generalize (gp ps ((j + 1) % n)).y = Y2 at *
      cases hb1 : IE1
      · rw [hb1] at I1 EV
        clear hb1
        cases hb2 : IE2
        · rw [hb2] at I2 EV
          clear hb2
          by_cases hr : RI = 0
          · have dR : (RI != 0) = false := by simp [hr]
            have KE : Hid (EI = true) := hide (by rw [EV.out, decide_eq_true hr]; rfl)
            go_wp2_with fail
            refine (CM.out _).mono ?_
            rintro e w7 ⟨v7, rfl, hown7, x7, hw7⟩
            obtain ⟨A7, n7, c7, rfl⟩ := hown7.slice
            have l7 := hown7.pts.1
            rw [LC.out] at l7
            subst l7
            have hz7 := ext_sz ⟨x7, hw7⟩
            subst hw7
            simp at hz7
            clear hown7
            go_wp2_with fail
            refine (I1.out _).mono ?_
            rintro e w' ⟨rfl, hw'⟩; have hzy8 := ext_sz hw'; obtain ⟨y8, rfl⟩ := hw'; (try simp at hzy8)
            go_wp2_with fail
            refine (I2.out _).mono ?_
            rintro e w' ⟨rfl, hw'⟩; have hzy9 := ext_sz hw'; obtain ⟨y9, rfl⟩ := hw'; (try simp at hzy9)
            go_wp2_with fail
            refine (RE.out _).mono ?_
            rintro e w' ⟨rfl, hw'⟩; have hzy10 := ext_sz hw'; obtain ⟨y10, rfl⟩ := hw'; (try simp at hzy10)
            go_wp2_with fail
            exact ⟨⟨j + 1, by omega, by go_num, hide (NF.out KE.out), hbel.trans (by (repeat' (first | (with_reducible exact Below.refl _ _) | (with_reducible assumption) | (with_reducible refine below_ext _ ?_ ?_) | (with_reducible refine Below.alloc ?_ ?_ _) | (with_reducible refine Below.drew ?_) | (with_reducible refine below_drewN ?_ _) | (with_reducible refine le_drewN _ ?_) | (with_reducible refine Below.setCell ?_ ?_ _) | (with_reducible exact Nat.le_refl _) | (with_reducible refine le_ext _ ?_) | (with_reducible refine le_alloc _ ?_) | (with_reducible refine le_setCell _ _ ?_) | (with_reducible refine le_drew ?_) | omega | (simp; done) | (simp; omega))))⟩, by simp [intOf]; omega⟩
          · have dR : (RI != 0) = true := by simp [hr]
            have KE : Hid (EI = false) := hide (by rw [EV.out, decide_eq_false hr]; rfl)
            go_wp2_with fail
            refine (CM.out _).mono ?_
            rintro e w7 ⟨v7, rfl, hown7, x7, hw7⟩
            obtain ⟨A7, n7, c7, rfl⟩ := hown7.slice
            have l7 := hown7.pts.1
            rw [LC.out] at l7
            subst l7
            have hz7 := ext_sz ⟨x7, hw7⟩
            subst hw7
            simp at hz7
            clear hown7
            go_wp2_with fail
            refine (I1.out _).mono ?_
            rintro e w' ⟨rfl, hw'⟩; have hzy8 := ext_sz hw'; obtain ⟨y8, rfl⟩ := hw'; (try simp at hzy8)
            go_wp2_with fail
            refine (I2.out _).mono ?_
            rintro e w' ⟨rfl, hw'⟩; have hzy9 := ext_sz hw'; obtain ⟨y9, rfl⟩ := hw'; (try simp at hzy9)
            go_wp2_with fail
            refine (RE.out _).mono ?_
            rintro e w' ⟨rfl, hw'⟩; have hzy10 := ext_sz hw'; obtain ⟨y10, rfl⟩ := hw'; (try simp at hzy10)
            go_wp2_with fail
            go_ret
            exact ⟨ret_bool (FA.out KE.out).symm, ext_mk (B6.out.trans ((hbel.trans (by (repeat' (first | (with_reducible exact Below.refl _ _) | (with_reducible assumption) | (with_reducible refine below_ext _ ?_ ?_) | (with_reducible refine Below.alloc ?_ ?_ _) | (with_reducible refine Below.drew ?_) | (with_reducible refine below_drewN ?_ _) | (with_reducible refine le_drewN _ ?_) | (with_reducible refine Below.setCell ?_ ?_ _) | (with_reducible exact Nat.le_refl _) | (with_reducible refine le_ext _ ?_) | (with_reducible refine le_alloc _ ?_) | (with_reducible refine le_setCell _ _ ?_) | (with_reducible refine le_drew ?_) | omega | (simp; done) | (simp; omega))))).mono B6.out.size))⟩
        · rw [hb2] at I2 EV
          clear hb2
          by_cases hr : L = 1
          · have dR : ((L : Int) != 1) = false := by rw [hr]; rfl
            have KE : Hid (EI = true) := hide (by rw [EV.out, decide_eq_true hr]; simp)
            go_wp2_with fail
            refine (CM.out _).mono ?_
            rintro e w7 ⟨v7, rfl, hown7, x7, hw7⟩
            obtain ⟨A7, n7, c7, rfl⟩ := hown7.slice
            have l7 := hown7.pts.1
            rw [LC.out] at l7
            subst l7
            have hz7 := ext_sz ⟨x7, hw7⟩
            subst hw7
            simp at hz7
            clear hown7
            go_wp2_with fail
            refine (I1.out _).mono ?_
            rintro e w' ⟨rfl, hw'⟩; have hzy8 := ext_sz hw'; obtain ⟨y8, rfl⟩ := hw'; (try simp at hzy8)
            go_wp2_with fail
            refine (I2.out _).mono ?_
            rintro e w' ⟨rfl, hw'⟩; have hzy9 := ext_sz hw'; obtain ⟨y9, rfl⟩ := hw'; (try simp at hzy9)
            go_wp2_with fail
            exact ⟨⟨j + 1, by omega, by go_num, hide (NF.out KE.out), hbel.trans (by (repeat' (first | (with_reducible exact Below.refl _ _) | (with_reducible assumption) | (with_reducible refine below_ext _ ?_ ?_) | (with_reducible refine Below.alloc ?_ ?_ _) | (with_reducible refine Below.drew ?_) | (with_reducible refine below_drewN ?_ _) | (with_reducible refine le_drewN _ ?_) | (with_reducible refine Below.setCell ?_ ?_ _) | (with_reducible exact Nat.le_refl _) | (with_reducible refine le_ext _ ?_) | (with_reducible refine le_alloc _ ?_) | (with_reducible refine le_setCell _ _ ?_) | (with_reducible refine le_drew ?_) | omega | (simp; done) | (simp; omega))))⟩, by simp [intOf]; omega⟩
          · have dR : ((L : Int) != 1) = true := by rw [bne_iff_ne]; omega
            have KE : Hid (EI = false) := hide (by rw [EV.out, decide_eq_false hr]; simp)
            go_wp2_with fail
            refine (CM.out _).mono ?_
            rintro e w7 ⟨v7, rfl, hown7, x7, hw7⟩
            obtain ⟨A7, n7, c7, rfl⟩ := hown7.slice
            have l7 := hown7.pts.1
            rw [LC.out] at l7
            subst l7
            have hz7 := ext_sz ⟨x7, hw7⟩
            subst hw7
            simp at hz7
            clear hown7
            go_wp2_with fail
            refine (I1.out _).mono ?_
            rintro e w' ⟨rfl, hw'⟩; have hzy8 := ext_sz hw'; obtain ⟨y8, rfl⟩ := hw'; (try simp at hzy8)
            go_wp2_with fail
            refine (I2.out _).mono ?_
            rintro e w' ⟨rfl, hw'⟩; have hzy9 := ext_sz hw'; obtain ⟨y9, rfl⟩ := hw'; (try simp at hzy9)
            go_wp2_with fail
            go_ret
            exact ⟨ret_bool (FA.out KE.out).symm, ext_mk (B6.out.trans ((hbel.trans (by (repeat' (first | (with_reducible exact Below.refl _ _) | (with_reducible assumption) | (with_reducible refine below_ext _ ?_ ?_) | (with_reducible refine Below.alloc ?_ ?_ _) | (with_reducible refine Below.drew ?_) | (with_reducible refine below_drewN ?_ _) | (with_reducible refine le_drewN _ ?_) | (with_reducible refine Below.setCell ?_ ?_ _) | (with_reducible exact Nat.le_refl _) | (with_reducible refine le_ext _ ?_) | (with_reducible refine le_alloc _ ?_) | (with_reducible refine le_setCell _ _ ?_) | (with_reducible refine le_drew ?_) | omega | (simp; done) | (simp; omega))))).mono B6.out.size))⟩
      · rw [hb1] at I1 EV
        clear hb1
        by_cases hr : L = 1
        · have dR : ((L : Int) != 1) = false := by rw [hr]; rfl
          have KE : Hid (EI = true) := hide (by rw [EV.out, decide_eq_true hr]; simp)
          go_wp2_with fail
          refine (CM.out _).mono ?_
          rintro e w7 ⟨v7, rfl, hown7, x7, hw7⟩
          obtain ⟨A7, n7, c7, rfl⟩ := hown7.slice
          have l7 := hown7.pts.1
          rw [LC.out] at l7
          subst l7
          have hz7 := ext_sz ⟨x7, hw7⟩
          subst hw7
          simp at hz7
          clear hown7
          go_wp2_with fail
          refine (I1.out _).mono ?_
          rintro e w' ⟨rfl, hw'⟩; have hzy8 := ext_sz hw'; obtain ⟨y8, rfl⟩ := hw'; (try simp at hzy8)
          go_wp2_with fail
          exact ⟨⟨j + 1, by omega, by go_num, hide (NF.out KE.out), hbel.trans (by (repeat' (first | (with_reducible exact Below.refl _ _) | (with_reducible assumption) | (with_reducible refine below_ext _ ?_ ?_) | (with_reducible refine Below.alloc ?_ ?_ _) | (with_reducible refine Below.drew ?_) | (with_reducible refine below_drewN ?_ _) | (with_reducible refine le_drewN _ ?_) | (with_reducible refine Below.setCell ?_ ?_ _) | (with_reducible exact Nat.le_refl _) | (with_reducible refine le_ext _ ?_) | (with_reducible refine le_alloc _ ?_) | (with_reducible refine le_setCell _ _ ?_) | (with_reducible refine le_drew ?_) | omega | (simp; done) | (simp; omega))))⟩, by simp [intOf]; omega⟩
        · have dR : ((L : Int) != 1) = true := by rw [bne_iff_ne]; omega
          have KE : Hid (EI = false) := hide (by rw [EV.out, decide_eq_false hr]; simp)
          go_wp2_with fail
          refine (CM.out _).mono ?_
          rintro e w7 ⟨v7, rfl, hown7, x7, hw7⟩
          obtain ⟨A7, n7, c7, rfl⟩ := hown7.slice
          have l7 := hown7.pts.1
          rw [LC.out] at l7
          subst l7
          have hz7 := ext_sz ⟨x7, hw7⟩
          subst hw7
          simp at hz7
          clear hown7
          go_wp2_with fail
          refine (I1.out _).mono ?_
          rintro e w' ⟨rfl, hw'⟩; have hzy8 := ext_sz hw'; obtain ⟨y8, rfl⟩ := hw'; (try simp at hzy8)
          go_wp2_with fail
          go_ret
          exact ⟨ret_bool (FA.out KE.out).symm, ext_mk (B6.out.trans ((hbel.trans (by (repeat' (first | (with_reducible exact Below.refl _ _) | (with_reducible assumption) | (with_reducible refine below_ext _ ?_ ?_) | (with_reducible refine Below.alloc ?_ ?_ _) | (with_reducible refine Below.drew ?_) | (with_reducible refine below_drewN ?_ _) | (with_reducible refine le_drewN _ ?_) | (with_reducible refine Below.setCell ?_ ?_ _) | (with_reducible exact Nat.le_refl _) | (with_reducible refine le_ext _ ?_) | (with_reducible refine le_alloc _ ?_) | (with_reducible refine le_setCell _ _ ?_) | (with_reducible refine le_drew ?_) | omega | (simp; done) | (simp; omega))))).mono B6.out.size))⟩
    · have hin' : j = n := by omega
      subst hin'
      have K := hide (DL.out HF.out)
      rw [mid.out] at K
      have hbw := hide (B6.out.trans (hbel.mono B6.out.size))
      clear DL DA CE RE0 IE0 EVj HE s0 s1 s2 s3 CS
      generalize locI (ps.map (scP 2)) ⟨XI + XK, YI + YK⟩ = LI at *
      go_wp2_with fail
      go_region_with (first | (go_at_call 96; refine (TW.out _ (hbw.out.trans (by (repeat' (first | (with_reducible exact Below.refl _ _) | (with_reducible assumption) | (with_reducible refine below_ext _ ?_ ?_) | (with_reducible refine Below.alloc ?_ ?_ _) | (with_reducible refine Below.drew ?_) | (with_reducible refine below_drewN ?_ _) | (with_reducible refine le_drewN _ ?_) | (with_reducible refine Below.setCell ?_ ?_ _) | (with_reducible exact Nat.le_refl _) | (with_reducible refine le_ext _ ?_) | (with_reducible refine le_alloc _ ?_) | (with_reducible refine le_setCell _ _ ?_) | (with_reducible refine le_drew ?_) | omega | (simp; done) | (simp; omega)))))).mono ?_; rintro e wt ⟨vt, rfl, hownt, xt, hwt⟩; obtain ⟨At, nt, ct, rfl⟩ := hownt.slice; have lt := hownt.pts.1; rw [l2.out] at lt; subst lt; have PT := hide hownt.pts.2.2.2; have hzt := ext_sz ⟨xt, hwt⟩; subst hwt; (try simp at hzt); clear hownt) | (go_at_call 97; refine (PL.out _).mono ?_; rintro e w' ⟨rfl, hw'⟩; have hzyp := ext_sz hw'; obtain ⟨yp, rfl⟩ := hw'; (try simp at hzyp)) | (go_at_call 64; refine (LO.out _ _ _ (PT.out.to (by (repeat' (first | (with_reducible exact Below.refl _ _) | (with_reducible assumption) | (with_reducible refine below_ext _ ?_ ?_) | (with_reducible refine Below.alloc ?_ ?_ _) | (with_reducible refine Below.drew ?_) | (with_reducible refine below_drewN ?_ _) | (with_reducible refine le_drewN _ ?_) | (with_reducible refine Below.setCell ?_ ?_ _) | (with_reducible exact Nat.le_refl _) | (with_reducible refine le_ext _ ?_) | (with_reducible refine le_alloc _ ?_) | (with_reducible refine le_setCell _ _ ?_) | (with_reducible refine le_drew ?_) | omega | (simp; done) | (simp; omega)))))).mono ?_; rintro e w' ⟨rfl, hw'⟩; have hzyl := ext_sz hw'; obtain ⟨yl, rfl⟩ := hw'; (try simp at hzyl)))
      all_goals (go_wp2_with fail)
      all_goals go_ret
      all_goals exact ⟨ret_bool (by rw [K.out, Bool.eq_iff_iff, beq_iff_eq, decide_eq_true_eq]), ext_mk (hbw.out.trans (by (repeat' (first | (with_reducible exact Below.refl _ _) | (with_reducible assumption) | (with_reducible refine below_ext _ ?_ ?_) | (with_reducible refine Below.alloc ?_ ?_ _) | (with_reducible refine Below.drew ?_) | (with_reducible refine below_drewN ?_ _) | (with_reducible refine le_drewN _ ?_) | (with_reducible refine Below.setCell ?_ ?_ _) | (with_reducible exact Nat.le_refl _) | (with_reducible refine le_ext _ ?_) | (with_reducible refine le_alloc _ ?_) | (with_reducible refine le_setCell _ _ ?_) | (with_reducible refine le_drew ?_) | omega | (simp; done) | (simp; omega)))))⟩
end Go.Proofs.YtkkmioffclpmfaaGreat
