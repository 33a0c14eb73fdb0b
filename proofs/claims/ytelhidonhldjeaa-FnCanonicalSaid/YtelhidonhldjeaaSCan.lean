
/- Canonical: the reference's; the law's 'backwards'; SortPoints (printed by tools/genscan.py). -/
import Derived.Test.YtelhidonhldjeaaCanP
import Derived.Test.YtelhidonhldjeaaSimS
import Derived.Test.YtelhidonhldjeaaSHull
import Derived.Test.YtelhidonhldjeaaPoly
import Derived.Test.YtelhidonhldjeaaCount
import Derived.Test.YtelhidonhldjeaaSorted
import Derived.Test.YtelhidonhldjeaaConv
set_option linter.unusedVariables false
set_option linter.unusedSimpArgs false
namespace Go.Proofs.Ytelhidonhldjeaa
open Go.RowKit

set_option maxHeartbeats 1000000 in
theorem backwards_any (ps : List Pt) (A : Option Addr) (n c : Nat) (w : World) (hn : ps.length = n) (hm : n ≤ 1000) (hs : PtsAt w w.heap.size A ps) :
    Calls Try.prog 28 #[.slice A n c] w fun e w' => ∃ v, e = .returned v ∧ OwnP w' w.heap.size v ps.reverse ∧ ∃ x, w' = ext w x := by
  have HN := hide hn
  clear hn
  go_enter Try.func28, Try.ntmps28
  go_wp2
  go_loopw [3, 4] (fun u3 u4 wr => ∃ (k : Nat) (z : Int) (L : List Pt), k ≤ n ∧ u4 = .int .i64 z ∧ z = (k : Int) - 1 ∧ OwnP wr w.heap.size u3 L ∧ Hid (L = (ps.drop k).reverse) ∧ L.length ≤ n - k ∧ Below w.heap.size w wr) (fun _ u4 _ => (intOf u4 + 1).toNat)
  case atStart => exact ⟨n, (n : Int) - 1, [], Nat.le_refl _, by go_num, rfl, OwnP.empty w w.heap.size 0 (Nat.le_refl _) #[] rfl (by simp [maxLen]), hide (by rw [List.drop_of_length_le (by rw [HN.out]; exact Nat.le_refl _)]; rfl), Nat.zero_le _, (by (repeat' (first | (with_reducible exact Below.refl _ _) | (with_reducible assumption) | (with_reducible refine below_ext _ ?_ ?_) | (with_reducible refine Below.alloc ?_ ?_ _) | (with_reducible refine Below.drew ?_) | (with_reducible refine below_drewN ?_ _) | (with_reducible refine le_drewN _ ?_) | (with_reducible refine Below.setCell ?_ ?_ _) | (with_reducible exact Nat.le_refl _) | (with_reducible refine le_ext _ ?_) | (with_reducible refine le_alloc _ ?_) | (with_reducible refine le_setCell _ _ ?_) | (with_reducible refine le_drew ?_) | omega | (simp; done) | (simp; omega))))⟩
  case round =>
    obtain ⟨k, z, L, hk, rfl, hz, hown, hL, hLl, hbel⟩ := hrel
    obtain ⟨A0, n0, c0, rfl⟩ := hown.slice
    have hsz := hbel.size
    have hl0 := hown.pts.1
    have OWN0 := hide hown
    clear hown
    by_cases hlt : 0 < k
    · obtain ⟨m, rfl⟩ : ∃ m, k = m + 1 := ⟨k - 1, by omega⟩
      obtain rfl : z = (m : Int) := by omega
      clear hz
      obtain ⟨b, o, rfl, hbl, hc⟩ := hs (by rw [HN.out]; omega)
      obtain ⟨hx0, hy0⟩ := hc m (by rw [HN.out]; omega)
      have hx := (hbel.cell (p := ⟨b, o + m * 2, none⟩) hbl).trans hx0
      have hy := (hbel.cell (p := ⟨b, o + m * 2 + 1, none⟩) hbl).trans hy0
      clear hc hx0 hy0
      have NX := hide (rev_drop (ps := ps) (m := m) (by rw [HN.out]; omega))
      have hml : (m : Int) < (n : Int) := by omega
      go_wp2_with (at_builtin; refine app_pt rfl _ _ rfl w.heap.size (.slice A0 n0 c0) L rfl (OWN0.out.below (by (repeat' (first | (with_reducible exact Below.refl _ _) | (with_reducible assumption) | (with_reducible refine below_ext _ ?_ ?_) | (with_reducible refine Below.alloc ?_ ?_ _) | (with_reducible refine Below.drew ?_) | (with_reducible refine below_drewN ?_ _) | (with_reducible refine le_drewN _ ?_) | (with_reducible refine Below.setCell ?_ ?_ _) | (with_reducible exact Nat.le_refl _) | (with_reducible refine le_ext _ ?_) | (with_reducible refine le_alloc _ ?_) | (with_reducible refine le_setCell _ _ ?_) | (with_reducible refine le_drew ?_) | omega | (simp; done) | (simp; omega))))) (pX ps m) (pY ps m) _ _ rfl (by simp [go_sem]) (by simp [go_sem]) (by omega) (by simp; omega) ?_; intro v' w' hown' hb' hat hgr; obtain ⟨A2, n2, c2, rfl⟩ := hown'.slice; have HO3 := hide hown'; clear hown' hat hgr)
      exact ⟨⟨m, (m : Int) - 1, L ++ [⟨pX ps m, pY ps m⟩], by omega, by go_num, rfl, HO3.out, hide (by rw [NX.out, hL.out]), by simp; omega, Below.trans (by (repeat' (first | (with_reducible exact Below.refl _ _) | (with_reducible assumption) | (with_reducible refine below_ext _ ?_ ?_) | (with_reducible refine Below.alloc ?_ ?_ _) | (with_reducible refine Below.drew ?_) | (with_reducible refine below_drewN ?_ _) | (with_reducible refine le_drewN _ ?_) | (with_reducible refine Below.setCell ?_ ?_ _) | (with_reducible exact Nat.le_refl _) | (with_reducible refine le_ext _ ?_) | (with_reducible refine le_alloc _ ?_) | (with_reducible refine le_setCell _ _ ?_) | (with_reducible refine le_drew ?_) | omega | (simp; done) | (simp; omega)))) hb'⟩, by first | (simp [intOf]; done) | (simp [intOf]; omega)⟩
    · obtain rfl : k = 0 := by omega
      obtain rfl : z = -1 := by omega
      clear hz
      go_wp2
      go_ret
      exact ⟨_, rfl, by rw [show ps.reverse = L from by rw [hL.out]; rfl]; exact OWN0.out, ext_mk hbel⟩
def sortO (ps : List Pt) : List Pt := if listOk ps then sortP ps else []
set_option maxHeartbeats 1000000 in
theorem sortPoints_any (ps : List Pt) (A : Option Addr) (n c : Nat) (w : World) (hn : ps.length = n) (hm : n ≤ 2000000) (hA : Plain A n) (hs : PtsAt w w.heap.size A ps) :
    Calls Try.prog 27 #[.slice A n c] w fun e w' => ∃ A' n' c', e = .returned (.slice A' n' c') ∧ (sortO ps).length = n' ∧ n' ≤ c' ∧ c' ≤ 9223372036854775807 ∧ PRow w' w.heap.size A' (sortO ps) ∧ Plain A' n' ∧ ∃ x, w' = ext w x := by
  have HC := hide (listOk_any ps A n c w hn hm hs)
  by_cases h : listOk ps = true
  · obtain ⟨hib, hle⟩ := listOk_InB h
    have ST := hide (fun (W : World) (hb : Below w.heap.size w W) => sorted_any ps A n c W hn (by omega) (hs.to hb) hA)
    have HE : Hid (sortO ps = sortP ps) := hide (if_pos h)
    rw [h] at HC
    clear hn hs h
    go_enter Try.func27, Try.ntmps27
    go_wp2_with fail
    refine HC.out.mono ?_
    rintro e w' ⟨rfl, hw'⟩; have hzy1 := ext_sz hw'; obtain ⟨y1, rfl⟩ := hw'; (try simp at hzy1)
    go_wp2_with fail
    refine (ST.out _ (by (repeat' (first | (with_reducible exact Below.refl _ _) | (with_reducible assumption) | (with_reducible refine below_ext _ ?_ ?_) | (with_reducible refine Below.alloc ?_ ?_ _) | (with_reducible refine Below.drew ?_) | (with_reducible refine below_drewN ?_ _) | (with_reducible refine le_drewN _ ?_) | (with_reducible refine Below.setCell ?_ ?_ _) | (with_reducible exact Nat.le_refl _) | (with_reducible refine le_ext _ ?_) | (with_reducible refine le_alloc _ ?_) | (with_reducible refine le_setCell _ _ ?_) | (with_reducible refine le_drew ?_) | omega | (simp; done) | (simp; omega))))).mono ?_
    rintro e w2 ⟨A2, n2, c2, rfl, l2, q2, qc2, pr2, pl2, hx2⟩
    have B2 := ext_bel hx2
    have PR := hide pr2
    clear pr2 hx2
    go_wp2_with fail
    go_ret
    exact ⟨_, _, _, rfl, by rw [HE.out]; exact l2, q2, qc2, by rw [HE.out]; exact PR.out.more (ext_size w y1), pl2, ext_mk (Below.trans (b := ext w y1) (by (repeat' (first | (with_reducible exact Below.refl _ _) | (with_reducible assumption) | (with_reducible refine below_ext _ ?_ ?_) | (with_reducible refine Below.alloc ?_ ?_ _) | (with_reducible refine Below.drew ?_) | (with_reducible refine below_drewN ?_ _) | (with_reducible refine le_drewN _ ?_) | (with_reducible refine Below.setCell ?_ ?_ _) | (with_reducible exact Nat.le_refl _) | (with_reducible refine le_ext _ ?_) | (with_reducible refine le_alloc _ ?_) | (with_reducible refine le_setCell _ _ ?_) | (with_reducible refine le_drew ?_) | omega | (simp; done) | (simp; omega)))) (B2.mono (ext_size w y1)))⟩
  · have h := eq_false_of_ne_true h
    have HE : Hid (sortO ps = []) := hide (by unfold sortO; rw [h]; rfl)
    rw [h] at HC
    clear hn hs h
    go_enter Try.func27, Try.ntmps27
    go_wp2_with fail
    refine HC.out.mono ?_
    rintro e w' ⟨rfl, hw'⟩; have hzy1 := ext_sz hw'; obtain ⟨y1, rfl⟩ := hw'; (try simp at hzy1)
    go_wp2_with fail
    go_ret
    exact ⟨none, 0, 0, rfl, by rw [HE.out]; rfl, Nat.le_refl _, by omega, by rw [HE.out]; exact PRow.nil _ _ _, Plain.none rfl, (ext_mk (by (repeat' (first | (with_reducible exact Below.refl _ _) | (with_reducible assumption) | (with_reducible refine below_ext _ ?_ ?_) | (with_reducible refine Below.alloc ?_ ?_ _) | (with_reducible refine Below.drew ?_) | (with_reducible refine below_drewN ?_ _) | (with_reducible refine le_drewN _ ?_) | (with_reducible refine Below.setCell ?_ ?_ _) | (with_reducible exact Nat.le_refl _) | (with_reducible refine le_ext _ ?_) | (with_reducible refine le_alloc _ ?_) | (with_reducible refine le_setCell _ _ ?_) | (with_reducible refine le_drew ?_) | omega | (simp; done) | (simp; omega)))))⟩
set_option maxRecDepth 20000 in
set_option maxHeartbeats 4000000 in
theorem sCan_any' (ps : List Pt) (A : Option Addr) (n c : Nat) (w : World) (hn : ps.length = n) (hok : simB ps = true) (hnc : n ≤ c) (hcm : c ≤ 9223372036854775807) (hs : PtsAt w w.heap.size A ps) :
    Calls Try.prog 66 #[.slice A n c] w fun e w' => ∃ v, e = .returned v ∧ OwnP w' w.heap.size v (canL ps) ∧ ∃ x, w' = ext w x := by
  obtain ⟨hib, h3, h20, _⟩ := simB_parts hok
  have hp3 := simB_P3 hok
  have k3 : 3 ≤ n := by omega
  have k20 : n ≤ 20 := by omega
  have AR := hide (sarea_any ps A n c w hn (by omega) hp3 hs)
  have RV := hide (fun (W : World) (hb : Below w.heap.size w W) => reversed_any ps A n c W hn (by omega) (hs.to hb))
  by_cases hneg : areaL ps < 0
  · have d1 : decide (areaL ps < 0) = true := decide_eq_true hneg
    have CL : Hid (canL ps = rotP (ps.reverse) (minTo (ps.reverse) (ps.reverse).length)) := hide (by unfold canL minIx; simp only [if_pos hneg])
    have HL : ps.reverse.length = n := by rw [List.length_reverse]; exact hn
    clear hok hib hp3 h3 h20 hneg hn hs
    go_enter Try.func66, Try.ntmps66
    go_wp2_with fail
    refine AR.out.mono ?_
    rintro e w' ⟨rfl, hw'⟩; have hzy1 := ext_sz hw'; obtain ⟨y1, rfl⟩ := hw'; (try simp at hzy1)
    go_wp2_with fail
    refine (RV.out _ (by (repeat' (first | (with_reducible exact Below.refl _ _) | (with_reducible assumption) | (with_reducible refine below_ext _ ?_ ?_) | (with_reducible refine Below.alloc ?_ ?_ _) | (with_reducible refine Below.drew ?_) | (with_reducible refine below_drewN ?_ _) | (with_reducible refine le_drewN _ ?_) | (with_reducible refine Below.setCell ?_ ?_ _) | (with_reducible exact Nat.le_refl _) | (with_reducible refine le_ext _ ?_) | (with_reducible refine le_alloc _ ?_) | (with_reducible refine le_setCell _ _ ?_) | (with_reducible refine le_drew ?_) | omega | (simp; done) | (simp; omega))))).mono ?_
    rintro e w2 ⟨v2, rfl, own2, hx2⟩
    obtain ⟨A2, n2, c2, rfl⟩ := own2.slice
    have l2 := own2.pts.1
    have e2 : n2 = n := by omega
    subst e2
    have hnc2 : n2 ≤ c2 := own2.pts.2.1
    have hcm2 : c2 ≤ 9223372036854775807 := by have := own2.pts.2.2.1; unfold maxLen at this; exact this
    have PQ := hide own2.pts.2.2.2
    have B2 := ext_bel hx2
    have B1 := (show Below w.heap.size w (ext w y1) from (by (repeat' (first | (with_reducible exact Below.refl _ _) | (with_reducible assumption) | (with_reducible refine below_ext _ ?_ ?_) | (with_reducible refine Below.alloc ?_ ?_ _) | (with_reducible refine Below.drew ?_) | (with_reducible refine below_drewN ?_ _) | (with_reducible refine le_drewN _ ?_) | (with_reducible refine Below.setCell ?_ ?_ _) | (with_reducible exact Nat.le_refl _) | (with_reducible refine le_ext _ ?_) | (with_reducible refine le_alloc _ ?_) | (with_reducible refine le_setCell _ _ ?_) | (with_reducible refine le_drew ?_) | omega | (simp; done) | (simp; omega)))))
    have BW := hide (B1.trans (B2.mono B1.size))
    clear own2 hx2 B2 B1 AR RV l2 hnc hcm
    generalize ps.reverse = Q at *
    go_wp2_with fail
    obtain ⟨gb, go, hAe, hgb, hcs⟩ := PQ.out (by omega)
    subst hAe
    have CS : Hid (∀ i, i < n2 → w2.cell? ⟨gb, go + i * 2, none⟩ = some (.int .i64 (gp Q i).x) ∧ w2.cell? ⟨gb, go + i * 2 + 1, none⟩ = some (.int .i64 (gp Q i).y)) := hide (fun i hi => hcs i (by omega))
    clear hcs
    have ML : Hid (∀ i, i ≤ Q.length → minTo Q i < Q.length) := hide (fun i hi => minTo_lt (by omega) i hi)
    rw [HL] at ML
    have MS : Hid (∀ i, minTo Q (i + 1) = if ltP (gp Q i) (gp Q (minTo Q i)) then i else minTo Q i) := hide (fun i => rfl)
    have HLh := hide HL
    clear HL
    go_loopw [3, 4] (fun u3 u4 wr => ∃ i : Nat, i ≤ n2 ∧ u3 = .int .i64 (minTo Q i) ∧ u4 = .int .i64 i ∧ Below w2.heap.size w2 wr) (fun _ u4 _ => n2 - (intOf u4).toNat)
    case atStart => exact ⟨0, Nat.zero_le _, rfl, rfl, Below.refl _ _⟩
    case round =>
      obtain ⟨i, hi, rfl, rfl, hbel⟩ := hrel
      have hsz := hbel.size
      have hmi := ML.out i (by omega)
      obtain ⟨W0, hW0⟩ : ∃ W0, W0 = wr := ⟨_, rfl⟩
      subst hW0
      by_cases hlt : i < n2
      · obtain ⟨hx0, hy0⟩ := CS.out i hlt
        obtain ⟨hx1, hy1⟩ := CS.out _ hmi
        have NX := hide (MS.out i)
        have NL := hide (ML.out (i + 1) (by omega))
        have hxa := (hbel.cell (p := ⟨gb, go + i * 2, none⟩) hgb).trans hx0
        have hya := (hbel.cell (p := ⟨gb, go + i * 2 + 1, none⟩) hgb).trans hy0
        have hxb := (hbel.cell (p := ⟨gb, go + minTo Q i * 2, none⟩) hgb).trans hx1
        have hyb := (hbel.cell (p := ⟨gb, go + minTo Q i * 2 + 1, none⟩) hgb).trans hy1
        have PL := hide (fun W => pointLess_any (gp Q i).x (gp Q i).y (gp Q (minTo Q i)).x (gp Q (minTo Q i)).y W)
        clear hx0 hy0 hx1 hy1
        by_cases hl : ltP (gp Q i) (gp Q (minTo Q i))
        · have dd : decide (ltP ⟨(gp Q i).x, (gp Q i).y⟩ ⟨(gp Q (minTo Q i)).x, (gp Q (minTo Q i)).y⟩) = true := decide_eq_true hl
          have HLT := hide hl
          rw [dd] at PL
          clear hl dd NX
          go_wp2_with fail
          refine wp_region_ext (by kernel_rfl) (by kernel_rfl) ?_
          repeat (go_big_quiet_step ((first | (go_at_call 119; exact Calls.in_ext (PL.out _)))))
          refine wpQuiet_nil ?_
          rintro _ hnq
          have hzq := ext_sz hnq
          obtain ⟨nq, rfl⟩ := hnq
          (try simp at hzq)
          go_wp2_with fail
          exact ⟨⟨i + 1, by omega, by rw [MS.out i, if_pos HLT.out], by go_num, hbel.trans (by (repeat' (first | (with_reducible exact Below.refl _ _) | (with_reducible assumption) | (with_reducible refine below_ext _ ?_ ?_) | (with_reducible refine Below.alloc ?_ ?_ _) | (with_reducible refine Below.drew ?_) | (with_reducible refine below_drewN ?_ _) | (with_reducible refine le_drewN _ ?_) | (with_reducible refine Below.setCell ?_ ?_ _) | (with_reducible exact Nat.le_refl _) | (with_reducible refine le_ext _ ?_) | (with_reducible refine le_alloc _ ?_) | (with_reducible refine le_setCell _ _ ?_) | (with_reducible refine le_drew ?_) | omega | (simp; done) | (simp; omega))))⟩, by simp [intOf]; omega⟩
        · have dd : decide (ltP ⟨(gp Q i).x, (gp Q i).y⟩ ⟨(gp Q (minTo Q i)).x, (gp Q (minTo Q i)).y⟩) = false := decide_eq_false hl
          rw [dd] at PL
          have HLT := hide hl
          clear hl dd NX
          go_wp2_with fail
          refine wp_region_ext (by kernel_rfl) (by kernel_rfl) ?_
          repeat (go_big_quiet_step ((first | (go_at_call 119; exact Calls.in_ext (PL.out _)))))
          refine wpQuiet_nil ?_
          rintro _ hnq
          have hzq := ext_sz hnq
          obtain ⟨nq, rfl⟩ := hnq
          (try simp at hzq)
          go_wp2_with fail
          exact ⟨⟨i + 1, by omega, by rw [MS.out i, if_neg HLT.out], by go_num, hbel.trans (by (repeat' (first | (with_reducible exact Below.refl _ _) | (with_reducible assumption) | (with_reducible refine below_ext _ ?_ ?_) | (with_reducible refine Below.alloc ?_ ?_ _) | (with_reducible refine Below.drew ?_) | (with_reducible refine below_drewN ?_ _) | (with_reducible refine le_drewN _ ?_) | (with_reducible refine Below.setCell ?_ ?_ _) | (with_reducible exact Nat.le_refl _) | (with_reducible refine le_ext _ ?_) | (with_reducible refine le_alloc _ ?_) | (with_reducible refine le_setCell _ _ ?_) | (with_reducible refine le_drew ?_) | omega | (simp; done) | (simp; omega))))⟩, by simp [intOf]; omega⟩
      · have ei : i = n2 := by omega
        rw [ei] at hmi ⊢
        have CL2 : Hid (canL ps = Q.drop (minTo Q n2) ++ Q.take (minTo Q n2)) := hide (by rw [CL.out, HLh.out]; rfl)
        have BW2 := hide (BW.out.trans (hbel.mono BW.out.size))
        have P12 := (PQ.out.to hbel)
        clear ei hlt hi CS ML MS hbel PQ BW CL
        generalize minTo Q n2 = m at *
        have hq6 : ¬ c2 = m := by omega
        have hi0 : (0 : Int) ≤ (m : Int) := by omega
        have hi1 : (m : Int) ≤ (n2 : Int) := by omega
        have hi2 : (n2 : Int) ≤ (c2 : Int) := by omega
        have hi3 : (m : Int) ≤ (c2 : Int) := by omega
        have PTK : Hid (∀ W, Below W0.heap.size W0 W → PtsAt W W0.heap.size (some ⟨gb, go, none⟩) (Q.take m)) := hide (fun W hW => (P12.pre m).below hW)
        have PTD : Hid (∀ W, Below W0.heap.size W0 W → PtsAt W W0.heap.size (some ⟨gb, go + m * 2, none⟩) ((Q.drop m).take (n2 - m))) := hide (fun W hW => (P12.cut (a := m) (m := n2 - m) (by rw [HLh.out]; omega)).below hW)
        rw [List.take_of_length_le (by rw [List.length_drop, HLh.out]; omega)] at PTD
        have E1 : Hid (OwnP ((W0.alloc (.cells #[] 39)).drew) W0.heap.size (.slice (some ⟨W0.heap.size, 0, none⟩) 0 0) []) := hide ((OwnP.empty W0 W0.heap.size 0 (Nat.le_refl _) #[] rfl (by simp [maxLen])).below (show Below (W0.alloc (.cells #[] 39)).heap.size (W0.alloc (.cells #[] 39)) (W0.alloc (.cells #[] 39)).drew from (by (repeat' (first | (with_reducible exact Below.refl _ _) | (with_reducible assumption) | (with_reducible refine below_ext _ ?_ ?_) | (with_reducible refine Below.alloc ?_ ?_ _) | (with_reducible refine Below.drew ?_) | (with_reducible refine below_drewN ?_ _) | (with_reducible refine le_drewN _ ?_) | (with_reducible refine Below.setCell ?_ ?_ _) | (with_reducible exact Nat.le_refl _) | (with_reducible refine le_ext _ ?_) | (with_reducible refine le_alloc _ ?_) | (with_reducible refine le_setCell _ _ ?_) | (with_reducible refine le_drew ?_) | omega | (simp; done) | (simp; omega))))))
        have BD := hide (show Below W0.heap.size W0 ((W0.alloc (.cells #[] 39)).drew) from (by (repeat' (first | (with_reducible exact Below.refl _ _) | (with_reducible assumption) | (with_reducible refine below_ext _ ?_ ?_) | (with_reducible refine Below.alloc ?_ ?_ _) | (with_reducible refine Below.drew ?_) | (with_reducible refine below_drewN ?_ _) | (with_reducible refine le_drewN _ ?_) | (with_reducible refine Below.setCell ?_ ?_ _) | (with_reducible exact Nat.le_refl _) | (with_reducible refine le_ext _ ?_) | (with_reducible refine le_alloc _ ?_) | (with_reducible refine le_setCell _ _ ?_) | (with_reducible refine le_drew ?_) | omega | (simp; done) | (simp; omega)))))
        have SZ : W0.heap.size ≤ ((W0.alloc (.cells #[] 39)).drew).heap.size := BD.out.size
        have LD : (Q.drop m).length = n2 - m := by rw [List.length_drop, HLh.out]
        have LT : (Q.take m).length = m := by rw [List.length_take, HLh.out]; omega
        have LA : ([] ++ Q.drop m).length ≤ 2000000 := by rw [List.nil_append, LD]; omega
        have FD : Hid ((some (⟨gb, go + m * 2, none⟩ : Addr) = none → n2 - m = 0) ∧ ∀ b o s, some (⟨gb, go + m * 2, none⟩ : Addr) = some ⟨b, o, s⟩ → s = none) := ⟨(fun h => by cases h), (fun b o s h => by injection h with h; injection h with _ _ h; exact h.symm)⟩
        have FT : Hid ((some (⟨gb, go, none⟩ : Addr) = none → m = 0) ∧ ∀ b o s, some (⟨gb, go, none⟩ : Addr) = some ⟨b, o, s⟩ → s = none) := ⟨(fun h => by cases h), (fun b o s h => by injection h with h; injection h with _ _ h; exact h.symm)⟩
        have K1 : n2 - m ≤ 2000000 := by omega
        have K2 : m ≤ 2000000 := by omega
        have LD2 := hide LD
        have LT2 := hide LT
        clear LD LT P12
        go_wp2_with fail
        go_region_held3 (fun W => True) (exact trivial) (first | (refine step_pts (by rfl) (.tmp 26) (.tmp 29) (by rfl) W0.heap.size (.slice (some ⟨W0.heap.size, 0, none⟩) 0 0) [] (by rfl) E1.out (some ⟨gb, go + m * 2, none⟩) (n2 - m) (c2 - m) W0.heap.size (Q.drop m) (by rfl) LD2.out (PTD.out _ BD.out) FD.out (Nat.zero_le _) K1 SZ ?_; intro v7 w7 hown7 hb7 hat7 hgr7; obtain ⟨A7, n7, c7, rfl⟩ := hown7.slice; have O7 := hide hown7; have B7 := hide (BD.out.trans hb7); have SZ7 : W0.heap.size ≤ w7.heap.size := B7.out.size; clear hown7 hat7 hgr7 hb7) | (refine step_pts (by rfl) (.tmp 30) (.tmp 33) (by rfl) W0.heap.size (.slice A7 n7 c7) ([] ++ Q.drop m) (by rfl) O7.out (some ⟨gb, go, none⟩) m c2 W0.heap.size (Q.take m) (by rfl) LT2.out (PTK.out _ B7.out) FT.out LA K2 SZ7 ?_; intro v13 w13 hown13 hb13 hat13 hgr13; obtain ⟨A13, n13, c13, rfl⟩ := hown13.slice; have O13 := hide hown13; have B13 := hide (B7.out.trans hb13); clear hown13 hat13 hgr13 hb13))
        all_goals go_wp2_with fail
        all_goals go_ret
        all_goals exact ⟨_, rfl, by rw [CL2.out]; exact O13.out.base BW2.out.size, ext_mk (BW2.out.trans (B13.out.mono BW2.out.size))⟩
  · have d1 : decide (areaL ps < 0) = false := decide_eq_false hneg
    obtain ⟨Q, hQ⟩ : ∃ Q, Q = ps := ⟨_, rfl⟩
    have CL : Hid (canL ps = rotP (Q) (minTo (Q) (Q).length)) := hide (by rw [hQ]; unfold canL minIx; simp only [if_neg hneg])
    have HL : Q.length = n := by rw [hQ]; exact hn
    have PS : Hid (PtsAt w w.heap.size A Q) := hide (by rw [hQ]; exact hs)
    clear hQ
    clear hok hib hp3 h3 h20 hneg hn hs
    go_enter Try.func66, Try.ntmps66
    go_wp2_with fail
    refine AR.out.mono ?_
    rintro e w' ⟨rfl, hw'⟩; have hzy1 := ext_sz hw'; obtain ⟨y1, rfl⟩ := hw'; (try simp at hzy1)
    go_wp2_with fail
    have PQ := hide (PS.out.to (ext_below w y1))
    have BW := hide (show Below w.heap.size w (ext w y1) from (by (repeat' (first | (with_reducible exact Below.refl _ _) | (with_reducible assumption) | (with_reducible refine below_ext _ ?_ ?_) | (with_reducible refine Below.alloc ?_ ?_ _) | (with_reducible refine Below.drew ?_) | (with_reducible refine below_drewN ?_ _) | (with_reducible refine le_drewN _ ?_) | (with_reducible refine Below.setCell ?_ ?_ _) | (with_reducible exact Nat.le_refl _) | (with_reducible refine le_ext _ ?_) | (with_reducible refine le_alloc _ ?_) | (with_reducible refine le_setCell _ _ ?_) | (with_reducible refine le_drew ?_) | omega | (simp; done) | (simp; omega)))))
    clear AR RV PS
    generalize ext w y1 = w2 at *
    have hnc2 := hnc
    have hcm2 := hcm
    clear hnc hcm
    obtain ⟨gb, go, hAe, hgb, hcs⟩ := PQ.out (by omega)
    subst hAe
    have CS : Hid (∀ i, i < n → w2.cell? ⟨gb, go + i * 2, none⟩ = some (.int .i64 (gp Q i).x) ∧ w2.cell? ⟨gb, go + i * 2 + 1, none⟩ = some (.int .i64 (gp Q i).y)) := hide (fun i hi => hcs i (by omega))
    clear hcs
    have ML : Hid (∀ i, i ≤ Q.length → minTo Q i < Q.length) := hide (fun i hi => minTo_lt (by omega) i hi)
    rw [HL] at ML
    have MS : Hid (∀ i, minTo Q (i + 1) = if ltP (gp Q i) (gp Q (minTo Q i)) then i else minTo Q i) := hide (fun i => rfl)
    have HLh := hide HL
    clear HL
    go_loopw [3, 4] (fun u3 u4 wr => ∃ i : Nat, i ≤ n ∧ u3 = .int .i64 (minTo Q i) ∧ u4 = .int .i64 i ∧ Below w2.heap.size w2 wr) (fun _ u4 _ => n - (intOf u4).toNat)
    case atStart => exact ⟨0, Nat.zero_le _, rfl, rfl, Below.refl _ _⟩
    case round =>
      obtain ⟨i, hi, rfl, rfl, hbel⟩ := hrel
      have hsz := hbel.size
      have hmi := ML.out i (by omega)
      obtain ⟨W0, hW0⟩ : ∃ W0, W0 = wr := ⟨_, rfl⟩
      subst hW0
      by_cases hlt : i < n
      · obtain ⟨hx0, hy0⟩ := CS.out i hlt
        obtain ⟨hx1, hy1⟩ := CS.out _ hmi
        have NX := hide (MS.out i)
        have NL := hide (ML.out (i + 1) (by omega))
        have hxa := (hbel.cell (p := ⟨gb, go + i * 2, none⟩) hgb).trans hx0
        have hya := (hbel.cell (p := ⟨gb, go + i * 2 + 1, none⟩) hgb).trans hy0
        have hxb := (hbel.cell (p := ⟨gb, go + minTo Q i * 2, none⟩) hgb).trans hx1
        have hyb := (hbel.cell (p := ⟨gb, go + minTo Q i * 2 + 1, none⟩) hgb).trans hy1
        have PL := hide (fun W => pointLess_any (gp Q i).x (gp Q i).y (gp Q (minTo Q i)).x (gp Q (minTo Q i)).y W)
        clear hx0 hy0 hx1 hy1
        by_cases hl : ltP (gp Q i) (gp Q (minTo Q i))
        · have dd : decide (ltP ⟨(gp Q i).x, (gp Q i).y⟩ ⟨(gp Q (minTo Q i)).x, (gp Q (minTo Q i)).y⟩) = true := decide_eq_true hl
          have HLT := hide hl
          rw [dd] at PL
          clear hl dd NX
          go_wp2_with fail
          refine wp_region_ext (by kernel_rfl) (by kernel_rfl) ?_
          repeat (go_big_quiet_step ((first | (go_at_call 119; exact Calls.in_ext (PL.out _)))))
          refine wpQuiet_nil ?_
          rintro _ hnq
          have hzq := ext_sz hnq
          obtain ⟨nq, rfl⟩ := hnq
          (try simp at hzq)
          go_wp2_with fail
          exact ⟨⟨i + 1, by omega, by rw [MS.out i, if_pos HLT.out], by go_num, hbel.trans (by (repeat' (first | (with_reducible exact Below.refl _ _) | (with_reducible assumption) | (with_reducible refine below_ext _ ?_ ?_) | (with_reducible refine Below.alloc ?_ ?_ _) | (with_reducible refine Below.drew ?_) | (with_reducible refine below_drewN ?_ _) | (with_reducible refine le_drewN _ ?_) | (with_reducible refine Below.setCell ?_ ?_ _) | (with_reducible exact Nat.le_refl _) | (with_reducible refine le_ext _ ?_) | (with_reducible refine le_alloc _ ?_) | (with_reducible refine le_setCell _ _ ?_) | (with_reducible refine le_drew ?_) | omega | (simp; done) | (simp; omega))))⟩, by simp [intOf]; omega⟩
        · have dd : decide (ltP ⟨(gp Q i).x, (gp Q i).y⟩ ⟨(gp Q (minTo Q i)).x, (gp Q (minTo Q i)).y⟩) = false := decide_eq_false hl
          rw [dd] at PL
          have HLT := hide hl
          clear hl dd NX
          go_wp2_with fail
          refine wp_region_ext (by kernel_rfl) (by kernel_rfl) ?_
          repeat (go_big_quiet_step ((first | (go_at_call 119; exact Calls.in_ext (PL.out _)))))
          refine wpQuiet_nil ?_
          rintro _ hnq
          have hzq := ext_sz hnq
          obtain ⟨nq, rfl⟩ := hnq
          (try simp at hzq)
          go_wp2_with fail
          exact ⟨⟨i + 1, by omega, by rw [MS.out i, if_neg HLT.out], by go_num, hbel.trans (by (repeat' (first | (with_reducible exact Below.refl _ _) | (with_reducible assumption) | (with_reducible refine below_ext _ ?_ ?_) | (with_reducible refine Below.alloc ?_ ?_ _) | (with_reducible refine Below.drew ?_) | (with_reducible refine below_drewN ?_ _) | (with_reducible refine le_drewN _ ?_) | (with_reducible refine Below.setCell ?_ ?_ _) | (with_reducible exact Nat.le_refl _) | (with_reducible refine le_ext _ ?_) | (with_reducible refine le_alloc _ ?_) | (with_reducible refine le_setCell _ _ ?_) | (with_reducible refine le_drew ?_) | omega | (simp; done) | (simp; omega))))⟩, by simp [intOf]; omega⟩
      · have ei : i = n := by omega
        rw [ei] at hmi ⊢
        have CL2 : Hid (canL ps = Q.drop (minTo Q n) ++ Q.take (minTo Q n)) := hide (by rw [CL.out, HLh.out]; rfl)
        have BW2 := hide (BW.out.trans (hbel.mono BW.out.size))
        have P12 := (PQ.out.to hbel)
        clear ei hlt hi CS ML MS hbel PQ BW CL
        generalize minTo Q n = m at *
        have hq6 : ¬ c = m := by omega
        have hi0 : (0 : Int) ≤ (m : Int) := by omega
        have hi1 : (m : Int) ≤ (n : Int) := by omega
        have hi2 : (n : Int) ≤ (c : Int) := by omega
        have hi3 : (m : Int) ≤ (c : Int) := by omega
        have PTK : Hid (∀ W, Below W0.heap.size W0 W → PtsAt W W0.heap.size (some ⟨gb, go, none⟩) (Q.take m)) := hide (fun W hW => (P12.pre m).below hW)
        have PTD : Hid (∀ W, Below W0.heap.size W0 W → PtsAt W W0.heap.size (some ⟨gb, go + m * 2, none⟩) ((Q.drop m).take (n - m))) := hide (fun W hW => (P12.cut (a := m) (m := n - m) (by rw [HLh.out]; omega)).below hW)
        rw [List.take_of_length_le (by rw [List.length_drop, HLh.out]; omega)] at PTD
        have E1 : Hid (OwnP ((W0.alloc (.cells #[] 39)).drew) W0.heap.size (.slice (some ⟨W0.heap.size, 0, none⟩) 0 0) []) := hide ((OwnP.empty W0 W0.heap.size 0 (Nat.le_refl _) #[] rfl (by simp [maxLen])).below (show Below (W0.alloc (.cells #[] 39)).heap.size (W0.alloc (.cells #[] 39)) (W0.alloc (.cells #[] 39)).drew from (by (repeat' (first | (with_reducible exact Below.refl _ _) | (with_reducible assumption) | (with_reducible refine below_ext _ ?_ ?_) | (with_reducible refine Below.alloc ?_ ?_ _) | (with_reducible refine Below.drew ?_) | (with_reducible refine below_drewN ?_ _) | (with_reducible refine le_drewN _ ?_) | (with_reducible refine Below.setCell ?_ ?_ _) | (with_reducible exact Nat.le_refl _) | (with_reducible refine le_ext _ ?_) | (with_reducible refine le_alloc _ ?_) | (with_reducible refine le_setCell _ _ ?_) | (with_reducible refine le_drew ?_) | omega | (simp; done) | (simp; omega))))))
        have BD := hide (show Below W0.heap.size W0 ((W0.alloc (.cells #[] 39)).drew) from (by (repeat' (first | (with_reducible exact Below.refl _ _) | (with_reducible assumption) | (with_reducible refine below_ext _ ?_ ?_) | (with_reducible refine Below.alloc ?_ ?_ _) | (with_reducible refine Below.drew ?_) | (with_reducible refine below_drewN ?_ _) | (with_reducible refine le_drewN _ ?_) | (with_reducible refine Below.setCell ?_ ?_ _) | (with_reducible exact Nat.le_refl _) | (with_reducible refine le_ext _ ?_) | (with_reducible refine le_alloc _ ?_) | (with_reducible refine le_setCell _ _ ?_) | (with_reducible refine le_drew ?_) | omega | (simp; done) | (simp; omega)))))
        have SZ : W0.heap.size ≤ ((W0.alloc (.cells #[] 39)).drew).heap.size := BD.out.size
        have LD : (Q.drop m).length = n - m := by rw [List.length_drop, HLh.out]
        have LT : (Q.take m).length = m := by rw [List.length_take, HLh.out]; omega
        have LA : ([] ++ Q.drop m).length ≤ 2000000 := by rw [List.nil_append, LD]; omega
        have FD : Hid ((some (⟨gb, go + m * 2, none⟩ : Addr) = none → n - m = 0) ∧ ∀ b o s, some (⟨gb, go + m * 2, none⟩ : Addr) = some ⟨b, o, s⟩ → s = none) := ⟨(fun h => by cases h), (fun b o s h => by injection h with h; injection h with _ _ h; exact h.symm)⟩
        have FT : Hid ((some (⟨gb, go, none⟩ : Addr) = none → m = 0) ∧ ∀ b o s, some (⟨gb, go, none⟩ : Addr) = some ⟨b, o, s⟩ → s = none) := ⟨(fun h => by cases h), (fun b o s h => by injection h with h; injection h with _ _ h; exact h.symm)⟩
        have K1 : n - m ≤ 2000000 := by omega
        have K2 : m ≤ 2000000 := by omega
        have LD2 := hide LD
        have LT2 := hide LT
        clear LD LT P12
        go_wp2_with fail
        go_region_held3 (fun W => True) (exact trivial) (first | (refine step_pts (by rfl) (.tmp 26) (.tmp 29) (by rfl) W0.heap.size (.slice (some ⟨W0.heap.size, 0, none⟩) 0 0) [] (by rfl) E1.out (some ⟨gb, go + m * 2, none⟩) (n - m) (c - m) W0.heap.size (Q.drop m) (by rfl) LD2.out (PTD.out _ BD.out) FD.out (Nat.zero_le _) K1 SZ ?_; intro v7 w7 hown7 hb7 hat7 hgr7; obtain ⟨A7, n7, c7, rfl⟩ := hown7.slice; have O7 := hide hown7; have B7 := hide (BD.out.trans hb7); have SZ7 : W0.heap.size ≤ w7.heap.size := B7.out.size; clear hown7 hat7 hgr7 hb7) | (refine step_pts (by rfl) (.tmp 30) (.tmp 33) (by rfl) W0.heap.size (.slice A7 n7 c7) ([] ++ Q.drop m) (by rfl) O7.out (some ⟨gb, go, none⟩) m c W0.heap.size (Q.take m) (by rfl) LT2.out (PTK.out _ B7.out) FT.out LA K2 SZ7 ?_; intro v13 w13 hown13 hb13 hat13 hgr13; obtain ⟨A13, n13, c13, rfl⟩ := hown13.slice; have O13 := hide hown13; have B13 := hide (B7.out.trans hb13); clear hown13 hat13 hgr13 hb13))
        all_goals go_wp2_with fail
        all_goals go_ret
        all_goals exact ⟨_, rfl, by rw [CL2.out]; exact O13.out.base BW2.out.size, ext_mk (BW2.out.trans (B13.out.mono BW2.out.size))⟩
set_option maxHeartbeats 1000000 in
theorem sCan_any (ps : List Pt) (A : Option Addr) (n c : Nat) (w : World) (hn : ps.length = n) (hm : n ≤ 2000000) (hnc : n ≤ c) (hcm : c ≤ 9223372036854775807) (hs : PtsAt w w.heap.size A ps) :
    Calls Try.prog 26 #[.slice A n c] w fun e w' => ∃ v, e = .returned v ∧ OwnP w' w.heap.size v (canO ps) ∧ ∃ x, w' = ext w x := by
  have HC := hide (isSimple_any ps A n c w hn hm hs)
  by_cases hok : simB ps = true
  · rw [hok] at HC
    have CC := hide (fun (W : World) (hb : Below w.heap.size w W) => sCan_any' ps A n c W hn hok hnc hcm (hs.to hb))
    have CB : Hid (canO ps = canL ps) := hide (if_pos hok)
    clear hn hs hok
    go_enter Try.func26, Try.ntmps26
    go_wp2_with fail
    refine HC.out.mono ?_
    rintro e w' ⟨rfl, hw'⟩; have hzy1 := ext_sz hw'; obtain ⟨y1, rfl⟩ := hw'; (try simp at hzy1)
    go_wp2_with fail
    refine (CC.out _ (by (repeat' (first | (with_reducible exact Below.refl _ _) | (with_reducible assumption) | (with_reducible refine below_ext _ ?_ ?_) | (with_reducible refine Below.alloc ?_ ?_ _) | (with_reducible refine Below.drew ?_) | (with_reducible refine below_drewN ?_ _) | (with_reducible refine le_drewN _ ?_) | (with_reducible refine Below.setCell ?_ ?_ _) | (with_reducible exact Nat.le_refl _) | (with_reducible refine le_ext _ ?_) | (with_reducible refine le_alloc _ ?_) | (with_reducible refine le_setCell _ _ ?_) | (with_reducible refine le_drew ?_) | omega | (simp; done) | (simp; omega))))).mono ?_
    rintro e w2 ⟨v2, rfl, own2, hx2⟩
    obtain ⟨A2, n2, c2, rfl⟩ := own2.slice
    have O2 := hide own2
    have B2 := ext_bel hx2
    clear own2 hx2
    go_wp2_with fail
    go_ret
    exact ⟨_, rfl, by rw [CB.out]; exact O2.out.base (ext_size w y1), ext_mk (Below.trans (b := ext w y1) (by (repeat' (first | (with_reducible exact Below.refl _ _) | (with_reducible assumption) | (with_reducible refine below_ext _ ?_ ?_) | (with_reducible refine Below.alloc ?_ ?_ _) | (with_reducible refine Below.drew ?_) | (with_reducible refine below_drewN ?_ _) | (with_reducible refine le_drewN _ ?_) | (with_reducible refine Below.setCell ?_ ?_ _) | (with_reducible exact Nat.le_refl _) | (with_reducible refine le_ext _ ?_) | (with_reducible refine le_alloc _ ?_) | (with_reducible refine le_setCell _ _ ?_) | (with_reducible refine le_drew ?_) | omega | (simp; done) | (simp; omega)))) (B2.mono (ext_size w y1)))⟩
  · have hok := eq_false_of_ne_true hok
    rw [hok] at HC
    have DN : Hid (canO ps = []) := hide (by unfold canO; rw [hok]; rfl)
    clear hn hs hok
    go_enter Try.func26, Try.ntmps26
    go_wp2_with fail
    refine HC.out.mono ?_
    rintro e w' ⟨rfl, hw'⟩; have hzy1 := ext_sz hw'; obtain ⟨y1, rfl⟩ := hw'; (try simp at hzy1)
    go_wp2_with fail
    go_ret
    exact ⟨_, rfl, by rw [DN.out]; exact OwnP.nil _ _, (ext_mk (by (repeat' (first | (with_reducible exact Below.refl _ _) | (with_reducible assumption) | (with_reducible refine below_ext _ ?_ ?_) | (with_reducible refine Below.alloc ?_ ?_ _) | (with_reducible refine Below.drew ?_) | (with_reducible refine below_drewN ?_ _) | (with_reducible refine le_drewN _ ?_) | (with_reducible refine Below.setCell ?_ ?_ _) | (with_reducible exact Nat.le_refl _) | (with_reducible refine le_ext _ ?_) | (with_reducible refine le_alloc _ ?_) | (with_reducible refine le_setCell _ _ ?_) | (with_reducible refine le_drew ?_) | omega | (simp; done) | (simp; omega)))))⟩
end Go.Proofs.Ytelhidonhldjeaa
