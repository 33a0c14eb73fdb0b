
/- laws.FnSweepCount returns true. -/
import Derived.Test.YtcebmcbglhkkfaaSwpT
import Derived.Test.YtcebmcbglhkkfaaDrwS
import Derived.Test.YtcebmcbglhkkfaaEqI
import Derived.Test.YtcebmcbglhkkfaaAreaI
import Derived.Test.YtcebmcbglhkkfaaConv
set_option linter.unusedVariables false
set_option linter.unusedSimpArgs false
namespace Go.Proofs.Ytcebmcbglhkkfaa
open Go.RowKit

/-- How many of the first k points are on the hull's boundary. -/
def cntB (ps : List Pt) (k : Nat) : Nat := ((List.range k).filter fun i => decide (locC (hullOf ps) (gp ps i) = 0)).length
theorem cntB_s (ps : List Pt) (k : Nat) : cntB ps (k + 1) = cntB ps k + if locC (hullOf ps) (gp ps k) = 0 then 1 else 0 := by
  unfold cntB
  rw [List.range_succ, List.filter_append, List.length_append]
  by_cases h : locC (hullOf ps) (gp ps k) = 0
  · simp [h]
  · simp [h]
theorem cntB_le (ps : List Pt) (k : Nat) : cntB ps k ≤ k := by
  unfold cntB
  exact Nat.le_trans (List.length_filter_le _ _) (by simp)
theorem sweep_cnt {ps : List Pt} (h : sweepL ps ≠ []) : listOk ps = true ∧ (sT (sweepL ps)).length + cntB ps ps.length + 2 = 2 * ps.length := by
  have hs : siteB ps = true := by
    cases e : siteB ps
    · exact absurd (sweepL_no e) h
    · rfl
  obtain ⟨hok, hO⟩ := siteB_iff.1 hs
  rcases line_or ps with hl | ⟨q, h2, hq, hl, hx⟩
  · exact absurd (sweepL_flat hl) h
  obtain ⟨f, hf⟩ : ∃ f, ps.length = q + f + 1 := ⟨ps.length - q - 1, by omega⟩
  obtain ⟨fat, cnt, _, _⟩ := swS_main hl hO h2 hx f (by omega)
  have h3 : 3 ≤ (hullOf ps).length := hull_three (gp_mem (show 0 < ps.length by omega)) (gp_mem (show 1 < ps.length by omega)) (gp_mem hq) hx
  rw [← hf] at fat cnt
  have hb := bd_count fat hO h3
  have hcv := hull_convB hok h3
  have e : cntB ps ps.length = ((List.range ps.length).filter fun i => decide (leastTo (hullOf ps) (gp ps i) (hullOf ps).length = 0)).length := by
    unfold cntB
    congr 1
    refine List.filter_congr fun i hi => ?_
    have hv : vP (gp ps i).x (gp ps i).y = true := (List.all_eq_true.1 (show allOk ps = true by unfold listOk at hok; simp at hok; exact hok.2) (gp ps i) (gp_mem (List.mem_range.1 hi)))
    unfold locC
    rw [hcv, hv]; simp
  refine ⟨hok, ?_⟩
  rw [sweepL_at hs h2 hq hl hx, show ps.length - q = f + 1 by omega, sT_len, e, hb]
  exact cnt
theorem sT_nil {ps : List Tri3} (h : (sT ps).length = 0) : ps = [] := by
  rw [sT_len] at h; exact List.length_eq_zero_iff.1 h
set_option maxHeartbeats 4000000 in
theorem lawSwp (n c : Nat) (A : Option Addr) (w : World) (hn : n ≤ c) (hc : c ≤ 9223372036854775807) (hA : BytesAt w w.heap.size A n) :
    Calls Try.prog 3 #[.slice A n c] w fun e w' => e = .returned (.bool true) ∧ Below w.heap.size w w' := by
  by_cases hl : n ≤ 1048576
  · go_enter Try.func3, Try.ntmps3
    go_wp2_with fail
    refine (drawSwp_any n c A _ hn hc hA).mono ?_
    rintro e w1 ⟨v1, ps, rfl, hown, hlen, B1⟩
    obtain ⟨A1, n1, c1, rfl⟩ := hown.slice
    obtain ⟨l1, q1, m1, p1⟩ := hown.pts
    have HI := hide (fun (W : World) (hb : Below w1.heap.size w1 W) => iSwp_any ps A1 n1 c1 W l1 (by omega) (p1.to hb) hown.form.1)
    have HS := hide (fun (W : World) (hb : Below w1.heap.size w1 W) => sSwp_any ps A1 n1 c1 W l1 q1 (by unfold maxLen at m1; omega) (by omega) (p1.to hb))
    have HH := hide (fun (W : World) (hb : Below w1.heap.size w1 W) => iHull_any ps A1 n1 c1 W l1 (by omega) hown.form.1 (p1.to hb))
    have CN := hide (fun (h : sweepL ps ≠ []) => sweep_cnt h)
    have NZ := hide (fun (h : (sT (sweepL ps)).length = 0) => sT_nil h)
    have LL : (sT (sweepL ps)).length ≤ 1000 := by
      by_cases h0 : sweepL ps = []
      · rw [h0]; simp [sT]
      · have := (CN.out h0).2; omega
    have P1 := hide p1
    have L1 := hide l1
    clear hown p1 hA
    have d0 : decide (sT (sweepL ps) = sT (sweepL ps)) = true := by simp
    go_wp2_with fail
    refine (HI.out _ (Below.refl _ _)).mono ?_
    rintro e w2 ⟨A2, n2, c2, rfl, l2, q2, qb2, tr2, pl2, hx2⟩
    have F2 := ext_bel hx2
    clear hx2
    go_wp2_with fail
    refine (HS.out _ F2).mono ?_
    rintro e w3 ⟨v3, rfl, own3, hx3⟩
    have D3 := ext_bel hx3
    have F3 := F2.trans (D3.mono F2.size)
    obtain ⟨A3, n3, c3, rfl⟩ := own3.slice
    obtain ⟨l3, _, _, t3⟩ := own3.tris
    have tr3 := tr2.below D3
    clear hx3 own3 tr2
    go_wp2_with fail
    refine (equalTris_any (sT (sweepL ps)) (sT (sweepL ps)) _ _ _ _ _ _ _ l2 l3 (by omega) (by omega) tr3.tris t3).mono ?_
    rintro e w4 ⟨rfl, hx4⟩
    have D4 := ext_bel hx4
    have F4 := F3.trans (D4.mono F3.size)
    have tr4 := tr3.below D4
    clear hx4 t3 tr3
    by_cases h0 : n2 = 0
    · have e0 : ((n2 : Int) == 0) = true := by rw [beq_iff_eq]; omega
      clear h0
      go_wp2_with fail
      refine (HS.out _ F4).mono ?_
      rintro e w5 ⟨v5, rfl, own5, hx5⟩
      have D5 := ext_bel hx5
      have F5 := F4.trans (D5.mono F4.size)
      obtain ⟨A5, n5, c5, rfl⟩ := own5.slice
      obtain ⟨l5, _, _, t5⟩ := own5.tris
      have tr5 := tr4.below D5
      clear hx5 own5
      go_wp2_with fail
      refine (equalTris_any (sT (sweepL ps)) (sT (sweepL ps)) _ _ _ _ _ _ _ l2 l5 (by omega) (by omega) tr5.tris t5).mono ?_
      rintro e w6 ⟨rfl, hx6⟩
      have F6 := F5.trans ((ext_bel hx6).mono F5.size)
      clear hx6
      go_wp2_with fail
      go_ret
      exact ⟨rfl, B1.trans (F6.mono B1.size)⟩
    · have e0 : ((n2 : Int) == 0) = false := by rw [beq_eq_false_iff_ne]; omega
      obtain ⟨hok, hcn⟩ := CN.out (fun h => h0 (by rw [← l2, h]; rfl))
      have hHL : hullL ps = hullOf ps := by unfold hullL; rw [if_pos hok]
      rw [hHL] at HH
      have HCN := hide hcn
      clear h0 hok hHL tr4 hcn
      go_wp2_with fail
      refine (HH.out _ F4).mono ?_
      rintro e w5 ⟨A5, n5, c5, rfl, l5, q5, qb5, pr5, pl5, hx5⟩
      have D5 := ext_bel hx5
      have F5 := F4.trans (D5.mono F4.size)
      have HULL := hide pr5.pts
      have hL := hullOf_len' ps
      clear hx5 pr5
      have HF5 := hide F5
      have n21 : n1 ≤ 21 := by have := L1.out; omega
      go_wp2_with fail
      go_loopw [6, 7] (fun u6 u7 wr => ∃ k : Nat, k ≤ n1 ∧ u7 = .int .i64 k ∧ u6 = .int .i64 ((cntB ps k : Nat) : Int) ∧ ∃ x, wr = ext w5 x) (fun _ u7 _ => n1 - (intOf u7).toNat)
      case atStart => exact ⟨0, Nat.zero_le _, rfl, rfl, ext_same _⟩
      case round =>
        obtain ⟨k, hk, rfl, rfl, x, rfl⟩ := hrel
        have BX := HF5.out.trans ((show Below w5.heap.size w5 (ext w5 x) from (by (repeat' (first | (with_reducible first | exact Below.refl _ _ | assumption | refine below_ext _ ?_ ?_ | refine Below.alloc ?_ ?_ _ | refine Below.drew ?_ | refine below_drewN ?_ _ | refine le_drewN _ ?_ | refine Below.setCell ?_ ?_ _ | exact Nat.le_refl _ | refine le_ext _ ?_ | refine le_alloc _ ?_ | refine le_setCell _ _ ?_ | refine le_drew ?_) | omega | (simp; done) | (simp; omega))))).mono HF5.out.size)
        have ck := cntB_le ps k
        by_cases hlt : k < n1
        · obtain ⟨b, o, rfl, hb, hcs⟩ := (P1.out.to BX) (by rw [L1.out]; omega)
          obtain ⟨xk, yk⟩ := hcs k (by rw [L1.out]; omega)
          have LC := hide (locC_any (hullOf ps) (pX ps k) (pY ps k) A5 n5 c5 (ext w5 x) l5 (by omega) pl5 (HULL.out.to (by (repeat' (first | (with_reducible first | exact Below.refl _ _ | assumption | refine below_ext _ ?_ ?_ | refine Below.alloc ?_ ?_ _ | refine Below.drew ?_ | refine below_drewN ?_ _ | refine le_drewN _ ?_ | refine Below.setCell ?_ ?_ _ | exact Nat.le_refl _ | refine le_ext _ ?_ | refine le_alloc _ ?_ | refine le_setCell _ _ ?_ | refine le_drew ?_) | omega | (simp; done) | (simp; omega))))))
          have CS := hide (cntB_s ps k)
          have b1 : (k : Int) < (n1 : Int) := by omega
          clear hcs
          by_cases hz : locC (hullOf ps) ⟨pX ps k, pY ps k⟩ = 0
          · have CS2 : Hid (((cntB ps (k + 1) : Nat) : Int) = ((cntB ps k : Nat) : Int) + 1) := hide (by rw [CS.out, if_pos (show locC (hullOf ps) (gp ps k) = 0 from hz)]; simp)
            rw [hz] at LC
            clear hz CS
            generalize pX ps k = X at *
            generalize pY ps k = Y at *
            go_wp2_with fail
            refine LC.out.mono ?_
            rintro e w' ⟨rfl, hw'⟩; have hzy8 := ext_sz hw'; obtain ⟨y8, rfl⟩ := hw'; (try simp at hzy8)
            go_wp2_with fail
            exact ⟨⟨k + 1, by omega, by go_num, by rw [CS2.out], (ext_mk (by (repeat' (first | (with_reducible first | exact Below.refl _ _ | assumption | refine below_ext _ ?_ ?_ | refine Below.alloc ?_ ?_ _ | refine Below.drew ?_ | refine below_drewN ?_ _ | refine le_drewN _ ?_ | refine Below.setCell ?_ ?_ _ | exact Nat.le_refl _ | refine le_ext _ ?_ | refine le_alloc _ ?_ | refine le_setCell _ _ ?_ | refine le_drew ?_) | omega | (simp; done) | (simp; omega)))))⟩, by simp [intOf]; omega⟩
          · have CS2 : Hid (cntB ps (k + 1) = cntB ps k) := hide (by rw [CS.out, if_neg (show ¬ locC (hullOf ps) (gp ps k) = 0 from hz)]; simp)
            have dz : (locC (hullOf ps) ⟨pX ps k, pY ps k⟩ == 0) = false := by simpa using hz
            clear hz CS
            generalize locC (hullOf ps) ⟨pX ps k, pY ps k⟩ = V at *
            generalize pX ps k = X at *
            generalize pY ps k = Y at *
            go_wp2_with fail
            refine LC.out.mono ?_
            rintro e w' ⟨rfl, hw'⟩; have hzy8 := ext_sz hw'; obtain ⟨y8, rfl⟩ := hw'; (try simp at hzy8)
            go_wp2_with fail
            exact ⟨⟨k + 1, by omega, by go_num, by rw [CS2.out], (ext_mk (by (repeat' (first | (with_reducible first | exact Below.refl _ _ | assumption | refine below_ext _ ?_ ?_ | refine Below.alloc ?_ ?_ _ | refine Below.drew ?_ | refine below_drewN ?_ _ | refine le_drewN _ ?_ | refine Below.setCell ?_ ?_ _ | exact Nat.le_refl _ | refine le_ext _ ?_ | refine le_alloc _ ?_ | refine le_setCell _ _ ?_ | refine le_drew ?_) | omega | (simp; done) | (simp; omega)))))⟩, by simp [intOf]; omega⟩
        · obtain rfl : k = n1 := by omega
          have eq : (n2 : Int) = 2 * (k : Int) - ((cntB ps k : Nat) : Int) - 2 := by
            have := HCN.out
            rw [L1.out, l2] at this
            omega
          have dq : ((n2 : Int) == 2 * (k : Int) - ((cntB ps k : Nat) : Int) - 2) = true := by rw [beq_iff_eq]; exact eq
          clear eq
          go_wp2_with fail
          go_ret
          exact ⟨rfl, B1.trans (BX.mono B1.size)⟩
  · have d0 : 1048576 < n := by omega
    go_enter Try.func3, Try.ntmps3
    go_wp2_with fail
    go_ret
    exact ⟨rfl, (by (repeat' (first | (with_reducible first | exact Below.refl _ _ | assumption | refine below_ext _ ?_ ?_ | refine Below.alloc ?_ ?_ _ | refine Below.drew ?_ | refine below_drewN ?_ _ | refine le_drewN _ ?_ | refine Below.setCell ?_ ?_ _ | exact Nat.le_refl _ | refine le_ext _ ?_ | refine le_alloc _ ?_ | refine le_setCell _ _ ?_ | refine le_drew ?_) | omega | (simp; done) | (simp; omega))))⟩
end Go.Proofs.Ytcebmcbglhkkfaa
