
/- Both SweepTriangles. -/
import Derived.Test.YtcebmcbglhkkfaaSwpS
set_option linter.unusedVariables false
set_option linter.unusedSimpArgs false
namespace Go.Proofs.Ytcebmcbglhkkfaa
open Go.RowKit

set_option maxRecDepth 100000 in
set_option maxHeartbeats 8000000 in
theorem sSweep_flat (ps : List Pt) (A : Option Addr) (n c : Nat) (w : World) (hn : ps.length = n) (hcap : n ≤ c) (hcm : c ≤ 9223372036854775807) (hok : listOk ps = true) (hO : Ord ps) (hl : Line ps ps.length) (hs : PtsAt w w.heap.size A ps) :
    Calls Try.prog 30 #[.slice A n c] w fun e w' => ∃ v, e = .returned v ∧ OwnT w' w.heap.size v [] ∧ ∃ x, w' = ext w x := by
  obtain ⟨hib, h20⟩ := listOk_InB hok
  have n20 : n ≤ 20 := by omega
  have E0 := hide (OwnT.empty w w.heap.size (Nat.le_refl _))
  by_cases h2 : 2 ≤ n
  · obtain ⟨pb, po, rfl, hpb, hpc⟩ := hs (by omega)
    have HC := hide (fun (k : Nat) (hk : k ≤ n) (W : World) (hb : Below w.heap.size w W) => sCol_any (ps.take k) (some ⟨pb, po, none⟩) k c W (by rw [List.length_take]; omega) (by omega) (fun p hp => hib p (List.mem_of_mem_take hp)) ((hs.pre k).to hb))
    have LT := hide (fun (k : Nat) (hk : 2 ≤ k) (hkq : k < n) => (Line.take (ps := ps) hO hk (by omega) (fun d hd => hl d (by omega))).2 (hl k (by omega)))
    have HPB := hide hpb
    clear hib h20 hs hl hO hok hpc hn hpb
    go_enter Try.func30, Try.ntmps30
    go_wp2_with fail
    go_loopw [4] (fun u4 wr => ∃ m : Nat, 2 ≤ m ∧ m ≤ n ∧ u4 = .int .i64 m ∧ ∃ x, wr = ext (w.alloc (.cells #[] 37)) x) (fun u4 _ => n - (intOf u4).toNat)
    case atStart => exact ⟨2, Nat.le_refl _, h2, rfl, ext_same _⟩
    case round =>
      obtain ⟨m, hm2, hmq, rfl, x, rfl⟩ := hrel
      by_cases hlt : m < n
      · have BX : Below w.heap.size w (ext (w.alloc (.cells #[] 37)) x) := (by (repeat' (first | (with_reducible first | exact Below.refl _ _ | assumption | refine below_ext _ ?_ ?_ | refine Below.alloc ?_ ?_ _ | refine Below.drew ?_ | refine below_drewN ?_ _ | refine le_drewN _ ?_ | refine Below.setCell ?_ ?_ _ | exact Nat.le_refl _ | refine le_ext _ ?_ | refine le_alloc _ ?_ | refine le_setCell _ _ ?_ | refine le_drew ?_) | omega | (simp; done) | (simp; omega))))
        have CC := hide (HC.out (m + 1) (by omega) _ BX)
        have q1 : (m : Int) < (n : Int) := by omega
        have q2 : (m : Int) + 1 ≤ (c : Int) := by omega
        have q3 : ((m : Int) + 1).toNat = m + 1 := by omega
        have q4 : (0 : Int) ≤ (m : Int) + 1 := by omega
        have lb : pb < (ext (w.alloc (.cells #[] 37)) x).heap.size := by have := HPB.out; have := BX.size; omega
        have ez : decide (ColS (ps.take (m + 1))) = true := decide_eq_true (LT.out m hm2 hlt)
        rw [ez] at CC
        clear ez
        go_wp2_with fail
        refine CC.out.mono ?_
        rintro e w' ⟨rfl, hw'⟩; have hzy3 := ext_sz hw'; obtain ⟨y3, rfl⟩ := hw'; (try simp at hzy3)
        go_wp2_with fail
        exact ⟨⟨m + 1, by omega, by omega, by go_num, (ext_mk (by (repeat' (first | (with_reducible first | exact Below.refl _ _ | assumption | refine below_ext _ ?_ ?_ | refine Below.alloc ?_ ?_ _ | refine Below.drew ?_ | refine below_drewN ?_ _ | refine le_drewN _ ?_ | refine Below.setCell ?_ ?_ _ | exact Nat.le_refl _ | refine le_ext _ ?_ | refine le_alloc _ ?_ | refine le_setCell _ _ ?_ | refine le_drew ?_) | omega | (simp; done) | (simp; omega)))))⟩, by simp [intOf]; omega⟩
      · obtain rfl : m = n := by omega
        have T9 := hide (E0.out.below (show Below (w.alloc (.cells #[] 37)).heap.size (w.alloc (.cells #[] 37)) (ext (w.alloc (.cells #[] 37)) x) from (by (repeat' (first | (with_reducible first | exact Below.refl _ _ | assumption | refine below_ext _ ?_ ?_ | refine Below.alloc ?_ ?_ _ | refine Below.drew ?_ | refine below_drewN ?_ _ | refine le_drewN _ ?_ | refine Below.setCell ?_ ?_ _ | exact Nat.le_refl _ | refine le_ext _ ?_ | refine le_alloc _ ?_ | refine le_setCell _ _ ?_ | refine le_drew ?_) | omega | (simp; done) | (simp; omega))))))
        go_wp2_with fail
        go_ret
        exact ⟨_, rfl, T9.out, (ext_mk (by (repeat' (first | (with_reducible first | exact Below.refl _ _ | assumption | refine below_ext _ ?_ ?_ | refine Below.alloc ?_ ?_ _ | refine Below.drew ?_ | refine below_drewN ?_ _ | refine le_drewN _ ?_ | refine Below.setCell ?_ ?_ _ | exact Nat.le_refl _ | refine le_ext _ ?_ | refine le_alloc _ ?_ | refine le_setCell _ _ ?_ | refine le_drew ?_) | omega | (simp; done) | (simp; omega)))))⟩
  · have q1 : ¬ ((2 : Int) < (n : Int)) := by omega
    have q5 : ((2 : Int) == (n : Int)) = false := by rw [beq_eq_false_iff_ne]; omega
    have E1 := hide (Own.empty (w.alloc (.cells #[] 37)) (w.alloc (.cells #[] 37)).heap.size (Nat.le_refl _))
    clear hib h20 hs hl hO hok hn
    go_enter Try.func30, Try.ntmps30
    go_wp2_with fail
    go_loopw [4] (fun u4 wr => u4 = .int .i64 2 ∧ wr = w.alloc (.cells #[] 37)) (fun u4 _ => 0)
    case atStart => exact ⟨rfl, rfl⟩
    case round =>
      obtain ⟨rfl, rfl⟩ := hrel
      have B0 := hide (show Below w.heap.size w (w.alloc (.cells #[] 37)) from (by (repeat' (first | (with_reducible first | exact Below.refl _ _ | assumption | refine below_ext _ ?_ ?_ | refine Below.alloc ?_ ?_ _ | refine Below.drew ?_ | refine below_drewN ?_ _ | refine le_drewN _ ?_ | refine Below.setCell ?_ ?_ _ | exact Nat.le_refl _ | refine le_ext _ ?_ | refine le_alloc _ ?_ | refine le_setCell _ _ ?_ | refine le_drew ?_) | omega | (simp; done) | (simp; omega)))))
      obtain ⟨W1, hW1⟩ : ∃ W1, W1 = w.alloc (.cells #[] 37) := ⟨_, rfl⟩
      rw [← hW1] at E0 E1 B0 ⊢
      clear hW1
      have sz1 := B0.out.size
      go_wp2_with fail
      go_loopw [5, 6] (fun u5 u6 wr => ∃ k : Nat, k ≤ 2 ∧ u6 = .int .i64 k ∧ Own wr W1.heap.size u5 (ri (List.range k)) ∧ Below W1.heap.size W1 wr) (fun _ u6 _ => 2 - (intOf u6).toNat)
      case atStart => exact ⟨0, Nat.zero_le _, rfl, E1.out, (by (repeat' (first | (with_reducible first | exact Below.refl _ _ | assumption | refine below_ext _ ?_ ?_ | refine Below.alloc ?_ ?_ _ | refine Below.drew ?_ | refine below_drewN ?_ _ | refine le_drewN _ ?_ | refine Below.setCell ?_ ?_ _ | exact Nat.le_refl _ | refine le_ext _ ?_ | refine le_alloc _ ?_ | refine le_setCell _ _ ?_ | refine le_drew ?_) | omega | (simp; done) | (simp; omega))))⟩
      case round =>
        obtain ⟨k, hk, rfl, hown, hbel⟩ := hrel
        obtain ⟨A5, n5, c5, rfl⟩ := own_slice hown
        have OWN := hide hown
        have hsz := hbel.size
        clear hown
        by_cases hlt : k < 2
        · have RR := hide (range_ri k)
          have NL : (ri (List.range k)).length ≤ 2000000 := by rw [ri_len, List.length_range]; omega
          have q8 : (k : Int) < 2 := by omega
          go_wp2_with (at_builtin; refine app_one rfl _ _ rfl W1.heap.size (.slice A5 n5 c5) (ri (List.range k)) rfl (OWN.out.below (by (repeat' (first | (with_reducible first | exact Below.refl _ _ | assumption | refine below_ext _ ?_ ?_ | refine Below.alloc ?_ ?_ _ | refine Below.drew ?_ | refine below_drewN ?_ _ | refine le_drewN _ ?_ | refine Below.setCell ?_ ?_ _ | exact Nat.le_refl _ | refine le_ext _ ?_ | refine le_alloc _ ?_ | refine le_setCell _ _ ?_ | refine le_drew ?_) | omega | (simp; done) | (simp; omega))))) (k : Int) _ _ rfl (by simp [go_sem]) NL (by simp; omega) ?_; intro v' w' hown' hb' hat hgr; obtain ⟨A6, n6, c6, rfl⟩ := own_slice hown'; have O6 := hide hown'; have HB6 := hide hb'; clear hown' hat hgr hb')
          exact ⟨⟨k + 1, by omega, by go_num, by rw [RR.out]; exact O6.out, Below.trans (Below.trans hbel (by (repeat' (first | (with_reducible first | exact Below.refl _ _ | assumption | refine below_ext _ ?_ ?_ | refine Below.alloc ?_ ?_ _ | refine Below.drew ?_ | refine below_drewN ?_ _ | refine le_drewN _ ?_ | refine Below.setCell ?_ ?_ _ | exact Nat.le_refl _ | refine le_ext _ ?_ | refine le_alloc _ ?_ | refine le_setCell _ _ ?_ | refine le_drew ?_) | omega | (simp; done) | (simp; omega))))) HB6.out⟩, by simp [intOf]; omega⟩
        · have q8 : ¬ (k : Int) < 2 := by omega
          have T9 := hide (E0.out.below hbel)
          have B9 := hide (B0.out.trans (hbel.mono sz1))
          obtain ⟨W2, hW2⟩ : ∃ W2, W2 = wr := ⟨_, rfl⟩
          rw [← hW2] at T9 B9 ⊢
          clear hW2 OWN hbel hk hlt
          go_wp2_with fail
          go_loopw [5, 7] (fun u5 u7 wr => u7 = .int .i64 0 ∧ wr = W2) (fun _ _ _ => 0)
          case atStart => exact ⟨by simp, rfl⟩
          case round =>
            obtain ⟨rfl, rfl⟩ := hrel
            go_wp2_with fail
            go_loopw [3, 4, 5] (fun u3 u4 u5 wr2 => u3 = .slice (some ⟨w.heap.size, 0, none⟩) 0 0 ∧ u4 = .int .i64 2 ∧ wr2 = wr) (fun _ _ _ _ => 0)
            case atStart => exact ⟨rfl, rfl, rfl⟩
            case round =>
              obtain ⟨rfl, rfl, rfl⟩ := hrel
              go_wp2_with fail
              go_ret
              exact ⟨_, rfl, T9.out, ext_mk B9.out⟩
/-- What both SweepTriangles answer. -/
noncomputable def sweepL (ps : List Pt) : List Tri3 :=
  @ite _ (siteB ps = true ∧ ∃ q, 2 ≤ q ∧ q < ps.length ∧ Line ps q ∧ trn (gp ps 0) (gp ps 1) (gp ps q) ≠ 0) (Classical.propDecidable _) (@dite _ (∃ q, 2 ≤ q ∧ q < ps.length ∧ Line ps q ∧ trn (gp ps 0) (gp ps 1) (gp ps q) ≠ 0) (Classical.propDecidable _) (fun h => (swS ps h.choose (ps.length - h.choose)).2) (fun _ => [])) []
theorem first_one {ps : List Pt} {q q' : Nat} (h : Line ps q) (hx : trn (gp ps 0) (gp ps 1) (gp ps q) ≠ 0) (h' : Line ps q') (hx' : trn (gp ps 0) (gp ps 1) (gp ps q') ≠ 0) : q = q' := by
  rcases Nat.lt_trichotomy q q' with e | e | e
  · exact absurd (h' q e) hx
  · exact e
  · exact absurd (h q' e) hx'
theorem sweepL_at {ps : List Pt} (hs : siteB ps = true) {q : Nat} (h2 : 2 ≤ q) (hq : q < ps.length) (hl : Line ps q) (hx : trn (gp ps 0) (gp ps 1) (gp ps q) ≠ 0) : sweepL ps = (swS ps q (ps.length - q)).2 := by
  have he : ∃ q, 2 ≤ q ∧ q < ps.length ∧ Line ps q ∧ trn (gp ps 0) (gp ps 1) (gp ps q) ≠ 0 := ⟨q, h2, hq, hl, hx⟩
  unfold sweepL
  rw [if_pos ⟨hs, he⟩, dif_pos he]
  have e := he.choose_spec
  rw [first_one e.2.2.1 e.2.2.2 hl hx]
theorem sweepL_no {ps : List Pt} (hs : siteB ps = false) : sweepL ps = [] := by
  unfold sweepL; rw [if_neg (fun h => by rw [hs] at h; cases h.1)]
theorem sweepL_flat {ps : List Pt} (hl : Line ps ps.length) : sweepL ps = [] := by
  unfold sweepL; rw [if_neg (fun h => by obtain ⟨_, q, _, hq, _, hx⟩ := h; exact hx (hl q hq))]
set_option maxHeartbeats 1000000 in
theorem iSwp_any (ps : List Pt) (A : Option Addr) (n c : Nat) (w : World) (hn : ps.length = n) (hm : n ≤ 1000) (hs : PtsAt w w.heap.size A ps) (hA : Plain A n) :
    Calls Try.prog 7 #[.slice A n c] w fun e w' => ∃ A' n' c', e = .returned (.slice A' n' c') ∧ (sT (sweepL ps)).length = n' ∧ n' ≤ c' ∧ c' ≤ 9223372036854775807 ∧ TRow w' w.heap.size A' (sT (sweepL ps)) ∧ Plain A' n' ∧ ∃ x, w' = ext w x := by
  have OD := hide (fun (W : World) (hb : Below w.heap.size w W) => ordered_any ps A n c W hn hm (hs.to hb) hA)
  cases hv : siteB ps
  · rw [hv] at OD
    rw [sweepL_no hv]
    clear hv hn hs hA
    go_enter Try.func7, Try.ntmps7
    go_wp2_with fail
    refine (OD.out _ (by (repeat' (first | (with_reducible first | exact Below.refl _ _ | assumption | refine below_ext _ ?_ ?_ | refine Below.alloc ?_ ?_ _ | refine Below.drew ?_ | refine below_drewN ?_ _ | refine le_drewN _ ?_ | refine Below.setCell ?_ ?_ _ | exact Nat.le_refl _ | refine le_ext _ ?_ | refine le_alloc _ ?_ | refine le_setCell _ _ ?_ | refine le_drew ?_) | omega | (simp; done) | (simp; omega))))).mono ?_
    rintro e w' ⟨rfl, hw'⟩; have hzy := ext_sz hw'; obtain ⟨y, rfl⟩ := hw'; (try simp at hzy)
    go_wp2_with fail
    go_ret
    exact ⟨_, _, _, rfl, rfl, Nat.le_refl _, by omega, TRow.nil _ _ _, Plain.none rfl, (ext_mk (by (repeat' (first | (with_reducible first | exact Below.refl _ _ | assumption | refine below_ext _ ?_ ?_ | refine Below.alloc ?_ ?_ _ | refine Below.drew ?_ | refine below_drewN ?_ _ | refine le_drewN _ ?_ | refine Below.setCell ?_ ?_ _ | exact Nat.le_refl _ | refine le_ext _ ?_ | refine le_alloc _ ?_ | refine le_setCell _ _ ?_ | refine le_drew ?_) | omega | (simp; done) | (simp; omega)))))⟩
  · rw [hv] at OD
    obtain ⟨hok, hO⟩ := siteB_iff.1 hv
    rcases line_or ps with hl | ⟨q, h2, hq, hl, hx⟩
    · have SW := hide (fun (W : World) (hb : Below w.heap.size w W) => iSweep_flat ps A n c W hn hok hO hl (hs.to hb) hA)
      rw [sweepL_flat hl]
      clear hv hn hs hA hok hO hl
      go_enter Try.func7, Try.ntmps7
      go_wp2_with fail
      refine (OD.out _ (by (repeat' (first | (with_reducible first | exact Below.refl _ _ | assumption | refine below_ext _ ?_ ?_ | refine Below.alloc ?_ ?_ _ | refine Below.drew ?_ | refine below_drewN ?_ _ | refine le_drewN _ ?_ | refine Below.setCell ?_ ?_ _ | exact Nat.le_refl _ | refine le_ext _ ?_ | refine le_alloc _ ?_ | refine le_setCell _ _ ?_ | refine le_drew ?_) | omega | (simp; done) | (simp; omega))))).mono ?_
      rintro e w' ⟨rfl, hw'⟩; have hzy := ext_sz hw'; obtain ⟨y, rfl⟩ := hw'; (try simp at hzy)
      have B1 : Hid (Below w.heap.size w (ext w y)) := hide (by (repeat' (first | (with_reducible first | exact Below.refl _ _ | assumption | refine below_ext _ ?_ ?_ | refine Below.alloc ?_ ?_ _ | refine Below.drew ?_ | refine below_drewN ?_ _ | refine le_drewN _ ?_ | refine Below.setCell ?_ ?_ _ | exact Nat.le_refl _ | refine le_ext _ ?_ | refine le_alloc _ ?_ | refine le_setCell _ _ ?_ | refine le_drew ?_) | omega | (simp; done) | (simp; omega))))
      go_wp2_with fail
      refine (SW.out _ (by (repeat' (first | (with_reducible first | exact Below.refl _ _ | assumption | refine below_ext _ ?_ ?_ | refine Below.alloc ?_ ?_ _ | refine Below.drew ?_ | refine below_drewN ?_ _ | refine le_drewN _ ?_ | refine Below.setCell ?_ ?_ _ | exact Nat.le_refl _ | refine le_ext _ ?_ | refine le_alloc _ ?_ | refine le_setCell _ _ ?_ | refine le_drew ?_) | omega | (simp; done) | (simp; omega))))).mono ?_
      rintro e w2 ⟨A2, n2, c2, rfl, rfl, q2, qb2, pl2, hx2⟩
      have B2 := B1.out.trans ((ext_bel hx2).mono B1.out.size)
      clear hx2
      go_wp2_with fail
      go_ret
      exact ⟨_, _, _, rfl, rfl, q2, qb2, TRow.nil _ _ _, pl2, ext_mk B2⟩
    · have SW := hide (fun (W : World) (hb : Below w.heap.size w W) => iSweep_any ps A n c W hn hok hO q h2 (by omega) hl hx (hs.to hb) hA)
      rw [sweepL_at hv h2 hq hl hx, hn]
      clear hv hn hs hA hok hO hl hx
      generalize sT (swS ps q (n - q)).2 = L at *
      go_enter Try.func7, Try.ntmps7
      go_wp2_with fail
      refine (OD.out _ (by (repeat' (first | (with_reducible first | exact Below.refl _ _ | assumption | refine below_ext _ ?_ ?_ | refine Below.alloc ?_ ?_ _ | refine Below.drew ?_ | refine below_drewN ?_ _ | refine le_drewN _ ?_ | refine Below.setCell ?_ ?_ _ | exact Nat.le_refl _ | refine le_ext _ ?_ | refine le_alloc _ ?_ | refine le_setCell _ _ ?_ | refine le_drew ?_) | omega | (simp; done) | (simp; omega))))).mono ?_
      rintro e w' ⟨rfl, hw'⟩; have hzy := ext_sz hw'; obtain ⟨y, rfl⟩ := hw'; (try simp at hzy)
      have B1 : Hid (Below w.heap.size w (ext w y)) := hide (by (repeat' (first | (with_reducible first | exact Below.refl _ _ | assumption | refine below_ext _ ?_ ?_ | refine Below.alloc ?_ ?_ _ | refine Below.drew ?_ | refine below_drewN ?_ _ | refine le_drewN _ ?_ | refine Below.setCell ?_ ?_ _ | exact Nat.le_refl _ | refine le_ext _ ?_ | refine le_alloc _ ?_ | refine le_setCell _ _ ?_ | refine le_drew ?_) | omega | (simp; done) | (simp; omega))))
      go_wp2_with fail
      refine (SW.out _ (by (repeat' (first | (with_reducible first | exact Below.refl _ _ | assumption | refine below_ext _ ?_ ?_ | refine Below.alloc ?_ ?_ _ | refine Below.drew ?_ | refine below_drewN ?_ _ | refine le_drewN _ ?_ | refine Below.setCell ?_ ?_ _ | exact Nat.le_refl _ | refine le_ext _ ?_ | refine le_alloc _ ?_ | refine le_setCell _ _ ?_ | refine le_drew ?_) | omega | (simp; done) | (simp; omega))))).mono ?_
      rintro e w2 ⟨A2, n2, c2, rfl, l2, q2, qb2, tr2, pl2, hx2⟩
      have B2 := B1.out.trans ((ext_bel hx2).mono B1.out.size)
      have tr3 := fun h => (tr2 h)
      clear hx2
      go_wp2_with fail
      go_ret
      exact ⟨_, _, _, rfl, l2, q2, qb2, tr2.more B1.out.size, pl2, ext_mk B2⟩
set_option maxHeartbeats 1000000 in
theorem sSwp_any (ps : List Pt) (A : Option Addr) (n c : Nat) (w : World) (hn : ps.length = n) (hcap : n ≤ c) (hcm : c ≤ 9223372036854775807) (hm : n ≤ 1000) (hs : PtsAt w w.heap.size A ps) :
    Calls Try.prog 9 #[.slice A n c] w fun e w' => ∃ v, e = .returned v ∧ OwnT w' w.heap.size v (sT (sweepL ps)) ∧ ∃ x, w' = ext w x := by
  have OD := hide (fun (W : World) (hb : Below w.heap.size w W) => validSites_any ps A n c W hn hm (hs.to hb))
  cases hv : siteB ps
  · rw [hv] at OD
    rw [sweepL_no hv]
    clear hv hn hs
    go_enter Try.func9, Try.ntmps9
    go_wp2_with fail
    refine (OD.out _ (by (repeat' (first | (with_reducible first | exact Below.refl _ _ | assumption | refine below_ext _ ?_ ?_ | refine Below.alloc ?_ ?_ _ | refine Below.drew ?_ | refine below_drewN ?_ _ | refine le_drewN _ ?_ | refine Below.setCell ?_ ?_ _ | exact Nat.le_refl _ | refine le_ext _ ?_ | refine le_alloc _ ?_ | refine le_setCell _ _ ?_ | refine le_drew ?_) | omega | (simp; done) | (simp; omega))))).mono ?_
    rintro e w' ⟨rfl, hw'⟩; have hzy := ext_sz hw'; obtain ⟨y, rfl⟩ := hw'; (try simp at hzy)
    go_wp2_with fail
    go_ret
    exact ⟨_, rfl, OwnT.nil _ _, (ext_mk (by (repeat' (first | (with_reducible first | exact Below.refl _ _ | assumption | refine below_ext _ ?_ ?_ | refine Below.alloc ?_ ?_ _ | refine Below.drew ?_ | refine below_drewN ?_ _ | refine le_drewN _ ?_ | refine Below.setCell ?_ ?_ _ | exact Nat.le_refl _ | refine le_ext _ ?_ | refine le_alloc _ ?_ | refine le_setCell _ _ ?_ | refine le_drew ?_) | omega | (simp; done) | (simp; omega)))))⟩
  · rw [hv] at OD
    obtain ⟨hok, hO⟩ := siteB_iff.1 hv
    have SW : Hid (∀ (W : World) (hb : Below w.heap.size w W), Calls Try.prog 30 #[.slice A n c] W fun e w' => ∃ v, e = .returned v ∧ OwnT w' W.heap.size v (sT (sweepL ps)) ∧ ∃ x, w' = ext W x) := hide (fun W hb => by
      rcases line_or ps with hl | ⟨q, h2, hq, hl, hx⟩
      · rw [sweepL_flat hl]
        exact sSweep_flat ps A n c W hn hcap hcm hok hO hl (hs.to hb)
      · rw [sweepL_at hv h2 hq hl hx, hn]
        exact sSweep_any ps A n c W hn hcap hcm hok hO q h2 (by omega) hl hx (hs.to hb))
    clear hv hn hs hok hO
    generalize sT (sweepL ps) = L at *
    go_enter Try.func9, Try.ntmps9
    go_wp2_with fail
    refine (OD.out _ (by (repeat' (first | (with_reducible first | exact Below.refl _ _ | assumption | refine below_ext _ ?_ ?_ | refine Below.alloc ?_ ?_ _ | refine Below.drew ?_ | refine below_drewN ?_ _ | refine le_drewN _ ?_ | refine Below.setCell ?_ ?_ _ | exact Nat.le_refl _ | refine le_ext _ ?_ | refine le_alloc _ ?_ | refine le_setCell _ _ ?_ | refine le_drew ?_) | omega | (simp; done) | (simp; omega))))).mono ?_
    rintro e w' ⟨rfl, hw'⟩; have hzy := ext_sz hw'; obtain ⟨y, rfl⟩ := hw'; (try simp at hzy)
    have B1 : Hid (Below w.heap.size w (ext w y)) := hide (by (repeat' (first | (with_reducible first | exact Below.refl _ _ | assumption | refine below_ext _ ?_ ?_ | refine Below.alloc ?_ ?_ _ | refine Below.drew ?_ | refine below_drewN ?_ _ | refine le_drewN _ ?_ | refine Below.setCell ?_ ?_ _ | exact Nat.le_refl _ | refine le_ext _ ?_ | refine le_alloc _ ?_ | refine le_setCell _ _ ?_ | refine le_drew ?_) | omega | (simp; done) | (simp; omega))))
    go_wp2_with fail
    refine (SW.out _ (by (repeat' (first | (with_reducible first | exact Below.refl _ _ | assumption | refine below_ext _ ?_ ?_ | refine Below.alloc ?_ ?_ _ | refine Below.drew ?_ | refine below_drewN ?_ _ | refine le_drewN _ ?_ | refine Below.setCell ?_ ?_ _ | exact Nat.le_refl _ | refine le_ext _ ?_ | refine le_alloc _ ?_ | refine le_setCell _ _ ?_ | refine le_drew ?_) | omega | (simp; done) | (simp; omega))))).mono ?_
    rintro e w2 ⟨v2, rfl, own2, hx2⟩
    have B2 := B1.out.trans ((ext_bel hx2).mono B1.out.size)
    clear hx2
    go_wp2_with fail
    go_ret
    exact ⟨_, rfl, own2.base B1.out.size, ext_mk B2⟩
end Go.Proofs.Ytcebmcbglhkkfaa
