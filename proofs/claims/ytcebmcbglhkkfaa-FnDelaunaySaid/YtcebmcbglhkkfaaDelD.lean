
/- Delaunay of both; IsDelaunay. -/
import Derived.Test.YtcebmcbglhkkfaaDelS
import Derived.Test.YtcebmcbglhkkfaaDelA
import Derived.Test.YtcebmcbglhkkfaaSwpT
import Derived.Deep.LoopGhost
set_option linter.unusedVariables false
set_option linter.unusedSimpArgs false
namespace Go.Proofs.Ytcebmcbglhkkfaa
open Go.RowKit

theorem sweep_mesh {ps : List Pt} (hs : siteB ps = true) : Mesh ps (sweepL ps) (sweepL ps) ∧ (sweepL ps).length ≤ 2 * ps.length := by
  obtain ⟨hok, hO⟩ := siteB_iff.1 hs
  rcases line_or ps with hl | ⟨q, h2, hq, hl, hx⟩
  · rw [sweepL_flat hl]
    exact ⟨⟨(fun t ht => by cases ht), fun _ _ => rfl, rfl⟩, Nat.zero_le _⟩
  · obtain ⟨f, hf⟩ : ∃ f, ps.length = q + f + 1 := ⟨ps.length - q - 1, by omega⟩
    obtain ⟨_, cnt, _, tr⟩ := swS_main hl hO h2 hx f (by omega)
    rw [← hf] at tr cnt
    rw [sweepL_at hs h2 hq hl hx, show ps.length - q = f + 1 by omega]
    exact ⟨⟨fun t ht => ⟨(tr t ht).1, (tr t ht).2.1, (tr t ht).2.2⟩, fun _ _ => rfl, rfl⟩, by omega⟩
theorem sweep_ring {ps : List Pt} (hs : siteB ps = true) (h0 : sweepL ps ≠ []) : 3 ≤ (hullOf ps).length ∧ ∃ R, Fat ps ps.length R ∧ ∀ F : Nat → Nat → Int, (∀ x y, F y x = -F x y) → ChF F R = TF F (sweepL ps) := by
  obtain ⟨hok, hO⟩ := siteB_iff.1 hs
  rcases line_or ps with hl | ⟨q, h2, hq, hl, hx⟩
  · exact absurd (sweepL_flat hl) h0
  · obtain ⟨f, hf⟩ : ∃ f, ps.length = q + f + 1 := ⟨ps.length - q - 1, by omega⟩
    obtain ⟨fat, cnt, sm, tr⟩ := swS_main hl hO h2 hx f (by omega)
    rw [← hf] at fat
    rw [sweepL_at hs h2 hq hl hx, show ps.length - q = f + 1 by omega]
    exact ⟨hull_three (gp_mem (show 0 < ps.length by omega)) (gp_mem (show 1 < ps.length by omega)) (gp_mem hq) hx, _, fat, sm⟩
noncomputable def delL (ps : List Pt) : List Tri3 := delF ps (volS ps (sweepL ps)).toNat (sweepL ps)
theorem delL_no {ps : List Pt} (hs : siteB ps = false) : delL ps = [] := by
  unfold delL
  rw [sweepL_no hs]
  exact delF_end rfl _
theorem delL_main {ps : List Pt} (hs : siteB ps = true) : Mesh ps (sweepL ps) (delL ps) ∧ flip1 ps (delL ps) = none := delF_mesh _ (sweep_mesh hs).1 (Nat.le_refl _)
/-- What a flip does to the number of those to come. -/
theorem del_round {ps : List Pt} {T0 X X' D : List Tri3} {k : Nat} (hm : Mesh ps T0 X) (hv : (volS ps X).toNat ≤ k) (hd : delF ps k X = D) (hf : flip1 ps X = some X') : ∃ j, j < k ∧ Mesh ps T0 X' ∧ (volS ps X').toNat ≤ j ∧ delF ps j X' = D := by
  obtain ⟨m', lt⟩ := mesh_flip1 hm hf
  have n1 := vol_nn m'
  have n2 := vol_nn hm
  cases k with
  | zero => omega
  | succ j => exact ⟨j, by omega, m', by omega, by rw [← hd, delF_step hf]⟩
theorem listOk_1' {ps : List Pt} (h : listOk ps = true) : ps.length ≤ 20 ∧ ∀ p ∈ ps, p.ok = true := by
  unfold listOk allOk at h
  simp at h
  exact h
set_option maxHeartbeats 4000000 in
theorem iDel_any (ps : List Pt) (A : Option Addr) (n c : Nat) (w : World) (hn : ps.length = n) (hm : n ≤ 1000) (hs : PtsAt w w.heap.size A ps) (hA : Plain A n) :
    Calls Try.prog 20 #[.slice A n c] w fun e w' => ∃ A' n' c', e = .returned (.slice A' n' c') ∧ (sT (delL ps)).length = n' ∧ n' ≤ c' ∧ c' ≤ 9223372036854775807 ∧ TRow w' w.heap.size A' (sT (delL ps)) ∧ Plain A' n' ∧ ∃ x, w' = ext w x := by
  have OD := hide (fun (W : World) (hb : Below w.heap.size w W) => ordered_any ps A n c W hn hm (hs.to hb) hA)
  cases hv : siteB ps
  · rw [hv] at OD
    rw [delL_no hv]
    clear hv hn hs hA
    go_enter Try.func20, Try.ntmps20
    go_wp2_with fail
    refine (OD.out _ (by (repeat' (first | (with_reducible first | exact Below.refl _ _ | assumption | refine below_ext _ ?_ ?_ | refine Below.alloc ?_ ?_ _ | refine Below.drew ?_ | refine below_drewN ?_ _ | refine le_drewN _ ?_ | refine Below.setCell ?_ ?_ _ | exact Nat.le_refl _ | refine le_ext _ ?_ | refine le_alloc _ ?_ | refine le_setCell _ _ ?_ | refine le_drew ?_) | omega | (simp; done) | (simp; omega))))).mono ?_
    rintro e w' ⟨rfl, hw'⟩; have hzy := ext_sz hw'; obtain ⟨y, rfl⟩ := hw'; (try simp at hzy)
    go_wp2_with fail
    go_ret
    exact ⟨_, _, _, rfl, rfl, Nat.le_refl _, by omega, TRow.nil _ _ _, Plain.none rfl, (ext_mk (by (repeat' (first | (with_reducible first | exact Below.refl _ _ | assumption | refine below_ext _ ?_ ?_ | refine Below.alloc ?_ ?_ _ | refine Below.drew ?_ | refine below_drewN ?_ _ | refine le_drewN _ ?_ | refine Below.setCell ?_ ?_ _ | exact Nat.le_refl _ | refine le_ext _ ?_ | refine le_alloc _ ?_ | refine le_setCell _ _ ?_ | refine le_drew ?_) | omega | (simp; done) | (simp; omega)))))⟩
  · rw [hv] at OD
    obtain ⟨hok, hO⟩ := siteB_iff.1 hv
    obtain ⟨M0, ML⟩ := sweep_mesh hv
    have h20 := (listOk_1' hok).1
    have SW : Hid (∀ (W : World) (hb : Below w.heap.size w W), Calls Try.prog 28 #[.slice A n c] W fun e w' => ∃ A' n' c', e = .returned (.slice A' n' c') ∧ (sT (sweepL ps)).length = n' ∧ n' ≤ c' ∧ c' ≤ 9223372036854775807 ∧ TRow w' W.heap.size A' (sT (sweepL ps)) ∧ Plain A' n' ∧ ∃ x, w' = ext W x) := hide (fun W hb => by
      rcases line_or ps with hl | ⟨q, h2, hq, hl, hx⟩
      · rw [sweepL_flat hl]
        refine (iSweep_flat ps A n c W hn hok hO hl (hs.to hb) hA).mono ?_
        rintro e w2 ⟨A2, n2, c2, rfl, rfl, q2, qb2, pl2, hx2⟩
        exact ⟨_, _, _, rfl, rfl, q2, qb2, TRow.nil _ _ _, pl2, hx2⟩
      · rw [sweepL_at hv h2 hq hl hx, hn]
        exact iSweep_any ps A n c W hn hok hO q h2 (by omega) hl hx (hs.to hb) hA)
    have FL := hide (fun (X : List Tri3) (AT : Option Addr) (N cT base : Nat) (W : World) (hb : Below w.heap.size w W) (hbase : w.heap.size ≤ base) (hX : Mesh ps (sweepL ps) X) (hN : X.length = N) (hR : TRow W base AT (sT X)) (hz : base ≤ W.heap.size) =>
      iFlip_any ps X A AT n c N cT base W hn (by omega) (listOk_1' hok).2 ((hs.below hb).more hbase) hN (by have := hX.len; omega) (fun t ht => ⟨by rw [← hn]; exact (hX.tri t ht).pt, (hX.tri t ht).pos⟩) hR hz)
    have DD : Hid (delF ps (volS ps (sweepL ps)).toNat (sweepL ps) = delL ps) := hide rfl
    have MM := hide M0
    have DR := hide (fun (X X' D : List Tri3) (k : Nat) (h1 : Mesh ps (sweepL ps) X) (h2 : (volS ps X).toNat ≤ k) (h3 : delF ps k X = D) (h4 : flip1 ps X = some X') => del_round h1 h2 h3 h4)
    have DE := hide (fun (X : List Tri3) (h : flip1 ps X = none) => delF_end h)
    have SL := hide (fun X (h : Mesh ps (sweepL ps) X) => h.len)
    obtain ⟨v0, hv0⟩ : ∃ v0, (volS ps (sweepL ps)).toNat = v0 := ⟨_, rfl⟩
    rw [hv0] at DD
    have HV0 := hide (Nat.le_of_eq hv0)
    clear hv hn hs hA hok hO M0 ML hv0
    generalize sweepL ps = T0 at *
    generalize delL ps = D at *
    go_enter Try.func20, Try.ntmps20
    go_wp2_with fail
    refine (OD.out _ (by (repeat' (first | (with_reducible first | exact Below.refl _ _ | assumption | refine below_ext _ ?_ ?_ | refine Below.alloc ?_ ?_ _ | refine Below.drew ?_ | refine below_drewN ?_ _ | refine le_drewN _ ?_ | refine Below.setCell ?_ ?_ _ | exact Nat.le_refl _ | refine le_ext _ ?_ | refine le_alloc _ ?_ | refine le_setCell _ _ ?_ | refine le_drew ?_) | omega | (simp; done) | (simp; omega))))).mono ?_
    rintro e w' ⟨rfl, hw'⟩; have hzy := ext_sz hw'; obtain ⟨y, rfl⟩ := hw'; (try simp at hzy)
    have B1 : Hid (Below w.heap.size w (ext w y)) := hide (by (repeat' (first | (with_reducible first | exact Below.refl _ _ | assumption | refine below_ext _ ?_ ?_ | refine Below.alloc ?_ ?_ _ | refine Below.drew ?_ | refine below_drewN ?_ _ | refine le_drewN _ ?_ | refine Below.setCell ?_ ?_ _ | exact Nat.le_refl _ | refine le_ext _ ?_ | refine le_alloc _ ?_ | refine le_setCell _ _ ?_ | refine le_drew ?_) | omega | (simp; done) | (simp; omega))))
    go_wp2_with fail
    refine (SW.out _ (by (repeat' (first | (with_reducible first | exact Below.refl _ _ | assumption | refine below_ext _ ?_ ?_ | refine Below.alloc ?_ ?_ _ | refine Below.drew ?_ | refine below_drewN ?_ _ | refine le_drewN _ ?_ | refine Below.setCell ?_ ?_ _ | exact Nat.le_refl _ | refine le_ext _ ?_ | refine le_alloc _ ?_ | refine le_setCell _ _ ?_ | refine le_drew ?_) | omega | (simp; done) | (simp; omega))))).mono ?_
    rintro e w2 ⟨A2, n2, c2, rfl, l2, q2, qb2, tr2, pl2, hx2⟩
    have B2 := hide (B1.out.trans ((ext_bel hx2).mono B1.out.size))
    have zw := B1.out.size
    have z2 := (ext_bel hx2).size
    have TR2 := hide tr2
    have L2 := hide l2
    have PL2 := hide pl2
    generalize (ext w y).heap.size = base at *
    clear hx2 tr2 l2 pl2 B1 OD SW
    go_wp2_with fail
    go_loopg [] v0 (fun k wr => ∃ X, Mesh ps T0 X ∧ Hid ((volS ps X).toNat ≤ k) ∧ Hid (delF ps k X = D) ∧ TRow wr base A2 (sT X) ∧ Below w.heap.size w wr ∧ base ≤ wr.heap.size)
    case atStart => exact ⟨T0, MM.out, HV0, DD, TR2.out, B2.out, z2⟩
    case round =>
      obtain ⟨X, hX, hvX, hdX, hRX, hbX, hzX⟩ := hrel
      have XL : X.length = n2 := by rw [SL.out X hX, ← L2.out, sT_len]
      have HX := hide hX
      have XL2 := hide XL
      have BX := hide hbX
      have FX := hide (FL.out X A2 n2 c2 base wr hbX zw hX XL hRX hzX)
      have RX := hide hRX
      clear hX hRX XL
      go_wp2_with fail
      refine FX.out.mono ?_
      rintro e w5 (⟨hf, rfl, hx5⟩ | ⟨X', hf, rfl, hR', hB'⟩)
      · have EX : X = D := by rw [← hdX.out]; exact (DE.out _ hf gk).symm
        have B5 := ext_bel hx5
        have R5 := hide (RX.out.below B5)
        have BF := hide (BX.out.trans (B5.mono BX.out.size))
        rw [EX] at R5 XL2
        clear hx5 hf EX
        go_wp2_with fail
        go_ret
        exact ⟨_, _, _, rfl, by rw [sT_len]; exact XL2.out, q2, qb2, R5.out.more zw, PL2.out, ext_mk BF.out⟩
      · obtain ⟨j, hj, h1, h2, h3⟩ := DR.out _ _ _ _ HX.out hvX.out hdX.out hf
        have H1 := hide h1
        have H2 := hide h2
        have H3 := hide h3
        have R5 := hide hR'
        have BF := hide (BX.out.trans (hB'.mono zw))
        have zF := hB'.size
        clear hf hR' h1 h2 h3
        go_wp2_with fail
        go_roundg j
        case measure => exact hj
        case rel => exact ⟨X', H1.out, H2, H3, R5.out, BF.out, by omega⟩
set_option maxHeartbeats 4000000 in
theorem sDel_any (ps : List Pt) (A : Option Addr) (n c : Nat) (w : World) (hn : ps.length = n) (hm : n ≤ 1000) (hcap : n ≤ c) (hcm : c ≤ 9223372036854775807) (hs : PtsAt w w.heap.size A ps) :
    Calls Try.prog 21 #[.slice A n c] w fun e w' => ∃ A' n' c', e = .returned (.slice A' n' c') ∧ (sT (delL ps)).length = n' ∧ TRow w' w.heap.size A' (sT (delL ps)) ∧ ∃ x, w' = ext w x := by
  have OD := hide (fun (W : World) (hb : Below w.heap.size w W) => validSites_any ps A n c W hn hm (hs.to hb))
  cases hv : siteB ps
  · rw [hv] at OD
    rw [delL_no hv]
    clear hv hn hs
    go_enter Try.func21, Try.ntmps21
    go_wp2_with fail
    refine (OD.out _ (by (repeat' (first | (with_reducible first | exact Below.refl _ _ | assumption | refine below_ext _ ?_ ?_ | refine Below.alloc ?_ ?_ _ | refine Below.drew ?_ | refine below_drewN ?_ _ | refine le_drewN _ ?_ | refine Below.setCell ?_ ?_ _ | exact Nat.le_refl _ | refine le_ext _ ?_ | refine le_alloc _ ?_ | refine le_setCell _ _ ?_ | refine le_drew ?_) | omega | (simp; done) | (simp; omega))))).mono ?_
    rintro e w' ⟨rfl, hw'⟩; have hzy := ext_sz hw'; obtain ⟨y, rfl⟩ := hw'; (try simp at hzy)
    go_wp2_with fail
    go_ret
    exact ⟨_, _, _, rfl, rfl, TRow.nil _ _ _, (ext_mk (by (repeat' (first | (with_reducible first | exact Below.refl _ _ | assumption | refine below_ext _ ?_ ?_ | refine Below.alloc ?_ ?_ _ | refine Below.drew ?_ | refine below_drewN ?_ _ | refine le_drewN _ ?_ | refine Below.setCell ?_ ?_ _ | exact Nat.le_refl _ | refine le_ext _ ?_ | refine le_alloc _ ?_ | refine le_setCell _ _ ?_ | refine le_drew ?_) | omega | (simp; done) | (simp; omega)))))⟩
  · rw [hv] at OD
    obtain ⟨hok, hO⟩ := siteB_iff.1 hv
    obtain ⟨M0, ML⟩ := sweep_mesh hv
    have h20 := (listOk_1' hok).1
    have SW : Hid (∀ (W : World) (hb : Below w.heap.size w W), Calls Try.prog 30 #[.slice A n c] W fun e w' => ∃ A' n' c', e = .returned (.slice A' n' c') ∧ (sT (sweepL ps)).length = n' ∧ n' ≤ c' ∧ c' ≤ 9223372036854775807 ∧ TRow w' W.heap.size A' (sT (sweepL ps)) ∧ Plain A' n' ∧ ∃ x, w' = ext W x) := hide (fun W hb => by
      have key : Calls Try.prog 30 #[.slice A n c] W fun e w' => ∃ v, e = .returned v ∧ OwnT w' W.heap.size v (sT (sweepL ps)) ∧ ∃ x, w' = ext W x := by
        rcases line_or ps with hl | ⟨q, h2, hq, hl, hx⟩
        · rw [sweepL_flat hl]
          exact sSweep_flat ps A n c W hn hcap hcm hok hO hl (hs.to hb)
        · rw [sweepL_at hv h2 hq hl hx, hn]
          exact sSweep_any ps A n c W hn hcap hcm hok hO q h2 (by omega) hl hx (hs.to hb)
      refine key.mono ?_
      rintro e w2 ⟨v, rfl, own, hx2⟩
      obtain ⟨A2, n2, c2, rfl⟩ := own.slice
      obtain ⟨l2, q2, m2, _⟩ := own.tris
      exact ⟨_, _, _, rfl, l2, q2, by unfold maxLen at m2; omega, own.trow.2, own.form, hx2⟩)
    have FL := hide (fun (X : List Tri3) (AT : Option Addr) (N cT base : Nat) (W : World) (hb : Below w.heap.size w W) (hbase : w.heap.size ≤ base) (hX : Mesh ps (sweepL ps) X) (hN : X.length = N) (hR : TRow W base AT (sT X)) (hz : base ≤ W.heap.size) =>
      sFlip_any ps X A AT n c N cT base W hn (by omega) (listOk_1' hok).2 ((hs.below hb).more hbase) hN (by have := hX.len; omega) (fun t ht => ⟨by rw [← hn]; exact (hX.tri t ht).pt, (hX.tri t ht).pos⟩) hR hz)
    have DD : Hid (delF ps (volS ps (sweepL ps)).toNat (sweepL ps) = delL ps) := hide rfl
    have MM := hide M0
    have DR := hide (fun (X X' D : List Tri3) (k : Nat) (h1 : Mesh ps (sweepL ps) X) (h2 : (volS ps X).toNat ≤ k) (h3 : delF ps k X = D) (h4 : flip1 ps X = some X') => del_round h1 h2 h3 h4)
    have DE := hide (fun (X : List Tri3) (h : flip1 ps X = none) => delF_end h)
    have SL := hide (fun X (h : Mesh ps (sweepL ps) X) => h.len)
    obtain ⟨v0, hv0⟩ : ∃ v0, (volS ps (sweepL ps)).toNat = v0 := ⟨_, rfl⟩
    rw [hv0] at DD
    have HV0 := hide (Nat.le_of_eq hv0)
    clear hv hn hs hok hO M0 ML hv0
    generalize sweepL ps = T0 at *
    generalize delL ps = D at *
    go_enter Try.func21, Try.ntmps21
    go_wp2_with fail
    refine (OD.out _ (by (repeat' (first | (with_reducible first | exact Below.refl _ _ | assumption | refine below_ext _ ?_ ?_ | refine Below.alloc ?_ ?_ _ | refine Below.drew ?_ | refine below_drewN ?_ _ | refine le_drewN _ ?_ | refine Below.setCell ?_ ?_ _ | exact Nat.le_refl _ | refine le_ext _ ?_ | refine le_alloc _ ?_ | refine le_setCell _ _ ?_ | refine le_drew ?_) | omega | (simp; done) | (simp; omega))))).mono ?_
    rintro e w' ⟨rfl, hw'⟩; have hzy := ext_sz hw'; obtain ⟨y, rfl⟩ := hw'; (try simp at hzy)
    have B1 : Hid (Below w.heap.size w (ext w y)) := hide (by (repeat' (first | (with_reducible first | exact Below.refl _ _ | assumption | refine below_ext _ ?_ ?_ | refine Below.alloc ?_ ?_ _ | refine Below.drew ?_ | refine below_drewN ?_ _ | refine le_drewN _ ?_ | refine Below.setCell ?_ ?_ _ | exact Nat.le_refl _ | refine le_ext _ ?_ | refine le_alloc _ ?_ | refine le_setCell _ _ ?_ | refine le_drew ?_) | omega | (simp; done) | (simp; omega))))
    go_wp2_with fail
    refine (SW.out _ (by (repeat' (first | (with_reducible first | exact Below.refl _ _ | assumption | refine below_ext _ ?_ ?_ | refine Below.alloc ?_ ?_ _ | refine Below.drew ?_ | refine below_drewN ?_ _ | refine le_drewN _ ?_ | refine Below.setCell ?_ ?_ _ | exact Nat.le_refl _ | refine le_ext _ ?_ | refine le_alloc _ ?_ | refine le_setCell _ _ ?_ | refine le_drew ?_) | omega | (simp; done) | (simp; omega))))).mono ?_
    rintro e w2 ⟨A2, n2, c2, rfl, l2, q2, qb2, tr2, pl2, hx2⟩
    have B2 := hide (B1.out.trans ((ext_bel hx2).mono B1.out.size))
    have zw := B1.out.size
    have z2 := (ext_bel hx2).size
    have TR2 := hide tr2
    have L2 := hide l2
    have PL2 := hide pl2
    generalize (ext w y).heap.size = base at *
    clear hx2 tr2 l2 pl2 B1 OD SW
    go_wp2_with fail
    go_loopg [] v0 (fun k wr => ∃ X, Mesh ps T0 X ∧ Hid ((volS ps X).toNat ≤ k) ∧ Hid (delF ps k X = D) ∧ TRow wr base A2 (sT X) ∧ Below w.heap.size w wr ∧ base ≤ wr.heap.size)
    case atStart => exact ⟨T0, MM.out, HV0, DD, TR2.out, B2.out, z2⟩
    case round =>
      obtain ⟨X, hX, hvX, hdX, hRX, hbX, hzX⟩ := hrel
      have XL : X.length = n2 := by rw [SL.out X hX, ← L2.out, sT_len]
      have HX := hide hX
      have XL2 := hide XL
      have BX := hide hbX
      have FX := hide (FL.out X A2 n2 c2 base wr hbX zw hX XL hRX hzX)
      have RX := hide hRX
      clear hX hRX XL
      go_wp2_with fail
      refine FX.out.mono ?_
      rintro e w5 (⟨hf, rfl, hx5⟩ | ⟨X', hf, rfl, hR', hB'⟩)
      · have EX : X = D := by rw [← hdX.out]; exact (DE.out _ hf gk).symm
        have B5 := ext_bel hx5
        have R5 := hide (RX.out.below B5)
        have BF := hide (BX.out.trans (B5.mono BX.out.size))
        rw [EX] at R5 XL2
        clear hx5 hf EX
        go_wp2_with fail
        go_ret
        exact ⟨_, _, _, rfl, by rw [sT_len]; exact XL2.out, R5.out.more zw, ext_mk BF.out⟩
      · obtain ⟨j, hj, h1, h2, h3⟩ := DR.out _ _ _ _ HX.out hvX.out hdX.out hf
        have H1 := hide h1
        have H2 := hide h2
        have H3 := hide h3
        have R5 := hide hR'
        have BF := hide (BX.out.trans (hB'.mono zw))
        have zF := hB'.size
        clear hf hR' h1 h2 h3
        go_wp2_with fail
        go_roundg j
        case measure => exact hj
        case rel => exact ⟨X', H1.out, H2, H3, R5.out, BF.out, by omega⟩
set_option maxHeartbeats 400000 in
theorem inIndex3_any (a b c n : Nat) (w : World) (hn : n ≤ 1000000) (ha : a < n) (hb : b < n) (hc : c < n) : Calls Try.prog 51 #[.agg #[.int .i64 (a : Int), .int .i64 (b : Int), .int .i64 (c : Int)], .int .i64 n] w fun e w' => e = .returned (.bool true) ∧ ∃ x, w' = ext w x := by
  have i1 : inB (a : Int) 0 ((n : Int) - 1) = true := by unfold inB; simp; omega
  have i2 : inB (b : Int) 0 ((n : Int) - 1) = true := by unfold inB; simp; omega
  have i3 : inB (c : Int) 0 ((n : Int) - 1) = true := by unfold inB; simp; omega
  have w1 : IntKind.i64.wrap ((n : Int) - 1) = (n : Int) - 1 := IntWalk.i64_in _ (by omega)
  go_enter Try.func51, Try.ntmps51
  go_wp2_with fail
  refine (within_any _ _ _ _).mono ?_
  rw [i1]
  rintro e w' ⟨rfl, rfl⟩
  go_wp2_with fail
  refine (within_any _ _ _ _).mono ?_
  rw [i2]
  rintro e w' ⟨rfl, rfl⟩
  go_wp2_with fail
  refine (within_any _ _ _ _).mono ?_
  rw [i3]
  rintro e w' ⟨rfl, rfl⟩
  go_wp2_with fail
  go_ret
  exact ⟨rfl, (ext_mk (by (repeat' (first | (with_reducible first | exact Below.refl _ _ | assumption | refine below_ext _ ?_ ?_ | refine Below.alloc ?_ ?_ _ | refine Below.drew ?_ | refine below_drewN ?_ _ | refine le_drewN _ ?_ | refine Below.setCell ?_ ?_ _ | exact Nat.le_refl _ | refine le_ext _ ?_ | refine le_alloc _ ?_ | refine le_setCell _ _ ?_ | refine le_drew ?_) | omega | (simp; done) | (simp; omega)))))⟩
set_option maxHeartbeats 1000000 in
theorem tturn_any (ps : List Pt) (a b c : Nat) (A : Option Addr) (n cp : Nat) (w : World) (hn : ps.length = n) (hok : ∀ p ∈ ps, p.ok = true) (ha : a < n) (hb : b < n) (hc : c < n) (hs : PtsAt w w.heap.size A ps) :
    Calls Try.prog 52 #[.agg #[.int .i64 (a : Int), .int .i64 (b : Int), .int .i64 (c : Int)], .slice A n cp] w fun e w' => e = .returned (.int .i64 (trn (gp ps a) (gp ps b) (gp ps c))) ∧ ∃ x, w' = ext w x := by
  obtain ⟨bk, o, rfl, hbk, hcs⟩ := hs (by omega)
  obtain ⟨xa, ya⟩ := hcs a (by omega)
  obtain ⟨xb, yb⟩ := hcs b (by omega)
  obtain ⟨xc, yc⟩ := hcs c (by omega)
  have oa := okb (hok _ (gp_mem (show a < ps.length by omega)))
  have ob := okb (hok _ (gp_mem (show b < ps.length by omega)))
  have oc := okb (hok _ (gp_mem (show c < ps.length by omega)))
  have TT : Hid (∀ W, Calls Try.prog 37 #[.agg #[.int .i64 (pX ps a), .int .i64 (pY ps a)], .agg #[.int .i64 (pX ps b), .int .i64 (pY ps b)], .agg #[.int .i64 (pX ps c), .int .i64 (pY ps c)]] W fun e w' => e = .returned (.int .i64 (trn (gp ps a) (gp ps b) (gp ps c))) ∧ ∃ x, w' = ext W x) := hide (fun W => turn_any (gp ps a).x (gp ps a).y (gp ps b).x (gp ps b).y (gp ps c).x (gp ps c).y W (by omega) (by omega) (by omega) (by omega) (by omega) (by omega))
  have q1 : (a : Int) < (n : Int) := by omega
  have q2 : (b : Int) < (n : Int) := by omega
  have q3 : (c : Int) < (n : Int) := by omega
  clear hn hok hs hcs oa ob oc
  generalize trn (gp ps a) (gp ps b) (gp ps c) = D at *
  generalize pX ps a = XA at *
  generalize pY ps a = YA at *
  generalize pX ps b = XB at *
  generalize pY ps b = YB at *
  generalize pX ps c = XC at *
  generalize pY ps c = YC at *
  go_enter Try.func52, Try.ntmps52
  go_wp2_with fail
  refine wp_region_ext (by kernel_rfl) (by kernel_rfl) ?_
  repeat (go_big_quiet_step ((first | (go_at_call 37; exact Calls.in_ext (TT.out _)))))
  refine wpQuiet_nil ?_
  rintro _ hnq
  have hzq := ext_sz hnq
  obtain ⟨nq, rfl⟩ := hnq
  (try simp at hzq)
  go_wp2_with fail
  go_ret
  exact ⟨rfl, (ext_mk (by (repeat' (first | (with_reducible first | exact Below.refl _ _ | assumption | refine below_ext _ ?_ ?_ | refine Below.alloc ?_ ?_ _ | refine Below.drew ?_ | refine below_drewN ?_ _ | refine le_drewN _ ?_ | refine Below.setCell ?_ ?_ _ | exact Nat.le_refl _ | refine le_ext _ ?_ | refine le_alloc _ ?_ | refine le_setCell _ _ ?_ | refine le_drew ?_) | omega | (simp; done) | (simp; omega)))))⟩
set_option maxHeartbeats 1000000 in
theorem isDel1_any (ps : List Pt) (a b c q : Nat) (A : Option Addr) (n cp bp bt : Nat) (w : World) (hn : ps.length = n) (hok : ∀ p ∈ ps, p.ok = true) (ha : a < n) (hb : b < n) (hc : c < n) (hq : q < n) (hs : PtsAt w w.heap.size A ps)
    (hbp : bp < w.heap.size) (hbt : bt < w.heap.size) (hp : w.cell? ⟨bp, 0, none⟩ = some (.slice A n cp)) (t0 : w.cell? ⟨bt, 0, none⟩ = some (.int .i64 (a : Int))) (t1 : w.cell? ⟨bt, 1, none⟩ = some (.int .i64 (b : Int))) (t2 : w.cell? ⟨bt, 2, none⟩ = some (.int .i64 (c : Int))) :
    Calls Try.prog 54 #[.agg #[.int .i64 (pX ps q), .int .i64 (pY ps q)], .pointer (some ⟨bp, 0, none⟩), .pointer (some ⟨bt, 0, none⟩)] w fun e w' => e = .returned (.bool (decide (0 < sgn (icD (gp ps a) (gp ps b) (gp ps c) (gp ps q)) * sgn (trn (gp ps a) (gp ps b) (gp ps c))))) ∧ ∃ x, w' = ext w x := by
  obtain ⟨bk, o, rfl, hbk, hcs⟩ := hs (by omega)
  obtain ⟨xa, ya⟩ := hcs a (by omega)
  obtain ⟨xb, yb⟩ := hcs b (by omega)
  obtain ⟨xc, yc⟩ := hcs c (by omega)
  have TT : Hid (∀ W, Calls Try.prog 55 #[.agg #[.int .i64 (pX ps a), .int .i64 (pY ps a)], .agg #[.int .i64 (pX ps b), .int .i64 (pY ps b)], .agg #[.int .i64 (pX ps c), .int .i64 (pY ps c)], .agg #[.int .i64 (pX ps q), .int .i64 (pY ps q)]] W fun e w' => e = .returned (.int .i64 (sgn (icD (gp ps a) (gp ps b) (gp ps c) (gp ps q)) * sgn (trn (gp ps a) (gp ps b) (gp ps c)))) ∧ ∃ x, w' = ext W x) := hide (fun W => iCircle_any (gp ps a) (gp ps b) (gp ps c) (gp ps q) W (hok _ (gp_mem (by omega))) (hok _ (gp_mem (by omega))) (hok _ (gp_mem (by omega))) (hok _ (gp_mem (by omega))))
  have q1 : (a : Int) < (n : Int) := by omega
  have q2 : (b : Int) < (n : Int) := by omega
  have q3 : (c : Int) < (n : Int) := by omega
  clear hn hok hs hcs
  generalize sgn (icD (gp ps a) (gp ps b) (gp ps c) (gp ps q)) * sgn (trn (gp ps a) (gp ps b) (gp ps c)) = D at *
  generalize pX ps a = XA at *
  generalize pY ps a = YA at *
  generalize pX ps b = XB at *
  generalize pY ps b = YB at *
  generalize pX ps c = XC at *
  generalize pY ps c = YC at *
  generalize pX ps q = XQ at *
  generalize pY ps q = YQ at *
  go_enter Try.func54, Try.ntmps54
  go_wp2_with fail
  refine wp_region_ext (by kernel_rfl) (by kernel_rfl) ?_
  repeat (go_big_quiet_step ((first | (go_at_call 55; exact Calls.in_ext (TT.out _)))))
  refine wpQuiet_nil ?_
  rintro _ hnq
  have hzq := ext_sz hnq
  obtain ⟨nq, rfl⟩ := hnq
  (try simp at hzq)
  go_wp2_with fail
  go_ret
  exact ⟨rfl, (ext_mk (by (repeat' (first | (with_reducible first | exact Below.refl _ _ | assumption | refine below_ext _ ?_ ?_ | refine Below.alloc ?_ ?_ _ | refine Below.drew ?_ | refine below_drewN ?_ _ | refine le_drewN _ ?_ | refine Below.setCell ?_ ?_ _ | exact Nat.le_refl _ | refine le_ext _ ?_ | refine le_alloc _ ?_ | refine le_setCell _ _ ?_ | refine le_drew ?_) | omega | (simp; done) | (simp; omega)))))⟩
set_option maxHeartbeats 4000000 in
theorem isDel_any (ps : List Pt) (T : List Tri3) (A AT : Option Addr) (n c N cT : Nat) (w : World) (hn : ps.length = n) (hv : siteB ps = true) (hs : PtsAt w w.heap.size A ps) (hA : Plain A n) (hN : T.length = N) (hN40 : N ≤ 40) (hT : ∀ t ∈ T, ptT t n ∧ 0 < trnT ps t) (hD : ∀ t ∈ T, ∀ q, q < n → dq ps t q ≤ 0)
    (hR : TrisAt w w.heap.size AT (sT T)) : Calls Try.prog 23 #[.slice A n c, .slice AT N cT] w fun e w' => e = .returned (.bool true) ∧ ∃ x, w' = ext w x := by
  obtain ⟨hok, hO⟩ := siteB_iff.1 hv
  have ok1 := listOk_1' hok
  have n20 : n ≤ 20 := by omega
  have OD := hide (fun (W : World) (hb : Below w.heap.size w W) => ordered_any ps A n c W hn (by omega) (hs.to hb) hA)
  rw [hv] at OD
  have II := hide (fun (i : Nat) (hi : i < N) (W : World) => have h := (hT _ (gT_mem (show i < T.length by omega))).1; inIndex3_any (gT T i).a (gT T i).b (gT T i).c n W (by omega) h.1 h.2.1 h.2.2)
  have TN := hide (fun (i : Nat) (hi : i < N) (W : World) (hb : Below w.heap.size w W) => have h := (hT _ (gT_mem (show i < T.length by omega))).1; tturn_any ps (gT T i).a (gT T i).b (gT T i).c A n c W hn ok1.2 h.1 h.2.1 h.2.2 (hs.to hb))
  have TP : Hid (∀ i, i < N → 0 < trn (gp ps (gT T i).a) (gp ps (gT T i).b) (gp ps (gT T i).c)) := hide (fun i hi => (hT _ (gT_mem (by omega))).2)
  have CELL : Hid (∀ i, i < N → ∀ W, Below w.heap.size w W → ∃ b o, AT = some ⟨b, o, none⟩ ∧ b < W.heap.size ∧ W.cell? ⟨b, o + i * 3, none⟩ = some (.int .i64 ((gT T i).a : Int)) ∧ W.cell? ⟨b, o + i * 3 + 1, none⟩ = some (.int .i64 ((gT T i).b : Int)) ∧ W.cell? ⟨b, o + i * 3 + 2, none⟩ = some (.int .i64 ((gT T i).c : Int))) := hide (fun i hi W hb => by
    obtain ⟨b, o, hA, hbb, hc⟩ := hR (by rw [sT_len]; omega)
    obtain ⟨h1, h2, h3⟩ := hc i (by rw [sT_len]; omega)
    rw [gt_sT (by omega)] at h1 h2 h3
    exact ⟨b, o, hA, by have := hb.size; omega, (hb.cell (p := ⟨b, o + i * 3, none⟩) hbb).trans h1, (hb.cell (p := ⟨b, o + i * 3 + 1, none⟩) hbb).trans h2, (hb.cell (p := ⟨b, o + i * 3 + 2, none⟩) hbb).trans h3⟩)
  have CF := hide (fun (i : Nat) (hi : i < N) (W : World) (hb : Below w.heap.size w W) (bp bt : Nat) (hbp : bp < W.heap.size) (hbt : bt < W.heap.size) (hp : W.cell? ⟨bp, 0, none⟩ = some (.slice A n c)) (t0 : W.cell? ⟨bt, 0, none⟩ = some (.int .i64 ((gT T i).a : Int))) (t1 : W.cell? ⟨bt, 1, none⟩ = some (.int .i64 ((gT T i).b : Int))) (t2 : W.cell? ⟨bt, 2, none⟩ = some (.int .i64 ((gT T i).c : Int))) => by
    have hh := (hT _ (gT_mem (show i < T.length by omega)))
    have := ContainsFunc_any 54 #[.pointer (some ⟨bp, 0, none⟩), .pointer (some ⟨bt, 0, none⟩)] (fun q => decide (0 < sgn (icD (gp ps (gT T i).a) (gp ps (gT T i).b) (gp ps (gT T i).c) (gp ps q)) * sgn (trn (gp ps (gT T i).a) (gp ps (gT T i).b) (gp ps (gT T i).c)))) ps A n c W hn (by omega) (enters _ Try.func54 (by kernel_rfl) rfl) (hs.to hb) (fun W2 q hW2 hq => by
      have hb2 := hb.trans (hW2.mono hb.size)
      exact isDel1_any ps (gT T i).a (gT T i).b (gT T i).c q A n c bp bt W2 hn ok1.2 hh.1.1 hh.1.2.1 hh.1.2.2 (by omega) (hs.to hb2) (by have := hW2.size; omega) (by have := hW2.size; omega) ((hW2.cell (p := ⟨bp, 0, none⟩) hbp).trans hp) ((hW2.cell (p := ⟨bt, 0, none⟩) hbt).trans t0) ((hW2.cell (p := ⟨bt, 1, none⟩) hbt).trans t1) ((hW2.cell (p := ⟨bt, 2, none⟩) hbt).trans t2))
    have e0 : ((List.range n).any fun q => decide (0 < sgn (icD (gp ps (gT T i).a) (gp ps (gT T i).b) (gp ps (gT T i).c) (gp ps q)) * sgn (trn (gp ps (gT T i).a) (gp ps (gT T i).b) (gp ps (gT T i).c)))) = false := by
      rw [List.any_eq_false]
      intro q hq
      have d := hD _ (gT_mem (show i < T.length by omega)) q (List.mem_range.1 hq)
      have hp1 : sgn (trn (gp ps (gT T i).a) (gp ps (gT T i).b) (gp ps (gT T i).c)) = 1 := sgn_pos hh.2
      rw [hp1, Int.mul_one, decide_eq_true_iff, sgn_iff]
      unfold dq at d
      omega
    rw [e0] at this
    exact this)
  clear hn hv hs hA hN hT hD hR hok hO ok1
  have H0 : Hid (∀ W : World, W = w.alloc (.cells #[.slice A n c] 23) → W.cell? ⟨w.heap.size, 0, none⟩ = some (.slice A n c) ∧ Below w.heap.size w W ∧ w.heap.size < W.heap.size) := hide (fun W hW => by
    subst hW
    exact ⟨heap_cell (heap_alloc_new _ _) 0, (by (repeat' (first | (with_reducible first | exact Below.refl _ _ | assumption | refine below_ext _ ?_ ?_ | refine Below.alloc ?_ ?_ _ | refine Below.drew ?_ | refine below_drewN ?_ _ | refine le_drewN _ ?_ | refine Below.setCell ?_ ?_ _ | exact Nat.le_refl _ | refine le_ext _ ?_ | refine le_alloc _ ?_ | refine le_setCell _ _ ?_ | refine le_drew ?_) | omega | (simp; done) | (simp; omega)))), by simp⟩)
  go_enter Try.func23, Try.ntmps23
  go_wp2_with fail
  obtain ⟨W1, hW1⟩ : ∃ W1, W1 = w.alloc (.cells #[.slice A n c] 23) := ⟨_, rfl⟩
  obtain ⟨cp, BW1, z1⟩ := H0.out W1 hW1
  have HCP := hide cp
  have BW := hide BW1
  rw [← hW1]
  clear hW1 H0 BW1 cp
  refine (OD.out _ BW.out).mono ?_
  rintro e w' ⟨rfl, hw'⟩; have hzy1 := ext_sz hw'; obtain ⟨y1, rfl⟩ := hw'; (try simp at hzy1)
  have cp1 := ext_cell HCP.out y1
  go_wp2_with fail
  go_loopw [17] (fun u17 wr => ∃ i : Nat, i ≤ N ∧ u17 = .int .i64 i ∧ ∃ x, wr = ext W1 x) (fun u17 _ => N - (intOf u17).toNat)
  case atStart => exact ⟨0, Nat.zero_le _, rfl, (ext_mk (by (repeat' (first | (with_reducible first | exact Below.refl _ _ | assumption | refine below_ext _ ?_ ?_ | refine Below.alloc ?_ ?_ _ | refine Below.drew ?_ | refine below_drewN ?_ _ | refine le_drewN _ ?_ | refine Below.setCell ?_ ?_ _ | exact Nat.le_refl _ | refine le_ext _ ?_ | refine le_alloc _ ?_ | refine le_setCell _ _ ?_ | refine le_drew ?_) | omega | (simp; done) | (simp; omega)))))⟩
  case round =>
    obtain ⟨i, hi, rfl, x, rfl⟩ := hrel
    have BX : Below w.heap.size w (ext W1 x) := BW.out.trans (Below.mono (by (repeat' (first | (with_reducible first | exact Below.refl _ _ | assumption | refine below_ext _ ?_ ?_ | refine Below.alloc ?_ ?_ _ | refine Below.drew ?_ | refine below_drewN ?_ _ | refine le_drewN _ ?_ | refine Below.setCell ?_ ?_ _ | exact Nat.le_refl _ | refine le_ext _ ?_ | refine le_alloc _ ?_ | refine le_setCell _ _ ?_ | refine le_drew ?_) | omega | (simp; done) | (simp; omega)))) BW.out.size)
    have zx := ext_size W1 x
    have cpx := ext_cell HCP.out x
    by_cases hlt : i < N
    · obtain ⟨b, o, rfl, hb, c0, c1, c2⟩ := CELL.out i hlt _ BX
      have IIi := hide (II.out i hlt)
      have TNi := hide (TN.out i hlt)
      have CFi := hide (CF.out i hlt)
      have tp := TP.out i hlt
      have d0 : decide (trn (gp ps (gT T i).a) (gp ps (gT T i).b) (gp ps (gT T i).c) ≤ 0) = false := decide_eq_false (by omega)
      have BXH := hide BX
      clear II TN CF TP CELL BX
      generalize trn (gp ps (gT T i).a) (gp ps (gT T i).b) (gp ps (gT T i).c) = D at *
      go_wp2_with fail
      refine (IIi.out _).mono ?_
      rintro e w' ⟨rfl, hw'⟩; have hzy2 := ext_sz hw'; obtain ⟨y2, rfl⟩ := hw'; (try simp at hzy2)
      go_wp2_with fail
      refine (TNi.out _ (BXH.out.trans (Below.mono (by (repeat' (first | (with_reducible first | exact Below.refl _ _ | assumption | refine below_ext _ ?_ ?_ | refine Below.alloc ?_ ?_ _ | refine Below.drew ?_ | refine below_drewN ?_ _ | refine le_drewN _ ?_ | refine Below.setCell ?_ ?_ _ | exact Nat.le_refl _ | refine le_ext _ ?_ | refine le_alloc _ ?_ | refine le_setCell _ _ ?_ | refine le_drew ?_) | omega | (simp; done) | (simp; omega)))) BXH.out.size))).mono ?_
      rintro e w' ⟨rfl, hw'⟩; have hzy3 := ext_sz hw'; obtain ⟨y3, rfl⟩ := hw'; (try simp at hzy3)
      go_wp2_with fail
      have nb := heap_alloc_new (ext W1 x) (.cells #[.int .i64 ((gT T i).a : Int), .int .i64 ((gT T i).b : Int), .int .i64 ((gT T i).c : Int)] 37)
      have b5 : Below ((ext W1 x).alloc (.cells #[.int .i64 ((gT T i).a : Int), .int .i64 ((gT T i).b : Int), .int .i64 ((gT T i).c : Int)] 37)).heap.size ((ext W1 x).alloc (.cells #[.int .i64 ((gT T i).a : Int), .int .i64 ((gT T i).b : Int), .int .i64 ((gT T i).c : Int)] 37)) (ext (ext ((ext W1 x).alloc (.cells #[.int .i64 ((gT T i).a : Int), .int .i64 ((gT T i).b : Int), .int .i64 ((gT T i).c : Int)] 37)) y2) y3) := (by (repeat' (first | (with_reducible first | exact Below.refl _ _ | assumption | refine below_ext _ ?_ ?_ | refine Below.alloc ?_ ?_ _ | refine Below.drew ?_ | refine below_drewN ?_ _ | refine le_drewN _ ?_ | refine Below.setCell ?_ ?_ _ | exact Nat.le_refl _ | refine le_ext _ ?_ | refine le_alloc _ ?_ | refine le_setCell _ _ ?_ | refine le_drew ?_) | omega | (simp; done) | (simp; omega))))
      have nb5 := (b5.block _ (heap_lt nb)).trans nb
      have t0 := heap_cell nb5 0
      have t1 := heap_cell nb5 1
      have t2 := heap_cell nb5 2
      have lnb := heap_lt nb5
      have cp5 := (b5.cell (p := ⟨w.heap.size, 0, none⟩) (by simp; omega)).trans ((World.cell?_alloc_lt (ext W1 x) _ _ (show w.heap.size < (ext W1 x).heap.size by omega)).trans cpx)
      refine (CFi.out _ (BXH.out.trans (Below.mono (by (repeat' (first | (with_reducible first | exact Below.refl _ _ | assumption | refine below_ext _ ?_ ?_ | refine Below.alloc ?_ ?_ _ | refine Below.drew ?_ | refine below_drewN ?_ _ | refine le_drewN _ ?_ | refine Below.setCell ?_ ?_ _ | exact Nat.le_refl _ | refine le_ext _ ?_ | refine le_alloc _ ?_ | refine le_setCell _ _ ?_ | refine le_drew ?_) | omega | (simp; done) | (simp; omega)))) BXH.out.size)) w.heap.size (ext W1 x).heap.size (by omega) lnb cp5 t0 t1 t2).mono ?_
      clear nb b5 nb5 t0 t1 t2 lnb cp5
      rintro e w' ⟨rfl, hw'⟩; have hzy4 := ext_sz hw'; obtain ⟨y4, rfl⟩ := hw'; (try simp at hzy4)
      go_wp2_with fail
      exact ⟨⟨i + 1, by omega, by go_num, (ext_mk (by (repeat' (first | (with_reducible first | exact Below.refl _ _ | assumption | refine below_ext _ ?_ ?_ | refine Below.alloc ?_ ?_ _ | refine Below.drew ?_ | refine below_drewN ?_ _ | refine le_drewN _ ?_ | refine Below.setCell ?_ ?_ _ | exact Nat.le_refl _ | refine le_ext _ ?_ | refine le_alloc _ ?_ | refine le_setCell _ _ ?_ | refine le_drew ?_) | omega | (simp; done) | (simp; omega)))))⟩, by simp [intOf]; omega⟩
    · have : i = N := by omega
      subst this
      go_wp2_with fail
      go_ret
      exact ⟨rfl, ext_mk (BW.out.trans (Below.mono (show Below W1.heap.size W1 _ from (by (repeat' (first | (with_reducible first | exact Below.refl _ _ | assumption | refine below_ext _ ?_ ?_ | refine Below.alloc ?_ ?_ _ | refine Below.drew ?_ | refine below_drewN ?_ _ | refine le_drewN _ ?_ | refine Below.setCell ?_ ?_ _ | exact Nat.le_refl _ | refine le_ext _ ?_ | refine le_alloc _ ?_ | refine le_setCell _ _ ?_ | refine le_drew ?_) | omega | (simp; done) | (simp; omega))))) BW.out.size))⟩
end Go.Proofs.Ytcebmcbglhkkfaa
