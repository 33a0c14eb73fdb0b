
/- FnGuardsOf: the law's walk. -/
import Derived.Test.YtkkmioffclpmfaaGreatGds
import Derived.Test.YtkkmioffclpmfaaGreatGrd
import Derived.Test.YtkkmioffclpmfaaGreatDrawA
import Derived.Test.YtkkmioffclpmfaaGreatEqI
set_option linter.unusedVariables false
set_option linter.unusedSimpArgs false
namespace Go.Proofs.YtkkmioffclpmfaaGreat
open Go.RowKit

theorem hasN_mem {gs : List Int} {x : Int} (h : x ∈ gs) : hasN gs x = true := by
  obtain ⟨i, hi, rfl⟩ := List.getElem_of_mem h
  unfold hasN
  exact any_range_yes hi (by rw [gi_lt hi]; exact beq_self_eq_true _)
theorem grd_all {ps : List Pt} {ts : List TI} {gs : List Int} (h : chkT ps ts = true) (hin : ∀ x ∈ gs, 0 ≤ x ∧ x ≤ (ps.length : Int) - 1) (hs : ∀ j, j < ts.length → (gt ts j).a ∈ gs ∨ (gt ts j).b ∈ gs ∨ (gt ts j).c ∈ gs) : grdB ps ts gs = true := by
  have e1 : (List.range gs.length).any (fun i => !inN ps.length (gi gs i)) = false := any_range_no fun i hi => by
    have := hin _ (show gi gs i ∈ gs by rw [gi_lt hi]; exact List.getElem_mem hi)
    unfold inN
    rw [decide_eq_true this.1, decide_eq_true this.2]; rfl
  have e2 : (List.range ts.length).any (fun j => !seenB gs (gt ts j)) = false := any_range_no fun j hj => by
    unfold seenB
    rcases hs j hj with e | e | e
    · rw [hasN_mem e]; rfl
    · rw [hasN_mem e]; simp
    · rw [hasN_mem e]; simp
  unfold grdB
  rw [h, e1, e2]; rfl
theorem grdV_ok {ps : List Pt} (h : grdV ps ≠ []) : clipB ps = true ∧ grdB ps (triI ps) (grdV ps) = true := by
  have hok : clipB ps = true := by
    rw [← Bool.not_eq_false]
    intro hh
    exact h (by unfold grdV; rw [if_neg (by rw [hh]; decide)])
  refine ⟨hok, ?_⟩
  have hT := chk_col (tri_chk hok)
  unfold grdV
  rw [if_pos hok]
  obtain ⟨k, k0, k2, e⟩ := bestG_is (colL ((triI ps).map toN) ps.length)
  rw [e]
  exact grd_all (tri_chk hok) (fun x hx => grp_in hT hx) (fun j hj => grp_sees hT ⟨k0, k2⟩ hj)
set_option maxRecDepth 20000 in
set_option maxHeartbeats 4000000 in
theorem lawGds (n c : Nat) (A : Option Addr) (w : World) (hn : n ≤ c) (hc : c ≤ 9223372036854775807) (hA : BytesAt w w.heap.size A n) :
    Calls Tryz.prog 9 #[.slice A n c] w fun e w' => e = .returned (.bool true) ∧ Below w.heap.size w w' := by
  by_cases hle : n ≤ 1048576
  · have hd : decide ((1048576 : Int) < (n : Int)) = false := decide_eq_false (by omega)
    go_enter Tryz.func9, Tryz.ntmps9
    go_wp2_with fail
    refine (drawGrd_any n c A _ hn hc hA).mono ?_
    rintro e w1 ⟨v1, ps, rfl, o1, lp, cbp, B1⟩
    obtain ⟨A1, n1, c1, rfl⟩ := o1.slice
    have h1 := hide o1.pts.1
    have P1 := hide o1.pts.2.2.2
    have F1 := hide o1.form.1
    have k1 : n1 ≤ 9 := by have := h1.out; omega
    have IE := hide (fun (W : World) (hb : Below w1.heap.size w1 W) => iGds_any ps A1 n1 c1 W h1.out (by omega) F1.out (P1.out.to hb))
    have SE := hide (fun (W : World) (hb : Below w1.heap.size w1 W) => sGds_any ps A1 n1 c1 W h1.out (by omega) (P1.out.to hb))
    have IT := hide (fun (W : World) (hb : Below w1.heap.size w1 W) => iTri_any ps A1 n1 c1 W h1.out (by omega) F1.out (P1.out.to hb))
    have CK := hide (fun (Z G : Option Addr) (m d k e : Nat) (W : World) (hb : Below w1.heap.size w1 W) (ts : List TI) (gs : List Int) (ht : ts.length = m) (hm2 : m ≤ 2000000) (hg : gs.length = k) (hm3 : k ≤ 2000000) (hz : TrisAt W W.heap.size Z ts) (hgs : IntsAt W W.heap.size G gs) => iGrd_any ps ts gs A1 Z G n1 c1 m d k e W h1.out (by omega) F1.out ht hm2 hg hm3 (P1.out.to hb) hz hgs)
    have s1 := B1.size
    have EV := hide (grdV_ok (ps := ps))
    have TH : Hid ((grdV ps).length * 3 ≤ n1) := hide (by rw [← h1.out]; exact grdV_third ps)
    have TV : Hid (clipB ps = true → triV ps = triI ps) := hide (fun h => if_pos h)
    have TL := hide (triV_len ps)
    clear o1 hA cbp
    generalize hL : grdV ps = L at *
    clear hL
    go_wp2_with fail
    refine (IE.out _ (by (repeat' (first | (with_reducible first | exact Below.refl _ _ | assumption | refine below_ext _ ?_ ?_ | refine Below.alloc ?_ ?_ _ | refine Below.drew ?_ | refine below_drewN ?_ _ | refine le_drewN _ ?_ | refine Below.setCell ?_ ?_ _ | exact Nat.le_refl _ | refine le_ext _ ?_ | refine le_alloc _ ?_ | refine le_setCell _ _ ?_ | refine le_drew ?_) | omega | (simp; done) | (simp; omega))))).mono ?_
    rintro e w2 ⟨A2, n2, rfl, l2, q2, r2, hx2⟩
    have D2 := hide (ext_bel hx2)
    have R2 := hide r2.ints
    have L2 := hide l2
    have th : n2 * 3 ≤ n1 := by have := TH.out; have := L2.out; omega
    clear hx2 r2 IE l2 TH
    go_wp2_with fail
    refine (SE.out _ D2.out).mono ?_
    rintro e w3 ⟨v3, rfl, own3, hx3⟩
    obtain ⟨A3, n3, c3, rfl⟩ := own_slice own3
    have l3 := own3.ints.1
    have R3 := hide own3.ints.2.2.2
    have E3 := hide (ext_bel hx3)
    have D3 := hide (D2.out.trans (E3.out.mono D2.out.size))
    clear hx3 own3
    go_wp2_with fail
    refine (equalInts_any L L _ _ _ _ _ _ _ L2.out l3 (by omega) (by have := L2.out; omega) (R2.out.to E3.out) R3.out).mono ?_
    rintro e w4 ⟨rfl, hx4⟩
    have dt : decide (L = L) = true := decide_eq_true rfl
    have E4 := hide (ext_bel hx4)
    have D4 := hide (D3.out.trans (E4.out.mono D3.out.size))
    have R4 := hide ((R2.out.to E3.out).to E4.out)
    clear hx4 R3 l3 R2
    by_cases h0 : n2 = 0
    · have d0 : ((n2 : Int) == 0) = true := by rw [h0]; rfl
      clear h0
      go_wp2_with fail
      refine (SE.out _ D4.out).mono ?_
      rintro e w5 ⟨v5, rfl, own5, hx5⟩
      obtain ⟨A5, n5, c5, rfl⟩ := own_slice own5
      have l5 := own5.ints.1
      have R5 := hide own5.ints.2.2.2
      have E5 := hide (ext_bel hx5)
      have D5 := hide (D4.out.trans (E5.out.mono D4.out.size))
      clear hx5 own5
      go_wp2_with fail
      refine (equalInts_any L L _ _ _ _ _ _ _ L2.out l5 (by omega) (by have := L2.out; omega) (R4.out.to E5.out) R5.out).mono ?_
      rintro e w6 ⟨rfl, hx6⟩
      have D6 := hide (D5.out.trans ((ext_bel hx6).mono D5.out.size))
      clear hx6
      go_wp2_with fail
      go_ret
      exact ⟨rfl, B1.trans (D6.out.mono s1)⟩
    · have d0 : ((n2 : Int) == 0) = false := by rw [beq_eq_false_iff_ne]; omega
      obtain ⟨hok, hgb⟩ := EV.out (fun e => h0 (by have := L2.out; rw [e] at this; simp at this; omega))
      have TE := hide (TV.out hok)
      rw [← TE.out] at hgb
      have GB := hide hgb
      have td : Int.tdiv (n1 : Int) 3 = ((n1 / 3 : Nat) : Int) := (Int.ofNat_tdiv n1 3).symm
      have tw : IntKind.i64.wrap ((n1 / 3 : Nat) : Int) = ((n1 / 3 : Nat) : Int) := IntWalk.i64_in _ (by omega)
      have dd : decide ((n2 : Int) ≤ ((n1 / 3 : Nat) : Int)) = true := decide_eq_true (by omega)
      clear EV h0 SE F1 TV hok hgb TE
      generalize triV ps = TS at *
      go_wp2_with fail
      refine (IT.out _ D4.out).mono ?_
      rintro e w5 ⟨v5, rfl, own5, hx5⟩
      obtain ⟨Z5, m5, d5, rfl⟩ := own5.slice
      have R5 := hide own5.tris
      have E5 := hide (ext_bel hx5)
      have D5 := hide (D4.out.trans (E5.out.mono D4.out.size))
      clear hx5 own5
      have CK5 := CK.out Z5 A2 m5 d5 n2 n2 w5 D5.out TS L R5.out.1 (by have := R5.out.1; have := TL.out; omega) L2.out (by omega) R5.out.2.2.2 (R4.out.to E5.out)
      rw [GB.out] at CK5
      clear CK
      go_wp2_with fail
      refine CK5.mono ?_
      rintro e w6 ⟨rfl, hx6⟩
      have D6 := hide (D5.out.trans ((ext_bel hx6).mono D5.out.size))
      clear hx6
      go_wp2_with fail
      go_ret
      exact ⟨rfl, B1.trans (D6.out.mono s1)⟩
  · skip
    have hd : decide ((1048576 : Int) < (n : Int)) = true := decide_eq_true (by omega)
    go_enter Tryz.func9, Tryz.ntmps9
    go_wp2
    go_ret
    exact ⟨rfl, (by (repeat' (first | (with_reducible first | exact Below.refl _ _ | assumption | refine below_ext _ ?_ ?_ | refine Below.alloc ?_ ?_ _ | refine Below.drew ?_ | refine below_drewN ?_ _ | refine le_drewN _ ?_ | refine Below.setCell ?_ ?_ _ | exact Nat.le_refl _ | refine le_ext _ ?_ | refine le_alloc _ ?_ | refine le_setCell _ _ ?_ | refine le_drew ?_) | omega | (simp; done) | (simp; omega))))⟩
end Go.Proofs.YtkkmioffclpmfaaGreat
