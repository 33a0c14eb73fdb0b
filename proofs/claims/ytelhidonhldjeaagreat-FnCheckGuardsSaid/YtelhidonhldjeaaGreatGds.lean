
/- GuardsOf of the program and of the reference. -/
import Derived.Test.YtelhidonhldjeaaGreatColI
import Derived.Test.YtelhidonhldjeaaGreatTrnI
import Derived.Test.YtelhidonhldjeaaGreatGrpM
set_option linter.unusedVariables false
set_option linter.unusedSimpArgs false
namespace Go.Proofs.YtelhidonhldjeaaGreat
open Go.RowKit

/-- The place of the first least among the first ones. -/
def mi (N : Nat → Nat) : Nat → Nat
  | 0 => 0
  | k + 1 => if N (k + 1) < N (mi N k) then k + 1 else mi N k
theorem mi_lt (N : Nat → Nat) : ∀ k, mi N k ≤ k
  | 0 => Nat.le_refl _
  | k + 1 => by
    have := mi_lt N k
    unfold mi
    split <;> omega
theorem mi_yes {N : Nat → Nat} {k : Nat} (h : N (k + 1) < N (mi N k)) : mi N (k + 1) = k + 1 := by
  show (if _ then _ else _) = _
  rw [if_pos h]
theorem mi_no {N : Nat → Nat} {k : Nat} (h : ¬ N (k + 1) < N (mi N k)) : mi N (k + 1) = mi N k := by
  show (if _ then _ else _) = _
  rw [if_neg h]
theorem mi_best {N : Nat → Nat} {F : Nat → List Int} {cs : List Int} (hN : ∀ k, k < 3 → N k = (F k).length) (hF : ∀ k : Nat, k < 3 → F k = grp cs (k : Int)) : F (mi N 2) = bestG cs := by
  have n0 := hN 0 (by omega)
  have n1 := hN 1 (by omega)
  have n2 := hN 2 (by omega)
  have f0 := hF 0 (by omega)
  have f1 := hF 1 (by omega)
  have f2 := hF 2 (by omega)
  have g0 : F 0 = grp cs 0 := f0
  have g1 : F 1 = grp cs 1 := f1
  have g2 : F 2 = grp cs 2 := f2
  unfold bestG pickG
  rw [← g0, ← g1, ← g2]
  by_cases h1 : N 1 < N 0
  · have e1 : mi N 1 = 1 := mi_yes h1
    rw [if_pos (show (F 1).length < (F 0).length by omega)]
    by_cases h2 : N 2 < N 1
    · have e2 : mi N 2 = 2 := mi_yes (by rw [e1]; exact h2)
      rw [e2, if_pos (by omega)]
    · have e2 : mi N 2 = mi N 1 := mi_no (by rw [e1]; exact h2)
      rw [e2, e1, if_neg (by omega)]
  · have e1 : mi N 1 = 0 := mi_no h1
    rw [if_neg (show ¬ (F 1).length < (F 0).length by omega)]
    by_cases h2 : N 2 < N 0
    · have e2 : mi N 2 = 2 := mi_yes (by rw [e1]; exact h2)
      rw [e2, if_pos (by omega)]
    · have e2 : mi N 2 = mi N 1 := mi_no (by rw [e1]; exact h2)
      rw [e2, e1, if_neg (by omega)]
theorem grpK_yes {cs : List Int} {k : Int} {i : Nat} (h : gi cs i = k) : grpK cs k (i + 1) = grpK cs k i ++ [(i : Int)] := by
  show (if _ then _ else _) = _
  rw [if_pos h]
theorem grpK_no {cs : List Int} {k : Int} {i : Nat} (h : gi cs i ≠ k) : grpK cs k (i + 1) = grpK cs k i := by
  show (if _ then _ else _) = _
  rw [if_neg h]

set_option maxRecDepth 20000 in
set_option maxHeartbeats 2000000 in
theorem sGds_any (ps : List Pt) (A : Option Addr) (n c : Nat) (w : World) (hn : ps.length = n) (hm : n ≤ 2000000) (hs : PtsAt w w.heap.size A ps) :
    Calls Tryz.prog 59 #[.slice A n c] w fun e w' => ∃ v, e = .returned v ∧ Own w' w.heap.size v (grdV ps) ∧ ∃ x, w' = ext w x := by
  have HC := hide (validBorder_any ps A n c w hn hm hs)
  by_cases hok : clipB ps = true
  · rw [hok] at HC
    have hck := tri_chk hok
    have HV : Hid (grdV ps = bstG (colL ((triI ps).map toN) n) 3) := hide (by unfold grdV; rw [if_pos hok, hn]; rfl)
    have TR := hide (fun (W : World) (hb : Below w.heap.size w W) => cutEars_any ps A n c W hn hok (hs.to hb))
    obtain ⟨c1, c2, c3, c4, c5⟩ := chk_tri hck
    have CO := hide (fun (Z : Option Addr) (m d : Nat) (W : World) (hlm : (triI ps).length = m) (hz : TrisAt W W.heap.size Z (triI ps)) => colorsOf_any (triI ps) Z m d n W hlm (by have := triI_len hok; omega) (by omega) (by omega) (fun j hj => by rw [← hn]; exact c1 j (by omega)) hz)
    have TC := chk_col hck
    rw [hn] at TC
    have TL : Hid ((colL ((triI ps).map toN) n).length = n) := hide (by rw [TC.len, hn])
    have k20 : n ≤ 20 := by omega
    have k3 : 3 ≤ n := by omega
    rw [HV.out]
    clear hok hck hn hs HV c1 c2 c3 c4 c5 TC
    generalize triI ps = TS at *
    generalize colL (TS.map toN) n = L at *
    have GL : Hid (∀ k : Int, ∀ i, (grpK L k i).length ≤ i) := hide (fun k i => grpK_len L k i)
    have GB : Hid (∀ k : Int, grpK L k n = grp L k) := hide (fun k => by unfold grp; rw [TL.out])
    have BN := hide (bstG_next L)
    go_enter Tryz.func59, Tryz.ntmps59
    go_wp2_with fail
    refine HC.out.mono ?_
    rintro e w' ⟨rfl, hw'⟩; have hzy1 := ext_sz hw'; obtain ⟨y1, rfl⟩ := hw'; (try simp at hzy1)
    go_wp2_with fail
    refine (TR.out _ (by (repeat' (first | (with_reducible first | exact Below.refl _ _ | assumption | refine below_ext _ ?_ ?_ | refine Below.alloc ?_ ?_ _ | refine Below.drew ?_ | refine below_drewN ?_ _ | refine le_drewN _ ?_ | refine Below.setCell ?_ ?_ _ | exact Nat.le_refl _ | refine le_ext _ ?_ | refine le_alloc _ ?_ | refine le_setCell _ _ ?_ | refine le_drew ?_) | omega | (simp; done) | (simp; omega))))).mono ?_
    rintro e w2 ⟨v2, rfl, own2, hx2⟩
    obtain ⟨A2, n2, c2, rfl⟩ := own2.slice
    have R2 := hide own2.tris
    have D2 := ext_bel hx2
    have B2 := hide ((show Below w.heap.size w _ from (by (repeat' (first | (with_reducible first | exact Below.refl _ _ | assumption | refine below_ext _ ?_ ?_ | refine Below.alloc ?_ ?_ _ | refine Below.drew ?_ | refine below_drewN ?_ _ | refine le_drewN _ ?_ | refine Below.setCell ?_ ?_ _ | exact Nat.le_refl _ | refine le_ext _ ?_ | refine le_alloc _ ?_ | refine le_setCell _ _ ?_ | refine le_drew ?_) | omega | (simp; done) | (simp; omega))))).trans (D2.mono (show w.heap.size ≤ _ by omega)))
    clear own2 hx2 D2
    go_wp2_with fail
    refine (CO.out A2 n2 c2 w2 R2.out.1 R2.out.2.2.2).mono ?_
    rintro e w3 ⟨v3, rfl, own3, hx3⟩
    obtain ⟨A3, n3, c3, rfl⟩ := own_slice own3
    have D3 := ext_bel hx3
    have B3 := hide (B2.out.trans (D3.mono B2.out.size))
    have l3 : n3 = n := by rw [← own3.ints.1]; exact TL.out
    subst l3
    have R3 := hide own3.ints.2.2.2
    have LE := hide (fun i (h : i < n3) => (show i < L.length by rw [TL.out]; exact h))
    clear hx3 own3 D3 R2
    obtain ⟨b, o, rfl, hb, hcs⟩ := R3.out (by rw [TL.out]; omega)
    have CEL : Hid (∀ i, i < n3 → w3.cell? ⟨b, o + i, none⟩ = some (.int .i64 (gi L i))) := hide (fun i hi => hcs i (LE.out i hi))
    clear R3 hcs LE TL CO TR
    go_wp2_with fail
    go_loopw [4, 5, 6, 7] (fun u4 u5 _ _ wr => ∃ k : Nat, k ≤ 3 ∧ u5 = .int .i64 k ∧ Own wr w3.heap.size u4 (bstG L k) ∧ Below w3.heap.size w3 wr) (fun _ u5 _ _ _ => 3 - (intOf u5).toNat)
    case atStart => exact ⟨0, by omega, rfl, (Own.empty w3 _ (Nat.le_refl _)), (by (repeat' (first | (with_reducible first | exact Below.refl _ _ | assumption | refine below_ext _ ?_ ?_ | refine Below.alloc ?_ ?_ _ | refine Below.drew ?_ | refine below_drewN ?_ _ | refine le_drewN _ ?_ | refine Below.setCell ?_ ?_ _ | exact Nat.le_refl _ | refine le_ext _ ?_ | refine le_alloc _ ?_ | refine le_setCell _ _ ?_ | refine le_drew ?_) | omega | (simp; done) | (simp; omega))))⟩
    case round =>
      obtain ⟨k, hk, rfl, hown, hbel⟩ := hrel
      obtain ⟨A4, n4, c4, rfl⟩ := own_slice hown
      obtain ⟨W0, hW0⟩ : ∃ W0, W0 = wr := ⟨_, rfl⟩
      subst hW0
      have L4 := hide hown.ints.1
      have OW := hide hown
      have hsz := hbel.size
      by_cases hlt : k < 3
      · have d3 : decide ((k : Int) < 3) = true := decide_eq_true (by omega)
        have NXT := hide (BN.out k)
        have GBk := hide (GB.out (k : Int))
        have CELk : Hid (∀ (W : World) i, Below W0.heap.size W0 W → i < n3 → W.cell? ⟨b, o + i, none⟩ = some (.int .i64 (gi L i))) := hide (fun W i hB hi => ((hbel.trans (hB.mono hsz)).cell (p := ⟨b, o + i, none⟩) hb).trans (CEL.out i hi))
        have EMP := hide (Own.empty W0 W0.heap.size (Nat.le_refl _))
        clear hown CEL BN GB
        go_wp2_with fail
        go_loopw [6, 7] (fun u6 u7 wr => ∃ i : Nat, i ≤ n3 ∧ u7 = .int .i64 i ∧ Own wr W0.heap.size u6 (grpK L (k : Int) i) ∧ Below W0.heap.size W0 wr) (fun _ u7 _ => n3 - (intOf u7).toNat)
        case atStart => exact ⟨0, Nat.zero_le _, rfl, EMP.out, (by (repeat' (first | (with_reducible first | exact Below.refl _ _ | assumption | refine below_ext _ ?_ ?_ | refine Below.alloc ?_ ?_ _ | refine Below.drew ?_ | refine below_drewN ?_ _ | refine le_drewN _ ?_ | refine Below.setCell ?_ ?_ _ | exact Nat.le_refl _ | refine le_ext _ ?_ | refine le_alloc _ ?_ | refine le_setCell _ _ ?_ | refine le_drew ?_) | omega | (simp; done) | (simp; omega))))⟩
        case round =>
          obtain ⟨i, hi, rfl, hown6, hbel2⟩ := hrel
          obtain ⟨A6, n6, c6, rfl⟩ := own_slice hown6
          have hsz2 := hbel2.size
          have O6 := hide hown6
          have L6 := hide hown6.ints.1
          by_cases hli : i < n3
          · have hc1 := CELk.out wr i hbel2 hli
            have NL : (grpK L (k : Int) i).length ≤ 2000000 := by have := GL.out (k : Int) i; omega
            have q1 : (0 : Int) ≤ (i : Int) := by omega
            have q2 : (i : Int) < (n3 : Int) := by omega
            have YE := hide (grpK_yes (cs := L) (k := (k : Int)) (i := i))
            have NO := hide (grpK_no (cs := L) (k := (k : Int)) (i := i))
            clear hown6 L6
            by_cases hg : gi L i = (k : Int)
            · have dg : (gi L i == (k : Int)) = true := by rw [hg]; exact beq_self_eq_true _
              have NX := hide (YE.out hg)
              clear YE NO hg
              generalize gi L i = GI at *
              generalize grpK L (k : Int) i = ZS at *
              go_wp2_with (at_builtin; refine app_one rfl _ _ rfl W0.heap.size (.slice A6 n6 c6) ZS rfl (O6.out.below (by (repeat' (first | (with_reducible first | exact Below.refl _ _ | assumption | refine below_ext _ ?_ ?_ | refine Below.alloc ?_ ?_ _ | refine Below.drew ?_ | refine below_drewN ?_ _ | refine le_drewN _ ?_ | refine Below.setCell ?_ ?_ _ | exact Nat.le_refl _ | refine le_ext _ ?_ | refine le_alloc _ ?_ | refine le_setCell _ _ ?_ | refine le_drew ?_) | omega | (simp; done) | (simp; omega))))) (i : Int) _ _ rfl (by simp [go_sem]) NL (by simp; omega) ?_; intro v7 w7 hown7 hb7 hat7 hgr7; obtain ⟨A7, n7, c7, rfl⟩ := own_slice hown7; have O7 := hide hown7; have B7 := hide (Below.trans (Below.mono (show Below wr.heap.size wr _ from (by (repeat' (first | (with_reducible first | exact Below.refl _ _ | assumption | refine below_ext _ ?_ ?_ | refine Below.alloc ?_ ?_ _ | refine Below.drew ?_ | refine below_drewN ?_ _ | refine le_drewN _ ?_ | refine Below.setCell ?_ ?_ _ | exact Nat.le_refl _ | refine le_ext _ ?_ | refine le_alloc _ ?_ | refine le_setCell _ _ ?_ | refine le_drew ?_) | omega | (simp; done) | (simp; omega))))) hsz2) hb7); clear hown7 hat7 hgr7 hb7)
              exact ⟨⟨i + 1, by omega, by go_num, by rw [NX.out]; exact O7.out, hbel2.trans B7.out⟩, by simp [intOf]; omega⟩
            · have dg : (gi L i == (k : Int)) = false := by rw [beq_eq_false_iff_ne]; exact hg
              have NX := hide (NO.out hg)
              clear YE NO hg
              generalize gi L i = GI at *
              go_wp2_with fail
              exact ⟨⟨i + 1, by omega, by go_num, by rw [NX.out]; exact O6.out, hbel2⟩, by simp [intOf]; omega⟩
          · have ei : i = n3 := by omega
            subst ei
            rw [GBk.out] at L6 O6
            have BB := hide (hbel.trans (hbel2.mono hsz))
            clear hown6 CELk GL
            by_cases hz : k = 0
            · have dz : ((k : Int) == 0) = true := by rw [hz]; rfl
              rw [if_pos (Or.inl hz)] at NXT
              clear hz
              go_wp2_with fail
              exact ⟨⟨k + 1, by omega, by go_num, by rw [NXT.out]; exact O6.out.base hsz, BB.out⟩, by simp [intOf]; omega⟩
            · have dz : ((k : Int) == 0) = false := by rw [beq_eq_false_iff_ne]; omega
              by_cases hl : n6 < n4
              · have dl : decide ((n6 : Int) < (n4 : Int)) = true := decide_eq_true (by omega)
                rw [if_pos (Or.inr (by rw [L6.out, L4.out]; exact hl))] at NXT
                clear hz
                go_wp2_with fail
                exact ⟨⟨k + 1, by omega, by go_num, by rw [NXT.out]; exact O6.out.base hsz, BB.out⟩, by simp [intOf]; omega⟩
              · have dl : decide ((n6 : Int) < (n4 : Int)) = false := decide_eq_false (by omega)
                rw [if_neg (by rw [L6.out, L4.out]; omega)] at NXT
                clear hz
                go_wp2_with fail
                exact ⟨⟨k + 1, by omega, by go_num, by rw [NXT.out]; exact OW.out.below hbel2, BB.out⟩, by simp [intOf]; omega⟩
      · have ek : k = 3 := by omega
        have d3 : decide ((k : Int) < 3) = false := decide_eq_false (by omega)
        have OF : Hid (Own W0 w.heap.size (.slice A4 n4 c4) (bstG L 3)) := hide (by rw [← ek]; exact OW.out.base B3.out.size)
        clear ek hown
        go_wp2_with fail
        go_ret
        exact ⟨_, rfl, OF.out, ext_mk (B3.out.trans (hbel.mono B3.out.size))⟩
  · have hok := eq_false_of_ne_true hok
    rw [hok] at HC
    have HV : Hid (grdV ps = []) := hide (if_neg (by rw [hok]; decide))
    rw [HV.out]
    clear hok hs hn HV
    go_enter Tryz.func59, Tryz.ntmps59
    go_wp2_with fail
    refine HC.out.mono ?_
    rintro e w' ⟨rfl, hw'⟩; have hzy1 := ext_sz hw'; obtain ⟨y1, rfl⟩ := hw'; (try simp at hzy1)
    go_wp2_with fail
    go_ret
    exact ⟨_, rfl, Own.nil _ _, (ext_mk (by (repeat' (first | (with_reducible first | exact Below.refl _ _ | assumption | refine below_ext _ ?_ ?_ | refine Below.alloc ?_ ?_ _ | refine Below.drew ?_ | refine below_drewN ?_ _ | refine le_drewN _ ?_ | refine Below.setCell ?_ ?_ _ | exact Nat.le_refl _ | refine le_ext _ ?_ | refine le_alloc _ ?_ | refine le_setCell _ _ ?_ | refine le_drew ?_) | omega | (simp; done) | (simp; omega)))))⟩
theorem grdV_len (ps : List Pt) : (grdV ps).length ≤ 1000 := by
  have h := grdV_third ps
  unfold grdV at h ⊢
  split
  · rename_i hok
    rw [if_pos hok] at h
    obtain ⟨_, _, h20, _⟩ := simB_parts (clipB_sim hok)
    omega
  · simp
end Go.Proofs.YtelhidonhldjeaaGreat
