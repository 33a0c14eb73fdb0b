
/- Where a point lies of a simple polygon: the reference's. -/
import Derived.Test.YtcebmcbglhkkfaaLoc
import Derived.Test.YtcebmcbglhkkfaaTri
import Derived.Test.YtcebmcbglhkkfaaSeg
import Derived.Test.YtcebmcbglhkkfaaSimS
set_option linter.unusedVariables false
set_option linter.unusedSimpArgs false
namespace Go.Proofs.Ytcebmcbglhkkfaa
open Go.RowKit

theorem inK_pm (ps : List Pt) (q : Pt) (k : Nat) : inK ps q k = 1 ∨ inK ps q k = -1 := by unfold inK; split <;> simp
set_option maxRecDepth 20000 in
set_option maxHeartbeats 4000000 in
theorem sLoc_any (ps : List Pt) (x y : Int) (A : Option Addr) (n c : Nat) (w : World) (hn : ps.length = n) (hm : n ≤ 1000) (hib : ∀ p ∈ ps, (-100000 ≤ p.x ∧ p.x ≤ 100000) ∧ (-100000 ≤ p.y ∧ p.y ≤ 100000)) (hq : (-100000 ≤ x ∧ x ≤ 100000) ∧ -100000 ≤ y ∧ y ≤ 100000) (hs : PtsAt w w.heap.size A ps) :
    Calls Try.prog 43 #[.slice A n c, .agg #[.int .i64 x, .int .i64 y]] w fun e w' => e = .returned (.int .i64 (locI ps ⟨x, y⟩)) ∧ ∃ x, w' = ext w x := by
  have EO := hide (fun (j : Nat) (hj : j < n) (W : World) (hb : Below w.heap.size w W) => edgeOf_any ps j A n c W hn (by omega) hj (hs.to hb))
  have HN := hide hn
  have BI : Hid (∀ i, i < n → (-100000 ≤ (gp ps i).x ∧ (gp ps i).x ≤ 100000) ∧ (-100000 ≤ (gp ps i).y ∧ (gp ps i).y ≤ 100000)) := hide (fun i hi => hib _ (gp_mem (by omega)))
  have L0 : Hid (∀ i, i < n → onSeg (gp ps i) (gp ps ((i + 1) % n)) ⟨x, y⟩ = true → locI ps ⟨x, y⟩ = 0) := hide (fun i hi h => locI_on (j := i) (by omega) (by rw [hn]; exact h))
  have L1 : Hid ((∀ i, i < n → onSeg (gp ps i) (gp ps ((i + 1) % n)) ⟨x, y⟩ = false) → locI ps ⟨x, y⟩ = inK ps ⟨x, y⟩ n) := hide (fun h => by rw [locI_in (fun j hj => by rw [hn]; exact h j (by omega)), hn])
  have UP : Hid (∀ i, ¬ (gp ps ((i + 1) % n)).y < (gp ps i).y → inK ps ⟨x, y⟩ (i + 1) = if (gp ps i).y ≤ y ∧ y < (gp ps ((i + 1) % n)).y ∧ 0 < trn (gp ps i) (gp ps ((i + 1) % n)) ⟨x, y⟩ then -inK ps ⟨x, y⟩ i else inK ps ⟨x, y⟩ i) := hide (fun i h => by
    have := cw_up_ne (q := ⟨x, y⟩) h
    subst hn
    split
    · rename_i hc; exact inK_flip (this.2 hc)
    · rename_i hc; exact inK_same (Classical.byContradiction fun hh => hc (this.1 hh)))
  have DN : Hid (∀ i, (gp ps ((i + 1) % n)).y < (gp ps i).y → inK ps ⟨x, y⟩ (i + 1) = if (gp ps ((i + 1) % n)).y ≤ y ∧ y < (gp ps i).y ∧ 0 < trn (gp ps ((i + 1) % n)) (gp ps i) ⟨x, y⟩ then -inK ps ⟨x, y⟩ i else inK ps ⟨x, y⟩ i) := hide (fun i h => by
    have := cw_dn_ne (q := ⟨x, y⟩) h
    subst hn
    split
    · rename_i hc; exact inK_flip (this.2 hc)
    · rename_i hc; exact inK_same (Classical.byContradiction fun hh => hc (this.1 hh)))
  have PM := hide (inK_pm ps ⟨x, y⟩)
  have I0 : Hid (decide (inK ps ⟨x, y⟩ 0 = 1) = false) := hide rfl
  clear hn hs hib
  go_enter Try.func43, Try.ntmps43
  go_wp2_with fail
  have B5 := hide (show Below w.heap.size w (w.alloc (.cells #[.int .i64 x, .int .i64 y] 31)) from (by (repeat' (first | (with_reducible first | exact Below.refl _ _ | assumption | refine below_ext _ ?_ ?_ | refine Below.alloc ?_ ?_ _ | refine Below.drew ?_ | refine below_drewN ?_ _ | refine le_drewN _ ?_ | refine Below.setCell ?_ ?_ _ | exact Nat.le_refl _ | refine le_ext _ ?_ | refine le_alloc _ ?_ | refine le_setCell _ _ ?_ | refine le_drew ?_) | omega | (simp; done) | (simp; omega)))))
  have BX := hide (heap_alloc_new w (.cells #[.int .i64 x, .int .i64 y] 31))
  have hwb : w.heap.size + 1 ≤ (w.alloc (.cells #[.int .i64 x, .int .i64 y] 31)).heap.size := by simp
  generalize w.alloc (.cells #[.int .i64 x, .int .i64 y] 31) = W5 at *
  rw [← I0.out]
  go_loopw [5, 6] (fun u5 u6 wr => ∃ i : Nat, i ≤ n ∧ u6 = .int .i64 i ∧ u5 = .bool (decide (inK ps ⟨x, y⟩ i = 1)) ∧ Hid (∀ j, j < i → onSeg (gp ps j) (gp ps ((j + 1) % n)) ⟨x, y⟩ = false) ∧ Below W5.heap.size W5 wr) (fun _ u6 _ => n - (intOf u6).toNat)
  case atStart => exact ⟨0, Nat.zero_le _, rfl, rfl, hide (fun j hj => by omega), Below.refl _ _⟩
  case round =>
    obtain ⟨i, hi, rfl, rfl, HF, hbel⟩ := hrel
    have hsz := hbel.size
    have bx := (hbel.block w.heap.size (by omega)).trans BX.out
    have x0 := heap_cell bx 0
    have x1 := heap_cell bx 1
    simp at x0 x1
    clear bx
    by_cases hlt : i < n
    · have hil : (i + 1) % n < n := Nat.mod_lt _ (by omega)
      obtain ⟨⟨p1, p2⟩, p3, p4⟩ := BI.out i hlt
      obtain ⟨⟨p5, p6⟩, p7, p8⟩ := BI.out _ hil
      have pmi := PM.out i
      have EOi := hide (fun W hb => EO.out i hlt W hb)
      have UPi := hide (UP.out i)
      have DNi := hide (DN.out i)
      have LZ := hide (L0.out i hlt)
      have NF : Hid (onSeg (gp ps i) (gp ps ((i + 1) % n)) ⟨x, y⟩ = false → ∀ j, j < i + 1 → onSeg (gp ps j) (gp ps ((j + 1) % n)) ⟨x, y⟩ = false) := hide (fun h j hj => by
        by_cases e : j = i
        · rw [e]; exact h
        · exact HF.out j (by omega))
      have HA := hide (fun W => sonSeg_any (gp ps i).x (gp ps i).y (gp ps ((i + 1) % n)).x (gp ps ((i + 1) % n)).y x y W (by omega) (by omega) (by omega) (by omega) (by omega) (by omega))
      have TU := hide (fun W => scross_any (gp ps i).x (gp ps i).y (gp ps ((i + 1) % n)).x (gp ps ((i + 1) % n)).y x y W ⟨p1, p2⟩ ⟨p3, p4⟩ ⟨p5, p6⟩ ⟨p7, p8⟩ (by omega) (by omega))
      have TU2 := hide (fun W => scross_any (gp ps ((i + 1) % n)).x (gp ps ((i + 1) % n)).y (gp ps i).x (gp ps i).y x y W ⟨p5, p6⟩ ⟨p7, p8⟩ ⟨p1, p2⟩ ⟨p3, p4⟩ (by omega) (by omega))
      have TV : Hid (((gp ps ((i + 1) % n)).x - (gp ps i).x) * (y - (gp ps i).y) - ((gp ps ((i + 1) % n)).y - (gp ps i).y) * (x - (gp ps i).x) = trn (gp ps i) (gp ps ((i + 1) % n)) ⟨x, y⟩) := hide rfl
      have TV2 : Hid (((gp ps i).x - (gp ps ((i + 1) % n)).x) * (y - (gp ps ((i + 1) % n)).y) - ((gp ps i).y - (gp ps ((i + 1) % n)).y) * (x - (gp ps ((i + 1) % n)).x) = trn (gp ps ((i + 1) % n)) (gp ps i) ⟨x, y⟩) := hide rfl
      have PE1 : Hid (onSeg ⟨(gp ps i).x, (gp ps i).y⟩ ⟨(gp ps ((i + 1) % n)).x, (gp ps ((i + 1) % n)).y⟩ ⟨x, y⟩ = onSeg (gp ps i) (gp ps ((i + 1) % n)) ⟨x, y⟩) := hide rfl
      rw [TV.out] at TU
      rw [TV2.out] at TU2
      rw [PE1.out] at HA
      clear hil p1 p2 p3 p4 p5 p6 p7 p8 TV TV2 PE1
      generalize trn (gp ps i) (gp ps ((i + 1) % n)) ⟨x, y⟩ = T at *
      generalize trn (gp ps ((i + 1) % n)) (gp ps i) ⟨x, y⟩ = T2 at *
      generalize onSeg (gp ps i) (gp ps ((i + 1) % n)) ⟨x, y⟩ = ON at *
      generalize (gp ps i).x = X1 at *
      generalize (gp ps i).y = Y1 at *
      generalize (gp ps ((i + 1) % n)).x = X2 at *
      generalize (gp ps ((i + 1) % n)).y = Y2 at *
      have FS : Hid (inK ps ⟨x, y⟩ (i + 1) = inK ps ⟨x, y⟩ i → decide (inK ps ⟨x, y⟩ (i + 1) = 1) = decide (inK ps ⟨x, y⟩ i = 1)) := hide (fun h => by rw [h])
      have FF : Hid (inK ps ⟨x, y⟩ (i + 1) = -inK ps ⟨x, y⟩ i → decide (inK ps ⟨x, y⟩ (i + 1) = 1) = !decide (inK ps ⟨x, y⟩ i = 1)) := hide (fun h => by rw [h]; rcases pmi with e | e <;> rw [e] <;> rfl)
      clear pmi
      generalize decide (inK ps ⟨x, y⟩ i = 1) = LV at *
      go_wp2_with fail
      refine (EOi.out _ (B5.out.trans (hbel.mono B5.out.size))).mono ?_
      rintro e w' ⟨rfl, hw'⟩; have hzy7 := ext_sz hw'; obtain ⟨y7, rfl⟩ := hw'; (try simp at hzy7)
      go_wp2_with fail
      refine (HA.out _).mono ?_
      rintro e w' ⟨rfl, hw'⟩; have hzy8 := ext_sz hw'; obtain ⟨y8, rfl⟩ := hw'; (try simp at hzy8)
      cases hON : ON
      · subst hON
        have NFo := hide (NF.out rfl)
        clear NF LZ HA EOi
        by_cases hY : Y2 < Y1
        · have dY : decide (Y2 < Y1) = true := decide_eq_true hY
          have DNo := DNi.out hY
          clear DNi UPi UP DN TU hY
          by_cases k1 : Y2 ≤ y
          · have d1 : decide (Y2 ≤ y) = true := decide_eq_true k1
            by_cases k2 : y < Y1
            · have d2 : decide (y < Y1) = true := decide_eq_true k2
              by_cases k3 : 0 < T2
              · have d3 : decide (0 < T2) = true := decide_eq_true k3
                rw [if_pos ⟨k1, k2, k3⟩] at DNo
                have DNo := hide (FF.out DNo)
                clear k1 k2 k3
                go_wp2_with fail
                refine (TU2.out _).mono ?_
                rintro e w' ⟨rfl, hw'⟩; have hzy9 := ext_sz hw'; obtain ⟨y9, rfl⟩ := hw'; (try simp at hzy9)
                go_wp2_with fail
                exact ⟨⟨i + 1, by omega, by go_num, by rw [DNo.out], hide NFo.out, hbel.trans (by (repeat' (first | (with_reducible first | exact Below.refl _ _ | assumption | refine below_ext _ ?_ ?_ | refine Below.alloc ?_ ?_ _ | refine Below.drew ?_ | refine below_drewN ?_ _ | refine le_drewN _ ?_ | refine Below.setCell ?_ ?_ _ | exact Nat.le_refl _ | refine le_ext _ ?_ | refine le_alloc _ ?_ | refine le_setCell _ _ ?_ | refine le_drew ?_) | omega | (simp; done) | (simp; omega))))⟩, by simp [intOf]; omega⟩
              · have d3 : decide (0 < T2) = false := decide_eq_false k3
                rw [if_neg (fun h => k3 h.2.2)] at DNo
                have DNo := hide (FS.out DNo)
                clear k1 k2 k3
                go_wp2_with fail
                refine (TU2.out _).mono ?_
                rintro e w' ⟨rfl, hw'⟩; have hzy9 := ext_sz hw'; obtain ⟨y9, rfl⟩ := hw'; (try simp at hzy9)
                go_wp2_with fail
                exact ⟨⟨i + 1, by omega, by go_num, by rw [DNo.out], hide NFo.out, hbel.trans (by (repeat' (first | (with_reducible first | exact Below.refl _ _ | assumption | refine below_ext _ ?_ ?_ | refine Below.alloc ?_ ?_ _ | refine Below.drew ?_ | refine below_drewN ?_ _ | refine le_drewN _ ?_ | refine Below.setCell ?_ ?_ _ | exact Nat.le_refl _ | refine le_ext _ ?_ | refine le_alloc _ ?_ | refine le_setCell _ _ ?_ | refine le_drew ?_) | omega | (simp; done) | (simp; omega))))⟩, by simp [intOf]; omega⟩
            · have d2 : decide (y < Y1) = false := decide_eq_false k2
              rw [if_neg (fun h => k2 h.2.1)] at DNo
              have DNo := hide (FS.out DNo)
              clear k1 k2
              go_wp2_with fail
              exact ⟨⟨i + 1, by omega, by go_num, by rw [DNo.out], hide NFo.out, hbel.trans (by (repeat' (first | (with_reducible first | exact Below.refl _ _ | assumption | refine below_ext _ ?_ ?_ | refine Below.alloc ?_ ?_ _ | refine Below.drew ?_ | refine below_drewN ?_ _ | refine le_drewN _ ?_ | refine Below.setCell ?_ ?_ _ | exact Nat.le_refl _ | refine le_ext _ ?_ | refine le_alloc _ ?_ | refine le_setCell _ _ ?_ | refine le_drew ?_) | omega | (simp; done) | (simp; omega))))⟩, by simp [intOf]; omega⟩
          · have d1 : decide (Y2 ≤ y) = false := decide_eq_false k1
            rw [if_neg (fun h => k1 h.1)] at DNo
            have DNo := hide (FS.out DNo)
            clear k1
            go_wp2_with fail
            exact ⟨⟨i + 1, by omega, by go_num, by rw [DNo.out], hide NFo.out, hbel.trans (by (repeat' (first | (with_reducible first | exact Below.refl _ _ | assumption | refine below_ext _ ?_ ?_ | refine Below.alloc ?_ ?_ _ | refine Below.drew ?_ | refine below_drewN ?_ _ | refine le_drewN _ ?_ | refine Below.setCell ?_ ?_ _ | exact Nat.le_refl _ | refine le_ext _ ?_ | refine le_alloc _ ?_ | refine le_setCell _ _ ?_ | refine le_drew ?_) | omega | (simp; done) | (simp; omega))))⟩, by simp [intOf]; omega⟩
        · have dY : decide (Y2 < Y1) = false := decide_eq_false hY
          have UPo := UPi.out (by omega)
          clear DNi UPi UP DN TU2 hY
          by_cases k1 : Y1 ≤ y
          · have d1 : decide (Y1 ≤ y) = true := decide_eq_true k1
            by_cases k2 : y < Y2
            · have d2 : decide (y < Y2) = true := decide_eq_true k2
              by_cases k3 : 0 < T
              · have d3 : decide (0 < T) = true := decide_eq_true k3
                rw [if_pos ⟨k1, k2, k3⟩] at UPo
                have UPo := hide (FF.out UPo)
                clear k1 k2 k3
                go_wp2_with fail
                refine (TU.out _).mono ?_
                rintro e w' ⟨rfl, hw'⟩; have hzy9 := ext_sz hw'; obtain ⟨y9, rfl⟩ := hw'; (try simp at hzy9)
                go_wp2_with fail
                exact ⟨⟨i + 1, by omega, by go_num, by rw [UPo.out], hide NFo.out, hbel.trans (by (repeat' (first | (with_reducible first | exact Below.refl _ _ | assumption | refine below_ext _ ?_ ?_ | refine Below.alloc ?_ ?_ _ | refine Below.drew ?_ | refine below_drewN ?_ _ | refine le_drewN _ ?_ | refine Below.setCell ?_ ?_ _ | exact Nat.le_refl _ | refine le_ext _ ?_ | refine le_alloc _ ?_ | refine le_setCell _ _ ?_ | refine le_drew ?_) | omega | (simp; done) | (simp; omega))))⟩, by simp [intOf]; omega⟩
              · have d3 : decide (0 < T) = false := decide_eq_false k3
                rw [if_neg (fun h => k3 h.2.2)] at UPo
                have UPo := hide (FS.out UPo)
                clear k1 k2 k3
                go_wp2_with fail
                refine (TU.out _).mono ?_
                rintro e w' ⟨rfl, hw'⟩; have hzy9 := ext_sz hw'; obtain ⟨y9, rfl⟩ := hw'; (try simp at hzy9)
                go_wp2_with fail
                exact ⟨⟨i + 1, by omega, by go_num, by rw [UPo.out], hide NFo.out, hbel.trans (by (repeat' (first | (with_reducible first | exact Below.refl _ _ | assumption | refine below_ext _ ?_ ?_ | refine Below.alloc ?_ ?_ _ | refine Below.drew ?_ | refine below_drewN ?_ _ | refine le_drewN _ ?_ | refine Below.setCell ?_ ?_ _ | exact Nat.le_refl _ | refine le_ext _ ?_ | refine le_alloc _ ?_ | refine le_setCell _ _ ?_ | refine le_drew ?_) | omega | (simp; done) | (simp; omega))))⟩, by simp [intOf]; omega⟩
            · have d2 : decide (y < Y2) = false := decide_eq_false k2
              rw [if_neg (fun h => k2 h.2.1)] at UPo
              have UPo := hide (FS.out UPo)
              clear k1 k2
              go_wp2_with fail
              exact ⟨⟨i + 1, by omega, by go_num, by rw [UPo.out], hide NFo.out, hbel.trans (by (repeat' (first | (with_reducible first | exact Below.refl _ _ | assumption | refine below_ext _ ?_ ?_ | refine Below.alloc ?_ ?_ _ | refine Below.drew ?_ | refine below_drewN ?_ _ | refine le_drewN _ ?_ | refine Below.setCell ?_ ?_ _ | exact Nat.le_refl _ | refine le_ext _ ?_ | refine le_alloc _ ?_ | refine le_setCell _ _ ?_ | refine le_drew ?_) | omega | (simp; done) | (simp; omega))))⟩, by simp [intOf]; omega⟩
          · have d1 : decide (Y1 ≤ y) = false := decide_eq_false k1
            rw [if_neg (fun h => k1 h.1)] at UPo
            have UPo := hide (FS.out UPo)
            clear k1
            go_wp2_with fail
            exact ⟨⟨i + 1, by omega, by go_num, by rw [UPo.out], hide NFo.out, hbel.trans (by (repeat' (first | (with_reducible first | exact Below.refl _ _ | assumption | refine below_ext _ ?_ ?_ | refine Below.alloc ?_ ?_ _ | refine Below.drew ?_ | refine below_drewN ?_ _ | refine le_drewN _ ?_ | refine Below.setCell ?_ ?_ _ | exact Nat.le_refl _ | refine le_ext _ ?_ | refine le_alloc _ ?_ | refine le_setCell _ _ ?_ | refine le_drew ?_) | omega | (simp; done) | (simp; omega))))⟩, by simp [intOf]; omega⟩
      · subst hON
        have LZo := hide (LZ.out rfl)
        clear NF LZ HA UP DN UPi DNi TU TU2 EOi FS FF
        go_wp2_with fail
        go_ret
        exact ⟨ret_int LZo.out.symm, ext_mk (B5.out.trans ((hbel.trans (by (repeat' (first | (with_reducible first | exact Below.refl _ _ | assumption | refine below_ext _ ?_ ?_ | refine Below.alloc ?_ ?_ _ | refine Below.drew ?_ | refine below_drewN ?_ _ | refine le_drewN _ ?_ | refine Below.setCell ?_ ?_ _ | exact Nat.le_refl _ | refine le_ext _ ?_ | refine le_alloc _ ?_ | refine le_setCell _ _ ?_ | refine le_drew ?_) | omega | (simp; done) | (simp; omega))))).mono B5.out.size))⟩
    · have hin' : i = n := by omega
      subst hin'
      have HV := hide (L1.out HF.out)
      rcases PM.out i with pe | pe
      · have dV : decide (inK ps ⟨x, y⟩ i = 1) = true := decide_eq_true pe
        have HV := hide (HV.out.trans pe)
        clear pe
        generalize decide (inK ps ⟨x, y⟩ i = 1) = LV at *
        subst dV
        go_wp2_with fail
        go_ret
        exact ⟨ret_int HV.out.symm, ext_mk (B5.out.trans (hbel.mono B5.out.size))⟩
      · have dV : decide (inK ps ⟨x, y⟩ i = 1) = false := decide_eq_false (by omega)
        have HV := hide (HV.out.trans pe)
        clear pe
        generalize decide (inK ps ⟨x, y⟩ i = 1) = LV at *
        subst dV
        go_wp2_with fail
        go_ret
        exact ⟨ret_int HV.out.symm, ext_mk (B5.out.trans (hbel.mono B5.out.size))⟩
end Go.Proofs.Ytcebmcbglhkkfaa
