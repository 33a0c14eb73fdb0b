
/- Accepted triangles are inside: plain. -/
import Derived.Test.YtcebmcbglhkkfaaSideM
set_option linter.unusedVariables false
set_option linter.unusedSimpArgs false
namespace Go.Proofs.Ytcebmcbglhkkfaa
open Go.RowKit

/-! ### one triangle -/
def cwT (a b c x : Pt) : Int := cw a b x + cw b c x + cw c a x
theorem bary_y (a b c x : Pt) : trn b c x * (a.y - x.y) + trn c a x * (b.y - x.y) + trn a b x * (c.y - x.y) = 0 := by unfold trn; grind
theorem bary_1 (a b c x : Pt) : trn b c x + trn c a x + trn a b x = trn a b c := by unfold trn; grind
theorem key1 {α β γ u v w : Int} (h : α * u + β * v + γ * w = 0) (hs : 0 < α + β + γ) : 0 < u ∨ 0 < w ∨ v ≤ 0 ∨ 0 ≤ α ∨ 0 < γ := by
  refine Classical.byContradiction fun hn => ?_
  have h1 := Int.mul_nonneg_of_nonpos_of_nonpos (a := α) (b := u) (by omega) (by omega)
  have h2 := Int.mul_nonneg_of_nonpos_of_nonpos (a := γ) (b := w) (by omega) (by omega)
  have h3 : β * v ≤ 0 := by omega
  have h4 : β ≤ 0 := Classical.byContradiction fun hb => by
    have := Int.mul_pos (show 0 < β by omega) (show 0 < v by omega)
    omega
  omega
theorem key2 {α β γ u v w : Int} (h : α * u + β * v + γ * w = 0) (hs : 0 < α + β + γ) : 0 < w ∨ u ≤ 0 ∨ v ≤ 0 ∨ 0 ≤ α ∨ 0 < β := by
  refine Classical.byContradiction fun hn => ?_
  have h1 := Int.mul_neg_of_neg_of_pos (show α < 0 by omega) (show 0 < u by omega)
  have h2 := Int.mul_nonpos_of_nonpos_of_nonneg (show β ≤ 0 by omega) (show 0 ≤ v by omega)
  have h3 : 0 < γ * w := by omega
  have h4 : γ < 0 := Classical.byContradiction fun hb => by
    have := Int.mul_nonpos_of_nonneg_of_nonpos (show 0 ≤ γ by omega) (show w ≤ 0 by omega)
    omega
  omega
theorem key3 {α β γ u v w : Int} (h : α * u + β * v + γ * w = 0) : 0 < u ∨ 0 < w ∨ v ≤ 0 ∨ α < 0 ∨ γ < 0 ∨ 0 ≤ β := by
  refine Classical.byContradiction fun hn => ?_
  have h1 := Int.mul_nonpos_of_nonneg_of_nonpos (show 0 ≤ α by omega) (show u ≤ 0 by omega)
  have h2 := Int.mul_nonpos_of_nonneg_of_nonpos (show 0 ≤ γ by omega) (show w ≤ 0 by omega)
  have h3 := Int.mul_neg_of_neg_of_pos (show β < 0 by omega) (show 0 < v by omega)
  omega
theorem key4 {α β γ u v w : Int} (h : α * u + β * v + γ * w = 0) : 0 < w ∨ u ≤ 0 ∨ v ≤ 0 ∨ α < 0 ∨ β ≤ 0 ∨ 0 ≤ γ := by
  refine Classical.byContradiction fun hn => ?_
  have h1 := Int.mul_nonneg (show 0 ≤ α by omega) (show 0 ≤ u by omega)
  have h2 := Int.mul_pos (show 0 < β by omega) (show 0 < v by omega)
  have h3 := Int.mul_nonneg_of_nonpos_of_nonpos (a := γ) (b := w) (by omega) (by omega)
  omega
theorem rot1 {α β γ u v w : Int} (h : α * u + β * v + γ * w = 0) : β * v + γ * w + α * u = 0 := by omega
theorem flp1 {α β γ u v w : Int} (h : α * u + β * v + γ * w = 0) : γ * w + β * v + α * u = 0 := by omega
set_option maxHeartbeats 1000000 in
theorem cwT_01 {a b c : Pt} (h : 0 < trn a b c) (x : Pt) : cwT a b c x = 0 ∨ cwT a b c x = 1 := by
  have hb := bary_y a b c x
  have hs := bary_1 a b c x
  unfold cwT cw
  generalize trn b c x = α at *
  generalize trn c a x = β at *
  generalize trn a b x = γ at *
  by_cases ha : a.y ≤ x.y <;> by_cases hB : b.y ≤ x.y <;> by_cases hc : c.y ≤ x.y
  · clear hb; ((repeat' split) <;> omega)
  · have f := key1 (rot1 hb) (by omega)
    have f : 0 ≤ β ∨ 0 < α := by omega
    clear hb; ((repeat' split) <;> omega)
  · have f := key1 hb (by omega)
    have f : 0 ≤ α ∨ 0 < γ := by omega
    clear hb; ((repeat' split) <;> omega)
  · have f := key2 (rot1 hb) (by omega)
    have f : 0 ≤ β ∨ 0 < γ := by omega
    clear hb; ((repeat' split) <;> omega)
  · have f := key1 (rot1 (rot1 hb)) (by omega)
    have f : 0 ≤ γ ∨ 0 < β := by omega
    clear hb; ((repeat' split) <;> omega)
  · have f := key2 (rot1 (rot1 hb)) (by omega)
    have f : 0 ≤ γ ∨ 0 < α := by omega
    clear hb; ((repeat' split) <;> omega)
  · have f := key2 hb (by omega)
    have f : 0 ≤ α ∨ 0 < β := by omega
    clear hb; ((repeat' split) <;> omega)
  · clear hb; ((repeat' split) <;> omega)
set_option maxHeartbeats 1000000 in
theorem cwT_in {a b c : Pt} (h : 0 < trn a b c) {x : Pt} (h1 : cwT a b c x = 1) : 0 ≤ trn b c x ∧ 0 ≤ trn c a x ∧ 0 ≤ trn a b x := by
  have hb := bary_y a b c x
  have hs := bary_1 a b c x
  unfold cwT cw at h1
  generalize trn b c x = α at *
  generalize trn c a x = β at *
  generalize trn a b x = γ at *
  by_cases ha : a.y ≤ x.y <;> by_cases hB : b.y ≤ x.y <;> by_cases hc : c.y ≤ x.y
  · clear hb; ((repeat' split at h1) <;> omega)
  · have f := key1 (rot1 hb) (by omega)
    have f : 0 ≤ β ∨ 0 < α := by omega
    have k := key3 (rot1 hb)
    have k : β < 0 ∨ α < 0 ∨ 0 ≤ γ := by omega
    clear hb; ((repeat' split at h1) <;> omega)
  · have f := key1 hb (by omega)
    have f : 0 ≤ α ∨ 0 < γ := by omega
    have k := key3 hb
    have k : α < 0 ∨ γ < 0 ∨ 0 ≤ β := by omega
    clear hb; ((repeat' split at h1) <;> omega)
  · have f := key2 (rot1 hb) (by omega)
    have f : 0 ≤ β ∨ 0 < γ := by omega
    have k := key4 (rot1 hb)
    have k : β < 0 ∨ γ ≤ 0 ∨ 0 ≤ α := by omega
    clear hb; ((repeat' split at h1) <;> omega)
  · have f := key1 (rot1 (rot1 hb)) (by omega)
    have f : 0 ≤ γ ∨ 0 < β := by omega
    have k := key3 (rot1 (rot1 hb))
    have k : γ < 0 ∨ β < 0 ∨ 0 ≤ α := by omega
    clear hb; ((repeat' split at h1) <;> omega)
  · have f := key2 (rot1 (rot1 hb)) (by omega)
    have f : 0 ≤ γ ∨ 0 < α := by omega
    have k := key4 (rot1 (rot1 hb))
    have k : γ < 0 ∨ α ≤ 0 ∨ 0 ≤ β := by omega
    clear hb; ((repeat' split at h1) <;> omega)
  · have f := key2 hb (by omega)
    have f : 0 ≤ α ∨ 0 < β := by omega
    have k := key4 hb
    have k : α < 0 ∨ β ≤ 0 ∨ 0 ≤ γ := by omega
    clear hb; ((repeat' split at h1) <;> omega)
  · clear hb; ((repeat' split at h1) <;> omega)
theorem cwT_yes {a b c x : Pt} (h1 : 0 < trn b c x) (h2 : 0 < trn c a x) (h3 : 0 < trn a b x) : cwT a b c x = 1 := by
  have hb := bary_y a b c x
  have hs := bary_1 a b c x
  have hne : ¬ (a.y ≤ x.y ∧ b.y ≤ x.y ∧ c.y ≤ x.y) := fun ⟨ha, hB, hc⟩ => by
    have m1 := Int.mul_nonpos_of_nonneg_of_nonpos (show 0 ≤ trn b c x by omega) (show a.y - x.y ≤ 0 by omega)
    have m2 := Int.mul_nonpos_of_nonneg_of_nonpos (show 0 ≤ trn c a x by omega) (show b.y - x.y ≤ 0 by omega)
    have m3 := Int.mul_nonpos_of_nonneg_of_nonpos (show 0 ≤ trn a b x by omega) (show c.y - x.y ≤ 0 by omega)
    have z1 := (Int.mul_eq_zero.1 (show trn b c x * (a.y - x.y) = 0 by omega)).resolve_left (by omega)
    have z2 := (Int.mul_eq_zero.1 (show trn c a x * (b.y - x.y) = 0 by omega)).resolve_left (by omega)
    have z3 := (Int.mul_eq_zero.1 (show trn a b x * (c.y - x.y) = 0 by omega)).resolve_left (by omega)
    have e : trn a b x = 0 := by
      unfold trn
      rw [show b.y - a.y = 0 by omega, show x.y - a.y = 0 by omega]; simp
    omega
  have hne2 : ¬ (x.y < a.y ∧ x.y < b.y ∧ x.y < c.y) := fun ⟨ha, hB, hc⟩ => by
    have m1 := Int.mul_pos h1 (show 0 < a.y - x.y by omega)
    have m2 := Int.mul_pos h2 (show 0 < b.y - x.y by omega)
    have m3 := Int.mul_pos h3 (show 0 < c.y - x.y by omega)
    omega
  clear hb
  unfold cwT cw
  generalize trn b c x = α at *
  generalize trn c a x = β at *
  generalize trn a b x = γ at *
  by_cases ha : a.y ≤ x.y <;> by_cases hB : b.y ≤ x.y <;> by_cases hc : c.y ≤ x.y
  all_goals (repeat' split) <;> omega
/-- A point on a side's line, within the triangle, lies on the side. -/
theorem side_on {a b c x : Pt} (h : 0 < trn a b c) (h1 : 0 ≤ trn b c x) (h2 : 0 ≤ trn c a x) (h3 : trn a b x = 0) : onSeg a b x = true := by
  have hs := bary_1 a b c x
  unfold onSeg
  rw [Bool.and_eq_true, decide_eq_true_eq, decide_eq_true_eq]
  refine ⟨h3, ?_⟩
  have x1 : trn a b c * (a.x - x.x) = trn c a x * (a.x - b.x) + trn a b x * (a.x - c.x) := by unfold trn; grind
  have y1 : trn a b c * (a.y - x.y) = trn c a x * (a.y - b.y) + trn a b x * (a.y - c.y) := by unfold trn; grind
  have x2 : trn a b c * (b.x - x.x) = trn b c x * (b.x - a.x) + trn a b x * (b.x - c.x) := by unfold trn; grind
  have y2 : trn a b c * (b.y - x.y) = trn b c x * (b.y - a.y) + trn a b x * (b.y - c.y) := by unfold trn; grind
  rw [h3] at x1 y1 x2 y2
  have q : (trn a b c * (a.x - x.x)) * (trn a b c * (b.x - x.x)) + (trn a b c * (a.y - x.y)) * (trn a b c * (b.y - x.y)) = -(trn b c x * trn c a x * ((a.x - b.x) * (a.x - b.x) + (a.y - b.y) * (a.y - b.y))) := by
    rw [x1, y1, x2, y2]; grind
  have p1 := Int.mul_nonneg (Int.mul_nonneg h1 h2) (Int.add_nonneg (sq_nonneg' (a.x - b.x)) (sq_nonneg' (a.y - b.y)))
  refine Classical.byContradiction fun hn => ?_
  have p2 := Int.mul_pos (Int.mul_pos h h) (show 0 < (a.x - x.x) * (b.x - x.x) + (a.y - x.y) * (b.y - x.y) by omega)
  have q2 : trn a b c * trn a b c * ((a.x - x.x) * (b.x - x.x) + (a.y - x.y) * (b.y - x.y)) = (trn a b c * (a.x - x.x)) * (trn a b c * (b.x - x.x)) + (trn a b c * (a.y - x.y)) * (trn a b c * (b.y - x.y)) := by grind
  omega
/-! ### rings -/
theorem wn_cut {ps : List Pt} {rs : List Nat} (h : RingOk ps rs) (h4 : 4 ≤ rs.length) {k : Nat} (hk : k < rs.length) (x : Pt) : wn (rpt ps rs) x = cwT (gp ps (bef rs k)) (gp ps (gn rs k)) (gp ps (aft rs k)) x + wn (rpt ps (rs.eraseIdx k)) x := by
  obtain ⟨p1, p2⟩ := pred_ex hk
  have p3 : ((k + rs.length - 1) % rs.length + 2) % rs.length = (k + 1) % rs.length := by rw [← mod2, p2]
  have p4 : (k + 1) % rs.length < rs.length := Nat.mod_lt _ (by omega)
  have rl := rpt_len ps rs
  have A := (sgn_sum (ps := rpt ps rs) (i := (k + rs.length - 1) % rs.length) (d := 2) (k := (k + 1) % rs.length) (by rw [rl]; exact p1) (by rw [rl]; omega) (by rw [rl]; exact p3) (by rw [rl]; exact p4)).2 x
  rw [wn_sum (arc (rpt ps rs) ((k + rs.length - 1) % rs.length) 2), tri_sums _ (by rw [rl]; exact p1), rl, p2, p3, gp_rpt ps p1, gp_rpt ps hk, gp_rpt ps p4] at A
  have ha : (arc (rpt ps rs) ((k + 1) % rs.length) (rs.length - 2)).length = rs.length - 1 := by rw [arc_len]; omega
  rw [ear_arc h h4 hk, wn_sum (rotP _ _), edge_rot _ (by rw [ha]; exact Nat.mod_lt _ (by omega)), ← wn_sum, A]; rfl
theorem wn_three {ps : List Pt} {rs : List Nat} (h3 : rs.length = 3) (x : Pt) : wn (rpt ps rs) x = cwT (gp ps (gn rs 0)) (gp ps (gn rs 1)) (gp ps (gn rs 2)) x := by
  have e3 : rpt ps rs = [gp ps (gn rs 0), gp ps (gn rs 1), gp ps (gn rs 2)] := by
    have := three_list h3
    unfold rpt
    generalize e0 : gn rs 0 = x0 at *
    generalize e1 : gn rs 1 = x1 at *
    generalize e2 : gn rs 2 = x2 at *
    rw [this]; rfl
  rw [e3]
  generalize gp ps (gn rs 0) = p0
  generalize gp ps (gn rs 1) = p1
  generalize gp ps (gn rs 2) = p2
  unfold wn cwT
  simp [sumN, gp]
theorem lft_three {ps : List Pt} {rs : List Nat} (h : RingOk ps rs) (h3 : rs.length = 3) : 0 < trn (gp ps (gn rs 0)) (gp ps (gn rs 1)) (gp ps (gn rs 2)) := by
  have := sgn_ok _ _ rfl h.sim
  unfold SgnOk at this
  have := h.lft
  have e := area_three (ps := ps) h3
  have : trnT ps (lastT rs) = trn (gp ps (gn rs 0)) (gp ps (gn rs 1)) (gp ps (gn rs 2)) := rfl
  omega
theorem scP_1 (p : Pt) : scP 1 p = p := by unfold scP; simp
/-- Off the edges a point is inside once or not at all. -/
theorem wn_off {ps : List Pt} {x : Pt} : ∀ (f : Nat) (rs : List Nat), RingOk ps rs → rs.length = f + 3 → (∀ a b, Fol rs a b → onSeg (gp ps a) (gp ps b) x = false) → wn (rpt ps rs) x = 0 ∨ wn (rpt ps rs) x = 1
  | 0, rs, h, hl, ho => by
    rw [wn_three hl]
    exact cwT_01 (lft_three h hl) x
  | f + 1, rs, h, hl, ho => by
    obtain ⟨e1, e2, _⟩ := fEar_ok h (by omega)
    have h4 : 4 ≤ rs.length := by omega
    obtain ⟨c1, c2⟩ := cutR_ok h h4
    obtain ⟨cv, ci⟩ := ear_inn h h4 e1 e2
    obtain ⟨F1, F2, F3, F4, F5⟩ := fol_cut h.nodup h4 e1
    have hE := (ear_iff h e1).1 e2
    have Fb : Fol rs (bef rs (fEar ps rs)) (gn rs (fEar ps rs)) := Fol.bef_ e1
    have Fa : Fol rs (gn rs (fEar ps rs)) (aft rs (fEar ps rs)) := Fol.at_ e1
    have ht : 0 < trn (gp ps (bef rs (fEar ps rs))) (gp ps (gn rs (fEar ps rs))) (gp ps (aft rs (fEar ps rs))) := by
      have := e2
      unfold earB at this
      rw [Bool.and_eq_true, decide_eq_true_eq] at this
      exact this.1
    have C := wn_cut h h4 e1 x
    by_cases hon : onSeg (gp ps (aft rs (fEar ps rs))) (gp ps (bef rs (fEar ps rs))) x = true
    · right
      have := ci 1 (scP 1 x) (by omega) (by rw [onSeg_sc (by omega)]; exact hon) (fun e => by
        rw [scP_1, scP_1] at e
        have := ho _ _ Fa
        rw [e, onSeg_end2] at this; cases this) (fun e => by
        rw [scP_1, scP_1] at e
        have := ho _ _ Fb
        rw [e, onSeg_end1] at this; cases this)
      rw [wn_sc (by omega)] at this
      exact this
    · have IH := wn_off f (cutR ps rs) c1 (by omega) (fun a b hf => by
        by_cases ea : a = bef rs (fEar ps rs)
        · subst ea
          rw [Fol.only c1.nodup hf F3, onSeg_swap]
          exact eq_false_of_ne_true hon
        · exact ho _ _ (F2 a b hf ea))
      have IH : wn (rpt ps (rs.eraseIdx (fEar ps rs))) x = 0 ∨ wn (rpt ps (rs.eraseIdx (fEar ps rs))) x = 1 := IH
      rcases cwT_01 ht x with hT | hT
      · rw [hT] at C; omega
      · right
        obtain ⟨i1, i2, i3⟩ := cwT_in ht hT
        have rl := rpt_len ps rs
        obtain ⟨p1, p2⟩ := pred_ex e1
        have p3 : ((fEar ps rs + rs.length - 1) % rs.length + 2) % rs.length = (fEar ps rs + 1) % rs.length := by rw [← mod2, p2]
        have p4 : (fEar ps rs + 1) % rs.length < rs.length := Nat.mod_lt _ (by omega)
        have n3 : trn (gp ps (bef rs (fEar ps rs))) (gp ps (gn rs (fEar ps rs))) x ≠ 0 := fun e => by
          have := ho _ _ Fb
          rw [side_on ht i1 i2 e] at this; cases this
        have n1 : trn (gp ps (gn rs (fEar ps rs))) (gp ps (aft rs (fEar ps rs))) x ≠ 0 := fun e => by
          have := ho _ _ Fa
          rw [side_on (c := gp ps (bef rs (fEar ps rs))) (by rw [trn_r1]; exact ht) i2 i3 e] at this; cases this
        have S := ear_see h.sim (i := (fEar ps rs + rs.length - 1) % rs.length) (by rw [rl]; exact p1) hE (x := x) (fun j hj e => by
          rw [rl] at hj
          rw [gp_rpt ps hj] at e
          have := ho _ _ (Fol.at_ hj)
          rw [e, onSeg_end1] at this; cases this) (by
          rw [rl, p2, p3, gp_rpt ps p1, gp_rpt ps e1, gp_rpt ps p4]; exact ⟨i3, i1, i2⟩) (by
          rw [rl, p2, gp_rpt ps p1, gp_rpt ps e1]
          show 0 < trn (gp ps (bef rs (fEar ps rs))) (gp ps (gn rs (fEar ps rs))) x
          omega) (by
          rw [rl, p2, p3, gp_rpt ps e1, gp_rpt ps p4]
          show 0 < trn (gp ps (gn rs (fEar ps rs))) (gp ps (aft rs (fEar ps rs))) x
          omega) (fun j hj => by
          rw [rl] at hj ⊢
          rw [gp_rpt ps hj, gp_rpt ps (Nat.mod_lt _ (by omega))]
          exact ho _ _ (Fol.at_ hj))
        rw [S, h.lft]
/-! ### a point a little aside -/
theorem pts_bd (ps : List Pt) : ∃ B : Int, 0 ≤ B ∧ ∀ p ∈ ps, -B ≤ p.x ∧ p.x ≤ B ∧ -B ≤ p.y ∧ p.y ≤ B := by
  induction ps with
  | nil => exact ⟨0, by omega, fun p h => by cases h⟩
  | cons p ps ih =>
    obtain ⟨B, h0, hB⟩ := ih
    refine ⟨B + p.x.natAbs + p.y.natAbs, by omega, fun q hq => ?_⟩
    rcases List.mem_cons.1 hq with rfl | hq
    · omega
    · have := hB q hq; omega
theorem ite_two {p q r s : Prop} [Decidable p] [Decidable q] [Decidable r] [Decidable s] (h1 : p ↔ q) (h2 : r ↔ s) : (if p then (1 : Int) else if r then -1 else 0) = if q then 1 else if s then -1 else 0 := by
  by_cases hq : q
  · rw [if_pos (h1.2 hq), if_pos hq]
  · rw [if_neg (fun h => hq (h1.1 h)), if_neg hq]
    by_cases hs : s
    · rw [if_pos (h2.2 hs), if_pos hs]
    · rw [if_neg (fun h => hs (h2.1 h)), if_neg hs]
theorem shift_cw {B P M : Int} (h0 : 0 ≤ B) (hP : P = 2 * B + 1) (hM : M = 2 * B + 2 * B * P + 2) {a b x : Pt} (ha : -B ≤ a.x ∧ a.x ≤ B ∧ -B ≤ a.y ∧ a.y ≤ B) (hb : -B ≤ b.x ∧ b.x ≤ B ∧ -B ≤ b.y ∧ b.y ≤ B) :
    cw (scP M a) (scP M b) ⟨M * x.x + P, M * x.y + 1⟩ = cw a b x ∧ (a ≠ b → onSeg (scP M a) (scP M b) ⟨M * x.x + P, M * x.y + 1⟩ = false) := by
  have hBP : 0 ≤ B * P := Int.mul_nonneg h0 (by omega)
  have hBP2 : 2 * B * P = 2 * (B * P) := by rw [Int.mul_assoc]
  have hM2 : 2 ≤ M := by omega
  have et : trn (scP M a) (scP M b) ⟨M * x.x + P, M * x.y + 1⟩ = M * (M * trn a b x + ((b.x - a.x) - (b.y - a.y) * P)) := by unfold trn scP; grind
  have s1 : b.y - a.y ≤ 2 * B := by omega
  have s2 : -(2 * B) ≤ b.y - a.y := by omega
  have d1 : (b.y - a.y) * P ≤ 2 * B * P := Int.mul_le_mul_of_nonneg_right s1 (by omega)
  have d2 : -(2 * B) * P ≤ (b.y - a.y) * P := Int.mul_le_mul_of_nonneg_right s2 (by omega)
  have d3 : -(2 * B) * P = -(2 * B * P) := by rw [Int.neg_mul]
  have up : a.y < b.y → P ≤ (b.y - a.y) * P := fun h => by
    have := Int.mul_le_mul_of_nonneg_right (show 1 ≤ b.y - a.y by omega) (show 0 ≤ P by omega)
    omega
  have dn : b.y < a.y → (b.y - a.y) * P ≤ -P := fun h => by
    have := Int.mul_le_mul_of_nonneg_right (show b.y - a.y ≤ -1 by omega) (show 0 ≤ P by omega)
    omega
  have eq0 : b.y = a.y → (b.y - a.y) * P = 0 := fun h => by rw [h]; simp
  generalize (b.y - a.y) * P = dP at *
  have tp : 0 < trn a b x → M ≤ M * trn a b x := fun h => by
    have := Int.mul_le_mul_of_nonneg_left (show 1 ≤ trn a b x by omega) (show 0 ≤ M by omega)
    omega
  have tn : trn a b x < 0 → M * trn a b x ≤ -M := fun h => by
    have := Int.mul_le_mul_of_nonneg_left (show trn a b x ≤ -1 by omega) (show 0 ≤ M by omega)
    omega
  have tz : trn a b x = 0 → M * trn a b x = 0 := fun h => by rw [h]; simp
  have sg : ∀ s : Int, (0 < M * s ↔ 0 < s) ∧ (M * s < 0 ↔ s < 0) := fun s => by
    rcases Int.lt_trichotomy s 0 with h | h | h
    · have := Int.mul_neg_of_pos_of_neg (show 0 < M by omega) h; omega
    · rw [h]; simp
    · have := Int.mul_pos (show 0 < M by omega) h; omega
  have my : ∀ u v : Int, (M * u ≤ M * v + 1 ↔ u ≤ v) ∧ (M * v + 1 < M * u ↔ v < u) := fun u v => by
    by_cases h : u ≤ v
    · have := Int.mul_le_mul_of_nonneg_left h (show 0 ≤ M by omega); omega
    · have := Int.mul_le_mul_of_nonneg_left (show v + 1 ≤ u by omega) (show 0 ≤ M by omega)
      rw [Int.mul_add] at this
      omega
  have key : (a.y < b.y → (0 < trn a b x ↔ 0 < M * trn a b x + ((b.x - a.x) - dP)) ∧ M * trn a b x + ((b.x - a.x) - dP) ≠ 0) ∧ (b.y < a.y → (trn a b x < 0 ↔ M * trn a b x + ((b.x - a.x) - dP) < 0) ∧ M * trn a b x + ((b.x - a.x) - dP) ≠ 0) ∧ (b.y = a.y → b.x ≠ a.x → M * trn a b x + ((b.x - a.x) - dP) ≠ 0) := by
    rcases Int.lt_trichotomy (trn a b x) 0 with h | h | h
    · have := tn h
      refine ⟨fun hh => ?_, fun hh => ?_, fun hh hx => ?_⟩
      · have := up hh; omega
      · have := dn hh; omega
      · have := eq0 hh; omega
    · have := tz h
      refine ⟨fun hh => ?_, fun hh => ?_, fun hh hx => ?_⟩
      · have := up hh; omega
      · have := dn hh; omega
      · have := eq0 hh; omega
    · have := tp h
      refine ⟨fun hh => ?_, fun hh => ?_, fun hh hx => ?_⟩
      · have := up hh; omega
      · have := dn hh; omega
      · have := eq0 hh; omega
  generalize M * trn a b x + ((b.x - a.x) - dP) = S at *
  constructor
  · unfold cw
    rw [et]
    show (if M * a.y ≤ M * x.y + 1 ∧ M * x.y + 1 < M * b.y ∧ 0 < M * S then (1 : Int) else if M * b.y ≤ M * x.y + 1 ∧ M * x.y + 1 < M * a.y ∧ M * S < 0 then -1 else 0) = _
    refine ite_two ?_ ?_
    · rw [(my _ _).1, (my _ _).2, (sg _).1]
      exact ⟨fun h => ⟨h.1, h.2.1, ((key.1 (by omega)).1).2 h.2.2⟩, fun h => ⟨h.1, h.2.1, ((key.1 (by omega)).1).1 h.2.2⟩⟩
    · rw [(my _ _).1, (my _ _).2, (sg _).2]
      exact ⟨fun h => ⟨h.1, h.2.1, ((key.2.1 (by omega)).1).2 h.2.2⟩, fun h => ⟨h.1, h.2.1, ((key.2.1 (by omega)).1).1 h.2.2⟩⟩
  · intro hab
    refine on_no ?_
    rw [et]
    have hS : S ≠ 0 := by
      rcases Int.lt_trichotomy a.y b.y with h | h | h
      · exact (key.1 h).2
      · refine key.2.2 h.symm fun e => hab ?_
        cases a; cases b
        simp only at h e
        rw [h, e]
      · exact (key.2.1 h).2
    exact fun h => by rcases Int.mul_eq_zero.1 h with h | h <;> omega
theorem rpt_sc (K : Int) (ps : List Pt) (rs : List Nat) : rpt (ps.map (scP K)) rs = (rpt ps rs).map (scP K) := by
  unfold rpt
  rw [List.map_map]
  exact List.map_congr_left fun i _ => gp_sc K ps i
theorem ring_sc {K : Int} (hK : 0 < K) {ps : List Pt} {rs : List Nat} (h : RingOk ps rs) : RingOk (ps.map (scP K)) rs :=
  ⟨h.nodup, fun i hi => by rw [List.length_map]; exact h.lt i hi, by rw [rpt_sc]; exact sim_sc hK h.sim, by rw [rpt_sc, Lft_sc hK]; exact h.lft⟩
/-- Each point is inside once or not at all. -/
theorem wn_01 {ps : List Pt} {rs : List Nat} (h : RingOk ps rs) (x : Pt) : wn (rpt ps rs) x = 0 ∨ wn (rpt ps rs) x = 1 := by
  obtain ⟨B, h0, hB⟩ := pts_bd ps
  have h3 := h.three
  have S := fun {i j : Nat} (hi : i < ps.length) (hj : j < ps.length) => shift_cw (B := B) (P := 2 * B + 1) (M := 2 * B + 2 * B * (2 * B + 1) + 2) (x := x) h0 rfl rfl (hB _ (gp_mem hi)) (hB _ (gp_mem hj))
  have hM : 0 < 2 * B + 2 * B * (2 * B + 1) + 2 := by
    have := Int.mul_nonneg (show 0 ≤ 2 * B by omega) (show 0 ≤ 2 * B + 1 by omega)
    omega
  generalize 2 * B + 2 * B * (2 * B + 1) + 2 = M at *
  generalize 2 * B + 1 = P at *
  have hr := ring_sc hM h
  have W := wn_off (x := ⟨M * x.x + P, M * x.y + 1⟩) (rs.length - 3) rs hr (by omega) (fun a b hf => by
    rw [gp_sc, gp_sc]
    refine (S (h.lt a hf.mem.1) (h.lt b hf.mem.2)).2 (ring_ne h hf.mem.1 hf.mem.2 fun e => ?_)
    subst e
    obtain ⟨j, hj, e1, e2⟩ := hf
    have : (j + 1) % rs.length = j := gn_inj h.nodup (Nat.mod_lt _ (by omega)) hj (e2.trans e1.symm)
    have mj := mod_next hj
    split at mj <;> omega)
  have e : wn (rpt (ps.map (scP M)) rs) ⟨M * x.x + P, M * x.y + 1⟩ = wn (rpt ps rs) x := by
    unfold wn
    rw [rpt_len, rpt_len]
    refine sumN_congr fun k hk => ?_
    rw [gp_rpt _ hk, gp_rpt _ (Nat.mod_lt _ (by omega)), gp_rpt _ hk, gp_rpt _ (Nat.mod_lt _ (by omega)), gp_sc, gp_sc]
    exact (S (h.at_lt hk) (h.at_lt (Nat.mod_lt _ (by omega)))).1
  rw [e] at W
  exact W
/-! ### sums over triangles -/
def sumF (F : Nat → Nat → Int) : List Tri3 → Int
  | [] => 0
  | t :: T => (F t.a t.b + F t.b t.c + F t.c t.a) + sumF F T
theorem side_F {n : Nat} {t : Tri3} (h : TriOk n t) (F : Nat → Nat → Int) : sumN (fun i => sumN (fun k => (if sideB t i k = true then (1 : Int) else 0) * F i k) n) n = F t.a t.b + F t.b t.c + F t.c t.a := by
  obtain ⟨a1, a2, a3, d1, d2, d3⟩ := h
  have e1 : ∀ i k, (if sideB t i k = true then (1 : Int) else 0) * F i k = (if k = t.b then (if i = t.a then F t.a t.b else 0) else 0) + (if k = t.c then (if i = t.b then F t.b t.c else 0) else 0) + (if k = t.a then (if i = t.c then F t.c t.a else 0) else 0) := fun i k => by
    by_cases hs : sideB t i k = true
    · rw [if_pos hs, Int.one_mul]
      rcases sideB_iff.1 hs with ⟨x, y⟩ | ⟨x, y⟩ | ⟨x, y⟩ <;> subst x <;> subst y
      · rw [if_pos rfl, if_pos rfl, if_neg (by omega), if_neg (by omega)]; omega
      · rw [if_neg (by omega), if_pos rfl, if_pos rfl, if_neg (by omega)]; omega
      · rw [if_neg (by omega), if_neg (by omega), if_pos rfl, if_pos rfl]; omega
    · rw [if_neg hs, Int.zero_mul]
      rw [sideB_iff] at hs
      by_cases x : k = t.b
      · rw [if_pos x, if_neg (by omega), if_neg (by omega), if_neg (by omega)]; rfl
      · by_cases y : k = t.c
        · rw [if_neg x, if_pos y, if_neg (by omega), if_neg (by omega)]; rfl
        · rw [if_neg x, if_neg y]
          by_cases z : k = t.a
          · rw [if_pos z, if_neg (by omega)]; rfl
          · rw [if_neg z]; rfl
  have e2 : ∀ i, sumN (fun k => (if sideB t i k = true then (1 : Int) else 0) * F i k) n = (if i = t.a then F t.a t.b else 0) + (if i = t.b then F t.b t.c else 0) + (if i = t.c then F t.c t.a else 0) := fun i => by
    rw [sumN_congr (fun k _ => e1 i k), sumN_add, sumN_add, sumN_one, sumN_one, sumN_one, if_pos a2, if_pos a3, if_pos a1]
  rw [sumN_congr (fun i _ => e2 i), sumN_add, sumN_add, sumN_one, sumN_one, sumN_one, if_pos a1, if_pos a2, if_pos a3]
theorem sumF_sides {n : Nat} (F : Nat → Nat → Int) : ∀ {T : List Tri3}, (∀ t ∈ T, TriOk n t) → sumN (fun i => sumN (fun k => (cntS T i k : Int) * F i k) n) n = sumF F T
  | [], _ => by
    rw [sumN_zero]; rfl
    intro i _
    exact sumN_zero fun k _ => by rw [show cntS [] i k = 0 from rfl]; simp
  | t :: T, h => by
    have e : ∀ i k, (cntS (t :: T) i k : Int) * F i k = (cntS T i k : Int) * F i k + (if sideB t i k = true then (1 : Int) else 0) * F i k := fun i k => by
      rw [cntS_int, Int.add_mul]
    rw [sumN_congr (fun i _ => sumN_congr (fun k _ => e i k)), sumN_congr (fun i _ => sumN_add _ _ n), sumN_add, sumF_sides F (fun s hs => h s (List.mem_cons_of_mem _ hs)), side_F (h t (List.mem_cons_self ..)) F]
    show _ = F t.a t.b + F t.b t.c + F t.c t.a + sumF F T
    omega
/-- Both divisions of a ring sum up alike. -/
theorem sum_parts {n : Nat} {rs : List Nat} {F : Nat → Nat → Int} (hF : ∀ i k, F k i = -F i k) {T U : List Tri3} (hT : Parts rs T) (hU : Parts rs U) (okT : ∀ t ∈ T, TriOk n t) (okU : ∀ t ∈ U, TriOk n t) : sumF F T = sumF F U := by
  have d : ∀ i k, (cntS T i k : Int) - cntS U i k = cntS T k i - cntS U k i := fun i k => by
    by_cases f1 : Fol rs i k
    · have a := hT.one i k f1
      have b := hU.one i k f1
      omega
    · by_cases f2 : Fol rs k i
      · have a := hT.one k i f2
        have b := hU.one k i f2
        omega
      · have a := (hT.two i k f1 f2).2
        have b := (hU.two i k f1 f2).2
        omega
  have e := sumF_sides F okT
  have e' := sumF_sides F okU
  have z : sumN (fun i => sumN (fun k => ((cntS T i k : Int) - cntS U i k) * F i k) n) n = -sumN (fun i => sumN (fun k => ((cntS T i k : Int) - cntS U i k) * F i k) n) n := by
    rw [← sumN_neg]
    rw [sumN_comm]
    refine sumN_congr fun i _ => ?_
    rw [← sumN_neg]
    refine sumN_congr fun k _ => ?_
    rw [d k i, hF i k, Int.mul_neg]
  have s : sumN (fun i => sumN (fun k => ((cntS T i k : Int) - cntS U i k) * F i k) n) n = sumF F T - sumF F U := by
    rw [← e, ← e', ← sumN_sub]
    refine sumN_congr fun i _ => ?_
    rw [← sumN_sub]
    refine sumN_congr fun k _ => ?_
    rw [Int.sub_mul]
  omega
theorem cut_wn {ps : List Pt} (x : Pt) : ∀ (f : Nat) (rs : List Nat), RingOk ps rs → rs.length = f + 3 → sumF (fun i k => cw (gp ps i) (gp ps k) x) (cutL ps f rs) = wn (rpt ps rs) x
  | 0, rs, h, hl => by
    rw [wn_three hl]
    show cw _ _ x + cw _ _ x + cw _ _ x + 0 = cwT _ _ _ x
    unfold cwT
    rw [Int.add_zero]; rfl
  | f + 1, rs, h, hl => by
    obtain ⟨e1, e2, _⟩ := fEar_ok h (by omega)
    obtain ⟨c1, c2⟩ := cutR_ok h (by omega)
    rw [wn_cut h (by omega) e1 x]
    have := cut_wn x f (cutR ps rs) c1 (by omega)
    show cw _ _ x + cw _ _ x + cw _ _ x + sumF _ (cutL ps f (cutR ps rs)) = _
    rw [this]; rfl
/-- The triangles that divide a ring are passed as often as the ring. -/
theorem parts_wn {ps : List Pt} {rs : List Nat} (h : RingOk ps rs) {T : List Tri3} (hT : Parts rs T) (ok : ∀ t ∈ T, TriOk ps.length t) (x : Pt) : sumF (fun i k => cw (gp ps i) (gp ps k) x) T = wn (rpt ps rs) x := by
  have h3 := h.three
  obtain ⟨p1, p2, p3, _⟩ := cut_parts (rs.length - 3) rs h (by omega)
  rw [← cut_wn x (rs.length - 3) rs h (by omega)]
  refine sum_parts (n := ps.length) (fun i k => cw_swap (gp ps i) (gp ps k) x) hT p1 ok fun t ht => ?_
  obtain ⟨m1, m2, m3⟩ := p2 t ht
  have hp := p3 t ht
  unfold trnT at hp
  refine ⟨h.lt _ m1, h.lt _ m2, h.lt _ m3, fun e => ?_, fun e => ?_, fun e => ?_⟩
  · rw [e, trn_aab] at hp; omega
  · rw [e, trn_abb] at hp; omega
  · rw [e, trn_aba] at hp; omega
theorem sumF_ge {F : Nat → Nat → Int} : ∀ {T : List Tri3}, (∀ t ∈ T, 0 ≤ F t.a t.b + F t.b t.c + F t.c t.a) → 0 ≤ sumF F T ∧ ∀ t ∈ T, F t.a t.b + F t.b t.c + F t.c t.a ≤ sumF F T
  | [], _ => ⟨Int.le_refl _, fun t h => by cases h⟩
  | t :: T, h => by
    obtain ⟨i1, i2⟩ := sumF_ge (T := T) fun s hs => h s (List.mem_cons_of_mem _ hs)
    have h0 := h t (List.mem_cons_self ..)
    refine ⟨by show 0 ≤ _ + sumF F T; omega, fun s hs => ?_⟩
    show _ ≤ F t.a t.b + F t.b t.c + F t.c t.a + sumF F T
    rcases List.mem_cons.1 hs with rfl | hs
    · omega
    · have := i2 s hs; omega
theorem sumF_two {F : Nat → Nat → Int} : ∀ {T : List Tri3}, (∀ t ∈ T, 0 ≤ F t.a t.b + F t.b t.c + F t.c t.a) → ∀ s ∈ T, ∀ u ∈ T, s ≠ u → (F s.a s.b + F s.b s.c + F s.c s.a) + (F u.a u.b + F u.b u.c + F u.c u.a) ≤ sumF F T
  | [], _, s, hs, _, _, _ => by cases hs
  | t :: T, h, s, hs, u, hu, hne => by
    have hT := fun x hx => h x (List.mem_cons_of_mem t hx)
    obtain ⟨i1, i2⟩ := sumF_ge (T := T) hT
    have h0 := h t (List.mem_cons_self ..)
    show _ ≤ F t.a t.b + F t.b t.c + F t.c t.a + sumF F T
    rcases List.mem_cons.1 hs with es | hs
    · rcases List.mem_cons.1 hu with eu | hu
      · exact absurd (es.trans eu.symm) hne
      · have := i2 u hu; rw [es]; omega
    · rcases List.mem_cons.1 hu with eu | hu
      · have := i2 s hs; rw [eu]; omega
      · have := sumF_two hT s hs u hu hne; omega
/-! ### accepted triangles -/
theorem near_trn (N : Int) (p r q a b d : Pt) : trn (scP N p) (scP N r) ⟨(N - 3) * q.x + a.x + b.x + d.x, (N - 3) * q.y + a.y + b.y + d.y⟩ = N * ((N - 3) * trn p r q + trn p r a + trn p r b + trn p r d) := by unfold trn scP; grind
theorem seg_pos {a b d q : Pt} (hab : a ≠ b) (hq : onSeg a b q = true) (hd : 0 < trn a b d) : 0 ≤ trn b d q ∧ 0 ≤ trn d a q := by
  have h0 := onS_iff hq
  have hs := bary_1 a b d q
  have hdot : (a.x - q.x) * (b.x - q.x) + (a.y - q.y) * (b.y - q.y) ≤ 0 := by
    unfold onSeg at hq
    rw [Bool.and_eq_true, decide_eq_true_eq, decide_eq_true_eq] at hq
    exact hq.2
  have x1 : trn a b d * (a.x - q.x) = trn d a q * (a.x - b.x) + trn a b q * (a.x - d.x) := by unfold trn; grind
  have y1 : trn a b d * (a.y - q.y) = trn d a q * (a.y - b.y) + trn a b q * (a.y - d.y) := by unfold trn; grind
  have x2 : trn a b d * (b.x - q.x) = trn b d q * (b.x - a.x) + trn a b q * (b.x - d.x) := by unfold trn; grind
  have y2 : trn a b d * (b.y - q.y) = trn b d q * (b.y - a.y) + trn a b q * (b.y - d.y) := by unfold trn; grind
  rw [h0] at x1 y1 x2 y2
  have q1 : (trn a b d * (a.x - q.x)) * (trn a b d * (b.x - q.x)) + (trn a b d * (a.y - q.y)) * (trn a b d * (b.y - q.y)) = -(trn b d q * trn d a q * ((a.x - b.x) * (a.x - b.x) + (a.y - b.y) * (a.y - b.y))) := by
    rw [x1, y1, x2, y2]; grind
  have q2 : trn a b d * trn a b d * ((a.x - q.x) * (b.x - q.x) + (a.y - q.y) * (b.y - q.y)) = (trn a b d * (a.x - q.x)) * (trn a b d * (b.x - q.x)) + (trn a b d * (a.y - q.y)) * (trn a b d * (b.y - q.y)) := by grind
  have p2 := Int.mul_nonpos_of_nonneg_of_nonpos (Int.mul_nonneg (Int.le_of_lt hd) (Int.le_of_lt hd)) hdot
  have sp : 0 < (a.x - b.x) * (a.x - b.x) + (a.y - b.y) * (a.y - b.y) := by
    have := sqd_pos hab.symm
    unfold sqd at this
    exact this
  have key : 0 ≤ trn b d q * trn d a q := Classical.byContradiction fun hn => by
    have := Int.mul_neg_of_neg_of_pos (show trn b d q * trn d a q < 0 by omega) sp
    omega
  constructor
  · refine Classical.byContradiction fun hn => ?_
    have := Int.mul_neg_of_neg_of_pos (show trn b d q < 0 by omega) (show 0 < trn d a q by omega)
    omega
  · refine Classical.byContradiction fun hn => ?_
    have := Int.mul_neg_of_pos_of_neg (show 0 < trn b d q by omega) (show trn d a q < 0 by omega)
    omega
theorem side_third {n : Nat} {u : Tri3} (ok : TriOk n u) {a b : Nat} (hs : sideB u a b = true) : ∃ d, (∀ F : Nat → Nat → Int, F u.a u.b + F u.b u.c + F u.c u.a = F a b + F b d + F d a) ∧ (∀ ps : List Pt, trn (gp ps u.a) (gp ps u.b) (gp ps u.c) = trn (gp ps a) (gp ps b) (gp ps d)) := by
  rcases sideB_iff.1 hs with ⟨rfl, rfl⟩ | ⟨rfl, rfl⟩ | ⟨rfl, rfl⟩
  · exact ⟨u.c, fun F => rfl, fun ps => rfl⟩
  · exact ⟨u.a, fun F => by omega, fun ps => (trn_r1 _ _ _).symm⟩
  · exact ⟨u.b, fun F => by omega, fun ps => (trn_r2 _ _ _).symm⟩
theorem lin_pos {N t s L : Int} (ht : 1 ≤ t) (hs : -L ≤ s) (hN : N = L + 4) (hL : 0 ≤ L) : 0 < N * ((N - 3) * t + s) := by
  have h1 := Int.mul_le_mul_of_nonneg_left ht (show 0 ≤ N - 3 by omega)
  exact Int.mul_pos (by omega) (by omega)
theorem bd_three (x y z : Int) : ∃ L : Int, 0 ≤ L ∧ -L ≤ x ∧ -L ≤ y ∧ -L ≤ z := ⟨x.natAbs + y.natAbs + z.natAbs, by omega, by omega, by omega, by omega⟩
set_option maxHeartbeats 1000000 in
/-- A lattice point within an accepted triangle is inside of the polygon. -/
theorem tri_inside {ps : List Pt} {ts : List TI} (h : chkT ps ts = true) {s : Tri3} (hs : s ∈ ts.map toN) {q : Pt} (h1 : 0 < trn (gp ps s.b) (gp ps s.c) q) (h2 : 0 < trn (gp ps s.c) (gp ps s.a) q) (h3 : 0 < trn (gp ps s.a) (gp ps s.b) q) : locI ps q = 1 := by
  obtain ⟨D, _⟩ := chk_divs h
  have hsim : simB ps = true := (by have := (chk_parts h).1; unfold clipB at this; rw [Bool.and_eq_true] at this; exact this.1)
  have S := sim_of hsim
  have n3 := S.three
  have hR := ring_first hsim
  have ok : ∀ t ∈ ts.map toN, TriOk ps.length t := fun t ht => by have := D.ok t ht; rwa [rgN_len] at this
  have pos : ∀ t ∈ ts.map toN, 0 < trn (gp ps t.a) (gp ps t.b) (gp ps t.c) := fun t ht => D.pos t ht
  by_cases hon : ∃ a b, Fol (rgN ps) a b ∧ onSeg (gp ps a) (gp ps b) q = true
  · exfalso
    obtain ⟨a, b, hf, hq⟩ := hon
    have hab : gp ps a ≠ gp ps b := ring_ne hR hf.mem.1 hf.mem.2 fun e => by
      subst e
      obtain ⟨j, hj, e1, e2⟩ := hf
      have : (j + 1) % (rgN ps).length = j := gn_inj hR.nodup (Nat.mod_lt _ (by omega)) hj (e2.trans e1.symm)
      have mj := mod_next hj
      rw [rgN_len] at *
      split at mj <;> omega
    have c1 := (D.parts.one a b hf).1
    obtain ⟨u, hu, hsd⟩ := List.countP_pos_iff.1 (show 0 < (ts.map toN).countP fun t => sideB t a b by unfold cntS at c1; omega)
    have su : s ≠ u := fun e => by
      subst e
      have z := onS_iff hq
      rcases sideB_iff.1 hsd with ⟨rfl, rfl⟩ | ⟨rfl, rfl⟩ | ⟨rfl, rfl⟩ <;> omega
    obtain ⟨d, hF, hd⟩ := side_third (ok u hu) hsd
    have hd0 : 0 < trn (gp ps a) (gp ps b) (gp ps d) := by rw [← hd ps]; exact pos u hu
    obtain ⟨g1, g2⟩ := seg_pos hab hq hd0
    have g0 := onS_iff hq
    obtain ⟨L, hL0, l1, l2, l3⟩ := bd_three (trn (gp ps s.b) (gp ps s.c) (gp ps a) + (trn (gp ps s.b) (gp ps s.c) (gp ps b) + trn (gp ps s.b) (gp ps s.c) (gp ps d))) (trn (gp ps s.c) (gp ps s.a) (gp ps a) + (trn (gp ps s.c) (gp ps s.a) (gp ps b) + trn (gp ps s.c) (gp ps s.a) (gp ps d))) (trn (gp ps s.a) (gp ps s.b) (gp ps a) + (trn (gp ps s.a) (gp ps s.b) (gp ps b) + trn (gp ps s.a) (gp ps s.b) (gp ps d)))
    obtain ⟨N, hN⟩ : ∃ N : Int, N = L + 4 := ⟨_, rfl⟩
    have hN0 : 0 < N := by omega
    obtain ⟨x, hx⟩ : ∃ x : Pt, x = ⟨(N - 3) * q.x + (gp ps a).x + (gp ps b).x + (gp ps d).x, (N - 3) * q.y + (gp ps a).y + (gp ps b).y + (gp ps d).y⟩ := ⟨_, rfl⟩
    have nt : ∀ i k, trn (gp (ps.map (scP N)) i) (gp (ps.map (scP N)) k) x = N * ((N - 3) * trn (gp ps i) (gp ps k) q + trn (gp ps i) (gp ps k) (gp ps a) + trn (gp ps i) (gp ps k) (gp ps b) + trn (gp ps i) (gp ps k) (gp ps d)) := fun i k => by rw [gp_sc, gp_sc, hx]; exact near_trn N _ _ q _ _ _
    have hR' := ring_sc hN0 hR
    have W := parts_wn hR' D.parts (fun t ht => by rw [List.length_map]; exact ok t ht) x
    have nn : ∀ t ∈ ts.map toN, 0 ≤ cw (gp (ps.map (scP N)) t.a) (gp (ps.map (scP N)) t.b) x + cw (gp (ps.map (scP N)) t.b) (gp (ps.map (scP N)) t.c) x + cw (gp (ps.map (scP N)) t.c) (gp (ps.map (scP N)) t.a) x := fun t ht => by
      have hp : 0 < trn (gp (ps.map (scP N)) t.a) (gp (ps.map (scP N)) t.b) (gp (ps.map (scP N)) t.c) := by
        rw [gp_sc, gp_sc, gp_sc, trn_sc]
        exact Int.mul_pos (Int.mul_pos hN0 hN0) (pos t ht)
      have := cwT_01 hp x
      unfold cwT at this
      omega
    have T2 := sumF_two (F := fun i k => cw (gp (ps.map (scP N)) i) (gp (ps.map (scP N)) k) x) nn s hs u hu su
    have e1 : cwT (gp (ps.map (scP N)) s.a) (gp (ps.map (scP N)) s.b) (gp (ps.map (scP N)) s.c) x = 1 := by
      refine cwT_yes ?_ ?_ ?_
      · rw [nt, Int.add_assoc, Int.add_assoc]; exact lin_pos (L := L) (by omega) l1 hN hL0
      · rw [nt, Int.add_assoc, Int.add_assoc]; exact lin_pos (L := L) (by omega) l2 hN hL0
      · rw [nt, Int.add_assoc, Int.add_assoc]; exact lin_pos (L := L) (by omega) l3 hN hL0
    have e2 : cwT (gp (ps.map (scP N)) a) (gp (ps.map (scP N)) b) (gp (ps.map (scP N)) d) x = 1 := by
      refine cwT_yes ?_ ?_ ?_
      · rw [nt, trn_aba, trn_abb, trn_r1 (gp ps a) (gp ps b) (gp ps d)]
        have := Int.mul_nonneg (show 0 ≤ N - 3 by omega) g1
        exact Int.mul_pos hN0 (by omega)
      · rw [nt, trn_aba, trn_abb, trn_r2 (gp ps a) (gp ps b) (gp ps d)]
        have := Int.mul_nonneg (show 0 ≤ N - 3 by omega) g2
        exact Int.mul_pos hN0 (by omega)
      · rw [nt, trn_aba, trn_abb, g0, Int.mul_zero]
        exact Int.mul_pos hN0 (by omega)
    have hF2 := hF fun i k => cw (gp (ps.map (scP N)) i) (gp (ps.map (scP N)) k) x
    unfold cwT at e1 e2
    have B := wn_01 hR' x
    omega
  · have off : ∀ a b, Fol (rgN ps) a b → onSeg (gp ps a) (gp ps b) q = false := fun a b hf => by
      rw [← Bool.not_eq_true]
      exact fun hh => hon ⟨a, b, hf, hh⟩
    have W := parts_wn hR D.parts ok q
    have nn : ∀ t ∈ ts.map toN, 0 ≤ cw (gp ps t.a) (gp ps t.b) q + cw (gp ps t.b) (gp ps t.c) q + cw (gp ps t.c) (gp ps t.a) q := fun t ht => by
      have := cwT_01 (pos t ht) q
      unfold cwT at this
      omega
    have T1 := (sumF_ge (F := fun i k => cw (gp ps i) (gp ps k) q) nn).2 s hs
    have e1 := cwT_yes h1 h2 h3
    unfold cwT at e1
    have B := wn_01 hR q
    have w1 : wn (rpt ps (rgN ps)) q = 1 := by omega
    rw [locI_off fun j hj => by
      by_cases ha : areaL ps < 0
      · rw [onSeg_swap]; exact off _ _ ((fol_first n3 hj).2.1 ha)
      · exact off _ _ ((fol_first n3 hj).2.2 ha)]
    have o1 : (0 : Int) < 1 := by omega
    have w2 := wn_first n3 (K := 1) (q := scP 1 q)
    rw [wn_sc o1, wn_sc o1] at w2
    rw [if_neg (by omega)]
/-- The center of an accepted triangle, if it is a lattice point, is inside. -/
theorem center_in {ps : List Pt} {ts : List TI} (h : chkT ps ts = true) {j : Nat} (hj : j < ts.length) {a b c : Nat} (et : gt ts j = ⟨a, b, c⟩) {q : Pt} (hx : 3 * q.x = (gp ps a).x + (gp ps b).x + (gp ps c).x) (hy : 3 * q.y = (gp ps a).y + (gp ps b).y + (gp ps c).y) : locI ps q = 1 := by
  have hm := (chk_parts h).2.2.1 _ (gt_mem hj)
  have hp := (tOk_at hm).2
  have eN : toN (gt ts j) = ⟨a, b, c⟩ := by rw [et]; simp [toN]
  rw [eN] at hp
  have hp : 0 < trn (gp ps a) (gp ps b) (gp ps c) := hp
  have hs : (⟨a, b, c⟩ : Tri3) ∈ ts.map toN := List.mem_map.2 ⟨_, gt_mem hj, eN⟩
  have t1 : 3 * trn (gp ps b) (gp ps c) q = trn (gp ps a) (gp ps b) (gp ps c) := by unfold trn; grind
  have t2 : 3 * trn (gp ps c) (gp ps a) q = trn (gp ps a) (gp ps b) (gp ps c) := by unfold trn; grind
  have t3 : 3 * trn (gp ps a) (gp ps b) q = trn (gp ps a) (gp ps b) (gp ps c) := by unfold trn; grind
  exact tri_inside h hs (by show 0 < trn (gp ps b) (gp ps c) q; omega) (by show 0 < trn (gp ps c) (gp ps a) q; omega) (by show 0 < trn (gp ps a) (gp ps b) q; omega)
end Go.Proofs.Ytcebmcbglhkkfaa
