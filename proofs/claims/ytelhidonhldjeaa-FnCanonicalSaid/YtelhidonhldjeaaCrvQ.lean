
import Derived.Test.YtelhidonhldjeaaCrvJ
/- Every simple polygon has two ears. No program in sight. -/
set_option linter.unusedVariables false
set_option linter.unusedSimpArgs false
namespace Go.Proofs.Ytelhidonhldjeaa
open Go.RowKit

theorem rho_rev {o q r : Pt} (ho : o ≠ q) (hr : r ≠ q) (p : Opp o q r) : rho r q o = 1 - rho o q r := by
  have c1 := rho_cases o q r
  have c2 := rho_cases r q o
  have e : trn r q o = -trn o q r := by unfold trn; grind
  unfold LeftE at c1 c2
  unfold Opp at p
  rw [e] at c2
  -- two ways that are both low or both high, and do not turn: not so
  by_cases lo : LowP q o <;> by_cases lr : LowP q r <;> simp only [lo, lr, true_and, and_true, not_true, not_false_iff, and_false, false_and, or_false, false_or, true_or, or_true, iff_true, iff_false, true_iff, false_iff, imp_false] at c1 c2 p <;> omega
theorem lft01 {ps : List Pt} (h : Sim ps) : Lft ps = 0 ∨ Lft ps = 1 := by
  rcases sgn_ok _ ps rfl h with h | h
  · exact .inr h.1
  · exact .inl h.1
/-- What a chord's parts have left: from the cone at its end. -/
theorem chord_lft {ps : List Pt} (h : Sim ps) {i z d : Nat} (hi : i < ps.length) (c : Cho ps ((i + 1) % ps.length) z) (hd : d < ps.length) (ed : ((i + 1) % ps.length + d) % ps.length = z) :
    Lft (arc ps ((i + 1) % ps.length) d) + Lft (arc ps z (ps.length - d)) = Lft ps + 1 - out01 (gp ps i) (gp ps ((i + 1) % ps.length)) (gp ps ((i + 2) % ps.length)) (gp ps z) := by
  have hv := c.hi
  have hz := c.hk
  obtain ⟨d2, dn, S1⟩ := arc_sim h c hd ed
  have eb := back hv (by omega) ed
  obtain ⟨_, _, S2⟩ := arc_sim h c.symm (d := ps.length - d) (by omega) eb
  have hn : 0 < ps.length := by omega
  have h4 := c.four
  have v0 : ((i + 1) % ps.length + 0) % ps.length = (i + 1) % ps.length := Nat.mod_eq_of_lt hv
  have z0 : (z + 0) % ps.length = z := Nat.mod_eq_of_lt hz
  have W := (sgn_sum hv (show d ≤ ps.length by omega) ed hz).2 (gp ps ((i + 1) % ps.length))
  have w0 := wn_at h hi
  have w1 := wn_at S1 (i := d) (by rw [arc_len]; omega)
  rw [arc_len, Nat.mod_self, show (d + 2) % (d + 1) = 1 by rw [show d + 2 = 1 + (d + 1) by omega, Nat.add_mod_right]; exact Nat.mod_eq_of_lt (by omega), arc_at ps (j := d) (Nat.le_refl _), arc_at ps (j := 0) (Nat.zero_le _), arc_at ps (j := 1) (by omega), v0, ed, mod2] at w1
  have hl : (z + (ps.length - d - 1)) % ps.length = i := by
    have e1 := am_succ ps.length z (ps.length - d - 1)
    rw [show ps.length - d - 1 + 1 = ps.length - d by omega, eb] at e1
    have m1 := mod_next hi
    have m2 := mod_next (show (z + (ps.length - d - 1)) % ps.length < ps.length from Nat.mod_lt _ hn)
    have l1 : (z + (ps.length - d - 1)) % ps.length < ps.length := Nat.mod_lt _ hn
    split at m1 <;> split at m2 <;> omega
  have w2 := wn_at S2 (i := ps.length - d - 1) (by rw [arc_len]; omega)
  rw [arc_len, show ps.length - d - 1 + 1 = ps.length - d by omega, Nat.mod_eq_of_lt (show ps.length - d < ps.length - d + 1 by omega), show ps.length - d - 1 + 2 = ps.length - d + 1 by omega, Nat.mod_self, arc_at ps (j := ps.length - d - 1) (by omega), arc_at ps (j := ps.length - d) (Nat.le_refl _), arc_at ps (j := 0) (Nat.zero_le _), z0, eb, hl] at w2
  -- corners
  have mi := mod_next hi
  have mv := mod_next hv
  rw [mod2] at mv
  have hb : (i + 2) % ps.length < ps.length := Nat.mod_lt _ hn
  have n1 : i ≠ (i + 1) % ps.length := by split at mi <;> omega
  have n2 : (i + 2) % ps.length ≠ (i + 1) % ps.length := by split at mv <;> omega
  have z1 : z ≠ i := fun e => by subst e; exact c.n2 rfl
  have z2 : z ≠ (i + 2) % ps.length := fun e => c.n1 (by rw [mod2]; exact e)
  have o1 : Opp (gp ps i) (gp ps ((i + 1) % ps.length)) (gp ps z) := opp_on (sim_ne h hi hv n1) (sim_ne h hv hz c.ne) (c.off i hi n1 z1.symm) (vertex_off h h4 hi hz z1 c.ne.symm)
  have o2 : Opp (gp ps ((i + 2) % ps.length)) (gp ps ((i + 1) % ps.length)) (gp ps z) := opp_on (sim_ne h hb hv n2) (sim_ne h hv hz c.ne) (c.off _ hb n2 z2.symm) (by
    rw [onSeg_swap]
    have := vertex_off h h4 hv hz c.ne.symm c.n1
    rw [mod2] at this
    exact this)
  have S := sector (sim_ne h hi hv n1) (sim_ne h hb hv n2) (sim_ne h hz hv c.ne.symm) (h.opp i hi) o1 o2
  have R := rho_rev (sim_ne h hb hv n2) (sim_ne h hz hv c.ne.symm) o2
  omega
/-- A corner that can be cut off. -/
def EarAt (ps : List Pt) (i : Nat) : Prop := 0 < trn (gp ps i) (gp ps ((i + 1) % ps.length)) (gp ps ((i + 2) % ps.length)) ∧ ∀ j, j < ps.length → j ≠ i → j ≠ (i + 1) % ps.length → j ≠ (i + 2) % ps.length → ¬ InT (gp ps i) (gp ps ((i + 1) % ps.length)) (gp ps ((i + 2) % ps.length)) (gp ps j)
/-- A point within an ear lies left of the polygon. -/
theorem ear_see {qs : List Pt} (h : Sim qs) {i : Nat} (hi : i < qs.length) (hE : EarAt qs i) {x : Pt} (hx : ∀ j, j < qs.length → gp qs j ≠ x) (hT : InT (gp qs i) (gp qs ((i + 1) % qs.length)) (gp qs ((i + 2) % qs.length)) x)
    (hU : 0 < trn (gp qs i) (gp qs ((i + 1) % qs.length)) x) (hV : 0 < trn (gp qs ((i + 1) % qs.length)) (gp qs ((i + 2) % qs.length)) x) (off : ∀ j, j < qs.length → onSeg (gp qs j) (gp qs ((j + 1) % qs.length)) x = false) : wn qs x = Lft qs := by
  have h3 := h.three
  have mi := mod_next hi
  have hv : (i + 1) % qs.length < qs.length := Nat.mod_lt _ (by omega)
  have mv := mod_next hv
  rw [mod2] at mv
  have hb : (i + 2) % qs.length < qs.length := Nat.mod_lt _ (by omega)
  have mb := mod_next hb
  have nav : i ≠ (i + 1) % qs.length := by split at mi <;> omega
  have nvb : (i + 1) % qs.length ≠ (i + 2) % qs.length := by split at mv <;> omega
  have nab : i ≠ (i + 2) % qs.length := by split at mi <;> split at mv <;> omega
  have ht := hE.1
  have hin : ∀ j, j < qs.length → j ≠ (i + 1) % qs.length → InT (gp qs i) (gp qs ((i + 1) % qs.length)) (gp qs ((i + 2) % qs.length)) (gp qs j) → trn (gp qs ((i + 2) % qs.length)) (gp qs i) (gp qs j) ≤ trn (gp qs ((i + 2) % qs.length)) (gp qs i) x := fun j hj n hh => by
    by_cases ja : j = i
    · rw [ja, show trn (gp qs ((i + 2) % qs.length)) (gp qs i) (gp qs i) = 0 from trn_abb _ _]; exact hT.2.2
    · by_cases jb : j = (i + 2) % qs.length
      · rw [jb, show trn (gp qs ((i + 2) % qs.length)) (gp qs i) (gp qs ((i + 2) % qs.length)) = 0 from trn_aba _ _]; exact hT.2.2
      · exact absurd hh (hE.2 j hj ja n jb)
  have see := wn_see h hi (x := x) (fun e => hx _ hv e.symm) (fun j hj j1 j2 => by
    have hj1 : (j + 1) % qs.length < qs.length := Nat.mod_lt _ (by omega)
    have mj := mod_next hj
    have k1 : (j + 1) % qs.length ≠ (i + 1) % qs.length := fun e => by split at mi <;> split at mj <;> omega
    refine chord_far ht hT hU hV (hx j hj) (hx _ hj1) (hin j hj j2) (hin _ hj1 k1) ?_ (off j hj) ?_ ?_
    · by_cases e1 : j = (i + 2) % qs.length
      · by_cases e2 : (j + 1) % qs.length = i
        · refine onS_no ?_
          rw [e2, e1, show trn (gp qs ((i + 2) % qs.length)) (gp qs i) (gp qs ((i + 1) % qs.length)) = trn (gp qs i) (gp qs ((i + 1) % qs.length)) (gp qs ((i + 2) % qs.length)) by unfold trn; grind]
          omega
        · exact (h.apart i j hi hj j1 j2 (fun e => e2 e.symm)).nr
      · have := (h.apart ((i + 1) % qs.length) j hv hj j2 (by rw [mod2]; exact e1) k1.symm).nq
        exact this
    · by_cases e2 : (j + 1) % qs.length = i
      · rw [e2, show trn (gp qs i) (gp qs ((i + 1) % qs.length)) (gp qs i) = 0 from trn_aba _ _]; omega
      · exact (h.apart i j hi hj j1 j2 (fun e => e2 e.symm)).nx
    · by_cases e1 : j = (i + 2) % qs.length
      · rw [e1, show trn (gp qs ((i + 1) % qs.length)) (gp qs ((i + 2) % qs.length)) (gp qs ((i + 2) % qs.length)) = 0 from trn_abb _ _]; omega
      · have := (h.apart ((i + 1) % qs.length) j hv hj j2 (by rw [mod2]; exact e1) k1.symm).nx
        rw [mod2] at this
        exact this) (fun e => by omega) (fun e => by
      have : trn (gp qs ((i + 2) % qs.length)) (gp qs ((i + 1) % qs.length)) x = -trn (gp qs ((i + 1) % qs.length)) (gp qs ((i + 2) % qs.length)) x := trn_flip _ _ _
      omega)
  rcases out_cases (gp qs i) (gp qs ((i + 1) % qs.length)) (gp qs ((i + 2) % qs.length)) x with ⟨_, e⟩ | ⟨e, _⟩
  · omega
  · exact absurd (.inl ⟨ht, hU, hV⟩) e
end Go.Proofs.Ytelhidonhldjeaa
/- Every simple polygon with more than three corners has two ears that are not neighbours. No program in sight. -/
set_option linter.unusedVariables false
set_option linter.unusedSimpArgs false
namespace Go.Proofs.Ytelhidonhldjeaa
open Go.RowKit

theorem Lft_tri {ps : List Pt} (h : Sim ps) (h3 : ps.length = 3) (t : 0 < areaL ps) : Lft ps = 1 := by
  rcases sgn_ok _ ps rfl h with h | h
  · exact h.1
  · omega
/-- What is left over when an ear is cut off. -/
theorem ear_rest {ps : List Pt} (h : Sim ps) {i : Nat} (hi : i < ps.length) (c : Cho ps ((i + 2) % ps.length) i) (hE : EarAt ps i) :
    Lft (arc ps i 2) = 1 ∧ Lft (arc ps ((i + 2) % ps.length) (ps.length - 2)) = Lft ps := by
  have h4 := c.four
  have hb := c.hi
  have ed : ((i + 2) % ps.length + (ps.length - 2)) % ps.length = i := by
    rw [Nat.mod_add_mod, show i + 2 + (ps.length - 2) = i + ps.length by omega, Nat.add_mod_right]
    exact Nat.mod_eq_of_lt hi
  obtain ⟨d2, dn, S1⟩ := arc_sim h c (d := ps.length - 2) (by omega) ed
  obtain ⟨_, _, S2⟩ := arc_sim h c.symm (d := 2) (by omega) rfl
  obtain ⟨A, W⟩ := sgn_sum hb (show ps.length - 2 ≤ ps.length by omega) ed hi
  rw [show ps.length - (ps.length - 2) = 2 by omega] at A W
  have A2 : areaL (arc ps i 2) = trn (gp ps i) (gp ps ((i + 1) % ps.length)) (gp ps ((i + 2) % ps.length)) := by
    rw [area_sum, tri_sums crP hi, cr_tri]
  refine ⟨Lft_tri S2 (arc_len _ _ _) (by rw [A2]; exact hE.1), ?_⟩
  have b0 : ((i + 2) % ps.length + 0) % ps.length = (i + 2) % ps.length := Nat.mod_eq_of_lt hb
  have w1 := wn_at S1 (i := 0) (by rw [arc_len]; omega)
  rw [arc_len, Nat.mod_eq_of_lt (show 0 + 1 < ps.length - 2 + 1 by omega), Nat.mod_eq_of_lt (show 0 + 2 < ps.length - 2 + 1 by omega), arc_at ps (show 0 + 1 ≤ ps.length - 2 by omega), arc_at ps (Nat.zero_le _), arc_at ps (show 0 + 2 ≤ ps.length - 2 by omega), b0] at w1
  have w2 := wn_at h hb
  have hu : ((i + 2) % ps.length + 1) % ps.length < ps.length := Nat.mod_lt _ (by omega)
  have m1 := mod_next hi
  have hv : (i + 1) % ps.length < ps.length := Nat.mod_lt _ (by omega)
  have m2 := mod_next hv
  rw [mod2] at m2
  have m3 := mod_next hb
  have o := tri_out hE.1 (hE.2 _ hu (by split at m1 <;> split at m2 <;> split at m3 <;> omega) (by split at m1 <;> split at m2 <;> split at m3 <;> omega) (by split at m3 <;> omega))
  have w3 := W (gp ps (((i + 2) % ps.length + 1) % ps.length))
  have w4 : wn (arc ps i 2) (gp ps (((i + 2) % ps.length + 1) % ps.length)) = 0 := by rw [wn_sum, tri_sums _ hi]; exact o
  have e01 : ((i + 2) % ps.length + (0 + 1)) % ps.length = ((i + 2) % ps.length + 1) % ps.length := rfl
  have e02 : ((i + 2) % ps.length + (0 + 2)) % ps.length = ((i + 2) % ps.length + 2) % ps.length := rfl
  rw [e01, e02] at w1
  omega
/-- A chord that lies within. -/
theorem good_chord {ps : List Pt} (h : Sim ps) (h4 : 4 ≤ ps.length) (hL : Lft ps = 1) : ∃ i k d, Cho ps i k ∧ d < ps.length ∧ (i + d) % ps.length = k ∧ Lft (arc ps i d) = 1 ∧ Lft (arc ps k (ps.length - d)) = 1 := by
  obtain ⟨i, hi, hm⟩ := last_corner h
  have t : 0 < trn (gp ps i) (gp ps ((i + 1) % ps.length)) (gp ps ((i + 2) % ps.length)) := by
    rcases Lft_max h hi hm with h | h
    · exact h.1
    · omega
  have c := (cor_of h h4 hi).1 t
  by_cases hE : ∃ j, j < ps.length ∧ (j ≠ i ∧ j ≠ (i + 1) % ps.length ∧ j ≠ (i + 2) % ps.length ∧ InT (gp ps i) (gp ps ((i + 1) % ps.length)) (gp ps ((i + 2) % ps.length)) (gp ps j))
  · obtain ⟨z, ch, _, _, u, w⟩ := cor_far h c h4 hE
    obtain ⟨d, hd, ed⟩ := dist_ex ch.hi ch.hk
    have L := chord_lft h hi ch hd ed
    obtain ⟨_, _, S1⟩ := arc_sim h ch hd ed
    have eb := back ch.hi (by omega) ed
    have d0 : 0 < d := Nat.pos_of_ne_zero fun e => by
      subst e
      rw [show ((i + 1) % ps.length + 0) % ps.length = (i + 1) % ps.length from Nat.mod_eq_of_lt ch.hi] at ed
      exact ch.ne ed
    obtain ⟨_, _, S2⟩ := arc_sim h ch.symm (d := ps.length - d) (by omega) eb
    have l1 := lft01 S1
    have l2 := lft01 S2
    have o : out01 (gp ps i) (gp ps ((i + 1) % ps.length)) (gp ps ((i + 2) % ps.length)) (gp ps z) = 0 := if_pos (.inl ⟨t, u, w⟩)
    exact ⟨_, z, d, ch, hd, ed, by omega, by omega⟩
  · have hE' : EarAt ps i := ⟨t, fun j a b c d e => hE ⟨j, a, b, c, d, e⟩⟩
    have ch := cor_ear h c h4 hE'.2
    obtain ⟨l1, l2⟩ := ear_rest h hi ch hE'
    exact ⟨i, _, 2, ch.symm, by omega, rfl, l1, by rw [l2]; exact hL⟩
/-- An ear of a chord's part, not at the chord's ends, is an ear of the whole. -/
theorem part_ear {ps : List Pt} (h : Sim ps) (hL : Lft ps = 1) {i k d : Nat} (c : Cho ps i k) (hd : d < ps.length) (ed : (i + d) % ps.length = k) (L1 : Lft (arc ps i d) = 1) (L2 : Lft (arc ps k (ps.length - d)) = 1) {a : Nat} (ha : a + 2 ≤ d) (hE : EarAt (arc ps i d) a) : EarAt ps ((i + a) % ps.length) := by
  have hi := c.hi
  have hk := c.hk
  have h4 := c.four
  have hn : 0 < ps.length := by omega
  obtain ⟨d2, dn, S1⟩ := arc_sim h c hd ed
  have eb := back hi (by omega) ed
  obtain ⟨_, _, S2⟩ := arc_sim h c.symm (d := ps.length - d) (by omega) eb
  have hE' := hE
  unfold EarAt at hE
  rw [arc_len, Nat.mod_eq_of_lt (show a + 1 < d + 1 by omega), Nat.mod_eq_of_lt (show a + 2 < d + 1 by omega), arc_at ps (j := a) (by omega), arc_at ps (j := a + 1) (by omega), arc_at ps (j := a + 2) (by omega)] at hE
  obtain ⟨ht, hI⟩ := hE
  have i0 : (i + 0) % ps.length = i := Nat.mod_eq_of_lt hi
  have lt : ∀ j, (i + j) % ps.length < ps.length := fun j => Nat.mod_lt _ hn
  refine ⟨by rw [am_succ, am_succ2]; exact ht, fun j hj j1 j2 j3 hT => ?_⟩
  rw [am_succ] at j2
  rw [am_succ2] at j3
  rw [am_succ, am_succ2] at hT
  obtain ⟨m, hm, em⟩ := dist_ex hi hj
  by_cases hmd : m ≤ d
  · refine hI m (by omega) (fun e => j1 (by rw [← em, e])) (fun e => j2 (by rw [← em, e])) (fun e => j3 (by rw [← em, e])) ?_
    rw [arc_at ps hmd, em]; exact hT
  · -- a corner of the other part
    have ji : j ≠ i := fun e => by have := am_inj hi hm hn (em.trans (e.trans i0.symm)); omega
    have jk : j ≠ k := fun e => by have := am_inj hi hm hd (em.trans (e.trans ed.symm)); omega
    have nin : ∀ b, b ≤ d → j ≠ (i + b) % ps.length := fun b hb e => by have := am_inj hi hm (show b < ps.length by omega) (em.trans e); omega
    have ne : ∀ b, b ≤ d → gp ps ((i + b) % ps.length) ≠ gp ps j := fun b hb e => nin b hb (gp_inj h.nodup (lt b) hj e).symm
    have offE : ∀ b, b < d → onSeg (gp ps ((i + b) % ps.length)) (gp ps ((i + (b + 1)) % ps.length)) (gp ps j) = false := fun b hb => by
      have := vertex_off h h4 (lt b) hj (nin b (by omega)) (by rw [am_succ]; exact nin (b + 1) (by omega))
      rw [am_succ] at this
      exact this
    have hU : 0 < trn (gp ps ((i + a) % ps.length)) (gp ps ((i + (a + 1)) % ps.length)) (gp ps j) := by
      refine Classical.byContradiction fun hn0 => ?_
      have h0 : trn (gp ps ((i + a) % ps.length)) (gp ps ((i + (a + 1)) % ps.length)) (gp ps j) = 0 := by have := hT.1; omega
      have := on_side ht h0 hT.2.1 hT.2.2
      rw [offE a (by omega)] at this
      cases this
    have hV : 0 < trn (gp ps ((i + (a + 1)) % ps.length)) (gp ps ((i + (a + 2)) % ps.length)) (gp ps j) := by
      refine Classical.byContradiction fun hn0 => ?_
      have h0 : trn (gp ps ((i + (a + 1)) % ps.length)) (gp ps ((i + (a + 2)) % ps.length)) (gp ps j) = 0 := by have := hT.2.1; omega
      have := on_side (a := gp ps ((i + (a + 1)) % ps.length)) (v := gp ps ((i + (a + 2)) % ps.length)) (b := gp ps ((i + a) % ps.length)) (by rw [show trn (gp ps ((i + (a + 1)) % ps.length)) (gp ps ((i + (a + 2)) % ps.length)) (gp ps ((i + a) % ps.length)) = trn (gp ps ((i + a) % ps.length)) (gp ps ((i + (a + 1)) % ps.length)) (gp ps ((i + (a + 2)) % ps.length)) by unfold trn; grind]; exact ht) h0 hT.2.2 hT.1
      have o2 := offE (a + 1) (by omega)
      rw [show a + 1 + 1 = a + 2 from rfl] at o2
      rw [o2] at this
      cases this
    have s1 := ear_see S1 (i := a) (by rw [arc_len]; omega) hE' (x := gp ps j) (fun b hb => by rw [arc_len] at hb; rw [arc_at ps (by omega)]; exact ne b (by omega))
      (by rw [arc_len, Nat.mod_eq_of_lt (show a + 1 < d + 1 by omega), Nat.mod_eq_of_lt (show a + 2 < d + 1 by omega), arc_at ps (j := a) (by omega), arc_at ps (j := a + 1) (by omega), arc_at ps (j := a + 2) (by omega)]; exact hT)
      (by rw [arc_len, Nat.mod_eq_of_lt (show a + 1 < d + 1 by omega), arc_at ps (j := a) (by omega), arc_at ps (j := a + 1) (by omega)]; exact hU)
      (by rw [arc_len, Nat.mod_eq_of_lt (show a + 1 < d + 1 by omega), Nat.mod_eq_of_lt (show a + 2 < d + 1 by omega), arc_at ps (j := a + 1) (by omega), arc_at ps (j := a + 2) (by omega)]; exact hV)
      (fun b hb => by
        rw [arc_len] at hb ⊢
        by_cases eb : b = d
        · subst eb
          rw [Nat.mod_self, arc_at ps (j := b) (Nat.le_refl _), arc_at ps (j := 0) (Nat.zero_le _), i0, ed, onSeg_swap]
          exact c.off j hj ji jk
        · rw [Nat.mod_eq_of_lt (show b + 1 < d + 1 by omega), arc_at ps (j := b) (by omega), arc_at ps (j := b + 1) (by omega)]
          exact offE b (by omega))
    -- from the other part
    obtain ⟨q, hq⟩ : ∃ q, m = d + q + 1 := ⟨m - d - 1, by omega⟩
    have ek : ∀ b, (k + b) % ps.length = (i + (d + b)) % ps.length := fun b => by rw [← ed, Nat.mod_add_mod, Nat.add_assoc]
    have w2 := wn_at S2 (i := q) (by rw [arc_len]; omega)
    rw [arc_len, Nat.mod_eq_of_lt (show q + 1 < ps.length - d + 1 by omega), Nat.mod_eq_of_lt (show q + 2 < ps.length - d + 1 by omega), arc_at ps (j := q) (by omega), arc_at ps (j := q + 1) (by omega), arc_at ps (j := q + 2) (by omega), ek, ek, ek] at w2
    have w0 := wn_at h (lt (d + q))
    rw [am_succ, am_succ2] at w0
    rw [show d + (q + 1) = m by omega, show d + (q + 2) = m + 1 by omega, em] at w2
    rw [show d + q + 1 = m by omega, show d + q + 2 = m + 1 by omega, em] at w0
    have W := (sgn_sum hi (show d ≤ ps.length by omega) ed hk).2 (gp ps j)
    omega
/-- Two ears that are not neighbours. -/
theorem two_ears : ∀ (n : Nat) (ps : List Pt), ps.length = n → Sim ps → 4 ≤ ps.length → Lft ps = 1 → ∃ a b, a < ps.length ∧ b < ps.length ∧ a ≠ b ∧ b ≠ (a + 1) % ps.length ∧ a ≠ (b + 1) % ps.length ∧ EarAt ps a ∧ EarAt ps b := by
  intro n
  induction n using Nat.strongRecOn with
  | ind n ih =>
    intro ps hn h h4 hL
    obtain ⟨i, k, d, c, hd, ed, L1, L2⟩ := good_chord h h4 hL
    have hi := c.hi
    have hk := c.hk
    obtain ⟨d2, dn, S1⟩ := arc_sim h c hd ed
    have eb := back hi (by omega) ed
    obtain ⟨_, _, S2⟩ := arc_sim h c.symm (d := ps.length - d) (by omega) eb
    have pick : ∀ (qs : List Pt), qs.length < n → Sim qs → Lft qs = 1 → ∃ a, a + 2 < qs.length ∧ EarAt qs a := fun qs hq S L => by
      have q3 := S.three
      by_cases e3 : qs.length = 3
      · refine ⟨0, by omega, ?_, ?_⟩
        · have A : 0 < areaL qs := by rcases sgn_ok _ qs rfl S with h | h <;> omega
          match qs, e3 with
          | [x, y, z], _ => rw [area3] at A; exact A
        · intro j hj j1 j2 j3
          rw [e3] at j2 j3
          omega
      · obtain ⟨a, b, ha, hb, ne, n1, n2, ea, ebr⟩ := ih qs.length hq qs rfl S (by omega) L
        have ma := mod_next ha
        have mb := mod_next hb
        by_cases h2 : a + 2 < qs.length
        · exact ⟨a, h2, ea⟩
        · exact ⟨b, by split at ma <;> split at mb <;> omega, ebr⟩
    obtain ⟨a, ha, ea⟩ := pick _ (by rw [arc_len]; omega) S1 L1
    obtain ⟨b, hb, ebr⟩ := pick _ (by rw [arc_len]; omega) S2 L2
    rw [arc_len] at ha hb
    have A := part_ear h hL c hd ed L1 L2 (by omega) ea
    have B := part_ear h hL c.symm (d := ps.length - d) (by omega) eb L2 (by rw [show ps.length - (ps.length - d) = d by omega]; exact L1) (by omega) ebr
    have ek : (k + b) % ps.length = (i + (d + b)) % ps.length := by rw [← ed, Nat.mod_add_mod, Nat.add_assoc]
    rw [ek] at B
    refine ⟨_, _, Nat.mod_lt _ (by omega), Nat.mod_lt _ (by omega), fun e => ?_, fun e => ?_, fun e => ?_, A, B⟩
    · have := am_inj hi (show a < ps.length by omega) (show d + b < ps.length by omega) e; omega
    · rw [am_succ] at e
      have := am_inj hi (show d + b < ps.length by omega) (show a + 1 < ps.length by omega) e; omega
    · rw [am_succ] at e
      by_cases e0 : d + b + 1 = ps.length
      · omega
      · have := am_inj hi (show a < ps.length by omega) (show d + b + 1 < ps.length by omega) e; omega
end Go.Proofs.Ytelhidonhldjeaa
/- A simple polygon that turns left at each corner is convex. No program in sight. -/
set_option linter.unusedVariables false
set_option linter.unusedSimpArgs false
namespace Go.Proofs.Ytelhidonhldjeaa
open Go.RowKit

/-- Any three corners in order turn left. -/
def CI (ps : List Pt) : Prop := ∀ a b c, a < b → b < c → c < ps.length → 0 < trn (gp ps a) (gp ps b) (gp ps c)
theorem trn_r1 (a b c : Pt) : trn b c a = trn a b c := by unfold trn; grind
theorem trn_r2 (a b c : Pt) : trn c a b = trn a b c := by unfold trn; grind
theorem plu (o a b c d : Pt) : trn o a b * trn o c d - trn o a c * trn o b d + trn o a d * trn o b c = 0 := by unfold trn; grind
/-- Four ways around a point: the two in the middle. -/
theorem plu_mid {o a b c d : Pt} (hab : 0 < trn o a b) (hac : 0 < trn o a c) (had : 0 < trn o a d) (hbc : 0 < trn o b c) (hcd : 0 < trn o c d) : 0 < trn o b d := by
  have e := plu o a b c d
  have p1 := Int.mul_pos hab hcd
  have p2 := Int.mul_pos had hbc
  exact prod_pos (u := trn o a c) (by omega) hac
/-- Behind an ear the corner at its end still turns left. -/
theorem ear_next {a v b c : Pt} (ht : 0 < trn a v b) (hc : 0 < trn v b c) (hI : ¬ InT a v b c) (hD : Dj a v b c) : 0 < trn a b c := by
  refine Classical.byContradiction fun hn => ?_
  have e1 : trn b a c = -trn a b c := by unfold trn; grind
  have e2 : trn b c a = trn a b c := trn_r1 a b c
  have e3 : trn b c v = trn v b c := trn_r1 v b c
  have hU : trn a v c < 0 := Classical.byContradiction fun h => hI ⟨by omega, by omega, by omega⟩
  by_cases h0 : trn a b c = 0
  · have := between_on (c := b) (d := c) (v := a) (a := v) (by omega) (by
      have f1 : trn v a b = -trn a v b := trn_flip a v b
      have f2 : trn v a c = -trn a v c := trn_flip a v c
      omega)
    rw [hD.na] at this
    cases this
  · exact hD.nx ⟨.inl ⟨ht, hU⟩, .inr ⟨by omega, by omega⟩⟩
theorem ear_prev {d a v b : Pt} (ht : 0 < trn a v b) (hd : 0 < trn d a v) (hI : ¬ InT a v b d) (hD : Dj d a v b) : 0 < trn d a b := by
  refine Classical.byContradiction fun hn => ?_
  have e1 : trn b a d = -trn d a b := by unfold trn; grind
  have e2 : trn a v d = trn d a v := trn_r1 d a v
  have e3 : trn v b a = trn a v b := trn_r1 a v b
  have hV : trn v b d < 0 := Classical.byContradiction fun h => hI ⟨by omega, by omega, by omega⟩
  by_cases h0 : trn d a b = 0
  · have := between_on (c := d) (d := a) (v := b) (a := v) h0 (by omega)
    rw [hD.nr] at this
    cases this
  · exact hD.nx ⟨.inl ⟨hd, by omega⟩, .inr ⟨by omega, by omega⟩⟩
/-- Places turned around a ring. -/
theorem CI_turn {ps : List Pt} {s : Nat} (hs : s < ps.length) (h : CI (arc ps s (ps.length - 1))) : CI ps := by
  intro a b c hab hbc hc
  have at' : ∀ x, x < ps.length → ∃ p, p < ps.length ∧ gp (arc ps s (ps.length - 1)) p = gp ps x ∧ ((s ≤ x ∧ p + s = x) ∨ (x < s ∧ p + s = x + ps.length)) := fun x hx => by
    obtain ⟨p, hp, ep⟩ := dist_ex hs hx
    refine ⟨p, hp, by rw [arc_at ps (by omega), ep], ?_⟩
    rw [am hs (by omega)] at ep
    split at ep <;> omega
  obtain ⟨pa, ha1, ha2, ha3⟩ := at' a (by omega)
  obtain ⟨pb, hb1, hb2, hb3⟩ := at' b (by omega)
  obtain ⟨pc, hc1, hc2, hc3⟩ := at' c hc
  rw [← ha2, ← hb2, ← hc2]
  have hl : (arc ps s (ps.length - 1)).length = ps.length := by rw [arc_len]; omega
  by_cases h1 : pa < pb
  · by_cases h2 : pb < pc
    · exact h pa pb pc h1 h2 (by omega)
    · rw [← trn_r2]; exact h pc pa pb (by omega) h1 (by omega)
  · rw [← trn_r1]; exact h pb pc pa (by omega) (by omega) (by omega)
/-- One corner more, ahead of the closing edge. -/
theorem CI_more {qs : List Pt} {m : Nat} (hq : qs.length = m + 1) (hm : 2 ≤ m) (h : CI qs) {v : Pt} (h1 : 0 < trn (gp qs m) v (gp qs 0)) (h2 : 0 < trn v (gp qs 0) (gp qs 1)) (h3 : 0 < trn (gp qs (m - 1)) (gp qs m) v) :
    ∀ j k, j < k → k < m + 1 → 0 < trn (gp qs j) (gp qs k) v := by
  have A : ∀ k, 0 < k → k < m + 1 → 0 < trn (gp qs 0) (gp qs k) v := fun k h0 hk => by
    have b1 : 0 < trn (gp qs 0) (gp qs 1) v := by rw [trn_r1]; exact h2
    have bm : 0 < trn (gp qs 0) (gp qs m) v := by rw [← trn_r1, trn_r1]; rw [← trn_r1]; exact h1
    by_cases k1 : k = 1
    · rw [k1]; exact b1
    · by_cases km : k = m
      · rw [km]; exact bm
      · exact plu_mid (h 0 1 k (by omega) (by omega) (by omega)) (h 0 1 m (by omega) (by omega) (by omega)) b1 (h 0 k m (by omega) (by omega) (by omega)) bm
  have B : ∀ k, k < m → 0 < trn (gp qs k) (gp qs m) v := fun k hk => by
    by_cases k0 : k = 0
    · rw [k0]; exact A m (by omega) (by omega)
    · by_cases k1 : k = m - 1
      · rw [k1]; exact h3
      · -- around the corner m: v, 0, k, m - 1
        have x1 : 0 < trn (gp qs m) (gp qs 0) (gp qs k) := by rw [trn_r2]; exact h 0 k m (by omega) (by omega) (by omega)
        have x2 : 0 < trn (gp qs m) (gp qs 0) (gp qs (m - 1)) := by rw [trn_r2]; exact h 0 (m - 1) m (by omega) (by omega) (by omega)
        have x3 : 0 < trn (gp qs m) (gp qs k) (gp qs (m - 1)) := by rw [trn_r2]; exact h k (m - 1) m (by omega) (by omega) (by omega)
        have x4 : 0 < trn (gp qs m) v (gp qs (m - 1)) := by rw [trn_r1]; exact h3
        have e := plu (gp qs m) v (gp qs 0) (gp qs k) (gp qs (m - 1))
        have p1 := Int.mul_pos h1 x3
        have p2 := Int.mul_pos x4 x1
        have : 0 < trn (gp qs m) v (gp qs k) := by
          refine prod_pos (u := trn (gp qs m) (gp qs 0) (gp qs (m - 1))) ?_ x2
          have : trn (gp qs m) (gp qs 0) (gp qs (m - 1)) * trn (gp qs m) v (gp qs k) = trn (gp qs m) v (gp qs k) * trn (gp qs m) (gp qs 0) (gp qs (m - 1)) := Int.mul_comm _ _
          omega
        rw [← trn_r1]; exact this
  intro j k hjk hk
  by_cases j0 : j = 0
  · rw [j0]; exact A k (by omega) hk
  · by_cases km : k = m
    · rw [km]; exact B j (by omega)
    · -- around the corner j: k, m, v, 0
      have x1 : 0 < trn (gp qs j) (gp qs k) (gp qs m) := h j k m hjk (by omega) (by omega)
      have x2 : 0 < trn (gp qs j) (gp qs m) (gp qs 0) := by rw [trn_r1]; exact h 0 j m (by omega) (by omega) (by omega)
      have x3 : 0 < trn (gp qs j) (gp qs k) (gp qs 0) := by rw [trn_r1]; exact h 0 j k (by omega) (by omega) (by omega)
      have x4 : 0 < trn (gp qs j) v (gp qs 0) := by rw [trn_r1]; exact A j (by omega) (by omega)
      have x5 := B j (by omega)
      have e := plu (gp qs j) (gp qs k) (gp qs m) v (gp qs 0)
      have p1 := Int.mul_pos x1 x4
      have p2 := Int.mul_pos x3 x5
      refine prod_pos (u := trn (gp qs j) (gp qs m) (gp qs 0)) ?_ x2
      have : trn (gp qs j) (gp qs m) (gp qs 0) * trn (gp qs j) (gp qs k) v = trn (gp qs j) (gp qs k) v * trn (gp qs j) (gp qs m) (gp qs 0) := Int.mul_comm _ _
      omega
theorem left_conv : ∀ (n : Nat) (ps : List Pt), ps.length = n → Sim ps → (∀ i, i < ps.length → 0 < trn (gp ps i) (gp ps ((i + 1) % ps.length)) (gp ps ((i + 2) % ps.length))) → CI ps := by
  intro n
  induction n using Nat.strongRecOn with
  | ind n ih =>
    intro ps hn h hl
    have h3 := h.three
    by_cases e3 : ps.length = 3
    · intro a b c hab hbc hc
      obtain rfl : a = 0 := by omega
      obtain rfl : b = 1 := by omega
      obtain rfl : c = 2 := by omega
      have := hl 0 (by omega)
      rw [e3] at this
      exact this
    · have h4 : 4 ≤ ps.length := by omega
      have hL : Lft ps = 1 := by
        obtain ⟨i, hi, hm⟩ := last_corner h
        have := hl i hi
        rcases Lft_max h hi hm with h | h
        · exact h.2
        · omega
      obtain ⟨i, _, hi, _, _, _, _, hE, _⟩ := two_ears n ps hn h h4 hL
      have c := (cor_of h h4 hi).1 hE.1
      have ch := cor_ear h c h4 hE.2
      have hb := ch.hi
      have ed : ((i + 2) % ps.length + (ps.length - 2)) % ps.length = i := by
        rw [Nat.mod_add_mod, show i + 2 + (ps.length - 2) = i + ps.length by omega, Nat.add_mod_right]
        exact Nat.mod_eq_of_lt hi
      obtain ⟨d2, dn, S1⟩ := arc_sim h ch (d := ps.length - 2) (by omega) ed
      have lt : ∀ j, (i + j) % ps.length < ps.length := fun j => Nat.mod_lt _ (by omega)
      have i0 : (i + 0) % ps.length = i := Nat.mod_eq_of_lt hi
      have pl : ∀ j, ((i + 2) % ps.length + j) % ps.length = (i + (2 + j)) % ps.length := fun j => by rw [Nat.mod_add_mod, Nat.add_assoc]
      have qa : ∀ j, j ≤ ps.length - 2 → gp (arc ps ((i + 2) % ps.length) (ps.length - 2)) j = gp ps ((i + (2 + j)) % ps.length) := fun j hj => by rw [arc_at ps hj, pl]
      have ri : ∀ j k, j < ps.length → k < ps.length → (i + j) % ps.length = (i + k) % ps.length → j = k := fun j k hj hk e => am_inj hi hj hk e
      have wrap : ∀ j, (i + (ps.length + j)) % ps.length = (i + j) % ps.length := fun j => by rw [show i + (ps.length + j) = i + j + ps.length by omega, Nat.add_mod_right]
      have hlw : ∀ j, 0 < trn (gp ps ((i + j) % ps.length)) (gp ps ((i + (j + 1)) % ps.length)) (gp ps ((i + (j + 2)) % ps.length)) := fun j => by
        have := hl _ (lt j)
        rw [am_succ, am_succ2] at this
        exact this
      have hout : ∀ j, 3 ≤ j → j < ps.length → ¬ InT (gp ps i) (gp ps ((i + 1) % ps.length)) (gp ps ((i + 2) % ps.length)) (gp ps ((i + j) % ps.length)) := fun j h3 hj => hE.2 _ (lt j) (fun e => by have := ri j 0 hj (by omega) (e.trans i0.symm); omega) (fun e => by have := ri j 1 hj (by omega) e; omega) (fun e => by have := ri j 2 hj (by omega) e; omega)
      have dj : ∀ j k, j < ps.length → k < ps.length → j ≠ k → j ≠ k + 1 → k ≠ j + 1 → ¬ (j = 0 ∧ k + 1 = ps.length) → ¬ (k = 0 ∧ j + 1 = ps.length) → Dj (gp ps ((i + j) % ps.length)) (gp ps ((i + (j + 1)) % ps.length)) (gp ps ((i + k) % ps.length)) (gp ps ((i + (k + 1)) % ps.length)) := fun j k hj hk n1 n2 n3 n4 n5 => by
        have := h.apart _ _ (lt k) (lt j) (fun e => n1 (ri j k hj hk e)) (by
          rw [am_succ]; intro e
          by_cases ek : k + 1 = ps.length
          · rw [ek, show (i + ps.length) % ps.length = (i + 0) % ps.length by rw [Nat.add_mod_right]; rfl] at e
            have := ri j 0 hj (by omega) e
            omega
          · have := ri j (k + 1) hj (by omega) e; omega) (by
          rw [am_succ]; intro e
          by_cases ek : j + 1 = ps.length
          · rw [ek, show (i + ps.length) % ps.length = (i + 0) % ps.length by rw [Nat.add_mod_right]; rfl] at e
            have := ri k 0 hk (by omega) e
            omega
          · have := ri k (j + 1) hk (by omega) e; omega)
        rw [am_succ, am_succ] at this
        exact this
      have e1 : (i + 1) % ps.length = (i + (0 + 1)) % ps.length := rfl
      have hc : 0 < trn (gp ps i) (gp ps ((i + 2) % ps.length)) (gp ps ((i + 3) % ps.length)) := by
        have D := dj 0 2 (by omega) (by omega) (by omega) (by omega) (by omega) (by omega) (by omega)
        rw [i0] at D
        exact ear_next hE.1 (hlw 1) (hout 3 (by omega) (by omega)) D
      have hd : 0 < trn (gp ps ((i + (ps.length - 1)) % ps.length)) (gp ps i) (gp ps ((i + 2) % ps.length)) := by
        have D := dj (ps.length - 1) 1 (by omega) (by omega) (by omega) (by omega) (by omega) (by omega) (by omega)
        have L := hlw (ps.length - 1)
        rw [show ps.length - 1 + 1 = ps.length + 0 by omega, wrap, i0] at D
        rw [show ps.length - 1 + 1 = ps.length + 0 by omega, show ps.length - 1 + 2 = ps.length + 1 by omega, wrap, wrap, i0] at L
        exact ear_prev hE.1 L (hout (ps.length - 1) (by omega) (by omega)) D
      have IH := ih (ps.length - 1) (by omega) (arc ps ((i + 2) % ps.length) (ps.length - 2)) (by rw [arc_len]; omega) S1 (fun j hj => by
        rw [arc_len] at hj ⊢
        by_cases j1 : j + 2 ≤ ps.length - 2
        · rw [Nat.mod_eq_of_lt (show j + 1 < ps.length - 2 + 1 by omega), Nat.mod_eq_of_lt (show j + 2 < ps.length - 2 + 1 by omega), qa j (by omega), qa (j + 1) (by omega), qa (j + 2) (by omega)]
          exact hlw (2 + j)
        · by_cases j2 : j + 1 = ps.length - 2
          · rw [Nat.mod_eq_of_lt (show j + 1 < ps.length - 2 + 1 by omega), show (j + 2) % (ps.length - 2 + 1) = 0 by rw [show j + 2 = ps.length - 2 + 1 by omega]; exact Nat.mod_self _, qa j (by omega), qa (j + 1) (by omega), qa 0 (by omega), show 2 + j = ps.length - 1 by omega, show 2 + (j + 1) = ps.length + 0 by omega, wrap, i0]
            exact hd
          · have j3 : j = ps.length - 2 := by omega
            subst j3
            rw [Nat.mod_self, show (ps.length - 2 + 2) % (ps.length - 2 + 1) = 1 by rw [show ps.length - 2 + 2 = 1 + (ps.length - 2 + 1) by omega, Nat.add_mod_right]; exact Nat.mod_eq_of_lt (by omega), qa (ps.length - 2) (by omega), qa 0 (by omega), qa 1 (by omega), show 2 + (ps.length - 2) = ps.length + 0 by omega, wrap, i0]
            exact hc)
      have hb2 : (i + 2) % ps.length < ps.length := lt 2
      refine CI_turn hb2 ?_
      have ql : (arc ps ((i + 2) % ps.length) (ps.length - 2)).length = ps.length - 2 + 1 := arc_len _ _ _
      have M := CI_more (qs := arc ps ((i + 2) % ps.length) (ps.length - 2)) (m := ps.length - 2) ql (by omega) IH (v := gp ps ((i + 1) % ps.length))
        (by rw [qa _ (Nat.le_refl _), qa 0 (by omega), show 2 + (ps.length - 2) = ps.length + 0 by omega, wrap, i0]; exact hE.1)
        (by rw [qa 0 (by omega), qa 1 (by omega)]; exact hlw 1)
        (by
          rw [qa _ (Nat.le_refl _), qa (ps.length - 2 - 1) (by omega), show 2 + (ps.length - 2) = ps.length + 0 by omega, show 2 + (ps.length - 2 - 1) = ps.length - 1 by omega, wrap, i0]
          have L := hlw (ps.length - 1)
          rw [show ps.length - 1 + 1 = ps.length + 0 by omega, show ps.length - 1 + 2 = ps.length + 1 by omega, wrap, wrap, i0] at L
          exact L)
      have ra : ∀ j, j ≤ ps.length - 2 → gp (arc ps ((i + 2) % ps.length) (ps.length - 1)) j = gp (arc ps ((i + 2) % ps.length) (ps.length - 2)) j := fun j hj => by rw [arc_at ps (by omega), arc_at ps hj]
      have rv : gp (arc ps ((i + 2) % ps.length) (ps.length - 1)) (ps.length - 1) = gp ps ((i + 1) % ps.length) := by rw [arc_at ps (Nat.le_refl _), pl, show 2 + (ps.length - 1) = ps.length + 1 by omega, wrap]
      intro a b c hab hbc hcl
      rw [arc_len] at hcl
      rw [ra a (by omega), ra b (by omega)]
      by_cases ec : c = ps.length - 1
      · rw [ec, rv]; exact M a b hab (by omega)
      · rw [ra c (by omega)]; exact IH a b c hab hbc (by rw [ql]; omega)
/-- The same, said of parts of the list. -/
theorem CI_conv {ps : List Pt} (h : CI ps) : ConvP ps := by
  intro a b c hs
  obtain ⟨is, e, hp⟩ := List.sublist_eq_map_getElem hs
  match is, e, hp with
  | [i, j, k], e, hp =>
    simp only [List.map_cons, List.map_nil, List.cons.injEq, and_true] at e
    obtain ⟨e1, e2, e3⟩ := e
    simp only [List.pairwise_cons, List.mem_cons, List.not_mem_nil, or_false, forall_eq_or_imp, forall_eq, false_imp_iff, implies_true, List.Pairwise.nil, and_true] at hp
    have := h i.1 j.1 k.1 hp.1.1 hp.2 k.2
    rw [gp_lt i.2, gp_lt j.2, gp_lt k.2] at this
    rw [e1, e2, e3]
    exact this
theorem convB_conv {ps : List Pt} (h : convB ps = true) : ConvP ps := by
  unfold convB leftB at h
  simp only [Bool.and_eq_true, List.all_eq_true, List.mem_range, decide_eq_true_eq] at h
  exact CI_conv (left_conv _ ps rfl (sim_of h.1) h.2)
end Go.Proofs.Ytelhidonhldjeaa
/- Parts of a segment; polygons k times as large. No program in sight. -/
set_option linter.unusedVariables false
set_option linter.unusedSimpArgs false
namespace Go.Proofs.Ytelhidonhldjeaa
open Go.RowKit

/-! ### points of one line -/
def Mid1 (a b p : Int) : Prop := (a ≤ p ∧ p ≤ b) ∨ (b ≤ p ∧ p ≤ a)
theorem mid1_iff (a b p : Int) : (a - p) * (b - p) ≤ 0 ↔ Mid1 a b p := by
  unfold Mid1
  constructor
  · intro h
    refine Classical.byContradiction fun hn => ?_
    rcases Int.lt_or_le a p with ha | ha
    · have : b < p := by omega
      have := Int.mul_pos (show 0 < p - a by omega) (show 0 < p - b by omega)
      have e : (p - a) * (p - b) = (a - p) * (b - p) := by grind
      omega
    · have : p < a := by omega
      have : p < b := by omega
      have := Int.mul_pos (show 0 < a - p by omega) (show 0 < b - p by omega)
      omega
  · rintro (⟨h1, h2⟩ | ⟨h1, h2⟩)
    · have := Int.mul_nonneg (show 0 ≤ p - a by omega) (show 0 ≤ b - p by omega)
      have e : (a - p) * (b - p) = -((p - a) * (b - p)) := by grind
      omega
    · have := Int.mul_nonneg (show 0 ≤ a - p by omega) (show 0 ≤ p - b by omega)
      have e : (a - p) * (b - p) = -((a - p) * (p - b)) := by grind
      omega
theorem line_y {v z a p : Pt} (ha : trn v z a = 0) (hp : trn v z p = 0) : (a.x - p.x) * (z.y - v.y) = (a.y - p.y) * (z.x - v.x) := by
  unfold trn at ha hp; grind
/-- On one line all is told by one number. -/
theorem line_f {v z : Pt} (h : v ≠ z) : ∃ f : Pt → Int, (∀ a b p, trn v z a = 0 → trn v z b = 0 → trn v z p = 0 → (onSeg a b p = true ↔ Mid1 (f a) (f b) (f p))) ∧ ∀ a b, trn v z a = 0 → trn v z b = 0 → f a = f b → a = b := by
  by_cases hy : v.y = z.y
  · have hx : v.x ≠ z.x := fun e => h (pt_eq e hy)
    have ly : ∀ a, trn v z a = 0 → a.y = v.y := fun a ha => by
      unfold trn at ha
      rw [show z.y - v.y = 0 by omega, Int.zero_mul, Int.sub_zero] at ha
      rcases Int.mul_eq_zero.1 ha with e | e <;> omega
    refine ⟨fun p => p.x, fun a b p ha hb hp => ?_, fun a b ha hb e => pt_eq e (by rw [ly a ha, ly b hb])⟩
    have h1 := ly a ha; have h2 := ly b hb; have h3 := ly p hp
    rw [← mid1_iff]
    unfold onSeg trn
    rw [h1, h2, h3]
    simp
  · have hu : z.y - v.y ≠ 0 := by omega
    have hq : 0 < (z.y - v.y) * (z.y - v.y) := by
      rcases Int.lt_or_le 0 (z.y - v.y) with h | h
      · exact Int.mul_pos h h
      · exact Int.mul_pos_of_neg_of_neg (by omega) (by omega)
    have hn := sq_nonneg' (z.x - v.x)
    refine ⟨fun p => p.y, fun a b p ha hb hp => ?_, fun a b ha hb e => pt_eq ?_ e⟩
    · have l1 := line_y ha hp
      have l2 := line_y hb hp
      rw [← mid1_iff]
      have t : trn a b p = 0 := by
        have l3 := line_y hb ha
        have l4 := line_y hp ha
        have : trn a b p * (z.y - v.y) = 0 := by unfold trn; grind
        rcases Int.mul_eq_zero.1 this with e | e
        · exact e
        · exact absurd e hu
      have key : ((a.x - p.x) * (b.x - p.x) + (a.y - p.y) * (b.y - p.y)) * ((z.y - v.y) * (z.y - v.y)) = ((a.y - p.y) * (b.y - p.y)) * ((z.x - v.x) * (z.x - v.x) + (z.y - v.y) * (z.y - v.y)) := by grind
      unfold onSeg
      rw [t]
      simp only [decide_true, Bool.true_and, decide_eq_true_eq]
      constructor
      · intro hd
        refine Classical.byContradiction fun hc => ?_
        have p1 := Int.mul_pos (show 0 < (a.y - p.y) * (b.y - p.y) by omega) (show 0 < (z.x - v.x) * (z.x - v.x) + (z.y - v.y) * (z.y - v.y) by omega)
        have p2 := Int.mul_nonneg (show 0 ≤ -((a.x - p.x) * (b.x - p.x) + (a.y - p.y) * (b.y - p.y)) by omega) (show 0 ≤ (z.y - v.y) * (z.y - v.y) by omega)
        rw [Int.neg_mul] at p2
        omega
      · intro hd
        refine Classical.byContradiction fun hc => ?_
        have p1 := Int.mul_pos (show 0 < (a.x - p.x) * (b.x - p.x) + (a.y - p.y) * (b.y - p.y) by omega) hq
        have p2 := Int.mul_nonneg (show 0 ≤ -((a.y - p.y) * (b.y - p.y)) by omega) (show 0 ≤ (z.x - v.x) * (z.x - v.x) + (z.y - v.y) * (z.y - v.y) by omega)
        rw [Int.neg_mul] at p2
        omega
    · have l := line_y ha hb
      rw [show a.y - b.y = 0 by simp at e; omega, Int.zero_mul] at l
      rcases Int.mul_eq_zero.1 l with h | h
      · omega
      · exact absurd h hu
/-- Two points of a line lie on it from everywhere. -/
theorem line_on {v z c d p : Pt} (h : v ≠ z) (hc : trn v z c = 0) (hd : trn v z d = 0) (hp : trn v z p = 0) : trn c d p = 0 := by
  have l1 := line_y hc hp
  have l2 := line_y hd hp
  have e1 : trn c d p * (z.y - v.y) = 0 := by unfold trn; grind
  have e2 : trn c d p * (z.x - v.x) = 0 := by unfold trn; grind
  refine Classical.byContradiction fun hn => h ?_
  rcases Int.mul_eq_zero.1 e1 with e | e
  · exact absurd e hn
  · rcases Int.mul_eq_zero.1 e2 with f | f
    · exact absurd f hn
    · exact pt_eq (by omega) (by omega)
theorem on_ne {a p : Pt} (h : onSeg a a p = true) : p = a := by
  unfold onSeg at h
  simp only [Bool.and_eq_true, decide_eq_true_eq] at h
  have h1 := sq_nonneg' (a.x - p.x)
  have h2 := sq_nonneg' (a.y - p.y)
  have z1 : (a.x - p.x) * (a.x - p.x) = 0 := by omega
  have z2 : (a.y - p.y) * (a.y - p.y) = 0 := by omega
  have := Int.mul_eq_zero.1 z1
  have := Int.mul_eq_zero.1 z2
  exact pt_eq (by omega) (by omega)
/-- A part of a segment. -/
theorem on_part {v z m p : Pt} (hm : onSeg v z m = true) (hp : onSeg v m p = true) : onSeg v z p = true := by
  by_cases h : v = z
  · subst h
    rw [on_ne hm] at hp
    exact hp
  · by_cases hvm : v = m
    · subst hvm
      rw [on_ne hp]
      exact hm
    · obtain ⟨f, f1, f2⟩ := line_f h
      have m0 := onS_iff hm
      have v0 : trn v z v = 0 := trn_aba v z
      have z0 : trn v z z = 0 := trn_abb v z
      have q0 : trn v m z = 0 := by
        have : trn v m z = -trn v z m := by unfold trn; grind
        omega
      have p0 : trn v z p = 0 := line_on hvm (trn_aba v m) q0 (onS_iff hp)
      have a1 := (f1 v z m v0 z0 m0).1 hm
      have a2 := (f1 v m p v0 m0 p0).1 hp
      refine (f1 v z p v0 z0 p0).2 ?_
      unfold Mid1 at *
      omega
/-- A path that does not meet an edge: its parts do not. -/
theorem dj_part {c d v z m : Pt} (hcd : c ≠ d) (h : Dj c d v z) (hm : onSeg v z m = true) : Dj c d v m := by
  by_cases hvm : v = m
  · subst hvm
    refine ⟨h.nq, h.nq, ?_, ?_, ?_⟩
    · rw [← Bool.not_eq_true]; exact fun hh => by rw [on_ne hh] at h; have := h.nq; rw [onSeg_end1] at this; cases this
    · rw [← Bool.not_eq_true]; exact fun hh => by rw [on_ne hh] at h; have := h.nq; rw [onSeg_end2] at this; cases this
    · rintro ⟨h1, _⟩; omega
  have hvz : v ≠ z := fun e => by subst e; exact hvm (on_ne hm).symm
  have m0 := onS_iff hm
  obtain ⟨w1, w2, w3⟩ := seg_wgt hm
  have sp := sqd_pos hvz
  have sm := sqd_pos hvm
  have sn := sqd_nn z m
  have sv := seg_side m0 c d
  have nc : onSeg v m c = false := by rw [← Bool.not_eq_true]; exact fun hh => by have := on_part hm hh; rw [h.na] at this; cases this
  have nd : onSeg v m d = false := by rw [← Bool.not_eq_true]; exact fun hh => by have := on_part hm hh; rw [h.nb] at this; cases this
  have side : ∀ p, sqd v z * trn v m p = wgt v z m * trn v z p := fun p => by
    have e := seg_side m0 p v
    rw [show trn p v m = trn v m p from trn_r2 v m p |>.symm ▸ (by unfold trn; grind), show trn p v v = 0 from trn_abb p v, show trn p v z = trn v z p by unfold trn; grind] at e
    omega
  refine ⟨h.nq, ?_, nc, nd, ?_⟩
  · rw [← Bool.not_eq_true]
    intro hc
    have c0 := onS_iff hc
    obtain ⟨x1, x2, x3⟩ := seg_wgt hc
    have sc := sqd_pos hcd
    have sc1 := sqd_nn c m
    have sd1 := sqd_nn d m
    have ss := seg_side c0 v z
    rw [m0, Int.mul_zero] at ss
    rw [c0, Int.mul_zero] at sv
    by_cases tv : trn c d v = 0
    · -- all on one line
      rw [tv, Int.mul_zero, Int.zero_add] at sv
      have tz : trn c d z = 0 := by
        rcases Int.mul_eq_zero.1 sv.symm with e | e
        · omega
        · exact e
      obtain ⟨f, f1, f2⟩ := line_f hcd
      have cc : trn c d c = 0 := trn_aba c d
      have dd : trn c d d = 0 := trn_abb c d
      have a1 := (f1 v z m tv tz c0).1 hm
      have a2 := (f1 c d m cc dd c0).1 hc
      have n1 : ¬ Mid1 (f c) (f d) (f v) := fun hh => by have := (f1 c d v cc dd tv).2 hh; rw [h.nq] at this; cases this
      have n2 : ¬ Mid1 (f c) (f d) (f z) := fun hh => by have := (f1 c d z cc dd tz).2 hh; rw [h.nr] at this; cases this
      have n3 : ¬ Mid1 (f v) (f z) (f c) := fun hh => by have := (f1 v z c tv tz cc).2 hh; rw [h.na] at this; cases this
      unfold Mid1 at *
      omega
    · have hz : trn c d z ≠ 0 := fun e => by
        rw [e, Int.mul_zero, Int.add_zero] at sv
        rcases Int.mul_eq_zero.1 sv.symm with e1 | e1
        · have : sqd z m = 0 := by omega
          have hzm : z = m := Classical.byContradiction fun hne => by have := sqd_pos hne; omega
          rw [← hzm, h.nr] at hc; cases hc
        · exact tv e1
      have wz : 0 < wgt z v m := by
        refine Classical.byContradiction fun hn => ?_
        have : sqd z m = 0 := by omega
        have hzm : z = m := Classical.byContradiction fun hne => by have := sqd_pos hne; omega
        rw [← hzm, h.nr] at hc; cases hc
      have wv : 0 < wgt v z m := by omega
      have opp : (0 < trn c d v ∧ trn c d z < 0) ∨ (trn c d v < 0 ∧ 0 < trn c d z) := by
        rcases Int.lt_or_le 0 (trn c d v) with h1 | h1
        · refine .inl ⟨h1, ?_⟩
          have := Int.mul_pos wz h1
          exact neg_of wv (by omega)
        · refine .inr ⟨by omega, ?_⟩
          have := mul_lt0 wz (show trn c d v < 0 by omega)
          exact prod_pos (u := wgt v z m) (by omega) wv
      by_cases s0 : trn v z c = 0
      · rw [s0, Int.mul_zero, Int.zero_add] at ss
        rcases Int.mul_eq_zero.1 ss.symm with e | e
        · have : sqd c m = 0 := by omega
          have hcm : c = m := Classical.byContradiction fun hne => by have := sqd_pos hne; omega
          rw [← hcm, h.na] at hm; cases hm
        · exact tv (line_on hvz s0 e (trn_aba v z))
      · have t0 : trn v z d ≠ 0 := fun e => by
          rw [e, Int.mul_zero, Int.add_zero] at ss
          rcases Int.mul_eq_zero.1 ss.symm with e1 | e1
          · have : sqd d m = 0 := by omega
            have hdm : d = m := Classical.byContradiction fun hne => by have := sqd_pos hne; omega
            rw [← hdm, h.nb] at hm; cases hm
          · exact s0 e1
        have wc : 0 < wgt d c m := by
          refine Classical.byContradiction fun hn => ?_
          have : sqd d m = 0 := by omega
          have hdm : d = m := Classical.byContradiction fun hne => by have := sqd_pos hne; omega
          rw [← hdm, h.nb] at hm; cases hm
        have wd : 0 < wgt c d m := by
          refine Classical.byContradiction fun hn => ?_
          have : sqd c m = 0 := by omega
          have hcm : c = m := Classical.byContradiction fun hne => by have := sqd_pos hne; omega
          rw [← hcm, h.na] at hm; cases hm
        refine h.nx ⟨opp, ?_⟩
        rcases Int.lt_or_le 0 (trn v z c) with h1 | h1
        · refine .inl ⟨h1, ?_⟩
          have := Int.mul_pos wc h1
          exact neg_of wd (by omega)
        · refine .inr ⟨by omega, ?_⟩
          have := mul_lt0 wc (show trn v z c < 0 by omega)
          exact prod_pos (u := wgt c d m) (by omega) wd
  · rintro ⟨h1, h2⟩
    have wv : 0 < wgt v z m := by omega
    have k1 := side c
    have k2 := side d
    have up : ∀ {x y : Int}, sqd v z * x = wgt v z m * y → (0 < x → 0 < y) ∧ (x < 0 → y < 0) := fun {x y} e => ⟨fun hx => by
      have := Int.mul_pos sp hx
      exact prod_pos (u := wgt v z m) (by omega) wv, fun hx => by
      have := mul_lt0 sp hx
      exact neg_of wv (by omega)⟩
    have u1 := up k1
    have u2 := up k2
    refine h.nx ⟨?_, h2.elim (fun hh => .inl ⟨u1.1 hh.1, u2.2 hh.2⟩) (fun hh => .inr ⟨u1.2 hh.1, u2.1 hh.2⟩)⟩
    rcases h1 with ⟨a1, a2⟩ | ⟨a1, a2⟩
    · refine .inl ⟨a1, ?_⟩
      refine Classical.byContradiction fun hn => ?_
      have q1 := Int.mul_nonneg (show 0 ≤ wgt z v m by omega) (show 0 ≤ trn c d v by omega)
      have q2 := Int.mul_nonneg (show 0 ≤ wgt v z m by omega) (show 0 ≤ trn c d z by omega)
      have q3 := mul_lt0 sp a2
      omega
    · refine .inr ⟨a1, ?_⟩
      refine Classical.byContradiction fun hn => ?_
      have q1 := Int.mul_nonneg (show 0 ≤ wgt z v m by omega) (show 0 ≤ -trn c d v by omega)
      have q2 := Int.mul_nonneg (show 0 ≤ wgt v z m by omega) (show 0 ≤ -trn c d z by omega)
      have q3 := Int.mul_pos sp a2
      rw [Int.mul_neg] at q1 q2
      omega
/-- An edge that a path reaches at its end only: the path's parts do not meet it. -/
theorem dj_end {d v z m : Pt} (hvz : v ≠ z) (hzd : z ≠ d) (h1 : onSeg z d v = false) (h2 : onSeg v z d = false) (hm : onSeg v z m = true) (hmz : m ≠ z) : Dj z d v m := by
  have m0 := onS_iff hm
  obtain ⟨w1, w2, w3⟩ := seg_wgt hm
  have sp := sqd_pos hvz
  have sz := sqd_pos (fun e : z = m => hmz e.symm)
  have sn := sqd_nn v m
  have sv := seg_side m0 z d
  rw [show trn z d z = 0 from trn_aba z d, Int.mul_zero, Int.add_zero] at sv
  refine ⟨h1, ?_, ?_, ?_, ?_⟩
  · rw [← Bool.not_eq_true]
    intro hc
    have c0 := onS_iff hc
    rw [c0, Int.mul_zero] at sv
    rcases Int.mul_eq_zero.1 sv.symm with e | e
    · omega
    · obtain ⟨f, f1, f2⟩ := line_f hzd
      have zz : trn z d z = 0 := trn_aba z d
      have dd : trn z d d = 0 := trn_abb z d
      have a1 := (f1 v z m e zz c0).1 hm
      have a2 := (f1 z d m zz dd c0).1 hc
      have n1 : ¬ Mid1 (f z) (f d) (f v) := fun hh => by have := (f1 z d v zz dd e).2 hh; rw [h1] at this; cases this
      have n2 : ¬ Mid1 (f v) (f z) (f d) := fun hh => by have := (f1 v z d e zz dd).2 hh; rw [h2] at this; cases this
      have n3 : f m ≠ f z := fun hh => hmz (f2 m z c0 zz hh)
      unfold Mid1 at *
      omega
  · rw [← Bool.not_eq_true]
    intro hc
    obtain ⟨f, f1, f2⟩ := line_f hvz
    have v0 : trn v z v = 0 := trn_aba v z
    have z0 : trn v z z = 0 := trn_abb v z
    have a1 := (f1 v z m v0 z0 m0).1 hm
    have a2 := (f1 v m z v0 m0 z0).1 hc
    have n3 : f m ≠ f z := fun hh => hmz (f2 m z m0 z0 hh)
    unfold Mid1 at *
    omega
  · rw [← Bool.not_eq_true]; exact fun hh => by have := on_part hm hh; rw [h2] at this; cases this
  · rintro ⟨_, h⟩
    have : trn v m z = 0 := by rw [← trn_r1, ← trn_r1, trn_r1]; unfold trn at *; grind
    omega
end Go.Proofs.Ytelhidonhldjeaa
/- Polygons k times as large; points of a chord; diagonals. No program in sight. -/
set_option linter.unusedVariables false
set_option linter.unusedSimpArgs false
namespace Go.Proofs.Ytelhidonhldjeaa
open Go.RowKit

/-! ### k times as large -/
def scP (k : Int) (p : Pt) : Pt := ⟨k * p.x, k * p.y⟩
theorem gp_sc (k : Int) (ps : List Pt) (i : Nat) : gp (ps.map (scP k)) i = scP k (gp ps i) := by
  by_cases h : i < ps.length
  · rw [gp_lt h, gp_lt (by rw [List.length_map]; exact h), List.getElem_map]
  · unfold gp
    rw [List.getD_eq_getElem?_getD, List.getD_eq_getElem?_getD, List.getElem?_eq_none (by rw [List.length_map]; omega), List.getElem?_eq_none (by omega)]
    show (⟨0, 0⟩ : Pt) = scP k ⟨0, 0⟩
    unfold scP; simp
theorem trn_sc (k : Int) (a b c : Pt) : trn (scP k a) (scP k b) (scP k c) = k * k * trn a b c := by unfold trn scP; grind
theorem sc_pos {k : Int} (hk : 0 < k) (x : Int) : (0 < k * k * x ↔ 0 < x) ∧ (k * k * x < 0 ↔ x < 0) ∧ (k * k * x = 0 ↔ x = 0) := by
  have h2 : 0 < k * k := Int.mul_pos hk hk
  have h3 := (sg_pp (v := x) h2)
  exact ⟨h3.1, h3.2, by have := h3.1; have := h3.2; omega⟩
theorem sc_lt {k : Int} (hk : 0 < k) (x y : Int) : (k * x < k * y ↔ x < y) ∧ (k * x ≤ k * y ↔ x ≤ y) ∧ (k * x = k * y ↔ x = y) := by
  have h1 := (sg_pp (u := k) (v := y - x) hk)
  rw [Int.mul_sub] at h1
  omega
theorem onSeg_sc {k : Int} (hk : 0 < k) (a b p : Pt) : onSeg (scP k a) (scP k b) (scP k p) = onSeg a b p := by
  have h2 : 0 < k * k := Int.mul_pos hk hk
  unfold onSeg
  rw [trn_sc, Bool.eq_iff_iff]
  simp only [Bool.and_eq_true, decide_eq_true_eq]
  have e : ((scP k a).x - (scP k p).x) * ((scP k b).x - (scP k p).x) + ((scP k a).y - (scP k p).y) * ((scP k b).y - (scP k p).y) = k * k * ((a.x - p.x) * (b.x - p.x) + (a.y - p.y) * (b.y - p.y)) := by unfold scP; grind
  rw [e]
  have h3 := sc_pos hk (trn a b p)
  have h4 := sc_pos hk ((a.x - p.x) * (b.x - p.x) + (a.y - p.y) * (b.y - p.y))
  omega
theorem dj_sc {k : Int} (hk : 0 < k) {a b q r : Pt} (h : Dj a b q r) : Dj (scP k a) (scP k b) (scP k q) (scP k r) := by
  refine ⟨by rw [onSeg_sc hk]; exact h.nq, by rw [onSeg_sc hk]; exact h.nr, by rw [onSeg_sc hk]; exact h.na, by rw [onSeg_sc hk]; exact h.nb, ?_⟩
  have := h.nx
  simp only [trn_sc, (sc_pos hk _).1, (sc_pos hk _).2.1]
  exact this
theorem low_sc {k : Int} (hk : 0 < k) (q x : Pt) : LowP (scP k q) (scP k x) ↔ LowP q x := by
  unfold LowP scP
  simp only [(sc_lt hk _ _).1, (sc_lt hk _ _).2.2]
theorem opp_sc {k : Int} (hk : 0 < k) {o q r : Pt} (h : Opp o q r) : Opp (scP k o) (scP k q) (scP k r) := by
  unfold Opp at *
  rw [trn_sc, (sc_pos hk _).2.2, low_sc hk, low_sc hk]
  exact h
theorem rho_sc {k : Int} (hk : 0 < k) (o q r : Pt) : rho (scP k o) (scP k q) (scP k r) = rho o q r := by
  have : LeftE (scP k o) (scP k q) (scP k r) ↔ LeftE o q r := by
    unfold LeftE
    rw [trn_sc, (sc_pos hk _).1, low_sc hk, low_sc hk]
  unfold rho
  simp only [this]
theorem cw_sc {k : Int} (hk : 0 < k) (a b q : Pt) : cw (scP k a) (scP k b) (scP k q) = cw a b q := by
  unfold cw
  rw [trn_sc]
  unfold scP
  simp only [(sc_lt hk _ _).1, (sc_lt hk _ _).2.1, (sc_pos hk _).1, (sc_pos hk _).2.1]
theorem wn_sc {k : Int} (hk : 0 < k) (ps : List Pt) (q : Pt) : wn (ps.map (scP k)) (scP k q) = wn ps q := by
  unfold wn
  rw [List.length_map]
  exact sumN_congr fun j _ => by rw [gp_sc, gp_sc, cw_sc hk]
theorem sim_sc {k : Int} (hk : 0 < k) {ps : List Pt} (h : Sim ps) : Sim (ps.map (scP k)) := by
  refine ⟨by rw [List.length_map]; exact h.three, ?_, fun i j hi hj n1 n2 n3 => ?_, fun i hi => ?_⟩
  · unfold List.Nodup
    rw [List.pairwise_map]
    exact h.nodup.imp fun {a b} hne e => hne (by
      unfold scP at e
      simp only [Pt.mk.injEq, (sc_lt hk _ _).2.2] at e
      exact pt_eq e.1 e.2)
  · rw [List.length_map] at *
    rw [gp_sc, gp_sc, gp_sc, gp_sc]
    exact dj_sc hk (h.apart i j hi hj n1 n2 n3)
  · rw [List.length_map] at *
    rw [gp_sc, gp_sc, gp_sc]
    exact opp_sc hk (h.opp i hi)
theorem Lft_sc {k : Int} (hk : 0 < k) (ps : List Pt) : Lft (ps.map (scP k)) = Lft ps := by
  unfold Lft Lf
  rw [List.length_map, gp_sc, gp_sc, gp_sc, wn_sc hk, rho_sc hk]
theorem cho_sc {k : Int} (hk : 0 < k) {ps : List Pt} {i z : Nat} (c : Cho ps i z) : Cho (ps.map (scP k)) i z := by
  have hl : (ps.map (scP k)).length = ps.length := List.length_map _
  refine ⟨by rw [hl]; exact c.hi, by rw [hl]; exact c.hk, c.ne, by rw [hl]; exact c.n1, by rw [hl]; exact c.n2, fun j hj n1 n2 n3 n4 => ?_, fun j hj n1 n2 => ?_⟩
  · rw [hl] at hj n2 n4 ⊢
    rw [gp_sc, gp_sc, gp_sc, gp_sc]
    exact dj_sc hk (c.far j hj n1 n2 n3 n4)
  · rw [hl] at hj
    rw [gp_sc, gp_sc, gp_sc, onSeg_sc hk]
    exact c.off j hj n1 n2
/-! ### the points of a chord -/
theorem cone_part {o q r z m : Pt} (hqz : q ≠ z) (hm : onSeg q z m = true) (hqm : m ≠ q) : out01 o q r m = out01 o q r z := by
  have m0 := onS_iff hm
  obtain ⟨w1, w2, w3⟩ := seg_wgt hm
  have sp := sqd_pos hqz
  have sm := sqd_pos (fun e : q = m => hqm e.symm)
  have e1 := seg_side m0 o q
  have e2 := seg_side m0 q r
  rw [show trn o q q = 0 from trn_abb o q, Int.mul_zero, Int.zero_add] at e1
  rw [show trn q r q = 0 from trn_aba q r, Int.mul_zero, Int.zero_add] at e2
  have wz : 0 < wgt q z m := by omega
  have up : ∀ {x y : Int}, sqd q z * x = wgt q z m * y → (0 < x ↔ 0 < y) ∧ (x ≤ 0 ↔ y ≤ 0) := fun {x y} e => by
    have a1 := sg_pp (v := x) sp
    have a2 := sg_pp (v := y) wz
    rw [e] at a1
    omega
  have u1 := up e1
  have u2 := up e2
  have : InCone o q r m ↔ InCone o q r z := by
    unfold InCone
    rw [u1.1, u1.2, u2.1, u2.2]
  unfold out01
  simp only [this]
/-- A point of a chord lies on no edge, and is left of the polygon just where the chord leaves it within the corner. -/
theorem chord_at {ps : List Pt} (h : Sim ps) {i z : Nat} (hi : i < ps.length) (c : Cho ps ((i + 1) % ps.length) z) {m : Pt} (hm : onSeg (gp ps ((i + 1) % ps.length)) (gp ps z) m = true) (m1 : m ≠ gp ps ((i + 1) % ps.length)) (m2 : m ≠ gp ps z) :
    (∀ j, j < ps.length → onSeg (gp ps j) (gp ps ((j + 1) % ps.length)) m = false) ∧ wn ps m = Lft ps - out01 (gp ps i) (gp ps ((i + 1) % ps.length)) (gp ps ((i + 2) % ps.length)) (gp ps z) := by
  have hv := c.hi
  have hz := c.hk
  have h4 := c.four
  have hn : 0 < ps.length := by omega
  have mi := mod_next hi
  have mv := mod_next hv
  rw [mod2] at mv
  have hb : (i + 2) % ps.length < ps.length := Nat.mod_lt _ hn
  have n1 : i ≠ (i + 1) % ps.length := by split at mi <;> omega
  have n2 : (i + 2) % ps.length ≠ (i + 1) % ps.length := by split at mv <;> omega
  have z1 : z ≠ i := fun e => by subst e; exact c.n2 rfl
  have z2 : z ≠ (i + 2) % ps.length := fun e => c.n1 (by rw [mod2]; exact e)
  have hvz := sim_ne h hv hz c.ne
  have hm' : onSeg (gp ps z) (gp ps ((i + 1) % ps.length)) m = true := by rw [onSeg_swap]; exact hm
  -- the edges at the corner
  have D1 : Dj (gp ps ((i + 1) % ps.length)) (gp ps i) (gp ps z) m := dj_end hvz.symm (sim_ne h hv hi n1.symm) (by rw [onSeg_swap]; exact vertex_off h h4 hi hz z1 c.ne.symm) (by rw [onSeg_swap]; exact c.off i hi n1 z1.symm) hm' m1
  have D2 : Dj (gp ps ((i + 1) % ps.length)) (gp ps ((i + 2) % ps.length)) (gp ps z) m := dj_end hvz.symm (sim_ne h hv hb n2.symm) (by
    have := vertex_off h h4 hv hz c.ne.symm c.n1
    rw [mod2] at this
    exact this) (by rw [onSeg_swap]; exact c.off _ hb n2 z2.symm) hm' m1
  have far : ∀ j, j < ps.length → j ≠ i → j ≠ (i + 1) % ps.length → Dj (gp ps j) (gp ps ((j + 1) % ps.length)) (gp ps ((i + 1) % ps.length)) m := fun j hj j1 j2 => by
    have hj1 : (j + 1) % ps.length < ps.length := Nat.mod_lt _ hn
    have mj := mod_next hj
    have k1 : (j + 1) % ps.length ≠ (i + 1) % ps.length := fun e => by split at mi <;> split at mj <;> omega
    have jj : j ≠ (j + 1) % ps.length := by split at mj <;> omega
    by_cases e1 : j = z
    · subst e1
      exact dj_end hvz (sim_ne h hj hj1 jj) (vertex_off h h4 hj hv c.ne c.n2) (c.off _ hj1 k1 jj.symm) hm m2
    · by_cases e2 : (j + 1) % ps.length = z
      · have := dj_end (d := gp ps j) hvz (sim_ne h hz hj (Ne.symm e1)) (by
          rw [onSeg_swap]
          have := vertex_off h h4 hj hv (Ne.symm j2) (fun e => k1 e.symm)
          rw [e2] at this
          exact this) (c.off j hj j2 e1) hm m2
        rw [e2]
        exact this.swap1
      · exact dj_part (sim_ne h hj hj1 jj) (c.far j hj j2 k1 e1 e2) hm
  have o1 : Opp (gp ps i) (gp ps ((i + 1) % ps.length)) m := opp_on (sim_ne h hi hv n1) m1.symm (by
    rw [← Bool.not_eq_true]
    intro hh
    have := on_part hm hh
    rw [c.off i hi n1 z1.symm] at this
    cases this) (by rw [onSeg_swap]; exact D1.nr)
  have o2 : Opp (gp ps ((i + 2) % ps.length)) (gp ps ((i + 1) % ps.length)) m := opp_on (sim_ne h hb hv n2) m1.symm (by
    rw [← Bool.not_eq_true]
    intro hh
    have := on_part hm hh
    rw [c.off _ hb n2 z2.symm] at this
    cases this) (by rw [onSeg_swap]; exact D2.nr)
  refine ⟨fun j hj => ?_, ?_⟩
  · by_cases j1 : j = i
    · rw [j1, onSeg_swap]; exact D1.nr
    · by_cases j2 : j = (i + 1) % ps.length
      · rw [j2, mod2]; exact D2.nr
      · exact (far j hj j1 j2).nr
  · rw [wn_see h hi m1 far o1 o2, cone_part hvz hm m1]
/-- The cone of a corner that turns the other way around. -/
theorem cone_rev {o q r x : Pt} (hx : x ≠ q) (ho : o ≠ q) (hr : r ≠ q) (p1 : Opp o q r) (p2 : Opp o q x) (p3 : Opp r q x) : out01 r q o x = 1 - out01 o q r x := by
  have s1 := sector ho hr hx p1 p2 p3
  have p1' : Opp r q o := fun h => by
    have := p1 (by have : trn r q o = -trn o q r := by unfold trn; grind
                   omega)
    by_cases a : LowP q o <;> by_cases b : LowP q r <;> simp_all
  have s2 := sector hr ho hx p1' p3 p2
  have r1 := rho_rev ho hr p1
  omega
end Go.Proofs.Ytelhidonhldjeaa
/- Diagonals: what the two ways to tell them compute. No program in sight. -/
set_option linter.unusedVariables false
set_option linter.unusedSimpArgs false
namespace Go.Proofs.Ytelhidonhldjeaa
open Go.RowKit

/-! ### where a point lies -/
def onAny (ps : List Pt) (q : Pt) : Bool := (List.range ps.length).any fun j => onSeg (gp ps j) (gp ps ((j + 1) % ps.length)) q
def cwTo (ps : List Pt) (q : Pt) (k : Nat) : Int := sumN (fun j => cw (gp ps j) (gp ps ((j + 1) % ps.length)) q) k
def inK (ps : List Pt) (q : Pt) (k : Nat) : Int := if cwTo ps q k % 2 = 0 then -1 else 1
def locI (ps : List Pt) (q : Pt) : Int := if onAny ps q then 0 else inK ps q ps.length
theorem onAny_no {ps : List Pt} {q : Pt} : onAny ps q = false ↔ ∀ j, j < ps.length → onSeg (gp ps j) (gp ps ((j + 1) % ps.length)) q = false := by
  unfold onAny
  rw [List.any_eq_false]
  simp only [List.mem_range, Bool.not_eq_true]
theorem locI_off {ps : List Pt} {q : Pt} (h : ∀ j, j < ps.length → onSeg (gp ps j) (gp ps ((j + 1) % ps.length)) q = false) : locI ps q = if wn ps q % 2 = 0 then -1 else 1 := by
  unfold locI
  rw [onAny_no.2 h]
  rfl
/-! ### the edges of a diagonal -/
def midP (a b : Pt) : Pt := ⟨a.x + b.x, a.y + b.y⟩
/-- An edge that a diagonal may have beside it: by the common points. -/
def eI (ps : List Pt) (i k j : Nat) : Bool :=
  if isEndB (gp ps i, gp ps k) (gp ps j) || isEndB (gp ps i, gp ps k) (gp ps ((j + 1) % ps.length)) then decide ((cmn (gp ps i, gp ps k) (edgeAt ps j)).length = 1) else decide (relI (gp ps i, gp ps k) (edgeAt ps j) = 0)
/-- The same by places. -/
def eS (ps : List Pt) (i k j : Nat) : Bool :=
  if j = i ∨ j = k ∨ (j + 1) % ps.length = i ∨ (j + 1) % ps.length = k then !((decide (j ≠ i ∧ j ≠ k) && onSeg (gp ps i) (gp ps k) (gp ps j)) || (decide ((j + 1) % ps.length ≠ i ∧ (j + 1) % ps.length ≠ k) && onSeg (gp ps i) (gp ps k) (gp ps ((j + 1) % ps.length)))) else decide (relS (gp ps i, gp ps k) (edgeAt ps j) = 0)
theorem len_one {l : List Pt} {a : Pt} (hd : l.Nodup) (ha : a ∈ l) : l.length = 1 ↔ ∀ q ∈ l, q = a := by
  constructor
  · intro h q hq
    match l, h with
    | [x], _ =>
      simp only [List.mem_cons, List.not_mem_nil, or_false] at ha hq
      rw [hq, ha]
  · intro h
    match l, hd with
    | [], _ => cases ha
    | [x], _ => rfl
    | x :: y :: r, hd =>
      exfalso
      have h1 := h x (by simp)
      have h2 := h y (by simp)
      rw [List.nodup_cons] at hd
      exact hd.1 (by rw [h1, ← h2]; simp)
/-- An edge at the end u of a segment u w; the edge's other end is x. -/
theorem touch_len {s t : Sg} (hs : s.1 ≠ s.2) (ht : t.1 ≠ t.2) {u w x : Pt} (hsu : (s.1 = u ∧ s.2 = w) ∨ (s.1 = w ∧ s.2 = u)) (htu : (t.1 = u ∧ t.2 = x) ∨ (t.1 = x ∧ t.2 = u)) (hw : onS t w = false) :
    decide ((cmn s t).length = 1) = !onS s x := by
  have mem : ∀ q, q ∈ cmn s t ↔ q = u ∨ (q = x ∧ onS s x = true) := fun q => by
    rw [cmn_mem]
    unfold cmnA
    rw [List.mem_filter]
    simp only [List.mem_cons, List.not_mem_nil, or_false, Bool.and_eq_true]
    have us : onS s u = true := by
      rcases hsu with ⟨h, _⟩ | ⟨_, h⟩
      · rw [← h]; exact onSeg_end1 _ _
      · rw [← h]; exact onSeg_end2 _ _
    have ut : onS t u = true := by
      rcases htu with ⟨h, _⟩ | ⟨_, h⟩
      · rw [← h]; exact onSeg_end1 _ _
      · rw [← h]; exact onSeg_end2 _ _
    have xt : onS t x = true := by
      rcases htu with ⟨_, h⟩ | ⟨h, _⟩
      · rw [← h]; exact onSeg_end2 _ _
      · rw [← h]; exact onSeg_end1 _ _
    constructor
    · rintro ⟨hm, h1, h2⟩
      have nw : q ≠ w := fun e => by rw [e, hw] at h2; cases h2
      have : q = u ∨ q = x := by
        rcases hsu with ⟨e1, e2⟩ | ⟨e1, e2⟩ <;> rcases htu with ⟨e3, e4⟩ | ⟨e3, e4⟩ <;> rw [e1, e2, e3, e4] at hm <;> rcases hm with h | h | h | h <;> first | exact absurd h nw | exact .inl h | exact .inr h
      rcases this with h | h
      · exact .inl h
      · exact .inr ⟨h, by rw [← h]; exact h1⟩
    · rintro (h | ⟨h, h1⟩)
      · subst h
        refine ⟨?_, us, ut⟩
        rcases hsu with ⟨e1, e2⟩ | ⟨e1, e2⟩
        · exact .inl e1.symm
        · exact .inr (.inl e2.symm)
      · subst h
        refine ⟨?_, h1, xt⟩
        rcases htu with ⟨e1, e2⟩ | ⟨e1, e2⟩
        · exact .inr (.inr (.inr e2.symm))
        · exact .inr (.inr (.inl e1.symm))
  have hux : u ≠ x := by
    rcases htu with ⟨e1, e2⟩ | ⟨e1, e2⟩
    · rw [← e1, ← e2]; exact ht
    · rw [← e1, ← e2]; exact ht.symm
  have L := len_one (cmn_nodup hs ht) ((mem u).2 (.inl rfl))
  rw [Bool.eq_iff_iff, decide_eq_true_eq, L]
  simp only [Bool.not_eq_true']
  constructor
  · intro hh
    rw [← Bool.not_eq_true]
    exact fun hx => hux (hh x ((mem x).2 (.inr ⟨rfl, hx⟩))).symm
  · intro hx q hq
    rcases (mem q).1 hq with h | ⟨_, h⟩
    · exact h
    · rw [hx] at h; cases h
theorem e_eq {ps : List Pt} (h : Sim ps) (h4 : 4 ≤ ps.length) {i k j : Nat} (hi : i < ps.length) (hk : k < ps.length) (hj : j < ps.length) (hne : i ≠ k) (n1 : k ≠ (i + 1) % ps.length) (n2 : i ≠ (k + 1) % ps.length) : eI ps i k j = eS ps i k j := by
  have hn : 0 < ps.length := by omega
  have hj1 : (j + 1) % ps.length < ps.length := Nat.mod_lt _ hn
  have mj := mod_next hj
  have mi := mod_next hi
  have mk := mod_next hk
  have jj : j ≠ (j + 1) % ps.length := by split at mj <;> omega
  have hs : (gp ps i, gp ps k).1 ≠ (gp ps i, gp ps k).2 := sim_ne h hi hk hne
  have ht : (edgeAt ps j).1 ≠ (edgeAt ps j).2 := sim_ne h hj hj1 jj
  have inj : ∀ {a b : Nat}, a < ps.length → b < ps.length → (gp ps a = gp ps b ↔ a = b) := fun {a b} ha hb => ⟨gp_inj h.nodup ha hb, fun e => by rw [e]⟩
  have own : (isEndB (gp ps i, gp ps k) (gp ps j) || isEndB (gp ps i, gp ps k) (gp ps ((j + 1) % ps.length))) = true ↔ (j = i ∨ j = k ∨ (j + 1) % ps.length = i ∨ (j + 1) % ps.length = k) := by
    rw [Bool.or_eq_true, isEnd_iff, isEnd_iff]
    show (gp ps j = gp ps i ∨ gp ps j = gp ps k) ∨ (gp ps _ = gp ps i ∨ gp ps _ = gp ps k) ↔ _
    rw [inj hj hi, inj hj hk, inj hj1 hi, inj hj1 hk, or_assoc]
  have nee : gp ps i ≠ gp ps k := hs
  unfold eI eS
  by_cases o : j = i ∨ j = k ∨ (j + 1) % ps.length = i ∨ (j + 1) % ps.length = k
  · rw [if_pos (own.2 o), if_pos o]
    rcases o with e | e | e | e
    · subst e
      have := touch_len hs ht (u := gp ps j) (w := gp ps k) (x := gp ps ((j + 1) % ps.length)) (.inl ⟨rfl, rfl⟩) (.inl ⟨rfl, rfl⟩) (vertex_off h h4 hj hk hne.symm n1)
      rw [this]
      simp [jj.symm, n1.symm, onS]
    · subst e
      have := touch_len hs ht (u := gp ps j) (w := gp ps i) (x := gp ps ((j + 1) % ps.length)) (.inr ⟨rfl, rfl⟩) (.inl ⟨rfl, rfl⟩) (vertex_off h h4 hj hi hne n2)
      rw [this]
      simp [jj.symm, n2.symm, onS]
    · have ji : j ≠ i := fun e2 => by rw [e2] at e; rw [e2] at jj; exact jj e.symm
      have jk : j ≠ k := fun e2 => n2 (by rw [← e, e2])
      have V := vertex_off h h4 hj hk (Ne.symm jk) (by rw [e]; exact hne.symm)
      have E : edgeAt ps j = (gp ps j, gp ps i) := by unfold edgeAt; rw [e]
      have := touch_len hs ht (u := gp ps i) (w := gp ps k) (x := gp ps j) (.inl ⟨rfl, rfl⟩) (.inr ⟨by rw [E], by rw [E]⟩) (by unfold onS; exact V)
      rw [this, e]
      simp [ji, jk, onS]
    · have jk : j ≠ k := fun e2 => by rw [e2] at e; rw [e2] at jj; exact jj e.symm
      have ji : j ≠ i := fun e2 => n1 (by rw [← e, e2])
      have V := vertex_off h h4 hj hi (Ne.symm ji) (by rw [e]; exact hne)
      have E : edgeAt ps j = (gp ps j, gp ps k) := by unfold edgeAt; rw [e]
      have := touch_len hs ht (u := gp ps k) (w := gp ps i) (x := gp ps j) (.inr ⟨rfl, rfl⟩) (.inr ⟨by rw [E], by rw [E]⟩) (by unfold onS; exact V)
      rw [this, e]
      simp [ji, jk, onS]
  · rw [if_neg (fun hh => o (own.1 hh)), if_neg o, rel_eq hs ht]
theorem dj_rel {a b q r : Pt} (h : Dj a b q r) : relI (a, b) (q, r) = 0 := by
  have e : cmn (a, b) (q, r) = [] := by
    rw [List.eq_nil_iff_forall_not_mem]
    intro p hp
    rw [cmn_mem] at hp
    unfold cmnA at hp
    rw [List.mem_filter] at hp
    simp only [List.mem_cons, List.not_mem_nil, or_false, Bool.and_eq_true, onS] at hp
    obtain ⟨h0, h1, h2⟩ := hp
    rcases h0 with e | e | e | e <;> subst e
    · rw [h.na] at h2; cases h2
    · rw [h.nb] at h2; cases h2
    · rw [h.nq] at h1; cases h1
    · rw [h.nr] at h1; cases h1
  have x : crossB (a, b) (q, r) = false := by
    rw [← Bool.not_eq_true]
    unfold crossB
    rw [Bool.and_eq_true, decide_eq_true_eq, decide_eq_true_eq]
    rintro ⟨h1, h2⟩
    have un : ∀ {u v : Int}, sgn u * sgn v < 0 → (0 < u ∧ v < 0) ∨ (u < 0 ∧ 0 < v) := fun {u v} hh => by
      rcases Int.lt_trichotomy u 0 with hu | hu | hu <;> rcases Int.lt_trichotomy v 0 with hv | hv | hv
      · rw [sgn_neg hu, sgn_neg hv] at hh; omega
      · subst hv; rw [show sgn 0 = 0 from rfl] at hh; omega
      · exact .inr ⟨hu, hv⟩
      · subst hu; rw [show sgn 0 = 0 from rfl] at hh; omega
      · subst hu; rw [show sgn 0 = 0 from rfl] at hh; omega
      · subst hu; rw [show sgn 0 = 0 from rfl] at hh; omega
      · exact .inl ⟨hu, hv⟩
      · subst hv; rw [show sgn 0 = 0 from rfl] at hh; omega
      · rw [sgn_pos hu, sgn_pos hv] at hh; omega
    exact h.nx ⟨un h1, un h2⟩
  unfold relI
  rw [e, x]; rfl
/-- The edges' tests say that the segment is a chord. -/
theorem eS_cho {ps : List Pt} (h : Sim ps) {i k : Nat} (hi : i < ps.length) (hk : k < ps.length) (hne : i ≠ k) (n1 : k ≠ (i + 1) % ps.length) (n2 : i ≠ (k + 1) % ps.length) : (∀ j, j < ps.length → eS ps i k j = true) ↔ Cho ps i k := by
  have hn : 0 < ps.length := by omega
  have hs : (gp ps i, gp ps k).1 ≠ (gp ps i, gp ps k).2 := sim_ne h hi hk hne
  have ht : ∀ j, j < ps.length → (edgeAt ps j).1 ≠ (edgeAt ps j).2 := fun j hj => sim_ne h hj (Nat.mod_lt _ hn) (by have := mod_next hj; have := h.three; split at * <;> omega)
  constructor
  · intro hh
    have far : ∀ j, j < ps.length → j ≠ i → (j + 1) % ps.length ≠ i → j ≠ k → (j + 1) % ps.length ≠ k → Dj (gp ps j) (gp ps ((j + 1) % ps.length)) (gp ps i) (gp ps k) := fun j hj a b c d => by
      have := hh j hj
      unfold eS at this
      rw [if_neg (by rintro (e | e | e | e) <;> contradiction), decide_eq_true_eq, rel_eq hs (ht j hj)] at this
      exact (rel_dj this).turn
    refine ⟨hi, hk, hne, n1, n2, far, fun j hj a b => ?_⟩
    by_cases c : (j + 1) % ps.length = i ∨ (j + 1) % ps.length = k
    · have := hh j hj
      unfold eS at this
      rw [if_pos (.inr (.inr c))] at this
      simp only [Bool.not_eq_true', Bool.or_eq_false_iff, Bool.and_eq_false_iff] at this
      rcases this.1 with e | e
      · simp [a, b] at e
      · exact e
    · exact (far j hj a (fun e => c (.inl e)) b (fun e => c (.inr e))).na
  · intro c j hj
    unfold eS
    have hj1 : (j + 1) % ps.length < ps.length := Nat.mod_lt _ hn
    by_cases o : j = i ∨ j = k ∨ (j + 1) % ps.length = i ∨ (j + 1) % ps.length = k
    · rw [if_pos o]
      simp only [Bool.not_eq_true', Bool.or_eq_false_iff, Bool.and_eq_false_iff, decide_eq_false_iff_not]
      refine ⟨?_, ?_⟩
      · by_cases e : j ≠ i ∧ j ≠ k
        · exact .inr (c.off j hj e.1 e.2)
        · exact .inl e
      · by_cases e : (j + 1) % ps.length ≠ i ∧ (j + 1) % ps.length ≠ k
        · exact .inr (c.off _ hj1 e.1 e.2)
        · exact .inl e
    · rw [if_neg o, decide_eq_true_eq, rel_eq hs (ht j hj)]
      exact dj_rel (c.far j hj (fun e => o (.inl e)) (fun e => o (.inr (.inr (.inl e)))) (fun e => o (.inr (.inl e))) (fun e => o (.inr (.inr (.inr e))))).turn
/-! ### within -/
theorem mid_on (a b : Pt) : onSeg (scP 2 a) (scP 2 b) (midP a b) = true := by
  unfold onSeg
  simp only [Bool.and_eq_true, decide_eq_true_eq]
  refine ⟨by unfold trn scP midP; grind, ?_⟩
  have h1 := sq_nonneg' (a.x - b.x)
  have h2 := sq_nonneg' (a.y - b.y)
  have e : ((scP 2 a).x - (midP a b).x) * ((scP 2 b).x - (midP a b).x) + ((scP 2 a).y - (midP a b).y) * ((scP 2 b).y - (midP a b).y) = -((a.x - b.x) * (a.x - b.x) + (a.y - b.y) * (a.y - b.y)) := by unfold scP midP; grind
  omega
theorem mid_ne {a b : Pt} (h : a ≠ b) : midP a b ≠ scP 2 a ∧ midP a b ≠ scP 2 b := by
  unfold midP scP
  constructor
  · intro e
    simp only [Pt.mk.injEq] at e
    exact h (pt_eq (by omega) (by omega))
  · intro e
    simp only [Pt.mk.injEq] at e
    exact h (pt_eq (by omega) (by omega))
theorem out_sc {k : Int} (hk : 0 < k) (o q r x : Pt) : out01 (scP k o) (scP k q) (scP k r) (scP k x) = out01 o q r x := by
  have le : ∀ z : Int, k * k * z ≤ 0 ↔ z ≤ 0 := fun z => by have := (sc_pos hk z).1; omega
  have : InCone (scP k o) (scP k q) (scP k r) (scP k x) ↔ InCone o q r x := by
    unfold InCone
    simp only [trn_sc, (sc_pos hk _).1, le]
  unfold out01
  simp only [this]
/-- Within the corner, counterclockwise. -/
def coneB (ps : List Pt) (i k : Nat) : Bool :=
  if areaL ps < 0 then decide (InCone (gp ps ((i + 1) % ps.length)) (gp ps i) (gp ps ((i + ps.length - 1) % ps.length)) (gp ps k)) else decide (InCone (gp ps ((i + ps.length - 1) % ps.length)) (gp ps i) (gp ps ((i + 1) % ps.length)) (gp ps k))
theorem pred_ex {n v : Nat} (hv : v < n) : (v + n - 1) % n < n ∧ ((v + n - 1) % n + 1) % n = v := by
  refine ⟨Nat.mod_lt _ (by omega), ?_⟩
  rw [Nat.mod_add_mod, show v + n - 1 + 1 = v + n by omega, Nat.add_mod_right]
  exact Nat.mod_eq_of_lt hv
theorem loc_cone {ps : List Pt} (h : Sim ps) {v z : Nat} (c : Cho ps v z) : locI (ps.map (scP 2)) (midP (gp ps v) (gp ps z)) = if coneB ps v z then 1 else -1 := by
  have hv := c.hi
  have hz := c.hk
  have h4 := c.four
  obtain ⟨hi, ev⟩ := pred_ex hv
  have hc := c
  generalize ei : (v + ps.length - 1) % ps.length = i at hi ev
  have e2 : (i + 2) % ps.length = (v + 1) % ps.length := by rw [← mod2, ev]
  rw [← ev] at c
  have k2 : (0 : Int) < 2 := by omega
  have hl : (ps.map (scP 2)).length = ps.length := List.length_map _
  have C := chord_at (sim_sc k2 h) (i := i) (z := z) (by rw [hl]; exact hi) (by rw [hl]; exact cho_sc k2 c) (m := midP (gp ps v) (gp ps z)) (by rw [hl, gp_sc, gp_sc, ev]; exact mid_on _ _) (by rw [hl, gp_sc, ev]; exact (mid_ne (sim_ne h hv hz hc.ne)).1) (by rw [gp_sc]; exact (mid_ne (sim_ne h hv hz hc.ne)).2)
  obtain ⟨C1, C2⟩ := C
  rw [locI_off C1, C2, hl, gp_sc, gp_sc, gp_sc, gp_sc, out_sc k2, Lft_sc k2, ev, e2]
  have S := sgn_ok _ ps rfl h
  have mi := mod_next hi
  have mv := mod_next hv
  have hb : (v + 1) % ps.length < ps.length := Nat.mod_lt _ (by omega)
  have niv : i ≠ v := by rw [ev] at mi; split at mi <;> omega
  have nbv : (v + 1) % ps.length ≠ v := by split at mv <;> omega
  have zi : z ≠ i := fun e => hc.n2 (by rw [e]; exact ev.symm)
  unfold coneB
  rw [ei]
  have oc := out_cases (gp ps i) (gp ps v) (gp ps ((v + 1) % ps.length)) (gp ps z)
  rcases S with ⟨s1, s2⟩ | ⟨s1, s2⟩
  · rw [if_neg (show ¬ areaL ps < 0 by omega), s1]
    rcases oc with ⟨o1, o2⟩ | ⟨o1, o2⟩
    · rw [o2, decide_eq_true o1]; rfl
    · rw [o2, decide_eq_false o1]; rfl
  · rw [if_pos s2, s1]
    have p1 : Opp (gp ps i) (gp ps v) (gp ps ((v + 1) % ps.length)) := by have := h.opp i hi; rw [ev, e2] at this; exact this
    have p2 : Opp (gp ps i) (gp ps v) (gp ps z) := opp_on (sim_ne h hi hv niv) (sim_ne h hv hz hc.ne) (hc.off i hi niv zi.symm) (by have := vertex_off h h4 hi hz zi (by rw [ev]; exact hc.ne.symm); rw [ev] at this; exact this)
    have p3 : Opp (gp ps ((v + 1) % ps.length)) (gp ps v) (gp ps z) := opp_on (sim_ne h hb hv nbv) (sim_ne h hv hz hc.ne) (hc.off _ hb nbv hc.n1.symm) (by rw [onSeg_swap]; exact vertex_off h h4 hv hz hc.ne.symm hc.n1)
    have R := cone_rev (sim_ne h hz hv hc.ne.symm) (sim_ne h hi hv niv) (sim_ne h hb hv nbv) p1 p2 p3
    have oc' := out_cases (gp ps ((v + 1) % ps.length)) (gp ps v) (gp ps i) (gp ps z)
    rcases oc' with ⟨o1, o2⟩ | ⟨o1, o2⟩
    · rw [decide_eq_true o1, show out01 (gp ps i) (gp ps v) (gp ps ((v + 1) % ps.length)) (gp ps z) = 1 by omega]; rfl
    · rw [decide_eq_false o1, show out01 (gp ps i) (gp ps v) (gp ps ((v + 1) % ps.length)) (gp ps z) = 0 by omega]; rfl
/-! ### diagonals, told in two ways -/
def diagI (ps : List Pt) (i k : Nat) : Bool := (decide (2 ≤ (k + ps.length - i) % ps.length) && decide ((k + ps.length - i) % ps.length + 2 ≤ ps.length)) && ((List.range ps.length).all (eI ps i k) && decide (locI (ps.map (scP 2)) (midP (gp ps i) (gp ps k)) = 1))
def diagS (ps : List Pt) (i k : Nat) : Bool := !(decide (i = k) || decide ((i + 1) % ps.length = k) || decide ((k + 1) % ps.length = i)) && ((List.range ps.length).all (eS ps i k) && coneB ps i k)
theorem apart_iff {n i k : Nat} (h3 : 3 ≤ n) (hi : i < n) (hk : k < n) : (2 ≤ (k + n - i) % n ∧ (k + n - i) % n + 2 ≤ n) ↔ (i ≠ k ∧ k ≠ (i + 1) % n ∧ i ≠ (k + 1) % n) := by
  have mi := mod_next hi
  have mk := mod_next hk
  by_cases h : i ≤ k
  · rw [show k + n - i = k - i + n by omega, Nat.add_mod_right, Nat.mod_eq_of_lt (show k - i < n by omega)]
    split at mi <;> split at mk <;> omega
  · rw [Nat.mod_eq_of_lt (show k + n - i < n by omega)]
    split at mi <;> split at mk <;> omega
theorem apart_four {n i k : Nat} (hi : i < n) (hk : k < n) (h : i ≠ k ∧ k ≠ (i + 1) % n ∧ i ≠ (k + 1) % n) : 4 ≤ n := by
  have mi := mod_next hi
  have mk := mod_next hk
  split at mi <;> split at mk <;> omega
theorem diagI_iff {ps : List Pt} (h : Sim ps) {i k : Nat} (hi : i < ps.length) (hk : k < ps.length) : diagI ps i k = true ↔ Cho ps i k ∧ locI (ps.map (scP 2)) (midP (gp ps i) (gp ps k)) = 1 := by
  unfold diagI
  simp only [Bool.and_eq_true, decide_eq_true_eq, List.all_eq_true, List.mem_range]
  rw [apart_iff h.three hi hk]
  constructor
  · rintro ⟨a, b, c⟩
    refine ⟨(eS_cho h hi hk a.1 a.2.1 a.2.2).1 fun j hj => ?_, c⟩
    rw [← e_eq h (apart_four hi hk a) hi hk hj a.1 a.2.1 a.2.2]
    exact b j hj
  · rintro ⟨a, c⟩
    have b := (eS_cho h hi hk a.ne a.n1 a.n2).2 a
    exact ⟨⟨a.ne, a.n1, a.n2⟩, fun j hj => by rw [e_eq h a.four hi hk hj a.ne a.n1 a.n2]; exact b j hj, c⟩
theorem diagS_iff {ps : List Pt} (h : Sim ps) {i k : Nat} (hi : i < ps.length) (hk : k < ps.length) : diagS ps i k = true ↔ Cho ps i k ∧ coneB ps i k = true := by
  unfold diagS
  simp only [Bool.and_eq_true, List.all_eq_true, List.mem_range, Bool.not_eq_true', Bool.or_eq_false_iff, decide_eq_false_iff_not]
  constructor
  · rintro ⟨⟨⟨a, a2⟩, a3⟩, b, c⟩
    exact ⟨(eS_cho h hi hk a (fun e => a2 e.symm) (fun e => a3 e.symm)).1 b, c⟩
  · rintro ⟨a, c⟩
    exact ⟨⟨⟨a.ne, fun e => a.n1 e.symm⟩, fun e => a.n2 e.symm⟩, (eS_cho h hi hk a.ne a.n1 a.n2).2 a, c⟩
theorem diag_eq {ps : List Pt} (h : Sim ps) {i k : Nat} (hi : i < ps.length) (hk : k < ps.length) : diagI ps i k = diagS ps i k := by
  rw [Bool.eq_iff_iff, diagI_iff h hi hk, diagS_iff h hi hk]
  constructor
  · rintro ⟨a, b⟩
    rw [loc_cone h a] at b
    refine ⟨a, ?_⟩
    cases hc : coneB ps i k
    · rw [hc] at b; simp at b
    · rfl
  · rintro ⟨a, b⟩
    refine ⟨a, ?_⟩
    rw [loc_cone h a, b]; rfl
theorem diag_symm {ps : List Pt} (h : Sim ps) {i k : Nat} (hi : i < ps.length) (hk : k < ps.length) : diagI ps k i = diagI ps i k := by
  rw [Bool.eq_iff_iff, diagI_iff h hi hk, diagI_iff h hk hi]
  have e : midP (gp ps k) (gp ps i) = midP (gp ps i) (gp ps k) := by unfold midP; rw [Int.add_comm, Int.add_comm (gp ps k).y]
  rw [e]
  exact ⟨fun ⟨a, b⟩ => ⟨a.symm, b⟩, fun ⟨a, b⟩ => ⟨a.symm, b⟩⟩
/-- A polygon with more than three corners has a diagonal (counterclockwise). -/
theorem diag_ex {ps : List Pt} (h : Sim ps) (h4 : 4 ≤ ps.length) (hL : Lft ps = 1) : ∃ i k, i < ps.length ∧ k < ps.length ∧ diagI ps i k = true := by
  obtain ⟨v, z, d, c, hd, ed, l1, l2⟩ := good_chord h h4 hL
  refine ⟨v, z, c.hi, c.hk, ?_⟩
  rw [diagI_iff h c.hi c.hk]
  refine ⟨c, ?_⟩
  rw [loc_cone h c]
  obtain ⟨hi, ev⟩ := pred_ex c.hi
  have S := sgn_ok _ ps rfl h
  unfold coneB
  rw [if_neg (show ¬ areaL ps < 0 by rcases S with h | h <;> omega)]
  generalize (v + ps.length - 1) % ps.length = i at hi ev
  have e2 : (i + 2) % ps.length = (v + 1) % ps.length := by rw [← mod2, ev]
  have CL := chord_lft h hi (by rw [ev]; exact c) hd (by rw [ev]; exact ed)
  rw [ev, e2, l1, l2, hL] at CL
  have oc := out_cases (gp ps i) (gp ps v) (gp ps ((v + 1) % ps.length)) (gp ps z)
  rcases oc with ⟨o1, _⟩ | ⟨_, o2⟩
  · rw [decide_eq_true o1]; rfl
  · omega
end Go.Proofs.Ytelhidonhldjeaa
/- Where a point lies of a convex polygon: both ways to tell it. No program in sight. -/
set_option linter.unusedVariables false
set_option linter.unusedSimpArgs false
namespace Go.Proofs.Ytelhidonhldjeaa
open Go.RowKit

theorem sep_id (u v a b q : Pt) : (u.y - v.y) * trn a b q = trn u v a * (b.y - q.y) + trn u v b * (q.y - a.y) - (b.y - a.y) * trn u v q := by unfold trn; grind
/-- Beyond a line that has the polygon at its other side nothing is left of it. -/
theorem wn_sep {ps : List Pt} {u v q : Pt} (hq : trn u v q < 0) (h : ∀ p ∈ ps, 0 ≤ trn u v p) (h0 : 0 < ps.length) : wn ps q = 0 := by
  have key : ∀ a b, 0 ≤ trn u v a → 0 ≤ trn u v b → a.y ≤ q.y → q.y < b.y → 0 < (u.y - v.y) * trn a b q := fun a b ha hb h1 h2 => by
    have e := sep_id u v a b q
    have p1 := Int.mul_nonneg ha (show 0 ≤ b.y - q.y by omega)
    have p2 := Int.mul_nonneg hb (show 0 ≤ q.y - a.y by omega)
    have p3 := Int.mul_pos (show 0 < b.y - a.y by omega) (show 0 < -trn u v q by omega)
    rw [Int.mul_neg] at p3
    omega
  have mem : ∀ k, k < ps.length → 0 ≤ trn u v (gp ps k) := fun k hk => h _ (gp_mem hk)
  unfold wn
  by_cases hα : 0 < u.y - v.y
  · have e : ∀ k, k < ps.length → cw (gp ps k) (gp ps ((k + 1) % ps.length)) q = (fun j => if q.y < (gp ps j).y then (1 : Int) else 0) ((k + 1) % ps.length) - (fun j => if q.y < (gp ps j).y then (1 : Int) else 0) k := fun k hk => by
      have m1 := mem k hk
      have m2 := mem _ (Nat.mod_lt (k + 1) h0)
      show cw (gp ps k) (gp ps ((k + 1) % ps.length)) q = (if q.y < (gp ps ((k + 1) % ps.length)).y then 1 else 0) - (if q.y < (gp ps k).y then 1 else 0)
      generalize gp ps k = a at *
      generalize gp ps ((k + 1) % ps.length) = b at *
      by_cases c1 : q.y < a.y
      · by_cases c2 : q.y < b.y
        · rw [cw_hi c1 c2, if_pos c1, if_pos c2]; rfl
        · have t := prod_pos (key b a m2 m1 (by omega) c1) hα
          have f := trn_flip b a q
          rw [cw_in2 (by omega) c1, if_pos (by omega), if_pos c1, if_neg c2]; rfl
      · by_cases c2 : q.y < b.y
        · have t := prod_pos (key a b m1 m2 (by omega) c2) hα
          rw [cw_in (by omega) c2, if_pos t, if_neg c1, if_pos c2]; rfl
        · rw [cw_lo (by omega) (by omega), if_neg c1, if_neg c2]; rfl
    rw [sumN_congr e]
    exact sumN_cyc (fun j => if q.y < (gp ps j).y then (1 : Int) else 0) h0
  · refine sumN_zero fun k hk => ?_
    have m1 := mem k hk
    have m2 := mem _ (Nat.mod_lt (k + 1) h0)
    generalize gp ps k = a at *
    generalize gp ps ((k + 1) % ps.length) = b at *
    have no : ∀ c d, 0 ≤ trn u v c → 0 ≤ trn u v d → c.y ≤ q.y → q.y < d.y → ¬ 0 < trn c d q := fun c d h1 h2 h3 h4 hh => by
      have := key c d h1 h2 h3 h4
      have := Int.mul_nonneg (show 0 ≤ -(u.y - v.y) by omega) (show 0 ≤ trn c d q by omega)
      rw [Int.neg_mul] at this
      omega
    have f := trn_flip b a q
    rcases cw_cases a b q with ⟨⟨x1, x2, x3⟩, _⟩ | ⟨⟨x1, x2, x3⟩, _⟩ | ⟨_, _, x⟩
    · exact absurd x3 (no a b m1 m2 x1 x2)
    · exact absurd (show 0 < trn b a q by omega) (no b a m2 m1 x1 x2)
    · exact x
theorem least_le {ps : List Pt} {q : Pt} : ∀ {k i : Nat}, i < k → leastTo ps q k ≤ sgn (trn (gp ps i) (gp ps ((i + 1) % ps.length)) q)
  | 0, i, h => absurd h (Nat.not_lt_zero _)
  | k + 1, i, h => by
    unfold leastTo
    rw [Int.min_def]
    by_cases e : i = k
    · subst e; split <;> omega
    · have := least_le (ps := ps) (q := q) (k := k) (i := i) (by omega)
      split <;> omega
theorem least_ex {ps : List Pt} {q : Pt} : ∀ k, leastTo ps q k = 1 ∨ ∃ i, i < k ∧ leastTo ps q k = sgn (trn (gp ps i) (gp ps ((i + 1) % ps.length)) q)
  | 0 => .inl rfl
  | k + 1 => by
    unfold leastTo
    rw [Int.min_def]
    split
    · rcases least_ex (ps := ps) (q := q) k with h | ⟨i, hi, h⟩
      · exact .inl h
      · exact .inr ⟨i, by omega, h⟩
    · exact .inr ⟨k, by omega, rfl⟩
theorem sgn_is (x : Int) : (0 < x ∧ sgn x = 1) ∨ (x = 0 ∧ sgn x = 0) ∨ (x < 0 ∧ sgn x = -1) := by
  rcases Int.lt_trichotomy x 0 with h | h | h
  · exact .inr (.inr ⟨h, sgn_neg h⟩)
  · exact .inr (.inl ⟨h, by rw [h]; rfl⟩)
  · exact .inl ⟨h, sgn_pos h⟩
/-- A point of an edge's line that is not beyond the edges beside it. -/
theorem on_between {d a v b q : Pt} (h0 : trn a v q = 0) (hd : 0 < trn d a v) (hb : 0 < trn a v b) (h1 : 0 ≤ trn d a q) (h2 : 0 ≤ trn v b q) : onSeg a v q = true := by
  have hav : a ≠ v := fun e => by subst e; rw [show trn a a b = 0 by unfold trn; grind] at hb; omega
  have sp := sqd_pos hav
  have e1 : sqd a v * trn d a q = wgt a v q * trn d a v := by unfold sqd wgt trn at *; grind
  have e2 : sqd a v * trn v b q = wgt v a q * trn a v b := by unfold sqd wgt trn at *; grind
  have w1 : 0 ≤ wgt a v q := by
    refine Classical.byContradiction fun hn => ?_
    have := mul_lt0 hd (show wgt a v q < 0 by omega)
    have := Int.mul_nonneg (show 0 ≤ sqd a v by omega) h1
    have e : trn d a v * wgt a v q = wgt a v q * trn d a v := Int.mul_comm _ _
    omega
  have w2 : 0 ≤ wgt v a q := by
    refine Classical.byContradiction fun hn => ?_
    have := mul_lt0 hb (show wgt v a q < 0 by omega)
    have := Int.mul_nonneg (show 0 ≤ sqd a v by omega) h2
    have e : trn a v b * wgt v a q = wgt v a q * trn a v b := Int.mul_comm _ _
    omega
  unfold onSeg
  rw [h0]
  simp only [decide_true, Bool.true_and, decide_eq_true_eq]
  refine Classical.byContradiction fun hn => ?_
  have e3 : sqd a v * ((a.x - q.x) * (v.x - q.x) + (a.y - q.y) * (v.y - q.y)) = -(wgt a v q * wgt v a q) := by unfold sqd wgt trn at *; grind
  have p1 := Int.mul_nonneg w1 w2
  have p2 := Int.mul_pos sp (show 0 < (a.x - q.x) * (v.x - q.x) + (a.y - q.y) * (v.y - q.y) by omega)
  omega
theorem conv_Lft {ps : List Pt} (h : Sim ps) (hl : ∀ i, i < ps.length → 0 < trn (gp ps i) (gp ps ((i + 1) % ps.length)) (gp ps ((i + 2) % ps.length))) : Lft ps = 1 := by
  obtain ⟨i, hi, hm⟩ := last_corner h
  have := hl i hi
  rcases Lft_max h hi hm with h | h
  · exact h.2
  · omega
theorem conv_loc {ps : List Pt} (h : convB ps = true) (q : Pt) : locI ps q = leastTo ps q ps.length := by
  have hc := convB_conv h
  unfold convB leftB at h
  simp only [Bool.and_eq_true, List.all_eq_true, List.mem_range, decide_eq_true_eq] at h
  obtain ⟨hs, hl⟩ := h
  have S := sim_of hs
  have h3 := S.three
  have hn : 0 < ps.length := by omega
  have lo : ∀ {i v : Nat}, i < ps.length → v < ps.length → v ≠ i → v ≠ (i + 1) % ps.length → 0 < trn (gp ps i) (gp ps ((i + 1) % ps.length)) (gp ps v) := fun hi hv a b => left_of hc S.nodup hi hv a b
  have lo0 : ∀ {i v : Nat}, i < ps.length → v < ps.length → 0 ≤ trn (gp ps i) (gp ps ((i + 1) % ps.length)) (gp ps v) := fun {i v} hi hv => by
    by_cases a : v = i
    · rw [a, show trn (gp ps i) (gp ps ((i + 1) % ps.length)) (gp ps i) = 0 from trn_aba _ _]; omega
    · by_cases b : v = (i + 1) % ps.length
      · rw [b, show trn (gp ps i) (gp ps ((i + 1) % ps.length)) (gp ps ((i + 1) % ps.length)) = 0 from trn_abb _ _]; omega
      · have := lo hi hv a b; omega
  have bd := least_bd ps q ps.length
  by_cases hneg : ∃ j, j < ps.length ∧ trn (gp ps j) (gp ps ((j + 1) % ps.length)) q < 0
  · obtain ⟨j, hj, hq⟩ := hneg
    have L := least_neg (ps := ps) (q := q) hj hq
    have off : ∀ i, i < ps.length → onSeg (gp ps i) (gp ps ((i + 1) % ps.length)) q = false := fun i hi => by
      rw [← Bool.not_eq_true]
      intro hh
      have m0 := onS_iff hh
      obtain ⟨w1, w2, w3⟩ := seg_wgt hh
      have hi1 : (i + 1) % ps.length < ps.length := Nat.mod_lt _ hn
      have mi := mod_next hi
      have sp := sqd_pos (sim_ne S hi hi1 (by split at mi <;> omega))
      have s1 := sqd_nn (gp ps i) q
      have s2 := sqd_nn (gp ps ((i + 1) % ps.length)) q
      have e := seg_side m0 (gp ps j) (gp ps ((j + 1) % ps.length))
      have p1 := Int.mul_nonneg (show 0 ≤ wgt (gp ps ((i + 1) % ps.length)) (gp ps i) q by omega) (lo0 hj hi)
      have p2 := Int.mul_nonneg (show 0 ≤ wgt (gp ps i) (gp ps ((i + 1) % ps.length)) q by omega) (lo0 hj hi1)
      have p3 := mul_lt0 sp hq
      omega
    rw [locI_off off, wn_sep hq (fun p hp => by
      obtain ⟨k, hk, rfl⟩ := List.getElem_of_mem hp
      rw [← gp_lt hk]
      exact lo0 hj hk) hn]
    simp; omega
  · have nn : ∀ j, j < ps.length → 0 ≤ trn (gp ps j) (gp ps ((j + 1) % ps.length)) q := fun j hj => by
      refine Classical.byContradiction fun hh => hneg ⟨j, hj, by omega⟩
    by_cases hz : ∃ j, j < ps.length ∧ trn (gp ps j) (gp ps ((j + 1) % ps.length)) q = 0
    · obtain ⟨j, hj, hq⟩ := hz
      have L1 := least_le (ps := ps) (q := q) hj
      rw [hq] at L1
      have L1 : leastTo ps q ps.length ≤ 0 := L1
      have L2 : 0 ≤ leastTo ps q ps.length := by
        rcases least_ex (ps := ps) (q := q) ps.length with e | ⟨i, hi, e⟩
        · omega
        · have := nn i hi
          rcases sgn_is (trn (gp ps i) (gp ps ((i + 1) % ps.length)) q) with s | s | s <;> omega
      obtain ⟨hp, ep⟩ := pred_ex hj
      generalize (j + ps.length - 1) % ps.length = i at hp ep
      have hj1 : (j + 1) % ps.length < ps.length := Nat.mod_lt _ hn
      have c1 := hl i hp
      rw [ep, show (i + 2) % ps.length = (j + 1) % ps.length by rw [← mod2, ep]] at c1
      have c2 := hl j hj
      have n1 := nn i hp
      rw [ep] at n1
      have n2 := nn _ hj1
      rw [mod2] at n2
      have on := on_between hq c1 c2 n1 n2
      have : onAny ps q = true := by
        unfold onAny
        rw [List.any_eq_true]
        exact ⟨j, List.mem_range.2 hj, on⟩
      unfold locI
      rw [this]
      simp; omega
    · have pp : ∀ j, j < ps.length → 0 < trn (gp ps j) (gp ps ((j + 1) % ps.length)) q := fun j hj => by
        have := nn j hj
        refine Classical.byContradiction fun hh => hz ⟨j, hj, by omega⟩
      have L : leastTo ps q ps.length = 1 := by
        rcases least_ex (ps := ps) (q := q) ps.length with e | ⟨i, hi, e⟩
        · exact e
        · rw [e, sgn_pos (pp i hi)]
      have off : ∀ i, i < ps.length → onSeg (gp ps i) (gp ps ((i + 1) % ps.length)) q = false := fun i hi => onS_no (by have := pp i hi; omega)
      have hi : 0 < ps.length := hn
      have mi := mod_next hi
      have hv : (0 + 1) % ps.length < ps.length := Nat.mod_lt _ hn
      have mv := mod_next hv
      rw [mod2] at mv
      have q1 := pp 0 hi
      have q2 := pp _ hv
      rw [mod2] at q2
      have see := wn_see S hi (x := q) (fun e => by rw [e, show trn (gp ps 0) (gp ps ((0 + 1) % ps.length)) (gp ps ((0 + 1) % ps.length)) = 0 from trn_abb _ _] at q1; omega) (fun j hj j1 j2 => by
        have hj1 : (j + 1) % ps.length < ps.length := Nat.mod_lt _ hn
        have mj := mod_next hj
        have k1 : (0 + 1) % ps.length ≠ (j + 1) % ps.length := fun e => by split at mi <;> split at mj <;> omega
        have tv := lo hj hv (Ne.symm j2) k1
        have tq := pp j hj
        have inner : ∀ p, trn (gp ps j) (gp ps ((j + 1) % ps.length)) p = 0 → onSeg (gp ps ((0 + 1) % ps.length)) q p = false := fun p hp => by
          rw [← Bool.not_eq_true]
          intro hh
          have m0 := onS_iff hh
          obtain ⟨w1, w2, w3⟩ := seg_wgt hh
          have s1 := sqd_nn (gp ps ((0 + 1) % ps.length)) p
          have s2 := sqd_nn q p
          have e := seg_side m0 (gp ps j) (gp ps ((j + 1) % ps.length))
          rw [hp, Int.mul_zero] at e
          have vq : gp ps ((0 + 1) % ps.length) ≠ q := fun e => by rw [e, show trn (gp ps 0) q q = 0 from trn_abb _ _] at q1; omega
          have sp := sqd_pos vq
          rcases Int.lt_or_le 0 (wgt q (gp ps ((0 + 1) % ps.length)) p) with hw | hw
          · have p1 := Int.mul_pos hw tv
            have p2 := Int.mul_nonneg (show 0 ≤ wgt (gp ps ((0 + 1) % ps.length)) q p by omega) (show 0 ≤ trn (gp ps j) (gp ps ((j + 1) % ps.length)) q by omega)
            omega
          · have p1 := Int.mul_nonneg (show 0 ≤ wgt q (gp ps ((0 + 1) % ps.length)) p by omega) (show 0 ≤ trn (gp ps j) (gp ps ((j + 1) % ps.length)) (gp ps ((0 + 1) % ps.length)) by omega)
            have p2 := Int.mul_pos (show 0 < wgt (gp ps ((0 + 1) % ps.length)) q p by omega) tq
            omega
        exact ⟨onS_no (by omega), onS_no (by omega), inner _ (trn_aba _ _), inner _ (trn_abb _ _), fun hh => by rcases hh.1 with x | x <;> omega⟩) (fun e => by omega) (fun e => by
          have f := trn_flip (gp ps ((0 + 1) % ps.length)) (gp ps ((0 + 2) % ps.length)) q
          omega)
      rw [locI_off off, see, conv_Lft S hl, show out01 (gp ps 0) (gp ps ((0 + 1) % ps.length)) (gp ps ((0 + 2) % ps.length)) q = 0 from if_pos (.inl ⟨hl 0 hi, q1, q2⟩), L]
      rfl
end Go.Proofs.Ytelhidonhldjeaa
