
/- Sides of clipped triangles are edges or diagonals: plain. -/
import Derived.Test.YtcebmcbglhkkfaaChkTM
import Derived.Test.YtcebmcbglhkkfaaCanD
set_option linter.unusedVariables false
set_option linter.unusedSimpArgs false
namespace Go.Proofs.Ytcebmcbglhkkfaa
open Go.RowKit

/-! ### rings told by their vertices -/
theorem fol_pred {rs : List Nat} (hd : rs.Nodup) {a b c : Nat} (h1 : Fol rs a c) (h2 : Fol rs b c) : a = b := by
  obtain ⟨i, hi, rfl, e1⟩ := h1
  obtain ⟨j, hj, rfl, e2⟩ := h2
  have hn : 0 < rs.length := by omega
  have e : (i + 1) % rs.length = (j + 1) % rs.length := gn_inj hd (Nat.mod_lt _ hn) (Nat.mod_lt _ hn) (e1.trans e2.symm)
  have m1 := mod_next hi
  have m2 := mod_next hj
  have : i = j := by split at m1 <;> split at m2 <;> omega
  rw [this]
theorem ring_ne {ps : List Pt} {rs : List Nat} (h : RingOk ps rs) {a b : Nat} (ha : a ∈ rs) (hb : b ∈ rs) (hab : a ≠ b) : gp ps a ≠ gp ps b := by
  obtain ⟨i, hi, rfl⟩ := gn_of_mem ha
  obtain ⟨k, hk, rfl⟩ := gn_of_mem hb
  have := sim_ne h.sim (i := i) (k := k) (by rw [rpt_len]; exact hi) (by rw [rpt_len]; exact hk) (fun e => hab (by rw [e]))
  rwa [gp_rpt ps hi, gp_rpt ps hk] at this
theorem ring_apart {ps : List Pt} {rs : List Nat} (h : RingOk ps rs) {a b c d : Nat} (h1 : Fol rs a b) (h2 : Fol rs c d) (n1 : c ≠ a) (n2 : c ≠ b) (n3 : a ≠ d) : Dj (gp ps c) (gp ps d) (gp ps a) (gp ps b) := by
  obtain ⟨i, hi, rfl, rfl⟩ := h1
  obtain ⟨k, hk, rfl, rfl⟩ := h2
  have hn : 0 < rs.length := by omega
  have := h.sim.apart i k (by rw [rpt_len]; exact hi) (by rw [rpt_len]; exact hk) (fun e => n1 (by rw [e])) (fun e => n2 (by rw [rpt_len] at e; rw [e]; rfl)) (fun e => n3 (by rw [rpt_len] at e; rw [e]; rfl))
  rw [rpt_len, gp_rpt ps hi, gp_rpt ps hk, gp_rpt ps (Nat.mod_lt _ hn), gp_rpt ps (Nat.mod_lt _ hn)] at this
  exact this
theorem ring_off {ps : List Pt} {rs : List Nat} (h : RingOk ps rs) (h4 : 4 ≤ rs.length) {a b c : Nat} (h1 : Fol rs a b) (hc : c ∈ rs) (n1 : c ≠ a) (n2 : c ≠ b) : onSeg (gp ps a) (gp ps b) (gp ps c) = false := by
  obtain ⟨i, hi, rfl, rfl⟩ := h1
  obtain ⟨k, hk, rfl⟩ := gn_of_mem hc
  have hn : 0 < rs.length := by omega
  have := vertex_off h.sim (by rw [rpt_len]; exact h4) (j := i) (k := k) (by rw [rpt_len]; exact hi) (by rw [rpt_len]; exact hk) (fun e => n1 (by rw [e])) (fun e => n2 (by rw [rpt_len] at e; rw [e]; rfl))
  rw [rpt_len, gp_rpt ps hi, gp_rpt ps hk, gp_rpt ps (Nat.mod_lt _ hn)] at this
  exact this
structure ChoV (ps : List Pt) (rs : List Nat) (x y : Nat) : Prop where
  hx : x ∈ rs
  hy : y ∈ rs
  ne : x ≠ y
  n1 : ¬ Fol rs x y
  n2 : ¬ Fol rs y x
  far : ∀ a b, Fol rs a b → a ≠ x → b ≠ x → a ≠ y → b ≠ y → Dj (gp ps a) (gp ps b) (gp ps x) (gp ps y)
  off : ∀ a, a ∈ rs → a ≠ x → a ≠ y → onSeg (gp ps x) (gp ps y) (gp ps a) = false
theorem ChoV.symm {ps : List Pt} {rs : List Nat} {x y : Nat} (h : ChoV ps rs x y) : ChoV ps rs y x :=
  ⟨h.hy, h.hx, h.ne.symm, h.n2, h.n1, fun a b hf h1 h2 h3 h4 => (h.far a b hf h3 h4 h1 h2).swap2, fun a ha h1 h2 => by rw [onSeg_swap]; exact h.off a ha h2 h1⟩
theorem choV_of {ps : List Pt} {rs : List Nat} (h : RingOk ps rs) {i z : Nat} (c : Cho (rpt ps rs) i z) : ChoV ps rs (gn rs i) (gn rs z) := by
  have hi := c.hi
  have hz := c.hk
  rw [rpt_len] at hi hz
  have hn : 0 < rs.length := by omega
  refine ⟨gn_mem hi, gn_mem hz, fun e => c.ne (gn_inj h.nodup hi hz e), ?_, ?_, ?_, ?_⟩
  · rintro ⟨j, hj, e1, e2⟩
    have := gn_inj h.nodup hj hi e1
    subst this
    exact c.n1 (by rw [rpt_len]; exact (gn_inj h.nodup (Nat.mod_lt _ hn) hz e2).symm)
  · rintro ⟨j, hj, e1, e2⟩
    have := gn_inj h.nodup hj hz e1
    subst this
    exact c.n2 (by rw [rpt_len]; exact (gn_inj h.nodup (Nat.mod_lt _ hn) hi e2).symm)
  · rintro a b ⟨j, hj, rfl, rfl⟩ h1 h2 h3 h4
    have := c.far j (by rw [rpt_len]; exact hj) (fun e => h1 (by rw [e])) (fun e => h2 (by rw [rpt_len] at e; show gn rs _ = _; rw [e])) (fun e => h3 (by rw [e])) (fun e => h4 (by rw [rpt_len] at e; show gn rs _ = _; rw [e]))
    rw [rpt_len, gp_rpt ps hj, gp_rpt ps (Nat.mod_lt _ hn), gp_rpt ps hi, gp_rpt ps hz] at this
    exact this
  · intro a ha h1 h2
    obtain ⟨j, hj, rfl⟩ := gn_of_mem ha
    have := c.off j (by rw [rpt_len]; exact hj) (fun e => h1 (by rw [e])) (fun e => h2 (by rw [e]))
    rwa [gp_rpt ps hj, gp_rpt ps hi, gp_rpt ps hz] at this
theorem cho_of {ps : List Pt} {rs : List Nat} (h : RingOk ps rs) {i z : Nat} (hi : i < rs.length) (hz : z < rs.length) (c : ChoV ps rs (gn rs i) (gn rs z)) : Cho (rpt ps rs) i z := by
  have hn : 0 < rs.length := by omega
  refine ⟨by rw [rpt_len]; exact hi, by rw [rpt_len]; exact hz, fun e => c.ne (by rw [e]), ?_, ?_, ?_, ?_⟩
  · intro e
    rw [rpt_len] at e
    exact c.n1 ⟨i, hi, rfl, by rw [e]; rfl⟩
  · intro e
    rw [rpt_len] at e
    exact c.n2 ⟨z, hz, rfl, by rw [e]; rfl⟩
  · intro j hj h1 h2 h3 h4
    rw [rpt_len] at hj h2 h4
    have inj := fun {p q : Nat} (hp : p < rs.length) (hq : q < rs.length) (e : gn rs p = gn rs q) => gn_inj h.nodup hp hq e
    rw [rpt_len, gp_rpt ps hj, gp_rpt ps (Nat.mod_lt _ hn), gp_rpt ps hi, gp_rpt ps hz]
    exact c.far _ _ (Fol.at_ hj) (fun e => h1 (inj hj hi e)) (fun e => h2 (inj (Nat.mod_lt _ hn) hi e)) (fun e => h3 (inj hj hz e)) (fun e => h4 (inj (Nat.mod_lt _ hn) hz e))
  · intro j hj h1 h2
    rw [rpt_len] at hj
    rw [gp_rpt ps hj, gp_rpt ps hi, gp_rpt ps hz]
    exact c.off _ (gn_mem hj) (fun e => h1 (gn_inj h.nodup hj hi e)) (fun e => h2 (gn_inj h.nodup hj hz e))
/-! ### inside -/
theorem chordV {ps : List Pt} {rs : List Nat} (h : RingOk ps rs) {p x s y : Nat} (c : ChoV ps rs x y) (hp : Fol rs p x) (hs : Fol rs x s) {K : Int} (hK : 0 < K) {m : Pt}
    (hm : onSeg (scP K (gp ps x)) (scP K (gp ps y)) m = true) (m1 : m ≠ scP K (gp ps x)) (m2 : m ≠ scP K (gp ps y)) : wn ((rpt ps rs).map (scP K)) m = 1 - out01 (gp ps p) (gp ps x) (gp ps s) (gp ps y) := by
  obtain ⟨i, hi, rfl, ex⟩ := hp
  obtain ⟨z, hz, rfl⟩ := gn_of_mem c.hy
  have hn : 0 < rs.length := by omega
  have hi1 : (i + 1) % rs.length < rs.length := Nat.mod_lt _ hn
  have hi2 : (i + 2) % rs.length < rs.length := Nat.mod_lt _ hn
  have ex : gn rs ((i + 1) % rs.length) = x := ex
  subst ex
  have es : gn rs ((i + 2) % rs.length) = s := by
    obtain ⟨j, hj, e1, e2⟩ := hs
    have := gn_inj h.nodup hj hi1 e1
    subst this
    rw [← mod2]; exact e2
  have C := cho_sc hK (cho_of h hi1 hz c)
  have hl : ((rpt ps rs).map (scP K)).length = rs.length := by rw [List.length_map, rpt_len]
  have := (chord_at (sim_sc hK h.sim) (i := i) (z := z) (m := m) (by rw [hl]; exact hi) (by rw [hl]; exact C) (by rw [hl, gp_sc, gp_sc, gp_rpt ps hi1, gp_rpt ps hz]; exact hm) (by rw [hl, gp_sc, gp_rpt ps hi1]; exact m1) (by rw [gp_sc, gp_rpt ps hz]; exact m2)).2
  rw [this, hl, gp_sc, gp_sc, gp_sc, gp_sc, out_sc hK, Lft_sc hK, h.lft, gp_rpt ps hi, gp_rpt ps hi1, gp_rpt ps hi2, gp_rpt ps hz, es]
/-- All between x and y lies inside. -/
def Inn (ps : List Pt) (rs : List Nat) (x y : Nat) : Prop := ∀ (K : Int) (m : Pt), 0 < K → onSeg (scP K (gp ps x)) (scP K (gp ps y)) m = true → m ≠ scP K (gp ps x) → m ≠ scP K (gp ps y) → wn ((rpt ps rs).map (scP K)) m = 1
theorem Inn.symm {ps : List Pt} {rs : List Nat} {x y : Nat} (h : Inn ps rs x y) : Inn ps rs y x := fun K m hK hm m1 m2 => h K m hK (by rw [onSeg_swap]; exact hm) m2 m1
theorem inn_out {ps : List Pt} {rs : List Nat} (h : RingOk ps rs) {p x s y : Nat} (c : ChoV ps rs x y) (hp : Fol rs p x) (hs : Fol rs x s) (hi : Inn ps rs x y) : out01 (gp ps p) (gp ps x) (gp ps s) (gp ps y) = 0 := by
  have hne := mid_ne (ring_ne h c.hx c.hy c.ne)
  have h1 := chordV h c hp hs (K := 2) (by omega) (mid_on _ _) hne.1 hne.2
  have h2 := hi 2 _ (by omega) (mid_on _ _) hne.1 hne.2
  omega
theorem out_inn {ps : List Pt} {rs : List Nat} (h : RingOk ps rs) {p x s y : Nat} (c : ChoV ps rs x y) (hp : Fol rs p x) (hs : Fol rs x s) (ho : out01 (gp ps p) (gp ps x) (gp ps s) (gp ps y) = 0) : Inn ps rs x y := fun K m hK hm m1 m2 => by
  rw [chordV h c hp hs hK hm m1 m2, ho]; rfl
theorem on_no {a b q : Pt} (h : trn a b q ≠ 0) : onSeg a b q = false := by
  rw [← Bool.not_eq_true]
  exact fun hh => h (onS_iff hh)
/-- The chord over an ear lies inside. -/
theorem ear_inn {ps : List Pt} {rs : List Nat} (h : RingOk ps rs) (h4 : 4 ≤ rs.length) {k : Nat} (hk : k < rs.length) (he : earB ps rs k = true) : ChoV ps rs (aft rs k) (bef rs k) ∧ Inn ps rs (aft rs k) (bef rs k) := by
  have c := ear_cho h h4 hk he
  have cv := choV_of h c
  have hn : 0 < rs.length := by omega
  obtain ⟨p1, p2⟩ := pred_ex hk
  have p3 : ((k + rs.length - 1) % rs.length + 2) % rs.length = (k + 1) % rs.length := by rw [← mod2, p2]
  have p4 : (k + 1) % rs.length < rs.length := Nat.mod_lt _ hn
  have p5 : (k + 2) % rs.length < rs.length := Nat.mod_lt _ hn
  have hE := (ear_iff h hk).1 he
  have rl := rpt_len ps rs
  have ed : ((k + 1) % rs.length + (rs.length - 2)) % rs.length = (k + rs.length - 1) % rs.length := by
    rw [Nat.mod_add_mod]; congr 1; omega
  have L := ear_rest h.sim (i := (k + rs.length - 1) % rs.length) (by rw [rl]; exact p1) (by rw [rl, p3]; exact c) hE
  rw [rl, p3, h.lft] at L
  have M := chord_lft h.sim (i := k) (z := (k + rs.length - 1) % rs.length) (d := rs.length - 2) (by rw [rl]; exact hk) (by rw [rl]; exact c) (by rw [rl]; omega) (by rw [rl]; exact ed)
  rw [rl, L.2, show rs.length - (rs.length - 2) = 2 by omega, L.1, h.lft, gp_rpt ps hk, gp_rpt ps p4, gp_rpt ps p5, gp_rpt ps p1] at M
  have F2 : Fol rs (aft rs k) (gn rs ((k + 2) % rs.length)) := ⟨(k + 1) % rs.length, p4, rfl, by unfold aft; rw [mod2]⟩
  exact ⟨cv, out_inn h cv (Fol.at_ hk) F2 (by show out01 _ (gp ps (gn rs ((k + 1) % rs.length))) _ (gp ps (gn rs ((k + rs.length - 1) % rs.length))) = 0; omega)⟩
/-! ### behind an ear -/
theorem wn_path {qs : List Pt} (h0 : 0 < qs.length) {q r : Pt} (h : ∀ j, j < qs.length → Dj (gp qs j) (gp qs ((j + 1) % qs.length)) q r) : wn qs q = wn qs r := by
  have e : sumN (fun k => cw (gp qs k) (gp qs ((k + 1) % qs.length)) q - cw (gp qs k) (gp qs ((k + 1) % qs.length)) r) qs.length = 0 := by
    rw [sumN_congr (g := fun k => eastOf q r (gp qs ((k + 1) % qs.length)) - eastOf q r (gp qs k)) fun k hk => path_edge (h k hk)]
    exact sumN_cyc (fun k => eastOf q r (gp qs k)) h0
  rw [sumN_sub] at e
  unfold wn
  omega
/-- The tip of an ear is outside of what is left. -/
theorem tip_wn {ps : List Pt} {rs : List Nat} (h : RingOk ps rs) (h4 : 4 ≤ rs.length) {k : Nat} (hk : k < rs.length) (he : earB ps rs k = true) : wn (rpt ps (rs.eraseIdx k)) (gp ps (gn rs k)) = 0 := by
  have c := ear_cho h h4 hk he
  have hn : 0 < rs.length := by omega
  obtain ⟨p1, p2⟩ := pred_ex hk
  have p3 : ((k + rs.length - 1) % rs.length + 2) % rs.length = (k + 1) % rs.length := by rw [← mod2, p2]
  have p4 : (k + 1) % rs.length < rs.length := Nat.mod_lt _ hn
  have hE := (ear_iff h hk).1 he
  have rl := rpt_len ps rs
  have L := (ear_rest h.sim (i := (k + rs.length - 1) % rs.length) (by rw [rl]; exact p1) (by rw [rl, p3]; exact c) hE).1
  obtain ⟨_, _, S⟩ := arc_sim h.sim c.symm (d := 2) (by rw [rl]; omega) (by rw [rl]; exact p3)
  have hs := (sgn_sum (ps := rpt ps rs) (i := (k + rs.length - 1) % rs.length) (d := 2) (k := (k + 1) % rs.length) (by rw [rl]; exact p1) (by rw [rl]; omega) (by rw [rl]; exact p3) (by rw [rl]; exact p4)).2 (gp ps (gn rs k))
  have W1 := wn_at h.sim (i := (k + rs.length - 1) % rs.length) (by rw [rl]; exact p1)
  rw [rl, p2, p3, gp_rpt ps hk, gp_rpt ps p1, gp_rpt ps p4, h.lft] at W1
  have al : (arc (rpt ps rs) ((k + rs.length - 1) % rs.length) 2).length = 3 := arc_len _ _ _
  have W2 := wn_at S (i := 0) (by rw [al]; omega)
  rw [al, show (0 + 1) % 3 = 1 from rfl, show (0 + 2) % 3 = 2 from rfl, arc_at _ (by omega), arc_at _ (by omega), arc_at _ (by omega), rl, L, p2, p3, Nat.add_zero, Nat.mod_eq_of_lt p1, gp_rpt ps hk, gp_rpt ps p1, gp_rpt ps p4] at W2
  have ha : (arc (rpt ps rs) ((k + 1) % rs.length) (rs.length - 2)).length = rs.length - 1 := by rw [arc_len]; omega
  rw [ear_arc h h4 hk, wn_sum, edge_rot _ (by rw [ha]; exact Nat.mod_lt _ (by omega)), ← wn_sum]
  rw [rl] at hs
  omega
theorem tip_out {ps : List Pt} {rs : List Nat} (h : RingOk ps rs) (h4 : 4 ≤ rs.length) {k : Nat} (hk : k < rs.length) (he : earB ps rs k = true) {w : Nat} (hw : w = bef rs k ∨ w = aft rs k) {K : Int} (hK : 0 < K) {z : Pt}
    (hz : onSeg (scP K (gp ps (gn rs k))) (scP K (gp ps w)) z = true) (hzw : z ≠ scP K (gp ps w)) : wn ((rpt ps (rs.eraseIdx k)).map (scP K)) z = 0 := by
  have hc := ring_cut h h4 hk he
  obtain ⟨F1, F2, F3, F4, F5⟩ := fol_cut h.nodup h4 hk
  have ht : 0 < trn (gp ps (bef rs k)) (gp ps (gn rs k)) (gp ps (aft rs k)) := by
    unfold earB at he
    rw [Bool.and_eq_true, decide_eq_true_eq] at he
    exact he.1
  have hde := hc.nodup
  have Ft : Fol rs (bef rs k) (gn rs k) := Fol.bef_ hk
  have Fv : Fol rs (gn rs k) (aft rs k) := Fol.at_ hk
  have mt : gn rs k ∈ rs := gn_mem hk
  have mu := Ft.mem.1
  have mv := Fv.mem.2
  have ne1 : bef rs k ≠ gn rs k := fun e => by rw [e] at ht; rw [trn_aab] at ht; omega
  have ne2 : gn rs k ≠ aft rs k := fun e => by rw [← e] at ht; rw [trn_abb] at ht; omega
  have ne3 : bef rs k ≠ aft rs k := fun e => by rw [← e] at ht; rw [trn_aba] at ht; omega
  have sne : ∀ {a b : Nat}, a ∈ rs → b ∈ rs → a ≠ b → scP K (gp ps a) ≠ scP K (gp ps b) := fun {a b} ha hb hab e => ring_ne h ha hb hab (by
    have e1 : K * (gp ps a).x = K * (gp ps b).x := congrArg Pt.x e
    have e2 : K * (gp ps a).y = K * (gp ps b).y := congrArg Pt.y e
    have e3 := Int.eq_of_mul_eq_mul_left (by omega) e1
    have e4 := Int.eq_of_mul_eq_mul_left (by omega) e2
    cases hA : gp ps a; cases hB : gp ps b
    rw [hA, hB] at e3 e4
    simp only at e3 e4
    rw [e3, e4])
  have so : ∀ {a b c : Pt}, onSeg a b c = false → onSeg (scP K a) (scP K b) (scP K c) = false := fun {a b c} hh => by rw [onSeg_sc hK]; exact hh
  have key : ∀ a b, Fol (rs.eraseIdx k) a b → Dj (scP K (gp ps a)) (scP K (gp ps b)) (scP K (gp ps (gn rs k))) z := by
    intro a b hf
    have hat : a ≠ gn rs k := fun e => F5 (by rw [← e]; exact hf.mem.1)
    have hbt : b ≠ gn rs k := fun e => F5 (by rw [← e]; exact hf.mem.2)
    have tv : trn (gp ps (bef rs k)) (gp ps (aft rs k)) (gp ps (gn rs k)) ≠ 0 := by
      have : trn (gp ps (bef rs k)) (gp ps (aft rs k)) (gp ps (gn rs k)) = -trn (gp ps (bef rs k)) (gp ps (gn rs k)) (gp ps (aft rs k)) := by unfold trn; grind
      omega
    have tu : trn (gp ps (gn rs k)) (gp ps (bef rs k)) (gp ps (aft rs k)) ≠ 0 := by rw [trn_flip]; omega
    have tw : trn (gp ps (gn rs k)) (gp ps (aft rs k)) (gp ps (bef rs k)) ≠ 0 := by rw [trn_r1]; omega
    by_cases ea : a = bef rs k
    · subst ea
      have eb : b = aft rs k := Fol.only hde hf F3
      subst eb
      rcases hw with rfl | rfl
      · exact dj_end (sne mt mu ne1.symm) (sne mu mv ne3) (so (on_no tv)) (so (on_no tu)) hz hzw
      · exact (dj_end (sne mt mv ne2) (sne mv mu ne3.symm) (so (by rw [onSeg_swap]; exact on_no tv)) (so (on_no tw)) hz hzw).swap1
    · have Fr := F2 a b hf ea
      have ma := Fr.mem.1
      have mb := Fr.mem.2
      have nab : a ≠ b := fun e => by
        subst e
        obtain ⟨j, hj, e1, e2⟩ := Fr
        have : (j + 1) % rs.length = j := gn_inj h.nodup (Nat.mod_lt _ (by omega)) hj (e2.trans e1.symm)
        have mj := mod_next hj
        split at mj <;> omega
      rcases hw with rfl | rfl
      · by_cases eb : b = bef rs k
        · subst eb
          exact (dj_end (sne mt mu ne1.symm) (sne mu ma nab.symm) (so (by rw [onSeg_swap]; exact ring_off h h4 Fr mt hat.symm ne1.symm)) (so (by rw [onSeg_swap]; exact ring_off h h4 Ft ma nab hat)) hz hzw).swap1
        · exact dj_part (sne ma mb nab) (dj_sc hK (ring_apart h Ft Fr ea hat (Ne.symm eb)).swap2) hz
      · by_cases ev : a = aft rs k
        · subst ev
          exact dj_end (sne mt mv ne2) (sne mv mb nab) (so (ring_off h h4 Fr mt ne2 hbt.symm)) (so (ring_off h h4 Fv mb hbt nab.symm)) hz hzw
        · exact dj_part (sne ma mb nab) (dj_sc hK (ring_apart h Fv Fr hat ev (Ne.symm hbt))) hz
  have hl : ((rpt ps (rs.eraseIdx k)).map (scP K)).length = (rs.eraseIdx k).length := by rw [List.length_map, rpt_len]
  have h3 := hc.three
  have P := wn_path (qs := (rpt ps (rs.eraseIdx k)).map (scP K)) (q := scP K (gp ps (gn rs k))) (r := z) (by rw [hl]; omega) (fun j hj => by
    rw [hl] at hj ⊢
    rw [gp_sc, gp_sc, gp_rpt ps hj, gp_rpt ps (Nat.mod_lt _ (by omega))]
    exact key _ _ (Fol.at_ hj))
  rw [← P, wn_sc hK]
  exact tip_wn h h4 hk he
/-- Segments that meet have a common point, scaled. -/
theorem cmn_pt {a b q r : Pt} (h : ¬ Dj a b q r) : ∃ (K : Int) (m : Pt), 0 < K ∧ onSeg (scP K a) (scP K b) m = true ∧ onSeg (scP K q) (scP K r) m = true := by
  have o1 : (0 : Int) < 1 := by omega
  by_cases h1 : onSeg a b q = true
  · exact ⟨1, scP 1 q, o1, by rw [onSeg_sc o1]; exact h1, by rw [onSeg_sc o1]; exact onSeg_end1 _ _⟩
  by_cases h2 : onSeg a b r = true
  · exact ⟨1, scP 1 r, o1, by rw [onSeg_sc o1]; exact h2, by rw [onSeg_sc o1]; exact onSeg_end2 _ _⟩
  by_cases h3 : onSeg q r a = true
  · exact ⟨1, scP 1 a, o1, by rw [onSeg_sc o1]; exact onSeg_end1 _ _, by rw [onSeg_sc o1]; exact h3⟩
  by_cases h4 : onSeg q r b = true
  · exact ⟨1, scP 1 b, o1, by rw [onSeg_sc o1]; exact onSeg_end2 _ _, by rw [onSeg_sc o1]; exact h4⟩
  have hx : ((0 < trn a b q ∧ trn a b r < 0) ∨ (trn a b q < 0 ∧ 0 < trn a b r)) ∧ ((0 < trn q r a ∧ trn q r b < 0) ∨ (trn q r a < 0 ∧ 0 < trn q r b)) := Classical.not_not.1 fun hh => h ⟨eq_false_of_ne_true h1, eq_false_of_ne_true h2, eq_false_of_ne_true h3, eq_false_of_ne_true h4, hh⟩
  have i1 : trn q r a - trn q r b = trn a b r - trn a b q := by unfold trn; grind
  have i2 : trn q r a * b.x - trn q r b * a.x = trn a b r * q.x - trn a b q * r.x := by unfold trn; grind
  have i3 : trn q r a * b.y - trn q r b * a.y = trn a b r * q.y - trn a b q * r.y := by unfold trn; grind
  have neg : ∀ {u v s t : Int}, ((0 < u ∧ v < 0) ∨ (u < 0 ∧ 0 < v)) → u * v * (s * s + t * t) ≤ 0 := fun {u v s t} huv => by
    have e1 : u * v ≤ 0 := by
      rcases huv with ⟨a1, a2⟩ | ⟨a1, a2⟩
      · exact Int.mul_nonpos_of_nonneg_of_nonpos (by omega) (by omega)
      · exact Int.mul_nonpos_of_nonpos_of_nonneg (by omega) (by omega)
    have e2 : 0 ≤ s * s + t * t := Int.add_nonneg (sq_nonneg' s) (sq_nonneg' t)
    exact Int.mul_nonpos_of_nonpos_of_nonneg e1 e2
  have n1 := neg (s := a.x - b.x) (t := a.y - b.y) hx.2
  have n2 := neg (s := r.x - q.x) (t := r.y - q.y) hx.1
  generalize hA : trn q r a = A at *
  generalize hB : trn q r b = B at *
  generalize hQ : trn a b q = Q at *
  generalize hR : trn a b r = R at *
  rcases hx.2 with hs | hs
  · refine ⟨A - B, ⟨A * b.x - B * a.x, A * b.y - B * a.y⟩, by omega, ?_, ?_⟩
    · unfold onSeg
      rw [Bool.and_eq_true, decide_eq_true_eq, decide_eq_true_eq]
      refine ⟨by unfold trn scP; grind, ?_⟩
      have e : ((scP (A - B) a).x - (A * b.x - B * a.x)) * ((scP (A - B) b).x - (A * b.x - B * a.x)) + ((scP (A - B) a).y - (A * b.y - B * a.y)) * ((scP (A - B) b).y - (A * b.y - B * a.y)) = A * B * ((a.x - b.x) * (a.x - b.x) + (a.y - b.y) * (a.y - b.y)) := by unfold scP; grind
      simp only at e ⊢
      rw [e]; exact n1
    · rw [i1, i2, i3]
      unfold onSeg
      rw [Bool.and_eq_true, decide_eq_true_eq, decide_eq_true_eq]
      refine ⟨by unfold trn scP; grind, ?_⟩
      have e : ((scP (R - Q) q).x - (R * q.x - Q * r.x)) * ((scP (R - Q) r).x - (R * q.x - Q * r.x)) + ((scP (R - Q) q).y - (R * q.y - Q * r.y)) * ((scP (R - Q) r).y - (R * q.y - Q * r.y)) = Q * R * ((r.x - q.x) * (r.x - q.x) + (r.y - q.y) * (r.y - q.y)) := by unfold scP; grind
      simp only at e ⊢
      rw [e]; exact n2
  · refine ⟨B - A, ⟨B * a.x - A * b.x, B * a.y - A * b.y⟩, by omega, ?_, ?_⟩
    · unfold onSeg
      rw [Bool.and_eq_true, decide_eq_true_eq, decide_eq_true_eq]
      refine ⟨by unfold trn scP; grind, ?_⟩
      have e : ((scP (B - A) a).x - (B * a.x - A * b.x)) * ((scP (B - A) b).x - (B * a.x - A * b.x)) + ((scP (B - A) a).y - (B * a.y - A * b.y)) * ((scP (B - A) b).y - (B * a.y - A * b.y)) = A * B * ((a.x - b.x) * (a.x - b.x) + (a.y - b.y) * (a.y - b.y)) := by unfold scP; grind
      simp only at e ⊢
      rw [e]; exact n1
    · rw [show B - A = Q - R by omega, show B * a.x - A * b.x = Q * r.x - R * q.x by omega, show B * a.y - A * b.y = Q * r.y - R * q.y by omega]
      unfold onSeg
      rw [Bool.and_eq_true, decide_eq_true_eq, decide_eq_true_eq]
      refine ⟨by unfold trn scP; grind, ?_⟩
      have e : ((scP (Q - R) q).x - (Q * r.x - R * q.x)) * ((scP (Q - R) r).x - (Q * r.x - R * q.x)) + ((scP (Q - R) q).y - (Q * r.y - R * q.y)) * ((scP (Q - R) r).y - (Q * r.y - R * q.y)) = Q * R * ((r.x - q.x) * (r.x - q.x) + (r.y - q.y) * (r.y - q.y)) := by unfold scP; grind
      simp only at e ⊢
      rw [e]; exact n2
/-- What is inside behind an ear's cut is inside ahead of it. -/
theorem grow {ps : List Pt} {rs : List Nat} (h : RingOk ps rs) (h4 : 4 ≤ rs.length) {k : Nat} (hk : k < rs.length) (he : earB ps rs k = true) {x y : Nat} (c : ChoV ps (rs.eraseIdx k) x y) (hi : Inn ps (rs.eraseIdx k) x y) : ChoV ps rs x y ∧ Inn ps rs x y := by
  have hc := ring_cut h h4 hk he
  obtain ⟨F1, F2, F3, F4, F5⟩ := fol_cut h.nodup h4 hk
  have Ft : Fol rs (bef rs k) (gn rs k) := Fol.bef_ hk
  have Fv : Fol rs (gn rs k) (aft rs k) := Fol.at_ hk
  have mt : gn rs k ∈ rs := gn_mem hk
  have sub : ∀ {a : Nat}, a ∈ rs.eraseIdx k → a ∈ rs := fun ha => (List.eraseIdx_sublist ..).subset ha
  have noT : ∀ {a : Nat}, a ∈ rs.eraseIdx k → a ≠ gn rs k := fun ha e => F5 (by rw [← e]; exact ha)
  have mem : ∀ {a : Nat}, a ∈ rs → a ≠ gn rs k → a ∈ rs.eraseIdx k := fun {a} ha hat => by
    by_cases e : a = bef rs k
    · rw [e]; exact F3.mem.1
    · obtain ⟨j, hj, rfl⟩ := gn_of_mem ha
      exact (F1 _ _ (Fol.at_ hj) e hat).mem.1
  have xt := noT c.hx
  have yt := noT c.hy
  have mx := sub c.hx
  have my := sub c.hy
  have fol : ∀ {a b : Nat}, Fol rs a b → a ≠ gn rs k → b ≠ gn rs k → Fol (rs.eraseIdx k) a b := fun {a b} hf h1 h2 => F1 a b hf (fun e => h2 (by rw [e] at hf; exact Fol.only h.nodup hf Ft)) h1
  have bad : ∀ {w : Nat}, (w = bef rs k ∨ w = aft rs k) → ∀ (K : Int) (m : Pt), 0 < K → onSeg (scP K (gp ps (gn rs k))) (scP K (gp ps w)) m = true → onSeg (scP K (gp ps x)) (scP K (gp ps y)) m = true → m ≠ scP K (gp ps w) → m ≠ scP K (gp ps x) → m ≠ scP K (gp ps y) → False := fun {w} hw K m hK h1 h2 m1 m2 m3 => by
    have a1 := tip_out h h4 hk he hw hK h1 m1
    have a2 := hi K m hK h2 m2 m3
    omega
  have wside : ∀ {w : Nat}, (w = bef rs k ∨ w = aft rs k) → w ≠ x → w ≠ y → Dj (gp ps (gn rs k)) (gp ps w) (gp ps x) (gp ps y) := fun {w} hw w1 w2 => by
    refine Classical.byContradiction fun hn => ?_
    obtain ⟨K, m, hK, hm1, hm2⟩ := cmn_pt hn
    have mw : w ∈ rs.eraseIdx k := by rcases hw with rfl | rfl; exact F3.mem.1; exact F3.mem.2
    have offw : ∀ {a : Nat}, a ∈ rs → a ≠ gn rs k → a ≠ w → onSeg (gp ps (gn rs k)) (gp ps w) (gp ps a) = false := fun {a} ha h1 h2 => by
      rcases hw with rfl | rfl
      · rw [onSeg_swap]; exact ring_off h h4 Ft ha h2 h1
      · exact ring_off h h4 Fv ha h1 h2
    refine bad hw K m hK hm1 hm2 (fun e => ?_) (fun e => ?_) (fun e => ?_)
    · rw [e, onSeg_sc hK, c.off w mw w1 w2] at hm2; cases hm2
    · rw [e, onSeg_sc hK, offw mx xt w1.symm] at hm1; cases hm1
    · rw [e, onSeg_sc hK, offw my yt w2.symm] at hm1; cases hm1
  have nxt : bef rs k ≠ gn rs k := fun e => F5 (by rw [← e]; exact F3.mem.1)
  have C : ChoV ps rs x y := by
    refine ⟨mx, my, c.ne, fun hf => c.n1 (fol hf xt yt), fun hf => c.n2 (fol hf yt xt), fun a b hf h1 h2 h3 h5 => ?_, fun a ha h1 h2 => ?_⟩
    · by_cases ea : a = gn rs k
      · have eb : b = aft rs k := by rw [ea] at hf; exact Fol.only h.nodup hf Fv
        rw [ea]
        exact wside (.inr eb) h2 h5
      · by_cases eb : b = gn rs k
        · have ea2 : a = bef rs k := by rw [eb] at hf; exact fol_pred h.nodup hf Ft
          rw [eb]
          exact (wside (.inl ea2) h1 h3).swap1
        · exact c.far a b (fol hf ea eb) h1 h2 h3 h5
    · by_cases ea : a = gn rs k
      · subst ea
        rw [← Bool.not_eq_true]
        intro hon
        have o1 : (0 : Int) < 1 := by omega
        have s1 : ∀ {p q : Pt}, scP 1 p = scP 1 q → p = q := fun {p q} e => by
          unfold scP at e
          simp only [Int.one_mul] at e
          exact e
        refine bad (.inl rfl) 1 (scP 1 (gp ps (gn rs k))) o1 (by rw [onSeg_sc o1]; exact onSeg_end1 _ _) (by rw [onSeg_sc o1]; exact hon) (fun e => ?_) (fun e => ?_) (fun e => ?_)
        · exact ring_ne h mt Ft.mem.1 nxt.symm (s1 e)
        · exact ring_ne h mt mx xt.symm (s1 e)
        · exact ring_ne h mt my yt.symm (s1 e)
      · exact c.off a (mem ha ea) h1 h2
  have main : ∀ {x y : Nat}, ChoV ps (rs.eraseIdx k) x y → ChoV ps rs x y → Inn ps (rs.eraseIdx k) x y → x ≠ bef rs k → x ≠ aft rs k → Inn ps rs x y := fun {x y} c C hi n1 n2 => by
    obtain ⟨j, hj, ej⟩ := gn_of_mem C.hx
    have xt := noT c.hx
    have hp : Fol rs (bef rs j) x := by rw [← ej]; exact Fol.bef_ hj
    have hs : Fol rs x (aft rs j) := by rw [← ej]; exact Fol.at_ hj
    have hpt : bef rs j ≠ gn rs k := fun e => n2 (by rw [e] at hp; exact Fol.only h.nodup hp Fv)
    have hst : aft rs j ≠ gn rs k := fun e => n1 (by rw [e] at hs; exact fol_pred h.nodup hs Ft)
    exact out_inn h C hp hs (inn_out hc c (fol hp hpt xt) (fol hs xt hst) hi)
  refine ⟨C, ?_⟩
  by_cases hx : x = bef rs k ∨ x = aft rs k
  · have hy1 : y ≠ bef rs k := fun e => by
      rcases hx with hx | hx
      · exact c.ne (by rw [hx, e])
      · exact c.n2 (by rw [hx, e]; exact F3)
    have hy2 : y ≠ aft rs k := fun e => by
      rcases hx with hx | hx
      · exact c.n1 (by rw [hx, e]; exact F3)
      · exact c.ne (by rw [hx, e])
    exact (main c.symm C.symm hi.symm hy1 hy2).symm
  · exact main c C hi (fun e => hx (.inl e)) (fun e => hx (.inr e))
/-! ### the first ring; all of it -/
/-- The places beside vertex v in the ring. -/
theorem ring_beside {ps : List Pt} (h3 : 3 ≤ ps.length) {v : Nat} (hv : v < ps.length) :
    (areaL ps < 0 → bef (rgN ps) (rgI ps v) = (v + 1) % ps.length ∧ aft (rgN ps) (rgI ps v) = (v + ps.length - 1) % ps.length) ∧
    (¬ areaL ps < 0 → bef (rgN ps) (rgI ps v) = (v + ps.length - 1) % ps.length ∧ aft (rgN ps) (rgI ps v) = (v + 1) % ps.length) := by
  have hl := rgN_len ps
  unfold bef aft
  rw [hl]
  rw [rgN_at (Nat.mod_lt _ (by omega)), rgN_at (Nat.mod_lt _ (by omega))]
  unfold rgI
  generalize ps.length = n at *
  constructor
  · intro ha
    simp only [if_pos ha]
    by_cases v0 : v = 0
    · subst v0
      rw [Nat.sub_zero, Nat.mod_self, Nat.zero_add, Nat.mod_eq_of_lt (show n - 1 < n by omega), Nat.zero_add, Nat.mod_eq_of_lt (show 1 < n by omega)]
      exact ⟨by rw [show n - (n - 1) = 1 by omega]; exact Nat.mod_eq_of_lt (by omega), by exact Nat.mod_eq_of_lt (by omega)⟩
    · rw [Nat.mod_eq_of_lt (show n - v < n by omega), show n - v + n - 1 = n - v - 1 + n by omega, Nat.add_mod_right, Nat.mod_eq_of_lt (show n - v - 1 < n by omega), show n - (n - v - 1) = v + 1 by omega]
      refine ⟨rfl, ?_⟩
      rw [show v + n - 1 = v - 1 + n by omega, Nat.add_mod_right, Nat.mod_eq_of_lt (show v - 1 < n by omega)]
      by_cases v1 : v = 1
      · subst v1
        rw [show n - 1 + 1 = n by omega, Nat.mod_self, Nat.sub_zero, Nat.mod_self]
      · rw [Nat.mod_eq_of_lt (show n - v + 1 < n by omega), show n - (n - v + 1) = v - 1 by omega]
        exact Nat.mod_eq_of_lt (by omega)
  · intro ha
    simp only [if_neg ha]
    exact ⟨trivial, trivial⟩
def SideOk (ps : List Pt) (x y : Nat) : Prop := (x + 1) % ps.length = y ∨ (y + 1) % ps.length = x ∨ diagI ps x y = true
theorem fol_first {ps : List Pt} (h3 : 3 ≤ ps.length) {v : Nat} (hv : v < ps.length) : v ∈ rgN ps ∧ (areaL ps < 0 → Fol (rgN ps) ((v + 1) % ps.length) v) ∧ (¬ areaL ps < 0 → Fol (rgN ps) v ((v + 1) % ps.length)) := by
  have hl := rgN_len ps
  have hk : rgI ps v < (rgN ps).length := by rw [hl]; exact rgI_lt hv
  have ev : gn (rgN ps) (rgI ps v) = v := by rw [rgN_at (rgI_lt hv), rgI_inv hv]
  obtain ⟨N1, N2⟩ := ring_beside h3 hv
  have B : Fol (rgN ps) (bef (rgN ps) (rgI ps v)) (gn (rgN ps) (rgI ps v)) := Fol.bef_ hk
  have A : Fol (rgN ps) (gn (rgN ps) (rgI ps v)) (aft (rgN ps) (rgI ps v)) := Fol.at_ hk
  rw [ev] at A B
  refine ⟨by have := gn_mem hk; rwa [ev] at this, fun ha => ?_, fun ha => ?_⟩
  · rw [(N1 ha).1] at B; exact B
  · rw [(N2 ha).2] at A; exact A
theorem wn_first {ps : List Pt} (h3 : 3 ≤ ps.length) {K : Int} {q : Pt} : wn ((rpt ps (rgN ps)).map (scP K)) q = wn (ps.map (scP K)) q ∨ wn ((rpt ps (rgN ps)).map (scP K)) q = -wn (ps.map (scP K)) q := by
  rw [rpt_rgN]
  split
  · right
    have e : (rotP ps.reverse (ps.length - 1)).map (scP K) = rotP (ps.map (scP K)).reverse (ps.length - 1) := by
      unfold rotP
      rw [List.map_append, List.map_drop, List.map_take, List.map_reverse]
    rw [e, wn_sum, edge_rot _ (by rw [List.length_reverse, List.length_map]; omega), edge_rev _ (fun a b => cw_swap a b q), ← wn_sum]
  · left; rfl
theorem good_first {ps : List Pt} (h : simB ps = true) {x y : Nat} (hh : Fol (rgN ps) x y ∨ (ChoV ps (rgN ps) x y ∧ Inn ps (rgN ps) x y)) : SideOk ps x y := by
  have S := sim_of h
  have h3 := S.three
  have hR := ring_first h
  have hd := rgN_nodup ps
  rcases hh with hf | ⟨c, hi⟩
  · have hx := rgN_lt hf.mem.1
    have hy := rgN_lt hf.mem.2
    by_cases ha : areaL ps < 0
    · exact .inr (.inl (fol_pred hd ((fol_first h3 hy).2.1 ha) hf))
    · exact .inl (Fol.only hd ((fol_first h3 hx).2.2 ha) hf)
  · have hx := rgN_lt c.hx
    have hy := rgN_lt c.hy
    have C : Cho ps x y := by
      refine ⟨hx, hy, c.ne, fun e => ?_, fun e => ?_, fun j hj h1 h2 h5 h6 => ?_, fun j hj h1 h2 => c.off j (fol_first h3 hj).1 h1 h2⟩
      · by_cases ha : areaL ps < 0
        · exact c.n2 (by have := (fol_first h3 hx).2.1 ha; rwa [← e] at this)
        · exact c.n1 (by have := (fol_first h3 hx).2.2 ha; rwa [← e] at this)
      · by_cases ha : areaL ps < 0
        · exact c.n1 (by have := (fol_first h3 hy).2.1 ha; rwa [← e] at this)
        · exact c.n2 (by have := (fol_first h3 hy).2.2 ha; rwa [← e] at this)
      · by_cases ha : areaL ps < 0
        · exact (c.far _ _ ((fol_first h3 hj).2.1 ha) h2 h1 h6 h5).swap1
        · exact c.far _ _ ((fol_first h3 hj).2.2 ha) h1 h2 h5 h6
    refine .inr (.inr ((diagI_iff S hx hy).2 ⟨C, ?_⟩))
    have L := loc_cone S C
    have hne := mid_ne (ring_ne hR c.hx c.hy c.ne)
    have W := hi 2 _ (by omega) (mid_on _ _) hne.1 hne.2
    by_cases hc : coneB ps x y = true
    · rw [L, if_pos hc]
    · rw [if_neg hc] at L
      exfalso
      have w2 := wn_first h3 (K := 2) (q := midP (gp ps x) (gp ps y))
      unfold locI at L
      split at L
      · omega
      · have L2 : (if wn (ps.map (scP 2)) (midP (gp ps x) (gp ps y)) % 2 = 0 then (-1 : Int) else 1) = -1 := L
        split at L2 <;> omega
theorem cut_sides {ps : List Pt} : ∀ (f : Nat) (rs : List Nat), RingOk ps rs → rs.length = f + 3 → (∀ x y, Fol rs x y ∨ (ChoV ps rs x y ∧ Inn ps rs x y) → SideOk ps x y) → ∀ t ∈ cutL ps f rs, SideOk ps t.a t.b ∧ SideOk ps t.b t.c ∧ SideOk ps t.c t.a
  | 0, rs, h, hl, G, t, ht => by
    have et : t = lastT rs := List.mem_singleton.1 ht
    subst et
    exact ⟨G _ _ (.inl ((fol_three hl).2 (.inl ⟨rfl, rfl⟩))), G _ _ (.inl ((fol_three hl).2 (.inr (.inl ⟨rfl, rfl⟩)))), G _ _ (.inl ((fol_three hl).2 (.inr (.inr ⟨rfl, rfl⟩))))⟩
  | f + 1, rs, h, hl, G, t, ht => by
    obtain ⟨e1, e2, _⟩ := fEar_ok h (by omega)
    obtain ⟨c1, c2⟩ := cutR_ok h (by omega)
    have h4 : 4 ≤ rs.length := by omega
    have EI := ear_inn h h4 e1 e2
    obtain ⟨F1, F2, F3, F4, F5⟩ := fol_cut h.nodup h4 e1
    have ht' : t ∈ clipT ps rs :: cutL ps f (cutR ps rs) := ht
    rcases List.mem_cons.1 ht' with e | hm
    · subst e
      exact ⟨G _ _ (.inl (Fol.bef_ e1)), G _ _ (.inl (Fol.at_ e1)), G _ _ (.inr EI)⟩
    · refine cut_sides f (cutR ps rs) c1 (by omega) (fun x y hh => ?_) t hm
      rcases hh with hf | ⟨c, hi⟩
      · by_cases ex : x = bef rs (fEar ps rs)
        · subst ex
          have ey : y = aft rs (fEar ps rs) := Fol.only c1.nodup hf F3
          subst ey
          exact G _ _ (.inr ⟨EI.1.symm, EI.2.symm⟩)
        · exact G _ _ (.inl (F2 x y hf ex))
      · exact G _ _ (.inr (grow h h4 e1 e2 c hi))
/-- Each side of a triangle is an edge or a diagonal. -/
theorem tri_sides {ps : List Pt} (h : clipB ps = true) {j : Nat} (hj : j < (triI ps).length) : ∃ a b c : Nat, gt (triI ps) j = ⟨a, b, c⟩ ∧ a < ps.length ∧ b < ps.length ∧ c < ps.length ∧ SideOk ps a b ∧ SideOk ps b c ∧ SideOk ps c a := by
  have hs : simB ps = true := by unfold clipB at h; rw [Bool.and_eq_true] at h; exact h.1
  have h3 := (sim_of hs).three
  have hm := gt_mem hj
  unfold triI at hm
  obtain ⟨t, ht, e⟩ := List.mem_map.1 hm
  obtain ⟨_, t2, _⟩ := tri_parts hs
  obtain ⟨m1, m2, m3⟩ := t2 t ht
  have S := cut_sides (ps.length - 3) (rgN ps) (ring_first hs) (by rw [rgN_len]; omega) (fun x y hh => good_first hs hh) t ht
  exact ⟨t.a, t.b, t.c, (show gt (triI ps) j = ofN t from e.symm), rgN_lt m1, rgN_lt m2, rgN_lt m3, S⟩
end Go.Proofs.Ytcebmcbglhkkfaa
