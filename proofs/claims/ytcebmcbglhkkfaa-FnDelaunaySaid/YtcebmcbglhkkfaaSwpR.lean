
import Derived.Test.YtcebmcbglhkkfaaSwpQ
import Derived.Test.YtcebmcbglhkkfaaCanD
/- The number of swept triangles; the hull's boundary. No program in sight. -/
set_option linter.unusedVariables false
set_option linter.unusedSimpArgs false
namespace Go.Proofs.Ytcebmcbglhkkfaa
open Go.RowKit

theorem on_one {u v a b c : Pt} (h : u ≠ v) (ha : trn u v a = 0) (hb : trn u v b = 0) (hc : trn u v c = 0) : trn a b c = 0 := by
  have e1 : (v.x - u.x) * trn a b c = (b.x - a.x) * (trn u v c - trn u v a) - (c.x - a.x) * (trn u v b - trn u v a) := by unfold trn; grind
  have e2 : (v.y - u.y) * trn a b c = (b.y - a.y) * (trn u v c - trn u v a) - (c.y - a.y) * (trn u v b - trn u v a) := by unfold trn; grind
  rw [ha, hb, hc] at e1 e2
  rw [Int.sub_self, Int.mul_zero, Int.mul_zero, Int.sub_self] at e1 e2
  refine Decidable.byContradiction fun hne => h ?_
  exact pt_eq (by rcases Int.mul_eq_zero.1 e1 with e | e <;> omega) (by rcases Int.mul_eq_zero.1 e2 with e | e <;> omega)
theorem hull_three {ps : List Pt} {a b c : Pt} (ha : a ∈ ps) (hb : b ∈ ps) (hc : c ∈ ps) (h : trn a b c ≠ 0) : 3 ≤ (hullOf ps).length := by
  refine Decidable.byContradiction fun hn => h ?_
  obtain ⟨u, v, hu⟩ : ∃ u v, ∀ x ∈ hullOf ps, x = u ∨ x = v := by
    match hh : hullOf ps with
    | [] => exact ⟨a, a, fun x hx => by cases hx⟩
    | [x] => exact ⟨x, x, fun y hy => .inl (List.mem_singleton.1 hy)⟩
    | [x, y] => exact ⟨x, y, fun z hz => by simpa using hz⟩
    | x :: y :: z :: r => rw [hh] at hn; simp at hn
  have far : ∀ p ∈ ps, ∀ x y : Int, dotP p x y ≤ dotP u x y ∨ dotP p x y ≤ dotP v x y := fun p hp x y => by
    obtain ⟨w, hw, hle⟩ := hull_far hp x y
    rcases hu w hw with e | e <;> subst e
    · exact .inl hle
    · exact .inr hle
  by_cases e : u = v
  · subst e
    have same : ∀ p ∈ ps, p = u := fun p hp => by
      have d1 := far p hp 1 0
      have d2 := far p hp (-1) 0
      have d3 := far p hp 0 1
      have d4 := far p hp 0 (-1)
      unfold dotP at d1 d2 d3 d4
      exact pt_eq (by omega) (by omega)
    rw [same a ha, same b hb, trn_aab]
  · have z : ∀ p ∈ ps, trn u v p = 0 := fun p hp => by
      have d1 := far p hp (-(v.y - u.y)) (v.x - u.x)
      have d2 := far p hp (v.y - u.y) (-(v.x - u.x))
      have t0 := trn_dot u v p
      have t1 := trn_dot u v u
      have t2 := trn_dot u v v
      rw [trn_aba] at t1
      rw [trn_abb] at t2
      have n0 : ∀ w : Pt, dotP w (v.y - u.y) (-(v.x - u.x)) = -dotP w (-(v.y - u.y)) (v.x - u.x) := fun w => by unfold dotP; grind
      rw [n0, n0, n0] at d2
      omega
    exact on_one e (z a ha) (z b hb) (z c hc)
theorem gs_mem_edges {h : List Pt} {i : Nat} (hi : i < h.length) : gs (edgesL h) i ∈ edgesL h := by
  rw [gs_lt (by rw [edgesL_len]; exact hi)]; exact List.getElem_mem _
theorem hull_left {ps : List Pt} {q : Pt} (hq : q ∈ ps) {i : Nat} (hi : i < (hullOf ps).length) : 0 ≤ trn (gp (hullOf ps) i) (gp (hullOf ps) ((i + 1) % (hullOf ps).length)) q := by
  have h := all_inside hq
  unfold Inside at h
  rw [ringEdges] at h
  have hm := gs_mem_edges hi
  have := h _ hm
  rw [edgesL_at hi] at this
  exact this
/-- A point of the list is on the hull's boundary iff a line through it has all points on one side. -/
theorem hull_bd {ps : List Pt} (h3 : 3 ≤ (hullOf ps).length) {q : Pt} (hq : q ∈ ps) : leastTo (hullOf ps) q (hullOf ps).length = 0 ↔ BdP ps q := by
  have m0 : 0 < (hullOf ps).length := by omega
  constructor
  · intro h0
    rcases least_ex (ps := hullOf ps) (q := q) (hullOf ps).length with e | ⟨i, hi, e⟩
    · omega
    · have z : trn (gp (hullOf ps) i) (gp (hullOf ps) ((i + 1) % (hullOf ps).length)) q = 0 := by
        have := hull_left hq hi
        rw [h0] at e
        unfold sgn at e
        split at e
        · omega
        · split at e <;> omega
      have hne : gp (hullOf ps) i ≠ gp (hullOf ps) ((i + 1) % (hullOf ps).length) := fun ee => by
        have := hull_conv ps
        have hn := hullOf_nodup ps
        have hm : (i + 1) % (hullOf ps).length < (hullOf ps).length := Nat.mod_lt _ m0
        have : i = (i + 1) % (hullOf ps).length := by
          rw [gp_lt hi, gp_lt hm] at ee
          exact (List.getElem_inj hn).1 ee
        rcases Nat.lt_or_ge (i + 1) (hullOf ps).length with c | c
        · rw [Nat.mod_eq_of_lt c] at this; omega
        · rw [show i + 1 = (hullOf ps).length by omega, Nat.mod_self] at this; omega
      have hl := fun x (hx : x ∈ ps) => hull_left hx hi
      generalize gp (hullOf ps) i = a at *
      generalize gp (hullOf ps) ((i + 1) % (hullOf ps).length) = b at *
      refine ⟨b.x - a.x, b.y - a.y, ?_, fun x hx => ?_⟩
      · refine Decidable.byContradiction fun hno => hne (pt_eq (by omega) (by omega))
      · have h1 := hl x hx
        have e3 : (b.x - a.x) * (x.y - q.y) - (b.y - a.y) * (x.x - q.x) = trn a b x - trn a b q := by unfold trn; grind
        omega
  · rintro ⟨u, v, h0, hl⟩
    refine Decidable.byContradiction fun hne => ?_
    refine no_wrap (g := fun j => gp (hullOf ps) (j % (hullOf ps).length)) m0 (by show gp (hullOf ps) ((hullOf ps).length % (hullOf ps).length) = gp (hullOf ps) (0 % (hullOf ps).length); rw [Nat.mod_self, Nat.zero_mod]) (q := q) (fun j => ?_) h0 (fun j => hl _ (hullOf_sub (gp_mem (Nat.mod_lt _ m0))))
    have hj : j % (hullOf ps).length < (hullOf ps).length := Nat.mod_lt _ m0
    have e : (j + 1) % (hullOf ps).length = (j % (hullOf ps).length + 1) % (hullOf ps).length := by rw [Nat.mod_add_mod]
    show 0 < trn (gp (hullOf ps) (j % (hullOf ps).length)) (gp (hullOf ps) ((j + 1) % (hullOf ps).length)) q
    rw [e]
    generalize j % (hullOf ps).length = i at *
    have hl2 := hull_left hq hj
    have hle := least_le (ps := hullOf ps) (q := q) hj
    refine Decidable.byContradiction fun hnp => ?_
    have z : trn (gp (hullOf ps) i) (gp (hullOf ps) ((i + 1) % (hullOf ps).length)) q = 0 := by omega
    rw [z] at hle
    have s0 : sgn 0 = 0 := rfl
    rw [s0] at hle
    -- the least is not negative
    rcases least_ex (ps := hullOf ps) (q := q) (hullOf ps).length with e2 | ⟨i2, hi2, e2⟩
    · omega
    · have := hull_left hq hi2
      have : 0 ≤ sgn (trn (gp (hullOf ps) i2) (gp (hullOf ps) ((i2 + 1) % (hullOf ps).length)) q) := by
        unfold sgn; split
        · omega
        · split <;> omega
      omega
/-- How many of the points lie on the hull's boundary: as many as the last ring has places. -/
theorem bd_count {ps : List Pt} {r : List Nat} (h : Fat ps ps.length r) (hO : Ord ps) (h3 : 3 ≤ (hullOf ps).length) : ((List.range ps.length).filter fun i => decide (leastTo (hullOf ps) (gp ps i) (hullOf ps).length = 0)).length = r.length := by
  have m0 : 0 < r.length := by have := h.two; omega
  have hp : List.Perm ((List.range ps.length).filter fun i => decide (leastTo (hullOf ps) (gp ps i) (hullOf ps).length = 0)) r := by
    rw [List.perm_ext_iff_of_nodup (List.nodup_range.filter _) h.nodup]
    intro i
    rw [List.mem_filter, List.mem_range, decide_eq_true_iff]
    constructor
    · rintro ⟨hi, h0⟩
      exact (h.mem_iff hO hi).2 ((hull_bd h3 (gp_mem hi)).1 h0)
    · intro hm
      obtain ⟨j, _, e⟩ := gm_of_mem hm
      have hi : i < ps.length := by rw [← e]; exact h.lt j
      exact ⟨hi, (hull_bd h3 (gp_mem hi)).2 ((h.mem_iff hO hi).1 hm)⟩
  exact hp.length_eq
end Go.Proofs.Ytcebmcbglhkkfaa
