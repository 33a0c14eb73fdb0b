
/- Plain: every point of a list has a witness among the vertices of its hull; the hull has the shape of one. -/
import Derived.Test.YtelhidonhldjeaaHwit
import Derived.Test.YtelhidonhldjeaaRelM
set_option linter.unusedVariables false
set_option linter.unusedSimpArgs false
namespace Go.Proofs.Ytelhidonhldjeaa
open Go.RowKit

theorem trn_mv (a b c t : Pt) : trn (addP a t) (addP b t) (addP c t) = trn a b c := by unfold trn addP; grind
theorem onSeg_mv (a b q t : Pt) : onSeg (addP a t) (addP b t) (addP q t) = onSeg a b q := by
  unfold onSeg
  rw [trn_mv, show ((addP a t).x - (addP q t).x) * ((addP b t).x - (addP q t).x) + ((addP a t).y - (addP q t).y) * ((addP b t).y - (addP q t).y) = (a.x - q.x) * (b.x - q.x) + (a.y - q.y) * (b.y - q.y) by unfold addP; grind]
theorem addP_inj (a b t : Pt) : addP a t = addP b t ↔ a = b := by
  cases a; cases b
  unfold addP
  simp
theorem triB_mv (a b c q t : Pt) : triB (addP a t) (addP b t) (addP c t) (addP q t) = triB a b c q := by
  unfold triB
  simp only [trn_mv, onSeg_mv, ne_eq, addP_inj]
theorem gp_mapf {f : Pt → Pt} {ps : List Pt} {i : Nat} (h : i < ps.length) : gp (ps.map f) i = f (gp ps i) := by
  rw [gp_lt (by simpa using h), gp_lt h]; simp
theorem wit_any {l : List Pt} {q : Pt} (hq : q ∈ l) : WitB (hullOf l) q := by
  have hk := keeps_add ⟨-q.x, -q.y⟩
  have h0 : addP q ⟨-q.x, -q.y⟩ = origin := by unfold addP origin; simp; omega
  have hne : l.map (fun p => addP p ⟨-q.x, -q.y⟩) ≠ [] := by intro e; rw [List.map_eq_nil_iff] at e; rw [e] at hq; cases hq
  have hO : HasO (l.map (fun p => addP p ⟨-q.x, -q.y⟩)) := fun x y => ⟨origin, by rw [← h0]; exact List.mem_map_of_mem hq, by simp [dotP, origin]⟩
  have hw := (wit_iff hne).2 ((meet_iff hne).2 hO)
  rw [hull_map hk] at hw
  obtain ⟨i, k, n, h1, h2, h3, h4⟩ := hw
  rw [List.length_map] at h3
  rw [gp_mapf (by omega), gp_mapf (by omega), gp_mapf h3, ← h0, triB_mv] at h4
  exact ⟨i, k, n, h1, h2, h3, h4⟩
/-- The witness of a point of the list: three vertices in whose triangle it is. -/
theorem wl_found {l : List Pt} {q : Pt} {zs : List Int} (hq : q ∈ l) (h : isWL (hullOf l) q zs) : ∃ i k m : Nat, zs = [(i : Int), (k : Int), (m : Int)] ∧ i < (hullOf l).length ∧ k < (hullOf l).length ∧ m < (hullOf l).length ∧ tB (hullOf l) q i k m = true := by
  rcases h with ⟨i, k, m, h1, h2, h3, h4, _, e⟩ | ⟨h5, _⟩
  · exact ⟨i, k, m, e, by omega, by omega, h3, h4⟩
  · obtain ⟨i, k, m, h1, h2, h3, h4⟩ := wit_any hq
    have := h5 i k m h1 h2 h3
    unfold tB at this
    rw [h4] at this; cases this
theorem lt_irr (a : Pt) : ¬ ltP a a := by unfold ltP; omega
theorem lt_asym {a b : Pt} (h : ltP a b) : ¬ ltP b a := by unfold ltP at *; omega
/-- The hull begins with the least point. -/
theorem hull_least {l : List Pt} (hl : l ≠ []) : 0 < (hullOf l).length ∧ ∀ q ∈ l, q = gp (hullOf l) 0 ∨ ltP (gp (hullOf l) 0) q := by
  by_cases h2 : (sortP l).length < 2
  · have e : hullOf l = sortP l := by unfold hullOf; rw [if_pos h2]
    rw [e]
    obtain ⟨m, h1, hh, h3⟩ := asc_min (sortP_asc l) (ne_sort hl)
    have e0 : gp (sortP l) 0 = m := by
      cases hs : sortP l with
      | nil => rw [hs] at hh; cases hh
      | cons a r => rw [hs] at hh; injection hh
    rw [e0]
    exact ⟨List.length_pos_of_mem h1, fun q hq => h3 q (sortP_mem.2 hq)⟩
  · obtain ⟨a, ha, hm⟩ := set_min hl
    obtain ⟨x, x1, x2⟩ := set_max hl
    have hla := (min_low ha hm).1
    have hlx := (max_low x1 x2).1
    obtain ⟨m, m1, m2, m3⟩ := asc_min (lowL_asc l) (fun e => by rw [e] at hla; cases hla)
    have ema : m = a := by
      rcases m3 a hla with e | e
      · exact e.symm
      · rcases hm m (lowL_mem.1 m1).1 with e2 | e2
        · exact e2
        · exact absurd e (lt_asym e2)
    have hxa : x ≠ a := fun e => by
      have hs := sortP_asc l
      match hh : sortP l, hs, h2 with
      | [], _, h2 => simp at h2
      | [y], _, h2 => simp at h2
      | y :: z :: r, hs, _ =>
        have hy : y ∈ l := sortP_mem.1 (by rw [hh]; simp)
        have hz : z ∈ l := sortP_mem.1 (by rw [hh]; simp)
        have hyz : ltP y z := (List.pairwise_cons.1 hs).1 z (by simp)
        rcases hm y hy with e1 | e1
        · rcases x2 z hz with e2 | e2
          · rw [e1, e2, e] at hyz; exact lt_irr _ hyz
          · rw [e, ← e1] at e2; exact lt_asym hyz e2
        · rcases x2 y hy with e2 | e2
          · rw [e2, e] at e1; exact lt_irr _ e1
          · rw [e] at e2; exact lt_asym e1 e2
    have key : ∃ r, hullOf l = a :: r := by
      unfold hullOf
      rw [if_neg h2]
      match hl : lowL l, m2, hlx with
      | [], m2, _ => cases m2
      | [y], m2, hlx =>
        simp only [List.head?_cons, Option.some.injEq] at m2
        simp only [List.mem_cons, List.not_mem_nil, or_false] at hlx
        exact absurd (hlx.trans (m2.trans ema)) hxa
      | y :: z :: r, m2, _ =>
        simp only [List.head?_cons, Option.some.injEq] at m2
        exact ⟨_, by rw [m2, ema]; rfl⟩
    obtain ⟨r, hr⟩ := key
    rw [hr]
    exact ⟨by simp, hm⟩
def shapedB (hs : List Pt) : Bool := if hs.length = 0 then false else if hs.length = 1 then true else if hs.length = 2 then decide (ltP (gp hs 0) (gp hs 1)) else convB hs && decide (gp hs 0 = gp (sortP hs) 0)
theorem least_first {hs : List Pt} (h0 : 0 < hs.length) (h : ∀ q ∈ hs, q = gp hs 0 ∨ ltP (gp hs 0) q) : gp hs 0 = gp (sortP hs) 0 := by
  obtain ⟨m, h1, hh, h3⟩ := asc_min (sortP_asc hs) (ne_sort (fun e => by rw [e] at h0; simp at h0))
  have e0 : gp (sortP hs) 0 = m := by
    cases hs' : sortP hs with
    | nil => rw [hs'] at hh; cases hh
    | cons a r => rw [hs'] at hh; injection hh
  rw [e0]
  rcases h m (sortP_mem.1 h1) with e | e
  · exact e.symm
  · rcases h3 _ (sortP_mem.2 (gp_mem h0)) with e2 | e2
    · exact e2
    · exact absurd e (lt_asym e2)
theorem hull_shaped {l : List Pt} (hok : listOk l = true) (hl : l ≠ []) : shapedB (hullOf l) = true := by
  obtain ⟨h0, hm⟩ := hull_least hl
  unfold shapedB
  rw [if_neg (by omega)]
  split
  · rfl
  · split
    · rename_i h1 h2
      refine decide_eq_true ?_
      rcases hm _ (hullOf_sub (gp_mem (show 1 < (hullOf l).length by omega))) with e | e
      · have := gp_inj (hullOf_nodup l) (show 1 < (hullOf l).length by omega) h0 e
        omega
      · exact e
    · rename_i h1 h2
      rw [hull_convB hok (by omega), Bool.true_and]
      exact decide_eq_true (least_first h0 fun q hq => hm q (hullOf_sub hq))
end Go.Proofs.Ytelhidonhldjeaa
