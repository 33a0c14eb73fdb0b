/- How two segments meet; simple polygons; hulls are simple. No program in sight. -/
import Derived.Test.YtelhidonhldjeaaEdge
import Derived.Test.YtelhidonhldjeaaHullK
import Derived.Test.YtelhidonhldjeaaHelp
set_option linter.unusedVariables false
set_option linter.unusedSimpArgs false
namespace Go.Proofs.Ytelhidonhldjeaa
open Go.RowKit

theorem ringEdges (h : List Pt) : ring h = edgesL h := by
  unfold ring
  refine List.ext_getElem ?_ fun i h1 h2 => ?_
  · rw [edgesL_len]; simp; omega
  · have h3 : i < h.length := by rwa [edgesL_len] at h2
    rw [← gs_lt h2, edgesL_at h3]
    unfold edgeAt
    rw [List.getElem_zip, gp_lt h3]
    congr 1
    by_cases hi : i + 1 < h.length
    · rw [Nat.mod_eq_of_lt hi, gp_lt hi, List.getElem_append_left (by simp; omega)]
      simp [Nat.add_comm]
    · have : i + 1 = h.length := by omega
      rw [this, Nat.mod_self, List.getElem_append_right (by simp; omega), gp_lt (by omega)]
      have h0 : i - (h.length - 1) = 0 := by omega
      simp [h0]
theorem eqP_pt {p q : Pt} : (decide (p.x = q.x) && decide (p.y = q.y)) = decide (p = q) := by
  rw [Bool.eq_iff_iff]
  simp only [Bool.and_eq_true, decide_eq_true_eq]
  exact ⟨fun h => pt_eq h.1 h.2, fun h => by rw [h]; exact ⟨rfl, rfl⟩⟩
def onS (s : Sg) (p : Pt) : Bool := onSeg s.1 s.2 p
def isEndB (s : Sg) (p : Pt) : Bool := eqP p.x p.y s.1.x s.1.y || eqP p.x p.y s.2.x s.2.y
theorem isEnd_iff {s : Sg} {p : Pt} : isEndB s p = true ↔ p = s.1 ∨ p = s.2 := by
  unfold isEndB; simp [eqP, eqP_pt]
def cmnB (s t : Sg) (p : Pt) : Bool := onS s p && !(isEndB t p && isEndB s p)
/-- The ends of the one that the other has. -/
def cmn (s t : Sg) : List Pt := [s.1, s.2].filter (onS t) ++ [t.1, t.2].filter (cmnB s t)
def crossB (s t : Sg) : Bool := decide (sgn (trn s.1 s.2 t.1) * sgn (trn s.1 s.2 t.2) < 0) && decide (sgn (trn t.1 t.2 s.1) * sgn (trn t.1 t.2 s.2) < 0)
def relOf (n : Nat) (x : Bool) : Int := if n = 0 then (if x then 2 else 0) else if n = 1 then 1 else 3
def relI (s t : Sg) : Int := relOf (cmn s t).length (crossB s t)
def cmnA (s t : Sg) : List Pt := [s.1, s.2, t.1, t.2].filter fun p => onS s p && onS t p
def relS (s t : Sg) : Int := relOf (sortP (cmnA s t)).length (crossB s t)
theorem onSeg_end1 (a b : Pt) : onSeg a b a = true := by unfold onSeg trn; simp
theorem onSeg_end2 (a b : Pt) : onSeg a b b = true := by unfold onSeg trn; simp [Int.mul_comm]
theorem onS_iff {a b p : Pt} (h : onSeg a b p = true) : trn a b p = 0 := by unfold onSeg at h; simp at h; exact h.1
theorem onS_no {a b p : Pt} (h : trn a b p ≠ 0) : onSeg a b p = false := by unfold onSeg; simp [h]
theorem sortP_nodup {l : List Pt} (h : l.Nodup) : (sortP l).length = l.length :=
  Nat.le_antisymm (sortP_len l) (nodup_len h fun q hq => sortP_mem.2 hq)
theorem cmn_mem {s t : Sg} {p : Pt} : p ∈ cmn s t ↔ p ∈ cmnA s t := by
  unfold cmn cmnA
  simp only [List.mem_append, List.mem_filter, List.mem_cons, List.not_mem_nil, or_false, Bool.and_eq_true, cmnB, Bool.not_eq_true']
  have e1 : onS s s.1 = true := onSeg_end1 _ _
  have e2 : onS s s.2 = true := onSeg_end2 _ _
  have e3 : onS t t.1 = true := onSeg_end1 _ _
  have e4 : onS t t.2 = true := onSeg_end2 _ _
  constructor
  · rintro (⟨rfl | rfl, h⟩ | ⟨rfl | rfl, h, _⟩)
    · exact ⟨.inl rfl, e1, h⟩
    · exact ⟨.inr (.inl rfl), e2, h⟩
    · exact ⟨.inr (.inr (.inl rfl)), h, e3⟩
    · exact ⟨.inr (.inr (.inr rfl)), h, e4⟩
  · rintro ⟨hm, h1, h2⟩
    by_cases hs : p = s.1 ∨ p = s.2
    · exact .inl ⟨hs, h2⟩
    · refine .inr ⟨?_, h1, ?_⟩
      · rcases hm with h | h | h | h
        · exact absurd (.inl h) hs
        · exact absurd (.inr h) hs
        · exact .inl h
        · exact .inr h
      · cases hh : isEndB t p && isEndB s p with
        | false => rfl
        | true =>
          rw [Bool.and_eq_true] at hh
          exact absurd (isEnd_iff.1 hh.2) hs
theorem nodup_filter {f : Pt → Bool} {l : List Pt} (h : l.Nodup) : (l.filter f).Nodup := List.Nodup.sublist List.filter_sublist h
theorem cmn_nodup {s t : Sg} (h1 : s.1 ≠ s.2) (h2 : t.1 ≠ t.2) : (cmn s t).Nodup := by
  unfold cmn
  rw [List.nodup_append]
  refine ⟨nodup_filter (by simp [h1]), nodup_filter (by simp [h2]), fun a ha b hb => ?_⟩
  simp only [List.mem_filter, List.mem_cons, List.not_mem_nil, or_false, cmnB, Bool.and_eq_true, Bool.not_eq_true'] at ha hb
  rintro rfl
  have he : (isEndB t a && isEndB s a) = true := by rw [Bool.and_eq_true]; exact ⟨isEnd_iff.2 hb.1, isEnd_iff.2 ha.1⟩
  rw [he] at hb
  exact absurd hb.2.2 (by simp)
theorem rel_eq {s t : Sg} (h1 : s.1 ≠ s.2) (h2 : t.1 ≠ t.2) : relS s t = relI s t := by
  unfold relS relI
  rw [← sortP_nodup (cmn_nodup h1 h2), sortP_ext (fun q => cmn_mem (s := s) (t := t))]
theorem sgn_mul_pos {u v : Int} (h1 : 0 < u) (h2 : 0 < v) : ¬ sgn u * sgn v < 0 := by rw [sgn_pos h1, sgn_pos h2]; omega
theorem rel_apart {s t : Sg} (h1 : 0 < trn s.1 s.2 t.1) (h2 : 0 < trn s.1 s.2 t.2) (h3 : 0 < trn t.1 t.2 s.1) (h4 : 0 < trn t.1 t.2 s.2) : relI s t = 0 := by
  have e : cmn s t = [] := by
    unfold cmn cmnB onS
    rw [List.filter_cons, List.filter_cons, List.filter_cons, List.filter_cons, onS_no (by omega), onS_no (by omega), onS_no (by omega), onS_no (by omega)]
    simp
  unfold relI
  rw [e]
  have : crossB s t = false := by
    unfold crossB
    rw [decide_eq_false (sgn_mul_pos h1 h2)]; rfl
  rw [this]; rfl
theorem rel_touch1 {a b c : Pt} (h : trn a b c ≠ 0) : relI (b, c) (a, b) = 1 := by
  have h1 : onSeg a b c = false := onS_no h
  have h2 : onSeg b c a = false := onS_no (by rw [trn_rot] at h; exact h)
  have h3 : onSeg a b b = true := onSeg_end2 _ _
  have h4 : isEndB (a, b) b = true := isEnd_iff.2 (.inr rfl)
  have h5 : isEndB (b, c) b = true := isEnd_iff.2 (.inl rfl)
  have e : cmn (b, c) (a, b) = [b] := by
    unfold cmn cmnB onS
    simp [h1, h2, h3, h4, h5]
  unfold relI; rw [e]; rfl
theorem rel_touch2 {a b c : Pt} (h : trn a b c ≠ 0) : relI (a, b) (b, c) = 1 := by
  have h1 : onSeg a b c = false := onS_no h
  have h2 : onSeg b c a = false := onS_no (by rw [trn_rot] at h; exact h)
  have h3 : onSeg b c b = true := onSeg_end1 _ _
  have h4 : isEndB (a, b) b = true := isEnd_iff.2 (.inr rfl)
  have h5 : isEndB (b, c) b = true := isEnd_iff.2 (.inl rfl)
  have e : cmn (a, b) (b, c) = [b] := by
    unfold cmn cmnB onS
    simp [h1, h2, h3, h4, h5]
  unfold relI; rw [e]; rfl
/-! ### simple polygons -/
def nextTo (n i k : Nat) : Bool := decide (i = k + 1) || decide (i + 1 = k + n)
def pairI (ps : List Pt) (i k : Nat) : Bool := relI (edgeAt ps i) (edgeAt ps k) == (if nextTo ps.length i k then 1 else 0)
def ringB (ps : List Pt) : Bool := listOk ps && decide (3 ≤ ps.length) && decide ((sortP ps).length = ps.length)
def pairsB (q : Nat → Nat → Bool) (n : Nat) : Bool := (List.range n).all fun i => (List.range i).all fun k => q i k
/-- The polygon is simple. -/
def simB (ps : List Pt) : Bool := ringB ps && pairsB (pairI ps) ps.length
theorem pairsB_iff {q : Nat → Nat → Bool} {n : Nat} : pairsB q n = true ↔ ∀ i, i < n → ∀ k, k < i → q i k = true := by
  unfold pairsB; simp
theorem sortP_dedup {l : List Pt} (h : (sortP l).length = l.length) : l.Nodup := by
  induction l with
  | nil => exact List.nodup_nil
  | cons a r ih =>
    rw [List.nodup_cons]
    have hr : a ∉ r := fun ha => by
      have e : sortP (a :: r) = sortP r := sortP_ext fun q => by
        simp only [List.mem_cons]
        exact ⟨fun hh => hh.elim (fun e => e ▸ ha) id, .inr⟩
      rw [e] at h
      have := sortP_len r
      simp at h; omega
    refine ⟨hr, ih ?_⟩
    have h3 : (sortP (a :: r)).length ≤ (a :: sortP r).length := nodup_len (asc_nodup (sortP_asc _)) fun q hq => by
      have := sortP_mem.1 hq
      simp only [List.mem_cons] at this ⊢
      exact this.imp id sortP_mem.2
    have := sortP_len r
    simp at h h3; omega
theorem ring_parts {ps : List Pt} (h : ringB ps = true) : listOk ps = true ∧ 3 ≤ ps.length ∧ ps.Nodup := by
  unfold ringB at h
  simp only [Bool.and_eq_true, decide_eq_true_eq] at h
  exact ⟨h.1.1, h.1.2, sortP_dedup h.2⟩
theorem gp_inj {ps : List Pt} (h : ps.Nodup) {i k : Nat} (hi : i < ps.length) (hk : k < ps.length) (e : gp ps i = gp ps k) : i = k := by
  rw [gp_lt hi, gp_lt hk] at e
  rcases Nat.lt_trichotomy i k with hh | hh | hh
  · exact absurd e (List.pairwise_iff_getElem.1 h i k hi hk hh)
  · exact hh
  · exact absurd e.symm (List.pairwise_iff_getElem.1 h k i hk hi hh)
theorem mod_next {n k : Nat} (h : k < n) : (k + 1) % n = if k + 1 = n then 0 else k + 1 := by
  split
  · rename_i e; rw [e, Nat.mod_self]
  · exact Nat.mod_eq_of_lt (by omega)
theorem edge_mem {ps : List Pt} {i : Nat} (h : i < ps.length) : edgeAt ps i ∈ ring ps := by
  rw [ringEdges]; exact edgesL_mem.2 ⟨i, h, rfl⟩
/-- A vertex of a convex ring that is no end of an edge is left of it. -/
theorem left_of {ps : List Pt} (hc : ConvP ps) (hd : ps.Nodup) {i v : Nat} (hi : i < ps.length) (hv : v < ps.length) (h1 : v ≠ i) (h2 : v ≠ (i + 1) % ps.length) : 0 < trn (gp ps i) (gp ps ((i + 1) % ps.length)) (gp ps v) := by
  have := edge_left hc (edge_mem hi) (gp_mem hv)
  rcases this with h | h | h
  · exact absurd (gp_inj hd hv hi h) h1
  · exact absurd (gp_inj hd hv (Nat.mod_lt _ (by omega)) h) h2
  · exact h
theorem conv_pairs {ps : List Pt} (hc : ConvP ps) (hd : ps.Nodup) (h3 : 3 ≤ ps.length) : pairsB (pairI ps) ps.length = true := by
  rw [pairsB_iff]
  intro i hi k hk
  unfold pairI
  rw [beq_iff_eq]
  have mi := mod_next hi
  have mk := mod_next (show k < ps.length by omega)
  have hm : (i + 1) % ps.length < ps.length := Nat.mod_lt _ (by omega)
  have hm2 : (k + 1) % ps.length < ps.length := Nat.mod_lt _ (by omega)
  by_cases h1 : i = k + 1
  · subst h1
    rw [if_pos (by simp [nextTo])]
    have e : (k + 1) % ps.length = k + 1 := Nat.mod_eq_of_lt hi
    unfold edgeAt
    rw [e]
    have := left_of hc hd (show k < ps.length by omega) hm (v := (k + 1 + 1) % ps.length) (by split at mi <;> omega) (by rw [e]; split at mi <;> omega)
    rw [e] at this
    exact rel_touch1 (by omega)
  · by_cases h2 : i + 1 = k + ps.length
    · rw [if_pos (by simp [nextTo, h2])]
      have hk0 : k = 0 := by omega
      subst hk0
      have e : (i + 1) % ps.length = 0 := by rw [mi, if_pos (by omega)]
      have e2 : (0 + 1) % ps.length = 1 := by rw [mk, if_neg (by omega)]
      unfold edgeAt
      rw [e, e2]
      have := left_of hc hd hi (show 1 < ps.length by omega) (v := 1) (by omega) (by rw [e]; omega)
      rw [e] at this
      exact rel_touch2 (by omega)
    · rw [if_neg (by simp [nextTo, h1, h2])]
      unfold edgeAt
      refine rel_apart (left_of hc hd hi (by omega) (by omega) ?_) (left_of hc hd hi hm2 ?_ ?_) (left_of hc hd (by omega) hi (by omega) ?_) (left_of hc hd (by omega) hm ?_ ?_) <;> (split at mi <;> split at mk <;> omega)
theorem conv_simple {ps : List Pt} (hok : listOk ps = true) (hc : ConvP ps) (hd : ps.Nodup) (h3 : 3 ≤ ps.length) : simB ps = true := by
  unfold simB ringB
  rw [hok, sortP_nodup hd, conv_pairs hc hd h3]
  simp [h3]
/-! ### convex polygons -/
def leftB (ps : List Pt) : Bool := (List.range ps.length).all fun i => decide (0 < trn (gp ps i) (gp ps ((i + 1) % ps.length)) (gp ps ((i + 2) % ps.length)))
def convB (ps : List Pt) : Bool := simB ps && leftB ps
theorem conv_left {ps : List Pt} (hc : ConvP ps) (hd : ps.Nodup) (h3 : 3 ≤ ps.length) : leftB ps = true := by
  unfold leftB
  rw [List.all_eq_true]
  intro i hi
  rw [List.mem_range] at hi
  have mi := mod_next hi
  have hm : (i + 1) % ps.length < ps.length := Nat.mod_lt _ (by omega)
  have mj := mod_next hm
  have e : ((i + 1) % ps.length + 1) % ps.length = (i + 2) % ps.length := by rw [Nat.mod_add_mod]
  rw [e] at mj
  rw [decide_eq_true_eq]
  exact left_of hc hd hi (Nat.mod_lt _ (by omega)) (by split at mi <;> split at mj <;> omega) (by split at mi <;> split at mj <;> omega)
theorem conv_conv {ps : List Pt} (hok : listOk ps = true) (hc : ConvP ps) (hd : ps.Nodup) (h3 : 3 ≤ ps.length) : convB ps = true := by
  unfold convB
  rw [conv_simple hok hc hd h3, conv_left hc hd h3]; rfl
theorem hull_ok {ps : List Pt} (h : listOk ps = true) : listOk (hullOf ps) = true := by
  have hl := hullOf_len' ps
  unfold listOk at h ⊢
  simp only [Bool.and_eq_true, decide_eq_true_eq] at h ⊢
  exact ⟨by omega, List.all_eq_true.2 fun p hp => List.all_eq_true.1 h.2 p (hullOf_sub hp)⟩
theorem hull_convB {ps : List Pt} (h : listOk ps = true) (h3 : 3 ≤ (hullOf ps).length) : convB (hullOf ps) = true :=
  conv_conv (hull_ok h) (hull_conv ps) (hullOf_nodup ps) h3
/-! ### a point and a convex polygon -/
def leastTo (ps : List Pt) (q : Pt) : Nat → Int
  | 0 => 1
  | k + 1 => min (leastTo ps q k) (sgn (trn (gp ps k) (gp ps ((k + 1) % ps.length)) q))
def locC (ps : List Pt) (q : Pt) : Int := if convB ps && vP q.x q.y then leastTo ps q ps.length else 2
theorem least_bd (ps : List Pt) (q : Pt) : ∀ k, -1 ≤ leastTo ps q k ∧ leastTo ps q k ≤ 1
  | 0 => by simp [leastTo]
  | k + 1 => by
    have := least_bd ps q k
    have h2 := sgn_bd (trn (gp ps k) (gp ps ((k + 1) % ps.length)) q)
    unfold leastTo
    rw [Int.min_def]; split <;> omega
theorem least_neg {ps : List Pt} {q : Pt} : ∀ {k i : Nat}, i < k → trn (gp ps i) (gp ps ((i + 1) % ps.length)) q < 0 → leastTo ps q k < 0
  | 0, i, h, _ => absurd h (Nat.not_lt_zero _)
  | k + 1, i, h, hq => by
    unfold leastTo
    rw [Int.min_def]
    by_cases e : i = k
    · subst e
      rw [sgn_neg hq]; split <;> omega
    · have := least_neg (k := k) (i := i) (by omega) hq
      split <;> omega
end Go.Proofs.Ytelhidonhldjeaa
