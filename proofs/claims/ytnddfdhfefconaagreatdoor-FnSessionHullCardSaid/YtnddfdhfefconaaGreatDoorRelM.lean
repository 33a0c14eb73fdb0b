
import Derived.Test.YtnddfdhfefconaaGreatDoorEdge
import Derived.Test.YtnddfdhfefconaaGreatDoorLeaf
import Derived.Test.YtnddfdhfefconaaGreatDoorFunc
import Derived.Test.YtnddfdhfefconaaGreatDoorHullK
import Derived.Test.YtnddfdhfefconaaGreatDoorHelp
/- The program's area of a polygon. -/
set_option linter.unusedVariables false
set_option linter.unusedSimpArgs false
namespace Go.Proofs.YtnddfdhfefconaaGreatDoor
open Go.RowKit

def crP (a b : Pt) : Int := a.x * b.y - a.y * b.x
def areaTo (ps : List Pt) : Nat → Int
  | 0 => 0
  | k + 1 => areaTo ps k + crP (gp ps k) (gp ps ((k + 1) % ps.length))
/-- Twice the area. -/
def areaL (ps : List Pt) : Int := areaTo ps ps.length
theorem crP_bd {a b : Pt} (ha : (-100000 ≤ a.x ∧ a.x ≤ 100000) ∧ -100000 ≤ a.y ∧ a.y ≤ 100000) (hb : (-100000 ≤ b.x ∧ b.x ≤ 100000) ∧ -100000 ≤ b.y ∧ b.y ≤ 100000) : -20000000000 ≤ crP a b ∧ crP a b ≤ 20000000000 := by
  have h1 := mul_bd ha.1 hb.2
  have h2 := mul_bd ha.2 hb.1
  unfold crP
  omega
theorem areaTo_bd {ps : List Pt} (h : ∀ p ∈ ps, (-100000 ≤ p.x ∧ p.x ≤ 100000) ∧ -100000 ≤ p.y ∧ p.y ≤ 100000) : ∀ k, k ≤ ps.length → -(k * 20000000000 : Int) ≤ areaTo ps k ∧ areaTo ps k ≤ k * 20000000000
  | 0, _ => by simp [areaTo]
  | k + 1, hk => by
    have ih := areaTo_bd h k (by omega)
    have := crP_bd (h _ (gp_mem (show k < ps.length by omega))) (h _ (gp_mem (show (k + 1) % ps.length < ps.length from Nat.mod_lt _ (by omega))))
    unfold areaTo
    omega
set_option maxHeartbeats 1000000 in
theorem area_any (ps : List Pt) (A : Option Addr) (n c : Nat) (w : World) (hn : ps.length = n) (hm : n ≤ 1000) (hb : ∀ p ∈ ps, (-100000 ≤ p.x ∧ p.x ≤ 100000) ∧ -100000 ≤ p.y ∧ p.y ≤ 100000) (hs : PtsAt w w.heap.size A ps) :
    Calls Tryz.prog 135 #[.slice A n c] w fun e w' => e = .returned (.int .i64 (areaL ps)) ∧ ∃ x, w' = ext w x := by
  have HN := hide hn
  have HB := hide hb
  have HE := hide (edges_any ps A n c w hn hm hs)
  have AB := hide (areaTo_bd hb)
  clear hn hb hs
  go_enter Tryz.func135, Tryz.ntmps135
  go_wp2_with fail
  refine HE.out.mono ?_
  rintro e w1 ⟨v1, rfl, hown1, x1, rfl⟩
  obtain ⟨A1, n1, c1, rfl⟩ := hown1.slice
  have hl1 := hown1.segs.1
  have hle1 : n1 ≤ 1000 := by rw [edgesL_len, HN.out] at hl1; omega
  have HL1 : Hid (n1 = n) := hide (by rw [edgesL_len, HN.out] at hl1; omega)
  have SG := hide hown1.segs.2.2.2
  have B1 := ext_below w x1
  generalize hW1 : ext w x1 = W1 at *
  clear hW1 hown1 hl1
  go_wp2
  go_loopw [3, 9] (fun u3 u9 wr => ∃ k : Nat, k ≤ n1 ∧ u9 = .int .i64 k ∧ u3 = .int .i64 (areaTo ps k) ∧ Below W1.heap.size W1 wr) (fun _ u9 _ => n1 - (intOf u9).toNat)
  case atStart => exact ⟨0, Nat.zero_le _, rfl, rfl, Below.refl _ _⟩
  case round =>
    obtain ⟨k, hk, rfl, rfl, hbel⟩ := hrel
    have hsz := hbel.size
    by_cases hlt : k < n1
    · obtain ⟨b, o, rfl, hbl, hc⟩ := SG.out (by rw [edgesL_len, HN.out, ← HL1.out]; omega)
      have hkl : k < ps.length := by rw [HN.out, ← HL1.out]; exact hlt
      have hck := hc k (by rw [edgesL_len]; exact hkl)
      rw [edgesL_at hkl] at hck
      have hj : (k + 1) % ps.length < ps.length := Nat.mod_lt _ (by omega)
      obtain ⟨⟨p1, p2⟩, p3, p4⟩ := HB.out _ (gp_mem hkl)
      obtain ⟨⟨p5, p6⟩, p7, p8⟩ := HB.out _ (gp_mem hj)
      have ab := AB.out k (by omega)
      have cb := crP_bd ⟨⟨p1, p2⟩, p3, p4⟩ ⟨⟨p5, p6⟩, p7, p8⟩
      have NX : Hid (areaTo ps (k + 1) = areaTo ps k + ((gp ps k).x * (gp ps ((k + 1) % ps.length)).y - (gp ps k).y * (gp ps ((k + 1) % ps.length)).x)) := hide rfl
      unfold crP at cb
      obtain ⟨h1, h2, h3, h4⟩ := hck
      have g1 := (hbel.cell (p := ⟨b, o + k * 4, none⟩) hbl).trans h1
      have g2 := (hbel.cell (p := ⟨b, o + k * 4 + 1, none⟩) hbl).trans h2
      have g3 := (hbel.cell (p := ⟨b, o + k * 4 + 2, none⟩) hbl).trans h3
      have g4 := (hbel.cell (p := ⟨b, o + k * 4 + 3, none⟩) hbl).trans h4
      unfold edgeAt at g1 g2 g3 g4
      simp only at g1 g2 g3 g4
      have abl : -20000000000000 ≤ areaTo ps k ∧ areaTo ps k ≤ 20000000000000 := by omega
      clear hc h1 h2 h3 h4 hj hkl ab
      generalize (gp ps k).x = X1 at *
      generalize (gp ps k).y = Y1 at *
      generalize (gp ps ((k + 1) % ps.length)).x = X2 at *
      generalize (gp ps ((k + 1) % ps.length)).y = Y2 at *
      go_wp2_with (go_at_call 162; refine (cross_any _ _ _ _ _ (by omega) (by omega) (by omega) (by omega)).mono ?_; rintro e w' ⟨rfl, hw'⟩; have hzy := ext_sz hw'; obtain ⟨y, rfl⟩ := hw'; (try simp at hzy))
      exact ⟨⟨k + 1, by omega, by go_num, by rw [NX.out], Below.trans hbel (by (repeat' (first | (with_reducible first | exact Below.refl _ _ | assumption | refine below_ext _ ?_ ?_ | refine Below.alloc ?_ ?_ _ | refine Below.drew ?_ | refine below_drewN ?_ _ | refine le_drewN _ ?_ | refine Below.setCell ?_ ?_ _ | exact Nat.le_refl _ | refine le_ext _ ?_ | refine le_alloc _ ?_ | refine le_setCell _ _ ?_ | refine le_drew ?_) | omega | (simp; done) | (simp; omega))))⟩, by simp [intOf]; omega⟩
    · have : k = n1 := by omega
      subst this
      go_wp2
      go_ret
      exact ⟨ret_int (by unfold areaL; rw [HN.out, ← HL1.out]), ext_mk (B1.trans (hbel.mono B1.size))⟩
theorem listOk_InB {a : List Pt} (h : listOk a = true) : (∀ p ∈ a, (-100000 ≤ p.x ∧ p.x ≤ 100000) ∧ (-100000 ≤ p.y ∧ p.y ≤ 100000)) ∧ a.length ≤ 20 := by
  unfold listOk at h
  simp only [Bool.and_eq_true, decide_eq_true_eq] at h
  refine ⟨fun p hp => ?_, h.1⟩
  have := vP_iff.1 (List.all_eq_true.1 h.2 p hp)
  omega
end Go.Proofs.YtnddfdhfefconaaGreatDoor
/- How two segments meet; simple polygons; hulls are simple. No program in sight. -/
set_option linter.unusedVariables false
set_option linter.unusedSimpArgs false
namespace Go.Proofs.YtnddfdhfefconaaGreatDoor
open Go.RowKit

theorem ringEdges (h : List Pt) : ring h = edgesL h := by
  unfold ring
  refine List.ext_getElem ?_ fun i h1 h2 => ?_
  · rw [edgesL_len]; simp; omega
  · have h3 : i < h.length := by rwa [edgesL_len] at h2
    rw [← gs_lt h2, edgesL_at h3]
    unfold edgeAt
    rw [List.getElem_zip, gp_lt h3]
    congr 1
    by_cases hi : i + 1 < h.length
    · rw [Nat.mod_eq_of_lt hi, gp_lt hi, List.getElem_append_left (by simp; omega)]
      simp [Nat.add_comm]
    · have : i + 1 = h.length := by omega
      rw [this, Nat.mod_self, List.getElem_append_right (by simp; omega), gp_lt (by omega)]
      have h0 : i - (h.length - 1) = 0 := by omega
      simp [h0]
theorem eqP_pt {p q : Pt} : (decide (p.x = q.x) && decide (p.y = q.y)) = decide (p = q) := by
  rw [Bool.eq_iff_iff]
  simp only [Bool.and_eq_true, decide_eq_true_eq]
  exact ⟨fun h => pt_eq h.1 h.2, fun h => by rw [h]; exact ⟨rfl, rfl⟩⟩
def onS (s : Sg) (p : Pt) : Bool := onSeg s.1 s.2 p
def isEndB (s : Sg) (p : Pt) : Bool := eqP p.x p.y s.1.x s.1.y || eqP p.x p.y s.2.x s.2.y
theorem isEnd_iff {s : Sg} {p : Pt} : isEndB s p = true ↔ p = s.1 ∨ p = s.2 := by
  unfold isEndB; simp [eqP, eqP_pt]
def cmnB (s t : Sg) (p : Pt) : Bool := onS s p && !(isEndB t p && isEndB s p)
/-- The ends of the one that the other has. -/
def cmn (s t : Sg) : List Pt := [s.1, s.2].filter (onS t) ++ [t.1, t.2].filter (cmnB s t)
def crossB (s t : Sg) : Bool := decide (sgn (trn s.1 s.2 t.1) * sgn (trn s.1 s.2 t.2) < 0) && decide (sgn (trn t.1 t.2 s.1) * sgn (trn t.1 t.2 s.2) < 0)
def relOf (n : Nat) (x : Bool) : Int := if n = 0 then (if x then 2 else 0) else if n = 1 then 1 else 3
def relI (s t : Sg) : Int := relOf (cmn s t).length (crossB s t)
def cmnA (s t : Sg) : List Pt := [s.1, s.2, t.1, t.2].filter fun p => onS s p && onS t p
def relS (s t : Sg) : Int := relOf (sortP (cmnA s t)).length (crossB s t)
theorem onSeg_end1 (a b : Pt) : onSeg a b a = true := by unfold onSeg trn; simp
theorem onSeg_end2 (a b : Pt) : onSeg a b b = true := by unfold onSeg trn; simp [Int.mul_comm]
theorem onS_iff {a b p : Pt} (h : onSeg a b p = true) : trn a b p = 0 := by unfold onSeg at h; simp at h; exact h.1
theorem onS_no {a b p : Pt} (h : trn a b p ≠ 0) : onSeg a b p = false := by unfold onSeg; simp [h]
theorem sortP_nodup {l : List Pt} (h : l.Nodup) : (sortP l).length = l.length :=
  Nat.le_antisymm (sortP_len l) (nodup_len h fun q hq => sortP_mem.2 hq)
theorem cmn_mem {s t : Sg} {p : Pt} : p ∈ cmn s t ↔ p ∈ cmnA s t := by
  unfold cmn cmnA
  simp only [List.mem_append, List.mem_filter, List.mem_cons, List.not_mem_nil, or_false, Bool.and_eq_true, cmnB, Bool.not_eq_true']
  have e1 : onS s s.1 = true := onSeg_end1 _ _
  have e2 : onS s s.2 = true := onSeg_end2 _ _
  have e3 : onS t t.1 = true := onSeg_end1 _ _
  have e4 : onS t t.2 = true := onSeg_end2 _ _
  constructor
  · rintro (⟨rfl | rfl, h⟩ | ⟨rfl | rfl, h, _⟩)
    · exact ⟨.inl rfl, e1, h⟩
    · exact ⟨.inr (.inl rfl), e2, h⟩
    · exact ⟨.inr (.inr (.inl rfl)), h, e3⟩
    · exact ⟨.inr (.inr (.inr rfl)), h, e4⟩
  · rintro ⟨hm, h1, h2⟩
    by_cases hs : p = s.1 ∨ p = s.2
    · exact .inl ⟨hs, h2⟩
    · refine .inr ⟨?_, h1, ?_⟩
      · rcases hm with h | h | h | h
        · exact absurd (.inl h) hs
        · exact absurd (.inr h) hs
        · exact .inl h
        · exact .inr h
      · cases hh : isEndB t p && isEndB s p with
        | false => rfl
        | true =>
          rw [Bool.and_eq_true] at hh
          exact absurd (isEnd_iff.1 hh.2) hs
theorem nodup_filter {f : Pt → Bool} {l : List Pt} (h : l.Nodup) : (l.filter f).Nodup := List.Nodup.sublist List.filter_sublist h
theorem cmn_nodup {s t : Sg} (h1 : s.1 ≠ s.2) (h2 : t.1 ≠ t.2) : (cmn s t).Nodup := by
  unfold cmn
  rw [List.nodup_append]
  refine ⟨nodup_filter (by simp [h1]), nodup_filter (by simp [h2]), fun a ha b hb => ?_⟩
  simp only [List.mem_filter, List.mem_cons, List.not_mem_nil, or_false, cmnB, Bool.and_eq_true, Bool.not_eq_true'] at ha hb
  rintro rfl
  have he : (isEndB t a && isEndB s a) = true := by rw [Bool.and_eq_true]; exact ⟨isEnd_iff.2 hb.1, isEnd_iff.2 ha.1⟩
  rw [he] at hb
  exact absurd hb.2.2 (by simp)
theorem rel_eq {s t : Sg} (h1 : s.1 ≠ s.2) (h2 : t.1 ≠ t.2) : relS s t = relI s t := by
  unfold relS relI
  rw [← sortP_nodup (cmn_nodup h1 h2), sortP_ext (fun q => cmn_mem (s := s) (t := t))]
theorem sgn_mul_pos {u v : Int} (h1 : 0 < u) (h2 : 0 < v) : ¬ sgn u * sgn v < 0 := by rw [sgn_pos h1, sgn_pos h2]; omega
theorem rel_apart {s t : Sg} (h1 : 0 < trn s.1 s.2 t.1) (h2 : 0 < trn s.1 s.2 t.2) (h3 : 0 < trn t.1 t.2 s.1) (h4 : 0 < trn t.1 t.2 s.2) : relI s t = 0 := by
  have e : cmn s t = [] := by
    unfold cmn cmnB onS
    rw [List.filter_cons, List.filter_cons, List.filter_cons, List.filter_cons, onS_no (by omega), onS_no (by omega), onS_no (by omega), onS_no (by omega)]
    simp
  unfold relI
  rw [e]
  have : crossB s t = false := by
    unfold crossB
    rw [decide_eq_false (sgn_mul_pos h1 h2)]; rfl
  rw [this]; rfl
theorem rel_touch1 {a b c : Pt} (h : trn a b c ≠ 0) : relI (b, c) (a, b) = 1 := by
  have h1 : onSeg a b c = false := onS_no h
  have h2 : onSeg b c a = false := onS_no (by rw [trn_rot] at h; exact h)
  have h3 : onSeg a b b = true := onSeg_end2 _ _
  have h4 : isEndB (a, b) b = true := isEnd_iff.2 (.inr rfl)
  have h5 : isEndB (b, c) b = true := isEnd_iff.2 (.inl rfl)
  have e : cmn (b, c) (a, b) = [b] := by
    unfold cmn cmnB onS
    simp [h1, h2, h3, h4, h5]
  unfold relI; rw [e]; rfl
theorem rel_touch2 {a b c : Pt} (h : trn a b c ≠ 0) : relI (a, b) (b, c) = 1 := by
  have h1 : onSeg a b c = false := onS_no h
  have h2 : onSeg b c a = false := onS_no (by rw [trn_rot] at h; exact h)
  have h3 : onSeg b c b = true := onSeg_end1 _ _
  have h4 : isEndB (a, b) b = true := isEnd_iff.2 (.inr rfl)
  have h5 : isEndB (b, c) b = true := isEnd_iff.2 (.inl rfl)
  have e : cmn (a, b) (b, c) = [b] := by
    unfold cmn cmnB onS
    simp [h1, h2, h3, h4, h5]
  unfold relI; rw [e]; rfl
/-! ### simple polygons -/
def nextTo (n i k : Nat) : Bool := decide (i = k + 1) || decide (i + 1 = k + n)
def pairI (ps : List Pt) (i k : Nat) : Bool := relI (edgeAt ps i) (edgeAt ps k) == (if nextTo ps.length i k then 1 else 0)
def ringB (ps : List Pt) : Bool := listOk ps && decide (3 ≤ ps.length) && decide ((sortP ps).length = ps.length)
def pairsB (q : Nat → Nat → Bool) (n : Nat) : Bool := (List.range n).all fun i => (List.range i).all fun k => q i k
/-- The polygon is simple. -/
def simB (ps : List Pt) : Bool := ringB ps && pairsB (pairI ps) ps.length
theorem pairsB_iff {q : Nat → Nat → Bool} {n : Nat} : pairsB q n = true ↔ ∀ i, i < n → ∀ k, k < i → q i k = true := by
  unfold pairsB; simp
theorem sortP_dedup {l : List Pt} (h : (sortP l).length = l.length) : l.Nodup := by
  induction l with
  | nil => exact List.nodup_nil
  | cons a r ih =>
    rw [List.nodup_cons]
    have hr : a ∉ r := fun ha => by
      have e : sortP (a :: r) = sortP r := sortP_ext fun q => by
        simp only [List.mem_cons]
        exact ⟨fun hh => hh.elim (fun e => e ▸ ha) id, .inr⟩
      rw [e] at h
      have := sortP_len r
      simp at h; omega
    refine ⟨hr, ih ?_⟩
    have h3 : (sortP (a :: r)).length ≤ (a :: sortP r).length := nodup_len (asc_nodup (sortP_asc _)) fun q hq => by
      have := sortP_mem.1 hq
      simp only [List.mem_cons] at this ⊢
      exact this.imp id sortP_mem.2
    have := sortP_len r
    simp at h h3; omega
theorem ring_parts {ps : List Pt} (h : ringB ps = true) : listOk ps = true ∧ 3 ≤ ps.length ∧ ps.Nodup := by
  unfold ringB at h
  simp only [Bool.and_eq_true, decide_eq_true_eq] at h
  exact ⟨h.1.1, h.1.2, sortP_dedup h.2⟩
theorem gp_inj {ps : List Pt} (h : ps.Nodup) {i k : Nat} (hi : i < ps.length) (hk : k < ps.length) (e : gp ps i = gp ps k) : i = k := by
  rw [gp_lt hi, gp_lt hk] at e
  rcases Nat.lt_trichotomy i k with hh | hh | hh
  · exact absurd e (List.pairwise_iff_getElem.1 h i k hi hk hh)
  · exact hh
  · exact absurd e.symm (List.pairwise_iff_getElem.1 h k i hk hi hh)
theorem mod_next {n k : Nat} (h : k < n) : (k + 1) % n = if k + 1 = n then 0 else k + 1 := by
  split
  · rename_i e; rw [e, Nat.mod_self]
  · exact Nat.mod_eq_of_lt (by omega)
theorem edge_mem {ps : List Pt} {i : Nat} (h : i < ps.length) : edgeAt ps i ∈ ring ps := by
  rw [ringEdges]; exact edgesL_mem.2 ⟨i, h, rfl⟩
/-- A vertex of a convex ring that is no end of an edge is left of it. -/
theorem left_of {ps : List Pt} (hc : ConvP ps) (hd : ps.Nodup) {i v : Nat} (hi : i < ps.length) (hv : v < ps.length) (h1 : v ≠ i) (h2 : v ≠ (i + 1) % ps.length) : 0 < trn (gp ps i) (gp ps ((i + 1) % ps.length)) (gp ps v) := by
  have := edge_left hc (edge_mem hi) (gp_mem hv)
  rcases this with h | h | h
  · exact absurd (gp_inj hd hv hi h) h1
  · exact absurd (gp_inj hd hv (Nat.mod_lt _ (by omega)) h) h2
  · exact h
theorem conv_pairs {ps : List Pt} (hc : ConvP ps) (hd : ps.Nodup) (h3 : 3 ≤ ps.length) : pairsB (pairI ps) ps.length = true := by
  rw [pairsB_iff]
  intro i hi k hk
  unfold pairI
  rw [beq_iff_eq]
  have mi := mod_next hi
  have mk := mod_next (show k < ps.length by omega)
  have hm : (i + 1) % ps.length < ps.length := Nat.mod_lt _ (by omega)
  have hm2 : (k + 1) % ps.length < ps.length := Nat.mod_lt _ (by omega)
  by_cases h1 : i = k + 1
  · subst h1
    rw [if_pos (by simp [nextTo])]
    have e : (k + 1) % ps.length = k + 1 := Nat.mod_eq_of_lt hi
    unfold edgeAt
    rw [e]
    have := left_of hc hd (show k < ps.length by omega) hm (v := (k + 1 + 1) % ps.length) (by split at mi <;> omega) (by rw [e]; split at mi <;> omega)
    rw [e] at this
    exact rel_touch1 (by omega)
  · by_cases h2 : i + 1 = k + ps.length
    · rw [if_pos (by simp [nextTo, h2])]
      have hk0 : k = 0 := by omega
      subst hk0
      have e : (i + 1) % ps.length = 0 := by rw [mi, if_pos (by omega)]
      have e2 : (0 + 1) % ps.length = 1 := by rw [mk, if_neg (by omega)]
      unfold edgeAt
      rw [e, e2]
      have := left_of hc hd hi (show 1 < ps.length by omega) (v := 1) (by omega) (by rw [e]; omega)
      rw [e] at this
      exact rel_touch2 (by omega)
    · rw [if_neg (by simp [nextTo, h1, h2])]
      unfold edgeAt
      refine rel_apart (left_of hc hd hi (by omega) (by omega) ?_) (left_of hc hd hi hm2 ?_ ?_) (left_of hc hd (by omega) hi (by omega) ?_) (left_of hc hd (by omega) hm ?_ ?_) <;> (split at mi <;> split at mk <;> omega)
theorem conv_simple {ps : List Pt} (hok : listOk ps = true) (hc : ConvP ps) (hd : ps.Nodup) (h3 : 3 ≤ ps.length) : simB ps = true := by
  unfold simB ringB
  rw [hok, sortP_nodup hd, conv_pairs hc hd h3]
  simp [h3]
/-! ### convex polygons -/
def leftB (ps : List Pt) : Bool := (List.range ps.length).all fun i => decide (0 < trn (gp ps i) (gp ps ((i + 1) % ps.length)) (gp ps ((i + 2) % ps.length)))
def convB (ps : List Pt) : Bool := simB ps && leftB ps
theorem conv_left {ps : List Pt} (hc : ConvP ps) (hd : ps.Nodup) (h3 : 3 ≤ ps.length) : leftB ps = true := by
  unfold leftB
  rw [List.all_eq_true]
  intro i hi
  rw [List.mem_range] at hi
  have mi := mod_next hi
  have hm : (i + 1) % ps.length < ps.length := Nat.mod_lt _ (by omega)
  have mj := mod_next hm
  have e : ((i + 1) % ps.length + 1) % ps.length = (i + 2) % ps.length := by rw [Nat.mod_add_mod]
  rw [e] at mj
  rw [decide_eq_true_eq]
  exact left_of hc hd hi (Nat.mod_lt _ (by omega)) (by split at mi <;> split at mj <;> omega) (by split at mi <;> split at mj <;> omega)
theorem conv_conv {ps : List Pt} (hok : listOk ps = true) (hc : ConvP ps) (hd : ps.Nodup) (h3 : 3 ≤ ps.length) : convB ps = true := by
  unfold convB
  rw [conv_simple hok hc hd h3, conv_left hc hd h3]; rfl
theorem hull_ok {ps : List Pt} (h : listOk ps = true) : listOk (hullOf ps) = true := by
  have hl := hullOf_len' ps
  unfold listOk at h ⊢
  simp only [Bool.and_eq_true, decide_eq_true_eq] at h ⊢
  exact ⟨by omega, List.all_eq_true.2 fun p hp => List.all_eq_true.1 h.2 p (hullOf_sub hp)⟩
theorem hull_convB {ps : List Pt} (h : listOk ps = true) (h3 : 3 ≤ (hullOf ps).length) : convB (hullOf ps) = true :=
  conv_conv (hull_ok h) (hull_conv ps) (hullOf_nodup ps) h3
/-! ### a point and a convex polygon -/
def leastTo (ps : List Pt) (q : Pt) : Nat → Int
  | 0 => 1
  | k + 1 => min (leastTo ps q k) (sgn (trn (gp ps k) (gp ps ((k + 1) % ps.length)) q))
def locC (ps : List Pt) (q : Pt) : Int := if convB ps && vP q.x q.y then leastTo ps q ps.length else 2
theorem least_bd (ps : List Pt) (q : Pt) : ∀ k, -1 ≤ leastTo ps q k ∧ leastTo ps q k ≤ 1
  | 0 => by simp [leastTo]
  | k + 1 => by
    have := least_bd ps q k
    have h2 := sgn_bd (trn (gp ps k) (gp ps ((k + 1) % ps.length)) q)
    unfold leastTo
    rw [Int.min_def]; split <;> omega
theorem least_neg {ps : List Pt} {q : Pt} : ∀ {k i : Nat}, i < k → trn (gp ps i) (gp ps ((i + 1) % ps.length)) q < 0 → leastTo ps q k < 0
  | 0, i, h, _ => absurd h (Nat.not_lt_zero _)
  | k + 1, i, h, hq => by
    unfold leastTo
    rw [Int.min_def]
    by_cases e : i = k
    · subst e
      rw [sgn_neg hq]; split <;> omega
    · have := least_neg (k := k) (i := i) (by omega) hq
      split <;> omega
end Go.Proofs.YtnddfdhfefconaaGreatDoor
/- The theorem of Pick, as far as it is one of numbers; linear maps of polygons. No program in sight. -/
set_option linter.unusedVariables false
set_option linter.unusedSimpArgs false
namespace Go.Proofs.YtnddfdhfefconaaGreatDoor
open Go.RowKit

def gcdI (a b : Int) : Int := (Int.gcd a b : Nat)
/-- Points of the boundary on the first k edges. -/
def bndTo (ps : List Pt) : Nat → Int
  | 0 => 0
  | k + 1 => bndTo ps k + gcdI ((gp ps ((k + 1) % ps.length)).x - (gp ps k).x) ((gp ps ((k + 1) % ps.length)).y - (gp ps k).y)
def bndL (ps : List Pt) : Int := bndTo ps ps.length
def absI (n : Int) : Int := if 0 ≤ n then n else -n
def intrL (ps : List Pt) : Int := (absI (areaL ps) - bndL ps + 2).tdiv 2
def intr (ps : List Pt) : Int := if simB ps then intrL ps else -1
def bnd (ps : List Pt) : Int := if simB ps then bndL ps else -1
def dblA (ps : List Pt) : Int := if simB ps then areaL ps else 0
theorem gcd_par (a b : Int) : gcdI a b % 2 = (a * b + a + b) % 2 := by
  unfold gcdI
  have hd : ∀ k : Nat, k = 2 → (((Int.gcd a b : Nat) : Int) % 2 = 0 ↔ a % 2 = 0 ∧ b % 2 = 0) := fun k hk => by
    constructor
    · intro h
      have h2 : (2 : Int) ∣ ((Int.gcd a b : Nat) : Int) := Int.dvd_of_emod_eq_zero h
      exact ⟨Int.emod_eq_zero_of_dvd (Int.dvd_trans h2 (Int.gcd_dvd_left ..)), Int.emod_eq_zero_of_dvd (Int.dvd_trans h2 (Int.gcd_dvd_right ..))⟩
    · rintro ⟨h1, h2⟩
      have := Int.dvd_coe_gcd (Int.dvd_of_emod_eq_zero h1) (Int.dvd_of_emod_eq_zero h2)
      exact Int.emod_eq_zero_of_dvd this
  have hd := hd 2 rfl
  generalize ((Int.gcd a b : Nat) : Int) = g at *
  have ea := Int.emod_two_eq a
  have eb := Int.emod_two_eq b
  have eg := Int.emod_two_eq g
  obtain ⟨p, hp⟩ : ∃ p, a = 2 * p + a % 2 := ⟨a / 2, by omega⟩
  obtain ⟨q, hq⟩ : ∃ q, b = 2 * q + b % 2 := ⟨b / 2, by omega⟩
  rcases ea with ea | ea <;> rcases eb with eb | eb <;> rw [ea] at hp <;> rw [eb] at hq <;> (have h : a * b = (2 * p + a % 2) * (2 * q + b % 2) := by rw [ea, eb, ← hp, ← hq]) <;> rw [ea, eb] at h <;> simp only [Int.add_mul, Int.mul_add, Int.mul_assoc, Int.mul_left_comm q 2] at h <;> (try generalize p * q = pq at h) <;> (try generalize q * p = qp at h) <;> (try rw [Int.mul_comm 2 q] at h) <;> omega
theorem gcd_pos {a b : Int} (h : a ≠ 0 ∨ b ≠ 0) : 1 ≤ gcdI a b := by
  unfold gcdI
  have : Int.gcd a b ≠ 0 := by
    rw [Ne, Int.gcd_eq_zero_iff]; omega
  omega
def fP (p : Pt) : Int := p.x * p.y + p.x + p.y
theorem edge_par (a b : Pt) : (crP a b + gcdI (b.x - a.x) (b.y - a.y) + fP a + fP b) % 2 = 0 := by
  have h := gcd_par (b.x - a.x) (b.y - a.y)
  have e : crP a b + ((b.x - a.x) * (b.y - a.y) + (b.x - a.x) + (b.y - a.y)) + fP a + fP b = 2 * (b.x * b.y + a.x * a.y - a.y * b.x + b.x + b.y) := by
    unfold crP fP; grind
  omega
theorem par_to {ps : List Pt} : ∀ {k : Nat}, k < ps.length → (areaTo ps k + bndTo ps k + fP (gp ps k) + fP (gp ps 0)) % 2 = 0
  | 0, _ => by unfold areaTo bndTo; omega
  | k + 1, h => by
    have ih := par_to (ps := ps) (k := k) (by omega)
    have e := edge_par (gp ps k) (gp ps (k + 1))
    unfold areaTo bndTo
    rw [Nat.mod_eq_of_lt h]
    omega
theorem par_all (ps : List Pt) : (areaL ps + bndL ps) % 2 = 0 := by
  unfold areaL bndL
  cases hn : ps.length with
  | zero => rfl
  | succ k =>
    have ih := par_to (ps := ps) (k := k) (by omega)
    have e := edge_par (gp ps k) (gp ps 0)
    unfold areaTo bndTo
    rw [hn, Nat.mod_self]
    omega
theorem absI_eq (n : Int) : absI n = n ∨ absI n = -n := by unfold absI; split <;> simp
theorem pick_area {ps : List Pt} (h : 0 ≤ intrL ps) : absI (areaL ps) = 2 * intrL ps + bndL ps - 2 := by
  have hp := par_all ps
  have ha := absI_eq (areaL ps)
  unfold intrL at h ⊢
  have he : (absI (areaL ps) - bndL ps + 2) % 2 = 0 := by omega
  obtain ⟨m, hm⟩ : ∃ m, absI (areaL ps) - bndL ps + 2 = 2 * m := ⟨(absI (areaL ps) - bndL ps + 2) / 2, by omega⟩
  rw [hm, Int.mul_tdiv_cancel_left m (by omega)] at h ⊢
  omega
theorem bnd_len {ps : List Pt} (hd : ps.Nodup) (h2 : 2 ≤ ps.length) : ∀ {k : Nat}, k ≤ ps.length → (k : Int) ≤ bndTo ps k
  | 0, _ => by simp [bndTo]
  | k + 1, h => by
    have ih := bnd_len hd h2 (k := k) (by omega)
    have hm := mod_next (show k < ps.length by omega)
    have hl : (k + 1) % ps.length < ps.length := Nat.mod_lt _ (by omega)
    have hne : gp ps ((k + 1) % ps.length) ≠ gp ps k := fun e => by
      have := gp_inj hd hl (by omega) e
      split at hm <;> omega
    have : 1 ≤ gcdI ((gp ps ((k + 1) % ps.length)).x - (gp ps k).x) ((gp ps ((k + 1) % ps.length)).y - (gp ps k).y) := gcd_pos (by
      refine Classical.byContradiction fun hh => hne (pt_eq ?_ ?_) <;> omega)
    unfold bndTo
    omega
theorem tdiv2_bd (a : Int) {M : Int} (h : -(2 * M) ≤ a ∧ a ≤ 2 * M) : -M ≤ a.tdiv 2 ∧ a.tdiv 2 ≤ M := by
  have h1 : (a.tdiv 2).natAbs = a.natAbs / 2 := by rw [Int.natAbs_tdiv]; rfl
  omega
/-! ### linear maps -/
structure Mt where
  a : Int
  b : Int
  c : Int
  d : Int
def Mt.det (m : Mt) : Int := m.a * m.d - m.b * m.c
def Mt.ap (m : Mt) (p : Pt) : Pt := ⟨m.a * p.x + m.b * p.y, m.c * p.x + m.d * p.y⟩
theorem ap_trn (m : Mt) (a b c : Pt) : trn (m.ap a) (m.ap b) (m.ap c) = m.det * trn a b c := by unfold trn Mt.ap Mt.det; grind
theorem ap_cr (m : Mt) (a b : Pt) : crP (m.ap a) (m.ap b) = m.det * crP a b := by unfold crP Mt.ap Mt.det; grind
theorem ap_inj {m : Mt} (h : m.det ≠ 0) {a b : Pt} (e : m.ap a = m.ap b) : a = b := by
  have e1 : m.a * a.x + m.b * a.y = m.a * b.x + m.b * b.y := congrArg Pt.x e
  have e2 : m.c * a.x + m.d * a.y = m.c * b.x + m.d * b.y := congrArg Pt.y e
  have k1 : m.det * (a.x - b.x) = 0 := by unfold Mt.det; grind
  have k2 : m.det * (a.y - b.y) = 0 := by unfold Mt.det; grind
  rcases Int.mul_eq_zero.1 k1 with h1 | h1
  · exact absurd h1 h
  · rcases Int.mul_eq_zero.1 k2 with h2 | h2
    · exact absurd h2 h
    · exact pt_eq (by omega) (by omega)
theorem sgn_mul (u v : Int) : sgn (u * v) = sgn u * sgn v := by
  rcases Int.lt_trichotomy u 0 with hu | hu | hu <;> rcases Int.lt_trichotomy v 0 with hv | hv | hv
  · rw [sgn_neg hu, sgn_neg hv, sgn_pos (Int.mul_pos_of_neg_of_neg hu hv)]; rfl
  · subst hv; rw [Int.mul_zero, sgn_zero rfl]; simp
  · rw [sgn_neg hu, sgn_pos hv, sgn_neg (Int.mul_neg_of_neg_of_pos hu hv)]; rfl
  · subst hu; rw [Int.zero_mul, sgn_zero rfl]; simp
  · subst hu; rw [Int.zero_mul, sgn_zero rfl]; simp
  · subst hu; rw [Int.zero_mul, sgn_zero rfl]; simp
  · rw [sgn_pos hu, sgn_neg hv, sgn_neg (Int.mul_neg_of_pos_of_neg hu hv)]; rfl
  · subst hv; rw [Int.mul_zero, sgn_zero rfl]; simp
  · rw [sgn_pos hu, sgn_pos hv, sgn_pos (Int.mul_pos hu hv)]; rfl
theorem sqn (x : Int) : 0 ≤ x * x := by
  rcases Int.le_total 0 x with h | h
  · exact Int.mul_nonneg h h
  · exact Int.mul_nonneg_of_nonpos_of_nonpos h h
theorem sq_zero {u v : Int} (h : u * u + v * v ≤ 0) : u = 0 ∧ v = 0 := by
  have h1 := sqn u
  have h2 := sqn v
  exact ⟨by have : u * u = 0 := by omega
            exact (Int.mul_eq_zero.1 this).elim id id, by have : v * v = 0 := by omega
                                                          exact (Int.mul_eq_zero.1 this).elim id id⟩
/-- Two parallel vectors: the sign of their inner product is kept. -/
theorem par_dot {u1 u2 v1 v2 : Int} (hp : u1 * v2 = u2 * v1) (m : Mt) (h : m.det ≠ 0) :
    u1 * v1 + u2 * v2 ≤ 0 ↔ (m.a * u1 + m.b * u2) * (m.a * v1 + m.b * v2) + (m.c * u1 + m.d * u2) * (m.c * v1 + m.d * v2) ≤ 0 := by
  have k : (u1 * u1 + u2 * u2) * ((m.a * u1 + m.b * u2) * (m.a * v1 + m.b * v2) + (m.c * u1 + m.d * u2) * (m.c * v1 + m.d * v2)) = (u1 * v1 + u2 * v2) * ((m.a * u1 + m.b * u2) * (m.a * u1 + m.b * u2) + (m.c * u1 + m.d * u2) * (m.c * u1 + m.d * u2)) := by
    have e1 : (u1 * u1 + u2 * u2) * v1 = (u1 * v1 + u2 * v2) * u1 := by grind
    have e2 : (u1 * u1 + u2 * u2) * v2 = (u1 * v1 + u2 * v2) * u2 := by grind
    have : (u1 * u1 + u2 * u2) * ((m.a * u1 + m.b * u2) * (m.a * v1 + m.b * v2) + (m.c * u1 + m.d * u2) * (m.c * v1 + m.d * v2)) = (m.a * u1 + m.b * u2) * (m.a * ((u1 * u1 + u2 * u2) * v1) + m.b * ((u1 * u1 + u2 * u2) * v2)) + (m.c * u1 + m.d * u2) * (m.c * ((u1 * u1 + u2 * u2) * v1) + m.d * ((u1 * u1 + u2 * u2) * v2)) := by grind
    rw [this, e1, e2]; grind
  by_cases hz : u1 * u1 + u2 * u2 ≤ 0
  · obtain ⟨z1, z2⟩ := sq_zero hz
    subst z1 z2
    simp
  · have hs : 0 < u1 * u1 + u2 * u2 := by omega
    have hs2 : 0 < (m.a * u1 + m.b * u2) * (m.a * u1 + m.b * u2) + (m.c * u1 + m.d * u2) * (m.c * u1 + m.d * u2) := by
      refine Classical.byContradiction fun hn => ?_
      obtain ⟨z1, z2⟩ := sq_zero (u := m.a * u1 + m.b * u2) (v := m.c * u1 + m.d * u2) (by omega)
      have k1 : m.det * u1 = 0 := by unfold Mt.det; grind
      have k2 : m.det * u2 = 0 := by unfold Mt.det; grind
      have y1 := (Int.mul_eq_zero.1 k1).resolve_left h
      have y2 := (Int.mul_eq_zero.1 k2).resolve_left h
      subst y1 y2
      simp at hs
    generalize u1 * u1 + u2 * u2 = S at *
    generalize (m.a * u1 + m.b * u2) * (m.a * u1 + m.b * u2) + (m.c * u1 + m.d * u2) * (m.c * u1 + m.d * u2) = S2 at *
    generalize (m.a * u1 + m.b * u2) * (m.a * v1 + m.b * v2) + (m.c * u1 + m.d * u2) * (m.c * v1 + m.d * v2) = D2 at *
    generalize u1 * v1 + u2 * v2 = D at *
    constructor
    · intro hd
      refine Classical.byContradiction fun hn => ?_
      have a1 : 0 < S * D2 := Int.mul_pos hs (by omega)
      have a2 : D * S2 ≤ 0 := Int.mul_nonpos_of_nonpos_of_nonneg hd (by omega)
      omega
    · intro hd
      refine Classical.byContradiction fun hn => ?_
      have a1 : 0 < D * S2 := Int.mul_pos (by omega) hs2
      have a2 : S * D2 ≤ 0 := Int.mul_nonpos_of_nonneg_of_nonpos (by omega) hd
      omega
theorem ap_onSeg {m : Mt} (h : m.det ≠ 0) (a b p : Pt) : onSeg (m.ap a) (m.ap b) (m.ap p) = onSeg a b p := by
  rw [Bool.eq_iff_iff]
  unfold onSeg
  simp only [Bool.and_eq_true, decide_eq_true_eq]
  rw [ap_trn]
  constructor
  · rintro ⟨h1, h2⟩
    have ht := (Int.mul_eq_zero.1 h1).resolve_left h
    refine ⟨ht, (par_dot (by unfold trn at ht; grind) m h).2 ?_⟩
    unfold Mt.ap at h2
    simp only at h2
    grind
  · rintro ⟨h1, h2⟩
    rw [h1]
    refine ⟨by simp, ?_⟩
    have := (par_dot (u1 := a.x - p.x) (u2 := a.y - p.y) (v1 := b.x - p.x) (v2 := b.y - p.y) (by unfold trn at h1; grind) m h).1 h2
    unfold Mt.ap
    simp only
    grind
def Mt.sg (m : Mt) (s : Sg) : Sg := (m.ap s.1, m.ap s.2)
theorem ap_isEnd {m : Mt} (h : m.det ≠ 0) (s : Sg) (p : Pt) : isEndB (m.sg s) (m.ap p) = isEndB s p := by
  rw [Bool.eq_iff_iff, isEnd_iff, isEnd_iff]
  unfold Mt.sg
  exact ⟨fun hh => hh.imp (ap_inj h) (ap_inj h), fun hh => hh.imp (fun e => by rw [e]) (fun e => by rw [e])⟩
theorem ap_cmn {m : Mt} (h : m.det ≠ 0) (s t : Sg) : (cmn (m.sg s) (m.sg t)).length = (cmn s t).length := by
  have e : cmn (m.sg s) (m.sg t) = (cmn s t).map m.ap := by
    unfold cmn
    rw [List.map_append, show [(m.sg s).1, (m.sg s).2] = [s.1, s.2].map m.ap from rfl, show [(m.sg t).1, (m.sg t).2] = [t.1, t.2].map m.ap from rfl, List.filter_map, List.filter_map]
    congr 2
    · congr 1
      funext p
      exact ap_onSeg h _ _ _
    · congr 1
      funext p
      show cmnB (m.sg s) (m.sg t) (m.ap p) = cmnB s t p
      unfold cmnB
      rw [ap_isEnd h, ap_isEnd h]
      congr 1
      exact ap_onSeg h _ _ _
  rw [e, List.length_map]
theorem sgn_sq {d : Int} (h : d ≠ 0) (u v : Int) : sgn (d * u) * sgn (d * v) = sgn u * sgn v := by
  rw [sgn_mul, sgn_mul]
  have : sgn d * sgn d = 1 := by
    rcases Int.lt_trichotomy d 0 with hu | hu | hu
    · rw [sgn_neg hu]; rfl
    · exact absurd hu h
    · rw [sgn_pos hu]; rfl
  have e : sgn d * sgn u * (sgn d * sgn v) = sgn d * sgn d * (sgn u * sgn v) := by grind
  rw [e, this, Int.one_mul]
theorem ap_cross {m : Mt} (h : m.det ≠ 0) (s t : Sg) : crossB (m.sg s) (m.sg t) = crossB s t := by
  unfold crossB Mt.sg
  simp only [ap_trn, sgn_sq h]
theorem ap_rel {m : Mt} (h : m.det ≠ 0) (s t : Sg) : relI (m.sg s) (m.sg t) = relI s t := by
  unfold relI; rw [ap_cmn h, ap_cross h]
theorem gp_map (m : Mt) {ps : List Pt} {i : Nat} (h : i < ps.length) : gp (ps.map m.ap) i = m.ap (gp ps i) := by
  rw [gp_lt (by simpa using h), gp_lt h]; simp
theorem ap_edge (m : Mt) {ps : List Pt} {i : Nat} (h : i < ps.length) : edgeAt (ps.map m.ap) i = m.sg (edgeAt ps i) := by
  unfold edgeAt Mt.sg
  rw [List.length_map, gp_map m h, gp_map m (Nat.mod_lt _ (by omega))]
theorem ap_nodup {m : Mt} (h : m.det ≠ 0) {ps : List Pt} (hd : ps.Nodup) : (ps.map m.ap).Nodup := by
  unfold List.Nodup
  rw [List.pairwise_map]
  exact List.Pairwise.imp (fun hne e => hne (ap_inj h e)) hd
theorem ap_simple {m : Mt} (h : m.det ≠ 0) {ps : List Pt} (hok : listOk (ps.map m.ap) = true) (hs : simB ps = true) : simB (ps.map m.ap) = true := by
  have h2 := hs
  unfold simB at h2 ⊢
  simp only [Bool.and_eq_true] at h2 ⊢
  obtain ⟨hr, hp⟩ := h2
  obtain ⟨r1, r2, r3⟩ := ring_parts hr
  refine ⟨?_, ?_⟩
  · unfold ringB
    rw [hok, sortP_nodup (ap_nodup h r3)]
    simp [r2]
  · rw [List.length_map]
    rw [pairsB_iff] at hp ⊢
    intro i hi k hk
    have := hp i hi k hk
    unfold pairI at this ⊢
    rw [List.length_map, ap_edge m hi, ap_edge m (by omega), ap_rel h]
    exact this
theorem ap_areaTo (m : Mt) (ps : List Pt) : ∀ k, k ≤ ps.length → areaTo (ps.map m.ap) k = m.det * areaTo ps k
  | 0, _ => by simp [areaTo]
  | k + 1, h => by
    unfold areaTo
    rw [ap_areaTo m ps k (by omega), List.length_map, gp_map m (by omega), gp_map m (Nat.mod_lt _ (by omega)), ap_cr, Int.mul_add]
theorem ap_area (m : Mt) (ps : List Pt) : areaL (ps.map m.ap) = m.det * areaL ps := by
  unfold areaL; rw [List.length_map]; exact ap_areaTo m ps _ (Nat.le_refl _)
theorem gcd_le {a b c d : Int} (h1 : (gcdI a b) ∣ c) (h2 : gcdI a b ∣ d) : gcdI a b ∣ gcdI c d := Int.dvd_coe_gcd h1 h2
theorem gcd_l (a b : Int) : gcdI a b ∣ a := Int.gcd_dvd_left ..
theorem gcd_r (a b : Int) : gcdI a b ∣ b := Int.gcd_dvd_right ..
theorem gcd_nn (a b : Int) : 0 ≤ gcdI a b := by unfold gcdI; omega
theorem ap_gcd {m : Mt} (h : m.det = 1 ∨ m.det = -1) (x y : Int) : gcdI (m.a * x + m.b * y) (m.c * x + m.d * y) = gcdI x y := by
  refine Int.dvd_antisymm (gcd_nn _ _) (gcd_nn _ _) (gcd_le ?_ ?_) (gcd_le ?_ ?_)
  · have e : m.det * x = m.d * (m.a * x + m.b * y) - m.b * (m.c * x + m.d * y) := by unfold Mt.det; grind
    have k : gcdI (m.a * x + m.b * y) (m.c * x + m.d * y) ∣ m.det * x := by
      rw [e]; exact Int.dvd_sub (Int.dvd_mul_of_dvd_right (gcd_l _ _)) (Int.dvd_mul_of_dvd_right (gcd_r _ _))
    rcases h with h | h <;> rw [h] at k
    · rwa [Int.one_mul] at k
    · rw [Int.neg_mul, Int.one_mul] at k; exact Int.dvd_neg.1 k
  · have e : m.det * y = m.a * (m.c * x + m.d * y) - m.c * (m.a * x + m.b * y) := by unfold Mt.det; grind
    have k : gcdI (m.a * x + m.b * y) (m.c * x + m.d * y) ∣ m.det * y := by
      rw [e]; exact Int.dvd_sub (Int.dvd_mul_of_dvd_right (gcd_r _ _)) (Int.dvd_mul_of_dvd_right (gcd_l _ _))
    rcases h with h | h <;> rw [h] at k
    · rwa [Int.one_mul] at k
    · rw [Int.neg_mul, Int.one_mul] at k; exact Int.dvd_neg.1 k
  · exact Int.dvd_add (Int.dvd_mul_of_dvd_right (gcd_l _ _)) (Int.dvd_mul_of_dvd_right (gcd_r _ _))
  · exact Int.dvd_add (Int.dvd_mul_of_dvd_right (gcd_l _ _)) (Int.dvd_mul_of_dvd_right (gcd_r _ _))
theorem ap_bndTo {m : Mt} (h : m.det = 1 ∨ m.det = -1) (ps : List Pt) : ∀ k, k ≤ ps.length → bndTo (ps.map m.ap) k = bndTo ps k
  | 0, _ => rfl
  | k + 1, hk => by
    unfold bndTo
    rw [ap_bndTo h ps k (by omega), List.length_map, gp_map m (show (k + 1) % ps.length < ps.length from Nat.mod_lt _ (by omega)), gp_map m (show k < ps.length by omega)]
    congr 1
    have := ap_gcd h ((gp ps ((k + 1) % ps.length)).x - (gp ps k).x) ((gp ps ((k + 1) % ps.length)).y - (gp ps k).y)
    rw [← this]
    unfold Mt.ap
    simp only
    congr 1 <;> grind
theorem ap_bnd {m : Mt} (h : m.det = 1 ∨ m.det = -1) (ps : List Pt) : bndL (ps.map m.ap) = bndL ps := by
  unfold bndL; rw [List.length_map]; exact ap_bndTo h ps _ (Nat.le_refl _)
theorem ap_intr {m : Mt} (h : m.det = 1 ∨ m.det = -1) (ps : List Pt) : intrL (ps.map m.ap) = intrL ps := by
  unfold intrL
  rw [ap_bnd h, ap_area]
  have : absI (m.det * areaL ps) = absI (areaL ps) := by
    rcases h with h | h <;> rw [h]
    · rw [Int.one_mul]
    · unfold absI; split <;> split <;> omega
  rw [this]
end Go.Proofs.YtnddfdhfefconaaGreatDoor
