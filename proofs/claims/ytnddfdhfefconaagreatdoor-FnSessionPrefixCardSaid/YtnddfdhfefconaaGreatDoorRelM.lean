
import Derived.Test.YtnddfdhfefconaaGreatDoorEdge
import Derived.Test.YtnddfdhfefconaaGreatDoorLeaf
import Derived.Test.YtnddfdhfefconaaGreatDoorFunc
import Derived.Test.YtnddfdhfefconaaGreatDoorHullK
import Derived.Test.YtnddfdhfefconaaGreatDoorHelp
/- The program's area of a polygon. -/
set_option linter.unusedVariables false
set_option linter.unusedSimpArgs false
namespace Go.Proofs.YtnddfdhfefconaaGreatDoor
open Go.RowKit

def crP (a b : Pt) : Int := a.x * b.y - a.y * b.x
def areaTo (ps : List Pt) : Nat → Int
  | 0 => 0
  | k + 1 => areaTo ps k + crP (gp ps k) (gp ps ((k + 1) % ps.length))
/-- Twice the area. -/
def areaL (ps : List Pt) : Int := areaTo ps ps.length
theorem crP_bd {a b : Pt} (ha : (-100000 ≤ a.x ∧ a.x ≤ 100000) ∧ -100000 ≤ a.y ∧ a.y ≤ 100000) (hb : (-100000 ≤ b.x ∧ b.x ≤ 100000) ∧ -100000 ≤ b.y ∧ b.y ≤ 100000) : -20000000000 ≤ crP a b ∧ crP a b ≤ 20000000000 := by
  have h1 := mul_bd ha.1 hb.2
  have h2 := mul_bd ha.2 hb.1
  unfold crP
  omega
theorem areaTo_bd {ps : List Pt} (h : ∀ p ∈ ps, (-100000 ≤ p.x ∧ p.x ≤ 100000) ∧ -100000 ≤ p.y ∧ p.y ≤ 100000) : ∀ k, k ≤ ps.length → -(k * 20000000000 : Int) ≤ areaTo ps k ∧ areaTo ps k ≤ k * 20000000000
  | 0, _ => by simp [areaTo]
  | k + 1, hk => by
    have ih := areaTo_bd h k (by omega)
    have := crP_bd (h _ (gp_mem (show k < ps.length by omega))) (h _ (gp_mem (show (k + 1) % ps.length < ps.length from Nat.mod_lt _ (by omega))))
    unfold areaTo
    omega
set_option maxHeartbeats 1000000 in
theorem area_any (ps : List Pt) (A : Option Addr) (n c : Nat) (w : World) (hn : ps.length = n) (hm : n ≤ 1000) (hb : ∀ p ∈ ps, (-100000 ≤ p.x ∧ p.x ≤ 100000) ∧ -100000 ≤ p.y ∧ p.y ≤ 100000) (hs : PtsAt w w.heap.size A ps) :
    Calls Tryz.prog 135 #[.slice A n c] w fun e w' => e = .returned (.int .i64 (areaL ps)) ∧ ∃ x, w' = ext w x := by
  have HN := hide hn
  have HB := hide hb
  have HE := hide (edges_any ps A n c w hn hm hs)
  have AB := hide (areaTo_bd hb)
  clear hn hb hs
  go_enter Tryz.func135, Tryz.ntmps135
  go_wp2_with fail
  refine HE.out.mono ?_
  rintro e w1 ⟨v1, rfl, hown1, x1, rfl⟩
  obtain ⟨A1, n1, c1, rfl⟩ := hown1.slice
  have hl1 := hown1.segs.1
  have hle1 : n1 ≤ 1000 := by rw [edgesL_len, HN.out] at hl1; omega
  have HL1 : Hid (n1 = n) := hide (by rw [edgesL_len, HN.out] at hl1; omega)
  have SG := hide hown1.segs.2.2.2
  have B1 := ext_below w x1
  generalize hW1 : ext w x1 = W1 at *
  clear hW1 hown1 hl1
  go_wp2
  go_loopw [3, 9] (fun u3 u9 wr => ∃ k : Nat, k ≤ n1 ∧ u9 = .int .i64 k ∧ u3 = .int .i64 (areaTo ps k) ∧ Below W1.heap.size W1 wr) (fun _ u9 _ => n1 - (intOf u9).toNat)
  case atStart => exact ⟨0, Nat.zero_le _, rfl, rfl, Below.refl _ _⟩
  case round =>
    obtain ⟨k, hk, rfl, rfl, hbel⟩ := hrel
    have hsz := hbel.size
    by_cases hlt : k < n1
    · obtain ⟨b, o, rfl, hbl, hc⟩ := SG.out (by rw [edgesL_len, HN.out, ← HL1.out]; omega)
      have hkl : k < ps.length := by rw [HN.out, ← HL1.out]; exact hlt
      have hck := hc k (by rw [edgesL_len]; exact hkl)
      rw [edgesL_at hkl] at hck
      have hj : (k + 1) % ps.length < ps.length := Nat.mod_lt _ (by omega)
      obtain ⟨⟨p1, p2⟩, p3, p4⟩ := HB.out _ (gp_mem hkl)
      obtain ⟨⟨p5, p6⟩, p7, p8⟩ := HB.out _ (gp_mem hj)
      have ab := AB.out k (by omega)
      have cb := crP_bd ⟨⟨p1, p2⟩, p3, p4⟩ ⟨⟨p5, p6⟩, p7, p8⟩
      have NX : Hid (areaTo ps (k + 1) = areaTo ps k + ((gp ps k).x * (gp ps ((k + 1) % ps.length)).y - (gp ps k).y * (gp ps ((k + 1) % ps.length)).x)) := hide rfl
      unfold crP at cb
      obtain ⟨h1, h2, h3, h4⟩ := hck
      have g1 := (hbel.cell (p := ⟨b, o + k * 4, none⟩) hbl).trans h1
      have g2 := (hbel.cell (p := ⟨b, o + k * 4 + 1, none⟩) hbl).trans h2
      have g3 := (hbel.cell (p := ⟨b, o + k * 4 + 2, none⟩) hbl).trans h3
      have g4 := (hbel.cell (p := ⟨b, o + k * 4 + 3, none⟩) hbl).trans h4
      unfold edgeAt at g1 g2 g3 g4
      simp only at g1 g2 g3 g4
      have abl : -20000000000000 ≤ areaTo ps k ∧ areaTo ps k ≤ 20000000000000 := by omega
      clear hc h1 h2 h3 h4 hj hkl ab
      generalize (gp ps k).x = X1 at *
      generalize (gp ps k).y = Y1 at *
      generalize (gp ps ((k + 1) % ps.length)).x = X2 at *
      generalize (gp ps ((k + 1) % ps.length)).y = Y2 at *
      go_wp2_with (go_at_call 162; refine (cross_any _ _ _ _ _ (by omega) (by omega) (by omega) (by omega)).mono ?_; rintro e w' ⟨rfl, hw'⟩; have hzy := ext_sz hw'; obtain ⟨y, rfl⟩ := hw'; (try simp at hzy))
      exact ⟨⟨k + 1, by omega, by go_num, by rw [NX.out], Below.trans hbel (by (repeat' (first | (with_reducible first | exact Below.refl _ _ | assumption | refine below_ext _ ?_ ?_ | refine Below.alloc ?_ ?_ _ | refine Below.drew ?_ | refine below_drewN ?_ _ | refine le_drewN _ ?_ | refine Below.setCell ?_ ?_ _ | exact Nat.le_refl _ | refine le_ext _ ?_ | refine le_alloc _ ?_ | refine le_setCell _ _ ?_ | refine le_drew ?_) | omega | (simp; done) | (simp; omega))))⟩, by simp [intOf]; omega⟩
    · have : k = n1 := by omega
      subst this
      go_wp2
      go_ret
      exact ⟨ret_int (by unfold areaL; rw [HN.out, ← HL1.out]), ext_mk (B1.trans (hbel.mono B1.size))⟩
theorem listOk_InB {a : List Pt} (h : listOk a = true) : (∀ p ∈ a, (-100000 ≤ p.x ∧ p.x ≤ 100000) ∧ (-100000 ≤ p.y ∧ p.y ≤ 100000)) ∧ a.length ≤ 20 := by
  unfold listOk at h
  simp only [Bool.and_eq_true, decide_eq_true_eq] at h
  refine ⟨fun p hp => ?_, h.1⟩
  have := vP_iff.1 (List.all_eq_true.1 h.2 p hp)
  omega
end Go.Proofs.YtnddfdhfefconaaGreatDoor
/- How two segments meet; simple polygons; hulls are simple. No program in sight. -/
set_option linter.unusedVariables false
set_option linter.unusedSimpArgs false
namespace Go.Proofs.YtnddfdhfefconaaGreatDoor
open Go.RowKit

theorem eqP_pt {p q : Pt} : (decide (p.x = q.x) && decide (p.y = q.y)) = decide (p = q) := by
  rw [Bool.eq_iff_iff]
  simp only [Bool.and_eq_true, decide_eq_true_eq]
  exact ⟨fun h => pt_eq h.1 h.2, fun h => by rw [h]; exact ⟨rfl, rfl⟩⟩
def onS (s : Sg) (p : Pt) : Bool := onSeg s.1 s.2 p
def isEndB (s : Sg) (p : Pt) : Bool := eqP p.x p.y s.1.x s.1.y || eqP p.x p.y s.2.x s.2.y
theorem isEnd_iff {s : Sg} {p : Pt} : isEndB s p = true ↔ p = s.1 ∨ p = s.2 := by
  unfold isEndB; simp [eqP, eqP_pt]
def cmnB (s t : Sg) (p : Pt) : Bool := onS s p && !(isEndB t p && isEndB s p)
/-- The ends of the one that the other has. -/
def cmn (s t : Sg) : List Pt := [s.1, s.2].filter (onS t) ++ [t.1, t.2].filter (cmnB s t)
def crossB (s t : Sg) : Bool := decide (sgn (trn s.1 s.2 t.1) * sgn (trn s.1 s.2 t.2) < 0) && decide (sgn (trn t.1 t.2 s.1) * sgn (trn t.1 t.2 s.2) < 0)
def relOf (n : Nat) (x : Bool) : Int := if n = 0 then (if x then 2 else 0) else if n = 1 then 1 else 3
def relI (s t : Sg) : Int := relOf (cmn s t).length (crossB s t)
def cmnA (s t : Sg) : List Pt := [s.1, s.2, t.1, t.2].filter fun p => onS s p && onS t p
def relS (s t : Sg) : Int := relOf (sortP (cmnA s t)).length (crossB s t)
theorem onSeg_end1 (a b : Pt) : onSeg a b a = true := by unfold onSeg trn; simp
theorem onSeg_end2 (a b : Pt) : onSeg a b b = true := by unfold onSeg trn; simp [Int.mul_comm]
theorem sortP_nodup {l : List Pt} (h : l.Nodup) : (sortP l).length = l.length :=
  Nat.le_antisymm (sortP_len l) (nodup_len h fun q hq => sortP_mem.2 hq)
theorem cmn_mem {s t : Sg} {p : Pt} : p ∈ cmn s t ↔ p ∈ cmnA s t := by
  unfold cmn cmnA
  simp only [List.mem_append, List.mem_filter, List.mem_cons, List.not_mem_nil, or_false, Bool.and_eq_true, cmnB, Bool.not_eq_true']
  have e1 : onS s s.1 = true := onSeg_end1 _ _
  have e2 : onS s s.2 = true := onSeg_end2 _ _
  have e3 : onS t t.1 = true := onSeg_end1 _ _
  have e4 : onS t t.2 = true := onSeg_end2 _ _
  constructor
  · rintro (⟨rfl | rfl, h⟩ | ⟨rfl | rfl, h, _⟩)
    · exact ⟨.inl rfl, e1, h⟩
    · exact ⟨.inr (.inl rfl), e2, h⟩
    · exact ⟨.inr (.inr (.inl rfl)), h, e3⟩
    · exact ⟨.inr (.inr (.inr rfl)), h, e4⟩
  · rintro ⟨hm, h1, h2⟩
    by_cases hs : p = s.1 ∨ p = s.2
    · exact .inl ⟨hs, h2⟩
    · refine .inr ⟨?_, h1, ?_⟩
      · rcases hm with h | h | h | h
        · exact absurd (.inl h) hs
        · exact absurd (.inr h) hs
        · exact .inl h
        · exact .inr h
      · cases hh : isEndB t p && isEndB s p with
        | false => rfl
        | true =>
          rw [Bool.and_eq_true] at hh
          exact absurd (isEnd_iff.1 hh.2) hs
theorem nodup_filter {f : Pt → Bool} {l : List Pt} (h : l.Nodup) : (l.filter f).Nodup := List.Nodup.sublist List.filter_sublist h
theorem cmn_nodup {s t : Sg} (h1 : s.1 ≠ s.2) (h2 : t.1 ≠ t.2) : (cmn s t).Nodup := by
  unfold cmn
  rw [List.nodup_append]
  refine ⟨nodup_filter (by simp [h1]), nodup_filter (by simp [h2]), fun a ha b hb => ?_⟩
  simp only [List.mem_filter, List.mem_cons, List.not_mem_nil, or_false, cmnB, Bool.and_eq_true, Bool.not_eq_true'] at ha hb
  rintro rfl
  have he : (isEndB t a && isEndB s a) = true := by rw [Bool.and_eq_true]; exact ⟨isEnd_iff.2 hb.1, isEnd_iff.2 ha.1⟩
  rw [he] at hb
  exact absurd hb.2.2 (by simp)
theorem rel_eq {s t : Sg} (h1 : s.1 ≠ s.2) (h2 : t.1 ≠ t.2) : relS s t = relI s t := by
  unfold relS relI
  rw [← sortP_nodup (cmn_nodup h1 h2), sortP_ext (fun q => cmn_mem (s := s) (t := t))]
/-! ### simple polygons -/
def nextTo (n i k : Nat) : Bool := decide (i = k + 1) || decide (i + 1 = k + n)
def pairI (ps : List Pt) (i k : Nat) : Bool := relI (edgeAt ps i) (edgeAt ps k) == (if nextTo ps.length i k then 1 else 0)
def ringB (ps : List Pt) : Bool := listOk ps && decide (3 ≤ ps.length) && decide ((sortP ps).length = ps.length)
def pairsB (q : Nat → Nat → Bool) (n : Nat) : Bool := (List.range n).all fun i => (List.range i).all fun k => q i k
/-- The polygon is simple. -/
def simB (ps : List Pt) : Bool := ringB ps && pairsB (pairI ps) ps.length
theorem pairsB_iff {q : Nat → Nat → Bool} {n : Nat} : pairsB q n = true ↔ ∀ i, i < n → ∀ k, k < i → q i k = true := by
  unfold pairsB; simp
theorem sortP_dedup {l : List Pt} (h : (sortP l).length = l.length) : l.Nodup := by
  induction l with
  | nil => exact List.nodup_nil
  | cons a r ih =>
    rw [List.nodup_cons]
    have hr : a ∉ r := fun ha => by
      have e : sortP (a :: r) = sortP r := sortP_ext fun q => by
        simp only [List.mem_cons]
        exact ⟨fun hh => hh.elim (fun e => e ▸ ha) id, .inr⟩
      rw [e] at h
      have := sortP_len r
      simp at h; omega
    refine ⟨hr, ih ?_⟩
    have h3 : (sortP (a :: r)).length ≤ (a :: sortP r).length := nodup_len (asc_nodup (sortP_asc _)) fun q hq => by
      have := sortP_mem.1 hq
      simp only [List.mem_cons] at this ⊢
      exact this.imp id sortP_mem.2
    have := sortP_len r
    simp at h h3; omega
theorem ring_parts {ps : List Pt} (h : ringB ps = true) : listOk ps = true ∧ 3 ≤ ps.length ∧ ps.Nodup := by
  unfold ringB at h
  simp only [Bool.and_eq_true, decide_eq_true_eq] at h
  exact ⟨h.1.1, h.1.2, sortP_dedup h.2⟩
theorem gp_inj {ps : List Pt} (h : ps.Nodup) {i k : Nat} (hi : i < ps.length) (hk : k < ps.length) (e : gp ps i = gp ps k) : i = k := by
  rw [gp_lt hi, gp_lt hk] at e
  rcases Nat.lt_trichotomy i k with hh | hh | hh
  · exact absurd e (List.pairwise_iff_getElem.1 h i k hi hk hh)
  · exact hh
  · exact absurd e.symm (List.pairwise_iff_getElem.1 h k i hk hi hh)
theorem mod_next {n k : Nat} (h : k < n) : (k + 1) % n = if k + 1 = n then 0 else k + 1 := by
  split
  · rename_i e; rw [e, Nat.mod_self]
  · exact Nat.mod_eq_of_lt (by omega)
theorem hull_ok {ps : List Pt} (h : listOk ps = true) : listOk (hullOf ps) = true := by
  have hl := hullOf_len' ps
  unfold listOk at h ⊢
  simp only [Bool.and_eq_true, decide_eq_true_eq] at h ⊢
  exact ⟨by omega, List.all_eq_true.2 fun p hp => List.all_eq_true.1 h.2 p (hullOf_sub hp)⟩
end Go.Proofs.YtnddfdhfefconaaGreatDoor
/- The theorem of Pick, as far as it is one of numbers; linear maps of polygons. No program in sight. -/
set_option linter.unusedVariables false
set_option linter.unusedSimpArgs false
namespace Go.Proofs.YtnddfdhfefconaaGreatDoor
open Go.RowKit

def gcdI (a b : Int) : Int := (Int.gcd a b : Nat)
/-- Points of the boundary on the first k edges. -/
def bndTo (ps : List Pt) : Nat → Int
  | 0 => 0
  | k + 1 => bndTo ps k + gcdI ((gp ps ((k + 1) % ps.length)).x - (gp ps k).x) ((gp ps ((k + 1) % ps.length)).y - (gp ps k).y)
def bndL (ps : List Pt) : Int := bndTo ps ps.length
def absI (n : Int) : Int := if 0 ≤ n then n else -n
def intrL (ps : List Pt) : Int := (absI (areaL ps) - bndL ps + 2).tdiv 2
def intr (ps : List Pt) : Int := if simB ps then intrL ps else -1
theorem absI_eq (n : Int) : absI n = n ∨ absI n = -n := by unfold absI; split <;> simp
theorem tdiv2_bd (a : Int) {M : Int} (h : -(2 * M) ≤ a ∧ a ≤ 2 * M) : -M ≤ a.tdiv 2 ∧ a.tdiv 2 ≤ M := by
  have h1 : (a.tdiv 2).natAbs = a.natAbs / 2 := by rw [Int.natAbs_tdiv]; rfl
  omega
theorem gcd_nn (a b : Int) : 0 ≤ gcdI a b := by unfold gcdI; omega
end Go.Proofs.YtnddfdhfefconaaGreatDoor
