
/- The program's area of a polygon. -/
import Derived.Test.YtelhidonhldjeaaEdge
import Derived.Test.YtelhidonhldjeaaLeaf
import Derived.Test.YtelhidonhldjeaaFunc
set_option linter.unusedVariables false
set_option linter.unusedSimpArgs false
namespace Go.Proofs.Ytelhidonhldjeaa
open Go.RowKit

def crP (a b : Pt) : Int := a.x * b.y - a.y * b.x
def areaTo (ps : List Pt) : Nat → Int
  | 0 => 0
  | k + 1 => areaTo ps k + crP (gp ps k) (gp ps ((k + 1) % ps.length))
/-- Twice the area. -/
def areaL (ps : List Pt) : Int := areaTo ps ps.length
theorem crP_bd {a b : Pt} (ha : (-100000 ≤ a.x ∧ a.x ≤ 100000) ∧ -100000 ≤ a.y ∧ a.y ≤ 100000) (hb : (-100000 ≤ b.x ∧ b.x ≤ 100000) ∧ -100000 ≤ b.y ∧ b.y ≤ 100000) : -20000000000 ≤ crP a b ∧ crP a b ≤ 20000000000 := by
  have h1 := mul_bd ha.1 hb.2
  have h2 := mul_bd ha.2 hb.1
  unfold crP
  omega
theorem areaTo_bd {ps : List Pt} (h : ∀ p ∈ ps, (-100000 ≤ p.x ∧ p.x ≤ 100000) ∧ -100000 ≤ p.y ∧ p.y ≤ 100000) : ∀ k, k ≤ ps.length → -(k * 20000000000 : Int) ≤ areaTo ps k ∧ areaTo ps k ≤ k * 20000000000
  | 0, _ => by simp [areaTo]
  | k + 1, hk => by
    have ih := areaTo_bd h k (by omega)
    have := crP_bd (h _ (gp_mem (show k < ps.length by omega))) (h _ (gp_mem (show (k + 1) % ps.length < ps.length from Nat.mod_lt _ (by omega))))
    unfold areaTo
    omega
set_option maxHeartbeats 1000000 in
theorem area_any (ps : List Pt) (A : Option Addr) (n c : Nat) (w : World) (hn : ps.length = n) (hm : n ≤ 1000) (hb : ∀ p ∈ ps, (-100000 ≤ p.x ∧ p.x ≤ 100000) ∧ -100000 ≤ p.y ∧ p.y ≤ 100000) (hs : PtsAt w w.heap.size A ps) :
    Calls Try.prog 49 #[.slice A n c] w fun e w' => e = .returned (.int .i64 (areaL ps)) ∧ ∃ x, w' = ext w x := by
  have HN := hide hn
  have HB := hide hb
  have HE := hide (edges_any ps A n c w hn hm hs)
  have AB := hide (areaTo_bd hb)
  clear hn hb hs
  go_enter Try.func49, Try.ntmps49
  go_wp2_with fail
  refine HE.out.mono ?_
  rintro e w1 ⟨v1, rfl, hown1, x1, rfl⟩
  obtain ⟨A1, n1, c1, rfl⟩ := hown1.slice
  have hl1 := hown1.segs.1
  have hle1 : n1 ≤ 1000 := by rw [edgesL_len, HN.out] at hl1; omega
  have HL1 : Hid (n1 = n) := hide (by rw [edgesL_len, HN.out] at hl1; omega)
  have SG := hide hown1.segs.2.2.2
  have B1 := ext_below w x1
  generalize hW1 : ext w x1 = W1 at *
  clear hW1 hown1 hl1
  go_wp2
  go_loopw [3, 9] (fun u3 u9 wr => ∃ k : Nat, k ≤ n1 ∧ u9 = .int .i64 k ∧ u3 = .int .i64 (areaTo ps k) ∧ Below W1.heap.size W1 wr) (fun _ u9 _ => n1 - (intOf u9).toNat)
  case atStart => exact ⟨0, Nat.zero_le _, rfl, rfl, Below.refl _ _⟩
  case round =>
    obtain ⟨k, hk, rfl, rfl, hbel⟩ := hrel
    have hsz := hbel.size
    by_cases hlt : k < n1
    · obtain ⟨b, o, rfl, hbl, hc⟩ := SG.out (by rw [edgesL_len, HN.out, ← HL1.out]; omega)
      have hkl : k < ps.length := by rw [HN.out, ← HL1.out]; exact hlt
      have hck := hc k (by rw [edgesL_len]; exact hkl)
      rw [edgesL_at hkl] at hck
      have hj : (k + 1) % ps.length < ps.length := Nat.mod_lt _ (by omega)
      obtain ⟨⟨p1, p2⟩, p3, p4⟩ := HB.out _ (gp_mem hkl)
      obtain ⟨⟨p5, p6⟩, p7, p8⟩ := HB.out _ (gp_mem hj)
      have ab := AB.out k (by omega)
      have cb := crP_bd ⟨⟨p1, p2⟩, p3, p4⟩ ⟨⟨p5, p6⟩, p7, p8⟩
      have NX : Hid (areaTo ps (k + 1) = areaTo ps k + ((gp ps k).x * (gp ps ((k + 1) % ps.length)).y - (gp ps k).y * (gp ps ((k + 1) % ps.length)).x)) := hide rfl
      unfold crP at cb
      obtain ⟨h1, h2, h3, h4⟩ := hck
      have g1 := (hbel.cell (p := ⟨b, o + k * 4, none⟩) hbl).trans h1
      have g2 := (hbel.cell (p := ⟨b, o + k * 4 + 1, none⟩) hbl).trans h2
      have g3 := (hbel.cell (p := ⟨b, o + k * 4 + 2, none⟩) hbl).trans h3
      have g4 := (hbel.cell (p := ⟨b, o + k * 4 + 3, none⟩) hbl).trans h4
      unfold edgeAt at g1 g2 g3 g4
      simp only at g1 g2 g3 g4
      have abl : -20000000000000 ≤ areaTo ps k ∧ areaTo ps k ≤ 20000000000000 := by omega
      clear hc h1 h2 h3 h4 hj hkl ab
      generalize (gp ps k).x = X1 at *
      generalize (gp ps k).y = Y1 at *
      generalize (gp ps ((k + 1) % ps.length)).x = X2 at *
      generalize (gp ps ((k + 1) % ps.length)).y = Y2 at *
      go_wp2_with (go_at_call 103; refine (cross_any _ _ _ _ _ (by omega) (by omega) (by omega) (by omega)).mono ?_; rintro e w' ⟨rfl, hw'⟩; have hzy := ext_sz hw'; obtain ⟨y, rfl⟩ := hw'; (try simp at hzy))
      exact ⟨⟨k + 1, by omega, by go_num, by rw [NX.out], Below.trans hbel (by (repeat' (first | (with_reducible exact Below.refl _ _) | (with_reducible assumption) | (with_reducible refine below_ext _ ?_ ?_) | (with_reducible refine Below.alloc ?_ ?_ _) | (with_reducible refine Below.drew ?_) | (with_reducible refine below_drewN ?_ _) | (with_reducible refine le_drewN _ ?_) | (with_reducible refine Below.setCell ?_ ?_ _) | (with_reducible exact Nat.le_refl _) | (with_reducible refine le_ext _ ?_) | (with_reducible refine le_alloc _ ?_) | (with_reducible refine le_setCell _ _ ?_) | (with_reducible refine le_drew ?_) | omega | (simp; done) | (simp; omega))))⟩, by simp [intOf]; omega⟩
    · have : k = n1 := by omega
      subst this
      go_wp2
      go_ret
      exact ⟨ret_int (by unfold areaL; rw [HN.out, ← HL1.out]), ext_mk (B1.trans (hbel.mono B1.size))⟩
theorem listOk_InB {a : List Pt} (h : listOk a = true) : (∀ p ∈ a, (-100000 ≤ p.x ∧ p.x ≤ 100000) ∧ (-100000 ≤ p.y ∧ p.y ≤ 100000)) ∧ a.length ≤ 20 := by
  unfold listOk at h
  simp only [Bool.and_eq_true, decide_eq_true_eq] at h
  refine ⟨fun p hp => ?_, h.1⟩
  have := vP_iff.1 (List.all_eq_true.1 h.2 p hp)
  omega
end Go.Proofs.Ytelhidonhldjeaa
