
/- Ears: the program's test, the reference's. -/
import Derived.Test.YtelhidonhldjeaaEarM
import Derived.Test.YtelhidonhldjeaaFunI
import Derived.Test.YtelhidonhldjeaaRing
import Derived.Test.YtelhidonhldjeaaTriI
set_option linter.unusedVariables false
set_option linter.unusedSimpArgs false
namespace Go.Proofs.Ytelhidonhldjeaa
open Go.RowKit

theorem triN_no {ps : List Pt} {a b c k : Nat} (h : k = a ∨ k = b ∨ k = c) : triN ps a b c k = false := by
  unfold triN
  rcases h with h | h | h <;> rw [h] <;> simp
theorem triN_yes {ps : List Pt} {a b c k : Nat} (h1 : k ≠ a) (h2 : k ≠ b) (h3 : k ≠ c) : triN ps a b c k = triB (gp ps a) (gp ps b) (gp ps c) (gp ps k) := by
  unfold triN
  rw [decide_eq_false h1, decide_eq_false h2, decide_eq_false h3]; rfl
set_option maxHeartbeats 1000000 in
theorem triTurn_any (ps : List Pt) (a b c : Nat) (A : Option Addr) (n cc : Nat) (w : World) (hn : ps.length = n) (la : a < n) (lb : b < n) (lc : c < n) (hm : n ≤ 1000) (hib : ∀ p ∈ ps, (-100000 ≤ p.x ∧ p.x ≤ 100000) ∧ (-100000 ≤ p.y ∧ p.y ≤ 100000)) (hs : PtsAt w w.heap.size A ps) :
    Calls Try.prog 137 #[.agg #[.int .i64 a, .int .i64 b, .int .i64 c], .slice A n cc] w fun e w' => e = .returned (.int .i64 (trn (gp ps a) (gp ps b) (gp ps c))) ∧ ∃ m, w' = ext w m := by
  obtain ⟨b0, o, rfl, hbl, hcs⟩ := hs (by omega)
  obtain ⟨xa, ya⟩ := hcs a (by omega)
  obtain ⟨xb, yb⟩ := hcs b (by omega)
  obtain ⟨xc, yc⟩ := hcs c (by omega)
  obtain ⟨⟨p1, p2⟩, p3, p4⟩ := hib _ (gp_mem (show a < ps.length by omega))
  obtain ⟨⟨p5, p6⟩, p7, p8⟩ := hib _ (gp_mem (show b < ps.length by omega))
  obtain ⟨⟨p9, p10⟩, p11, p12⟩ := hib _ (gp_mem (show c < ps.length by omega))
  have TU := hide (fun W => turn_any (pX ps a) (pY ps a) (pX ps b) (pY ps b) (pX ps c) (pY ps c) W ⟨p1, p2⟩ ⟨p3, p4⟩ ⟨p5, p6⟩ ⟨p7, p8⟩ ⟨p9, p10⟩ ⟨p11, p12⟩)
  have E : Hid (((pX ps b - pX ps a) * (pY ps c - pY ps a) - (pY ps b - pY ps a) * (pX ps c - pX ps a)) = trn (gp ps a) (gp ps b) (gp ps c)) := hide rfl
  rw [E.out] at TU
  have q1 : (0 : Int) ≤ (a : Int) := by omega
  have q2 : (a : Int) < (n : Int) := by omega
  have q3 : (0 : Int) ≤ (b : Int) := by omega
  have q4 : (b : Int) < (n : Int) := by omega
  have q5 : (0 : Int) ≤ (c : Int) := by omega
  have q6 : (c : Int) < (n : Int) := by omega
  clear hcs hib p1 p2 p3 p4 p5 p6 p7 p8 p9 p10 p11 p12 hn hs E
  generalize trn (gp ps a) (gp ps b) (gp ps c) = U at *
  go_enter Try.func137, Try.ntmps137
  go_wp2_with fail
  refine wp_region_ext (by kernel_rfl) (by kernel_rfl) ?_
  repeat (go_big_quiet_step ((first | (go_at_call 129; exact Calls.in_ext (TU.out _)))))
  refine wpQuiet_nil ?_
  rintro _ hnq
  have hzq := ext_sz hnq
  obtain ⟨nq, rfl⟩ := hnq
  (try simp at hzq)
  go_wp2_with fail
  go_ret
  exact ⟨rfl, (ext_mk (by (repeat' (first | (with_reducible exact Below.refl _ _) | (with_reducible assumption) | (with_reducible refine below_ext _ ?_ ?_) | (with_reducible refine Below.alloc ?_ ?_ _) | (with_reducible refine Below.drew ?_) | (with_reducible refine below_drewN ?_ _) | (with_reducible refine le_drewN _ ?_) | (with_reducible refine Below.setCell ?_ ?_ _) | (with_reducible exact Nat.le_refl _) | (with_reducible refine le_ext _ ?_) | (with_reducible refine le_alloc _ ?_) | (with_reducible refine le_setCell _ _ ?_) | (with_reducible refine le_drew ?_) | omega | (simp; done) | (simp; omega)))))⟩
end Go.Proofs.Ytelhidonhldjeaa
