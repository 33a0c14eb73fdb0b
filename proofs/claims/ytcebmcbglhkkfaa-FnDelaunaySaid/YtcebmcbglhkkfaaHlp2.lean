
/- More of the statements' own helpers on points. -/
import Derived.Test.YtcebmcbglhkkfaaHelp
import Derived.Test.YtcebmcbglhkkfaaSHull
import Derived.Test.YtcebmcbglhkkfaaTri
set_option linter.unusedVariables false
set_option linter.unusedSimpArgs false
namespace Go.Proofs.Ytcebmcbglhkkfaa
open Go.RowKit

theorem pts_eq2 {ps qs : List Pt} (h : ps.length = qs.length) (hi : ∀ i, i < ps.length → eqP (pX ps i) (pY ps i) (pX qs i) (pY qs i) = true) : ps = qs := by
  refine List.ext_getElem h fun i h1 h2 => ?_
  obtain ⟨a, b⟩ := eqP_iff.1 (hi i h1)
  rw [← gp_lt h1, ← gp_lt h2, gp_mk, gp_mk, a, b]
set_option maxHeartbeats 400000 in
theorem equalPoints_any (ps qs : List Pt) (A A' : Option Addr) (n c n' c' : Nat) (w : World) (hn : ps.length = n) (hn' : qs.length = n') (hm : n ≤ 2000000) (hm' : n' ≤ 2000000) (hs : PtsAt w w.heap.size A ps) (hs' : PtsAt w w.heap.size A' qs) :
    Calls Try.prog 14 #[.slice A n c, .slice A' n' c'] w fun e w' => e = .returned (.bool (decide (ps = qs))) ∧ ∃ m, w' = ext w m := by
  by_cases hnn : n = n'
  · subst hnn
    have HN := hide hn
    have HN' := hide hn'
    have N := @run_nePt
    clear hn hn'
    go_enter Try.func14, Try.ntmps14
    go_wp2
    go_loopw [5] (fun v wr => ∃ k : Nat, k ≤ n ∧ v = .int .i64 k ∧ Hid (∀ j, j < k → eqP (pX ps j) (pY ps j) (pX qs j) (pY qs j) = true) ∧ ∃ x, wr = ext w x) (fun v _ => n - (intOf v).toNat)
    case atStart => exact ⟨0, Nat.zero_le _, rfl, fun j hj => by omega, ext_same w⟩
    case round =>
      obtain ⟨k, hk, rfl, hp, x, rfl⟩ := hrel
      by_cases hlt : k < n
      · obtain ⟨b, o, rfl, hb, hc⟩ := hs (by rw [HN.out]; omega)
        obtain ⟨hx, hy⟩ := hc k (by rw [HN.out]; omega)
        obtain ⟨b', o', rfl, hb', hc'⟩ := hs' (by rw [HN'.out]; omega)
        obtain ⟨hx', hy'⟩ := hc' k (by rw [HN'.out]; omega)
        have hsz := ext_size w x
        clear hc hc'
        cases ht : eqP (pX ps k) (pY ps k) (pX qs k) (pY qs k)
        · have R := hide (decide_eq_false (p := ps = qs) (fun h => by rw [h, eqP_iff.2 ⟨rfl, rfl⟩] at ht; cases ht))
          go_wp2
          refine wp_region_ext (by kernel_rfl) (by kernel_rfl) ?_
          repeat (go_big_quiet_step (fail))
          refine wpQuiet_nil ?_
          rintro _ hnq
          have hzq := ext_sz hnq
          obtain ⟨nq, rfl⟩ := hnq
          (try simp at hzq)
          go_wp2
          go_ret
          exact ⟨ret_bool R.out.symm, (ext_mk (by (repeat' (first | (with_reducible first | exact Below.refl _ _ | assumption | refine below_ext _ ?_ ?_ | refine Below.alloc ?_ ?_ _ | refine Below.drew ?_ | refine below_drewN ?_ _ | refine le_drewN _ ?_ | refine Below.setCell ?_ ?_ _ | exact Nat.le_refl _ | refine le_ext _ ?_ | refine le_alloc _ ?_ | refine le_setCell _ _ ?_ | refine le_drew ?_) | omega | (simp; done) | (simp; omega)))))⟩
        · have HT := hide ht
          go_wp2
          refine wp_region_ext (by kernel_rfl) (by kernel_rfl) ?_
          repeat (go_big_quiet_step (fail))
          refine wpQuiet_nil ?_
          rintro _ hnq
          have hzq := ext_sz hnq
          obtain ⟨nq, rfl⟩ := hnq
          (try simp at hzq)
          go_wp2
          exact ⟨⟨k + 1, by omega, by go_num, fun j hj => by rcases Nat.lt_succ_iff_lt_or_eq.1 hj with h | rfl; exact hp.out j h; exact HT.out, (ext_mk (by (repeat' (first | (with_reducible first | exact Below.refl _ _ | assumption | refine below_ext _ ?_ ?_ | refine Below.alloc ?_ ?_ _ | refine Below.drew ?_ | refine below_drewN ?_ _ | refine le_drewN _ ?_ | refine Below.setCell ?_ ?_ _ | exact Nat.le_refl _ | refine le_ext _ ?_ | refine le_alloc _ ?_ | refine le_setCell _ _ ?_ | refine le_drew ?_) | omega | (simp; done) | (simp; omega)))))⟩, by simp [intOf]; omega⟩
      · have : k = n := by omega
        subst this
        go_wp2
        go_ret
        exact ⟨ret_bool (decide_eq_true (pts_eq2 (by rw [HN.out, HN'.out]) (fun i hi => hp.out i (by rw [← HN.out]; exact hi)))).symm, (ext_mk (by (repeat' (first | (with_reducible first | exact Below.refl _ _ | assumption | refine below_ext _ ?_ ?_ | refine Below.alloc ?_ ?_ _ | refine Below.drew ?_ | refine below_drewN ?_ _ | refine le_drewN _ ?_ | refine Below.setCell ?_ ?_ _ | exact Nat.le_refl _ | refine le_ext _ ?_ | refine le_alloc _ ?_ | refine le_setCell _ _ ?_ | refine le_drew ?_) | omega | (simp; done) | (simp; omega)))))⟩
  · have hne : ((n : Int) != n') = true := by rw [bne_iff_ne]; omega
    have R := hide (decide_eq_false (p := ps = qs) (fun h => hnn (by rw [← hn, ← hn', h])))
    clear hn hn'
    go_enter Try.func14, Try.ntmps14
    go_wp2
    go_ret
    exact ⟨ret_bool R.out.symm, (ext_mk (by (repeat' (first | (with_reducible first | exact Below.refl _ _ | assumption | refine below_ext _ ?_ ?_ | refine Below.alloc ?_ ?_ _ | refine Below.drew ?_ | refine below_drewN ?_ _ | refine le_drewN _ ?_ | refine Below.setCell ?_ ?_ _ | exact Nat.le_refl _ | refine le_ext _ ?_ | refine le_alloc _ ?_ | refine le_setCell _ _ ?_ | refine le_drew ?_) | omega | (simp; done) | (simp; omega)))))⟩
def nearP (ps : List Pt) : Bool := ps.all fun p => decide (-900 ≤ p.x) && decide (p.x ≤ 900) && decide (-900 ≤ p.y) && decide (p.y ≤ 900)
theorem nearP_iff {ps : List Pt} : nearP ps = true ↔ ∀ p ∈ ps, (-900 ≤ p.x ∧ p.x ≤ 900) ∧ (-900 ≤ p.y ∧ p.y ≤ 900) := by
  unfold nearP
  rw [List.all_eq_true]
  constructor
  · intro h p hp
    have := h p hp
    simp only [Bool.and_eq_true, decide_eq_true_eq] at this
    omega
  · intro h p hp
    have := h p hp
    simp only [Bool.and_eq_true, decide_eq_true_eq]
    omega
theorem move_take {ps : List Pt} {k : Nat} (hk : k < ps.length) (t : Pt) : (ps.take (k + 1)).map (fun p => addP p t) = (ps.take k).map (fun p => addP p t) ++ [⟨pX ps k + t.x, pY ps k + t.y⟩] := by
  rw [List.take_succ_eq_append_getElem hk, List.map_append, ← gp_lt hk]; rfl
theorem any_mem {ps : List Pt} {q : Pt} : (ps.any fun p => decide (p = q)) = true ↔ q ∈ ps := by simp
end Go.Proofs.Ytcebmcbglhkkfaa
