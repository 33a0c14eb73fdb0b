
/- Canonical: the reference's; the law's 'backwards'; SortPoints (printed by tools/genscan.py). -/
import Derived.Test.YtcebmcbglhkkfaaCan
import Derived.Test.YtcebmcbglhkkfaaSimS
import Derived.Test.YtcebmcbglhkkfaaSHull
import Derived.Test.YtcebmcbglhkkfaaPoly
import Derived.Test.YtcebmcbglhkkfaaCount
import Derived.Test.YtcebmcbglhkkfaaSorted
import Derived.Test.YtcebmcbglhkkfaaConv
set_option linter.unusedVariables false
set_option linter.unusedSimpArgs false
namespace Go.Proofs.Ytcebmcbglhkkfaa
open Go.RowKit

def sortO (ps : List Pt) : List Pt := if listOk ps then sortP ps else []
set_option maxHeartbeats 1000000 in
theorem sortPoints_any (ps : List Pt) (A : Option Addr) (n c : Nat) (w : World) (hn : ps.length = n) (hm : n ≤ 2000000) (hA : Plain A n) (hs : PtsAt w w.heap.size A ps) :
    Calls Try.prog 18 #[.slice A n c] w fun e w' => ∃ A' n' c', e = .returned (.slice A' n' c') ∧ (sortO ps).length = n' ∧ n' ≤ c' ∧ c' ≤ 9223372036854775807 ∧ PRow w' w.heap.size A' (sortO ps) ∧ Plain A' n' ∧ ∃ x, w' = ext w x := by
  have HC := hide (listOk_any ps A n c w hn hm hs)
  by_cases h : listOk ps = true
  · obtain ⟨hib, hle⟩ := listOk_InB h
    have ST := hide (fun (W : World) (hb : Below w.heap.size w W) => sorted_any ps A n c W hn (by omega) (hs.to hb) hA)
    have HE : Hid (sortO ps = sortP ps) := hide (if_pos h)
    rw [h] at HC
    clear hn hs h
    go_enter Try.func18, Try.ntmps18
    go_wp2_with fail
    refine HC.out.mono ?_
    rintro e w' ⟨rfl, hw'⟩; have hzy1 := ext_sz hw'; obtain ⟨y1, rfl⟩ := hw'; (try simp at hzy1)
    go_wp2_with fail
    refine (ST.out _ (by (repeat' (first | (with_reducible first | exact Below.refl _ _ | assumption | refine below_ext _ ?_ ?_ | refine Below.alloc ?_ ?_ _ | refine Below.drew ?_ | refine below_drewN ?_ _ | refine le_drewN _ ?_ | refine Below.setCell ?_ ?_ _ | exact Nat.le_refl _ | refine le_ext _ ?_ | refine le_alloc _ ?_ | refine le_setCell _ _ ?_ | refine le_drew ?_) | omega | (simp; done) | (simp; omega))))).mono ?_
    rintro e w2 ⟨A2, n2, c2, rfl, l2, q2, qc2, pr2, pl2, hx2⟩
    have B2 := ext_bel hx2
    have PR := hide pr2
    clear pr2 hx2
    go_wp2_with fail
    go_ret
    exact ⟨_, _, _, rfl, by rw [HE.out]; exact l2, q2, qc2, by rw [HE.out]; exact PR.out.more (ext_size w y1), pl2, ext_mk (Below.trans (b := ext w y1) (by (repeat' (first | (with_reducible first | exact Below.refl _ _ | assumption | refine below_ext _ ?_ ?_ | refine Below.alloc ?_ ?_ _ | refine Below.drew ?_ | refine below_drewN ?_ _ | refine le_drewN _ ?_ | refine Below.setCell ?_ ?_ _ | exact Nat.le_refl _ | refine le_ext _ ?_ | refine le_alloc _ ?_ | refine le_setCell _ _ ?_ | refine le_drew ?_) | omega | (simp; done) | (simp; omega)))) (B2.mono (ext_size w y1)))⟩
  · have h := eq_false_of_ne_true h
    have HE : Hid (sortO ps = []) := hide (by unfold sortO; rw [h]; rfl)
    rw [h] at HC
    clear hn hs h
    go_enter Try.func18, Try.ntmps18
    go_wp2_with fail
    refine HC.out.mono ?_
    rintro e w' ⟨rfl, hw'⟩; have hzy1 := ext_sz hw'; obtain ⟨y1, rfl⟩ := hw'; (try simp at hzy1)
    go_wp2_with fail
    go_ret
    exact ⟨none, 0, 0, rfl, by rw [HE.out]; rfl, Nat.le_refl _, by omega, by rw [HE.out]; exact PRow.nil _ _ _, Plain.none rfl, (ext_mk (by (repeat' (first | (with_reducible first | exact Below.refl _ _ | assumption | refine below_ext _ ?_ ?_ | refine Below.alloc ?_ ?_ _ | refine Below.drew ?_ | refine below_drewN ?_ _ | refine le_drewN _ ?_ | refine Below.setCell ?_ ?_ _ | exact Nat.le_refl _ | refine le_ext _ ?_ | refine le_alloc _ ?_ | refine le_setCell _ _ ?_ | refine le_drew ?_) | omega | (simp; done) | (simp; omega)))))⟩
end Go.Proofs.Ytcebmcbglhkkfaa
