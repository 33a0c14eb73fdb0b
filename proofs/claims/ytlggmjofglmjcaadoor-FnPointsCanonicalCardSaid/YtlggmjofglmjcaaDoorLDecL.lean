
/- laws.FnExactDecodePoints, laws.FnPointsRoundTrip, laws.FnPointsCanonical return true. -/
import Derived.Test.YtlggmjofglmjcaaDoorDecI
import Derived.Test.YtlggmjofglmjcaaDoorDecL
import Derived.Test.YtlggmjofglmjcaaDoorMarkP
import Derived.Test.YtlggmjofglmjcaaDoorHelp
set_option linter.unusedVariables false
set_option linter.unusedSimpArgs false
namespace Go.Proofs.YtlggmjofglmjcaaDoor
open Go.RowKit

theorem decL_len (l : List UInt8) : (decL l).1.length ≤ 20 := by
  unfold decL
  split
  · rename_i h
    exact (listOk_1 h.1).1
  · simp
set_option maxHeartbeats 4000000 in
theorem lawDecL (l : List UInt8) (w : World) (ht : Tab w) (hE : Errs w) (hM : MaxL w) : Calls Tryd.prog 9 #[.string (bS l)] w fun e w' => e = .returned (.bool true) ∧ Below w.heap.size w w' := by
  have SZ := bS_size l
  by_cases hl : l.length ≤ 1048576
  · have SD := hide (fun W => sDecL_any l W (by omega))
    have ID := hide (fun W (hb : Below w.heap.size w W) => iDecL_any l W hl (ht.to hb) (hE.to hb) (hM.to hb))
    have LR := decL_len l
    clear ht hE hM
    generalize (decL l).1 = R at *
    generalize (decL l).2 = V at *
    have d0 : decide (R = R) = true := by simp
    go_enter Tryd.func9, Tryd.ntmps9
    go_wp2_with fail
    refine (SD.out _).mono ?_
    rintro e w1 ⟨v1, rfl, own1, hx1⟩
    have C1 := ext_bel hx1
    obtain ⟨A1, n1, c1, rfl⟩ := own1.slice
    obtain ⟨l1, _, _, p1⟩ := own1.pts
    clear hx1 own1 SD
    go_wp2_with fail
    refine (ID.out _ C1).mono ?_
    rintro e w2 ⟨A2, n2, c2, rfl, l2, q2, qb2, pr2, hx2⟩
    have F2 := ext_bel hx2
    have C2 := C1.trans (F2.mono C1.size)
    clear hx2
    go_wp2_with fail
    refine (eqPointS_any R R _ _ _ _ _ _ _ l2 l1 (by omega) (by omega) pr2.pts (p1.to F2)).mono ?_
    rintro e w3 ⟨rfl, hx3⟩
    have E3 := ext_bel hx3
    have F3 := F2.trans (E3.mono F2.size)
    have C3 := C1.trans (F3.mono C1.size)
    have pr3 := pr2.below E3
    clear hx3 pr2
    go_wp2_with fail
    refine (markPointS_any A2 n2 c2 w1.heap.size R w3 l2 (by omega) pr3).mono ?_
    rintro e w4 ⟨rfl, E4, z4, mk4⟩
    have F4 := F3.trans E4
    have C4 := C1.trans (F4.mono C1.size)
    clear pr3
    go_wp2_with fail
    refine (heldPointS_any A2 n2 c2 w1.heap.size w4 (by omega) mk4).mono ?_
    rintro e w5 ⟨rfl, hx5⟩
    have E5 := ext_bel hx5
    have F5 := F4.trans (E5.mono F4.size)
    have C5 := C1.trans (F5.mono C1.size)
    have mk5 := mk4.below E5
    clear hx5 mk4
    go_wp2_with fail
    refine (ID.out _ C5).mono ?_
    rintro e w6 ⟨A6, n6, c6, rfl, l6, q6, qb6, pr6, hx6⟩
    have E6 := ext_bel hx6
    have F6 := F5.trans (E6.mono F5.size)
    have C6 := C1.trans (F6.mono C1.size)
    have mk6 := mk5.below E6
    clear hx6 mk5
    go_wp2_with fail
    refine (eqPointS_any R R _ _ _ _ _ _ _ l6 l1 (by omega) (by omega) pr6.pts (p1.to F6)).mono ?_
    rintro e w7 ⟨rfl, hx7⟩
    have E7 := ext_bel hx7
    have F7 := F6.trans (E7.mono F6.size)
    have C7 := C1.trans (F7.mono C1.size)
    have mk7 := mk6.below E7
    clear hx7 mk6
    go_wp2_with fail
    refine (heldPointS_any A2 n2 c2 w1.heap.size w7 (by omega) mk7).mono ?_
    rintro e w8 ⟨rfl, hx8⟩
    have C8 := C7.trans ((ext_bel hx8).mono C7.size)
    clear hx8 mk7
    go_wp2_with fail
    go_ret
    exact ⟨rfl, C8⟩
  · have hl' : ¬ l.length ≤ 1048576 := hl
    have d0 : 1048576 < l.length := by omega
    go_enter Tryd.func9, Tryd.ntmps9
    go_wp2_with fail
    go_ret
    exact ⟨rfl, (by (repeat' (first | (with_reducible first | exact Below.refl _ _ | assumption | refine below_ext _ ?_ ?_ | refine Below.alloc ?_ ?_ _ | refine Below.drew ?_ | refine below_drewN ?_ _ | refine le_drewN _ ?_ | refine Below.setCell ?_ ?_ _ | exact Nat.le_refl _ | refine le_ext _ ?_ | refine le_alloc _ ?_ | refine le_setCell _ _ ?_ | refine le_drew ?_) | omega | (simp; done) | (simp; omega))))⟩
end Go.Proofs.YtlggmjofglmjcaaDoor
