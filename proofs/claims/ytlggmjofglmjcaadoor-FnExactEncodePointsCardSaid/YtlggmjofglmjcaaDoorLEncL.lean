
/- laws.FnExactEncodePoints returns true. -/
import Derived.Test.YtlggmjofglmjcaaDoorEncP
import Derived.Test.YtlggmjofglmjcaaDoorLEnc
import Derived.Test.YtlggmjofglmjcaaDoorDecS
import Derived.Test.YtlggmjofglmjcaaDoorHelp
set_option linter.unusedVariables false
set_option linter.unusedSimpArgs false
namespace Go.Proofs.YtlggmjofglmjcaaDoor
open Go.RowKit

set_option maxHeartbeats 2000000 in
theorem lawEncL (ps : List Pt) (A : Option Addr) (n c : Nat) (w : World) (hn : ps.length = n) (hm : n ≤ 9223372036854775807) (hs : PtsAt w w.heap.size A ps) (ht : Tab w) :
    Calls Tryd.prog 4 #[.slice A n c] w fun e w' => e = .returned (.bool true) ∧ Below w.heap.size w w' := by
  by_cases hle : n ≤ 1048576
  · have SP := hide (fun (W : World) (a : Nat) (ra : PtsAt W W.heap.size (some ⟨a, 0, none⟩) ps) => sEncL_any ps (some ⟨a, 0, none⟩) n n W hn (by omega) ra)
    have IM := hide (fun (W : World) (hb : Below w.heap.size w W) (a : Nat) (ra : PtsAt W W.heap.size (some ⟨a, 0, none⟩) ps) => iEncL_any ps (some ⟨a, 0, none⟩) n n W hn (by omega) ra (ht.to hb))
    have ES : ((bS (encE ps)).toList == (bS (encE ps)).toList) = true := by rw [bS_ne]; simp
    clear ht
    generalize bS (encE ps) = S at *
    go_enter Tryd.func4, Tryd.ntmps4
    go_wp2_with (first | (go_at_call 14; refine (szPointS_yes _ _ _ _ _ (by omega) (by omega) (by omega) (by omega)).mono ?_; rintro e w' ⟨rfl, rfl⟩) | fail)
    refine (toPointS_any ps _ _ _ _ hn (by omega) hs).mono ?_
    rintro e wa ⟨ga, rfl, hga, hra, hxa⟩
    have Ba := ext_bel hxa
    clear hxa
    go_wp2_with fail
    refine (SP.out _ ga (PtsAt.row hra hn)).mono ?_
    rintro e w1 ⟨rfl, hx1⟩
    have B1 := Ba.trans ((ext_bel hx1).mono Ba.size)
    clear hx1 hra
    go_wp2_with fail
    refine (toPointS_any ps _ _ _ _ hn (by omega) (hs.to B1)).mono ?_
    rintro e w2 ⟨gx, rfl, hgx, hrx, hx2⟩
    have B2 := B1.trans ((ext_bel hx2).mono B1.size)
    have l2 := hrx.lt
    clear hx2
    go_wp2_with fail
    refine (IM.out _ B2 gx (PtsAt.row hrx hn)).mono ?_
    rintro e w3 ⟨rfl, hx3⟩
    have D3 := ext_bel hx3
    have B3 := B2.trans (D3.mono B2.size)
    have hrx3 := hrx.below D3 l2
    have l3 := Nat.lt_of_lt_of_le l2 D3.size
    clear hx3 hrx
    go_wp2_with fail
    refine (toPointS_any ps _ _ _ _ hn (by omega) (hs.to B3)).mono ?_
    rintro e w4 ⟨g4, rfl, hg4, hr4, hx4⟩
    have D4 := ext_bel hx4
    have B4 := B3.trans (D4.mono B3.size)
    have hrx4 := hrx3.below D4 l3
    clear hx4 hrx3
    go_wp2_with fail
    refine (eqPointS_any ps ps _ _ _ _ _ _ _ hn hn (by omega) (by omega) (PtsAt.row hrx4 hn) (PtsAt.row hr4 hn)).mono ?_
    rintro e w5 ⟨rfl, hx5⟩
    have B5 := B4.trans ((ext_bel hx5).mono B4.size)
    clear hx5
    have d0 : decide (ps = ps) = true := by simp
    go_wp2_with fail
    go_ret
    exact ⟨rfl, B5⟩
  · go_enter Tryd.func4, Tryd.ntmps4
    go_wp2_with (first | (go_at_call 14; refine (szPointS_no _ _ _ _ _ (by omega) (by omega) (by omega) (by omega)).mono ?_; rintro e w' ⟨rfl, rfl⟩))
    go_ret
    exact ⟨rfl, (by (repeat' (first | (with_reducible first | exact Below.refl _ _ | assumption | refine below_ext _ ?_ ?_ | refine Below.alloc ?_ ?_ _ | refine Below.drew ?_ | refine below_drewN ?_ _ | refine le_drewN _ ?_ | refine Below.setCell ?_ ?_ _ | exact Nat.le_refl _ | refine le_ext _ ?_ | refine le_alloc _ ?_ | refine le_setCell _ _ ?_ | refine le_drew ?_) | omega | (simp; done) | (simp; omega))))⟩
end Go.Proofs.YtlggmjofglmjcaaDoor
