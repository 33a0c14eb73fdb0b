
/- The reference's generators for simplified paths. -/
import Derived.Test.YtgeilljbmjajnaaPth
import Derived.Test.YtgeilljbmjajnaaSimp
set_option linter.unusedVariables false
set_option linter.unusedSimpArgs false
namespace Go.Proofs.Ytgeilljbmjajnaa
open Go.RowKit

theorem RowAt.ints (w : World) (T : TypeId) (zs : List Int) (cs : Array Value) (hcs : cs = (zs.map (Value.int .i64)).toArray) : RowAt (w.alloc (.cells cs T)) w.heap.size T zs.length (intCell zs) := by
  subst hcs
  have h := RowAt.new w (zs.map (Value.int .i64)).toArray T (f := intCell zs) (fun j hj => by
    have hj' : j < zs.length := by simpa using hj
    rw [List.getElem?_toArray, List.getElem?_map, List.getElem?_eq_getElem hj']
    unfold intCell
    rw [gi_lt hj']; rfl)
  simpa using h
set_option maxHeartbeats 1000000 in
theorem drawSimplify_any (n c : Nat) (A : Option Addr) (w : World) (hn : n ≤ c) (hc : c ≤ 9223372036854775807) (hA : BytesAt w w.heap.size A n) :
    Calls Try.prog 20 #[.slice A n c] w fun e w' => ∃ v ps most, e = .returned (.tuple #[v, .int .i64 most]) ∧ OwnP w' w.heap.size v ps ∧ ps.length ≤ 20 ∧ Below w.heap.size w w' := by
  go_enter Try.func20, Try.ntmps20
  go_wp2_with fail
  refine (newReader_any n c A _ hn hc hA).mono ?_
  rintro e w1 ⟨g, nb, rfl, hg, hnb, hr, hx⟩
  have B1 := ext_bel hx
  clear hx
  go_wp2_with fail
  refine (anyPath_any _ nb _ g 0 A _ (by omega) hnb hr).mono ?_
  rintro e w2 ⟨v, ps, p', rfl, hown, hlen, hp', hD⟩
  obtain ⟨A2, n2, c2, rfl⟩ := hown.slice
  have lg := hr.lt
  have B2 : Below w.heap.size w w2 := B1.trans (hD.below hg B1.size)
  have OW := hide hown
  have HD := hide hD
  clear hown hD hr
  go_wp2_with fail
  have s2 := B2.size
  have hlg := HD.out.rd.lt
  refine (one_any [0, 1, 2, 4, 9, 30, -1, 8000001] _ nb _ g p' w2.heap.size 8 3 8 _ A _ (by decide) (by decide) (by omega) hnb (HD.out.rd.to (by (repeat' (first | (with_reducible exact Below.refl _ _) | (with_reducible assumption) | (with_reducible refine below_ext _ ?_ ?_) | (with_reducible refine Below.alloc ?_ ?_ _) | (with_reducible refine Below.drew ?_) | (with_reducible refine below_drewN ?_ _) | (with_reducible refine le_drewN _ ?_) | (with_reducible refine Below.setCell ?_ ?_ _) | (with_reducible exact Nat.le_refl _) | (with_reducible refine le_ext _ ?_) | (with_reducible refine le_alloc _ ?_) | (with_reducible refine le_setCell _ _ ?_) | (with_reducible refine le_drew ?_) | omega | (simp; done) | (simp; omega))))) (RowAt.ints w2 _ [0, 1, 2, 4, 9, 30, -1, 8000001] _ rfl) (Nat.le_refl _) (fun i hi => rfl) (by omega)).mono ?_
  rintro e w3 ⟨z, rfl, _, hb3, hr3⟩
  have OF := (OW.out.below (W := w2.alloc _) (by (repeat' (first | (with_reducible exact Below.refl _ _) | (with_reducible assumption) | (with_reducible refine below_ext _ ?_ ?_) | (with_reducible refine Below.alloc ?_ ?_ _) | (with_reducible refine Below.drew ?_) | (with_reducible refine below_drewN ?_ _) | (with_reducible refine le_drewN _ ?_) | (with_reducible refine Below.setCell ?_ ?_ _) | (with_reducible exact Nat.le_refl _) | (with_reducible refine le_ext _ ?_) | (with_reducible refine le_alloc _ ?_) | (with_reducible refine le_setCell _ _ ?_) | (with_reducible refine le_drew ?_) | omega | (simp; done) | (simp; omega))))).drew (Drew.of_but (p := p') hb3 hr3) lg
  have BF := (Below.alloc B2 B2.size _).trans (hb3.below hg)
  have OFH := hide (OF.base B1.size)
  clear OF hb3 hr3 hlg
  go_wp2_with fail
  go_ret2
  exact ⟨_, ps, z, rfl, OFH.out, by omega, BF⟩
end Go.Proofs.Ytgeilljbmjajnaa
