
/- DrawLatticeInside. -/
import Derived.Test.YtcebmcbglhkkfaaDrawA
set_option linter.unusedVariables false
set_option linter.unusedSimpArgs false
namespace Go.Proofs.Ytcebmcbglhkkfaa
open Go.RowKit

set_option maxRecDepth 20000 in
set_option maxHeartbeats 1000000 in
theorem drawLat_any (n c : Nat) (A : Option Addr) (w : World) (hn : n ≤ c) (hc : c ≤ 9223372036854775807) (hA : BytesAt w w.heap.size A n) :
    Calls Try.prog 12 #[.slice A n c] w fun e w' => ∃ v ps, e = .returned v ∧ OwnP w' w.heap.size v ps ∧ ps.length ≤ 9 ∧ CB 1001 ps ∧ Below w.heap.size w w' := by
  go_enter Try.func12, Try.ntmps12
  go_wp2_with fail
  refine (newReader_any n c A _ hn hc hA).mono ?_
  rintro e w1 ⟨g, nb, rfl, hg, hnb, hr, hx⟩
  have B1 := ext_bel hx
  have lg := hr.lt
  clear hx
  go_wp2_with fail
  refine (anyPolygon_any _ nb _ g 0 A _ (by omega) hnb hr).mono ?_
  rintro e w2 ⟨v, ps, p2, rfl, hown2, hlen, hcb, hp2, D2⟩
  obtain ⟨A2, n2, c2, rfl⟩ := hown2.slice
  have L2 := hide hown2.pts.1
  have O2 := hide hown2
  have DD2 := hide D2
  clear hr hown2 D2
  by_cases h0 : n2 = 0
  · have d0 : decide ((0 : Int) < (n2 : Int)) = false := decide_eq_false (by omega)
    have z0 : ¬ 0 < n2 := by omega
    have BF := hide (B1.trans (DD2.out.below hg B1.size))
    have OF := hide (O2.out.base B1.size)
    clear h0
    go_wp2_with fail
    go_ret
    exact ⟨_, ps, rfl, OF.out, hlen, hcb, BF.out⟩
  · have d0 : decide ((0 : Int) < (n2 : Int)) = true := decide_eq_true (by omega)
    have z0 : 0 < n2 := by omega
    obtain ⟨gb, hA2, hgb, hgs, _, _⟩ := O2.out.head z0
    subst hA2
    clear h0
    go_wp2_with fail
    refine (pick_any 10 _ nb _ g p2 A _ (by omega) (by omega) (by omega) hnb DD2.out.rd).mono ?_
    rintro e w3 ⟨v3, rfl, hv3, hb3, hr3⟩
    have D3 := hide (DD2.out.trans (Drew.of_but (p := p2) hb3 hr3))
    have O3 := hide (O2.out.drew (Drew.of_but (p := p2) hb3 hr3) lg)
    clear hb3 hr3
    by_cases h3 : v3 = 0
    · have t3 : ((v3 : Int) == 0) = true := by rw [h3]; rfl
      obtain ⟨gb', hA3, _, _, hfr, hcs⟩ := O3.out.head z0
      injection hA3 with hA3; injection hA3 with hA3 _ _
      subst hA3
      have c0 := (hcs 0 z0).1
      rw [Nat.zero_mul] at c0
      have f0 := hfr 0
      have q2 : (0 : Int) < (n2 : Int) := by omega
      have BF : Hid (Below w.heap.size w (w3.setCell ⟨gb, 0, none⟩ (.int .i64 900))) := hide ((B1.trans (D3.out.below hg B1.size)).trans ((Below.refl _ _).setCell (show w.heap.size ≤ gb by have := B1.size; omega) _))
      have OF : Hid (OwnP (w3.setCell ⟨gb, 0, none⟩ (.int .i64 900)) w.heap.size (.slice (some ⟨gb, 0, none⟩) n2 c2) (ps.set 0 ⟨900, pY ps 0⟩)) := hide (by have := (O3.out.setX 0 900).base B1.size; rwa [Nat.zero_mul] at this)
      have CF := hcb.set (i := 0) (x := 900) (y := pY ps 0) (by omega) (hcb _ (gp_mem (by rw [L2.out]; exact z0))).2
      have LF : (ps.set 0 ⟨900, pY ps 0⟩).length ≤ 9 := by rw [List.length_set]; exact hlen
      clear h3 hcs hfr
      go_wp2_with fail
      go_ret
      exact ⟨_, _, rfl, OF.out, LF, CF, BF.out⟩
    · have t3 : ((v3 : Int) == 0) = false := by rw [beq_eq_false_iff_ne]; omega
      have BF := hide (B1.trans (D3.out.below hg B1.size))
      have OF := hide (O3.out.base B1.size)
      clear h3
      go_wp2_with fail
      go_ret
      exact ⟨_, ps, rfl, OF.out, hlen, hcb, BF.out⟩
end Go.Proofs.Ytcebmcbglhkkfaa
