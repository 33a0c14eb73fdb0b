
/- Drawn sites: spec.anySites, spec.DrawSweepTriangles. -/
import Derived.Test.YtcebmcbglhkkfaaDrawK
import Derived.Test.YtcebmcbglhkkfaaSHull
set_option linter.unusedVariables false
set_option linter.unusedSimpArgs false
namespace Go.Proofs.Ytcebmcbglhkkfaa
open Go.RowKit

set_option maxHeartbeats 2000000 in
theorem anySites_any (B nb c g p : Nat) (A : Option Addr) (w : World) (hp : p ≤ 600000) (hnb : nb ≤ 2000) (hr : Rd w B A nb c g p) :
    Calls Try.prog 25 #[.pointer (some ⟨g, 0, none⟩)] w fun e w' => ∃ v ps p', e = .returned v ∧ OwnP w' w.heap.size v ps ∧ ps.length ≤ 21 ∧ p' ≤ p + 200 ∧ Drew w w' B A nb c g p p' := by
  have lg := hr.lt
  have hBg := hr.le
  go_enter Try.func25, Try.ntmps25
  go_wp2_with fail
  refine (randomPoints_any 9 B nb c g p A _ (by omega) (by omega) hnb hr).mono ?_
  rintro e w1 ⟨v1, qs, p1, rfl, hown, hlen, _, hp1, hD⟩
  obtain ⟨A1, n1, c1, rfl⟩ := hown.slice
  obtain ⟨l1, _, _, s1⟩ := hown.pts
  have z1 := hD.size
  clear hown hr
  go_wp2_with fail
  refine (ssorted_any qs A1 n1 c1 w1 l1 (by omega) s1).mono ?_
  rintro e w2 ⟨v2, rfl, hown, hx⟩
  have D2 := ext_bel hx
  obtain ⟨A2, n2, c2, rfl⟩ := hown.slice
  have l2 := hown.pts.1
  have sl := sortP_len qs
  have HD2 := hide (hD.then D2)
  have HO2 := hide (hown.base z1)
  have rd2 := HD2.out.rd
  have z2 := HD2.out.size
  have n9 : n2 ≤ 20 := by omega
  have HL2 := hide l2
  clear hown hx s1 D2 hD l1 l2 sl
  generalize sortP qs = ps at *
  by_cases h1 : 1 < n2
  · have d1 : decide ((1 : Int) < (n2 : Int)) = true := decide_eq_true (by omega)
    go_wp2_with fail
    refine (pick_any 14 B nb c g p1 A _ (by omega) (by omega) (by omega) hnb rd2).mono ?_
    rintro e w3 ⟨x, rfl, hx3, hb3, hr3⟩
    have HO3 := hide (HO2.out.drew (Drew.of_but (p := p1) hb3 hr3) lg)
    have HD3 := hide (HD2.out.trans (Drew.of_but (p := p1) hb3 hr3))
    clear hb3 HO2 HD2 rd2
    by_cases hx0 : x = 0
    · have e0 : ((x : Int) == 0) = true := by rw [beq_iff_eq]; omega
      obtain ⟨gb, rfl, hgb, hgl, hfr, hcs⟩ := HO3.out.head (by omega)
      obtain ⟨k0, k1⟩ := hcs 1 h1
      obtain ⟨m0, m1⟩ := hcs 0 (by omega)
      have f0 := hfr 0
      have f1 := hfr 1
      have HOF := hide (HO3.out.set (show 0 < n2 by omega) (pX ps 1) (pY ps 1))
      have HDF := hide ((HD3.out.set lg (by omega) (q := ⟨gb, 0, none⟩) hgb (.int .i64 (pX ps 1))).set lg (by omega) (q := ⟨gb, 1, none⟩) hgb (.int .i64 (pY ps 1)))
      simp only [Nat.zero_mul, Nat.one_mul, Nat.zero_add] at k0 k1 m0 m1 HOF
      have q1 : (0 : Int) < (n2 : Int) := by omega
      have q2 : 0 < n2 := by omega
      clear hfr hcs hr3 hx0
      go_wp2
      go_ret
      exact ⟨_, ps.set 0 ⟨pX ps 1, pY ps 1⟩, p1 + 1, rfl, HOF.out, by rw [List.length_set]; have := HL2.out; omega, by omega, HDF.out⟩
    · have e0 : ((x : Int) == 0) = false := by rw [beq_eq_false_iff_ne]; omega
      clear hx0
      go_wp2
      go_ret
      exact ⟨_, ps, p1 + 1, rfl, HO3.out, by have := HL2.out; omega, by omega, HD3.out⟩
  · have d1 : decide ((1 : Int) < (n2 : Int)) = false := decide_eq_false (by omega)
    go_wp2
    go_ret
    exact ⟨_, ps, p1, rfl, HO2.out, by have := HL2.out; omega, by omega, HD2.out⟩
set_option maxHeartbeats 2000000 in
theorem drawSwp_any (n c : Nat) (A : Option Addr) (w : World) (hn : n ≤ c) (hc : c ≤ 9223372036854775807) (hA : BytesAt w w.heap.size A n) :
    Calls Try.prog 6 #[.slice A n c] w fun e w' => ∃ v ps, e = .returned v ∧ OwnP w' w.heap.size v ps ∧ ps.length ≤ 21 ∧ Below w.heap.size w w' := by
  go_enter Try.func6, Try.ntmps6
  go_wp2_with fail
  refine (newReader_any n c A _ hn hc hA).mono ?_
  rintro e w1 ⟨g, nb, rfl, hg, hnb, hr, hx⟩
  have D1 := ext_bel hx
  have lg := hr.lt
  have s1 : w.heap.size ≤ w1.heap.size := D1.size
  clear hx
  go_wp2_with fail
  refine (anySites_any _ nb _ g 0 A _ (by omega) hnb hr).mono ?_
  rintro e w2 ⟨v, ps, p', rfl, hown, hlen, hp', hD⟩
  have B2 : Below w.heap.size w w2 := D1.trans (hD.below (by omega) (by omega))
  clear hD hr
  go_wp2_with fail
  go_ret
  exact ⟨v, ps, rfl, hown.base s1, hlen, B2⟩
end Go.Proofs.Ytcebmcbglhkkfaa
