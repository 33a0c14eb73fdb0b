
/- laws.FnPointsRoundTrip, laws.FnPointsCanonical return true. -/
import Derived.Test.YtlggmjofglmjcaaDoorLDecL
import Derived.Test.YtlggmjofglmjcaaDoorDrawK
import Derived.Test.YtlggmjofglmjcaaDoorMut
import Derived.Test.YtlggmjofglmjcaaDoorHlp2
set_option linter.unusedVariables false
set_option linter.unusedSimpArgs false
namespace Go.Proofs.YtlggmjofglmjcaaDoor
open Go.RowKit

theorem encE_len (ps : List Pt) : (encE ps).length ≤ 880 := by
  unfold encE
  split
  · rename_i h
    have h1 := listOk_1 h
    have h2 := encL_len h1.2
    omega
  · simp
set_option maxHeartbeats 2000000 in
theorem drawEncL_any (n c : Nat) (A : Option Addr) (w : World) (hn : n ≤ c) (hc : c ≤ 9223372036854775807) (hA : BytesAt w w.heap.size A n) :
    Calls Tryd.prog 24 #[.slice A n c] w fun e w' => ∃ v ps, e = .returned v ∧ OwnP w' w.heap.size v ps ∧ ps.length ≤ 21 ∧ Below w.heap.size w w' := by
  go_enter Tryd.func24, Tryd.ntmps24
  go_wp2_with fail
  refine (newReader_any n c A _ hn hc hA).mono ?_
  rintro e w1 ⟨g, nb, rfl, hg, hnb, hr, hx⟩
  have D1 := ext_bel hx
  have lg := hr.lt
  have s1 : w.heap.size ≤ w1.heap.size := D1.size
  clear hx
  go_wp2_with fail
  refine (anyPoints_any 5 _ nb _ g 0 A _ (by omega) (by omega) hnb hr).mono ?_
  rintro e w2 ⟨v, ps, p', rfl, hown, hlen, _, hp', hD⟩
  have B2 : Below w.heap.size w w2 := D1.trans (hD.below (by omega) (by omega))
  clear hD hr
  go_wp2_with fail
  go_ret
  exact ⟨v, ps, rfl, hown.base s1, hlen, B2⟩
set_option maxHeartbeats 2000000 in
theorem drawDecL_any (n c : Nat) (A : Option Addr) (w : World) (hn : n ≤ c) (hc : c ≤ 9223372036854775807) (hA : BytesAt w w.heap.size A n) :
    Calls Tryd.prog 30 #[.slice A n c] w fun e w' => ∃ y : List UInt8, e = .returned (.string (bS y)) ∧ y.length ≤ 1000 ∧ Below w.heap.size w w' := by
  go_enter Tryd.func30, Tryd.ntmps30
  go_wp2_with fail
  refine (newReader_any n c A _ hn hc hA).mono ?_
  rintro e w1 ⟨g, nb, rfl, hg, hnb, hr, hx⟩
  have D1 := ext_bel hx
  have lg := hr.lt
  have s1 : w.heap.size ≤ w1.heap.size := D1.size
  clear hx
  go_wp2_with fail
  refine (anyPoints_any 4 _ nb _ g 0 A _ (by omega) (by omega) hnb hr).mono ?_
  rintro e w2 ⟨v, ps, p', rfl, hown, hlen, _, hp', hD⟩
  have B2 : Below w.heap.size w w2 := D1.trans (hD.below (by omega) (by omega))
  have s2 := hD.size
  obtain ⟨A2, n2, c2, rfl⟩ := hown.slice
  obtain ⟨l2, _, _, p2⟩ := hown.pts
  have hr2 := hD.rd
  have hln := encE_len ps
  clear hD hr hown
  go_wp2_with fail
  refine (sEncL_any ps A2 n2 c2 w2 l2 (by omega) p2).mono ?_
  rintro e w3 ⟨rfl, hx⟩
  have D3 := ext_bel hx
  have B3 : Below w.heap.size w w3 := B2.trans (D3.mono (by omega))
  have hr3 := hr2.to D3
  have s3 := D3.size
  clear hx hr2 p2 l2
  generalize encE ps = l at *
  go_wp2_with fail
  refine (pick_any 2 _ nb _ g p' A _ (by omega) (by omega) (by omega) hnb hr3).mono ?_
  rintro e w4 ⟨x, rfl, hv, hb4, hr4⟩
  have B4 : Below w.heap.size w w4 := B3.trans (hb4.below (B := w.heap.size) (by omega))
  have MU := hide (mutate_any l _ nb _ g (p' + 1) A w4 (by omega) (by omega) hnb hr4)
  have gl := hr4.lt
  have z4 := B4.size
  clear hb4 hr4 hr3
  by_cases h0 : x = 0
  · subst h0
    go_wp2_with fail
    go_ret
    exact ⟨l, rfl, by omega, B4⟩
  · have hd0 : ((x : Int) == 0) = false := by rw [beq_eq_false_iff_ne]; omega
    go_wp2_with fail
    refine (MU.out).mono ?_
    rintro e w6 ⟨y', p6, rfl, hy, hp6, D6⟩
    have B6 := B4.trans (D6.below (by omega) (by omega))
    clear D6 MU
    go_wp2_with fail
    go_ret
    exact ⟨y', rfl, by omega, B6⟩
set_option maxHeartbeats 4000000 in
theorem lawRtrL (n c : Nat) (A : Option Addr) (w : World) (hn : n ≤ c) (hc : c ≤ 9223372036854775807) (hA : BytesAt w w.heap.size A n) (ht : Tab w) (hE : Errs w) (hM : MaxL w) :
    Calls Tryd.prog 8 #[.slice A n c] w fun e w' => e = .returned (.bool true) ∧ Below w.heap.size w w' := by
  by_cases hl : n ≤ 1048576
  · go_enter Tryd.func8, Tryd.ntmps8
    go_wp2_with fail
    refine (drawEncL_any n c A _ hn hc hA).mono ?_
    rintro e w1 ⟨v1, ps, rfl, hown, hlen, B1⟩
    obtain ⟨A1, n1, c1, rfl⟩ := hown.slice
    obtain ⟨l1, _, _, p1⟩ := hown.pts
    have SE := hide (fun (W : World) (hb : Below w1.heap.size w1 W) => sEncL_any ps A1 n1 c1 W l1 (by omega) (p1.to hb))
    have IE := hide (fun (W : World) (hb : Below w1.heap.size w1 W) => iEncL_any ps A1 n1 c1 W l1 (by omega) (p1.to hb) (ht.to (B1.trans (hb.mono B1.size))))
    have hln := encE_len ps
    have ID := hide (fun (W : World) (hb : Below w1.heap.size w1 W) => have k := B1.trans (hb.mono B1.size); iDecL_any (encE ps) W (by omega) (ht.to k) (hE.to k) (hM.to k))
    have EP := hide (fun (A' : Option Addr) (n' c' : Nat) (W : World) (hb : Below w1.heap.size w1 W) (l' : ps.length = n') (p' : PtsAt W W.heap.size A' ps) => equalPoints_any ps ps A' A1 n' c' n1 c1 W l' l1 (by omega) (by omega) p' (p1.to hb))
    have ES : ((bS (encE ps)).toList == (bS (encE ps)).toList) = true := by rw [bS_ne]; simp
    have d0 : decide (ps = ps) = true := by simp
    clear ht hE hM hA hown
    by_cases hv : encE ps = []
    · have e1 : (⟨#[]⟩ : ByteArray).toList.isEmpty = true := by rw [ByteArray.toList_eq]; rfl
      rw [hv, bS_nil] at IE SE
      clear hv ES ID hln EP
      go_wp2_with fail
      refine (IE.out _ (Below.refl _ _)).mono ?_
      rintro e w2 ⟨rfl, hx⟩
      have F2 := ext_bel hx
      clear hx
      go_wp2_with fail
      refine (SE.out _ F2).mono ?_
      rintro e w3 ⟨rfl, hx⟩
      have F3 := F2.trans ((ext_bel hx).mono F2.size)
      clear hx
      go_wp2_with fail
      refine (SE.out _ F3).mono ?_
      rintro e w4 ⟨rfl, hx⟩
      have F4 := F3.trans ((ext_bel hx).mono F3.size)
      clear hx
      go_wp2_with fail
      go_ret
      exact ⟨rfl, B1.trans (F4.mono B1.size)⟩
    · have e0 : (bS (encE ps)).toList.isEmpty = false := by
        rw [ByteArray.toList_eq, bS_list]
        cases h : encE ps with
        | nil => exact absurd h hv
        | cons a r => rfl
      rw [dec_enc hv] at ID
      clear hv hln
      generalize bS (encE ps) = S at *
      go_wp2_with fail
      refine (IE.out _ (Below.refl _ _)).mono ?_
      rintro e w2 ⟨rfl, hx⟩
      have F2 := ext_bel hx
      clear hx
      go_wp2_with fail
      refine (SE.out _ F2).mono ?_
      rintro e w3 ⟨rfl, hx⟩
      have F3 := F2.trans ((ext_bel hx).mono F2.size)
      clear hx
      go_wp2_with fail
      refine (ID.out _ F3).mono ?_
      rintro e w4 ⟨A4, n4, c4, rfl, l4, q4, qb4, pr4, hx⟩
      have F4 := F3.trans ((ext_bel hx).mono F3.size)
      clear hx
      go_wp2_with fail
      refine (EP.out _ _ _ _ F4 l4 pr4.pts).mono ?_
      rintro e w5 ⟨rfl, hx⟩
      have F5 := F4.trans ((ext_bel hx).mono F4.size)
      clear hx
      go_wp2_with fail
      go_ret
      exact ⟨rfl, B1.trans (F5.mono B1.size)⟩
  · have d0 : 1048576 < n := by omega
    go_enter Tryd.func8, Tryd.ntmps8
    go_wp2_with fail
    go_ret
    exact ⟨rfl, (by (repeat' (first | (with_reducible first | exact Below.refl _ _ | assumption | refine below_ext _ ?_ ?_ | refine Below.alloc ?_ ?_ _ | refine Below.drew ?_ | refine below_drewN ?_ _ | refine le_drewN _ ?_ | refine Below.setCell ?_ ?_ _ | exact Nat.le_refl _ | refine le_ext _ ?_ | refine le_alloc _ ?_ | refine le_setCell _ _ ?_ | refine le_drew ?_) | omega | (simp; done) | (simp; omega))))⟩
set_option maxHeartbeats 4000000 in
theorem lawCnL (n c : Nat) (A : Option Addr) (w : World) (hn : n ≤ c) (hc : c ≤ 9223372036854775807) (hA : BytesAt w w.heap.size A n) (ht : Tab w) (hE : Errs w) (hM : MaxL w) :
    Calls Tryd.prog 10 #[.slice A n c] w fun e w' => e = .returned (.bool true) ∧ Below w.heap.size w w' := by
  by_cases hl : n ≤ 1048576
  · go_enter Tryd.func10, Tryd.ntmps10
    go_wp2_with fail
    refine (drawDecL_any n c A _ hn hc hA).mono ?_
    rintro e w1 ⟨l, rfl, hlen, B1⟩
    have SD := hide (fun W => sDecL_any l W (by omega))
    have ID := hide (fun (W : World) (hb : Below w1.heap.size w1 W) => have k := B1.trans (hb.mono B1.size); iDecL_any l W (by omega) (ht.to k) (hE.to k) (hM.to k))
    have LR := decL_len l
    have TB := hide (fun (W : World) (hb : Below w1.heap.size w1 W) => ht.to (B1.trans (hb.mono B1.size)))
    have CN := hide (@enc_dec l)
    have EQ := bS_ne l l
    rw [decide_eq_true rfl] at EQ
    clear ht hE hM hA
    generalize (decL l).1 = R at *
    generalize (decL l).2 = V at *
    have d0 : decide (R = R) = true := by simp
    go_wp2_with fail
    refine (ID.out _ (Below.refl _ _)).mono ?_
    rintro e w2 ⟨A2, n2, c2, rfl, l2, q2, qb2, pr2, hx⟩
    have F2 := ext_bel hx
    clear hx
    go_wp2_with fail
    refine (SD.out _).mono ?_
    rintro e w3 ⟨v3, rfl, own3, hx⟩
    have D3 := ext_bel hx
    have F3 := F2.trans (D3.mono F2.size)
    obtain ⟨A3, n3, c3, rfl⟩ := own3.slice
    obtain ⟨l3, _, _, p3⟩ := own3.pts
    have p2 := pr2.pts.to D3
    clear hx own3 pr2 SD ID
    go_wp2_with fail
    refine (equalPoints_any R R _ _ _ _ _ _ _ l2 l3 (by omega) (by omega) p2 p3).mono ?_
    rintro e w4 ⟨rfl, hx⟩
    have D4 := ext_bel hx
    have F4 := F3.trans (D4.mono F3.size)
    have p24 := p2.to D4
    have p34 := p3.to D4
    clear hx p2 p3
    cases V with
    | false =>
      go_wp2_with fail
      refine (equalPoints_any R R _ _ _ _ _ _ _ l2 l3 (by omega) (by omega) p24 p34).mono ?_
      rintro e w5 ⟨rfl, hx⟩
      have F5 := F4.trans ((ext_bel hx).mono F4.size)
      clear hx
      go_wp2_with fail
      go_ret
      exact ⟨rfl, B1.trans (F5.mono B1.size)⟩
    | true =>
      have IE := hide (iEncL_any R A2 n2 c2 w4 l2 (by omega) p24 (TB.out _ F4))
      rw [(CN.out rfl).1] at IE
      have n0 : 0 < n2 := by
        have := (CN.out rfl).2
        cases R with
        | nil => exact absurd rfl this
        | cons a r => rw [← l2]; simp
      clear CN TB
      go_wp2_with fail
      refine IE.out.mono ?_
      rintro e w5 ⟨rfl, hx⟩
      have F5 := F4.trans ((ext_bel hx).mono F4.size)
      clear hx
      go_wp2_with fail
      go_ret
      exact ⟨rfl, B1.trans (F5.mono B1.size)⟩
  · have d0 : 1048576 < n := by omega
    go_enter Tryd.func10, Tryd.ntmps10
    go_wp2_with fail
    go_ret
    exact ⟨rfl, (by (repeat' (first | (with_reducible first | exact Below.refl _ _ | assumption | refine below_ext _ ?_ ?_ | refine Below.alloc ?_ ?_ _ | refine Below.drew ?_ | refine below_drewN ?_ _ | refine le_drewN _ ?_ | refine Below.setCell ?_ ?_ _ | exact Nat.le_refl _ | refine le_ext _ ?_ | refine le_alloc _ ?_ | refine le_setCell _ _ ?_ | refine le_drew ?_) | omega | (simp; done) | (simp; omega))))⟩
end Go.Proofs.YtlggmjofglmjcaaDoor
