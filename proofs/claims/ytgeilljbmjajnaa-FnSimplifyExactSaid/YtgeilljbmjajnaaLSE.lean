

/- FnSimplifyExact: the law's walk. -/
import Derived.Test.YtgeilljbmjajnaaLSP
set_option linter.unusedVariables false
set_option linter.unusedSimpArgs false
namespace Go.Proofs.Ytgeilljbmjajnaa
open Go.RowKit

theorem exact_bd {ps : List Pt} (h1 : pathOk ps = true) {j : Nat} (hj : j < (simplifyOf ps 0).length) : 0 ≤ gi (simplifyOf ps 0) j ∧ gi (simplifyOf ps 0) j ≤ (ps.length : Int) - 1 := by
  obtain ⟨k1, k2, k3, k4, k5, k6⟩ := check_parts (check_simplify h1 (inB_iff.2 (show (0 : Int) ≤ 0 ∧ (0 : Int) ≤ 8000000 by omega)))
  exact step_bd k4 (by have := pathOk_len h1; omega) _ k6 j hj
theorem exact_ends {ps : List Pt} (h1 : pathOk ps = true) : 2 ≤ (simplifyOf ps 0).length ∧ gi (simplifyOf ps 0) 0 = 0 ∧ gi (simplifyOf ps 0) ((simplifyOf ps 0).length - 1) = ps.length - 1 := by
  obtain ⟨k1, k2, k3, k4, k5, k6⟩ := check_parts (check_simplify h1 (inB_iff.2 (show (0 : Int) ≤ 0 ∧ (0 : Int) ≤ 8000000 by omega)))
  exact ⟨k3, k4, k5⟩
theorem gi_mem {zs : List Int} {j : Nat} (h : j < zs.length) : gi zs j ∈ zs := by rw [gi_lt h]; exact List.getElem_mem _
/-- What the law asks at point i. -/
theorem exact_ok {ps : List Pt} (h1 : pathOk ps = true) {a i f t : Nat} (ha : a + 1 < (simplifyOf ps 0).length) (hi : i < ps.length) (hinv : a + 1 = 1 ∨ gi (simplifyOf ps 0) a < i) (hge : (i : Int) ≤ gi (simplifyOf ps 0) (a + 1))
    (hf : gi (simplifyOf ps 0) a = (f : Nat)) (ht : gi (simplifyOf ps 0) (a + 1) = (t : Nat)) (hne : ¬ (pX ps f = pX ps t ∧ pY ps f = pY ps t)) (hin : ¬ (i : Int) ∈ simplifyOf ps 0) :
    onSegOk (pX ps f) (pY ps f) (pX ps t) (pY ps t) (pX ps i) (pY ps i) = true := by
  have hall := listOk_all (pathOk_list h1)
  have b1 := exact_bd h1 (j := a) (by omega)
  have b2 := exact_bd h1 ha
  have e0 := exact_ends h1
  have m1 : (i : Int) ≠ gi (simplifyOf ps 0) a := fun e => hin (by rw [e]; exact gi_mem (by omega))
  have m2 : (i : Int) ≠ gi (simplifyOf ps 0) (a + 1) := fun e => hin (by rw [e]; exact gi_mem ha)
  have h3 : gi (simplifyOf ps 0) a < i := by
    rcases hinv with h | h
    · have : a = 0 := by omega
      subst this
      rw [e0.2.1] at m1 ⊢
      omega
    · exact h
  have hne' : gp ps f ≠ gp ps t := fun e => hne (by unfold pX pY; rw [e]; exact ⟨rfl, rfl⟩)
  have key := exact_on h1 ha (by omega) (i := i) (by simpa using h3) (by omega)
  rw [Nat.add_sub_cancel, hf, ht, Int.toNat_natCast, Int.toNat_natCast] at key
  unfold onSegOk segOk
  have v1 : vP (pX ps f) (pY ps f) = true := vP_iff.2 (allOk_at hall (by omega))
  have v2 : vP (pX ps t) (pY ps t) = true := vP_iff.2 (allOk_at hall (by omega))
  have v3 : vP (pX ps i) (pY ps i) = true := vP_iff.2 (allOk_at hall hi)
  have v4 : onSeg ⟨pX ps f, pY ps f⟩ ⟨pX ps t, pY ps t⟩ ⟨pX ps i, pY ps i⟩ = true := key hne'
  rw [v1, v2, v3, v4]
  simp only [Bool.true_and, Bool.and_true, Bool.not_eq_true', Bool.and_eq_false_iff, decide_eq_false_iff_not]
  by_cases hx : pX ps f = pX ps t
  · exact .inr fun hy => hne ⟨hx, hy⟩
  · exact .inl hx
set_option maxHeartbeats 4000000 in
theorem lawSE (n c : Nat) (A : Option Addr) (w : World) (hn : n ≤ c) (hc : c ≤ 9223372036854775807) (hA : BytesAt w w.heap.size A n) :
    Calls Try.prog 7 #[.slice A n c] w fun e w' => e = .returned (.bool true) ∧ Below w.heap.size w w' := by
  by_cases hle : n ≤ 1048576
  · have hd : decide ((1048576 : Int) < (n : Int)) = false := decide_eq_false (by omega)
    go_enter Try.func7, Try.ntmps7
    go_wp2_with fail
    refine (drawSimplify_any n c A _ hn hc hA).mono ?_
    rintro e w1 ⟨v, ps, most, rfl, hown, hlen, B1⟩
    obtain ⟨A1, n1, c1, rfl⟩ := hown.slice
    obtain ⟨l1, l2, l3, hp1⟩ := hown.pts
    have hlz := simplifyOf_len ps most
    clear hown
    go_wp2_with fail
    refine (iSimplify_any ps most A1 n1 c1 _ l1 (by omega) hp1).mono ?_
    rintro e w2 ⟨A3, n3, c3, rfl, hz3, hnc3, hcm3, hr3, hx3⟩
    have D2 := ext_bel hx3
    have B2 := B1.trans (D2.mono B1.size)
    clear hx3
    go_wp2_with fail
    refine (sSimplify_any ps most A1 n1 c1 _ l1 (by omega) (hp1.to D2)).mono ?_
    rintro e w3 ⟨v4, rfl, hown4, hx4⟩
    have D3 := ext_bel hx4
    have B3 := B2.trans (D3.mono B2.size)
    obtain ⟨A4, n4, c4, rfl⟩ := own_slice hown4
    obtain ⟨hz4, hnc4, hcm4, hi4⟩ := hown4.ints
    have hr4 := hr3.below D3
    clear hx4 hown4 hr3
    go_wp2_with fail
    refine (equalInts_any (simplifyOf ps most) (simplifyOf ps most) _ _ _ _ _ _ _ hz3 hz4 (by omega) (by omega) hr4.ints hi4).mono ?_
    rintro e w4 ⟨rfl, hx5⟩
    have D4 := ext_bel hx5
    have B4 := B3.trans (D4.mono B3.size)
    have hr5 := hr4.below D4
    have hp4 := ((hp1.to D2).to D3).to D4
    clear hx5 hr4 hi4
    by_cases h0 : n3 = 0
    · have hd0 : ((n3 : Int) == 0) = true := by rw [beq_iff_eq]; omega
      clear h0
      go_wp2_with fail
      refine (sSimplify_any ps most A1 n1 c1 _ l1 (by omega) hp4).mono ?_
      rintro e w5 ⟨v6, rfl, hown6, hx6⟩
      have D5 := ext_bel hx6
      have B5 := B4.trans (D5.mono B4.size)
      obtain ⟨A6, n6, c6, rfl⟩ := own_slice hown6
      obtain ⟨hz6, hnc6, hcm6, hi6⟩ := hown6.ints
      have hr6 := hr5.below D5
      clear hx6 hown6 hr5
      go_wp2_with fail
      refine (equalInts_any (simplifyOf ps most) (simplifyOf ps most) _ _ _ _ _ _ _ hz3 hz6 (by omega) (by omega) hr6.ints hi6).mono ?_
      rintro e w6 ⟨rfl, hx7⟩
      have D6 := ext_bel hx7
      have B6 := B5.trans (D6.mono B5.size)
      clear hx7 hr6 hi6
      go_wp2_with fail
      go_ret
      exact ⟨by simp, B6⟩
    · have hd0 : ((n3 : Int) == 0) = false := by rw [beq_eq_false_iff_ne]; omega
      obtain ⟨k1, k2⟩ := simplify_ne (ps := ps) (most := most) (by intro h; rw [h] at hz3; simp at hz3; omega)
      have K := hide k1
      have hp := pathOk_len k1
      have he2 := (exact_ends k1).1
      clear k1 k2
      go_wp2_with fail
      refine (iSimplify_any ps 0 A1 n1 c1 _ l1 (by omega) hp4).mono ?_
      rintro e w5 ⟨A6, n6, c6, rfl, hz6, hnc6, hcm6, hr6, hx6⟩
      have D5 := ext_bel hx6
      have B5 := B4.trans (D5.mono B4.size)
      have hp5 := hp4.to D5
      have s5 := B5.size
      have hi6 := hr6.ints
      rw [hz6] at he2
      have hdz : decide ((n6 : Int) < 2) = false := decide_eq_false (by omega)
      clear hx6 hr5 hr6 hp1 hp4
      have hn20 : n1 ≤ 20 := by omega
      have L1 := hide l1
      have Z6 := hide hz6
      have hz6l : n6 ≤ 2000000 := by have := simplifyOf_len ps 0; omega
      clear hz6 hz3 hz4
      obtain ⟨b6, o6, rfl, hb6, hc6⟩ := hi6 (by rw [Z6.out]; omega)
      obtain ⟨b1, o1, rfl, hb1, hc1⟩ := hp5 (by omega)
      have HC6 := hide hc6
      have HC1 := hide hc1
      have HP5 := hide hp5
      have HI6 := hide hi6
      clear hc6 hc1 hp5 hi6 l1
      go_wp2_with fail
      go_loopw [7, 8] (fun u7 u8 wr => ∃ a i : Nat, 1 ≤ a ∧ a < n6 ∧ i ≤ n1 ∧ u7 = .int .i64 a ∧ u8 = .int .i64 i ∧ Hid (a = 1 ∨ gi (simplifyOf ps 0) (a - 1) < i) ∧ ∃ x, wr = ext w5 x) (fun _ u8 _ => n1 - (intOf u8).toNat)
      case atStart => exact ⟨1, 0, by omega, by omega, by omega, rfl, rfl, .inl rfl, ext_same _⟩
      case round =>
        obtain ⟨a0, i, ha1, ha2, hi, rfl, rfl, hinv, x, rfl⟩ := hrel
        have hsz := ext_size w5 x
        by_cases hlt : i < n1
        · go_wp2_with fail
          go_loop [7] (fun u7 => ∃ a : Nat, 1 ≤ a ∧ a < n6 ∧ u7 = .int .i64 a ∧ Hid (a = 1 ∨ gi (simplifyOf ps 0) (a - 1) < i)) (fun u7 => n6 - (intOf u7).toNat)
          case atStart => exact ⟨a0, ha1, ha2, rfl, hinv⟩
          case round =>
            obtain ⟨a, hb1', hb2, rfl, hinv2⟩ := hrel
            have x1 := HC6.out a (by rw [Z6.out]; omega)
            by_cases h1 : a + 1 < n6 ∧ gi (simplifyOf ps 0) a < i
            · obtain ⟨h1, h2⟩ := h1
              go_wp2
              exact ⟨⟨a + 1, by omega, by omega, by go_num, .inr (by simpa using h2)⟩, by simp [intOf]; omega⟩
            · have hge : (i : Int) ≤ gi (simplifyOf ps 0) a := by
                have e0 := exact_ends K.out
                rw [Z6.out, L1.out] at e0
                by_cases h2 : a + 1 < n6
                · have : ¬ gi (simplifyOf ps 0) a < i := fun h => h1 ⟨h2, h⟩
                  omega
                · rw [show a = n6 - 1 from by omega, e0.2.2]; omega
              obtain ⟨m, rfl⟩ : ∃ m, a = m + 1 := ⟨a - 1, by omega⟩
              have x0 := HC6.out m (by rw [Z6.out]; omega)
              have bd0 := exact_bd K.out (j := m) (by rw [Z6.out]; omega)
              have bd1 := exact_bd K.out (j := m + 1) (by rw [Z6.out]; omega)
              obtain ⟨f, hf⟩ : ∃ f : Nat, gi (simplifyOf ps 0) m = f := ⟨_, (Int.toNat_of_nonneg bd0.1).symm⟩
              obtain ⟨t, ht⟩ : ∃ t : Nat, gi (simplifyOf ps 0) (m + 1) = t := ⟨_, (Int.toNat_of_nonneg bd1.1).symm⟩
              rw [hf] at x0 bd0
              rw [ht] at x1 bd1
              rw [L1.out] at bd0 bd1
              have EO := hide (fun hne hin => exact_ok K.out (a := m) (i := i) (f := f) (t := t) (by rw [Z6.out]; omega) (by rw [L1.out]; omega) (by have := hinv2.out; simpa using this) hge hf ht hne hin)
              rw [ht] at h1 hge
              obtain ⟨px0, py0⟩ := HC1.out f (by rw [L1.out]; omega)
              obtain ⟨px1, py1⟩ := HC1.out t (by rw [L1.out]; omega)
              obtain ⟨px2, py2⟩ := HC1.out i (by rw [L1.out]; omega)
              have q1 : (f : Int) < (n1 : Int) := by omega
              have q2 : (t : Int) < (n1 : Int) := by omega
              have q3 : (i : Int) < (n1 : Int) := by omega
              have NEXT : Hid (m + 1 = 1 ∨ gi (simplifyOf ps 0) (m + 1 - 1) < ((i + 1 : Nat) : Int)) := hide (by have := hinv2.out; omega)
              clear hf ht bd0 bd1 hinv hinv2
              have ht1 : (decide ((m : Int) + 1 + 1 < (n6 : Int)) && decide ((t : Int) < (i : Int))) = false := by
                rw [Bool.and_eq_false_iff, decide_eq_false_iff_not, decide_eq_false_iff_not]; omega
              have HE : Hid (∀ (v : Bool), decide ((i : Int) ∈ simplifyOf ps 0) = v → ∀ W : World, Below w5.heap.size w5 W → Calls Try.prog 25 #[.slice (some ⟨b6, o6, none⟩) n6 c6, .int .i64 i] W fun e w' => e = .returned (.bool v) ∧ ∃ m, w' = ext W m) :=
                hide (fun v hv W hb => by
                  have h := isIn_any (simplifyOf ps 0) i (some ⟨b6, o6, none⟩) n6 c6 W Z6.out (by omega) (HI6.out.to hb)
                  rw [hv] at h
                  exact h)
              by_cases h2 : m + 1 + 1 < n6
              all_goals
                (try have h3 : ¬ (t : Int) < (i : Int) := by omega)
                clear ht1
                by_cases hxy : pX ps f = pX ps t ∧ pY ps f = pY ps t
                · obtain ⟨ex, ey⟩ := hxy
                  go_wp2
                  refine wp_region_ext (by kernel_rfl) (by kernel_rfl) ?_
                  repeat (go_big_quiet_step (fail))
                  refine wpQuiet_nil ?_
                  rintro _ hnq
                  have hzq := ext_sz hnq
                  obtain ⟨nq, rfl⟩ := hnq
                  (try simp at hzq)
                  go_wp2
                  exact ⟨⟨m + 1, i + 1, by omega, by omega, by omega, by go_num, by go_num, NEXT.out, (ext_mk (by (repeat' (first | (with_reducible exact Below.refl _ _) | (with_reducible assumption) | (with_reducible refine below_ext _ ?_ ?_) | (with_reducible refine Below.alloc ?_ ?_ _) | (with_reducible refine Below.drew ?_) | (with_reducible refine below_drewN ?_ _) | (with_reducible refine le_drewN _ ?_) | (with_reducible refine Below.setCell ?_ ?_ _) | (with_reducible exact Nat.le_refl _) | (with_reducible refine le_ext _ ?_) | (with_reducible refine le_alloc _ ?_) | (with_reducible refine le_setCell _ _ ?_) | (with_reducible refine le_drew ?_) | omega | (simp; done) | (simp; omega)))))⟩, by simp [intOf]; omega⟩
                · cases hin : decide ((i : Int) ∈ simplifyOf ps 0)
                  · have HI := hide (HE.out false hin)
                    have HO := hide (EO.out hxy (of_decide_eq_false hin))
                    have HOS : Hid (∀ W : World, Calls Try.prog 26 #[.agg #[.int .i64 (pX ps f), .int .i64 (pY ps f), .int .i64 (pX ps t), .int .i64 (pY ps t)], .agg #[.int .i64 (pX ps i), .int .i64 (pY ps i)]] W fun e w' => e = .returned (.bool true) ∧ ∃ m, w' = ext W m) :=
                      hide (fun W => by
                        have h := onSegment_any (pX ps f) (pY ps f) (pX ps t) (pY ps t) (pX ps i) (pY ps i) W
                        rw [HO.out] at h
                        exact h)
                    clear hin
                    by_cases hx : pX ps f = pX ps t
                    · have hy : ¬ pY ps f = pY ps t := fun h => hxy ⟨hx, h⟩
                      clear hxy
                      rw [hx] at HOS
                      go_wp2
                      refine wp_region_ext (by kernel_rfl) (by kernel_rfl) ?_
                      repeat (go_big_quiet_step ((first | (go_at_call 25; exact Calls.in_ext (HI.out _ (by (repeat' (first | (with_reducible exact Below.refl _ _) | (with_reducible assumption) | (with_reducible refine below_ext _ ?_ ?_) | (with_reducible refine Below.alloc ?_ ?_ _) | (with_reducible refine Below.drew ?_) | (with_reducible refine below_drewN ?_ _) | (with_reducible refine le_drewN _ ?_) | (with_reducible refine Below.setCell ?_ ?_ _) | (with_reducible exact Nat.le_refl _) | (with_reducible refine le_ext _ ?_) | (with_reducible refine le_alloc _ ?_) | (with_reducible refine le_setCell _ _ ?_) | (with_reducible refine le_drew ?_) | omega | (simp; done) | (simp; omega)))))) | (go_at_call 26; exact Calls.in_ext (HOS.out _)))))
                      refine wpQuiet_nil ?_
                      rintro _ hnq
                      have hzq := ext_sz hnq
                      obtain ⟨nq, rfl⟩ := hnq
                      (try simp at hzq)
                      go_wp2
                      exact ⟨⟨m + 1, i + 1, by omega, by omega, by omega, by go_num, by go_num, NEXT.out, (ext_mk (by (repeat' (first | (with_reducible exact Below.refl _ _) | (with_reducible assumption) | (with_reducible refine below_ext _ ?_ ?_) | (with_reducible refine Below.alloc ?_ ?_ _) | (with_reducible refine Below.drew ?_) | (with_reducible refine below_drewN ?_ _) | (with_reducible refine le_drewN _ ?_) | (with_reducible refine Below.setCell ?_ ?_ _) | (with_reducible exact Nat.le_refl _) | (with_reducible refine le_ext _ ?_) | (with_reducible refine le_alloc _ ?_) | (with_reducible refine le_setCell _ _ ?_) | (with_reducible refine le_drew ?_) | omega | (simp; done) | (simp; omega)))))⟩, by simp [intOf]; omega⟩
                    · clear hxy
                      go_wp2
                      refine wp_region_ext (by kernel_rfl) (by kernel_rfl) ?_
                      repeat (go_big_quiet_step ((first | (go_at_call 25; exact Calls.in_ext (HI.out _ (by (repeat' (first | (with_reducible exact Below.refl _ _) | (with_reducible assumption) | (with_reducible refine below_ext _ ?_ ?_) | (with_reducible refine Below.alloc ?_ ?_ _) | (with_reducible refine Below.drew ?_) | (with_reducible refine below_drewN ?_ _) | (with_reducible refine le_drewN _ ?_) | (with_reducible refine Below.setCell ?_ ?_ _) | (with_reducible exact Nat.le_refl _) | (with_reducible refine le_ext _ ?_) | (with_reducible refine le_alloc _ ?_) | (with_reducible refine le_setCell _ _ ?_) | (with_reducible refine le_drew ?_) | omega | (simp; done) | (simp; omega)))))) | (go_at_call 26; exact Calls.in_ext (HOS.out _)))))
                      refine wpQuiet_nil ?_
                      rintro _ hnq
                      have hzq := ext_sz hnq
                      obtain ⟨nq, rfl⟩ := hnq
                      (try simp at hzq)
                      go_wp2
                      exact ⟨⟨m + 1, i + 1, by omega, by omega, by omega, by go_num, by go_num, NEXT.out, (ext_mk (by (repeat' (first | (with_reducible exact Below.refl _ _) | (with_reducible assumption) | (with_reducible refine below_ext _ ?_ ?_) | (with_reducible refine Below.alloc ?_ ?_ _) | (with_reducible refine Below.drew ?_) | (with_reducible refine below_drewN ?_ _) | (with_reducible refine le_drewN _ ?_) | (with_reducible refine Below.setCell ?_ ?_ _) | (with_reducible exact Nat.le_refl _) | (with_reducible refine le_ext _ ?_) | (with_reducible refine le_alloc _ ?_) | (with_reducible refine le_setCell _ _ ?_) | (with_reducible refine le_drew ?_) | omega | (simp; done) | (simp; omega)))))⟩, by simp [intOf]; omega⟩
                  · have HI := hide (HE.out true hin)
                    clear hin
                    by_cases hx : pX ps f = pX ps t
                    · have hy : ¬ pY ps f = pY ps t := fun h => hxy ⟨hx, h⟩
                      clear hxy
                      go_wp2
                      refine wp_region_ext (by kernel_rfl) (by kernel_rfl) ?_
                      repeat (go_big_quiet_step ((first | (go_at_call 25; exact Calls.in_ext (HI.out _ (by (repeat' (first | (with_reducible exact Below.refl _ _) | (with_reducible assumption) | (with_reducible refine below_ext _ ?_ ?_) | (with_reducible refine Below.alloc ?_ ?_ _) | (with_reducible refine Below.drew ?_) | (with_reducible refine below_drewN ?_ _) | (with_reducible refine le_drewN _ ?_) | (with_reducible refine Below.setCell ?_ ?_ _) | (with_reducible exact Nat.le_refl _) | (with_reducible refine le_ext _ ?_) | (with_reducible refine le_alloc _ ?_) | (with_reducible refine le_setCell _ _ ?_) | (with_reducible refine le_drew ?_) | omega | (simp; done) | (simp; omega)))))))))
                      refine wpQuiet_nil ?_
                      rintro _ hnq
                      have hzq := ext_sz hnq
                      obtain ⟨nq, rfl⟩ := hnq
                      (try simp at hzq)
                      go_wp2
                      exact ⟨⟨m + 1, i + 1, by omega, by omega, by omega, by go_num, by go_num, NEXT.out, (ext_mk (by (repeat' (first | (with_reducible exact Below.refl _ _) | (with_reducible assumption) | (with_reducible refine below_ext _ ?_ ?_) | (with_reducible refine Below.alloc ?_ ?_ _) | (with_reducible refine Below.drew ?_) | (with_reducible refine below_drewN ?_ _) | (with_reducible refine le_drewN _ ?_) | (with_reducible refine Below.setCell ?_ ?_ _) | (with_reducible exact Nat.le_refl _) | (with_reducible refine le_ext _ ?_) | (with_reducible refine le_alloc _ ?_) | (with_reducible refine le_setCell _ _ ?_) | (with_reducible refine le_drew ?_) | omega | (simp; done) | (simp; omega)))))⟩, by simp [intOf]; omega⟩
                    · clear hxy
                      go_wp2
                      refine wp_region_ext (by kernel_rfl) (by kernel_rfl) ?_
                      repeat (go_big_quiet_step ((first | (go_at_call 25; exact Calls.in_ext (HI.out _ (by (repeat' (first | (with_reducible exact Below.refl _ _) | (with_reducible assumption) | (with_reducible refine below_ext _ ?_ ?_) | (with_reducible refine Below.alloc ?_ ?_ _) | (with_reducible refine Below.drew ?_) | (with_reducible refine below_drewN ?_ _) | (with_reducible refine le_drewN _ ?_) | (with_reducible refine Below.setCell ?_ ?_ _) | (with_reducible exact Nat.le_refl _) | (with_reducible refine le_ext _ ?_) | (with_reducible refine le_alloc _ ?_) | (with_reducible refine le_setCell _ _ ?_) | (with_reducible refine le_drew ?_) | omega | (simp; done) | (simp; omega)))))))))
                      refine wpQuiet_nil ?_
                      rintro _ hnq
                      have hzq := ext_sz hnq
                      obtain ⟨nq, rfl⟩ := hnq
                      (try simp at hzq)
                      go_wp2
                      exact ⟨⟨m + 1, i + 1, by omega, by omega, by omega, by go_num, by go_num, NEXT.out, (ext_mk (by (repeat' (first | (with_reducible exact Below.refl _ _) | (with_reducible assumption) | (with_reducible refine below_ext _ ?_ ?_) | (with_reducible refine Below.alloc ?_ ?_ _) | (with_reducible refine Below.drew ?_) | (with_reducible refine below_drewN ?_ _) | (with_reducible refine le_drewN _ ?_) | (with_reducible refine Below.setCell ?_ ?_ _) | (with_reducible exact Nat.le_refl _) | (with_reducible refine le_ext _ ?_) | (with_reducible refine le_alloc _ ?_) | (with_reducible refine le_setCell _ _ ?_) | (with_reducible refine le_drew ?_) | omega | (simp; done) | (simp; omega)))))⟩, by simp [intOf]; omega⟩
        · have : i = n1 := by omega
          subst this
          go_wp2
          go_ret
          exact ⟨rfl, (by (repeat' (first | (with_reducible exact Below.refl _ _) | (with_reducible assumption) | (with_reducible refine below_ext _ ?_ ?_) | (with_reducible refine Below.alloc ?_ ?_ _) | (with_reducible refine Below.drew ?_) | (with_reducible refine below_drewN ?_ _) | (with_reducible refine le_drewN _ ?_) | (with_reducible refine Below.setCell ?_ ?_ _) | (with_reducible exact Nat.le_refl _) | (with_reducible refine le_ext _ ?_) | (with_reducible refine le_alloc _ ?_) | (with_reducible refine le_setCell _ _ ?_) | (with_reducible refine le_drew ?_) | omega | (simp; done) | (simp; omega))))⟩
  · have hd : decide ((1048576 : Int) < (n : Int)) = true := decide_eq_true (by omega)
    go_enter Try.func7, Try.ntmps7
    go_wp2
    go_ret
    exact ⟨rfl, (by (repeat' (first | (with_reducible exact Below.refl _ _) | (with_reducible assumption) | (with_reducible refine below_ext _ ?_ ?_) | (with_reducible refine Below.alloc ?_ ?_ _) | (with_reducible refine Below.drew ?_) | (with_reducible refine below_drewN ?_ _) | (with_reducible refine le_drewN _ ?_) | (with_reducible refine Below.setCell ?_ ?_ _) | (with_reducible exact Nat.le_refl _) | (with_reducible refine le_ext _ ?_) | (with_reducible refine le_alloc _ ?_) | (with_reducible refine le_setCell _ _ ?_) | (with_reducible refine le_drew ?_) | omega | (simp; done) | (simp; omega))))⟩
end Go.Proofs.Ytgeilljbmjajnaa
