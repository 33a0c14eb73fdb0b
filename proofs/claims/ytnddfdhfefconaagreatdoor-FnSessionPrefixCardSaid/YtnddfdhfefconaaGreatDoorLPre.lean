import Derived.Test.YtnddfdhfefconaaGreatDoorSes8
import Derived.Test.YtnddfdhfefconaaGreatDoorDrwX
set_option linter.unusedVariables false
set_option linter.unusedSimpArgs false
namespace Go.Proofs.YtnddfdhfefconaaGreatDoor
open Go.RowKit
theorem stN_same {G : List UInt8 → List Pt → List UInt8} {ls ms : List (List UInt8)} : ∀ k, (∀ i, i < k → gstr ls i = gstr ms i) → stN G ls k = stN G ms k ∧ ouN G ls k = ouN G ms k
  | 0, _ => ⟨rfl, rfl⟩
  | k + 1, h => by
    have ih := stN_same (G := G) k (fun i hi => h i (by omega))
    unfold stN ouN
    rw [ih.1, ih.2, h k (by omega)]
    exact ⟨rfl, rfl⟩
theorem ouN_pre {G : List UInt8 → List Pt → List UInt8} {ls : List (List UInt8)} : ∀ (d k : Nat), ∃ t, ouN G ls (k + d) = ouN G ls k ++ t
  | 0, k => ⟨[], by simp⟩
  | d + 1, k => by
    obtain ⟨t, h⟩ := ouN_pre (G := G) (ls := ls) d k
    refine ⟨t ++ (stepL G (gstr ls (k + d)) (stN G ls (k + d))).1 ++ [10], ?_⟩
    rw [← Nat.add_assoc]
    show (ouN G ls (k + d) ++ _) ++ [10] = _
    rw [h]; simp
theorem gstr_take {ls : List (List UInt8)} {k i : Nat} (h : i < k) : gstr (ls.take k) i = gstr ls i := by
  unfold gstr
  rw [List.getD_eq_getElem?_getD, List.getD_eq_getElem?_getD, List.getElem?_take, if_pos h]
theorem runL_take (G : List UInt8 → List Pt → List UInt8) (ls : List (List UInt8)) (k : Nat) : ∃ t, runL G ls = runL G (ls.take k) ++ t := by
  unfold runL
  rw [List.length_take, (stN_same (min (min k ls.length) 30) (fun i hi => gstr_take (ls := ls) (k := k) (by omega))).2]
  obtain ⟨t, h⟩ := ouN_pre (G := G) (ls := ls) (min ls.length 30 - min (min k ls.length) 30) (min (min k ls.length) 30)
  refine ⟨t, ?_⟩
  rw [← h]; congr 1; omega
theorem runL_30 (G : List UInt8 → List Pt → List UInt8) (ls : List (List UInt8)) : runL G (ls.take 30) = runL G ls := by
  unfold runL
  rw [List.length_take, show min (min 30 ls.length) 30 = min ls.length 30 by omega]
  exact (stN_same _ (fun i hi => gstr_take (by omega))).2
theorem bS_self (l : List UInt8) : ((bS l).toList == (bS l).toList) = true := by
  have := bS_ne l l
  rwa [decide_eq_true rfl] at this
theorem strs_take {w : World} {B : Nat} {A : Option Addr} {ss : List (List UInt8)} (h : StrsAt w B A ss) (k : Nat) : StrsAt w B A (ss.take k) := fun h0 => by
  rw [List.length_take] at h0
  obtain ⟨b, o, hA, hB, hc⟩ := h (by omega)
  refine ⟨b, o, hA, hB, fun i hi => ?_⟩
  rw [List.length_take] at hi
  rw [hc i (by omega), gstr_take (by omega)]
theorem strs_to {w W : World} {A : Option Addr} {ss : List (List UInt8)} (h : StrsAt w w.heap.size A ss) (hb : Below w.heap.size w W) : StrsAt W W.heap.size A ss := fun h0 => by
  obtain ⟨b, o, g1, g2, g3⟩ := h.below hb h0
  exact ⟨b, o, g1, Nat.lt_of_lt_of_le g2 hb.size, g3⟩
set_option maxRecDepth 20000 in
set_option maxHeartbeats 4000000 in
theorem lawPre (n c : Nat) (A : Option Addr) (n' c' : Nat) (A' : Option Addr) (w : World) (hn : n ≤ c) (hc : c ≤ 9223372036854775807) (hA : BytesAt w w.heap.size A n) (hn' : n' ≤ 9223372036854775807) (ht : Tab w) (hE : Errs w) (hM : MaxL w) :
    Calls Tryz.prog 4 #[.slice A n c, .slice A' n' c'] w fun e w' => e = .returned (.bool true) ∧ Below w.heap.size w w' := by
  by_cases hl : n ≤ 1048576
  · by_cases hl' : n' ≤ 1048576
    · have DR := hide (drawRun_any n c A w hn hc hA)
      have RUN := hide (fun (ss : List (List UInt8)) (A' : Option Addr) (n' c' : Nat) (W : World) (hb : Below w.heap.size w W) h1 h2 h3 (h4 : ∀ l ∈ ss, l.length ≤ 1048576) h5 => iRun8 ss A' n' c' W h1 h2 h3 h4 h5 (ht.to hb) (hE.to hb) (hM.to hb))
      have SRN := hide (fun (ss : List (List UInt8)) (A' : Option Addr) (n' c' : Nat) (W : World) h1 h3 (h4 : ∀ l ∈ ss, l.length ≤ 1048576) h5 => sRun8 ss A' n' c' W h1 h3 h4 h5)
      have d1 : ¬ 1048576 < n := by omega
      have d2 : ¬ 1048576 < n' := by omega
      clear hA ht hE hM hn hc
      go_enter Tryz.func4, Tryz.ntmps4
      go_wp2_with fail
      refine DR.out.mono ?_
      rintro e w1 ⟨v1, ss, rfl, hown, hlen, hlin, B1⟩
      obtain ⟨A1, n1, c1, rfl⟩ := hown.slice
      obtain ⟨l1, q1, q2, p1⟩ := hown.strs
      have hl2 : ∀ l ∈ ss, l.length ≤ 1048576 := fun l hl => by have := hlin l hl; omega
      have hc1 : c1 ≤ 9223372036854775807 := by unfold maxLen at q2; omega
      have IR := hide (RUN.out ss A1 n1 c1 w1 B1 l1 q1 hc1 hl2 p1)
      have SR := hide (fun (W : World) (hb : Below w1.heap.size w1 W) => SRN.out ss A1 n1 c1 W l1 (by omega) hl2 (strs_to p1 hb))
      have PS := hide p1
      have TK := hide (fun (k : Nat) (hk : k ≤ n1) (W : World) (hb : Below w1.heap.size w1 W) => RUN.out (ss.take k) A1 k c1 W (B1.trans (hb.mono B1.size)) (by rw [List.length_take]; omega) (by omega) hc1 (fun l hl => hl2 l (List.mem_of_mem_take hl)) (strs_take (strs_to p1 hb) k))
      have ALL := hide (fun (W : World) (hb : Below w1.heap.size w1 W) => RUN.out ss A1 n1 c1 W (B1.trans (hb.mono B1.size)) l1 q1 hc1 hl2 (strs_to p1 hb))
      have n100 : n1 ≤ 100 := by omega
      obtain ⟨k, hk⟩ : ∃ k : Nat, k = n' % (n1 + 1) := ⟨_, rfl⟩
      have ek : Int.tmod (n' : Int) ((n1 : Int) + 1) = (k : Int) := by rw [hk]; exact (Int.ofNat_tmod n' (n1 + 1)).symm
      have hk1 : k ≤ n1 := by have := Nat.mod_lt n' (show 0 < n1 + 1 by omega); omega
      have TKk := hide (TK.out k hk1)
      have T30 := hide (fun (h : 30 ≤ n1) W hb => TK.out 30 h W hb)
      rw [runL_30] at T30
      obtain ⟨t, htk⟩ := runL_take G8 ss k
      have LEN : (runL G8 (ss.take k)).length ≤ (runL G8 ss).length := by rw [htk, List.length_append]; omega
      have EXT : (bS (runL G8 ss)).extract 0 (runL G8 (ss.take k)).length = bS (runL G8 (ss.take k)) := by
        rw [bS_ext, List.drop_zero, Nat.sub_zero, htk, List.take_left]
      have BIG := hide (ouN_len G8_short ss (min ss.length 30))
      have ES := bS_self (runL G8 ss)
      have EP := bS_self (runL G8 (ss.take k))
      have NE : ((bS (runL G8 ss)).toList != (bS (runL G8 ss)).toList) = false := by rw [bne, ES]; rfl
      have SZ := bS_size (runL G8 ss)
      have SP := bS_size (runL G8 (ss.take k))
      rw [← SP] at EXT LEN
      rw [← SZ] at LEN
      clear RUN SRN DR hown p1 hl2 hlin TK hk htk SZ SP
      generalize bS (runL G8 ss) = R at *
      generalize bS (runL G8 (ss.take k)) = P at *
      go_wp2_with fail
      refine IR.out.mono ?_
      rintro e w2 ⟨rfl, hb2⟩
      go_wp2_with fail
      refine (SR.out w2 hb2).mono ?_
      rintro e w3 ⟨rfl, hx⟩
      have F3 := hb2.trans ((ext_bel hx).mono hb2.size)
      have qk : (0 : Int) ≤ (k : Int) := by omega
      have qk2 : (k : Int) ≤ (n1 : Int) := by omega
      have qk3 : (n1 : Int) ≤ (c1 : Int) := by omega
      have qk4 : k ≤ c1 := by omega
      clear hx IR SR hb2
      go_wp2_with fail
      refine (TKk.out w3 F3).mono ?_
      rintro e w4 ⟨rfl, hb4⟩
      have F4 := F3.trans (hb4.mono F3.size)
      have li1 : ((P.size : Nat) : Int) ≤ ((R.size : Nat) : Int) := by omega
      have li2 : (0 : Int) ≤ ((P.size : Nat) : Int) := by omega
      clear hb4 TKk
      by_cases h30 : 30 < n1
      · have TT := hide (fun W hb => T30.out (by omega) W hb)
        have d3 : decide ((30 : Int) < (n1 : Int)) = true := decide_eq_true (by omega)
        have q30 : (30 : Int) ≤ (c1 : Int) := by omega
        have q31 : 30 ≤ c1 := by omega
        clear T30 ALL
        go_wp2_with fail
        refine (TT.out w4 F4).mono ?_
        rintro e w5 ⟨rfl, hb5⟩
        have F5 := F4.trans (hb5.mono F4.size)
        clear hb5 TT
        go_wp2_with fail
        go_ret
        exact ⟨rfl, B1.trans (F5.mono B1.size)⟩
      · have d3 : decide ((30 : Int) < (n1 : Int)) = false := decide_eq_false (by omega)
        clear T30
        go_wp2_with fail
        refine (ALL.out w4 F4).mono ?_
        rintro e w5 ⟨rfl, hb5⟩
        have F5 := F4.trans (hb5.mono F4.size)
        clear hb5 ALL
        go_wp2_with fail
        go_ret
        exact ⟨rfl, B1.trans (F5.mono B1.size)⟩
    · have d1 : ¬ 1048576 < n := by omega
      have d2 : 1048576 < n' := by omega
      go_enter Tryz.func4, Tryz.ntmps4
      go_wp2_with fail
      go_ret
      exact ⟨rfl, (by (repeat' (first | (with_reducible first | exact Below.refl _ _ | assumption | refine below_ext _ ?_ ?_ | refine Below.alloc ?_ ?_ _ | refine Below.drew ?_ | refine below_drewN ?_ _ | refine le_drewN _ ?_ | refine Below.setCell ?_ ?_ _ | exact Nat.le_refl _ | refine le_ext _ ?_ | refine le_alloc _ ?_ | refine le_setCell _ _ ?_ | refine le_drew ?_) | omega | (simp; done) | (simp; omega))))⟩
  · have d1 : 1048576 < n := by omega
    go_enter Tryz.func4, Tryz.ntmps4
    go_wp2_with fail
    go_ret
    exact ⟨rfl, (by (repeat' (first | (with_reducible first | exact Below.refl _ _ | assumption | refine below_ext _ ?_ ?_ | refine Below.alloc ?_ ?_ _ | refine Below.drew ?_ | refine below_drewN ?_ _ | refine le_drewN _ ?_ | refine Below.setCell ?_ ?_ _ | exact Nat.le_refl _ | refine le_ext _ ?_ | refine le_alloc _ ?_ | refine le_setCell _ _ ?_ | refine le_drew ?_) | omega | (simp; done) | (simp; omega))))⟩
end Go.Proofs.YtnddfdhfefconaaGreatDoor
