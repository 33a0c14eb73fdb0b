
/- The library's stable sort of a row of pairs: exchanges, rotation, insertion, symmetric merging. -/
/- The library's symmetric merging of a row of pairs, and its stable sort. -/
/- The library's stable sort of a row of pairs. -/
import Derived.Test.YtnddfdhfefconaaGreatDoorKruM
import Derived.Test.YtnddfdhfefconaaGreatDoorPairs
import Derived.BigRegion
import Derived.Deep.DeepCutAuto
set_option linter.unusedVariables false
set_option linter.unusedSimpArgs false
namespace Go.Proofs.YtnddfdhfefconaaGreatDoor
open Go.RowKit

def swapL (ds : List Pt) (i j : Nat) : List Pt := (ds.set i (gp ds j)).set j (gp ds i)
theorem swapL_len (ds : List Pt) (i j : Nat) : (swapL ds i j).length = ds.length := by unfold swapL; rw [List.length_set, List.length_set]
theorem gp_set (ds : List Pt) (i : Nat) (p : Pt) (hi : i < ds.length) (k : Nat) : gp (ds.set i p) k = if k = i then p else gp ds k := by
  unfold gp
  rw [List.getD_eq_getElem?_getD, List.getD_eq_getElem?_getD, List.getElem?_set]
  split
  · rename_i h; rw [if_pos h.symm]; first | rfl | (rw [if_pos hi]; rfl)
  · rename_i h; rw [if_neg (fun e => h e.symm)]
theorem gp_swapL {ds : List Pt} {i j : Nat} (hi : i < ds.length) (hj : j < ds.length) : gp (swapL ds i j) = swF (gp ds) i j := by
  funext k
  unfold swapL swF
  rw [gp_set _ _ _ (by rw [List.length_set]; exact hj), gp_set _ _ _ hi]
  by_cases e1 : k = i
  · by_cases e2 : k = j
    · rw [if_pos e2, if_pos e1, ← e1, ← e2]
    · rw [if_neg e2, if_pos e1, if_pos e1]
  · by_cases e2 : k = j
    · rw [if_pos e2, if_neg e1, if_pos e2]
    · rw [if_neg e2, if_neg e1, if_neg e1, if_neg e2]
theorem OwnR.swap {w : World} {base g : Nat} {n c : Nat} {ds : List Pt} (h : OwnR w base (.slice (some ⟨g, 0, none⟩) n c) ds) {i j : Nat} (hi : i < n) (hj : j < n) :
    OwnR ((((w.setCell ⟨g, i * 2, none⟩ (.int .i64 (pX ds j))).setCell ⟨g, i * 2 + 1, none⟩ (.int .i64 (pY ds j))).setCell ⟨g, j * 2, none⟩ (.int .i64 (pX ds i))).setCell ⟨g, j * 2 + 1, none⟩ (.int .i64 (pY ds i))) base (.slice (some ⟨g, 0, none⟩) n c) (swapL ds i j) :=
  (h.set hi (pX ds j) (pY ds j)).set hj (pX ds i) (pY ds i)
/-- A world after an exchange: the row's block alone has moved. -/
theorem swap_below {base g : Nat} {w0 w : World} (hg : base ≤ g) (h : Below base w0 w) (a1 a2 a3 a4 : Nat) (v1 v2 v3 v4 : Value) :
    Below base w0 ((((w.setCell ⟨g, a1, none⟩ v1).setCell ⟨g, a2, none⟩ v2).setCell ⟨g, a3, none⟩ v3).setCell ⟨g, a4, none⟩ v4) :=
  (((h.setCell hg v1).setCell hg v2).setCell hg v3).setCell hg v4
set_option maxRecDepth 20000 in
set_option maxHeartbeats 4000000 in
theorem swapRange_any (ds : List Pt) (gb n c a b m base : Nat) (fv : Value) (w : World) (hn : ds.length = n) (hn2 : n ≤ 1000) (hab : a + m ≤ b) (hbm : b + m ≤ n) (hown : OwnR w base (.slice (some ⟨gb, 0, none⟩) n c) ds) (hb : base ≤ w.heap.size) :
    Calls Tryz.prog 253 #[.slice (some ⟨gb, 0, none⟩) n c, .int .i64 a, .int .i64 b, .int .i64 m, fv] w fun e w' => e = .returned (.tuple #[]) ∧ ∃ ds', ds'.length = n ∧ gp ds' = swR a b m (gp ds) ∧ OwnR w' base (.slice (some ⟨gb, 0, none⟩) n c) ds' ∧ Below base w w' := by
  have HN := hide hn
  have H0 := hide hown
  have S0 := hide (swR_0 a b (gp ds)).symm
  have SS := hide (fun t (ht : t < m) => (swR_S (gp ds) hab ht).symm)
  clear hn hown
  go_enter Tryz.func253, Tryz.ntmps253
  go_wp2_with fail
  go_loopw [10] (fun u10 wr => ∃ (t : Nat) (cs : List Pt), t ≤ m ∧ u10 = .int .i64 t ∧ Hid (cs.length = n) ∧ Hid (gp cs = swR a b t (gp ds)) ∧ Hid (OwnR wr base (.slice (some ⟨gb, 0, none⟩) n c) cs) ∧ Below base w wr) (fun u10 _ => m - (intOf u10).toNat)
  case atStart => exact ⟨0, ds, Nat.zero_le _, rfl, HN, S0, H0, Below.refl _ _⟩
  case round =>
    obtain ⟨t, cs, ht, rfl, HL, HG, HO, hbel⟩ := hrel
    by_cases hlt : t < m
    · obtain ⟨x, hx⟩ : ∃ x, x = a + t := ⟨_, rfl⟩
      obtain ⟨y, hy⟩ : ∃ y, y = b + t := ⟨_, rfl⟩
      have e1 : (a : Int) + (t : Int) = (x : Int) := by omega
      have e2 : (b : Int) + (t : Int) = (y : Int) := by omega
      have lx : x < n := by omega
      have ly : y < n := by omega
      have nxy : ¬ x = y := by omega
      obtain ⟨g', hg', hbg, lg, hfr, hcs⟩ := HO.out.head (by omega)
      injection hg' with hg'; injection hg' with hg'
      subst hg'
      obtain ⟨xx, xy⟩ := hcs x lx
      obtain ⟨yx, yy⟩ := hcs y ly
      have f1 := hfr (x * 2)
      have f2 := hfr (x * 2 + 1)
      have f3 := hfr (y * 2)
      have f4 := hfr (y * 2 + 1)
      have q1 : (0 : Int) ≤ (x : Int) := by omega
      have q2 : (x : Int) < (n : Int) := by omega
      have q3 : (0 : Int) ≤ (y : Int) := by omega
      have q4 : (y : Int) < (n : Int) := by omega
      have SW := hide (fun (W : World) (hW : OwnR W base (.slice (some ⟨gb, 0, none⟩) n c) cs) => hW.swap lx ly)
      have NG : Hid (gp (swapL cs x y) = swR a b (t + 1) (gp ds)) := hide (by rw [gp_swapL (by rw [HL.out]; exact lx) (by rw [HL.out]; exact ly), HG.out, SS.out t hlt, hx, hy])
      have NL : Hid ((swapL cs x y).length = n) := hide (by rw [swapL_len]; exact HL.out)
      have OD := hide (HO.out.below (drawn_below wr))
      clear hx hy hfr hcs HL HG SS
      generalize pX cs x = X1 at *
      generalize pY cs x = Y1 at *
      generalize pX cs y = X2 at *
      generalize pY cs y = Y2 at *
      go_wp2_with fail
      go_region
      all_goals
        go_wp2_with fail
        exact ⟨⟨t + 1, swapL cs x y, hlt, by go_num, NL, NG, hide (SW.out _ OD.out), swap_below hbg (hbel.trans (drawn_below wr |>.mono (by have := hbel.size; omega))) _ _ _ _ _ _ _ _⟩, by simp [intOf]; omega⟩
    · have et : t = m := by omega
      have NG : Hid (gp cs = swR a b m (gp ds)) := hide (by rw [← et]; exact HG.out)
      clear et HG
      go_wp2_with fail
      go_end0
      exact ⟨rfl, cs, HL.out, NG.out, HO.out, hbel⟩
set_option maxRecDepth 20000 in
set_option maxHeartbeats 4000000 in
theorem rotate_any (ds : List Pt) (gb n c a m b base : Nat) (fv : Value) (w : World) (hn : ds.length = n) (hn2 : n ≤ 1000) (ham : a < m) (hmb : m < b) (hbn : b ≤ n) (hown : OwnR w base (.slice (some ⟨gb, 0, none⟩) n c) ds) (hb : base ≤ w.heap.size) :
    Calls Tryz.prog 250 #[.slice (some ⟨gb, 0, none⟩) n c, .int .i64 a, .int .i64 m, .int .i64 b, fv] w fun e w' => e = .returned (.tuple #[]) ∧ ∃ ds', ds'.length = n ∧ gp ds' = rot a m b (gp ds) ∧ OwnR w' base (.slice (some ⟨gb, 0, none⟩) n c) ds' ∧ Below base w w' := by
  have HN := hide hn
  have H0 := hide hown
  have SR := hide (fun (cs : List Pt) (x y k : Nat) (W : World) (h1 : cs.length = n) (h2 : x + k ≤ y) (h3 : y + k ≤ n) (h4 : OwnR W base (.slice (some ⟨gb, 0, none⟩) n c) cs) (h5 : base ≤ W.heap.size) => swapRange_any cs gb n c x y k base fv W h1 hn2 h2 h3 h4 h5)
  have RB := hide (fun (i j : Nat) (d : Nat → Pt) (h1 : i ≤ m) (h2 : j < i) => rot_big (m := m) (i := i) (j := j) d h1 h2)
  have RS := hide (fun (i j : Nat) (d : Nat → Pt) (h1 : i ≤ m) (h2 : i < j) => rot_small (m := m) (i := i) (j := j) d h1 h2)
  have RE := hide (fun (i : Nat) (d : Nat → Pt) (h1 : i ≤ m) => rot_even (m := m) (i := i) d h1)
  have R0 : Hid (rot (m - (m - a)) m (m + (b - m)) (gp ds) = rot a m b (gp ds)) := hide (by rw [show m - (m - a) = a by omega, show m + (b - m) = b by omega])
  clear hn hown
  go_enter Tryz.func250, Tryz.ntmps250
  go_wp2_with fail
  go_loopw [10, 11] (fun u10 u11 wr => ∃ (i j : Nat) (cs : List Pt), 1 ≤ i ∧ i ≤ m - a ∧ 1 ≤ j ∧ j ≤ b - m ∧ u10 = .int .i64 i ∧ u11 = .int .i64 j ∧ Hid (cs.length = n) ∧ Hid (rot (m - i) m (m + j) (gp cs) = rot a m b (gp ds)) ∧ Hid (OwnR wr base (.slice (some ⟨gb, 0, none⟩) n c) cs) ∧ Below base w wr) (fun u10 u11 _ => (intOf u10).toNat + (intOf u11).toNat)
  case atStart => exact ⟨m - a, b - m, ds, by omega, Nat.le_refl _, by omega, Nat.le_refl _, by go_num, by go_num, HN, R0, H0, Below.refl _ _⟩
  case round =>
    obtain ⟨i, j, cs, hi1, hi2, hj1, hj2, rfl, rfl, HL, HG, HO, hbel⟩ := hrel
    have zb := hbel.size
    obtain ⟨mi, hmi⟩ : ∃ mi, mi = m - i := ⟨_, rfl⟩
    have e1 : (m : Int) - (i : Int) = (mi : Int) := by omega
    by_cases hij : i = j
    · subst hij
      have SRk := hide (SR.out cs mi m i wr HL.out (by omega) (by omega) HO.out (by omega))
      have GE := hide ((RE.out i (gp cs) (by omega)).trans HG.out)
      rw [← hmi] at GE
      clear SR RB RS RE HG HL HO R0
      clear hmi
      go_wp2_with fail
      refine SRk.out.mono ?_
      rintro e w2 ⟨rfl, cs2, l2, g2, o2, b2⟩
      have L2 := hide l2
      have G2 := hide (g2.trans GE.out)
      have O2 := hide o2
      clear l2 g2 o2 GE
      go_wp2_with fail
      go_end0
      exact ⟨rfl, cs2, L2.out, G2.out, O2.out, hbel.trans b2⟩
    · have ne : ((i : Int) != (j : Int)) = true := by rw [bne_iff_ne]; omega
      by_cases hlt : j < i
      · have SRk := hide (SR.out cs mi m j wr HL.out (by omega) (by omega) HO.out (by omega))
        have GB := hide ((RB.out i j (gp cs) (by omega) hlt).trans HG.out)
        rw [← hmi] at GB
        have lt2 : (j : Int) < (i : Int) := by omega
        clear SR RB RS RE HG HL HO R0 hmi hij
        go_wp2_with fail
        refine SRk.out.mono ?_
        rintro e w2 ⟨rfl, cs2, l2, g2, o2, b2⟩
        have L2 := hide l2
        have G2 : Hid (rot (m - (i - j)) m (m + j) (gp cs2) = rot a m b (gp ds)) := hide (by rw [g2]; exact GB.out)
        have O2 := hide o2
        clear l2 g2 o2 GB
        go_wp2_with fail
        exact ⟨⟨i - j, j, cs2, by omega, by omega, hj1, hj2, by go_num, rfl, L2, G2, O2, hbel.trans b2⟩, by simp [intOf]; omega⟩
      · obtain ⟨mj, hmj⟩ : ∃ mj, mj = m + j - i := ⟨_, rfl⟩
        have e2 : (m : Int) + (j : Int) - (i : Int) = (mj : Int) := by omega
        have SRk := hide (SR.out cs mi mj i wr HL.out (by omega) (by omega) HO.out (by omega))
        have GB := hide ((RS.out i j (gp cs) (by omega) (by omega)).trans HG.out)
        rw [← hmi, ← hmj] at GB
        have lt2 : ¬ (j : Int) < (i : Int) := by omega
        clear SR RB RS RE HG HL HO R0 hmi hmj
        go_wp2_with fail
        refine SRk.out.mono ?_
        rintro e w2 ⟨rfl, cs2, l2, g2, o2, b2⟩
        have L2 := hide l2
        have G2 : Hid (rot mi m (m + (j - i)) (gp cs2) = rot a m b (gp ds)) := hide (by rw [g2]; exact GB.out)
        have O2 := hide o2
        clear l2 g2 o2 GB
        go_wp2_with fail
        exact ⟨⟨i, j - i, cs2, hi1, hi2, by omega, by omega, rfl, by go_num, L2, hide (by have := G2.out; rwa [show mi = m - i by omega] at this), O2, hbel.trans b2⟩, by simp [intOf]; omega⟩
/-- What the library is told of the comparison: it compares by K; valid pairs stay valid. -/
def CmpB (g : Nat) (lb : Array Value) (K : Pt → Int) (V : Pt → Prop) (base : Nat) (w0 : World) : Prop :=
  ∀ (W : World) (p q : Pt), Below base w0 W → V p → V q → Calls Tryz.prog g (#[.agg #[.int .i64 (p.x), .int .i64 (p.y)], .agg #[.int .i64 (q.x), .int .i64 (q.y)]] ++ lb) W fun e w' => e = .returned (.int .i64 (sgn (K p - K q))) ∧ ∃ x, w' = ext W x
/-- All of a row of pairs is valid. -/
def AllV (V : Pt → Prop) (n : Nat) (d : Nat → Pt) : Prop := ∀ i, i < n → V (d i)
theorem AllV.mv {V : Pt → Prop} {n a b : Nat} {d e : Nat → Pt} (h : AllV V n d) (hm : Mv a b d e) (hb : b ≤ n) : AllV V n e := fun i hi => by
  by_cases k : a ≤ i ∧ i < b
  · obtain ⟨j, h1, h2, h3⟩ := hm.at k.1 k.2
    rw [h3]; exact h j (by omega)
  · rw [hm.out (by omega)]; exact h i hi
set_option maxRecDepth 20000 in
set_option maxHeartbeats 8000000 in
theorem insSort_any (g : Nat) (lb : Array Value) (K : Pt → Int) (V : Pt → Prop) (w0 : World) (ds : List Pt) (gb n c a b base : Nat) (w : World) (eg : ∀ args w, (callFunc g args).run Tryz.prog w = .ok (.enter g args) w) (hC : CmpB g lb K V base w0) (hn : ds.length = n) (hn2 : n ≤ 1000) (hab : a ≤ b) (hbn : b ≤ n)
    (hV : AllV V n (gp ds)) (hA : Asc2 a b (gp ds)) (hown : OwnR w base (.slice (some ⟨gb, 0, none⟩) n c) ds) (h0 : Below base w0 w) (hb : base ≤ w.heap.size) :
    Calls Tryz.prog 234 #[.slice (some ⟨gb, 0, none⟩) n c, .int .i64 a, .int .i64 b, .func (.func g) #[] lb] w fun e w' => e = .returned (.tuple #[]) ∧ ∃ ds', ds'.length = n ∧ PostM K a b (gp ds) (gp ds') ∧ OwnR w' base (.slice (some ⟨gb, 0, none⟩) n c) ds' ∧ Below base w w' := by
  have HN := hide hn
  have H0 := hide hown
  have HC := hide hC
  have HV := hide hV
  have HA := hide hA
  have IST := hide (InsO.start K a (gp ds))
  have IIN := hide (fun i (e : Nat → Pt) (h : InsO K a i (gp ds) e) (hi : i < b) => h.inner hA hi)
  have ISP := hide (fun i j (e : Nat → Pt) (h : InsI K a i j (gp ds) e) h1 h2 h3 => h.step h1 h2 h3)
  have ISO := hide (fun i j (e : Nat → Pt) (h : InsI K a i j (gp ds) e) h1 h2 h3 => h.stop h1 h2 h3)
  have IDN := hide (fun i (e : Nat → Pt) (h : InsO K a i (gp ds) e) h1 h2 => h.done hab h1 h2)
  have IV := hide (fun i j (e : Nat → Pt) (h : InsI K a i j (gp ds) e) (hi : i < b) => hV.mv h.mv (by omega))
  clear hn hown hC hV hA
  go_enter Tryz.func234, Tryz.ntmps234
  go_wp2_with fail
  go_loopw [8] (fun u8 wr => ∃ (i : Nat) (cs : List Pt), a + 1 ≤ i ∧ (i ≤ b ∨ i = a + 1) ∧ u8 = .int .i64 i ∧ Hid (cs.length = n) ∧ Hid (InsO K a i (gp ds) (gp cs)) ∧ Hid (OwnR wr base (.slice (some ⟨gb, 0, none⟩) n c) cs) ∧ Below base w wr) (fun u8 _ => b - (intOf u8).toNat)
  case atStart => exact ⟨a + 1, ds, Nat.le_refl _, .inr rfl, by go_num, HN, IST, H0, Below.refl _ _⟩
  case round =>
    obtain ⟨i, cs, hi1, hi2, rfl, HL, HG, HO, hbel⟩ := hrel
    by_cases hlt : i < b
    · have INN := hide (IIN.out i _ HG.out hlt)
      clear HG IST IDN IIN H0 HN
      go_wp2_with fail
      obtain ⟨W0, hW0⟩ : ∃ W0, W0 = wr := ⟨_, rfl⟩
      subst hW0
      go_loopw [9] (fun u9 wr => ∃ (j : Nat) (cs : List Pt), a ≤ j ∧ j ≤ i ∧ u9 = .int .i64 j ∧ Hid (cs.length = n) ∧ Hid (InsI K a i j (gp ds) (gp cs)) ∧ Hid (OwnR wr base (.slice (some ⟨gb, 0, none⟩) n c) cs) ∧ Below base w wr) (fun u9 _ => (intOf u9).toNat)
      case atStart => exact ⟨i, cs, by omega, Nat.le_refl _, rfl, HL, INN, HO, hbel⟩
      case round =>
        clear INN HL HO hbel
        obtain ⟨j, cs, hj1, hj2, rfl, HL, HI, HO, hbel⟩ := hrel
        have zb := hbel.size
        have ni : (0 : Int) ≤ (i : Int) := by omega
        by_cases hja : a < j
        · obtain ⟨k, rfl⟩ : ∃ k, j = k + 1 := ⟨j - 1, by omega⟩
          have e1 : ((k + 1 : Nat) : Int) = (k : Int) + 1 := by omega
          have e2 : (k : Int) + 1 - 1 = (k : Int) := by omega
          obtain ⟨jj, hjj⟩ : ∃ jj, jj = k + 1 := ⟨_, rfl⟩
          have e3 : (k : Int) + 1 = (jj : Int) := by omega
          have e4 : (jj : Int) - 1 = (k : Int) := by omega
          have lj : jj < n := by omega
          have lk : k < n := by omega
          have gt : (a : Int) < (jj : Int) := by omega
          obtain ⟨g', hg', hbg, lg, hfr, hcs⟩ := HO.out.head (by omega)
          injection hg' with hg'; injection hg' with hg'
          subst hg'
          have xj := hcs jj lj
          have xk := hcs k lk
          obtain ⟨xx, xy⟩ := xj
          obtain ⟨yx, yy⟩ := xk
          have f1 := hfr (jj * 2)
          have f2 := hfr (jj * 2 + 1)
          have f3 := hfr (k * 2)
          have f4 := hfr (k * 2 + 1)
          have q1 : (0 : Int) ≤ (jj : Int) := by omega
          have q2 : (jj : Int) < (n : Int) := by omega
          have q3 : (0 : Int) ≤ (k : Int) := by omega
          have q4 : (k : Int) < (n : Int) := by omega
          have nxy : ¬ jj = k := by omega
          have VV := IV.out i (k + 1) _ HI.out hlt
          have CMP : Hid (∀ W, Below base w W → Calls Tryz.prog g (#[.agg #[.int .i64 (pX cs jj), .int .i64 (pY cs jj)], .agg #[.int .i64 (pX cs k), .int .i64 (pY cs k)]] ++ lb) W fun e w' => e = .returned (.int .i64 (sgn (K (gp cs jj) - K (gp cs k)))) ∧ ∃ x, w' = ext W x) := hide (fun W hW => HC.out W (gp cs jj) (gp cs k) (h0.trans hW) (VV jj lj) (VV k lk))
          have SWP := hide (fun (W : World) (hW : OwnR W base (.slice (some ⟨gb, 0, none⟩) n c) cs) => hW.swap lj lk)
          have NL : Hid ((swapL cs jj k).length = n) := hide (by rw [swapL_len]; exact HL.out)
          have NL0 := HL
          have NI : K (gp cs jj) < K (gp cs k) → Hid (InsI K a i k (gp ds) (gp (swapL cs jj k))) := fun h => hide (by
            rw [gp_swapL (by rw [HL.out]; exact lj) (by rw [HL.out]; exact lk)]
            have := ISP.out i (k + 1) _ HI.out hja hj2 (by rw [Nat.add_sub_cancel, ← hjj]; exact h)
            rwa [Nat.add_sub_cancel, ← hjj] at this)
          have NO : ¬ K (gp cs jj) < K (gp cs k) → Hid (InsO K a (i + 1) (gp ds) (gp cs)) := fun h => hide (ISO.out i (k + 1) _ HI.out hj1 hj2 (fun _ => by rw [Nat.add_sub_cancel, ← hjj]; exact Int.not_lt.1 h))
          rw [e1, e3]
          clear VV IV HI ISP ISO HA HV hcs hfr e1 e3 hjj hja hj1 HC HL
          by_cases hk : K (gp cs jj) < K (gp cs k)
          · have NIk := NI hk
            have dk : sgn (K (gp cs jj) - K (gp cs k)) < 0 := by unfold sgn; split <;> omega
            clear NO NI hk
            generalize sgn (K (gp cs jj) - K (gp cs k)) = z at *
            generalize pX cs jj = X1 at *
            generalize pY cs jj = Y1 at *
            generalize pX cs k = X2 at *
            generalize pY cs k = Y2 at *
            go_wp2_with fail
            refine wp_region_ext (by kernel_rfl) (by kernel_rfl) ?_
            repeat (go_big_quiet_step ((first | go_at_fn g; exact Calls.in_ext (CMP.out _ (Below.trans hbel (by (repeat' (first | (with_reducible first | exact Below.refl _ _ | assumption | refine below_ext _ ?_ ?_ | refine Below.alloc ?_ ?_ _ | refine Below.drew ?_ | refine below_drewN ?_ _ | refine le_drewN _ ?_ | refine Below.setCell ?_ ?_ _ | exact Nat.le_refl _ | refine le_ext _ ?_ | refine le_alloc _ ?_ | refine le_setCell _ _ ?_ | refine le_drew ?_) | omega | (simp; done) | (simp; omega)))))))))
            refine wpQuiet_nil ?_
            rintro _ hnq
            have hzq := ext_sz hnq
            obtain ⟨nq, rfl⟩ := hnq
            (try simp at hzq)
            go_wp2_with fail
            go_region
            all_goals
              go_wp2_with fail
              exact ⟨⟨k, swapL cs jj k, by omega, by omega, by go_num, NL, NIk, hide ((SWP.out _ (HO.out.below (by (repeat' (first | (with_reducible first | exact Below.refl _ _ | assumption | refine below_ext _ ?_ ?_ | refine Below.alloc ?_ ?_ _ | refine Below.drew ?_ | refine below_drewN ?_ _ | refine le_drewN _ ?_ | refine Below.setCell ?_ ?_ _ | exact Nat.le_refl _ | refine le_ext _ ?_ | refine le_alloc _ ?_ | refine le_setCell _ _ ?_ | refine le_drew ?_) | omega | (simp; done) | (simp; omega)))))).below (drawn_below _)), Below.drew (swap_below hbg (Below.trans hbel (show Below base wr (ext wr nq) from (by (repeat' (first | (with_reducible first | exact Below.refl _ _ | assumption | refine below_ext _ ?_ ?_ | refine Below.alloc ?_ ?_ _ | refine Below.drew ?_ | refine below_drewN ?_ _ | refine le_drewN _ ?_ | refine Below.setCell ?_ ?_ _ | exact Nat.le_refl _ | refine le_ext _ ?_ | refine le_alloc _ ?_ | refine le_setCell _ _ ?_ | refine le_drew ?_) | omega | (simp; done) | (simp; omega)))))) _ _ _ _ _ _ _ _)⟩, by simp [intOf]; omega⟩
          · have NOk := NO hk
            have dk : ¬ sgn (K (gp cs jj) - K (gp cs k)) < 0 := by
              unfold sgn
              split
              · omega
              · split <;> omega
            clear NI NO hk
            generalize sgn (K (gp cs jj) - K (gp cs k)) = z at *
            generalize pX cs jj = X1 at *
            generalize pY cs jj = Y1 at *
            generalize pX cs k = X2 at *
            generalize pY cs k = Y2 at *
            go_wp2_with fail
            refine wp_region_ext (by kernel_rfl) (by kernel_rfl) ?_
            repeat (go_big_quiet_step ((first | go_at_fn g; exact Calls.in_ext (CMP.out _ (Below.trans hbel (by (repeat' (first | (with_reducible first | exact Below.refl _ _ | assumption | refine below_ext _ ?_ ?_ | refine Below.alloc ?_ ?_ _ | refine Below.drew ?_ | refine below_drewN ?_ _ | refine le_drewN _ ?_ | refine Below.setCell ?_ ?_ _ | exact Nat.le_refl _ | refine le_ext _ ?_ | refine le_alloc _ ?_ | refine le_setCell _ _ ?_ | refine le_drew ?_) | omega | (simp; done) | (simp; omega)))))))))
            refine wpQuiet_nil ?_
            rintro _ hnq
            have hzq := ext_sz hnq
            obtain ⟨nq, rfl⟩ := hnq
            (try simp at hzq)
            go_wp2_with fail
            exact ⟨⟨i + 1, cs, by omega, .inl hlt, by go_num, NL0, NOk, hide (HO.out.below (by (repeat' (first | (with_reducible first | exact Below.refl _ _ | assumption | refine below_ext _ ?_ ?_ | refine Below.alloc ?_ ?_ _ | refine Below.drew ?_ | refine below_drewN ?_ _ | refine le_drewN _ ?_ | refine Below.setCell ?_ ?_ _ | exact Nat.le_refl _ | refine le_ext _ ?_ | refine le_alloc _ ?_ | refine le_setCell _ _ ?_ | refine le_drew ?_) | omega | (simp; done) | (simp; omega))))), Below.trans hbel (by (repeat' (first | (with_reducible first | exact Below.refl _ _ | assumption | refine below_ext _ ?_ ?_ | refine Below.alloc ?_ ?_ _ | refine Below.drew ?_ | refine below_drewN ?_ _ | refine le_drewN _ ?_ | refine Below.setCell ?_ ?_ _ | exact Nat.le_refl _ | refine le_ext _ ?_ | refine le_alloc _ ?_ | refine le_setCell _ _ ?_ | refine le_drew ?_) | omega | (simp; done) | (simp; omega))))⟩, by simp [intOf]; omega⟩
        · have ej : j = a := by omega
          have NO := hide (ISO.out i j _ HI.out hj1 hj2 (fun h => absurd h hja))
          have gt : ¬ (a : Int) < (j : Int) := by omega
          have gd : decide (a < j) = false := decide_eq_false hja
          have gn : ¬ a < j := hja
          clear ej HI ISP ISO HA HV IV hja gt
          go_wp2_with fail
          refine wp_region_ext (by kernel_rfl) (by kernel_rfl) ?_
          repeat (go_big_quiet_step (fail))
          refine wpQuiet_nil ?_
          rintro _ hnq
          have hzq := ext_sz hnq
          obtain ⟨nq, rfl⟩ := hnq
          (try simp at hzq)
          go_wp2_with fail
          exact ⟨⟨i + 1, cs, by omega, .inl hlt, by go_num, HL, NO, hide (HO.out.below (by (repeat' (first | (with_reducible first | exact Below.refl _ _ | assumption | refine below_ext _ ?_ ?_ | refine Below.alloc ?_ ?_ _ | refine Below.drew ?_ | refine below_drewN ?_ _ | refine le_drewN _ ?_ | refine Below.setCell ?_ ?_ _ | exact Nat.le_refl _ | refine le_ext _ ?_ | refine le_alloc _ ?_ | refine le_setCell _ _ ?_ | refine le_drew ?_) | omega | (simp; done) | (simp; omega))))), Below.trans hbel (by (repeat' (first | (with_reducible first | exact Below.refl _ _ | assumption | refine below_ext _ ?_ ?_ | refine Below.alloc ?_ ?_ _ | refine Below.drew ?_ | refine below_drewN ?_ _ | refine le_drewN _ ?_ | refine Below.setCell ?_ ?_ _ | exact Nat.le_refl _ | refine le_ext _ ?_ | refine le_alloc _ ?_ | refine le_setCell _ _ ?_ | refine le_drew ?_) | omega | (simp; done) | (simp; omega))))⟩, by simp [intOf]; omega⟩
    · have PD := hide (IDN.out i _ HG.out (by omega) hi2)
      clear HG IDN IIN
      go_wp2_with fail
      go_end0
      exact ⟨rfl, cs, HL.out, PD.out, HO.out, hbel⟩
set_option maxRecDepth 20000 in
set_option maxHeartbeats 8000000 in
theorem sym1_any (g : Nat) (lb : Array Value) (K : Pt → Int) (V : Pt → Prop) (w0 : World) (ds : List Pt) (gb n c a b base : Nat) (w : World) (eg : ∀ args w, (callFunc g args).run Tryz.prog w = .ok (.enter g args) w) (hC : CmpB g lb K V base w0) (hn : ds.length = n) (hn2 : n ≤ 1000) (hab : a + 1 < b) (hbn : b ≤ n)
    (hV : AllV V n (gp ds)) (hA : PreM K a (a + 1) b (gp ds)) (hown : OwnR w base (.slice (some ⟨gb, 0, none⟩) n c) ds) (h0 : Below base w0 w) (hb : base ≤ w.heap.size) :
    Calls Tryz.prog 235 #[.slice (some ⟨gb, 0, none⟩) n c, .int .i64 a, .int .i64 ((a + 1 : Nat) : Int), .int .i64 b, .func (.func g) #[] lb] w fun e w' => e = .returned (.tuple #[]) ∧ ∃ ds', ds'.length = n ∧ PostM K a b (gp ds) (gp ds') ∧ OwnR w' base (.slice (some ⟨gb, 0, none⟩) n c) ds' ∧ Below base w w' := by
  obtain ⟨m, hm⟩ : ∃ m, m = a + 1 := ⟨_, rfl⟩
  rw [← hm]
  have HN := hide hn
  have H0 := hide hown
  have HC := hide hC
  have HV := hide hV
  have B0 : Hid (Bs m b m b (fun h => K (gp ds h) < K (gp ds a))) := hide (Bs.start _ (by omega))
  have BU := hide (fun i j h (hb : Bs m b i j (fun h => K (gp ds h) < K (gp ds a))) h1 h2 hp => hb.up (h := h) (by rw [hm]; exact hA.dn1 _) h1 h2 hp)
  have BD := hide (fun i j h (hb : Bs m b i j (fun h => K (gp ds h) < K (gp ds a))) h1 h2 hp => hb.down (h := h) (by rw [hm]; exact hA.dn1 _) h1 h2 hp)
  have ONE := hide (fun i (hb : Bs m b i i (fun h => K (gp ds h) < K (gp ds a))) => hA.one1 (by rw [← hm]; exact hb))
  have RU := hide (fun k (h : a ≤ k) => rot_up (a := a) (k := k) (gp ds) h)
  rw [← hm] at ONE RU
  have R0 : Hid (gp ds = rot a m (a + 1) (gp ds)) := hide (by rw [hm]; exact (rot_same a (a + 1) (gp ds)).2.symm)
  have e0 : (m : Int) - (a : Int) = 1 := by omega
  have HM := hide hm
  clear hn hown hC hV hA hm
  go_enter Tryz.func235, Tryz.ntmps235
  go_wp2_with fail
  go_loopw [10, 11] (fun u10 u11 wr => ∃ (i j : Nat), m ≤ i ∧ i ≤ j ∧ j ≤ b ∧ u10 = .int .i64 i ∧ u11 = .int .i64 j ∧ Hid (Bs m b i j (fun h => K (gp ds h) < K (gp ds a))) ∧ ∃ x, wr = ext w x) (fun u10 u11 _ => (intOf u11).toNat - (intOf u10).toNat)
  case atStart => exact ⟨m, b, Nat.le_refl _, by have := HM.out; omega, Nat.le_refl _, rfl, rfl, B0, ext_same _⟩
  case round =>
    obtain ⟨i, j, hi1, hij, hj2, rfl, rfl, HB, x, rfl⟩ := hrel
    by_cases hlt : i < j
    · obtain ⟨h, hh⟩ : ∃ h, h = (i + j) / 2 := ⟨_, rfl⟩
      have eh : ((i : Int) + (j : Int)) / 2 = (h : Int) := by omega
      have lh : h < n := by omega
      have la : a < n := by omega
      have hih : i ≤ h := by omega
      have hhj : h < j := by omega
      obtain ⟨g', hg', hbg, lg, hfr, hcs⟩ := H0.out.head (by omega)
      injection hg' with hg'; injection hg' with hg'
      subst hg'
      obtain ⟨xx, xy⟩ := hcs h lh
      obtain ⟨yx, yy⟩ := hcs a la
      have q1 : (0 : Int) ≤ (h : Int) := by omega
      have q2 : (h : Int) < (n : Int) := by omega
      have q3 : (0 : Int) ≤ (a : Int) := by omega
      have q4 : (a : Int) < (n : Int) := by omega
      have zx := ext_size w x
      have CMP : Hid (∀ W, Below w.heap.size w W → Calls Tryz.prog g (#[.agg #[.int .i64 (pX ds h), .int .i64 (pY ds h)], .agg #[.int .i64 (pX ds a), .int .i64 (pY ds a)]] ++ lb) W fun e w' => e = .returned (.int .i64 (sgn (K (gp ds h) - K (gp ds a)))) ∧ ∃ x, w' = ext W x) := hide (fun W hW => HC.out W (gp ds h) (gp ds a) (h0.trans (hW.mono hb)) (HV.out h lh) (HV.out a la))
      have YES : K (gp ds h) < K (gp ds a) → Hid (Bs m b (h + 1) j (fun h => K (gp ds h) < K (gp ds a))) := fun hp => hide (BU.out i j h HB.out hih hhj hp)
      have NO : ¬ K (gp ds h) < K (gp ds a) → Hid (Bs m b i h (fun h => K (gp ds h) < K (gp ds a))) := fun hp => hide (BD.out i j h HB.out hih hhj (Int.not_lt.1 hp))
      clear hcs hfr hh HB B0 BU BD ONE RU R0 HC HV
      by_cases hk : K (gp ds h) < K (gp ds a)
      · have YESk := YES hk
        have dk : sgn (K (gp ds h) - K (gp ds a)) < 0 := by unfold sgn; split <;> omega
        clear YES NO
        generalize hz : sgn (K (gp ds h) - K (gp ds a)) = z at *
        clear hz hk
        generalize pX ds h = X1 at *
        generalize pY ds h = Y1 at *
        generalize pX ds a = X2 at *
        generalize pY ds a = Y2 at *
        go_wp2_with fail
        refine wp_region_ext (by kernel_rfl) (by kernel_rfl) ?_
        repeat (go_big_quiet_step ((first | go_at_fn g; exact Calls.in_ext (CMP.out _ (by (repeat' (first | (with_reducible first | exact Below.refl _ _ | assumption | refine below_ext _ ?_ ?_ | refine Below.alloc ?_ ?_ _ | refine Below.drew ?_ | refine below_drewN ?_ _ | refine le_drewN _ ?_ | refine Below.setCell ?_ ?_ _ | exact Nat.le_refl _ | refine le_ext _ ?_ | refine le_alloc _ ?_ | refine le_setCell _ _ ?_ | refine le_drew ?_) | omega | (simp; done) | (simp; omega))))))))
        refine wpQuiet_nil ?_
        rintro _ hnq
        have hzq := ext_sz hnq
        obtain ⟨nq, rfl⟩ := hnq
        (try simp at hzq)
        go_wp2_with fail
        exact ⟨⟨h + 1, j, by omega, by omega, hj2, by go_num, rfl, YESk, (ext_mk (by (repeat' (first | (with_reducible first | exact Below.refl _ _ | assumption | refine below_ext _ ?_ ?_ | refine Below.alloc ?_ ?_ _ | refine Below.drew ?_ | refine below_drewN ?_ _ | refine le_drewN _ ?_ | refine Below.setCell ?_ ?_ _ | exact Nat.le_refl _ | refine le_ext _ ?_ | refine le_alloc _ ?_ | refine le_setCell _ _ ?_ | refine le_drew ?_) | omega | (simp; done) | (simp; omega)))))⟩, by simp [intOf]; omega⟩
      · have NOk := NO hk
        have dk : ¬ sgn (K (gp ds h) - K (gp ds a)) < 0 := by
          unfold sgn
          split
          · omega
          · split <;> omega
        clear YES NO
        generalize hz : sgn (K (gp ds h) - K (gp ds a)) = z at *
        clear hz hk
        generalize pX ds h = X1 at *
        generalize pY ds h = Y1 at *
        generalize pX ds a = X2 at *
        generalize pY ds a = Y2 at *
        go_wp2_with fail
        refine wp_region_ext (by kernel_rfl) (by kernel_rfl) ?_
        repeat (go_big_quiet_step ((first | go_at_fn g; exact Calls.in_ext (CMP.out _ (by (repeat' (first | (with_reducible first | exact Below.refl _ _ | assumption | refine below_ext _ ?_ ?_ | refine Below.alloc ?_ ?_ _ | refine Below.drew ?_ | refine below_drewN ?_ _ | refine le_drewN _ ?_ | refine Below.setCell ?_ ?_ _ | exact Nat.le_refl _ | refine le_ext _ ?_ | refine le_alloc _ ?_ | refine le_setCell _ _ ?_ | refine le_drew ?_) | omega | (simp; done) | (simp; omega))))))))
        refine wpQuiet_nil ?_
        rintro _ hnq
        have hzq := ext_sz hnq
        obtain ⟨nq, rfl⟩ := hnq
        (try simp at hzq)
        go_wp2_with fail
        exact ⟨⟨i, h, hi1, hih, by omega, rfl, rfl, NOk, (ext_mk (by (repeat' (first | (with_reducible first | exact Below.refl _ _ | assumption | refine below_ext _ ?_ ?_ | refine Below.alloc ?_ ?_ _ | refine Below.drew ?_ | refine below_drewN ?_ _ | refine le_drewN _ ?_ | refine Below.setCell ?_ ?_ _ | exact Nat.le_refl _ | refine le_ext _ ?_ | refine le_alloc _ ?_ | refine le_setCell _ _ ?_ | refine le_drew ?_) | omega | (simp; done) | (simp; omega)))))⟩, by simp [intOf]; omega⟩
    · have eij : j = i := by omega
      subst eij
      obtain ⟨i', hi'⟩ : ∃ i', i' = j - 1 := ⟨_, rfl⟩
      have hm := HM.out
      have ei : (j : Int) - 1 = (i' : Int) := by omega
      have RES := hide (ONE.out j HB.out)
      have OX := hide (H0.out.below (ext_below w x))
      have bel0 : Below base w (ext w x) := (ext_below w x).mono hb
      generalize ext w x = W1 at *
      clear HB B0 BU BD ONE HC HV H0
      go_wp2_with fail
      go_loopw [13] (fun u13 wr => ∃ (k : Nat) (cs : List Pt), a ≤ k ∧ k ≤ i' ∧ u13 = .int .i64 k ∧ Hid (cs.length = n) ∧ Hid (gp cs = rot a m (k + 1) (gp ds)) ∧ Hid (OwnR wr base (.slice (some ⟨gb, 0, none⟩) n c) cs) ∧ Below base w wr) (fun u13 _ => i' - (intOf u13).toNat)
      case atStart => exact ⟨a, ds, Nat.le_refl _, by omega, rfl, HN, R0, OX, bel0⟩
      case round =>
        obtain ⟨k, cs, hk1, hk2, rfl, HL, HG, HO, hbel⟩ := hrel
        clear OX bel0 R0 HN
        by_cases hki : k < i'
        · obtain ⟨y, hy⟩ : ∃ y, y = k + 1 := ⟨_, rfl⟩
          have e2 : (k : Int) + 1 = (y : Int) := by omega
          have lx : k < n := by omega
          have ly : y < n := by omega
          have nxy : ¬ k = y := by omega
          obtain ⟨g', hg', hbg, lg, hfr, hcs⟩ := HO.out.head (by omega)
          injection hg' with hg'; injection hg' with hg'
          subst hg'
          obtain ⟨xx, xy⟩ := hcs k lx
          obtain ⟨yx, yy⟩ := hcs y ly
          have f1 := hfr (k * 2)
          have f2 := hfr (k * 2 + 1)
          have f3 := hfr (y * 2)
          have f4 := hfr (y * 2 + 1)
          have q1 : (0 : Int) ≤ (k : Int) := by omega
          have q2 : (k : Int) < (n : Int) := by omega
          have q3 : (0 : Int) ≤ (y : Int) := by omega
          have q4 : (y : Int) < (n : Int) := by omega
          have SW := hide (fun (W : World) (hW : OwnR W base (.slice (some ⟨gb, 0, none⟩) n c) cs) => hW.swap lx ly)
          have NG : Hid (gp (swapL cs k y) = rot a m (y + 1) (gp ds)) := hide (by rw [gp_swapL (by rw [HL.out]; exact lx) (by rw [HL.out]; exact ly), HG.out, hy]; exact RU.out k hk1)
          have NL : Hid ((swapL cs k y).length = n) := hide (by rw [swapL_len]; exact HL.out)
          have OD := hide (HO.out.below (drawn_below wr))
          clear hfr hcs HL HG RU RES hi' hm
          generalize pX cs k = X1 at *
          generalize pY cs k = Y1 at *
          generalize pX cs y = X2 at *
          generalize pY cs y = Y2 at *
          clear hy
          go_wp2_with fail
          go_region
          all_goals
            go_wp2_with fail
            exact ⟨⟨y, swapL cs k y, by omega, by omega, by go_num, NL, NG, hide (SW.out _ OD.out), swap_below hbg (hbel.trans (drawn_below wr |>.mono (by have := hbel.size; omega))) _ _ _ _ _ _ _ _⟩, by simp [intOf]; omega⟩
        · have ek : k = i' := by omega
          have PO : Hid (PostM K a b (gp ds) (gp cs)) := hide (by rw [HG.out, ek, hi', show j - 1 + 1 = j by omega]; exact RES.out)
          clear ek hi' RES HG RU hm
          go_wp2_with fail
          (try simp only [Exit.inBlock, Exit.then])
          refine bodyPost_ret (results_none rfl _ _ _) rfl ?_
          exact ⟨rfl, cs, HL.out, PO.out, HO.out, hbel⟩
end Go.Proofs.YtnddfdhfefconaaGreatDoor
namespace Go.Proofs.YtnddfdhfefconaaGreatDoor
open Go.RowKit

def ge2 (K : Pt → Int) (d : Nat → Pt) (m : Nat) : Nat → Prop := fun h => ¬ K (d m) < K (d h)
def ge3 (K : Pt → Int) (d : Nat → Pt) (p : Nat) : Nat → Prop := fun c => ¬ K (d (p - c)) < K (d c)
set_option maxRecDepth 20000 in
set_option maxHeartbeats 8000000 in
theorem sym2_any (g : Nat) (lb : Array Value) (K : Pt → Int) (V : Pt → Prop) (w0 : World) (ds : List Pt) (gb n c a m base : Nat) (w : World) (eg : ∀ args w, (callFunc g args).run Tryz.prog w = .ok (.enter g args) w) (hC : CmpB g lb K V base w0) (hn : ds.length = n) (hn2 : n ≤ 1000) (ham : a + 1 < m) (hmn : m + 1 ≤ n)
    (hV : AllV V n (gp ds)) (hA : PreM K a m (m + 1) (gp ds)) (hown : OwnR w base (.slice (some ⟨gb, 0, none⟩) n c) ds) (h0 : Below base w0 w) (hb : base ≤ w.heap.size) :
    Calls Tryz.prog 235 #[.slice (some ⟨gb, 0, none⟩) n c, .int .i64 a, .int .i64 m, .int .i64 ((m + 1 : Nat) : Int), .func (.func g) #[] lb] w fun e w' => e = .returned (.tuple #[]) ∧ ∃ ds', ds'.length = n ∧ PostM K a (m + 1) (gp ds) (gp ds') ∧ OwnR w' base (.slice (some ⟨gb, 0, none⟩) n c) ds' ∧ Below base w w' := by
  obtain ⟨b, hb1⟩ : ∃ b, b = m + 1 := ⟨_, rfl⟩
  rw [← hb1]
  have HN := hide hn
  have H0 := hide hown
  have HC := hide hC
  have HV := hide hV
  have B0 : Hid (Bs a m a m (ge2 K (gp ds) m)) := hide (Bs.start _ (by omega))
  have BU := hide (fun i j h (hb : Bs a m i j (ge2 K (gp ds) m)) h1 h2 hp => hb.up (h := h) (show Dn a m (ge2 K (gp ds) m) from hA.dn2 _) h1 h2 hp)
  have BD := hide (fun i j h (hb : Bs a m i j (ge2 K (gp ds) m)) h1 h2 hp => hb.down (h := h) (show Dn a m (ge2 K (gp ds) m) from hA.dn2 _) h1 h2 hp)
  have ONE := hide (fun i (hb : Bs a m i i (ge2 K (gp ds) m)) => hA.one2 hb)
  have RU := hide (fun k (h0 : 0 < k) (h : k ≤ m) => rot_down (m := m) (k := k) (gp ds) h0 h)
  rw [← hb1] at ONE RU
  have R0 : Hid (gp ds = rot m m b (gp ds)) := hide (rot_same m b (gp ds)).1.symm
  have e0 : ((m : Int) - (a : Int) == 1) = false := by rw [beq_eq_false_iff_ne]; omega
  have e1 : (b : Int) - (m : Int) = 1 := by omega
  have HM := hide hb1
  clear hn hown hC hV hA hb1
  go_enter Tryz.func235, Tryz.ntmps235
  go_wp2_with fail
  go_loopw [14, 15] (fun u14 u15 wr => ∃ (i j : Nat), a ≤ i ∧ i ≤ j ∧ j ≤ m ∧ u14 = .int .i64 i ∧ u15 = .int .i64 j ∧ Hid (Bs a m i j (ge2 K (gp ds) m)) ∧ ∃ x, wr = ext w x) (fun u14 u15 _ => (intOf u15).toNat - (intOf u14).toNat)
  case atStart => exact ⟨a, m, Nat.le_refl _, by omega, Nat.le_refl _, rfl, rfl, B0, ext_same _⟩
  case round =>
    obtain ⟨i, j, hi1, hij, hj2, rfl, rfl, HB, x, rfl⟩ := hrel
    by_cases hlt : i < j
    · obtain ⟨h, hh⟩ : ∃ h, h = (i + j) / 2 := ⟨_, rfl⟩
      have eh : ((i : Int) + (j : Int)) / 2 = (h : Int) := by omega
      have lh : h < n := by omega
      have la : m < n := by omega
      have hih : i ≤ h := by omega
      have hhj : h < j := by omega
      obtain ⟨g', hg', hbg, lg, hfr, hcs⟩ := H0.out.head (by omega)
      injection hg' with hg'; injection hg' with hg'
      subst hg'
      obtain ⟨xx, xy⟩ := hcs h lh
      obtain ⟨yx, yy⟩ := hcs m la
      have q1 : (0 : Int) ≤ (h : Int) := by omega
      have q2 : (h : Int) < (n : Int) := by omega
      have q3 : (0 : Int) ≤ (m : Int) := by omega
      have q4 : (m : Int) < (n : Int) := by omega
      have zx := ext_size w x
      have CMP : Hid (∀ W, Below w.heap.size w W → Calls Tryz.prog g (#[.agg #[.int .i64 (pX ds m), .int .i64 (pY ds m)], .agg #[.int .i64 (pX ds h), .int .i64 (pY ds h)]] ++ lb) W fun e w' => e = .returned (.int .i64 (sgn (K (gp ds m) - K (gp ds h)))) ∧ ∃ x, w' = ext W x) := hide (fun W hW => HC.out W (gp ds m) (gp ds h) (h0.trans (hW.mono hb)) (HV.out m la) (HV.out h lh))
      have NO : K (gp ds m) < K (gp ds h) → Hid (Bs a m i h (ge2 K (gp ds) m)) := fun hp => hide (BD.out i j h HB.out hih hhj (fun hc => hc hp))
      have YES : ¬ K (gp ds m) < K (gp ds h) → Hid (Bs a m (h + 1) j (ge2 K (gp ds) m)) := fun hp => hide (BU.out i j h HB.out hih hhj hp)
      clear hcs hfr hh HB B0 BU BD ONE RU R0 HC HV
      by_cases hk : K (gp ds m) < K (gp ds h)
      · have NOk := NO hk
        have dk : sgn (K (gp ds m) - K (gp ds h)) < 0 := by unfold sgn; split <;> omega
        clear YES NO
        generalize hz : sgn (K (gp ds m) - K (gp ds h)) = z at *
        clear hz hk
        generalize pX ds h = X1 at *
        generalize pY ds h = Y1 at *
        generalize pX ds m = X2 at *
        generalize pY ds m = Y2 at *
        go_wp2_with fail
        refine wp_region_ext (by kernel_rfl) (by kernel_rfl) ?_
        repeat (go_big_quiet_step ((first | go_at_fn g; exact Calls.in_ext (CMP.out _ (by (repeat' (first | (with_reducible first | exact Below.refl _ _ | assumption | refine below_ext _ ?_ ?_ | refine Below.alloc ?_ ?_ _ | refine Below.drew ?_ | refine below_drewN ?_ _ | refine le_drewN _ ?_ | refine Below.setCell ?_ ?_ _ | exact Nat.le_refl _ | refine le_ext _ ?_ | refine le_alloc _ ?_ | refine le_setCell _ _ ?_ | refine le_drew ?_) | omega | (simp; done) | (simp; omega))))))))
        refine wpQuiet_nil ?_
        rintro _ hnq
        have hzq := ext_sz hnq
        obtain ⟨nq, rfl⟩ := hnq
        (try simp at hzq)
        go_wp2_with fail
        exact ⟨⟨i, h, hi1, hih, by omega, rfl, rfl, NOk, (ext_mk (by (repeat' (first | (with_reducible first | exact Below.refl _ _ | assumption | refine below_ext _ ?_ ?_ | refine Below.alloc ?_ ?_ _ | refine Below.drew ?_ | refine below_drewN ?_ _ | refine le_drewN _ ?_ | refine Below.setCell ?_ ?_ _ | exact Nat.le_refl _ | refine le_ext _ ?_ | refine le_alloc _ ?_ | refine le_setCell _ _ ?_ | refine le_drew ?_) | omega | (simp; done) | (simp; omega)))))⟩, by simp [intOf]; omega⟩
      · have YESk := YES hk
        have dk : ¬ sgn (K (gp ds m) - K (gp ds h)) < 0 := by
          unfold sgn
          split
          · omega
          · split <;> omega
        have dkb := decide_eq_false dk
        clear YES NO
        generalize hz : sgn (K (gp ds m) - K (gp ds h)) = z at *
        clear hz hk
        generalize pX ds h = X1 at *
        generalize pY ds h = Y1 at *
        generalize pX ds m = X2 at *
        generalize pY ds m = Y2 at *
        go_wp2_with fail
        refine wp_region_ext (by kernel_rfl) (by kernel_rfl) ?_
        repeat (go_big_quiet_step ((first | go_at_fn g; exact Calls.in_ext (CMP.out _ (by (repeat' (first | (with_reducible first | exact Below.refl _ _ | assumption | refine below_ext _ ?_ ?_ | refine Below.alloc ?_ ?_ _ | refine Below.drew ?_ | refine below_drewN ?_ _ | refine le_drewN _ ?_ | refine Below.setCell ?_ ?_ _ | exact Nat.le_refl _ | refine le_ext _ ?_ | refine le_alloc _ ?_ | refine le_setCell _ _ ?_ | refine le_drew ?_) | omega | (simp; done) | (simp; omega))))))))
        refine wpQuiet_nil ?_
        rintro _ hnq
        have hzq := ext_sz hnq
        obtain ⟨nq, rfl⟩ := hnq
        (try simp at hzq)
        go_wp2_with fail
        exact ⟨⟨h + 1, j, by omega, by omega, hj2, by go_num, rfl, YESk, (ext_mk (by (repeat' (first | (with_reducible first | exact Below.refl _ _ | assumption | refine below_ext _ ?_ ?_ | refine Below.alloc ?_ ?_ _ | refine Below.drew ?_ | refine below_drewN ?_ _ | refine le_drewN _ ?_ | refine Below.setCell ?_ ?_ _ | exact Nat.le_refl _ | refine le_ext _ ?_ | refine le_alloc _ ?_ | refine le_setCell _ _ ?_ | refine le_drew ?_) | omega | (simp; done) | (simp; omega)))))⟩, by simp [intOf]; omega⟩
    · have eij : j = i := by omega
      subst eij
      have hm := HM.out
      have RES := hide (ONE.out j HB.out)
      have OX := hide (H0.out.below (ext_below w x))
      have bel0 : Below base w (ext w x) := (ext_below w x).mono hb
      generalize ext w x = W1 at *
      clear HB B0 BU BD ONE HC HV H0
      go_wp2_with fail
      go_loopw [17] (fun u17 wr => ∃ (k : Nat) (cs : List Pt), j ≤ k ∧ k ≤ m ∧ u17 = .int .i64 k ∧ Hid (cs.length = n) ∧ Hid (gp cs = rot k m b (gp ds)) ∧ Hid (OwnR wr base (.slice (some ⟨gb, 0, none⟩) n c) cs) ∧ Below base w wr) (fun u17 _ => (intOf u17).toNat)
      case atStart => exact ⟨m, ds, hj2, Nat.le_refl _, rfl, HN, R0, OX, bel0⟩
      case round =>
        obtain ⟨k, cs, hk1, hk2, rfl, HL, HG, HO, hbel⟩ := hrel
        clear OX bel0 R0 HN
        by_cases hki : j < k
        · obtain ⟨y, hy⟩ : ∃ y, y = k - 1 := ⟨_, rfl⟩
          have e2 : (k : Int) - 1 = (y : Int) := by omega
          have lx : k < n := by omega
          have ly : y < n := by omega
          have nxy : ¬ k = y := by omega
          obtain ⟨g', hg', hbg, lg, hfr, hcs⟩ := HO.out.head (by omega)
          injection hg' with hg'; injection hg' with hg'
          subst hg'
          obtain ⟨xx, xy⟩ := hcs k lx
          obtain ⟨yx, yy⟩ := hcs y ly
          have f1 := hfr (k * 2)
          have f2 := hfr (k * 2 + 1)
          have f3 := hfr (y * 2)
          have f4 := hfr (y * 2 + 1)
          have q1 : (0 : Int) ≤ (k : Int) := by omega
          have q2 : (k : Int) < (n : Int) := by omega
          have q3 : (0 : Int) ≤ (y : Int) := by omega
          have q4 : (y : Int) < (n : Int) := by omega
          have SW := hide (fun (W : World) (hW : OwnR W base (.slice (some ⟨gb, 0, none⟩) n c) cs) => hW.swap lx ly)
          have NG : Hid (gp (swapL cs k y) = rot y m b (gp ds)) := hide (by rw [gp_swapL (by rw [HL.out]; exact lx) (by rw [HL.out]; exact ly), HG.out, hy]; exact RU.out k (by omega) hk2)
          have NL : Hid ((swapL cs k y).length = n) := hide (by rw [swapL_len]; exact HL.out)
          have OD := hide (HO.out.below (drawn_below wr))
          clear hfr hcs HL HG RU RES hm
          generalize pX cs k = X1 at *
          generalize pY cs k = Y1 at *
          generalize pX cs y = X2 at *
          generalize pY cs y = Y2 at *
          have jy : j ≤ y := by omega
          have yk : y < k := by omega
          clear hy
          go_wp2_with fail
          go_region
          all_goals
            go_wp2_with fail
            exact ⟨⟨y, swapL cs k y, jy, by omega, by go_num, NL, NG, hide (SW.out _ OD.out), swap_below hbg (hbel.trans (drawn_below wr |>.mono (by have := hbel.size; omega))) _ _ _ _ _ _ _ _⟩, by simp [intOf]; omega⟩
        · have ek : k = j := by omega
          have PO : Hid (PostM K a b (gp ds) (gp cs)) := hide (by rw [HG.out, ek]; exact RES.out)
          clear ek RES HG RU hm
          go_wp2_with fail
          (try simp only [Exit.inBlock, Exit.then])
          refine bodyPost_ret (results_none rfl _ _ _) rfl ?_
          exact ⟨rfl, cs, HL.out, PO.out, HO.out, hbel⟩
/-- GENERAL -/
theorem ge3_dn {K : Pt → Int} {a m b p : Nat} {d : Nat → Pt} (h : PreM K a m b d) (h1 : a < m) (h2 : m < b) (hp : p = (a + b) / 2 + m - 1) : Dn (sLo a m b) (sHi a m b) (ge3 K d p) := by
  rw [hp]; exact h.dn3 h1 h2
set_option maxRecDepth 20000 in
set_option maxHeartbeats 16000000 in
theorem sym_any (g : Nat) (lb : Array Value) (K : Pt → Int) (V : Pt → Prop) (w0 : World) (gb n c base : Nat) (eg : ∀ args w, (callFunc g args).run Tryz.prog w = .ok (.enter g args) w) (hC : CmpB g lb K V base w0) (hn2 : n ≤ 1000) :
    ∀ (f : Nat) (ds : List Pt) (a m b : Nat) (w : World), b ≤ a + f → ds.length = n → a < m → m < b → b ≤ n → AllV V n (gp ds) → PreM K a m b (gp ds) → OwnR w base (.slice (some ⟨gb, 0, none⟩) n c) ds → Below base w0 w → base ≤ w.heap.size →
    Calls Tryz.prog 235 #[.slice (some ⟨gb, 0, none⟩) n c, .int .i64 a, .int .i64 m, .int .i64 b, .func (.func g) #[] lb] w fun e w' => e = .returned (.tuple #[]) ∧ ∃ ds', ds'.length = n ∧ PostM K a b (gp ds) (gp ds') ∧ OwnR w' base (.slice (some ⟨gb, 0, none⟩) n c) ds' ∧ Below base w w' := by
  intro f
  induction f with
  | zero => intro ds a m b w hf hn ham hmb; omega
  | succ f ih =>
    intro ds a m b w hf hn ham hmb hbn hV hA hown h0 hb
    by_cases em : m = a + 1
    · subst em
      exact sym1_any g lb K V w0 ds gb n c a b base w eg hC hn hn2 hmb hbn hV hA hown h0 hb
    by_cases eb : b = m + 1
    · subst eb
      exact sym2_any g lb K V w0 ds gb n c a m base w eg hC hn hn2 (by omega) hbn hV hA hown h0 hb
    obtain ⟨mid, hmid⟩ : ∃ mid, mid = (a + b) / 2 := ⟨_, rfl⟩
    obtain ⟨N, hN⟩ : ∃ N, N = mid + m := ⟨_, rfl⟩
    obtain ⟨p, hp⟩ : ∃ p, p = mid + m - 1 := ⟨_, rfl⟩
    obtain ⟨lo, hlo⟩ : ∃ lo, lo = sLo a m b := ⟨_, rfl⟩
    obtain ⟨hi, hhi⟩ : ∃ hi, hi = sHi a m b := ⟨_, rfl⟩
    have HN := hide hn
    have H0 := hide hown
    have HC := hide hC
    have HV := hide hV
    have DN : Dn lo hi (ge3 K (gp ds) p) := by rw [hlo, hhi]; exact ge3_dn hA ham hmb (by rw [hp, hmid])
    have SL : a ≤ lo ∧ lo ≤ hi ∧ hi ≤ m ∧ hi ≤ mid ∧ N - b ≤ lo := by
      have := sLH ham hmb
      rw [← hlo, ← hhi, ← hmid] at this
      have h5 : N - b ≤ lo := by rw [hlo, hN, hmid]; unfold sLo; split <;> omega
      omega
    have IX : Hid (∀ h, lo ≤ h → h < hi → h ≤ p ∧ p - h < n ∧ h < n) := hide (fun h h1 h2 => by
      obtain ⟨l1, l2, l3, l4, l5⟩ := SL
      omega)
    have B0 : Hid (Bs lo hi lo hi (ge3 K (gp ds) p)) := hide (Bs.start _ SL.2.1)
    have BU := hide (fun i j h (hb : Bs lo hi i j (ge3 K (gp ds) p)) h1 h2 hp => hb.up (h := h) DN h1 h2 hp)
    have BD := hide (fun i j h (hb : Bs lo hi i j (ge3 K (gp ds) p)) h1 h2 hp => hb.down (h := h) DN h1 h2 hp)
    have CUT := hide (fun s (hb : Bs lo hi s s (ge3 K (gp ds) p)) => hA.cut ham hmb (s := s) (by rw [← hlo, ← hhi, ← hmid, ← hp]; exact hb))
    rw [← hmid, ← hN] at CUT
    have IH := hide (fun (cs : List Pt) (x y z : Nat) (W : World) h1 h2 h3 h4 h5 h6 h7 h8 h9 h10 => ih cs x y z W h1 h2 h3 h4 h5 h6 h7 h8 h9 h10)
    have LOE : Hid (mid < m → (lo : Int) = (N : Int) - (b : Int) ∧ hi = mid) := hide (fun h => by
      rw [hlo, hhi]; unfold sLo sHi; rw [← hmid, if_pos h, if_pos h]; omega)
    have LOA : Hid (¬ mid < m → lo = a ∧ hi = m) := hide (fun h => by
      rw [hlo, hhi]; unfold sLo sHi; rw [← hmid, if_neg h, if_neg h]; exact ⟨rfl, rfl⟩)
    have e0 : ((m : Int) - (a : Int) == 1) = false := by rw [beq_eq_false_iff_ne]; omega
    have e1 : ((b : Int) - (m : Int) == 1) = false := by rw [beq_eq_false_iff_ne]; omega
    have e2 : ((a : Int) + (b : Int)) / 2 = (mid : Int) := by omega
    have e3 : (mid : Int) + (m : Int) = (N : Int) := by omega
    have e4 : (N : Int) - 1 = (p : Int) := by omega
    obtain ⟨l1, l2, l3, l4, l5⟩ := SL
    have hpN : p + 1 = N := by omega
    have hNm : N ≤ 2 * n := by omega
    have k1 : mid < b := by omega
    have k2 : a ≤ mid := by omega
    have HMID := hide hmid
    have HNN := hide hN
    clear hn hown hC hV hA DN ih hlo hhi hmid hN hp
    go_enter Tryz.func235, Tryz.ntmps235
    go_upto_if 140 with (fail)
    go_cut [20, 21] (fun u20 u21 wx => u20 = .int .i64 lo ∧ u21 = .int .i64 hi ∧ wx = w)
    case first =>
      by_cases hc : mid < m
      · have e5 := (LOE.out hc).1.symm
        have e6 := hide (LOE.out hc).2
        go_wp2_with fail
        go_meet
        exact ⟨rfl, by rw [e6.out], rfl⟩
      · have e5 := hide (LOA.out hc).1
        have e6 := hide (LOA.out hc).2
        go_wp2_with fail
        go_meet
        exact ⟨by rw [e5.out], by rw [e6.out], rfl⟩
    case rest =>
      obtain ⟨rfl, rfl, rfl⟩ := hcut
      clear LOE LOA
      go_wp2_with fail
      go_loopw [20, 21] (fun u20 u21 wr => ∃ (i j : Nat), lo ≤ i ∧ i ≤ j ∧ j ≤ hi ∧ u20 = .int .i64 i ∧ u21 = .int .i64 j ∧ Hid (Bs lo hi i j (ge3 K (gp ds) p)) ∧ ∃ x, wr = ext wc x) (fun u20 u21 _ => (intOf u21).toNat - (intOf u20).toNat)
      case atStart => exact ⟨lo, hi, Nat.le_refl _, l2, Nat.le_refl _, rfl, rfl, B0, ext_same _⟩
      case round =>
        obtain ⟨i, j, hi1, hij, hj2, rfl, rfl, HB, x, rfl⟩ := hrel
        by_cases hlt : i < j
        · obtain ⟨h, hh⟩ : ∃ h, h = (i + j) / 2 := ⟨_, rfl⟩
          have eh : ((i : Int) + (j : Int)) / 2 = (h : Int) := by omega
          have hih : i ≤ h := by omega
          have hhj : h < j := by omega
          obtain ⟨lph, la', lh⟩ := IX.out h (by omega) (by omega)
          obtain ⟨a', ha'⟩ : ∃ a', a' = p - h := ⟨_, rfl⟩
          rw [← ha'] at la'
          have ea : (p : Int) - (h : Int) = (a' : Int) := by omega
          obtain ⟨g', hg', hbg, lg, hfr, hcs⟩ := H0.out.head (by omega)
          injection hg' with hg'; injection hg' with hg'
          subst hg'
          obtain ⟨xx, xy⟩ := hcs h lh
          obtain ⟨yx, yy⟩ := hcs a' la'
          have q1 : (0 : Int) ≤ (h : Int) := by omega
          have q2 : (h : Int) < (n : Int) := by omega
          have q3 : (0 : Int) ≤ (a' : Int) := by omega
          have q4 : (a' : Int) < (n : Int) := by omega
          have zx := ext_size wc x
          have CMP : Hid (∀ W, Below wc.heap.size wc W → Calls Tryz.prog g (#[.agg #[.int .i64 (pX ds a'), .int .i64 (pY ds a')], .agg #[.int .i64 (pX ds h), .int .i64 (pY ds h)]] ++ lb) W fun e w' => e = .returned (.int .i64 (sgn (K (gp ds a') - K (gp ds h)))) ∧ ∃ x, w' = ext W x) := hide (fun W hW => HC.out W (gp ds a') (gp ds h) (h0.trans (hW.mono hb)) (HV.out a' la') (HV.out h lh))
          have NO : K (gp ds a') < K (gp ds h) → Hid (Bs lo hi i h (ge3 K (gp ds) p)) := fun hp => hide (BD.out i j h HB.out hih hhj (fun hc => hc (by rw [← ha']; exact hp)))
          have YES : ¬ K (gp ds a') < K (gp ds h) → Hid (Bs lo hi (h + 1) j (ge3 K (gp ds) p)) := fun hp => hide (BU.out i j h HB.out hih hhj (fun hc => hp (by rw [ha']; exact hc)))
          clear hcs hfr hh HB B0 BU BD CUT HC HV IH ha' IX HMID HNN l1 l2 l3 l4 l5 hpN hNm k1 k2
          by_cases hk : K (gp ds a') < K (gp ds h)
          · have NOk := NO hk
            have dk : sgn (K (gp ds a') - K (gp ds h)) < 0 := by unfold sgn; split <;> omega
            clear YES NO
            generalize hz : sgn (K (gp ds a') - K (gp ds h)) = z at *
            clear hz hk
            generalize pX ds h = X1 at *
            generalize pY ds h = Y1 at *
            generalize pX ds a' = X2 at *
            generalize pY ds a' = Y2 at *
            as_aux_lemma =>
              go_wp2_with fail
              refine wp_region_ext (by kernel_rfl) (by kernel_rfl) ?_
              repeat (go_big_quiet_step ((first | go_at_fn g; exact Calls.in_ext (CMP.out _ (by (repeat' (first | (with_reducible first | exact Below.refl _ _ | assumption | refine below_ext _ ?_ ?_ | refine Below.alloc ?_ ?_ _ | refine Below.drew ?_ | refine below_drewN ?_ _ | refine le_drewN _ ?_ | refine Below.setCell ?_ ?_ _ | exact Nat.le_refl _ | refine le_ext _ ?_ | refine le_alloc _ ?_ | refine le_setCell _ _ ?_ | refine le_drew ?_) | omega | (simp; done) | (simp; omega))))))))
              refine wpQuiet_nil ?_
              rintro _ hnq
              have hzq := ext_sz hnq
              obtain ⟨nq, rfl⟩ := hnq
              (try simp at hzq)
              go_wp2_with fail
              exact ⟨⟨i, h, hi1, hih, by omega, rfl, rfl, NOk, (ext_mk (by (repeat' (first | (with_reducible first | exact Below.refl _ _ | assumption | refine below_ext _ ?_ ?_ | refine Below.alloc ?_ ?_ _ | refine Below.drew ?_ | refine below_drewN ?_ _ | refine le_drewN _ ?_ | refine Below.setCell ?_ ?_ _ | exact Nat.le_refl _ | refine le_ext _ ?_ | refine le_alloc _ ?_ | refine le_setCell _ _ ?_ | refine le_drew ?_) | omega | (simp; done) | (simp; omega)))))⟩, by simp [intOf]; omega⟩
          · have YESk := YES hk
            have dk : ¬ sgn (K (gp ds a') - K (gp ds h)) < 0 := by
              unfold sgn
              split
              · omega
              · split <;> omega
            have dkb := decide_eq_false dk
            clear YES NO
            generalize hz : sgn (K (gp ds a') - K (gp ds h)) = z at *
            clear hz hk
            generalize pX ds h = X1 at *
            generalize pY ds h = Y1 at *
            generalize pX ds a' = X2 at *
            generalize pY ds a' = Y2 at *
            as_aux_lemma =>
              go_wp2_with fail
              refine wp_region_ext (by kernel_rfl) (by kernel_rfl) ?_
              repeat (go_big_quiet_step ((first | go_at_fn g; exact Calls.in_ext (CMP.out _ (by (repeat' (first | (with_reducible first | exact Below.refl _ _ | assumption | refine below_ext _ ?_ ?_ | refine Below.alloc ?_ ?_ _ | refine Below.drew ?_ | refine below_drewN ?_ _ | refine le_drewN _ ?_ | refine Below.setCell ?_ ?_ _ | exact Nat.le_refl _ | refine le_ext _ ?_ | refine le_alloc _ ?_ | refine le_setCell _ _ ?_ | refine le_drew ?_) | omega | (simp; done) | (simp; omega))))))))
              refine wpQuiet_nil ?_
              rintro _ hnq
              have hzq := ext_sz hnq
              obtain ⟨nq, rfl⟩ := hnq
              (try simp at hzq)
              go_wp2_with fail
              exact ⟨⟨h + 1, j, by omega, by omega, hj2, by go_num, rfl, YESk, (ext_mk (by (repeat' (first | (with_reducible first | exact Below.refl _ _ | assumption | refine below_ext _ ?_ ?_ | refine Below.alloc ?_ ?_ _ | refine Below.drew ?_ | refine below_drewN ?_ _ | refine le_drewN _ ?_ | refine Below.setCell ?_ ?_ _ | exact Nat.le_refl _ | refine le_ext _ ?_ | refine le_alloc _ ?_ | refine le_setCell _ _ ?_ | refine le_drew ?_) | omega | (simp; done) | (simp; omega)))))⟩, by simp [intOf]; omega⟩
        · have eij : j = i := by omega
          subst eij
          have OX := hide (H0.out.below (ext_below wc x))
          have bel0 : Below base wc (ext wc x) := (ext_below wc x).mono hb
          have CT := hide (CUT.out j HB.out)
          generalize ext wc x = W1 at *
          obtain ⟨t, ht⟩ : ∃ t, t = N - j := ⟨_, rfl⟩
          have et : (N : Int) - (j : Int) = (t : Int) := by omega
          rw [← ht] at CT
          have t1 : m ≤ t := by omega
          have t2 : t ≤ b := by omega
          have jm : j ≤ m := by omega
          have jmid : j ≤ mid := by omega
          have tmid : mid ≤ t := by omega
          have aj : a ≤ j := by omega
          have zb1 := bel0.size
          have GR : Hid (j < m → m < t → ∀ W, base ≤ W.heap.size → OwnR W base (.slice (some ⟨gb, 0, none⟩) n c) ds → Calls Tryz.prog 250 #[.slice (some ⟨gb, 0, none⟩) n c, .int .i64 j, .int .i64 m, .int .i64 t, .func (.func g) #[] lb] W fun e w' => e = .returned (.tuple #[]) ∧ ∃ ds', ds'.length = n ∧ gp ds' = rot j m t (gp ds) ∧ OwnR w' base (.slice (some ⟨gb, 0, none⟩) n c) ds' ∧ Below base W w') := hide (fun h1 h2 W hW hO => rotate_any ds gb n c j m t base (.func (.func g) #[] lb) W HN.out hn2 h1 h2 (by omega) hO hW)
          obtain ⟨e, he⟩ : ∃ e, e = rot j m t (gp ds) := ⟨_, rfl⟩
          rw [← he] at GR
          have CTe := hide (CT.out e he)
          have MVe : Hid (Mv j t (gp ds) e) := hide (by rw [he]; exact rot_mv _ jm t1)
          have VE : Hid (AllV V n e) := hide (HV.out.mv MVe.out (by omega))
          have SAME : Hid (¬ (j < m ∧ m < t) → gp ds = e) := hide (fun hc => by
            rw [he]
            by_cases h1 : j = m
            · rw [h1]; exact (rot_same m t (gp ds)).1.symm
            · rw [show t = m by omega]; exact (rot_same j m (gp ds)).2.symm)
          have PM1 := hide CTe.out.1
          have PM2 := hide CTe.out.2.1
          have FAR := hide CTe.out.2.2
          have RES := hide (fun (e1 e2 : Nat → Pt) (h1 : PostM K a mid e e1) (h2 : PostM K mid b e1 e2) => merged (MVe.out.wide aj t2) k2 (Nat.le_of_lt k1) FAR.out h1 h2)
          clear HB B0 BU BD CUT HMID HNN IX CT CTe he ht
          obtain ⟨w, hw⟩ : ∃ w, w = wc := ⟨_, rfl⟩
          subst hw
          go_upto_region 39 with (fail)
          go_cut [185] (fun u185 wx => u185 = .bool (decide (j < m ∧ m < t)) ∧ wx = W1)
          case first =>
            by_cases c1 : j < m
            · by_cases c2 : m < t
              · have d3 : decide (j < m ∧ m < t) = true := decide_eq_true ⟨c1, c2⟩
                have d2 : decide (m < t) = true := decide_eq_true c2
                have d1 : decide (j < m) = true := decide_eq_true c1
                clear GR SAME RES FAR IH
                as_aux_lemma =>
                  go_wp2_with fail
                  go_meet
                  exact ⟨by rw [d3], rfl⟩
              · have d3 : decide (j < m ∧ m < t) = false := decide_eq_false (fun h => c2 h.2)
                have d2 : decide (m < t) = false := decide_eq_false c2
                have d1 : decide (j < m) = true := decide_eq_true c1
                clear GR SAME RES FAR IH
                as_aux_lemma =>
                  go_wp2_with fail
                  go_meet
                  exact ⟨by rw [d3], rfl⟩
            · have d3 : decide (j < m ∧ m < t) = false := decide_eq_false (fun h => c1 h.1)
              have d1 : decide (j < m) = false := decide_eq_false c1
              clear GR SAME RES FAR IH
              as_aux_lemma =>
                go_wp2_with fail
                go_meet
                exact ⟨by rw [d3], rfl⟩
          case rest =>
            obtain ⟨rfl, hw1⟩ := hcut
            subst hw1
            go_upto_if 185 with (fail)
            go_cut [] (fun wx => ∃ cs : List Pt, Hid (cs.length = n) ∧ Hid (gp cs = e) ∧ Hid (OwnR wx base (.slice (some ⟨gb, 0, none⟩) n c) cs) ∧ Below base w wx)
            case first =>
              by_cases c0 : j < m ∧ m < t
              · have GRk := hide (GR.out c0.1 c0.2 wc (by omega) OX.out)
                have d3 : decide (j < m ∧ m < t) = true := decide_eq_true c0
                clear IH GR RES FAR SAME
                as_aux_lemma =>
                  go_wp2_with fail
                  refine GRk.out.mono ?_
                  rintro e9 w9 ⟨rfl, cs, l9, g9, o9, b9⟩
                  have L9 := hide l9
                  have G9 := hide g9
                  have O9 := hide o9
                  clear l9 g9 o9
                  go_wp2_with fail
                  go_meet
                  exact ⟨cs, L9, G9, O9, bel0.trans b9⟩
              · have SM := hide (SAME.out c0)
                have d3 : decide (j < m ∧ m < t) = false := decide_eq_false c0
                clear IH GR RES FAR SAME
                as_aux_lemma =>
                  go_wp2_with fail
                  go_meet
                  exact ⟨ds, HN, SM, OX, bel0⟩
            case rest =>
              clear OX bel0 zb1 GR SAME HN H0
              obtain ⟨cs, HL, HG, HO, hbel⟩ := hcut
              obtain ⟨w1, hw1⟩ : ∃ w1, w1 = wc := ⟨_, rfl⟩
              subst hw1
              have zb1 := hbel.size
              have IHk : Hid (a < j → j < mid → Calls Tryz.prog 235 #[.slice (some ⟨gb, 0, none⟩) n c, .int .i64 a, .int .i64 j, .int .i64 mid, .func (.func g) #[] lb] w1 fun e9 w' => e9 = .returned (.tuple #[]) ∧ ∃ ds', ds'.length = n ∧ PostM K a mid e (gp ds') ∧ OwnR w' base (.slice (some ⟨gb, 0, none⟩) n c) ds' ∧ Below base w1 w') := hide (fun h1 h2 => by
                have := IH.out cs a j mid w1 (by omega) HL.out h1 h2 (by omega) (by rw [HG.out]; exact VE.out) (by rw [HG.out]; exact PM1.out) HO.out (h0.trans hbel) (by omega)
                rwa [HG.out] at this)
              have SAME : Hid (¬ (a < j ∧ j < mid) → PostM K a mid e (gp cs)) := hide (fun hc => by
                rw [HG.out]; exact PM1.out.left hc aj jmid)
              go_upto_region 41 with (fail)
              go_cut [199] (fun u199 wx => u199 = .bool (decide (a < j ∧ j < mid)) ∧ wx = w1)
              case first =>
                by_cases c1 : a < j
                · by_cases c2 : j < mid
                  · have d3 : decide (a < j ∧ j < mid) = true := decide_eq_true ⟨c1, c2⟩
                    have d2 : decide (j < mid) = true := decide_eq_true c2
                    have d1 : decide (a < j) = true := decide_eq_true c1
                    clear IHk SAME RES FAR IH
                    as_aux_lemma =>
                      go_wp2_with fail
                      go_meet
                      exact ⟨by rw [d3], rfl⟩
                  · have d3 : decide (a < j ∧ j < mid) = false := decide_eq_false (fun h => c2 h.2)
                    have d2 : decide (j < mid) = false := decide_eq_false c2
                    have d1 : decide (a < j) = true := decide_eq_true c1
                    clear IHk SAME RES FAR IH
                    as_aux_lemma =>
                      go_wp2_with fail
                      go_meet
                      exact ⟨by rw [d3], rfl⟩
                · have d3 : decide (a < j ∧ j < mid) = false := decide_eq_false (fun h => c1 h.1)
                  have d1 : decide (a < j) = false := decide_eq_false c1
                  clear IHk SAME RES FAR IH
                  as_aux_lemma =>
                    go_wp2_with fail
                    go_meet
                    exact ⟨by rw [d3], rfl⟩
              case rest =>
                obtain ⟨rfl, hw1⟩ := hcut
                subst hw1
                go_upto_if 199 with (fail)
                go_cut [] (fun wx => ∃ cs : List Pt, Hid (cs.length = n) ∧ Hid (PostM K a mid e (gp cs)) ∧ Hid (OwnR wx base (.slice (some ⟨gb, 0, none⟩) n c) cs) ∧ Below base w wx)
                case first =>
                  by_cases c0 : a < j ∧ j < mid
                  · have Ik := hide (IHk.out c0.1 c0.2)
                    have d3 : decide (a < j ∧ j < mid) = true := decide_eq_true c0
                    clear IH IHk RES FAR SAME
                    as_aux_lemma =>
                      go_wp2_with fail
                      refine Ik.out.mono ?_
                      rintro e9 w9 ⟨rfl, cs, l9, g9, o9, b9⟩
                      have L9 := hide l9
                      have G9 := hide g9
                      have O9 := hide o9
                      clear l9 g9 o9
                      go_wp2_with fail
                      go_meet
                      exact ⟨cs, L9, G9, O9, hbel.trans b9⟩
                  · have SM := hide (SAME.out c0)
                    have d3 : decide (a < j ∧ j < mid) = false := decide_eq_false c0
                    clear IH IHk RES FAR SAME
                    as_aux_lemma =>
                      go_wp2_with fail
                      go_meet
                      exact ⟨cs, HL, SM, HO, hbel⟩
                case rest =>
                  clear HL HG HO hbel SAME IHk zb1
                  obtain ⟨cs2, HL, HG, HO, hbel⟩ := hcut
                  have zb1 := hbel.size
                  have PM3 := hide (PM2.out.past tmid HG.out.mv (Nat.le_refl _))
                  have VE2 := hide (VE.out.mv HG.out.mv (by omega))
                  by_cases c1 : mid < t
                  · by_cases c2 : t < b
                    · have Ik := hide (IH.out cs2 mid t b wc (by omega) HL.out c1 c2 hbn VE2.out PM3.out HO.out (h0.trans hbel) (by omega))
                      have RE := hide (fun e2 h2 => RES.out _ e2 HG.out h2)
                      clear IH RES FAR
                      as_aux_lemma =>
                        go_wp2_with fail
                        refine Ik.out.mono ?_
                        rintro e9 w9 ⟨rfl, cs, l9, g9, o9, b9⟩
                        have L9 := hide l9
                        have G9 := hide (RE.out _ g9)
                        have O9 := hide o9
                        clear l9 g9 o9
                        go_wp2_with fail
                        go_end0
                        exact ⟨rfl, cs, L9.out, G9.out, O9.out, hbel.trans b9⟩
                    · have SM := hide (RES.out _ _ HG.out (PM3.out.left (fun h => c2 h.2) tmid t2))
                      have d2 : decide (t < b) = false := decide_eq_false c2
                      clear IH RES FAR
                      as_aux_lemma =>
                        go_wp2_with fail
                        go_end0
                        exact ⟨rfl, cs2, HL.out, SM.out, HO.out, hbel⟩
                  · have SM := hide (RES.out _ _ HG.out (PM3.out.left (fun h => c1 h.1) tmid t2))
                    have d1 : decide (mid < t) = false := decide_eq_false c1
                    clear IH RES FAR
                    as_aux_lemma =>
                      go_wp2_with fail
                      go_end0
                      exact ⟨rfl, cs2, HL.out, SM.out, HO.out, hbel⟩
end Go.Proofs.YtnddfdhfefconaaGreatDoor
namespace Go.Proofs.YtnddfdhfefconaaGreatDoor
open Go.RowKit

set_option maxRecDepth 20000 in
set_option maxHeartbeats 16000000 in
theorem stable_any (g : Nat) (lb : Array Value) (K : Pt → Int) (V : Pt → Prop) (w0 : World) (ds : List Pt) (gb n c base : Nat) (w : World) (eg : ∀ args w, (callFunc g args).run Tryz.prog w = .ok (.enter g args) w) (hC : CmpB g lb K V base w0) (hn : ds.length = n) (hn2 : n ≤ 190)
    (hV : AllV V n (gp ds)) (hA : Asc2 0 n (gp ds)) (hown : OwnR w base (.slice (some ⟨gb, 0, none⟩) n c) ds) (h0 : Below base w0 w) (hb : base ≤ w.heap.size) :
    Calls Tryz.prog 197 #[.slice (some ⟨gb, 0, none⟩) n c, .int .i64 n, .func (.func g) #[] lb] w fun e w' => e = .returned (.tuple #[]) ∧ ∃ ds', ds'.length = n ∧ Mv 0 n (gp ds) (gp ds') ∧ Srt K 0 n (gp ds') ∧ OwnR w' base (.slice (some ⟨gb, 0, none⟩) n c) ds' ∧ Below base w w' := by
  have HN := hide hn
  have H0 := hide hown
  have P0 : Hid (Ph0 K 0 n (gp ds) (gp ds)) := hide (Ph0.start hA)
  have HV := hide hV
  have INS := hide (fun (cs : List Pt) (a b : Nat) (W : World) (h1 : cs.length = n) (h2 : a ≤ b) (h3 : b ≤ n) (h4 : AllV V n (gp cs)) (h5 : Asc2 a b (gp cs)) (h6 : OwnR W base (.slice (some ⟨gb, 0, none⟩) n c) cs) (h7 : Below base w W) => insSort_any g lb K V w0 cs gb n c a b base W eg hC h1 (by omega) h2 h3 h4 h5 h6 (h0.trans h7) (Nat.le_trans hb h7.size))
  have SYM := hide (fun (cs : List Pt) (a m b : Nat) (W : World) (h1 : cs.length = n) (h2 : a < m) (h3 : m < b) (hbn : b ≤ n) (h4 : AllV V n (gp cs)) (h5 : PreM K a m b (gp cs)) (h6 : OwnR W base (.slice (some ⟨gb, 0, none⟩) n c) cs) (h7 : Below base w W) => sym_any g lb K V w0 gb n c base eg hC (by omega) (b - a) cs a m b W (by omega) h1 h2 h3 hbn h4 h5 h6 (h0.trans h7) (Nat.le_trans hb h7.size))
  clear hn hown hC hV hA
  go_enter Tryz.func197, Tryz.ntmps197
  go_wp2_with fail
  go_loopw [7, 8] (fun u7 u8 wr => ∃ (q : Nat) (cs : List Pt), q * 20 ≤ n ∧ u7 = .int .i64 ((q * 20 : Nat) : Int) ∧ u8 = .int .i64 ((q * 20 + 20 : Nat) : Int) ∧ Hid (cs.length = n) ∧ Hid (Ph0 K (q * 20) n (gp ds) (gp cs)) ∧ Hid (OwnR wr base (.slice (some ⟨gb, 0, none⟩) n c) cs) ∧ Below base w wr) (fun _ u8 _ => n + 20 - (intOf u8).toNat)
  case atStart => exact ⟨0, ds, by omega, rfl, rfl, HN, hide (by rw [Nat.zero_mul]; exact P0.out), H0, Below.refl _ _⟩
  case round =>
    obtain ⟨q, cs, hq, rfl, rfl, HL, HP, HO, hbel⟩ := hrel
    clear P0
    obtain ⟨a, ha⟩ : ∃ a, a = q * 20 := ⟨_, rfl⟩
    obtain ⟨b, hb1⟩ : ∃ b, b = q * 20 + 20 := ⟨_, rfl⟩
    rw [← ha] at HP hq
    rw [← hb1, ← ha]
    have hab : a + 20 = b := by omega
    have hm : a % 20 = 0 := by omega
    have VV := hide (HV.out.mv HP.out.mv (Nat.le_refl _))
    by_cases hlt : b ≤ n
    · have Ik := hide (INS.out cs a b wr HL.out (by omega) hlt VV.out (fun i j h1 h2 h3 => HP.out.hi i j h1 h2 (by omega)) HO.out hbel)
      have NX : Hid (∀ e, PostM K a b (gp cs) e → Ph0 K ((q + 1) * 20) n (gp ds) e) := hide (fun e he => by
        have := HP.out.step hm ⟨by omega, by omega, hlt⟩ (.inl hab.symm) he
        rwa [show b = (q + 1) * 20 by omega] at this)
      have e1 : (b : Int) + 20 = (((q + 1) * 20 + 20 : Nat) : Int) := by omega
      have e2 : (b : Int) = (((q + 1) * 20 : Nat) : Int) := by omega
      have E1 := hide e1
      have E2 := hide e2
      have zb : q * 20 + 20 = b := hb1.symm
      have ZB := hide zb
      clear INS SYM HP HO HV VV ha hb1 hab hm e1 e2 zb HN H0
      go_wp2_with fail
      refine Ik.out.mono ?_
      rintro e w2 ⟨rfl, cs2, l2, g2, o2, b2⟩
      have L2 := hide l2
      have G2 := hide (NX.out _ g2)
      have O2 := hide o2
      clear l2 g2 o2 NX
      go_wp2_with fail
      exact ⟨⟨q + 1, cs2, by have := ZB.out; omega, by rw [E2.out], by first | (rw [E1.out]; rfl) | rw [E1.out] | go_num, L2, G2, O2, hbel.trans b2⟩, by have := ZB.out; simp [intOf]; omega⟩
    · have Ik := hide (INS.out cs a n wr HL.out hq (Nat.le_refl _) VV.out HP.out.hi HO.out hbel)
      have NX : Hid (∀ e, PostM K a n (gp cs) e → Phs K 20 0 n (gp ds) e) := hide (fun e he => (HP.out.step hm ⟨hq, by omega, Nat.le_refl _⟩ (.inr rfl) he).done)
      have VX := hide (fun (e : Nat → Pt) (s a : Nat) (h : Phs K s a n (gp ds) e) => HV.out.mv h.mv (Nat.le_refl _))
      clear INS HP HO HV VV ha hb1 hm HN H0
      go_wp2_with fail
      refine Ik.out.mono ?_
      rintro e w2 ⟨rfl, cs2, l2, g2, o2, b2⟩
      have L2 := hide l2
      have G2 := hide (NX.out _ g2)
      have O2 := hide o2
      have B2 := hide (hbel.trans b2)
      have S20 : Hid (Siz 20 ∨ 20 = 320) := hide (.inl (.inl rfl))
      clear l2 g2 o2 NX hbel b2 HL Ik hab hlt hq
      obtain ⟨w1, hw1⟩ : ∃ w1, w1 = wr := ⟨_, rfl⟩
      subst hw1
      go_wp2_with fail
      go_loopw [6] (fun u6 wr => ∃ (s : Nat) (cs : List Pt), s ≤ 320 ∧ u6 = .int .i64 s ∧ Hid (Siz s ∨ s = 320) ∧ Hid (cs.length = n) ∧ Hid (Phs K s 0 n (gp ds) (gp cs)) ∧ Hid (OwnR wr base (.slice (some ⟨gb, 0, none⟩) n c) cs) ∧ Below base w wr) (fun u6 _ => 400 - (intOf u6).toNat)
      case atStart => exact ⟨20, cs2, by omega, rfl, S20, L2, G2, O2, B2.out⟩
      case round =>
        clear L2 G2 O2 B2 S20
        obtain ⟨s, cs, hs3, rfl, HS, HL, HP, HO, hbel⟩ := hrel
        by_cases hsn : s < n
        · have HZ : Hid (Siz s) := hide (HS.out.resolve_right (by omega))
          have s20 : 20 ≤ s ∧ s ≤ 160 := by rcases HZ.out with h | h | h | h <;> omega
          obtain ⟨s2, hs2⟩ : ∃ s2, s2 = 2 * s := ⟨_, rfl⟩
          have es : 2 * (s : Int) = (s2 : Int) := by omega
          have es' : (s : Int) * 2 = (s2 : Int) := by omega
          have s2b : s2 ≤ 320 := by omega
          have Z2 : Hid (Siz s2 ∨ s2 = 320) := hide (by rw [hs2]; unfold Siz; rcases HZ.out with h | h | h | h <;> omega)
          have PRE := hide (fun (e : Nat → Pt) (a b : Nat) (h : Phs K s a n (gp ds) e) (ha : a % s2 = 0) hb => h.pre (b := b) HZ.out (by rw [← hs2]; exact ha) hb)
          have STP := hide (fun (e e2 : Nat → Pt) (a b : Nat) (h : Phs K s a n (gp ds) e) (ha : a % s2 = 0) hb hb2 he => h.step (b := b) (e := e2) HZ.out (by rw [← hs2]; exact ha) hb hb2 he)
          have LST := hide (fun (e : Nat → Pt) (a : Nat) (h : Phs K s a n (gp ds) e) (ha : a % s2 = 0) h1 h2 => h.last HZ.out (by rw [← hs2]; exact ha) h1 h2)
          have NXT : Hid (∀ e, Phs K s n n (gp ds) e → Phs K s2 0 n (gp ds) e) := hide (fun e h => by rw [hs2]; exact h.next HZ.out)
          rw [← hs2] at PRE STP
          have MOD : Hid (∀ a, a % s2 = 0 → (a + s2) % s2 = 0) := hide (fun a h => by rw [Nat.add_mod_right]; exact h)
          have HS2 := hide hs2
          have s2s : s + s = s2 := by omega
          have S2S := hide s2s
          clear hs2 HS s2s
          obtain ⟨w2', hw2⟩ : ∃ w2', w2' = wr := ⟨_, rfl⟩
          subst hw2
          go_wp2_with fail
          go_loopw [7, 8] (fun u7 u8 wr => ∃ (a b : Nat) (cs : List Pt), a ≤ n ∧ b ≤ n + 320 ∧ Hid (b = a + s2) ∧ u7 = .int .i64 a ∧ u8 = .int .i64 b ∧ Hid (a % s2 = 0) ∧ Hid (cs.length = n) ∧ Hid (Phs K s a n (gp ds) (gp cs)) ∧ Hid (OwnR wr base (.slice (some ⟨gb, 0, none⟩) n c) cs) ∧ Below base w wr) (fun _ u8 _ => n + 400 - (intOf u8).toNat)
          case atStart => exact ⟨0, s2, cs, Nat.zero_le _, by omega, hide (Nat.zero_add _).symm, rfl, rfl, hide (Nat.zero_mod _), HL, HP, HO, hbel⟩
          case round =>
            clear HL HP HO hbel
            obtain ⟨a, b, cs, ha, hb3, HB, rfl, rfl, HM, HL, HP, HO, hbel⟩ := hrel
            have hB := HB.out
            have hS2 := S2S.out
            obtain ⟨m, hm⟩ : ∃ m, m = a + s := ⟨_, rfl⟩
            have em : (a : Int) + (s : Int) = (m : Int) := by omega
            have hmb : m + s = b := by omega
            have ham : a < m := by omega
            have VV := hide (VX.out _ _ _ HP.out)
            by_cases hbn : b ≤ n
            · have Ik := hide (SYM.out cs a m b wr HL.out ham (by omega) hbn VV.out (by rw [hm]; exact PRE.out _ a b HP.out HM.out ⟨by omega, by omega, hbn⟩) HO.out hbel)
              obtain ⟨b2, hb2⟩ : ∃ b2, b2 = b + s2 := ⟨_, rfl⟩
              have eb2 : (b : Int) + (s2 : Int) = (b2 : Int) := by omega
              have NX : Hid (∀ e, PostM K a b (gp cs) e → Phs K s b n (gp ds) e) := hide (fun e he => STP.out _ e a b HP.out HM.out ⟨by omega, by omega, hbn⟩ (.inl (by omega)) he)
              have HB2 := hide hb2
              have NM : Hid (b % s2 = 0) := hide (by rw [hB]; exact MOD.out a HM.out)
              have lb2 : b2 ≤ n + 320 := by omega
              have lb3 : b < b2 := by omega
              clear SYM PRE STP LST NXT MOD HM HP HO VV hB hS2 hm hb2 HB
              go_wp2_with fail
              refine Ik.out.mono ?_
              rintro e w2 ⟨rfl, cs2, l2, g2, o2, b2'⟩
              have L2 := hide l2
              have G2 := hide (NX.out _ g2)
              have O2 := hide o2
              clear l2 g2 o2 NX
              go_wp2_with fail
              exact ⟨⟨b, b2, cs2, hbn, lb2, HB2, rfl, rfl, NM, L2, G2, O2, hbel.trans b2'⟩, by simp [intOf]; omega⟩
            · by_cases hmn : m < n
              · have Ik := hide (SYM.out cs a m n wr HL.out ham hmn (Nat.le_refl _) VV.out (by rw [hm]; exact PRE.out _ a n HP.out HM.out ⟨by omega, by omega, Nat.le_refl _⟩) HO.out hbel)
                have NX : Hid (∀ e, PostM K a n (gp cs) e → Phs K s2 0 n (gp ds) e) := hide (fun e he => NXT.out _ (STP.out _ e a n HP.out HM.out ⟨ha, by omega, Nat.le_refl _⟩ (.inr rfl) he))
                have lss : s < s2 := by omega
                clear SYM PRE STP LST NXT MOD HM HP HO VV hB hS2 hm HB
                go_wp2_with fail
                refine Ik.out.mono ?_
                rintro e w2 ⟨rfl, cs2, l2, g2, o2, b2'⟩
                have L2 := hide l2
                have G2 := hide (NX.out _ g2)
                have O2 := hide o2
                clear l2 g2 o2 NX
                go_wp2_with fail
                exact ⟨⟨s2, cs2, s2b, rfl, Z2, L2, G2, O2, hbel.trans b2'⟩, by simp [intOf]; omega⟩
              · have NX : Hid (Phs K s2 0 n (gp ds) (gp cs)) := hide (NXT.out _ (LST.out _ a HP.out HM.out ha (by omega)))
                have lss : s < s2 := by omega
                clear SYM PRE STP LST NXT MOD HM HP VV hB hS2 hm HB
                go_wp2_with fail
                exact ⟨⟨s2, cs, s2b, rfl, Z2, HL, NX, HO, hbel⟩, by simp [intOf]; omega⟩
        · have SR := hide (HP.out.srt (by omega))
          have MV := hide HP.out.mv
          clear HP SYM VX HS
          go_wp2_with fail
          go_end0
          exact ⟨rfl, cs, HL.out, MV.out, SR.out, HO.out, hbel⟩
set_option maxHeartbeats 1000000 in
theorem sortStable_any (g : Nat) (lb : Array Value) (K : Pt → Int) (V : Pt → Prop) (w0 : World) (ds : List Pt) (gb n c base : Nat) (w : World) (eg : ∀ args w, (callFunc g args).run Tryz.prog w = .ok (.enter g args) w) (hC : CmpB g lb K V base w0) (hn : ds.length = n) (hn2 : n ≤ 190)
    (hV : AllV V n (gp ds)) (hA : Asc2 0 n (gp ds)) (hown : OwnR w base (.slice (some ⟨gb, 0, none⟩) n c) ds) (h0 : Below base w0 w) (hb : base ≤ w.heap.size) :
    Calls Tryz.prog 154 #[.slice (some ⟨gb, 0, none⟩) n c, .func (.func g) #[] lb] w fun e w' => e = .returned (.tuple #[]) ∧ ∃ ds', ds'.length = n ∧ Mv 0 n (gp ds) (gp ds') ∧ Srt K 0 n (gp ds') ∧ OwnR w' base (.slice (some ⟨gb, 0, none⟩) n c) ds' ∧ Below base w w' := by
  have SS := hide (stable_any g lb K V w0 ds gb n c base w eg hC hn hn2 hV hA hown h0 hb)
  clear hn hown hC hV hA
  go_enter Tryz.func154, Tryz.ntmps154
  go_wp2_with fail
  refine SS.out.mono ?_
  rintro e w2 ⟨rfl, h⟩
  have H := hide h
  clear h
  go_wp2_with fail
  go_end0
  exact ⟨rfl, H.out⟩
end Go.Proofs.YtnddfdhfefconaaGreatDoor
