
/- The reference's ring of a polygon's vertices, places in it, and the angle of a vertex. -/
import Derived.Test.YtdneaakpdibkmaaPoly
import Derived.Test.YtdneaakpdibkmaaAppI
import Derived.Test.YtdneaakpdibkmaaCanM
set_option linter.unusedVariables false
set_option linter.unusedSimpArgs false
namespace Go.Proofs.Ytdneaakpdibkmaa
open Go.RowKit

/-- The vertices counterclockwise, from 0 on. -/
def rgI (ps : List Pt) (i : Nat) : Nat := if areaL ps < 0 then (ps.length - i) % ps.length else i
def rgTo (ps : List Pt) (k : Nat) : List Int := (List.range k).map fun i => (rgI ps i : Int)
def rgL (ps : List Pt) : List Int := rgTo ps ps.length
theorem rgTo_len (ps : List Pt) (k : Nat) : (rgTo ps k).length = k := by simp [rgTo]
theorem rgTo_succ (ps : List Pt) (k : Nat) : rgTo ps (k + 1) = rgTo ps k ++ [(rgI ps k : Int)] := by unfold rgTo; rw [List.range_succ, List.map_append]; rfl
theorem rgL_at {ps : List Pt} {i : Nat} (hi : i < ps.length) : gi (rgL ps) i = (rgI ps i : Int) := by
  unfold gi rgL rgTo
  rw [List.getD_eq_getElem?_getD, List.getElem?_map, List.getElem?_range hi]; rfl
theorem rgI_lt {ps : List Pt} {i : Nat} (hi : i < ps.length) : rgI ps i < ps.length := by
  unfold rgI; split
  · exact Nat.mod_lt _ (by omega)
  · exact hi
theorem rgI_inv {ps : List Pt} {i : Nat} (hi : i < ps.length) : rgI ps (rgI ps i) = i := by
  unfold rgI
  split
  · by_cases h0 : i = 0
    · subst h0
      rw [Nat.sub_zero, Nat.mod_self, Nat.sub_zero, Nat.mod_self]
    · rw [Nat.mod_eq_of_lt (show ps.length - i < ps.length by omega), show ps.length - (ps.length - i) = i by omega]
      exact Nat.mod_eq_of_lt hi
  · rfl
theorem rgI_inj {ps : List Pt} {i j : Nat} (hi : i < ps.length) (hj : j < ps.length) (h : rgI ps i = rgI ps j) : i = j := by
  rw [← rgI_inv hi, h, rgI_inv hj]
set_option maxHeartbeats 1000000 in
theorem ringOf_any (ps : List Pt) (A : Option Addr) (n c : Nat) (w : World) (hn : ps.length = n) (hm : n ≤ 1000) (hb : ∀ p ∈ ps, (-1000 ≤ p.x ∧ p.x ≤ 1000) ∧ -1000 ≤ p.y ∧ p.y ≤ 1000) (hs : PtsAt w w.heap.size A ps) :
    Calls Try.prog 103 #[.slice A n c] w fun e w' => ∃ v, e = .returned v ∧ Own w' w.heap.size v (rgL ps) ∧ ∃ x, w' = ext w x := by
  have SA := hide (fun (W : World) (hbl : Below w.heap.size w W) => sarea_any ps A n c W hn hm hb (hs.to hbl))
  have RS := hide (rgTo_succ ps)
  have RL := hide (rgTo_len ps)
  have RN : Hid (rgTo ps n = rgL ps) := hide (by unfold rgL; rw [hn])
  have RI : Hid (∀ k, rgI ps k = if areaL ps < 0 then (n - k) % n else k) := hide (fun k => by unfold rgI; rw [hn])
  have AB := areaTo_bd3 hb n (by omega)
  have AE : areaTo ps n = areaL ps := by unfold areaL; rw [hn]
  rw [AE] at AB
  have abl : -2000000000 ≤ areaL ps ∧ areaL ps ≤ 2000000000 := by omega
  clear hn hb hs AB AE
  go_enter Try.func103, Try.ntmps103
  go_wp2_with fail
  go_loopw [3, 4] (fun u3 u4 wr => ∃ k : Nat, k ≤ n ∧ u4 = .int .i64 k ∧ Own wr w.heap.size u3 (rgTo ps k) ∧ Below w.heap.size w wr) (fun _ u4 _ => n - (intOf u4).toNat)
  case atStart => exact ⟨0, Nat.zero_le _, rfl, Own.empty w _ (Nat.le_refl _), (by (repeat' (first | (with_reducible exact Below.refl _ _) | (with_reducible assumption) | (with_reducible refine below_ext _ ?_ ?_) | (with_reducible refine Below.alloc ?_ ?_ _) | (with_reducible refine Below.drew ?_) | (with_reducible refine below_drewN ?_ _) | (with_reducible refine le_drewN _ ?_) | (with_reducible refine Below.setCell ?_ ?_ _) | (with_reducible exact Nat.le_refl _) | (with_reducible refine le_ext _ ?_) | (with_reducible refine le_alloc _ ?_) | (with_reducible refine le_setCell _ _ ?_) | (with_reducible refine le_drew ?_) | omega | (simp; done) | (simp; omega))))⟩
  case round =>
    obtain ⟨k, hk, rfl, hown, hbel⟩ := hrel
    obtain ⟨Ak, nk, ck, rfl⟩ := own_slice hown
    have hsz := hbel.size
    have OWN := hide hown
    clear hown
    have hal : (rgTo ps k).length ≤ 2000000 := by rw [RL.out]; omega
    by_cases hlt : k < n
    · go_wp2_with fail
      refine (SA.out _ (by (repeat' (first | (with_reducible exact Below.refl _ _) | (with_reducible assumption) | (with_reducible refine below_ext _ ?_ ?_) | (with_reducible refine Below.alloc ?_ ?_ _) | (with_reducible refine Below.drew ?_) | (with_reducible refine below_drewN ?_ _) | (with_reducible refine le_drewN _ ?_) | (with_reducible refine Below.setCell ?_ ?_ _) | (with_reducible exact Nat.le_refl _) | (with_reducible refine le_ext _ ?_) | (with_reducible refine le_alloc _ ?_) | (with_reducible refine le_setCell _ _ ?_) | (with_reducible refine le_drew ?_) | omega | (simp; done) | (simp; omega))))).mono ?_
      rintro e w' ⟨rfl, hw'⟩; have hzy1 := ext_sz hw'; obtain ⟨y1, rfl⟩ := hw'; (try simp at hzy1)
      have RIk := RI.out k
      by_cases hneg : areaL ps < 0
      · have d1 : decide (areaL ps < 0) = true := decide_eq_true hneg
        rw [if_pos hneg] at RIk
        have RK := hide RIk
        obtain ⟨j, hj⟩ : ∃ j, j = (n - k) % n := ⟨_, rfl⟩
        have hjl : j < n := by rw [hj]; exact Nat.mod_lt _ (by omega)
        have e2 : Int.tmod ((n : Int) - (k : Int)) (n : Int) = (j : Int) := by
          rw [hj, show ((n : Int) - (k : Int)) = ((n - k : Nat) : Int) by omega]
          exact (Int.ofNat_tmod (n - k) n).symm
        rw [← hj] at RK
        clear hneg RIk hj
        have w1 : IntKind.i64.wrap ((n : Int) - (k : Int)) = (n : Int) - (k : Int) := IntWalk.i64_in _ (by omega)
        have w3 : IntKind.i64.wrap (j : Int) = (j : Int) := IntWalk.i64_in _ (by omega)
        have q5 : ¬ n = 0 := by omega
        go_wp2_with (at_builtin; refine app_one rfl _ _ rfl w.heap.size (.slice Ak nk ck) (rgTo ps k) rfl (OWN.out.below (by (repeat' (first | (with_reducible exact Below.refl _ _) | (with_reducible assumption) | (with_reducible refine below_ext _ ?_ ?_) | (with_reducible refine Below.alloc ?_ ?_ _) | (with_reducible refine Below.drew ?_) | (with_reducible refine below_drewN ?_ _) | (with_reducible refine le_drewN _ ?_) | (with_reducible refine Below.setCell ?_ ?_ _) | (with_reducible exact Nat.le_refl _) | (with_reducible refine le_ext _ ?_) | (with_reducible refine le_alloc _ ?_) | (with_reducible refine le_setCell _ _ ?_) | (with_reducible refine le_drew ?_) | omega | (simp; done) | (simp; omega))))) (j : Int) _ _ rfl (by simp [go_sem]) hal (by simp; omega) ?_; intro v' w' hown' hb' hat hgr; obtain ⟨A', n', c', rfl⟩ := own_slice hown'; have OWN' := hide hown'; clear hown' hat hgr)
        exact ⟨⟨k + 1, by omega, by go_num, by rw [RS.out, RK.out]; exact OWN'.out, Below.trans (Below.trans hbel (by (repeat' (first | (with_reducible exact Below.refl _ _) | (with_reducible assumption) | (with_reducible refine below_ext _ ?_ ?_) | (with_reducible refine Below.alloc ?_ ?_ _) | (with_reducible refine Below.drew ?_) | (with_reducible refine below_drewN ?_ _) | (with_reducible refine le_drewN _ ?_) | (with_reducible refine Below.setCell ?_ ?_ _) | (with_reducible exact Nat.le_refl _) | (with_reducible refine le_ext _ ?_) | (with_reducible refine le_alloc _ ?_) | (with_reducible refine le_setCell _ _ ?_) | (with_reducible refine le_drew ?_) | omega | (simp; done) | (simp; omega))))) hb'⟩, by simp [intOf]; omega⟩
      · have d1 : decide (areaL ps < 0) = false := decide_eq_false hneg
        rw [if_neg hneg] at RIk
        have RK := hide RIk
        clear hneg RIk
        go_wp2_with (at_builtin; refine app_one rfl _ _ rfl w.heap.size (.slice Ak nk ck) (rgTo ps k) rfl (OWN.out.below (by (repeat' (first | (with_reducible exact Below.refl _ _) | (with_reducible assumption) | (with_reducible refine below_ext _ ?_ ?_) | (with_reducible refine Below.alloc ?_ ?_ _) | (with_reducible refine Below.drew ?_) | (with_reducible refine below_drewN ?_ _) | (with_reducible refine le_drewN _ ?_) | (with_reducible refine Below.setCell ?_ ?_ _) | (with_reducible exact Nat.le_refl _) | (with_reducible refine le_ext _ ?_) | (with_reducible refine le_alloc _ ?_) | (with_reducible refine le_setCell _ _ ?_) | (with_reducible refine le_drew ?_) | omega | (simp; done) | (simp; omega))))) (k : Int) _ _ rfl (by simp [go_sem]) hal (by simp; omega) ?_; intro v' w' hown' hb' hat hgr; obtain ⟨A', n', c', rfl⟩ := own_slice hown'; have OWN' := hide hown'; clear hown' hat hgr)
        exact ⟨⟨k + 1, by omega, by go_num, by rw [RS.out, RK.out]; exact OWN'.out, Below.trans (Below.trans hbel (by (repeat' (first | (with_reducible exact Below.refl _ _) | (with_reducible assumption) | (with_reducible refine below_ext _ ?_ ?_) | (with_reducible refine Below.alloc ?_ ?_ _) | (with_reducible refine Below.drew ?_) | (with_reducible refine below_drewN ?_ _) | (with_reducible refine le_drewN _ ?_) | (with_reducible refine Below.setCell ?_ ?_ _) | (with_reducible exact Nat.le_refl _) | (with_reducible refine le_ext _ ?_) | (with_reducible refine le_alloc _ ?_) | (with_reducible refine le_setCell _ _ ?_) | (with_reducible refine le_drew ?_) | omega | (simp; done) | (simp; omega))))) hb'⟩, by simp [intOf]; omega⟩
    · have ek : k = n := by omega
      subst ek
      go_wp2
      go_ret
      exact ⟨_, rfl, by rw [← RN.out]; exact OWN.out, ext_mk hbel⟩
set_option maxHeartbeats 1000000 in
theorem placeOf_any (zs : List Int) (x : Int) (j : Nat) (A : Option Addr) (n c : Nat) (w : World) (hn : zs.length = n) (hm : n ≤ 1000000) (hj : j < n) (hx : gi zs j = x) (hne : ∀ k, k < j → gi zs k ≠ x) (hs : IntsAt w w.heap.size A zs) :
    Calls Try.prog 105 #[.slice A n c, .int .i64 x] w fun e w' => e = .returned (.int .i64 j) ∧ ∃ x, w' = ext w x := by
  obtain ⟨b, o, rfl, hb, hcs⟩ := hs (by omega)
  have CS : Hid (∀ k, k < n → w.cell? ⟨b, o + k, none⟩ = some (.int .i64 (gi zs k))) := hide (fun k hk => hcs k (by omega))
  have NE := hide hne
  have HX := hide hx
  clear hcs hn hne hx hs
  go_enter Try.func105, Try.ntmps105
  go_wp2_with fail
  go_loopw [5] (fun u5 wr => ∃ k : Nat, k ≤ j ∧ u5 = .int .i64 k ∧ Below w.heap.size w wr) (fun u5 _ => n - (intOf u5).toNat)
  case atStart => exact ⟨0, Nat.zero_le _, rfl, Below.refl _ _⟩
  case round =>
    obtain ⟨k, hk, rfl, hbel⟩ := hrel
    have g1 := (hbel.cell (p := ⟨b, o + k, none⟩) hb).trans (CS.out k (by omega))
    have q3 : (0 : Int) ≤ (k : Int) := by omega
    have q4 : (k : Int) < (n : Int) := by omega
    by_cases ek : k = j
    · subst ek
      rw [HX.out] at g1
      go_wp2_with fail
      go_ret
      exact ⟨rfl, ext_mk hbel⟩
    · have d : (gi zs k == x) = false := by rw [beq_eq_false_iff_ne]; exact NE.out k (by omega)
      generalize gi zs k = G at *
      go_wp2_with fail
      exact ⟨⟨k + 1, by omega, by go_num, hbel.trans (by (repeat' (first | (with_reducible exact Below.refl _ _) | (with_reducible assumption) | (with_reducible refine below_ext _ ?_ ?_) | (with_reducible refine Below.alloc ?_ ?_ _) | (with_reducible refine Below.drew ?_) | (with_reducible refine below_drewN ?_ _) | (with_reducible refine le_drewN _ ?_) | (with_reducible refine Below.setCell ?_ ?_ _) | (with_reducible exact Nat.le_refl _) | (with_reducible refine le_ext _ ?_) | (with_reducible refine le_alloc _ ?_) | (with_reducible refine le_setCell _ _ ?_) | (with_reducible refine le_drew ?_) | omega | (simp; done) | (simp; omega))))⟩, by simp [intOf]; omega⟩
set_option maxHeartbeats 2000000 in
theorem inCone_any (ps : List Pt) (zs : List Int) (i ia ib ic : Nat) (x y : Int) (A Z : Option Addr) (n c n2 c2 : Nat) (w : World) (hn : ps.length = n) (hn2 : zs.length = n2) (hm : n ≤ 1000) (hm2 : n2 ≤ 1000) (hi : i < n2)
    (ha : gi zs ((i + n2 - 1) % n2) = (ia : Int)) (hb : gi zs i = (ib : Int)) (hc : gi zs ((i + 1) % n2) = (ic : Int)) (la : ia < n) (lb : ib < n) (lc : ic < n)
    (hib : ∀ p ∈ ps, (-100000 ≤ p.x ∧ p.x ≤ 100000) ∧ (-100000 ≤ p.y ∧ p.y ≤ 100000)) (hq : (-100000 ≤ x ∧ x ≤ 100000) ∧ -100000 ≤ y ∧ y ≤ 100000) (hs : PtsAt w w.heap.size A ps) (hz : IntsAt w w.heap.size Z zs) (CB : Bool) (hCB : CB = decide (InCone (gp ps ia) (gp ps ib) (gp ps ic) ⟨x, y⟩)) :
    Calls Try.prog 104 #[.slice A n c, .slice Z n2 c2, .int .i64 i, .agg #[.int .i64 x, .int .i64 y]] w fun e w' => e = .returned (.bool CB) ∧ ∃ x, w' = ext w x := by
  obtain ⟨b, o, rfl, hbl, hcs⟩ := hs (by omega)
  obtain ⟨b2, o2, rfl, hbl2, hcs2⟩ := hz (by omega)
  obtain ⟨j1, hj1⟩ : ∃ j, j = (i + n2 - 1) % n2 := ⟨_, rfl⟩
  obtain ⟨j2, hj2⟩ : ∃ j, j = (i + 1) % n2 := ⟨_, rfl⟩
  have hl1 : j1 < n2 := by rw [hj1]; exact Nat.mod_lt _ (by omega)
  have hl2 : j2 < n2 := by rw [hj2]; exact Nat.mod_lt _ (by omega)
  rw [← hj1] at ha
  rw [← hj2] at hc
  have z1 := hcs2 j1 (by omega)
  have z2 := hcs2 i (by omega)
  have z3 := hcs2 j2 (by omega)
  rw [ha] at z1
  rw [hb] at z2
  rw [hc] at z3
  obtain ⟨xa, ya⟩ := hcs ia (by omega)
  obtain ⟨xb, yb⟩ := hcs ib (by omega)
  obtain ⟨xc, yc⟩ := hcs ic (by omega)
  obtain ⟨⟨p1, p2⟩, p3, p4⟩ := hib _ (gp_mem (show ia < ps.length by omega))
  obtain ⟨⟨p5, p6⟩, p7, p8⟩ := hib _ (gp_mem (show ib < ps.length by omega))
  obtain ⟨⟨p9, p10⟩, p11, p12⟩ := hib _ (gp_mem (show ic < ps.length by omega))
  have e1 : Int.tmod ((i : Int) + (n2 : Int) - 1) (n2 : Int) = (j1 : Int) := by
    rw [hj1, show ((i : Int) + (n2 : Int) - 1) = ((i + n2 - 1 : Nat) : Int) by omega]
    exact (Int.ofNat_tmod (i + n2 - 1) n2).symm
  have e2 : Int.tmod ((i : Int) + 1) (n2 : Int) = (j2 : Int) := by rw [hj2]; exact (Int.ofNat_tmod (i + 1) n2).symm
  have w1 : IntKind.i64.wrap ((i : Int) + (n2 : Int)) = (i : Int) + (n2 : Int) := IntWalk.i64_in _ (by omega)
  have w2 : IntKind.i64.wrap ((i : Int) + (n2 : Int) - 1) = (i : Int) + (n2 : Int) - 1 := IntWalk.i64_in _ (by omega)
  have w3 : IntKind.i64.wrap (j1 : Int) = (j1 : Int) := IntWalk.i64_in _ (by omega)
  have w4 : IntKind.i64.wrap (j2 : Int) = (j2 : Int) := IntWalk.i64_in _ (by omega)
  have w5 : IntKind.i64.wrap ((i : Int) + 1) = (i : Int) + 1 := IntWalk.i64_in _ (by omega)
  have q1 : (0 : Int) ≤ (j1 : Int) := by omega
  have q2 : (j1 : Int) < (n2 : Int) := by omega
  have q3 : (0 : Int) ≤ (i : Int) := by omega
  have q4 : (i : Int) < (n2 : Int) := by omega
  have q5 : (0 : Int) ≤ (j2 : Int) := by omega
  have q6 : (j2 : Int) < (n2 : Int) := by omega
  have q7 : ¬ n2 = 0 := by omega
  have q8 : (0 : Int) ≤ (ia : Int) := by omega
  have q9 : (ia : Int) < (n : Int) := by omega
  have q10 : (0 : Int) ≤ (ib : Int) := by omega
  have q11 : (ib : Int) < (n : Int) := by omega
  have q12 : (0 : Int) ≤ (ic : Int) := by omega
  have q13 : (ic : Int) < (n : Int) := by omega
  unfold pX pY at *
  have T1 := hide (fun W => scross_any (gp ps ia).x (gp ps ia).y (gp ps ib).x (gp ps ib).y (gp ps ic).x (gp ps ic).y W ⟨p1, p2⟩ ⟨p3, p4⟩ ⟨p5, p6⟩ ⟨p7, p8⟩ ⟨p9, p10⟩ ⟨p11, p12⟩)
  have T2 := hide (fun W => scross_any (gp ps ib).x (gp ps ib).y x y (gp ps ia).x (gp ps ia).y W ⟨p5, p6⟩ ⟨p7, p8⟩ hq.1 hq.2 ⟨p1, p2⟩ ⟨p3, p4⟩)
  have T3 := hide (fun W => scross_any (gp ps ib).x (gp ps ib).y (gp ps ic).x (gp ps ic).y x y W ⟨p5, p6⟩ ⟨p7, p8⟩ ⟨p9, p10⟩ ⟨p11, p12⟩ hq.1 hq.2)
  have E1 : Hid ((((gp ps ib).x - (gp ps ia).x) * ((gp ps ic).y - (gp ps ia).y) - ((gp ps ib).y - (gp ps ia).y) * ((gp ps ic).x - (gp ps ia).x)) = trn (gp ps ia) (gp ps ib) (gp ps ic)) := hide rfl
  have E2 : Hid (((x - (gp ps ib).x) * ((gp ps ia).y - (gp ps ib).y) - (y - (gp ps ib).y) * ((gp ps ia).x - (gp ps ib).x)) = trn (gp ps ia) (gp ps ib) ⟨x, y⟩) := hide (by unfold trn; grind)
  have E3 : Hid ((((gp ps ic).x - (gp ps ib).x) * (y - (gp ps ib).y) - ((gp ps ic).y - (gp ps ib).y) * (x - (gp ps ib).x)) = trn (gp ps ib) (gp ps ic) ⟨x, y⟩) := hide rfl
  rw [E1.out] at T1
  rw [E2.out] at T2
  rw [E3.out] at T3
  have IC : Hid (InCone (gp ps ia) (gp ps ib) (gp ps ic) ⟨x, y⟩ ↔ (0 < trn (gp ps ia) (gp ps ib) (gp ps ic) ∧ 0 < trn (gp ps ia) (gp ps ib) ⟨x, y⟩ ∧ 0 < trn (gp ps ib) (gp ps ic) ⟨x, y⟩) ∨ (¬ 0 < trn (gp ps ia) (gp ps ib) (gp ps ic) ∧ ¬ (trn (gp ps ia) (gp ps ib) ⟨x, y⟩ ≤ 0 ∧ trn (gp ps ib) (gp ps ic) ⟨x, y⟩ ≤ 0))) := hide Iff.rfl
  have HCB : Hid (CB = true ↔ (0 < trn (gp ps ia) (gp ps ib) (gp ps ic) ∧ 0 < trn (gp ps ia) (gp ps ib) ⟨x, y⟩ ∧ 0 < trn (gp ps ib) (gp ps ic) ⟨x, y⟩) ∨ (¬ 0 < trn (gp ps ia) (gp ps ib) (gp ps ic) ∧ ¬ (trn (gp ps ia) (gp ps ib) ⟨x, y⟩ ≤ 0 ∧ trn (gp ps ib) (gp ps ic) ⟨x, y⟩ ≤ 0))) := hide (by rw [hCB, decide_eq_true_eq]; exact IC.out)
  clear hCB IC E1 E2 E3 hcs hcs2 ha hb hc hj1 hj2 hib hq p1 p2 p3 p4 p5 p6 p7 p8 p9 p10 p11 p12 hn hn2 hs hz
  generalize trn (gp ps ia) (gp ps ib) (gp ps ic) = U at *
  generalize trn (gp ps ia) (gp ps ib) ⟨x, y⟩ = V at *
  generalize trn (gp ps ib) (gp ps ic) ⟨x, y⟩ = R at *
  generalize (gp ps ia).x = X1 at *
  generalize (gp ps ia).y = Y1 at *
  generalize (gp ps ib).x = X2 at *
  generalize (gp ps ib).y = Y2 at *
  generalize (gp ps ic).x = X3 at *
  generalize (gp ps ic).y = Y3 at *
  by_cases hU : 0 < U
  · have dU : decide (0 < U) = true := decide_eq_true hU
    by_cases hV : 0 < V
    · have dV : decide (0 < V) = true := decide_eq_true hV
      have K : Hid (CB = decide (0 < R)) := hide (by rw [Bool.eq_iff_iff, HCB.out, decide_eq_true_eq]; omega)
      clear HCB hU hV
      go_enter Try.func104, Try.ntmps104
      go_wp2_with fail
      refine (T1.out _).mono ?_
      rintro e w' ⟨rfl, hw'⟩; have hzy1 := ext_sz hw'; obtain ⟨y1, rfl⟩ := hw'; (try simp at hzy1)
      go_wp2_with fail
      refine (T2.out _).mono ?_
      rintro e w' ⟨rfl, hw'⟩; have hzy2 := ext_sz hw'; obtain ⟨y2, rfl⟩ := hw'; (try simp at hzy2)
      go_wp2_with fail
      refine (T3.out _).mono ?_
      rintro e w' ⟨rfl, hw'⟩; have hzy3 := ext_sz hw'; obtain ⟨y3, rfl⟩ := hw'; (try simp at hzy3)
      go_wp2_with fail
      go_ret
      exact ⟨ret_bool K.out.symm, (ext_mk (by (repeat' (first | (with_reducible exact Below.refl _ _) | (with_reducible assumption) | (with_reducible refine below_ext _ ?_ ?_) | (with_reducible refine Below.alloc ?_ ?_ _) | (with_reducible refine Below.drew ?_) | (with_reducible refine below_drewN ?_ _) | (with_reducible refine le_drewN _ ?_) | (with_reducible refine Below.setCell ?_ ?_ _) | (with_reducible exact Nat.le_refl _) | (with_reducible refine le_ext _ ?_) | (with_reducible refine le_alloc _ ?_) | (with_reducible refine le_setCell _ _ ?_) | (with_reducible refine le_drew ?_) | omega | (simp; done) | (simp; omega)))))⟩
    · have dV : decide (0 < V) = false := decide_eq_false hV
      have K : Hid (CB = false) := hide (by rw [← Bool.not_eq_true, HCB.out]; omega)
      clear HCB hU hV
      go_enter Try.func104, Try.ntmps104
      go_wp2_with fail
      refine (T1.out _).mono ?_
      rintro e w' ⟨rfl, hw'⟩; have hzy1 := ext_sz hw'; obtain ⟨y1, rfl⟩ := hw'; (try simp at hzy1)
      go_wp2_with fail
      refine (T2.out _).mono ?_
      rintro e w' ⟨rfl, hw'⟩; have hzy2 := ext_sz hw'; obtain ⟨y2, rfl⟩ := hw'; (try simp at hzy2)
      go_wp2_with fail
      go_ret
      exact ⟨ret_bool K.out.symm, (ext_mk (by (repeat' (first | (with_reducible exact Below.refl _ _) | (with_reducible assumption) | (with_reducible refine below_ext _ ?_ ?_) | (with_reducible refine Below.alloc ?_ ?_ _) | (with_reducible refine Below.drew ?_) | (with_reducible refine below_drewN ?_ _) | (with_reducible refine le_drewN _ ?_) | (with_reducible refine Below.setCell ?_ ?_ _) | (with_reducible exact Nat.le_refl _) | (with_reducible refine le_ext _ ?_) | (with_reducible refine le_alloc _ ?_) | (with_reducible refine le_setCell _ _ ?_) | (with_reducible refine le_drew ?_) | omega | (simp; done) | (simp; omega)))))⟩
  · have dU : decide (0 < U) = false := decide_eq_false hU
    by_cases hV : V ≤ 0
    · have dV : decide (V ≤ 0) = true := decide_eq_true hV
      have K : Hid (CB = !decide (R ≤ 0)) := hide (by
        rw [Bool.eq_iff_iff, HCB.out, Bool.not_eq_true', decide_eq_false_iff_not]; omega)
      clear HCB hU hV
      go_enter Try.func104, Try.ntmps104
      go_wp2_with fail
      refine (T1.out _).mono ?_
      rintro e w' ⟨rfl, hw'⟩; have hzy1 := ext_sz hw'; obtain ⟨y1, rfl⟩ := hw'; (try simp at hzy1)
      go_wp2_with fail
      refine (T2.out _).mono ?_
      rintro e w' ⟨rfl, hw'⟩; have hzy2 := ext_sz hw'; obtain ⟨y2, rfl⟩ := hw'; (try simp at hzy2)
      go_wp2_with fail
      refine (T3.out _).mono ?_
      rintro e w' ⟨rfl, hw'⟩; have hzy3 := ext_sz hw'; obtain ⟨y3, rfl⟩ := hw'; (try simp at hzy3)
      go_wp2_with fail
      go_ret
      exact ⟨ret_bool K.out.symm, (ext_mk (by (repeat' (first | (with_reducible exact Below.refl _ _) | (with_reducible assumption) | (with_reducible refine below_ext _ ?_ ?_) | (with_reducible refine Below.alloc ?_ ?_ _) | (with_reducible refine Below.drew ?_) | (with_reducible refine below_drewN ?_ _) | (with_reducible refine le_drewN _ ?_) | (with_reducible refine Below.setCell ?_ ?_ _) | (with_reducible exact Nat.le_refl _) | (with_reducible refine le_ext _ ?_) | (with_reducible refine le_alloc _ ?_) | (with_reducible refine le_setCell _ _ ?_) | (with_reducible refine le_drew ?_) | omega | (simp; done) | (simp; omega)))))⟩
    · have dV : decide (V ≤ 0) = false := decide_eq_false hV
      have K : Hid (CB = true) := hide (by rw [HCB.out]; omega)
      clear HCB hU hV
      go_enter Try.func104, Try.ntmps104
      go_wp2_with fail
      refine (T1.out _).mono ?_
      rintro e w' ⟨rfl, hw'⟩; have hzy1 := ext_sz hw'; obtain ⟨y1, rfl⟩ := hw'; (try simp at hzy1)
      go_wp2_with fail
      refine (T2.out _).mono ?_
      rintro e w' ⟨rfl, hw'⟩; have hzy2 := ext_sz hw'; obtain ⟨y2, rfl⟩ := hw'; (try simp at hzy2)
      go_wp2_with fail
      go_ret
      exact ⟨ret_bool K.out.symm, (ext_mk (by (repeat' (first | (with_reducible exact Below.refl _ _) | (with_reducible assumption) | (with_reducible refine below_ext _ ?_ ?_) | (with_reducible refine Below.alloc ?_ ?_ _) | (with_reducible refine Below.drew ?_) | (with_reducible refine below_drewN ?_ _) | (with_reducible refine le_drewN _ ?_) | (with_reducible refine Below.setCell ?_ ?_ _) | (with_reducible exact Nat.le_refl _) | (with_reducible refine le_ext _ ?_) | (with_reducible refine le_alloc _ ?_) | (with_reducible refine le_setCell _ _ ?_) | (with_reducible refine le_drew ?_) | omega | (simp; done) | (simp; omega)))))⟩
end Go.Proofs.Ytdneaakpdibkmaa
