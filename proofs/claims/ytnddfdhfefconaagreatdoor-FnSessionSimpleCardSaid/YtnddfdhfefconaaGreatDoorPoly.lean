
/- Areas, points of the boundary and of the interior of a polygon: the program's and the reference's. -/
import Derived.Test.YtnddfdhfefconaaGreatDoorSimI
import Derived.Test.YtnddfdhfefconaaGreatDoorRelM
import Derived.Test.YtnddfdhfefconaaGreatDoorSimS
set_option linter.unusedVariables false
set_option linter.unusedSimpArgs false
namespace Go.Proofs.YtnddfdhfefconaaGreatDoor
open Go.RowKit

theorem gcd_step (a b : Int) : gcdI b (a.tmod b) = gcdI a b := by
  unfold gcdI Int.gcd
  rw [Int.natAbs_tmod, Nat.gcd_comm b.natAbs, ← Nat.gcd_rec, Nat.gcd_comm]
theorem gcd_end (a : Int) : gcdI a 0 = absI a := by
  unfold gcdI Int.gcd absI
  simp
  split <;> omega
theorem gcd_abs (a b : Int) : gcdI (absI a) (absI b) = gcdI a b := by
  unfold gcdI Int.gcd
  have h : ∀ n : Int, (absI n).natAbs = n.natAbs := fun n => by unfold absI; split <;> omega
  rw [h, h]
theorem absI_nn (a : Int) : 0 ≤ absI a := by unfold absI; split <;> omega
theorem absI_self {a : Int} (h : 0 ≤ a) : absI a = a := if_pos h
theorem tmod_bd (a b : Int) {M : Int} (ha : -M ≤ a ∧ a ≤ M) : -M ≤ a.tmod b ∧ a.tmod b ≤ M := by
  have h : (a.tmod b).natAbs ≤ a.natAbs := by rw [Int.natAbs_tmod]; exact Nat.mod_le _ _
  omega
theorem tmod_lt (a : Int) {b : Int} (h : b ≠ 0) : (a.tmod b).natAbs < b.natAbs := by
  rw [Int.natAbs_tmod]; exact Nat.mod_lt _ (by omega)
theorem tmod_nn {a b : Int} (h : 0 ≤ a) : 0 ≤ a.tmod b := Int.tmod_nonneg b h
theorem max_neg (n : Int) : max n (-n) = absI n := by unfold absI; rw [Int.max_def]; split <;> split <;> omega
set_option maxHeartbeats 400000 in
theorem iabs_any (n : Int) (w : World) (hb : -1000000000000000 ≤ n ∧ n ≤ 1000000000000000) : Calls Tryz.prog 136 #[.int .i64 n] w fun e w' => e = .returned (.int .i64 (absI n)) ∧ w = w' := by
  have HM := hide (max_neg n)
  have i1 : IntKind.i64.wrap (-n) = -n := IntWalk.i64_in _ (by omega)
  go_enter Tryz.func136, Tryz.ntmps136
  go_wp2_with fail
  go_ret
  exact ⟨ret_int (by rw [← HM.out]; try (simp [Int.max_def]; done)), rfl⟩
set_option maxHeartbeats 400000 in
theorem sabs_any (n : Int) (w : World) (hb : -1000000000000000 ≤ n ∧ n ≤ 1000000000000000) : Calls Tryz.prog 120 #[.int .i64 n] w fun e w' => e = .returned (.int .i64 (absI n)) ∧ w = w' := by
  by_cases h : n < 0
  · have HV : Hid (absI n = -n) := hide (by unfold absI; rw [if_neg (by omega)])
    have d : decide (n < 0) = true := decide_eq_true h
    go_enter Tryz.func120, Tryz.ntmps120
    go_wp2_with fail
    go_ret
    exact ⟨ret_int HV.out.symm, rfl⟩
  · have HV : Hid (absI n = n) := hide (by unfold absI; rw [if_pos (by omega)])
    have d : decide (n < 0) = false := decide_eq_false h
    go_enter Tryz.func120, Tryz.ntmps120
    go_wp2_with fail
    go_ret
    exact ⟨ret_int HV.out.symm, rfl⟩
set_option maxHeartbeats 1000000 in
theorem divisor_any (a b : Int) (w : World) (ha : -100000 ≤ a ∧ a ≤ 100000) (hb : -100000 ≤ b ∧ b ≤ 100000) :
    Calls Tryz.prog 187 #[.int .i64 a, .int .i64 b] w fun e w' => e = .returned (.int .i64 (gcdI a b)) ∧ ∃ x, w' = ext w x := by
  go_enter Tryz.func187, Tryz.ntmps187
  go_wp2_with fail
  go_loopw [0, 1] (fun u0 u1 wr => ∃ x y : Int, (-100000 ≤ x ∧ x ≤ 100000) ∧ (-100000 ≤ y ∧ y ≤ 100000) ∧ u0 = .int .i64 x ∧ u1 = .int .i64 y ∧ Hid (gcdI x y = gcdI a b) ∧ ∃ q, wr = ext w q) (fun _ u1 _ => (intOf u1).natAbs)
  case atStart => exact ⟨a, b, ha, hb, rfl, rfl, rfl, ext_same w⟩
  case round =>
    obtain ⟨x, y, hx, hy, rfl, rfl, HG, q, rfl⟩ := hrel
    by_cases h0 : y = 0
    · have d : (y != 0) = false := by simp [h0]
      have HV : Hid (absI x = gcdI a b) := hide (by rw [← HG.out, h0, gcd_end])
      clear h0 HG
      go_wp2_with fail
      refine (iabs_any _ _ (by omega)).mono ?_
      rintro e w' ⟨rfl, rfl⟩
      go_wp2_with fail
      go_ret
      exact ⟨ret_int HV.out, (ext_mk (by (repeat' (first | (with_reducible first | exact Below.refl _ _ | assumption | refine below_ext _ ?_ ?_ | refine Below.alloc ?_ ?_ _ | refine Below.drew ?_ | refine below_drewN ?_ _ | refine le_drewN _ ?_ | refine Below.setCell ?_ ?_ _ | exact Nat.le_refl _ | refine le_ext _ ?_ | refine le_alloc _ ?_ | refine le_setCell _ _ ?_ | refine le_drew ?_) | omega | (simp; done) | (simp; omega)))))⟩
    · have d : (y != 0) = true := by simp [h0]
      have HV : Hid (gcdI y (x.tmod y) = gcdI a b) := hide (by rw [gcd_step]; exact HG.out)
      have HL := tmod_lt x h0
      have HB := tmod_bd x y hx
      have i1 : IntKind.i64.wrap (x.tmod y) = x.tmod y := IntWalk.i64_in _ (by omega)
      clear HG
      go_wp2_with fail
      go_region
      go_wp2_with fail
      exact ⟨⟨y, x.tmod y, hy, HB, rfl, rfl, HV, (ext_mk (by (repeat' (first | (with_reducible first | exact Below.refl _ _ | assumption | refine below_ext _ ?_ ?_ | refine Below.alloc ?_ ?_ _ | refine Below.drew ?_ | refine below_drewN ?_ _ | refine le_drewN _ ?_ | refine Below.setCell ?_ ?_ _ | exact Nat.le_refl _ | refine le_ext _ ?_ | refine le_alloc _ ?_ | refine le_setCell _ _ ?_ | refine le_drew ?_) | omega | (simp; done) | (simp; omega)))))⟩, HL⟩
set_option maxHeartbeats 1000000 in
theorem sgcd_any (a b : Int) (w : World) (ha : 0 ≤ a ∧ a ≤ 100000) (hb : 0 ≤ b ∧ b ≤ 100000) :
    Calls Tryz.prog 170 #[.int .i64 a, .int .i64 b] w fun e w' => e = .returned (.int .i64 (gcdI a b)) ∧ ∃ x, w' = ext w x := by
  go_enter Tryz.func170, Tryz.ntmps170
  go_wp2_with fail
  go_loopw [0, 1] (fun u0 u1 wr => ∃ x y : Int, (0 ≤ x ∧ x ≤ 100000) ∧ (0 ≤ y ∧ y ≤ 100000) ∧ u0 = .int .i64 x ∧ u1 = .int .i64 y ∧ Hid (gcdI x y = gcdI a b) ∧ ∃ q, wr = ext w q) (fun _ u1 _ => (intOf u1).natAbs)
  case atStart => exact ⟨a, b, ha, hb, rfl, rfl, rfl, ext_same w⟩
  case round =>
    obtain ⟨x, y, hx, hy, rfl, rfl, HG, q, rfl⟩ := hrel
    by_cases h0 : y = 0
    · have d : decide (0 < y) = false := decide_eq_false (by omega)
      have HV : Hid (x = gcdI a b) := hide (by rw [← HG.out, h0, gcd_end, absI_self hx.1])
      clear h0 HG
      go_wp2_with fail
      go_ret
      exact ⟨ret_int HV.out, (ext_mk (by (repeat' (first | (with_reducible first | exact Below.refl _ _ | assumption | refine below_ext _ ?_ ?_ | refine Below.alloc ?_ ?_ _ | refine Below.drew ?_ | refine below_drewN ?_ _ | refine le_drewN _ ?_ | refine Below.setCell ?_ ?_ _ | exact Nat.le_refl _ | refine le_ext _ ?_ | refine le_alloc _ ?_ | refine le_setCell _ _ ?_ | refine le_drew ?_) | omega | (simp; done) | (simp; omega)))))⟩
    · have d : decide (0 < y) = true := decide_eq_true (by omega)
      have HV : Hid (gcdI y (x.tmod y) = gcdI a b) := hide (by rw [gcd_step]; exact HG.out)
      have HL := tmod_lt x h0
      have HB := tmod_bd x y (M := 100000) (by omega)
      have HN := tmod_nn (b := y) hx.1
      rw [Int.tmod_eq_emod_of_nonneg hx.1] at HV HL HB HN
      have i1 : IntKind.i64.wrap (x % y) = x % y := IntWalk.i64_in _ (by omega)
      clear HG
      go_wp2_with fail
      exact ⟨⟨y, x % y, hy, ⟨HN, HB.2⟩, rfl, rfl, HV, (ext_mk (by (repeat' (first | (with_reducible first | exact Below.refl _ _ | assumption | refine below_ext _ ?_ ?_ | refine Below.alloc ?_ ?_ _ | refine Below.drew ?_ | refine below_drewN ?_ _ | refine le_drewN _ ?_ | refine Below.setCell ?_ ?_ _ | exact Nat.le_refl _ | refine le_ext _ ?_ | refine le_alloc _ ?_ | refine le_setCell _ _ ?_ | refine le_drew ?_) | omega | (simp; done) | (simp; omega)))))⟩, HL⟩
theorem gcd_bd {a b : Int} {M : Int} (ha : -M ≤ a ∧ a ≤ M) (hb : -M ≤ b ∧ b ≤ M) : 0 ≤ gcdI a b ∧ gcdI a b ≤ M := by
  refine ⟨gcd_nn a b, ?_⟩
  by_cases h : a = 0
  · subst h
    unfold gcdI Int.gcd
    simp
    omega
  · have := Nat.le_of_dvd (by omega) (Nat.gcd_dvd_left a.natAbs b.natAbs)
    unfold gcdI Int.gcd
    omega
theorem bndTo_bd {ps : List Pt} (h : ∀ p ∈ ps, (-1000 ≤ p.x ∧ p.x ≤ 1000) ∧ -1000 ≤ p.y ∧ p.y ≤ 1000) : ∀ k, k ≤ ps.length → (0 : Int) ≤ bndTo ps k ∧ bndTo ps k ≤ k * 2000
  | 0, _ => by simp [bndTo]
  | k + 1, hk => by
    have ih := bndTo_bd h k (by omega)
    have h1 := h _ (gp_mem (show k < ps.length by omega))
    have h2 := h _ (gp_mem (show (k + 1) % ps.length < ps.length from Nat.mod_lt _ (by omega)))
    have := gcd_bd (a := (gp ps ((k + 1) % ps.length)).x - (gp ps k).x) (b := (gp ps ((k + 1) % ps.length)).y - (gp ps k).y) (M := 2000) (by omega) (by omega)
    unfold bndTo
    omega
theorem areaTo_bd3 {ps : List Pt} (h : ∀ p ∈ ps, (-1000 ≤ p.x ∧ p.x ≤ 1000) ∧ -1000 ≤ p.y ∧ p.y ≤ 1000) : ∀ k, k ≤ ps.length → -(k * 2000000 : Int) ≤ areaTo ps k ∧ areaTo ps k ≤ k * 2000000
  | 0, _ => by simp [areaTo]
  | k + 1, hk => by
    have ih := areaTo_bd3 h k (by omega)
    have h1 := h _ (gp_mem (show k < ps.length by omega))
    have h2 := h _ (gp_mem (show (k + 1) % ps.length < ps.length from Nat.mod_lt _ (by omega)))
    have m1 := mul_bd (M := 1000) (N := 1000) h1.1 h2.2
    have m2 := mul_bd (M := 1000) (N := 1000) h1.2 h2.1
    unfold areaTo crP
    omega
theorem simB_P3 {ps : List Pt} (h : simB ps = true) : ∀ p ∈ ps, (-1000 ≤ p.x ∧ p.x ≤ 1000) ∧ -1000 ≤ p.y ∧ p.y ≤ 1000 := by
  unfold simB at h
  simp only [Bool.and_eq_true] at h
  obtain ⟨h1, _, _⟩ := ring_parts h.1
  unfold listOk at h1
  simp only [Bool.and_eq_true, decide_eq_true_eq] at h1
  intro p hp
  have := vP_iff.1 (List.all_eq_true.1 h1.2 p hp)
  omega
set_option maxHeartbeats 1000000 in
theorem onEdges_any (ps : List Pt) (A : Option Addr) (n c : Nat) (w : World) (hn : ps.length = n) (hm : n ≤ 1000) (hb : ∀ p ∈ ps, (-1000 ≤ p.x ∧ p.x ≤ 1000) ∧ -1000 ≤ p.y ∧ p.y ≤ 1000) (hs : PtsAt w w.heap.size A ps) :
    Calls Tryz.prog 137 #[.slice A n c] w fun e w' => e = .returned (.int .i64 (bndL ps)) ∧ ∃ x, w' = ext w x := by
  have HN := hide hn
  have HB := hide hb
  have HE := hide (edges_any ps A n c w hn hm hs)
  have AB := hide (bndTo_bd hb)
  clear hn hb hs
  go_enter Tryz.func137, Tryz.ntmps137
  go_wp2_with fail
  refine HE.out.mono ?_
  rintro e w1 ⟨v1, rfl, hown1, x1, rfl⟩
  obtain ⟨A1, n1, c1, rfl⟩ := hown1.slice
  have hl1 := hown1.segs.1
  have hle1 : n1 ≤ 1000 := by rw [edgesL_len, HN.out] at hl1; omega
  have HL1 : Hid (n1 = n) := hide (by rw [edgesL_len, HN.out] at hl1; omega)
  have SG := hide hown1.segs.2.2.2
  have B1 := ext_below w x1
  generalize hW1 : ext w x1 = W1 at *
  clear hW1 hown1 hl1
  go_wp2
  go_loopw [3, 10] (fun u3 u10 wr => ∃ k : Nat, k ≤ n1 ∧ u10 = .int .i64 k ∧ u3 = .int .i64 (bndTo ps k) ∧ Below W1.heap.size W1 wr) (fun _ u10 _ => n1 - (intOf u10).toNat)
  case atStart => exact ⟨0, Nat.zero_le _, rfl, rfl, Below.refl _ _⟩
  case round =>
    obtain ⟨k, hk, rfl, rfl, hbel⟩ := hrel
    have hsz := hbel.size
    by_cases hlt : k < n1
    · obtain ⟨b, o, rfl, hbl, hc⟩ := SG.out (by rw [edgesL_len, HN.out, ← HL1.out]; omega)
      have hkl : k < ps.length := by rw [HN.out, ← HL1.out]; exact hlt
      have hck := hc k (by rw [edgesL_len]; exact hkl)
      rw [edgesL_at hkl] at hck
      have hj : (k + 1) % ps.length < ps.length := Nat.mod_lt _ (by omega)
      obtain ⟨⟨p1, p2⟩, p3, p4⟩ := HB.out _ (gp_mem hkl)
      obtain ⟨⟨p5, p6⟩, p7, p8⟩ := HB.out _ (gp_mem hj)
      have ab := AB.out k (by omega)
      have NX : Hid (bndTo ps (k + 1) = bndTo ps k + gcdI ((gp ps ((k + 1) % ps.length)).x - (gp ps k).x) ((gp ps ((k + 1) % ps.length)).y - (gp ps k).y)) := hide rfl
      obtain ⟨h1, h2, h3, h4⟩ := hck
      have g1 := (hbel.cell (p := ⟨b, o + k * 4, none⟩) hbl).trans h1
      have g2 := (hbel.cell (p := ⟨b, o + k * 4 + 1, none⟩) hbl).trans h2
      have g3 := (hbel.cell (p := ⟨b, o + k * 4 + 2, none⟩) hbl).trans h3
      have g4 := (hbel.cell (p := ⟨b, o + k * 4 + 3, none⟩) hbl).trans h4
      unfold edgeAt at g1 g2 g3 g4
      simp only at g1 g2 g3 g4
      clear hc h1 h2 h3 h4 hj hkl
      generalize (gp ps k).x = X1 at *
      generalize (gp ps k).y = Y1 at *
      generalize (gp ps ((k + 1) % ps.length)).x = X2 at *
      generalize (gp ps ((k + 1) % ps.length)).y = Y2 at *
      have gb := gcd_bd (a := X2 - X1) (b := Y2 - Y1) (M := 2000) (by omega) (by omega)
      have abl : 0 ≤ bndTo ps k ∧ bndTo ps k ≤ 2000000 := by omega
      clear ab
      go_wp2_with fail
      refine (minus_any _ _ _ _ _ (by omega) (by omega) (by omega) (by omega)).mono ?_
      rintro e w' ⟨rfl, hw'⟩; have hzy := ext_sz hw'; obtain ⟨y, rfl⟩ := hw'; (try simp at hzy)
      go_wp2_with fail
      refine (divisor_any _ _ _ (by omega) (by omega)).mono ?_
      rintro e w' ⟨rfl, hw'⟩; have hzy2 := ext_sz hw'; obtain ⟨y2, rfl⟩ := hw'; (try simp at hzy2)
      go_wp2_with fail
      exact ⟨⟨k + 1, by omega, by go_num, by rw [NX.out], Below.trans hbel (by (repeat' (first | (with_reducible first | exact Below.refl _ _ | assumption | refine below_ext _ ?_ ?_ | refine Below.alloc ?_ ?_ _ | refine Below.drew ?_ | refine below_drewN ?_ _ | refine le_drewN _ ?_ | refine Below.setCell ?_ ?_ _ | exact Nat.le_refl _ | refine le_ext _ ?_ | refine le_alloc _ ?_ | refine le_setCell _ _ ?_ | refine le_drew ?_) | omega | (simp; done) | (simp; omega))))⟩, by simp [intOf]; omega⟩
    · have : k = n1 := by omega
      subst this
      go_wp2
      go_ret
      exact ⟨ret_int (by unfold bndL; rw [HN.out, ← HL1.out]), ext_mk (B1.trans (hbel.mono B1.size))⟩
set_option maxHeartbeats 1000000 in
theorem sbnd_any (ps : List Pt) (A : Option Addr) (n c : Nat) (w : World) (hn : ps.length = n) (hm : n ≤ 1000) (hb : ∀ p ∈ ps, (-1000 ≤ p.x ∧ p.x ≤ 1000) ∧ -1000 ≤ p.y ∧ p.y ≤ 1000) (hs : PtsAt w w.heap.size A ps) :
    Calls Tryz.prog 121 #[.slice A n c] w fun e w' => e = .returned (.int .i64 (bndL ps)) ∧ ∃ x, w' = ext w x := by
  have HN := hide hn
  have HB := hide hb
  have HS := hide hs
  have AB := hide (bndTo_bd hb)
  have HF : Hid (bndL ps = bndTo ps n) := hide (by unfold bndL; rw [hn])
  clear hn hb hs
  go_enter Tryz.func121, Tryz.ntmps121
  go_wp2
  go_loopw [3, 4] (fun u3 u4 wr => ∃ k : Nat, k ≤ n ∧ u4 = .int .i64 k ∧ u3 = .int .i64 (bndTo ps k) ∧ Below w.heap.size w wr) (fun _ u4 _ => n - (intOf u4).toNat)
  case atStart => exact ⟨0, Nat.zero_le _, rfl, rfl, Below.refl _ _⟩
  case round =>
    obtain ⟨k, hk, rfl, rfl, hbel⟩ := hrel
    have hsz := hbel.size
    by_cases hlt : k < n
    · skip
      obtain ⟨j, hj⟩ : ∃ j, j = (k + 1) % n := ⟨_, rfl⟩
      have hjl : j < n := by rw [hj]; exact Nat.mod_lt _ (by omega)
      obtain ⟨b, o, rfl, hb, hcs⟩ := HS.out (by rw [HN.out]; omega)
      obtain ⟨hx0, hy0⟩ := hcs k (by rw [HN.out]; omega)
      obtain ⟨hx1, hy1⟩ := hcs j (by rw [HN.out]; omega)
      have gx0 := (hbel.cell (p := ⟨b, o + k * 2, none⟩) hb).trans hx0
      have gy0 := (hbel.cell (p := ⟨b, o + k * 2 + 1, none⟩) hb).trans hy0
      have gx1 := (hbel.cell (p := ⟨b, o + j * 2, none⟩) hb).trans hx1
      have gy1 := (hbel.cell (p := ⟨b, o + j * 2 + 1, none⟩) hb).trans hy1
      have e2 : Int.tmod ((k : Int) + 1) (n : Int) = (j : Int) := by rw [hj]; exact (Int.ofNat_tmod (k + 1) n).symm
      have w1 : IntKind.i64.wrap ((k : Int) + 1) = (k : Int) + 1 := IntWalk.i64_in _ (by omega)
      have w3 : IntKind.i64.wrap (j : Int) = (j : Int) := IntWalk.i64_in _ (by omega)
      have q1 : (0 : Int) ≤ (j : Int) := by omega
      have q2 : (j : Int) < (n : Int) := by omega
      have q3 : (0 : Int) ≤ (k : Int) := by omega
      have q4 : (k : Int) < (n : Int) := by omega
      have q5 : ¬ n = 0 := by omega
      obtain ⟨⟨p1, p2⟩, p3, p4⟩ := HB.out _ (gp_mem (show k < ps.length by rw [HN.out]; omega))
      obtain ⟨⟨p5, p6⟩, p7, p8⟩ := HB.out _ (gp_mem (show j < ps.length by rw [HN.out]; omega))
      have ab := AB.out k (by rw [HN.out]; omega)
      have NX : Hid (bndTo ps (k + 1) = bndTo ps k + gcdI (absI (pX ps j - pX ps k)) (absI (pY ps j - pY ps k))) := hide (by rw [gcd_abs, hj, ← HN.out]; rfl)
      clear hcs hx0 hy0 hx1 hy1 hj
      have p1' : -1000 ≤ (pX ps k) ∧ (pX ps k) ≤ 1000 := ⟨p1, p2⟩
      have p2' : -1000 ≤ (pY ps k) ∧ (pY ps k) ≤ 1000 := ⟨p3, p4⟩
      have p3' : -1000 ≤ (pX ps j) ∧ (pX ps j) ≤ 1000 := ⟨p5, p6⟩
      have p4' : -1000 ≤ (pY ps j) ∧ (pY ps j) ≤ 1000 := ⟨p7, p8⟩
      clear p1 p2 p3 p4 p5 p6 p7 p8
      generalize pX ps k = X1 at *
      generalize pY ps k = Y1 at *
      generalize pX ps j = X2 at *
      generalize pY ps j = Y2 at *
      have aa := absI_eq (X2 - X1)
      have an := absI_nn (X2 - X1)
      have ba := absI_eq (Y2 - Y1)
      have bn := absI_nn (Y2 - Y1)
      have gb := gcd_bd (a := absI (X2 - X1)) (b := absI (Y2 - Y1)) (M := 2000) (by omega) (by omega)
      have abl : 0 ≤ bndTo ps k ∧ bndTo ps k ≤ 2000000 := by omega
      have SA := hide (fun (z : Int) (hz : -2000 ≤ z ∧ z ≤ 2000) (W : World) => (sabs_any z W (by omega)).mono (fun e w' (hh : e = .returned (.int .i64 (absI z)) ∧ W = w') => (⟨hh.1, by rw [← hh.2]; exact ext_same W⟩ : e = .returned (.int .i64 (absI z)) ∧ ∃ m, w' = ext W m)))
      clear ab
      go_wp2_with fail
      refine wp_region_ext (by kernel_rfl) (by kernel_rfl) ?_
      repeat (go_big_quiet_step ((first | (go_at_call 120; exact Calls.in_ext (SA.out _ (by omega) _)) | (go_at_call 170; exact Calls.in_ext (sgcd_any _ _ _ (by omega) (by omega))))))
      refine wpQuiet_nil ?_
      rintro _ hnq
      have hzq := ext_sz hnq
      obtain ⟨nq, rfl⟩ := hnq
      (try simp at hzq)
      go_wp2_with fail
      exact ⟨⟨k + 1, by omega, by go_num, by rw [NX.out], Below.trans hbel (by (repeat' (first | (with_reducible first | exact Below.refl _ _ | assumption | refine below_ext _ ?_ ?_ | refine Below.alloc ?_ ?_ _ | refine Below.drew ?_ | refine below_drewN ?_ _ | refine le_drewN _ ?_ | refine Below.setCell ?_ ?_ _ | exact Nat.le_refl _ | refine le_ext _ ?_ | refine le_alloc _ ?_ | refine le_setCell _ _ ?_ | refine le_drew ?_) | omega | (simp; done) | (simp; omega))))⟩, by simp [intOf]; omega⟩
    · have hkn : k = n := by omega
      have HV : Hid (bndTo ps k = bndL ps) := hide (by rw [HF.out, hkn])
      clear hkn
      go_wp2
      go_ret
      exact ⟨ret_int HV.out, ext_mk hbel⟩
set_option maxHeartbeats 1000000 in
theorem sarea_any (ps : List Pt) (A : Option Addr) (n c : Nat) (w : World) (hn : ps.length = n) (hm : n ≤ 1000) (hb : ∀ p ∈ ps, (-1000 ≤ p.x ∧ p.x ≤ 1000) ∧ -1000 ≤ p.y ∧ p.y ≤ 1000) (hs : PtsAt w w.heap.size A ps) :
    Calls Tryz.prog 61 #[.slice A n c] w fun e w' => e = .returned (.int .i64 (areaL ps)) ∧ ∃ x, w' = ext w x := by
  have HN := hide hn
  have HB := hide hb
  have HS := hide hs
  have AB := hide (areaTo_bd3 hb)
  have HF : Hid (areaL ps = areaTo ps n) := hide (by unfold areaL; rw [hn])
  clear hn hb hs
  go_enter Tryz.func61, Tryz.ntmps61
  go_wp2
  go_loopw [3, 4] (fun u3 u4 wr => ∃ k : Nat, k ≤ n ∧ u4 = .int .i64 k ∧ u3 = .int .i64 (areaTo ps k) ∧ Below w.heap.size w wr) (fun _ u4 _ => n - (intOf u4).toNat)
  case atStart => exact ⟨0, Nat.zero_le _, rfl, rfl, Below.refl _ _⟩
  case round =>
    obtain ⟨k, hk, rfl, rfl, hbel⟩ := hrel
    have hsz := hbel.size
    by_cases hlt : k < n
    · skip
      obtain ⟨j, hj⟩ : ∃ j, j = (k + 1) % n := ⟨_, rfl⟩
      have hjl : j < n := by rw [hj]; exact Nat.mod_lt _ (by omega)
      obtain ⟨b, o, rfl, hb, hcs⟩ := HS.out (by rw [HN.out]; omega)
      obtain ⟨hx0, hy0⟩ := hcs k (by rw [HN.out]; omega)
      obtain ⟨hx1, hy1⟩ := hcs j (by rw [HN.out]; omega)
      have gx0 := (hbel.cell (p := ⟨b, o + k * 2, none⟩) hb).trans hx0
      have gy0 := (hbel.cell (p := ⟨b, o + k * 2 + 1, none⟩) hb).trans hy0
      have gx1 := (hbel.cell (p := ⟨b, o + j * 2, none⟩) hb).trans hx1
      have gy1 := (hbel.cell (p := ⟨b, o + j * 2 + 1, none⟩) hb).trans hy1
      have e2 : Int.tmod ((k : Int) + 1) (n : Int) = (j : Int) := by rw [hj]; exact (Int.ofNat_tmod (k + 1) n).symm
      have w1 : IntKind.i64.wrap ((k : Int) + 1) = (k : Int) + 1 := IntWalk.i64_in _ (by omega)
      have w3 : IntKind.i64.wrap (j : Int) = (j : Int) := IntWalk.i64_in _ (by omega)
      have q1 : (0 : Int) ≤ (j : Int) := by omega
      have q2 : (j : Int) < (n : Int) := by omega
      have q3 : (0 : Int) ≤ (k : Int) := by omega
      have q4 : (k : Int) < (n : Int) := by omega
      have q5 : ¬ n = 0 := by omega
      obtain ⟨⟨p1, p2⟩, p3, p4⟩ := HB.out _ (gp_mem (show k < ps.length by rw [HN.out]; omega))
      obtain ⟨⟨p5, p6⟩, p7, p8⟩ := HB.out _ (gp_mem (show j < ps.length by rw [HN.out]; omega))
      have ab := AB.out k (by rw [HN.out]; omega)
      have NX : Hid (areaTo ps (k + 1) = areaTo ps k + pX ps k * pY ps j - pY ps k * pX ps j) := hide (by
        rw [show areaTo ps (k + 1) = areaTo ps k + crP (gp ps k) (gp ps ((k + 1) % ps.length)) from rfl, HN.out, ← hj]
        unfold crP pX pY
        omega)
      clear hcs hx0 hy0 hx1 hy1 hj
      have p1' : -1000 ≤ (pX ps k) ∧ (pX ps k) ≤ 1000 := ⟨p1, p2⟩
      have p2' : -1000 ≤ (pY ps k) ∧ (pY ps k) ≤ 1000 := ⟨p3, p4⟩
      have p3' : -1000 ≤ (pX ps j) ∧ (pX ps j) ≤ 1000 := ⟨p5, p6⟩
      have p4' : -1000 ≤ (pY ps j) ∧ (pY ps j) ≤ 1000 := ⟨p7, p8⟩
      clear p1 p2 p3 p4 p5 p6 p7 p8
      generalize pX ps k = X1 at *
      generalize pY ps k = Y1 at *
      generalize pX ps j = X2 at *
      generalize pY ps j = Y2 at *
      have m1 := mul_bd (M := 1000) (N := 1000) p1' p4'
      have m2 := mul_bd (M := 1000) (N := 1000) p2' p3'
      have abl : -2000000000 ≤ areaTo ps k ∧ areaTo ps k ≤ 2000000000 := by omega
      clear ab
      go_wp2_with fail
      refine wp_region_ext (by kernel_rfl) (by kernel_rfl) ?_
      repeat (go_big_quiet_step (fail))
      refine wpQuiet_nil ?_
      rintro _ hnq
      have hzq := ext_sz hnq
      obtain ⟨nq, rfl⟩ := hnq
      (try simp at hzq)
      go_wp2_with fail
      exact ⟨⟨k + 1, by omega, by go_num, by rw [NX.out], Below.trans hbel (by (repeat' (first | (with_reducible first | exact Below.refl _ _ | assumption | refine below_ext _ ?_ ?_ | refine Below.alloc ?_ ?_ _ | refine Below.drew ?_ | refine below_drewN ?_ _ | refine le_drewN _ ?_ | refine Below.setCell ?_ ?_ _ | exact Nat.le_refl _ | refine le_ext _ ?_ | refine le_alloc _ ?_ | refine le_setCell _ _ ?_ | refine le_drew ?_) | omega | (simp; done) | (simp; omega))))⟩, by simp [intOf]; omega⟩
    · have hkn : k = n := by omega
      have HV : Hid (areaTo ps k = areaL ps) := hide (by rw [HF.out, hkn])
      clear hkn
      go_wp2
      go_ret
      exact ⟨ret_int HV.out, ext_mk hbel⟩
end Go.Proofs.YtnddfdhfefconaaGreatDoor
