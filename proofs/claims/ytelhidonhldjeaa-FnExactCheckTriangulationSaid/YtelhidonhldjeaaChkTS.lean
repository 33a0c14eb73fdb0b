
/- Triangles that divide a polygon: the reference's test. -/
import Derived.Test.YtelhidonhldjeaaChkTM
import Derived.Test.YtelhidonhldjeaaClip
import Derived.Test.YtelhidonhldjeaaRing
set_option linter.unusedVariables false
set_option linter.unusedSimpArgs false
namespace Go.Proofs.Ytelhidonhldjeaa
open Go.RowKit

/-- The sides from i to k among the first j triangles. -/
def cT (ts : List TI) (j : Nat) (i k : Int) : Nat := (ts.take j).countP fun t => (t.a == i && t.b == k) || (t.b == i && t.c == k) || (t.c == i && t.a == k)
theorem take_succ_gt {ts : List TI} {j : Nat} (h : j < ts.length) : ts.take (j + 1) = ts.take j ++ [gt ts j] := by
  rw [List.take_add_one, List.getElem?_eq_getElem h, gt_lt h]; rfl
theorem cT_succ {ts : List TI} {j : Nat} (h : j < ts.length) (i k : Int) : cT ts (j + 1) i k = cT ts j i k + if (((gt ts j).a == i && (gt ts j).b == k) || ((gt ts j).b == i && (gt ts j).c == k) || ((gt ts j).c == i && (gt ts j).a == k)) = true then 1 else 0 := by
  unfold cT
  rw [take_succ_gt h, List.countP_append, List.countP_cons, List.countP_nil, Nat.zero_add]
theorem cT_le (ts : List TI) (j : Nat) (i k : Int) : cT ts j i k ≤ ts.length := by
  unfold cT
  exact Nat.le_trans (List.countP_le_length ..) (by rw [List.length_take]; omega)
theorem cT_all {ts : List TI} {n : Nat} (h : ∀ t ∈ ts, tIn n t = true) (i k : Nat) : cT ts ts.length i k = cntS (ts.map toN) i k := by
  unfold cT cntS
  rw [List.take_length, List.countP_map]
  refine List.countP_congr fun t ht => ?_
  obtain ⟨a, b, c, rfl, _⟩ := tIn_iff.1 (h t ht)
  simp only [Function.comp, sideB_iff, toN, Int.toNat_natCast, Bool.or_eq_true, Bool.and_eq_true, beq_iff_eq]
  omega
set_option maxHeartbeats 1000000 in
theorem sidesFrom_any (ts : List TI) (i k : Int) (A : Option Addr) (m d : Nat) (w : World) (hm : ts.length = m) (hb : m ≤ 1000) (hs : TrisAt w w.heap.size A ts) :
    Calls Try.prog 91 #[.slice A m d, .int .i64 i, .int .i64 k] w fun e w' => e = .returned (.int .i64 (cT ts m i k)) ∧ ∃ x, w' = ext w x := by
  have HS := hide hs
  have HM := hide hm
  have CL := hide (fun j => cT_le ts j i k)
  rw [hm] at CL
  clear hs hm
  go_enter Try.func91, Try.ntmps91
  go_wp2
  go_loopw [7, 8] (fun u7 u8 wr => ∃ j : Nat, j ≤ m ∧ u8 = .int .i64 j ∧ u7 = .int .i64 (cT ts j i k) ∧ Below w.heap.size w wr) (fun _ u8 _ => m - (intOf u8).toNat)
  case atStart => exact ⟨0, Nat.zero_le _, rfl, by simp [cT], Below.refl _ _⟩
  case round =>
    obtain ⟨j, hj, rfl, rfl, hbel⟩ := hrel
    have hsz := hbel.size
    have hcl := CL.out j
    by_cases hlt : j < m
    · obtain ⟨b, o, rfl, hbl, hcs⟩ := HS.out (by rw [HM.out]; omega)
      obtain ⟨x0, y0, z0⟩ := hcs j (by rw [HM.out]; omega)
      have g1 := (hbel.cell (p := ⟨b, o + j * 3, none⟩) hbl).trans x0
      have g2 := (hbel.cell (p := ⟨b, o + j * 3 + 1, none⟩) hbl).trans y0
      have g3 := (hbel.cell (p := ⟨b, o + j * 3 + 2, none⟩) hbl).trans z0
      have NX := hide (cT_succ (ts := ts) (j := j) (by rw [HM.out]; omega) i k)
      have q1 : (0 : Int) ≤ (j : Int) := by omega
      have q2 : (j : Int) < (m : Int) := by omega
      clear hcs x0 y0 z0
      generalize (gt ts j).a = X at *
      generalize (gt ts j).b = Y at *
      generalize (gt ts j).c = Z at *
      have fin : ∀ (W : World) (v : Int), Below wr.heap.size wr W → v = (cT ts (j + 1) i k : Int) → ∃ j' : Nat, j' ≤ m ∧ Value.int .i64 ((j : Int) + 1) = Value.int .i64 j' ∧ Value.int .i64 v = Value.int .i64 (cT ts j' i k) ∧ Below w.heap.size w W := fun W v hb hv => ⟨j + 1, by omega, by go_num, by rw [hv], hbel.trans (hb.mono hsz)⟩
      have FIN := hide fin
      clear fin
      generalize hcj : cT ts j i k = cj at *
      clear hcj
      go_wp2_with fail
      all_goals
        refine ⟨FIN.out _ _ (by (repeat' (first | (with_reducible exact Below.refl _ _) | (with_reducible assumption) | (with_reducible refine below_ext _ ?_ ?_) | (with_reducible refine Below.alloc ?_ ?_ _) | (with_reducible refine Below.drew ?_) | (with_reducible refine below_drewN ?_ _) | (with_reducible refine le_drewN _ ?_) | (with_reducible refine Below.setCell ?_ ?_ _) | (with_reducible exact Nat.le_refl _) | (with_reducible refine le_ext _ ?_) | (with_reducible refine le_alloc _ ?_) | (with_reducible refine le_setCell _ _ ?_) | (with_reducible refine le_drew ?_) | omega | (simp; done) | (simp; omega)))) ?_, by simp [intOf]; omega⟩
        rw [NX.out]
        clear NX FIN g1 g2 g3 HS HM CL
        simp only [beq_iff_eq, beq_eq_false_iff_ne, ne_eq, Bool.or_eq_true, Bool.and_eq_true] at *
        split <;> (push_cast; omega)
    · have ej : j = m := by omega
      have EJ : Hid ((cT ts j i k : Int) = (cT ts m i k : Int)) := hide (by rw [ej])
      rw [EJ.out]
      clear EJ ej
      go_wp2
      go_ret
      exact ⟨rfl, ext_mk hbel⟩
set_option maxHeartbeats 1000000 in
theorem follows_any (rs : List Nat) (x y : Nat) (A : Option Addr) (m d : Nat) (w : World) (hm : rs.length = m) (hb : m ≤ 1000) (hs : IntsAt w w.heap.size A (zI rs)) :
    Calls Try.prog 92 #[.slice A m d, .int .i64 x, .int .i64 y] w fun e w' => e = .returned (.bool (folB rs x y)) ∧ ∃ z, w' = ext w z := by
  have CS : Hid (0 < m → ∃ b o, A = some ⟨b, o, none⟩ ∧ b < w.heap.size ∧ ∀ j, j < m → w.cell? ⟨b, o + j, none⟩ = some (.int .i64 (gn rs j))) := hide (fun h0 => by
    obtain ⟨b, o, e, hb, hc⟩ := hs (by rw [zI_len]; omega)
    exact ⟨b, o, e, hb, fun j hj => by rw [← gi_zI]; exact hc j (by rw [zI_len]; omega)⟩)
  have FB : Hid (folB rs x y = (List.range m).any fun j => decide (gn rs j = x) && decide (gn rs ((j + 1) % m) = y)) := hide (by unfold folB aft; rw [hm])
  rw [FB.out]
  clear hs hm FB
  go_enter Try.func92, Try.ntmps92
  go_wp2
  go_loopw [7] (fun u7 wr => ∃ j : Nat, j ≤ m ∧ u7 = .int .i64 j ∧ Hid (∀ i, i < j → (decide (gn rs i = x) && decide (gn rs ((i + 1) % m) = y)) = false) ∧ Below w.heap.size w wr) (fun u7 _ => m - (intOf u7).toNat)
  case atStart => exact ⟨0, Nat.zero_le _, rfl, hide (fun i hi => by omega), Below.refl _ _⟩
  case round =>
    obtain ⟨j, hj, rfl, HP, hbel⟩ := hrel
    have hsz := hbel.size
    by_cases hlt : j < m
    · obtain ⟨b, o, rfl, hbl, hcs⟩ := CS.out (by omega)
      obtain ⟨r, hr⟩ : ∃ r, r = (j + 1) % m := ⟨_, rfl⟩
      have hrl : r < m := by rw [hr]; exact Nat.mod_lt _ (by omega)
      have g1 := (hbel.cell (p := ⟨b, o + j, none⟩) hbl).trans (hcs j hlt)
      have g2 := (hbel.cell (p := ⟨b, o + r, none⟩) hbl).trans (hcs r hrl)
      have e2 : Int.tmod ((j : Int) + 1) (m : Int) = (r : Int) := by rw [hr]; exact (Int.ofNat_tmod (j + 1) m).symm
      have w1 : IntKind.i64.wrap ((j : Int) + 1) = (j : Int) + 1 := IntWalk.i64_in _ (by omega)
      have w3 : IntKind.i64.wrap (r : Int) = (r : Int) := IntWalk.i64_in _ (by omega)
      have q1 : (0 : Int) ≤ (j : Int) := by omega
      have q2 : (j : Int) < (m : Int) := by omega
      have q3 : (0 : Int) ≤ (r : Int) := by omega
      have q4 : (r : Int) < (m : Int) := by omega
      have q5 : ¬ m = 0 := by omega
      have YES : Hid ((decide (gn rs j = x) && decide (gn rs r = y)) = true → ((List.range m).any fun j => decide (gn rs j = x) && decide (gn rs ((j + 1) % m) = y)) = true) := hide (fun h => List.any_eq_true.2 ⟨j, List.mem_range.2 hlt, by rw [hr] at h; exact h⟩)
      have NO : Hid ((decide (gn rs j = x) && decide (gn rs r = y)) = false → ∀ i, i < j + 1 → (decide (gn rs i = x) && decide (gn rs ((i + 1) % m) = y)) = false) := hide (fun h i hi => by
        by_cases e : i = j
        · rw [e, ← hr]; exact h
        · exact HP.out i (by omega))
      clear hcs hr
      generalize gn rs j = X at *
      generalize gn rs r = Y at *
      by_cases e3 : X = x
      · have d1 : ((X : Int) == (x : Int)) = true := by rw [e3]; simp
        by_cases e4 : Y = y
        · have d2 : ((Y : Int) == (y : Int)) = true := by rw [e4]; simp
          have HV := hide (YES.out (by rw [decide_eq_true e3, decide_eq_true e4]; rfl))
          clear YES NO e3 e4
          go_wp2_with fail
          go_ret
          exact ⟨ret_bool HV.out.symm, ext_mk hbel⟩
        · have d2 : ((Y : Int) == (y : Int)) = false := by rw [beq_eq_false_iff_ne]; omega
          have HV := hide (NO.out (by rw [decide_eq_false e4, Bool.and_false]))
          clear YES NO e3 e4
          go_wp2_with fail
          exact ⟨⟨j + 1, by omega, by go_num, HV, hbel⟩, by simp [intOf]; omega⟩
      · have d1 : ((X : Int) == (x : Int)) = false := by rw [beq_eq_false_iff_ne]; omega
        have HV := hide (NO.out (by rw [decide_eq_false e3, Bool.false_and]))
        clear YES NO e3
        go_wp2_with fail
        exact ⟨⟨j + 1, by omega, by go_num, HV, hbel⟩, by simp [intOf]; omega⟩
    · have ej : j = m := by omega
      have HV : Hid (((List.range m).any fun j => decide (gn rs j = x) && decide (gn rs ((j + 1) % m) = y)) = false) := hide (by
        rw [List.any_eq_false]
        intro i hi
        rw [HP.out i (by rw [ej]; exact List.mem_range.1 hi)]; decide)
      clear ej
      go_wp2_with fail
      go_ret
      exact ⟨ret_bool HV.out.symm, ext_mk hbel⟩
end Go.Proofs.Ytelhidonhldjeaa
