
/- Ears: the reference's test. -/
import Derived.Test.YtkkmioffclpmfaaGreatEar
set_option linter.unusedVariables false
set_option linter.unusedSimpArgs false
namespace Go.Proofs.YtkkmioffclpmfaaGreat
open Go.RowKit

theorem eqP_at {ps : List Pt} (h : ps.Nodup) {i k : Nat} (hi : i < ps.length) (hk : k < ps.length) : eqP (pX ps i) (pY ps i) (pX ps k) (pY ps k) = decide (i = k) := by
  rw [Bool.eq_iff_iff, eqP_iff, decide_eq_true_eq]
  constructor
  · rintro ⟨h1, h2⟩
    exact gp_inj h hi hk (by rw [gp_mk, gp_mk, h1, h2])
  · rintro rfl; exact ⟨rfl, rfl⟩
set_option maxRecDepth 20000 in
set_option maxHeartbeats 2000000 in
theorem isEar_any (ps : List Pt) (rs : List Nat) (k : Nat) (A Z : Option Addr) (n cc m d : Nat) (w : World) (hn : ps.length = n) (hl : rs.length = m) (hk : k < m) (hm : n ≤ 1000) (hm2 : m ≤ 1000) (hr : ∀ j, j < m → gn rs j < n) (hd : ps.Nodup) (hib : ∀ p ∈ ps, (-100000 ≤ p.x ∧ p.x ≤ 100000) ∧ (-100000 ≤ p.y ∧ p.y ≤ 100000)) (hs : PtsAt w w.heap.size A ps) (hz : IntsAt w w.heap.size Z (zI rs)) :
    Calls Tryz.prog 46 #[.slice A n cc, .slice Z m d, .int .i64 k] w fun e w' => e = .returned (.bool (earB ps rs k)) ∧ ∃ x, w' = ext w x := by
  have hzl : (zI rs).length = m := by rw [zI_len, hl]
  obtain ⟨j1, hj1⟩ : ∃ j, j = (k + m - 1) % m := ⟨_, rfl⟩
  obtain ⟨j2, hj2⟩ : ∃ j, j = (k + 1) % m := ⟨_, rfl⟩
  have hl1 : j1 < m := by rw [hj1]; exact Nat.mod_lt _ (by omega)
  have hl2 : j2 < m := by rw [hj2]; exact Nat.mod_lt _ (by omega)
  have eb : bef rs k = gn rs j1 := by unfold bef; rw [hl, ← hj1]
  have ea : aft rs k = gn rs j2 := by unfold aft; rw [hl, ← hj2]
  have EB : Hid (earB ps rs k = (decide (0 < trn (gp ps (gn rs j1)) (gp ps (gn rs k)) (gp ps (gn rs j2))) && !(List.range m).any fun j => triN ps (gn rs j1) (gn rs k) (gn rs j2) (gn rs j))) := hide (by unfold earB; rw [eb, ea, hl])
  rw [EB.out]
  have E1 := hr j1 hl1
  have E2 := hr k hk
  have E3 := hr j2 hl2
  obtain ⟨b2, o2, rfl, hbl2, hcs2⟩ := hz (by omega)
  obtain ⟨b1, o1, rfl, hbl1, hcs1⟩ := hs (by omega)
  have z1 := hcs2 j1 (by omega)
  have z2 := hcs2 k (by omega)
  have z3 := hcs2 j2 (by omega)
  rw [gi_zI] at z1 z2 z3
  have RC : Hid (∀ j, j < m → gn rs j < n ∧ w.cell? ⟨b2, o2 + j, none⟩ = some (.int .i64 (gn rs j))) := hide (fun j hj => ⟨hr j hj, by have := hcs2 j (by omega); rw [gi_zI] at this; exact this⟩)
  have PC : Hid (∀ i, i < n → w.cell? ⟨b1, o1 + i * 2, none⟩ = some (.int .i64 (pX ps i)) ∧ w.cell? ⟨b1, o1 + i * 2 + 1, none⟩ = some (.int .i64 (pY ps i))) := hide (fun i hi => hcs1 i (by omega))
  have BI : Hid (∀ i, i < n → (-100000 ≤ (pX ps i) ∧ (pX ps i) ≤ 100000) ∧ (-100000 ≤ (pY ps i) ∧ (pY ps i) ≤ 100000)) := hide (fun i hi => hib _ (gp_mem (by omega)))
  have EQ : Hid (∀ i j, i < n → j < n → eqP (pX ps i) (pY ps i) (pX ps j) (pY ps j) = decide (i = j)) := hide (fun i j hi hj => eqP_at hd (by omega) (by omega))
  have e1 : Int.tmod ((k : Int) + (m : Int) - 1) (m : Int) = (j1 : Int) := by
    rw [hj1, show ((k : Int) + (m : Int) - 1) = ((k + m - 1 : Nat) : Int) by omega]
    exact (Int.ofNat_tmod (k + m - 1) m).symm
  have e2 : Int.tmod ((k : Int) + 1) (m : Int) = (j2 : Int) := by rw [hj2]; exact (Int.ofNat_tmod (k + 1) m).symm
  have w1 : IntKind.i64.wrap ((k : Int) + (m : Int)) = (k : Int) + (m : Int) := IntWalk.i64_in _ (by omega)
  have w2 : IntKind.i64.wrap ((k : Int) + (m : Int) - 1) = (k : Int) + (m : Int) - 1 := IntWalk.i64_in _ (by omega)
  have w3 : IntKind.i64.wrap (j1 : Int) = (j1 : Int) := IntWalk.i64_in _ (by omega)
  have w4 : IntKind.i64.wrap (j2 : Int) = (j2 : Int) := IntWalk.i64_in _ (by omega)
  have w5 : IntKind.i64.wrap ((k : Int) + 1) = (k : Int) + 1 := IntWalk.i64_in _ (by omega)
  have q1 : (0 : Int) ≤ (j1 : Int) := by omega
  have q2 : (j1 : Int) < (m : Int) := by omega
  have q3 : (0 : Int) ≤ (k : Int) := by omega
  have q4 : (k : Int) < (m : Int) := by omega
  have q5 : (0 : Int) ≤ (j2 : Int) := by omega
  have q6 : (j2 : Int) < (m : Int) := by omega
  have q7 : ¬ m = 0 := by omega
  clear hcs2 hcs1 hz hs hib hr hj1 hj2 eb ea EB hd hn hl hzl
  generalize ha : gn rs j1 = a at *
  generalize hb : gn rs k = b at *
  generalize hc : gn rs j2 = c at *
  clear ha hb hc
  obtain ⟨xa, ya⟩ := PC.out a E1
  obtain ⟨xb, yb⟩ := PC.out b E2
  obtain ⟨xc, yc⟩ := PC.out c E3
  have q8 : (0 : Int) ≤ (a : Int) := by omega
  have q9 : (a : Int) < (n : Int) := by omega
  have q10 : (0 : Int) ≤ (b : Int) := by omega
  have q11 : (b : Int) < (n : Int) := by omega
  have q12 : (0 : Int) ≤ (c : Int) := by omega
  have q13 : (c : Int) < (n : Int) := by omega
  have CR := hide (fun W => scross_any (pX ps a) (pY ps a) (pX ps b) (pY ps b) (pX ps c) (pY ps c) W (BI.out a E1).1 (BI.out a E1).2 (BI.out b E2).1 (BI.out b E2).2 (BI.out c E3).1 (BI.out c E3).2)
  have EU : Hid (((pX ps b - pX ps a) * (pY ps c - pY ps a) - (pY ps b - pY ps a) * (pX ps c - pX ps a)) = trn (gp ps a) (gp ps b) (gp ps c)) := hide rfl
  rw [EU.out] at CR
  have IT := hide (fun (j : Nat) (hj : j < n) (W : World) => sinTri_any (pX ps a) (pY ps a) (pX ps b) (pY ps b) (pX ps c) (pY ps c) (pX ps j) (pY ps j) W (BI.out a E1).1 (BI.out a E1).2 (BI.out b E2).1 (BI.out b E2).2 (BI.out c E3).1 (BI.out c E3).2 (BI.out j hj).1 (BI.out j hj).2)
  have TY := hide (fun j => triN_yes (ps := ps) (a := a) (b := b) (c := c) (k := j))
  have TN := hide (fun j => triN_no (ps := ps) (a := a) (b := b) (c := c) (k := j))
  clear EU
  generalize hU : trn (gp ps a) (gp ps b) (gp ps c) = U at *
  clear hU
  by_cases hU : U ≤ 0
  · have dU : decide (U ≤ 0) = true := decide_eq_true hU
    have dV : decide (0 < U) = false := decide_eq_false (by omega)
    rw [dV]
    clear hU dV IT
    go_enter Tryz.func46, Tryz.ntmps46
    go_wp2_with fail
    refine (CR.out _).mono ?_
    rintro e w' ⟨rfl, hw'⟩; have hzy1 := ext_sz hw'; obtain ⟨y1, rfl⟩ := hw'; (try simp at hzy1)
    go_wp2_with fail
    go_ret
    exact ⟨rfl, (ext_mk (by (repeat' (first | (with_reducible first | exact Below.refl _ _ | assumption | refine below_ext _ ?_ ?_ | refine Below.alloc ?_ ?_ _ | refine Below.drew ?_ | refine below_drewN ?_ _ | refine le_drewN _ ?_ | refine Below.setCell ?_ ?_ _ | exact Nat.le_refl _ | refine le_ext _ ?_ | refine le_alloc _ ?_ | refine le_setCell _ _ ?_ | refine le_drew ?_) | omega | (simp; done) | (simp; omega)))))⟩
  · have dU : decide (U ≤ 0) = false := decide_eq_false hU
    have dV : decide (0 < U) = true := decide_eq_true (by omega)
    rw [dV, Bool.true_and]
    clear hU dV
    go_enter Tryz.func46, Tryz.ntmps46
    go_wp2_with fail
    refine (CR.out _).mono ?_
    rintro e w' ⟨rfl, hw'⟩; have hzy1 := ext_sz hw'; obtain ⟨y1, rfl⟩ := hw'; (try simp at hzy1)
    go_wp2_with fail
    generalize hW : ext _ y1 = W1
    have f1 : W1.cell? ⟨w.heap.size, 0, none⟩ = some (.int .i64 (pX ps a)) := by rw [← hW]; simp [go_sem, ↓IntWalk.iteOmega]
    have f2 : W1.cell? ⟨w.heap.size, 1, none⟩ = some (.int .i64 (pY ps a)) := by rw [← hW]; simp [go_sem, ↓IntWalk.iteOmega]
    have f3 : W1.cell? ⟨w.heap.size + 1, 0, none⟩ = some (.int .i64 (pX ps b)) := by rw [← hW]; simp [go_sem, ↓IntWalk.iteOmega]
    have f4 : W1.cell? ⟨w.heap.size + 1, 1, none⟩ = some (.int .i64 (pY ps b)) := by rw [← hW]; simp [go_sem, ↓IntWalk.iteOmega]
    have f5 : W1.cell? ⟨w.heap.size + 1 + 1, 0, none⟩ = some (.int .i64 (pX ps c)) := by rw [← hW]; simp [go_sem, ↓IntWalk.iteOmega]
    have f6 : W1.cell? ⟨w.heap.size + 1 + 1, 1, none⟩ = some (.int .i64 (pY ps c)) := by rw [← hW]; simp [go_sem, ↓IntWalk.iteOmega]
    have B1 : Below w.heap.size w W1 := by rw [← hW]; (repeat' (first | (with_reducible first | exact Below.refl _ _ | assumption | refine below_ext _ ?_ ?_ | refine Below.alloc ?_ ?_ _ | refine Below.drew ?_ | refine below_drewN ?_ _ | refine le_drewN _ ?_ | refine Below.setCell ?_ ?_ _ | exact Nat.le_refl _ | refine le_ext _ ?_ | refine le_alloc _ ?_ | refine le_setCell _ _ ?_ | refine le_drew ?_) | omega | (simp; done) | (simp; omega)))
    have l3 : w.heap.size + 1 + 1 < W1.heap.size := World.block_lt_of_cell? W1 _ f5
    clear hW xa ya xb yb xc yc z1 z2 z3
    go_loopw [11] (fun u11 wr => ∃ j : Nat, j ≤ m ∧ u11 = .int .i64 j ∧ Hid (∀ i, i < j → triN ps a b c (gn rs i) = false) ∧ Below W1.heap.size W1 wr) (fun u11 _ => m - (intOf u11).toNat)
    case atStart => exact ⟨0, Nat.zero_le _, rfl, hide (fun j hj => by omega), Below.refl _ _⟩
    case round =>
      obtain ⟨j, hj, rfl, HP, hbel⟩ := hrel
      have hsz := hbel.size
      have c1 := (hbel.cell (p := ⟨w.heap.size, 0, none⟩) (show w.heap.size < _ by omega)).trans f1
      have c2 := (hbel.cell (p := ⟨w.heap.size, 1, none⟩) (show w.heap.size < _ by omega)).trans f2
      have c3 := (hbel.cell (p := ⟨w.heap.size + 1, 0, none⟩) (show w.heap.size + 1 < _ by omega)).trans f3
      have c4 := (hbel.cell (p := ⟨w.heap.size + 1, 1, none⟩) (show w.heap.size + 1 < _ by omega)).trans f4
      have c5 := (hbel.cell (p := ⟨w.heap.size + 1 + 1, 0, none⟩) l3).trans f5
      have c6 := (hbel.cell (p := ⟨w.heap.size + 1 + 1, 1, none⟩) l3).trans f6
      by_cases hlt : j < m
      · obtain ⟨E4, zc⟩ := RC.out j hlt
        have hB : Below w.heap.size w wr := B1.trans (hbel.mono B1.size)
        have g0 := (hB.cell (p := ⟨b2, o2 + j, none⟩) hbl2).trans zc
        obtain ⟨px, py⟩ := PC.out _ E4
        have g1 := (hB.cell (p := ⟨b1, o1 + gn rs j * 2, none⟩) hbl1).trans px
        have g2 := (hB.cell (p := ⟨b1, o1 + gn rs j * 2 + 1, none⟩) hbl1).trans py
        have R1 := run_nePt (pX ps (gn rs j)) (pY ps (gn rs j)) (pX ps a) (pY ps a)
        have R2 := run_nePt (pX ps (gn rs j)) (pY ps (gn rs j)) (pX ps b) (pY ps b)
        have R3 := run_nePt (pX ps (gn rs j)) (pY ps (gn rs j)) (pX ps c) (pY ps c)
        rw [EQ.out _ _ E4 E1] at R1
        rw [EQ.out _ _ E4 E2] at R2
        rw [EQ.out _ _ E4 E3] at R3
        have ITj := hide (fun W => IT.out _ E4 W)
        have TYj := hide (TY.out (gn rs j))
        have TNj := hide (TN.out (gn rs j))
        have AN := hide (fun h : triN ps a b c (gn rs j) = true => (List.any_eq_true (l := List.range m) (p := fun i => triN ps a b c (gn rs i))).2 ⟨j, List.mem_range.2 hlt, h⟩)
        have NX := hide (fun h : triN ps a b c (gn rs j) = false => (fun i hi => by
          by_cases e : i = j
          · rw [e]; exact h
          · exact HP.out i (by omega) : ∀ i, i < j + 1 → triN ps a b c (gn rs i) = false))
        have q14 : (0 : Int) ≤ (j : Int) := by omega
        have q15 : (j : Int) < (m : Int) := by omega
        have q16 : (0 : Int) ≤ (gn rs j : Int) := by omega
        have q17 : (gn rs j : Int) < (n : Int) := by omega
        clear px py zc
        generalize gn rs j = v at *
        by_cases va : v = a
        · have N0 := hide (NX.out (TNj.out (.inl va)))
          rw [decide_eq_true va] at R1
          clear R2 R3 ITj TYj TNj AN NX va
          go_wp2_with fail
          exact ⟨⟨j + 1, by omega, by go_num, N0, hbel.trans (by (repeat' (first | (with_reducible first | exact Below.refl _ _ | assumption | refine below_ext _ ?_ ?_ | refine Below.alloc ?_ ?_ _ | refine Below.drew ?_ | refine below_drewN ?_ _ | refine le_drewN _ ?_ | refine Below.setCell ?_ ?_ _ | exact Nat.le_refl _ | refine le_ext _ ?_ | refine le_alloc _ ?_ | refine le_setCell _ _ ?_ | refine le_drew ?_) | omega | (simp; done) | (simp; omega))))⟩, by simp [intOf]; omega⟩
        · rw [decide_eq_false va] at R1
          by_cases vb : v = b
          · have N0 := hide (NX.out (TNj.out (.inr (.inl vb))))
            rw [decide_eq_true vb] at R2
            clear R3 ITj TYj TNj AN NX va vb
            go_wp2_with fail
            exact ⟨⟨j + 1, by omega, by go_num, N0, hbel.trans (by (repeat' (first | (with_reducible first | exact Below.refl _ _ | assumption | refine below_ext _ ?_ ?_ | refine Below.alloc ?_ ?_ _ | refine Below.drew ?_ | refine below_drewN ?_ _ | refine le_drewN _ ?_ | refine Below.setCell ?_ ?_ _ | exact Nat.le_refl _ | refine le_ext _ ?_ | refine le_alloc _ ?_ | refine le_setCell _ _ ?_ | refine le_drew ?_) | omega | (simp; done) | (simp; omega))))⟩, by simp [intOf]; omega⟩
          · rw [decide_eq_false vb] at R2
            by_cases vc : v = c
            · have N0 := hide (NX.out (TNj.out (.inr (.inr vc))))
              rw [decide_eq_true vc] at R3
              clear ITj TYj TNj AN NX va vb vc
              go_wp2_with fail
              exact ⟨⟨j + 1, by omega, by go_num, N0, hbel.trans (by (repeat' (first | (with_reducible first | exact Below.refl _ _ | assumption | refine below_ext _ ?_ ?_ | refine Below.alloc ?_ ?_ _ | refine Below.drew ?_ | refine below_drewN ?_ _ | refine le_drewN _ ?_ | refine Below.setCell ?_ ?_ _ | exact Nat.le_refl _ | refine le_ext _ ?_ | refine le_alloc _ ?_ | refine le_setCell _ _ ?_ | refine le_drew ?_) | omega | (simp; done) | (simp; omega))))⟩, by simp [intOf]; omega⟩
            · rw [decide_eq_false vc] at R3
              have TE := TYj.out va vb vc
              by_cases ht : triN ps a b c v = true
              · have A0 := hide (AN.out ht)
                rw [ht] at TE
                have TE2 : Hid (triB ⟨pX ps a, pY ps a⟩ ⟨pX ps b, pY ps b⟩ ⟨pX ps c, pY ps c⟩ ⟨pX ps v, pY ps v⟩ = true) := hide TE.symm
                rw [TE2.out] at ITj
                clear TYj TNj AN NX va vb vc TE ht TE2
                go_wp2_with fail
                refine (ITj.out _).mono ?_
                rintro e w' ⟨rfl, hw'⟩; have hzy2 := ext_sz hw'; obtain ⟨y2, rfl⟩ := hw'; (try simp at hzy2)
                go_wp2_with fail
                go_ret
                exact ⟨ret_bool (by rw [A0.out]; rfl), ext_mk (B1.trans ((hbel.trans (by (repeat' (first | (with_reducible first | exact Below.refl _ _ | assumption | refine below_ext _ ?_ ?_ | refine Below.alloc ?_ ?_ _ | refine Below.drew ?_ | refine below_drewN ?_ _ | refine le_drewN _ ?_ | refine Below.setCell ?_ ?_ _ | exact Nat.le_refl _ | refine le_ext _ ?_ | refine le_alloc _ ?_ | refine le_setCell _ _ ?_ | refine le_drew ?_) | omega | (simp; done) | (simp; omega))))).mono B1.size))⟩
              · have ht := eq_false_of_ne_true ht
                have N0 := hide (NX.out ht)
                rw [ht] at TE
                have TE2 : Hid (triB ⟨pX ps a, pY ps a⟩ ⟨pX ps b, pY ps b⟩ ⟨pX ps c, pY ps c⟩ ⟨pX ps v, pY ps v⟩ = false) := hide TE.symm
                rw [TE2.out] at ITj
                clear TYj TNj AN NX va vb vc TE ht TE2
                go_wp2_with fail
                refine (ITj.out _).mono ?_
                rintro e w' ⟨rfl, hw'⟩; have hzy2 := ext_sz hw'; obtain ⟨y2, rfl⟩ := hw'; (try simp at hzy2)
                go_wp2_with fail
                exact ⟨⟨j + 1, by omega, by go_num, N0, hbel.trans (by (repeat' (first | (with_reducible first | exact Below.refl _ _ | assumption | refine below_ext _ ?_ ?_ | refine Below.alloc ?_ ?_ _ | refine Below.drew ?_ | refine below_drewN ?_ _ | refine le_drewN _ ?_ | refine Below.setCell ?_ ?_ _ | exact Nat.le_refl _ | refine le_ext _ ?_ | refine le_alloc _ ?_ | refine le_setCell _ _ ?_ | refine le_drew ?_) | omega | (simp; done) | (simp; omega))))⟩, by simp [intOf]; omega⟩
      · have ej : j = m := by omega
        have A0 : Hid (((List.range m).any fun i => triN ps a b c (gn rs i)) = false) := hide (by
          rw [List.any_eq_false]
          intro i hi
          rw [HP.out i (by rw [ej]; exact List.mem_range.1 hi)]; decide)
        clear ej
        go_wp2_with fail
        go_ret
        exact ⟨ret_bool (by rw [A0.out]; rfl), ext_mk (B1.trans (hbel.mono B1.size))⟩
end Go.Proofs.YtkkmioffclpmfaaGreat
