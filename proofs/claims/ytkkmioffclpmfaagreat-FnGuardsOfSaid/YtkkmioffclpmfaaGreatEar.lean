
/- Ears: the program's test, the reference's. -/
import Derived.Test.YtkkmioffclpmfaaGreatEarM
import Derived.Test.YtkkmioffclpmfaaGreatFunI
import Derived.Test.YtkkmioffclpmfaaGreatRing
import Derived.Test.YtkkmioffclpmfaaGreatTriI
set_option linter.unusedVariables false
set_option linter.unusedSimpArgs false
namespace Go.Proofs.YtkkmioffclpmfaaGreat
open Go.RowKit

theorem triN_no {ps : List Pt} {a b c k : Nat} (h : k = a ∨ k = b ∨ k = c) : triN ps a b c k = false := by
  unfold triN
  rcases h with h | h | h <;> rw [h] <;> simp
theorem triN_yes {ps : List Pt} {a b c k : Nat} (h1 : k ≠ a) (h2 : k ≠ b) (h3 : k ≠ c) : triN ps a b c k = triB (gp ps a) (gp ps b) (gp ps c) (gp ps k) := by
  unfold triN
  rw [decide_eq_false h1, decide_eq_false h2, decide_eq_false h3]; rfl
set_option maxHeartbeats 1000000 in
theorem earAt1_any (ps : List Pt) (a b c k : Nat) (A : Option Addr) (n cc bt bp : Nat) (w : World) (hn : ps.length = n) (la : a < n) (lb : b < n) (lc : c < n) (lk : k < n) (hm : n ≤ 1000) (hib : ∀ p ∈ ps, (-100000 ≤ p.x ∧ p.x ≤ 100000) ∧ (-100000 ≤ p.y ∧ p.y ≤ 100000)) (hs : PtsAt w w.heap.size A ps)
    (h0 : w.cell? ⟨bt, 0, none⟩ = some (.int .i64 a)) (h1 : w.cell? ⟨bt, 1, none⟩ = some (.int .i64 b)) (h2 : w.cell? ⟨bt, 2, none⟩ = some (.int .i64 c)) (hp : w.cell? ⟨bp, 0, none⟩ = some (.slice A n cc)) :
    Calls Tryz.prog 85 #[.int .i64 k, .pointer (some ⟨bt, 0, none⟩), .pointer (some ⟨bp, 0, none⟩)] w fun e w' => e = .returned (.bool (triN ps a b c k)) ∧ ∃ m, w' = ext w m := by
  have l0 : bt < w.heap.size := World.block_lt_of_cell? w _ h0
  have l1 : bp < w.heap.size := World.block_lt_of_cell? w _ hp
  by_cases ka : k = a
  · have HV := hide (triN_no (ps := ps) (a := a) (b := b) (c := c) (k := k) (.inl ka))
    rw [HV.out]
    have d1 : ((k : Int) != (a : Int)) = false := by rw [ka]; simp
    clear ka hs hib
    go_enter Tryz.func85, Tryz.ntmps85
    go_wp2_with fail
    refine wp_region_ext (by kernel_rfl) (by kernel_rfl) ?_
    repeat (go_big_quiet_step (fail))
    refine wpQuiet_nil ?_
    rintro _ hnq
    have hzq := ext_sz hnq
    obtain ⟨nq, rfl⟩ := hnq
    (try simp at hzq)
    go_wp2_with fail
    go_ret
    exact ⟨rfl, (ext_mk (by (repeat' (first | (with_reducible first | exact Below.refl _ _ | assumption | refine below_ext _ ?_ ?_ | refine Below.alloc ?_ ?_ _ | refine Below.drew ?_ | refine below_drewN ?_ _ | refine le_drewN _ ?_ | refine Below.setCell ?_ ?_ _ | exact Nat.le_refl _ | refine le_ext _ ?_ | refine le_alloc _ ?_ | refine le_setCell _ _ ?_ | refine le_drew ?_) | omega | (simp; done) | (simp; omega)))))⟩
  · by_cases kb : k = b
    · have HV := hide (triN_no (ps := ps) (a := a) (b := b) (c := c) (k := k) (.inr (.inl kb)))
      rw [HV.out]
      have d1 : ((k : Int) != (a : Int)) = true := by simp; omega
      have d2 : ((k : Int) != (b : Int)) = false := by rw [kb]; simp
      clear ka kb hs hib
      go_enter Tryz.func85, Tryz.ntmps85
      go_wp2_with fail
      refine wp_region_ext (by kernel_rfl) (by kernel_rfl) ?_
      repeat (go_big_quiet_step (fail))
      refine wpQuiet_nil ?_
      rintro _ hnq
      have hzq := ext_sz hnq
      obtain ⟨nq, rfl⟩ := hnq
      (try simp at hzq)
      go_wp2_with fail
      go_ret
      exact ⟨rfl, (ext_mk (by (repeat' (first | (with_reducible first | exact Below.refl _ _ | assumption | refine below_ext _ ?_ ?_ | refine Below.alloc ?_ ?_ _ | refine Below.drew ?_ | refine below_drewN ?_ _ | refine le_drewN _ ?_ | refine Below.setCell ?_ ?_ _ | exact Nat.le_refl _ | refine le_ext _ ?_ | refine le_alloc _ ?_ | refine le_setCell _ _ ?_ | refine le_drew ?_) | omega | (simp; done) | (simp; omega)))))⟩
    · by_cases kc : k = c
      · have HV := hide (triN_no (ps := ps) (a := a) (b := b) (c := c) (k := k) (.inr (.inr kc)))
        rw [HV.out]
        have d1 : ((k : Int) != (a : Int)) = true := by simp; omega
        have d2 : ((k : Int) != (b : Int)) = true := by simp; omega
        have d3 : ((k : Int) != (c : Int)) = false := by rw [kc]; simp
        clear ka kb kc hs hib
        go_enter Tryz.func85, Tryz.ntmps85
        go_wp2_with fail
        refine wp_region_ext (by kernel_rfl) (by kernel_rfl) ?_
        repeat (go_big_quiet_step (fail))
        refine wpQuiet_nil ?_
        rintro _ hnq
        have hzq := ext_sz hnq
        obtain ⟨nq, rfl⟩ := hnq
        (try simp at hzq)
        go_wp2_with fail
        go_ret
        exact ⟨rfl, (ext_mk (by (repeat' (first | (with_reducible first | exact Below.refl _ _ | assumption | refine below_ext _ ?_ ?_ | refine Below.alloc ?_ ?_ _ | refine Below.drew ?_ | refine below_drewN ?_ _ | refine le_drewN _ ?_ | refine Below.setCell ?_ ?_ _ | exact Nat.le_refl _ | refine le_ext _ ?_ | refine le_alloc _ ?_ | refine le_setCell _ _ ?_ | refine le_drew ?_) | omega | (simp; done) | (simp; omega)))))⟩
      · have HV := hide (triN_yes (ps := ps) ka kb kc)
        rw [HV.out]
        have d1 : ((k : Int) != (a : Int)) = true := by simp; omega
        have d2 : ((k : Int) != (b : Int)) = true := by simp; omega
        have d3 : ((k : Int) != (c : Int)) = true := by simp; omega
        obtain ⟨b0, o, rfl, hbl, hcs⟩ := hs (by omega)
        obtain ⟨xa, ya⟩ := hcs a (by omega)
        obtain ⟨xb, yb⟩ := hcs b (by omega)
        obtain ⟨xc, yc⟩ := hcs c (by omega)
        obtain ⟨xk, yk⟩ := hcs k (by omega)
        obtain ⟨⟨p1, p2⟩, p3, p4⟩ := hib _ (gp_mem (show a < ps.length by omega))
        obtain ⟨⟨p5, p6⟩, p7, p8⟩ := hib _ (gp_mem (show b < ps.length by omega))
        obtain ⟨⟨p9, p10⟩, p11, p12⟩ := hib _ (gp_mem (show c < ps.length by omega))
        obtain ⟨⟨p13, p14⟩, p15, p16⟩ := hib _ (gp_mem (show k < ps.length by omega))
        have TR := hide (fun W => itri_any (pX ps a) (pY ps a) (pX ps b) (pY ps b) (pX ps c) (pY ps c) (pX ps k) (pY ps k) W ⟨p1, p2⟩ ⟨p3, p4⟩ ⟨p5, p6⟩ ⟨p7, p8⟩ ⟨p9, p10⟩ ⟨p11, p12⟩ ⟨p13, p14⟩ ⟨p15, p16⟩)
        have q1 : (0 : Int) ≤ (a : Int) := by omega
        have q2 : (a : Int) < (n : Int) := by omega
        have q3 : (0 : Int) ≤ (b : Int) := by omega
        have q4 : (b : Int) < (n : Int) := by omega
        have q5 : (0 : Int) ≤ (c : Int) := by omega
        have q6 : (c : Int) < (n : Int) := by omega
        have q7 : (0 : Int) ≤ (k : Int) := by omega
        have q8 : (k : Int) < (n : Int) := by omega
        clear ka kb kc hcs hib p1 p2 p3 p4 p5 p6 p7 p8 p9 p10 p11 p12 p13 p14 p15 p16 hn hs
        go_enter Tryz.func85, Tryz.ntmps85
        go_wp2_with fail
        refine wp_region_ext (by kernel_rfl) (by kernel_rfl) ?_
        repeat (go_big_quiet_step ((first | (go_at_call 86; exact Calls.in_ext (TR.out _)))))
        refine wpQuiet_nil ?_
        rintro _ hnq
        have hzq := ext_sz hnq
        obtain ⟨nq, rfl⟩ := hnq
        (try simp at hzq)
        go_wp2_with fail
        go_ret
        exact ⟨rfl, (ext_mk (by (repeat' (first | (with_reducible first | exact Below.refl _ _ | assumption | refine below_ext _ ?_ ?_ | refine Below.alloc ?_ ?_ _ | refine Below.drew ?_ | refine below_drewN ?_ _ | refine le_drewN _ ?_ | refine Below.setCell ?_ ?_ _ | exact Nat.le_refl _ | refine le_ext _ ?_ | refine le_alloc _ ?_ | refine le_setCell _ _ ?_ | refine le_drew ?_) | omega | (simp; done) | (simp; omega)))))⟩
set_option maxHeartbeats 1000000 in
theorem triTurn_any (ps : List Pt) (a b c : Nat) (A : Option Addr) (n cc : Nat) (w : World) (hn : ps.length = n) (la : a < n) (lb : b < n) (lc : c < n) (hm : n ≤ 1000) (hib : ∀ p ∈ ps, (-100000 ≤ p.x ∧ p.x ≤ 100000) ∧ (-100000 ≤ p.y ∧ p.y ≤ 100000)) (hs : PtsAt w w.heap.size A ps) :
    Calls Tryz.prog 84 #[.agg #[.int .i64 a, .int .i64 b, .int .i64 c], .slice A n cc] w fun e w' => e = .returned (.int .i64 (trn (gp ps a) (gp ps b) (gp ps c))) ∧ ∃ m, w' = ext w m := by
  obtain ⟨b0, o, rfl, hbl, hcs⟩ := hs (by omega)
  obtain ⟨xa, ya⟩ := hcs a (by omega)
  obtain ⟨xb, yb⟩ := hcs b (by omega)
  obtain ⟨xc, yc⟩ := hcs c (by omega)
  obtain ⟨⟨p1, p2⟩, p3, p4⟩ := hib _ (gp_mem (show a < ps.length by omega))
  obtain ⟨⟨p5, p6⟩, p7, p8⟩ := hib _ (gp_mem (show b < ps.length by omega))
  obtain ⟨⟨p9, p10⟩, p11, p12⟩ := hib _ (gp_mem (show c < ps.length by omega))
  have TU := hide (fun W => turn_any (pX ps a) (pY ps a) (pX ps b) (pY ps b) (pX ps c) (pY ps c) W ⟨p1, p2⟩ ⟨p3, p4⟩ ⟨p5, p6⟩ ⟨p7, p8⟩ ⟨p9, p10⟩ ⟨p11, p12⟩)
  have E : Hid (((pX ps b - pX ps a) * (pY ps c - pY ps a) - (pY ps b - pY ps a) * (pX ps c - pX ps a)) = trn (gp ps a) (gp ps b) (gp ps c)) := hide rfl
  rw [E.out] at TU
  have q1 : (0 : Int) ≤ (a : Int) := by omega
  have q2 : (a : Int) < (n : Int) := by omega
  have q3 : (0 : Int) ≤ (b : Int) := by omega
  have q4 : (b : Int) < (n : Int) := by omega
  have q5 : (0 : Int) ≤ (c : Int) := by omega
  have q6 : (c : Int) < (n : Int) := by omega
  clear hcs hib p1 p2 p3 p4 p5 p6 p7 p8 p9 p10 p11 p12 hn hs E
  generalize trn (gp ps a) (gp ps b) (gp ps c) = U at *
  go_enter Tryz.func84, Tryz.ntmps84
  go_wp2_with fail
  refine wp_region_ext (by kernel_rfl) (by kernel_rfl) ?_
  repeat (go_big_quiet_step ((first | (go_at_call 52; exact Calls.in_ext (TU.out _)))))
  refine wpQuiet_nil ?_
  rintro _ hnq
  have hzq := ext_sz hnq
  obtain ⟨nq, rfl⟩ := hnq
  (try simp at hzq)
  go_wp2_with fail
  go_ret
  exact ⟨rfl, (ext_mk (by (repeat' (first | (with_reducible first | exact Below.refl _ _ | assumption | refine below_ext _ ?_ ?_ | refine Below.alloc ?_ ?_ _ | refine Below.drew ?_ | refine below_drewN ?_ _ | refine le_drewN _ ?_ | refine Below.setCell ?_ ?_ _ | exact Nat.le_refl _ | refine le_ext _ ?_ | refine le_alloc _ ?_ | refine le_setCell _ _ ?_ | refine le_drew ?_) | omega | (simp; done) | (simp; omega)))))⟩
set_option maxRecDepth 20000 in
set_option maxHeartbeats 2000000 in
theorem earAt_any (ps : List Pt) (rs : List Nat) (k : Nat) (A Z : Option Addr) (n cc m d : Nat) (w : World) (hn : ps.length = n) (hl : rs.length = m) (hk : k < m) (hm : n ≤ 1000) (hm2 : m ≤ 1000) (hr : ∀ j, j < m → gn rs j < n) (hib : ∀ p ∈ ps, (-100000 ≤ p.x ∧ p.x ≤ 100000) ∧ (-100000 ≤ p.y ∧ p.y ≤ 100000)) (hs : PtsAt w w.heap.size A ps) (hz : IntsAt w w.heap.size Z (zI rs)) :
    Calls Tryz.prog 41 #[.slice A n cc, .slice Z m d, .int .i64 k] w fun e w' => e = .returned (.tuple #[.agg #[.int .i64 (bef rs k), .int .i64 (gn rs k), .int .i64 (aft rs k)], .bool (earB ps rs k)]) ∧ ∃ x, w' = ext w x := by
  have hzl : (zI rs).length = m := by rw [zI_len, hl]
  obtain ⟨j1, hj1⟩ : ∃ j, j = (k + m - 1) % m := ⟨_, rfl⟩
  obtain ⟨j2, hj2⟩ : ∃ j, j = (k + 1) % m := ⟨_, rfl⟩
  have hl1 : j1 < m := by rw [hj1]; exact Nat.mod_lt _ (by omega)
  have hl2 : j2 < m := by rw [hj2]; exact Nat.mod_lt _ (by omega)
  have eb : bef rs k = gn rs j1 := by unfold bef; rw [hl, ← hj1]
  have ea : aft rs k = gn rs j2 := by unfold aft; rw [hl, ← hj2]
  have EB : Hid (earB ps rs k = (decide (0 < trn (gp ps (gn rs j1)) (gp ps (gn rs k)) (gp ps (gn rs j2))) && !(List.range m).any fun j => triN ps (gn rs j1) (gn rs k) (gn rs j2) (gn rs j))) := hide (by unfold earB; rw [eb, ea, hl])
  rw [EB.out, eb, ea]
  have E1 := hr j1 hl1
  have E2 := hr k hk
  have E3 := hr j2 hl2
  have CF := hide (fun (bt bp : Nat) (W : World) (hb : Below w.heap.size w W) (h0 : W.cell? ⟨bt, 0, none⟩ = some (.int .i64 (gn rs j1))) (h1 : W.cell? ⟨bt, 1, none⟩ = some (.int .i64 (gn rs k))) (h2 : W.cell? ⟨bt, 2, none⟩ = some (.int .i64 (gn rs j2))) (hp : W.cell? ⟨bp, 0, none⟩ = some (.slice A n cc)) =>
    ContainsFuncN_any 85 #[.pointer (some ⟨bt, 0, none⟩), .pointer (some ⟨bp, 0, none⟩)] (fun j => triN ps (gn rs j1) (gn rs k) (gn rs j2) (gn rs j)) (zI rs) Z m d W hzl (by omega) (enters _ Tryz.func85 (by kernel_rfl) rfl) (hz.to hb) (fun W' i hb' hi => by
      rw [gi_zI]
      exact earAt1_any ps (gn rs j1) (gn rs k) (gn rs j2) (gn rs i) A n cc bt bp W' hn E1 E2 E3 (hr i (by omega)) hm hib ((hs.to hb).to hb') ((hb'.cell (p := ⟨bt, 0, none⟩) (World.block_lt_of_cell? W _ h0)).trans h0) ((hb'.cell (p := ⟨bt, 1, none⟩) (World.block_lt_of_cell? W _ h1)).trans h1) ((hb'.cell (p := ⟨bt, 2, none⟩) (World.block_lt_of_cell? W _ h2)).trans h2) ((hb'.cell (p := ⟨bp, 0, none⟩) (World.block_lt_of_cell? W _ hp)).trans hp)))
  have TT := hide (fun (W : World) (hb : Below w.heap.size w W) => triTurn_any ps (gn rs j1) (gn rs k) (gn rs j2) A n cc W hn E1 E2 E3 hm hib (hs.to hb))
  obtain ⟨b2, o2, rfl, hbl2, hcs2⟩ := hz (by omega)
  have z1 := hcs2 j1 (by omega)
  have z2 := hcs2 k (by omega)
  have z3 := hcs2 j2 (by omega)
  rw [gi_zI] at z1 z2 z3
  have e1 : Int.tmod ((k : Int) + (m : Int) - 1) (m : Int) = (j1 : Int) := by
    rw [hj1, show ((k : Int) + (m : Int) - 1) = ((k + m - 1 : Nat) : Int) by omega]
    exact (Int.ofNat_tmod (k + m - 1) m).symm
  have e2 : Int.tmod ((k : Int) + 1) (m : Int) = (j2 : Int) := by rw [hj2]; exact (Int.ofNat_tmod (k + 1) m).symm
  have w1 : IntKind.i64.wrap ((k : Int) + (m : Int)) = (k : Int) + (m : Int) := IntWalk.i64_in _ (by omega)
  have w2 : IntKind.i64.wrap ((k : Int) + (m : Int) - 1) = (k : Int) + (m : Int) - 1 := IntWalk.i64_in _ (by omega)
  have w3 : IntKind.i64.wrap (j1 : Int) = (j1 : Int) := IntWalk.i64_in _ (by omega)
  have w4 : IntKind.i64.wrap (j2 : Int) = (j2 : Int) := IntWalk.i64_in _ (by omega)
  have w5 : IntKind.i64.wrap ((k : Int) + 1) = (k : Int) + 1 := IntWalk.i64_in _ (by omega)
  have q1 : (0 : Int) ≤ (j1 : Int) := by omega
  have q2 : (j1 : Int) < (m : Int) := by omega
  have q3 : (0 : Int) ≤ (k : Int) := by omega
  have q4 : (k : Int) < (m : Int) := by omega
  have q5 : (0 : Int) ≤ (j2 : Int) := by omega
  have q6 : (j2 : Int) < (m : Int) := by omega
  have q7 : ¬ m = 0 := by omega
  have SC : Hid (∀ W : World, Below w.heap.size w W → W.cell? ⟨b2, o2 + j1, none⟩ = some (.int .i64 (gn rs j1)) ∧ W.cell? ⟨b2, o2 + k, none⟩ = some (.int .i64 (gn rs k)) ∧ W.cell? ⟨b2, o2 + j2, none⟩ = some (.int .i64 (gn rs j2))) := hide (fun W hb =>
    ⟨(hb.cell (p := ⟨b2, o2 + j1, none⟩) hbl2).trans z1, (hb.cell (p := ⟨b2, o2 + k, none⟩) hbl2).trans z2, (hb.cell (p := ⟨b2, o2 + j2, none⟩) hbl2).trans z3⟩)
  clear hcs2 hz hs hib hr hj1 hj2 eb ea EB z1 z2 z3 hn hl hzl
  generalize gn rs j1 = a at *
  generalize gn rs k = b at *
  generalize gn rs j2 = c at *
  generalize trn (gp ps a) (gp ps b) (gp ps c) = U at *
  generalize (List.range m).any (fun j => triN ps a b c (gn rs j)) = Y at *
  by_cases hU : U ≤ 0
  · have dU : decide (U ≤ 0) = true := decide_eq_true hU
    have dV : decide (0 < U) = false := decide_eq_false (by omega)
    rw [dV]
    clear hU dV CF
    go_enter Tryz.func41, Tryz.ntmps41
    go_wp2_with fail
    go_region_held3 (fun W => W.cell? ⟨b2, o2 + j1, none⟩ = some (.int .i64 a) ∧ W.cell? ⟨b2, o2 + k, none⟩ = some (.int .i64 b) ∧ W.cell? ⟨b2, o2 + j2, none⟩ = some (.int .i64 c)) (exact SC.out _ (by (repeat' (first | (with_reducible first | exact Below.refl _ _ | assumption | refine below_ext _ ?_ ?_ | refine Below.alloc ?_ ?_ _ | refine Below.drew ?_ | refine below_drewN ?_ _ | refine le_drewN _ ?_ | refine Below.setCell ?_ ?_ _ | exact Nat.le_refl _ | refine le_ext _ ?_ | refine le_alloc _ ?_ | refine le_setCell _ _ ?_ | refine le_drew ?_) | omega | (simp; done) | (simp; omega))))) (fail)
    go_wp2_with fail
    refine (TT.out _ (by (repeat' (first | (with_reducible first | exact Below.refl _ _ | assumption | refine below_ext _ ?_ ?_ | refine Below.alloc ?_ ?_ _ | refine Below.drew ?_ | refine below_drewN ?_ _ | refine le_drewN _ ?_ | refine Below.setCell ?_ ?_ _ | exact Nat.le_refl _ | refine le_ext _ ?_ | refine le_alloc _ ?_ | refine le_setCell _ _ ?_ | refine le_drew ?_) | omega | (simp; done) | (simp; omega))))).mono ?_
    rintro e w' ⟨rfl, hw'⟩; have hzy1 := ext_sz hw'; obtain ⟨y1, rfl⟩ := hw'; (try simp at hzy1)
    go_wp2_with fail
    ((try simp only [Exit.inBlock, Exit.then]); refine bodyPost_ret (by simp [results, Tryz.results41, go_sem, ↓IntWalk.iteOmega]; try rfl) rfl ?_)
    exact ⟨rfl, (ext_mk (by (repeat' (first | (with_reducible first | exact Below.refl _ _ | assumption | refine below_ext _ ?_ ?_ | refine Below.alloc ?_ ?_ _ | refine Below.drew ?_ | refine below_drewN ?_ _ | refine le_drewN _ ?_ | refine Below.setCell ?_ ?_ _ | exact Nat.le_refl _ | refine le_ext _ ?_ | refine le_alloc _ ?_ | refine le_setCell _ _ ?_ | refine le_drew ?_) | omega | (simp; done) | (simp; omega)))))⟩
  · have dU : decide (U ≤ 0) = false := decide_eq_false hU
    have dV : decide (0 < U) = true := decide_eq_true (by omega)
    rw [dV]
    clear hU dV
    go_enter Tryz.func41, Tryz.ntmps41
    go_wp2_with fail
    go_region_held3 (fun W => W.cell? ⟨b2, o2 + j1, none⟩ = some (.int .i64 a) ∧ W.cell? ⟨b2, o2 + k, none⟩ = some (.int .i64 b) ∧ W.cell? ⟨b2, o2 + j2, none⟩ = some (.int .i64 c)) (exact SC.out _ (by (repeat' (first | (with_reducible first | exact Below.refl _ _ | assumption | refine below_ext _ ?_ ?_ | refine Below.alloc ?_ ?_ _ | refine Below.drew ?_ | refine below_drewN ?_ _ | refine le_drewN _ ?_ | refine Below.setCell ?_ ?_ _ | exact Nat.le_refl _ | refine le_ext _ ?_ | refine le_alloc _ ?_ | refine le_setCell _ _ ?_ | refine le_drew ?_) | omega | (simp; done) | (simp; omega))))) (fail)
    go_wp2_with fail
    refine (TT.out _ (by (repeat' (first | (with_reducible first | exact Below.refl _ _ | assumption | refine below_ext _ ?_ ?_ | refine Below.alloc ?_ ?_ _ | refine Below.drew ?_ | refine below_drewN ?_ _ | refine le_drewN _ ?_ | refine Below.setCell ?_ ?_ _ | exact Nat.le_refl _ | refine le_ext _ ?_ | refine le_alloc _ ?_ | refine le_setCell _ _ ?_ | refine le_drew ?_) | omega | (simp; done) | (simp; omega))))).mono ?_
    rintro e w' ⟨rfl, hw'⟩; have hzy1 := ext_sz hw'; obtain ⟨y1, rfl⟩ := hw'; (try simp at hzy1)
    go_wp2_with fail
    go_region_with (go_at_call 71; refine (CF.out (w.heap.size + 1 + 1) w.heap.size _ (by (repeat' (first | (with_reducible first | exact Below.refl _ _ | assumption | refine below_ext _ ?_ ?_ | refine Below.alloc ?_ ?_ _ | refine Below.drew ?_ | refine below_drewN ?_ _ | refine le_drewN _ ?_ | refine Below.setCell ?_ ?_ _ | exact Nat.le_refl _ | refine le_ext _ ?_ | refine le_alloc _ ?_ | refine le_setCell _ _ ?_ | refine le_drew ?_) | omega | (simp; done) | (simp; omega)))) (by simp [go_sem, ↓IntWalk.iteOmega]) (by simp [go_sem, ↓IntWalk.iteOmega]) (by simp [go_sem, ↓IntWalk.iteOmega]) (by simp [go_sem, ↓IntWalk.iteOmega])).mono ?_; rintro e w' ⟨rfl, hw'⟩; have hzy2 := ext_sz hw'; obtain ⟨y2, rfl⟩ := hw'; (try simp at hzy2))
    all_goals
      go_wp2_with fail
      ((try simp only [Exit.inBlock, Exit.then]); refine bodyPost_ret (by simp [results, Tryz.results41, go_sem, ↓IntWalk.iteOmega]; try rfl) rfl ?_)
      exact ⟨rfl, (ext_mk (by (repeat' (first | (with_reducible first | exact Below.refl _ _ | assumption | refine below_ext _ ?_ ?_ | refine Below.alloc ?_ ?_ _ | refine Below.drew ?_ | refine below_drewN ?_ _ | refine le_drewN _ ?_ | refine Below.setCell ?_ ?_ _ | exact Nat.le_refl _ | refine le_ext _ ?_ | refine le_alloc _ ?_ | refine le_setCell _ _ ?_ | refine le_drew ?_) | omega | (simp; done) | (simp; omega)))))⟩
end Go.Proofs.YtkkmioffclpmfaaGreat
