
/- The program's test of a simple polygon, of a convex one, and the place of a point in a convex polygon. -/
import Derived.Test.YtnddfdhfefconaaGreatDoorRel
import Derived.Test.YtnddfdhfefconaaGreatDoorRelM
import Derived.Test.YtnddfdhfefconaaGreatDoorSorted
set_option linter.unusedVariables false
set_option linter.unusedSimpArgs false
namespace Go.Proofs.YtnddfdhfefconaaGreatDoor
open Go.RowKit

theorem simB_no {ps : List Pt} (h : ringB ps = false) : simB ps = false := by unfold simB; rw [h]; rfl
theorem simB_at {ps : List Pt} {i k : Nat} (hi : i < ps.length) (hk : k < i) (h : pairI ps i k = false) : simB ps = false := by
  have : pairsB (pairI ps) ps.length = false := by
    rw [← Bool.not_eq_true, pairsB_iff]
    exact fun hh => by rw [hh i hi k hk] at h; cases h
  unfold simB; rw [this, Bool.and_false]
theorem simB_yes {ps : List Pt} (h : ringB ps = true) (h2 : ∀ i, i < ps.length → ∀ k, k < i → pairI ps i k = true) : simB ps = true := by
  unfold simB; rw [h, pairsB_iff.2 h2]; rfl
theorem ring_no1 {ps : List Pt} (h : listOk ps = false) : ringB ps = false := by unfold ringB; rw [h]; rfl
theorem ring_no2 {ps : List Pt} (h : ¬ 3 ≤ ps.length) : ringB ps = false := by unfold ringB; rw [decide_eq_false h]; simp
theorem ring_no3 {ps : List Pt} (h : ¬ (sortP ps).length = ps.length) : ringB ps = false := by unfold ringB; rw [decide_eq_false h]; simp
theorem ring_yes {ps : List Pt} (h1 : listOk ps = true) (h2 : 3 ≤ ps.length) (h3 : (sortP ps).length = ps.length) : ringB ps = true := by unfold ringB; rw [h1, decide_eq_true h2, decide_eq_true h3]; rfl
set_option maxHeartbeats 2000000 in
theorem simple_any (ps : List Pt) (A : Option Addr) (n c : Nat) (w : World) (hn : ps.length = n) (hm : n ≤ 2000000) (hA : Plain A n) (hs : PtsAt w w.heap.size A ps) :
    Calls Tryz.prog 41 #[.slice A n c] w fun e w' => e = .returned (.bool (simB ps)) ∧ ∃ x, w' = ext w x := by
  have HC := hide (listOk_any ps A n c w hn hm hs)
  by_cases hok : listOk ps = true
  · rw [hok] at HC
    obtain ⟨hib, hle⟩ := listOk_InB hok
    by_cases h3 : 3 ≤ n
    · have hin : inB (n : Int) 3 20 = true := by unfold inB; simp; omega
      have HS := hide (fun (W : World) (hb : Below w.heap.size w W) => sorted_any ps A n c W hn (by omega) (hs.to hb) hA)
      by_cases hd : (sortP ps).length = n
      · have HR := hide (ring_yes hok (by omega) (by omega))
        have HE := hide (fun (W : World) (hb : Below w.heap.size w W) => edges_any ps A n c W hn (by omega) (hs.to hb))
        have HN := hide hn
        have HD := hide hd
        have BI : Hid (∀ i, i < n → (-100000 ≤ (gp ps i).x ∧ (gp ps i).x ≤ 100000) ∧ (-100000 ≤ (gp ps i).y ∧ (gp ps i).y ≤ 100000)) := hide (fun i hi => hib _ (gp_mem (by omega)))
        have k20 : n ≤ 20 := by omega
        clear hok hn hs hib hle hd
        go_enter Tryz.func41, Tryz.ntmps41
        go_wp2_with fail
        refine HC.out.mono ?_
        rintro e w' ⟨rfl, hw'⟩; have hzy1 := ext_sz hw'; obtain ⟨y1, rfl⟩ := hw'; (try simp at hzy1)
        go_wp2_with fail
        refine (within_any _ _ _ _).mono ?_
        rintro e w' ⟨rfl, rfl⟩
        go_wp2_with fail
        refine (HS.out _ (by (repeat' (first | (with_reducible first | exact Below.refl _ _ | assumption | refine below_ext _ ?_ ?_ | refine Below.alloc ?_ ?_ _ | refine Below.drew ?_ | refine below_drewN ?_ _ | refine le_drewN _ ?_ | refine Below.setCell ?_ ?_ _ | exact Nat.le_refl _ | refine le_ext _ ?_ | refine le_alloc _ ?_ | refine le_setCell _ _ ?_ | refine le_drew ?_) | omega | (simp; done) | (simp; omega))))).mono ?_
        rintro e w4 ⟨A4, n4, c4, rfl, l4, q4, q4b, p4, f4, x4, rfl⟩
        have e4 : n = n4 := by have := HD.out; omega
        subst e4
        have hne : ((n : Int) != (n : Int)) = false := by simp
        clear p4 f4 l4
        go_wp2_with fail
        refine (HE.out _ (by (repeat' (first | (with_reducible first | exact Below.refl _ _ | assumption | refine below_ext _ ?_ ?_ | refine Below.alloc ?_ ?_ _ | refine Below.drew ?_ | refine below_drewN ?_ _ | refine le_drewN _ ?_ | refine Below.setCell ?_ ?_ _ | exact Nat.le_refl _ | refine le_ext _ ?_ | refine le_alloc _ ?_ | refine le_setCell _ _ ?_ | refine le_drew ?_) | omega | (simp; done) | (simp; omega))))).mono ?_
        rintro e w5 ⟨v5, rfl, hown5, x5, rfl⟩
        obtain ⟨A5, n5, c5, rfl⟩ := hown5.slice
        have l5 := hown5.segs.1
        have e5 : n = n5 := by have := HN.out; rw [edgesL_len] at l5; omega
        subst e5
        have SG := hide hown5.segs.2.2.2
        have hc5 := hown5.segs.2.1
        have B5 := hide (show Below w.heap.size w (ext (ext (ext w y1) x4) x5) from (by (repeat' (first | (with_reducible first | exact Below.refl _ _ | assumption | refine below_ext _ ?_ ?_ | refine Below.alloc ?_ ?_ _ | refine Below.drew ?_ | refine below_drewN ?_ _ | refine le_drewN _ ?_ | refine Below.setCell ?_ ?_ _ | exact Nat.le_refl _ | refine le_ext _ ?_ | refine le_alloc _ ?_ | refine le_setCell _ _ ?_ | refine le_drew ?_) | omega | (simp; done) | (simp; omega)))))
        generalize hW5 : ext (ext (ext w y1) x4) x5 = W5 at *
        clear hW5 hown5 l5
        obtain ⟨b5, o5, rfl, hb5, hcs5⟩ := SG.out (by rw [edgesL_len, HN.out]; omega)
        have CS : Hid (∀ i, i < n → W5.cell? ⟨b5, o5 + i * 4, none⟩ = some (.int .i64 (gp ps i).x) ∧ W5.cell? ⟨b5, o5 + i * 4 + 1, none⟩ = some (.int .i64 (gp ps i).y) ∧ W5.cell? ⟨b5, o5 + i * 4 + 2, none⟩ = some (.int .i64 (gp ps ((i + 1) % n)).x) ∧ W5.cell? ⟨b5, o5 + i * 4 + 3, none⟩ = some (.int .i64 (gp ps ((i + 1) % n)).y)) := hide (fun i hi => by
          have := hcs5 i (by rw [edgesL_len, HN.out]; exact hi)
          rw [edgesL_at (by rw [HN.out]; exact hi)] at this
          unfold edgeAt at this
          rw [HN.out] at this
          exact this)
        clear hcs5 SG
        go_wp2
        go_loopw [30] (fun u30 wr => ∃ i : Nat, i ≤ n ∧ u30 = .int .i64 i ∧ Hid (∀ j, j < i → ∀ k, k < j → pairI ps j k = true) ∧ Below W5.heap.size W5 wr) (fun u30 _ => n - (intOf u30).toNat)
        case atStart => exact ⟨0, Nat.zero_le _, rfl, (fun j hj => by omega), Below.refl _ _⟩
        case round =>
          obtain ⟨i, hi, rfl, HP, hbel⟩ := hrel
          have hsz := hbel.size
          by_cases hlt : i < n
          · obtain ⟨c1, c2, c3, c4⟩ := CS.out i hlt
            have g1 := (hbel.cell (p := ⟨b5, o5 + i * 4, none⟩) hb5).trans c1
            have g2 := (hbel.cell (p := ⟨b5, o5 + i * 4 + 1, none⟩) hb5).trans c2
            have g3 := (hbel.cell (p := ⟨b5, o5 + i * 4 + 2, none⟩) hb5).trans c3
            have g4 := (hbel.cell (p := ⟨b5, o5 + i * 4 + 3, none⟩) hb5).trans c4
            clear c1 c2 c3 c4
            have NX := hide (fun (k : Nat) (hk : k < i) h => simB_at (ps := ps) (i := i) (k := k) (by rw [HN.out]; exact hlt) hk h)
            obtain ⟨⟨p1, p2⟩, p3, p4⟩ := BI.out i hlt
            have hil : (i + 1) % n < n := Nat.mod_lt _ (by omega)
            obtain ⟨⟨p5, p6⟩, p7, p8⟩ := BI.out _ hil
            have EI : Hid (edgeAt ps i = ((⟨(gp ps i).x, (gp ps i).y⟩, ⟨(gp ps ((i + 1) % n)).x, (gp ps ((i + 1) % n)).y⟩) : Sg)) := hide (by unfold edgeAt; rw [HN.out])
            clear hil
            generalize (gp ps i).x = X1 at *
            generalize (gp ps i).y = Y1 at *
            generalize (gp ps ((i + 1) % n)).x = X2 at *
            generalize (gp ps ((i + 1) % n)).y = Y2 at *
            obtain ⟨W1, hW1⟩ : ∃ W1, W1 = wr := ⟨_, rfl⟩
            subst hW1
            go_wp2_with fail
            have BX := hide (heap_alloc_new W1 (.cells #[.int .i64 X1, .int .i64 Y1, .int .i64 X2, .int .i64 Y2] 96))
            have hb2 : Below W5.heap.size W5 (W1.alloc (.cells #[.int .i64 X1, .int .i64 Y1, .int .i64 X2, .int .i64 Y2] 96)) := hbel.alloc hsz _
            have hs2 : W1.heap.size + 1 ≤ (W1.alloc (.cells #[.int .i64 X1, .int .i64 Y1, .int .i64 X2, .int .i64 Y2] 96)).heap.size := by simp
            generalize W1.alloc (.cells #[.int .i64 X1, .int .i64 Y1, .int .i64 X2, .int .i64 Y2] 96) = W2 at *
            go_loopw [39] (fun u39 wr => ∃ k : Nat, k ≤ i ∧ u39 = .int .i64 k ∧ Hid (∀ j, j < k → pairI ps i j = true) ∧ Below W2.heap.size W2 wr) (fun u39 _ => i - (intOf u39).toNat)
            case atStart => exact ⟨0, Nat.zero_le _, rfl, (fun j hj => by omega), Below.refl _ _⟩
            case round =>
              obtain ⟨k, hk, rfl, HQ, hbel3⟩ := hrel
              have hsz3 := hbel3.size
              have bx := (hbel3.block W1.heap.size (by omega)).trans BX.out
              have x0 := heap_cell bx 0
              have x1 := heap_cell bx 1
              have x2 := heap_cell bx 2
              have x3 := heap_cell bx 3
              simp at x0 x1 x2 x3
              clear bx g1 g2 g3 g4
              by_cases hlt3 : k < i
              · obtain ⟨c1, c2, c3, c4⟩ := CS.out k (by omega)
                have hbb := hb2.trans (hbel3.mono (by have := hb2.size; omega))
                have g1 := (hbb.cell (p := ⟨b5, o5 + k * 4, none⟩) hb5).trans c1
                have g2 := (hbb.cell (p := ⟨b5, o5 + k * 4 + 1, none⟩) hb5).trans c2
                have g3 := (hbb.cell (p := ⟨b5, o5 + k * 4 + 2, none⟩) hb5).trans c3
                have g4 := (hbb.cell (p := ⟨b5, o5 + k * 4 + 3, none⟩) hb5).trans c4
                obtain ⟨⟨r1, r2⟩, r3, r4⟩ := BI.out k (by omega)
                have hil : (k + 1) % n < n := Nat.mod_lt _ (by omega)
                obtain ⟨⟨r5, r6⟩, r7, r8⟩ := BI.out _ hil
                have EK : Hid (edgeAt ps k = ((⟨(gp ps k).x, (gp ps k).y⟩, ⟨(gp ps ((k + 1) % n)).x, (gp ps ((k + 1) % n)).y⟩) : Sg)) := hide (by unfold edgeAt; rw [HN.out])
                clear c1 c2 c3 c4 hil
                generalize (gp ps k).x = X3 at *
                generalize (gp ps k).y = Y3 at *
                generalize (gp ps ((k + 1) % n)).x = X4 at *
                generalize (gp ps ((k + 1) % n)).y = Y4 at *
                have RL := hide (fun W => relation_any X1 Y1 X2 Y2 X3 Y3 X4 Y4 W ⟨p1, p2⟩ ⟨p3, p4⟩ ⟨p5, p6⟩ ⟨p7, p8⟩ ⟨r1, r2⟩ ⟨r3, r4⟩ ⟨r5, r6⟩ ⟨r7, r8⟩)
                have PV : Hid (pairI ps i k = (relI (⟨X1, Y1⟩, ⟨X2, Y2⟩) (⟨X3, Y3⟩, ⟨X4, Y4⟩) == (if nextTo n i k then 1 else 0))) := hide (by unfold pairI; rw [EI.out, EK.out, HN.out])
                have NV : Hid (nextTo n i k = (decide (i = k + 1) || decide (i + 1 = k + n))) := hide rfl
                have NO := hide (NX.out k hlt3)
                clear p1 p2 p3 p4 p5 p6 p7 p8 r1 r2 r3 r4 r5 r6 r7 r8
                have w1 : IntKind.i64.wrap ((i : Int) - (k : Int)) = (i : Int) - (k : Int) := IntWalk.i64_in _ (by omega)
                have w2 : IntKind.i64.wrap ((n : Int) - 1) = (n : Int) - 1 := IntWalk.i64_in _ (by omega)
                generalize relI (⟨X1, Y1⟩, ⟨X2, Y2⟩) (⟨X3, Y3⟩, ⟨X4, Y4⟩) = RV at *
                have KEY : ∀ v : Int, (if nextTo n i k then (1 : Int) else 0) = v → Hid ((RV != v) = !pairI ps i k) := fun v hv => hide (by rw [PV.out, hv]; rfl)
                by_cases e1 : i = k + 1
                · have d1 : ((i : Int) - (k : Int) == 1) = true := by rw [beq_iff_eq]; omega
                  have KE := KEY 1 (by rw [NV.out, decide_eq_true e1]; simp)
                  clear e1 KEY
                  cases hp : pairI ps i k
                  · rw [hp] at KE
                    have d3 := KE.out
                    have HV := hide (NO.out hp)
                    clear hp KE PV NO
                    simp only [Bool.not_false] at d3
                    go_wp2_with fail
                    refine (RL.out _).mono ?_
                    rintro e w' ⟨rfl, hw'⟩; have hzy9 := ext_sz hw'; obtain ⟨y9, rfl⟩ := hw'; (try simp at hzy9)
                    go_wp2_with fail
                    go_ret
                    exact ⟨ret_bool HV.out.symm, ext_mk (B5.out.trans ((hb2.trans ((hbel3.trans (show Below W2.heap.size wr _ from (by (repeat' (first | (with_reducible first | exact Below.refl _ _ | assumption | refine below_ext _ ?_ ?_ | refine Below.alloc ?_ ?_ _ | refine Below.drew ?_ | refine below_drewN ?_ _ | refine le_drewN _ ?_ | refine Below.setCell ?_ ?_ _ | exact Nat.le_refl _ | refine le_ext _ ?_ | refine le_alloc _ ?_ | refine le_setCell _ _ ?_ | refine le_drew ?_) | omega | (simp; done) | (simp; omega)))))).mono (by have := hb2.size; omega))).mono B5.out.size))⟩
                  · rw [hp] at KE
                    have d3 := KE.out
                    have HP1 := hide hp
                    clear hp KE PV NO
                    simp only [Bool.not_true] at d3
                    go_wp2_with fail
                    refine (RL.out _).mono ?_
                    rintro e w' ⟨rfl, hw'⟩; have hzy9 := ext_sz hw'; obtain ⟨y9, rfl⟩ := hw'; (try simp at hzy9)
                    go_wp2_with fail
                    exact ⟨⟨k + 1, by omega, by go_num, hide (fun j hj => by
                      by_cases e : j = k
                      · subst e; exact HP1.out
                      · exact HQ.out j (by omega)), hbel3.trans (show Below W2.heap.size wr _ from (by (repeat' (first | (with_reducible first | exact Below.refl _ _ | assumption | refine below_ext _ ?_ ?_ | refine Below.alloc ?_ ?_ _ | refine Below.drew ?_ | refine below_drewN ?_ _ | refine le_drewN _ ?_ | refine Below.setCell ?_ ?_ _ | exact Nat.le_refl _ | refine le_ext _ ?_ | refine le_alloc _ ?_ | refine le_setCell _ _ ?_ | refine le_drew ?_) | omega | (simp; done) | (simp; omega)))))⟩, by simp [intOf]; omega⟩
                · have d1 : ((i : Int) - (k : Int) == 1) = false := by rw [beq_eq_false_iff_ne]; omega
                  by_cases e2 : i + 1 = k + n
                  · have d2 : ((i : Int) - (k : Int) == (n : Int) - 1) = true := by rw [beq_iff_eq]; omega
                    have KE := KEY 1 (by rw [NV.out, decide_eq_true e2]; simp)
                    clear e1 e2 KEY
                    cases hp : pairI ps i k
                    · rw [hp] at KE
                      have d3 := KE.out
                      have HV := hide (NO.out hp)
                      clear hp KE PV NO
                      simp only [Bool.not_false] at d3
                      go_wp2_with fail
                      refine (RL.out _).mono ?_
                      rintro e w' ⟨rfl, hw'⟩; have hzy9 := ext_sz hw'; obtain ⟨y9, rfl⟩ := hw'; (try simp at hzy9)
                      go_wp2_with fail
                      go_ret
                      exact ⟨ret_bool HV.out.symm, ext_mk (B5.out.trans ((hb2.trans ((hbel3.trans (show Below W2.heap.size wr _ from (by (repeat' (first | (with_reducible first | exact Below.refl _ _ | assumption | refine below_ext _ ?_ ?_ | refine Below.alloc ?_ ?_ _ | refine Below.drew ?_ | refine below_drewN ?_ _ | refine le_drewN _ ?_ | refine Below.setCell ?_ ?_ _ | exact Nat.le_refl _ | refine le_ext _ ?_ | refine le_alloc _ ?_ | refine le_setCell _ _ ?_ | refine le_drew ?_) | omega | (simp; done) | (simp; omega)))))).mono (by have := hb2.size; omega))).mono B5.out.size))⟩
                    · rw [hp] at KE
                      have d3 := KE.out
                      have HP1 := hide hp
                      clear hp KE PV NO
                      simp only [Bool.not_true] at d3
                      go_wp2_with fail
                      refine (RL.out _).mono ?_
                      rintro e w' ⟨rfl, hw'⟩; have hzy9 := ext_sz hw'; obtain ⟨y9, rfl⟩ := hw'; (try simp at hzy9)
                      go_wp2_with fail
                      exact ⟨⟨k + 1, by omega, by go_num, hide (fun j hj => by
                        by_cases e : j = k
                        · subst e; exact HP1.out
                        · exact HQ.out j (by omega)), hbel3.trans (show Below W2.heap.size wr _ from (by (repeat' (first | (with_reducible first | exact Below.refl _ _ | assumption | refine below_ext _ ?_ ?_ | refine Below.alloc ?_ ?_ _ | refine Below.drew ?_ | refine below_drewN ?_ _ | refine le_drewN _ ?_ | refine Below.setCell ?_ ?_ _ | exact Nat.le_refl _ | refine le_ext _ ?_ | refine le_alloc _ ?_ | refine le_setCell _ _ ?_ | refine le_drew ?_) | omega | (simp; done) | (simp; omega)))))⟩, by simp [intOf]; omega⟩
                  · have d2 : ((i : Int) - (k : Int) == (n : Int) - 1) = false := by rw [beq_eq_false_iff_ne]; omega
                    have KE := KEY 0 (by rw [NV.out, decide_eq_false e1, decide_eq_false e2]; simp)
                    clear e1 e2 KEY
                    cases hp : pairI ps i k
                    · rw [hp] at KE
                      have d3 := KE.out
                      have HV := hide (NO.out hp)
                      clear hp KE PV NO
                      simp only [Bool.not_false] at d3
                      go_wp2_with fail
                      refine (RL.out _).mono ?_
                      rintro e w' ⟨rfl, hw'⟩; have hzy9 := ext_sz hw'; obtain ⟨y9, rfl⟩ := hw'; (try simp at hzy9)
                      go_wp2_with fail
                      go_ret
                      exact ⟨ret_bool HV.out.symm, ext_mk (B5.out.trans ((hb2.trans ((hbel3.trans (show Below W2.heap.size wr _ from (by (repeat' (first | (with_reducible first | exact Below.refl _ _ | assumption | refine below_ext _ ?_ ?_ | refine Below.alloc ?_ ?_ _ | refine Below.drew ?_ | refine below_drewN ?_ _ | refine le_drewN _ ?_ | refine Below.setCell ?_ ?_ _ | exact Nat.le_refl _ | refine le_ext _ ?_ | refine le_alloc _ ?_ | refine le_setCell _ _ ?_ | refine le_drew ?_) | omega | (simp; done) | (simp; omega)))))).mono (by have := hb2.size; omega))).mono B5.out.size))⟩
                    · rw [hp] at KE
                      have d3 := KE.out
                      have HP1 := hide hp
                      clear hp KE PV NO
                      simp only [Bool.not_true] at d3
                      go_wp2_with fail
                      refine (RL.out _).mono ?_
                      rintro e w' ⟨rfl, hw'⟩; have hzy9 := ext_sz hw'; obtain ⟨y9, rfl⟩ := hw'; (try simp at hzy9)
                      go_wp2_with fail
                      exact ⟨⟨k + 1, by omega, by go_num, hide (fun j hj => by
                        by_cases e : j = k
                        · subst e; exact HP1.out
                        · exact HQ.out j (by omega)), hbel3.trans (show Below W2.heap.size wr _ from (by (repeat' (first | (with_reducible first | exact Below.refl _ _ | assumption | refine below_ext _ ?_ ?_ | refine Below.alloc ?_ ?_ _ | refine Below.drew ?_ | refine below_drewN ?_ _ | refine le_drewN _ ?_ | refine Below.setCell ?_ ?_ _ | exact Nat.le_refl _ | refine le_ext _ ?_ | refine le_alloc _ ?_ | refine le_setCell _ _ ?_ | refine le_drew ?_) | omega | (simp; done) | (simp; omega)))))⟩, by simp [intOf]; omega⟩
              · have hki : k = i := by omega
                have HQ2 : Hid (∀ j, j < i → pairI ps i j = true) := hide (by have := HQ.out; rw [hki] at this; exact this)
                clear hki
                go_wp2
                exact ⟨⟨i + 1, by omega, by go_num, hide (fun j hj k' hk' => by
                  by_cases e : j = i
                  · rw [e] at hk' ⊢; exact HQ2.out k' hk'
                  · exact HP.out j (by omega) k' hk'), hb2.trans (hbel3.mono (by have := hb2.size; omega))⟩, by simp [intOf]; omega⟩
          · have hin' : i = n := by omega
            subst hin'
            have HV := hide (simB_yes HR.out (fun j hj => HP.out j (by rw [← HN.out]; exact hj)))
            go_wp2
            go_ret
            exact ⟨ret_bool HV.out.symm, ext_mk (B5.out.trans (hbel.mono B5.out.size))⟩
      · have HV := hide (simB_no (ring_no3 (ps := ps) (by omega)))
        have HD := hide hd
        clear hok hn hs hib hle hd
        go_enter Tryz.func41, Tryz.ntmps41
        go_wp2_with fail
        refine HC.out.mono ?_
        rintro e w' ⟨rfl, hw'⟩; have hzy1 := ext_sz hw'; obtain ⟨y1, rfl⟩ := hw'; (try simp at hzy1)
        go_wp2_with fail
        refine (within_any _ _ _ _).mono ?_
        rintro e w' ⟨rfl, rfl⟩
        go_wp2_with fail
        refine (HS.out _ (by (repeat' (first | (with_reducible first | exact Below.refl _ _ | assumption | refine below_ext _ ?_ ?_ | refine Below.alloc ?_ ?_ _ | refine Below.drew ?_ | refine below_drewN ?_ _ | refine le_drewN _ ?_ | refine Below.setCell ?_ ?_ _ | exact Nat.le_refl _ | refine le_ext _ ?_ | refine le_alloc _ ?_ | refine le_setCell _ _ ?_ | refine le_drew ?_) | omega | (simp; done) | (simp; omega))))).mono ?_
        rintro e w4 ⟨A4, n4, c4, rfl, l4, q4, q4b, p4, f4, x4, rfl⟩
        have hne : ((n4 : Int) != (n : Int)) = true := by have := HD.out; simp; omega
        clear p4 f4 l4
        go_wp2_with fail
        go_ret
        exact ⟨ret_bool HV.out.symm, (ext_mk (by (repeat' (first | (with_reducible first | exact Below.refl _ _ | assumption | refine below_ext _ ?_ ?_ | refine Below.alloc ?_ ?_ _ | refine Below.drew ?_ | refine below_drewN ?_ _ | refine le_drewN _ ?_ | refine Below.setCell ?_ ?_ _ | exact Nat.le_refl _ | refine le_ext _ ?_ | refine le_alloc _ ?_ | refine le_setCell _ _ ?_ | refine le_drew ?_) | omega | (simp; done) | (simp; omega)))))⟩
    · have hin : inB (n : Int) 3 20 = false := by unfold inB; simp; omega
      have HV := hide (simB_no (ring_no2 (ps := ps) (by omega)))
      clear hok hn hs hib hle
      go_enter Tryz.func41, Tryz.ntmps41
      go_wp2_with fail
      refine HC.out.mono ?_
      rintro e w' ⟨rfl, hw'⟩; have hzy1 := ext_sz hw'; obtain ⟨y1, rfl⟩ := hw'; (try simp at hzy1)
      go_wp2_with fail
      refine (within_any _ _ _ _).mono ?_
      rintro e w' ⟨rfl, rfl⟩
      go_wp2_with fail
      go_ret
      exact ⟨ret_bool HV.out.symm, (ext_mk (by (repeat' (first | (with_reducible first | exact Below.refl _ _ | assumption | refine below_ext _ ?_ ?_ | refine Below.alloc ?_ ?_ _ | refine Below.drew ?_ | refine below_drewN ?_ _ | refine le_drewN _ ?_ | refine Below.setCell ?_ ?_ _ | exact Nat.le_refl _ | refine le_ext _ ?_ | refine le_alloc _ ?_ | refine le_setCell _ _ ?_ | refine le_drew ?_) | omega | (simp; done) | (simp; omega)))))⟩
  · rw [eq_false_of_ne_true hok] at HC
    have HV := hide (simB_no (ring_no1 (eq_false_of_ne_true hok)))
    clear hok hn hs
    go_enter Tryz.func41, Tryz.ntmps41
    go_wp2_with fail
    refine HC.out.mono ?_
    rintro e w' ⟨rfl, hw'⟩; have hzy1 := ext_sz hw'; obtain ⟨y1, rfl⟩ := hw'; (try simp at hzy1)
    go_wp2_with fail
    go_ret
    exact ⟨ret_bool HV.out.symm, (ext_mk (by (repeat' (first | (with_reducible first | exact Below.refl _ _ | assumption | refine below_ext _ ?_ ?_ | refine Below.alloc ?_ ?_ _ | refine Below.drew ?_ | refine below_drewN ?_ _ | refine le_drewN _ ?_ | refine Below.setCell ?_ ?_ _ | exact Nat.le_refl _ | refine le_ext _ ?_ | refine le_alloc _ ?_ | refine le_setCell _ _ ?_ | refine le_drew ?_) | omega | (simp; done) | (simp; omega)))))⟩
end Go.Proofs.YtnddfdhfefconaaGreatDoor
