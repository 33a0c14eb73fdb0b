

/- Comparing numbers and points. -/
/- The library's Compact at points that the call owns. -/
import Derived.Test.YtnddfdhfefconaaGreatDoorLeaf
import Derived.Outline
import Derived.Deep.RegionHeld3
import Derived.Test.YtnddfdhfefconaaGreatDoorApp
import Derived.Test.YtnddfdhfefconaaGreatDoorHullK
import Derived.Lib.SliceRun
import Derived.BigQuiet
import Derived.Test.YtnddfdhfefconaaGreatDoorSlay
import Derived.Test.YtnddfdhfefconaaGreatDoorFunc
set_option linter.unusedVariables false
set_option linter.unusedSimpArgs false
namespace Go.Proofs.YtnddfdhfefconaaGreatDoor
open Go.RowKit

set_option maxHeartbeats 400000 in
theorem isNaNi_any (a : Int) (w : World) : Calls Tryz.prog 194 #[.int .i64 a] w fun e w' => e = .returned (.bool false) ∧ w = w' := by
  go_enter Tryz.func194, Tryz.ntmps194
  go_wp2
  go_ret
  exact ⟨rfl, rfl⟩
set_option maxHeartbeats 400000 in
theorem Comparei_any (a b : Int) (w : World) : Calls Tryz.prog 148 #[.int .i64 a, .int .i64 b] w fun e w' => e = .returned (.int .i64 (sgn (a - b))) ∧ w = w' := by
  rcases Int.lt_trichotomy a b with h | h | h
  · have HR := hide (sgn_neg (n := a - b) (by omega))
    go_enter Tryz.func148, Tryz.ntmps148
    go_wp2_with (go_at_call 194; refine (isNaNi_any _ _).mono ?_; rintro e w' ⟨rfl, rfl⟩)
    go_ret
    exact ⟨ret_int HR.out.symm, rfl⟩
  · have HR := hide (sgn_zero (n := a - b) (by omega))
    subst h
    go_enter Tryz.func148, Tryz.ntmps148
    go_wp2_with (go_at_call 194; refine (isNaNi_any _ _).mono ?_; rintro e w' ⟨rfl, rfl⟩)
    go_ret
    exact ⟨ret_int HR.out.symm, rfl⟩
  · have HR := hide (sgn_pos (n := a - b) (by omega))
    go_enter Tryz.func148, Tryz.ntmps148
    go_wp2_with (go_at_call 194; refine (isNaNi_any _ _).mono ?_; rintro e w' ⟨rfl, rfl⟩)
    go_ret
    exact ⟨ret_int HR.out.symm, rfl⟩
def orI (a b : Int) : Int := if a = 0 then b else a
set_option maxHeartbeats 400000 in
theorem Or_any (a b : Int) (g cap : Nat) (w : World) (h0 : w.cell? ⟨g, 0, none⟩ = some (.int .i64 a)) (h1 : w.cell? ⟨g, 1, none⟩ = some (.int .i64 b)) :
    Calls Tryz.prog 147 #[.slice (some ⟨g, 0, none⟩) 2 cap] w fun e w' => e = .returned (.int .i64 (orI a b)) ∧ w = w' := by
  by_cases ha : a = 0
  · have HR : Hid (orI a b = b) := if_pos ha
    by_cases hb : b = 0
    · subst hb ha
      go_enter Tryz.func147, Tryz.ntmps147
      go_wp2
      go_rounds 3
      all_goals (go_ret; exact ⟨ret_int HR.out.symm, rfl⟩)
    · have hb' : (b != 0) = true := by simpa using hb
      subst ha
      go_enter Tryz.func147, Tryz.ntmps147
      go_wp2
      go_rounds 3
      all_goals (go_ret; exact ⟨ret_int HR.out.symm, rfl⟩)
  · have HR : Hid (orI a b = a) := if_neg ha
    have ha' : (a != 0) = true := by simpa using ha
    go_enter Tryz.func147, Tryz.ntmps147
    go_wp2
    go_rounds 3
    all_goals (go_ret; exact ⟨ret_int HR.out.symm, rfl⟩)
end Go.Proofs.YtnddfdhfefconaaGreatDoor
namespace Go.Proofs.YtnddfdhfefconaaGreatDoor
open Go.RowKit

/-- The first t of ds, those left out that are as the one ahead of them. -/
def cmpL (ds : List Pt) : Nat → List Pt
  | 0 => []
  | t + 1 => if 1 ≤ t ∧ gp ds t = gp ds (t - 1) then cmpL ds t else cmpL ds t ++ [gp ds t]
theorem cmpL_all {ds : List Pt} : ∀ {t : Nat}, t ≤ ds.length → (∀ i, 1 ≤ i → i < t → gp ds i ≠ gp ds (i - 1)) → cmpL ds t = ds.take t
  | 0, _, _ => rfl
  | t + 1, ht, h => by
    rw [cmpL, if_neg (fun hh => h t hh.1 (by omega) hh.2), cmpL_all (by omega) (fun i h1 h2 => h i h1 (by omega)), gp_lt (by omega), List.take_succ_eq_append_getElem (by omega)]
theorem cmpL_mem {ds : List Pt} : ∀ {t : Nat} {q : Pt}, t ≤ ds.length → (q ∈ cmpL ds t ↔ ∃ i, i < t ∧ gp ds i = q)
  | 0, q, _ => by simp [cmpL]
  | t + 1, q, ht => by
    have ih := cmpL_mem (ds := ds) (t := t) (q := q) (by omega)
    rw [cmpL]
    split
    · rename_i hh
      rw [ih]
      constructor
      · rintro ⟨i, h1, h2⟩; exact ⟨i, by omega, h2⟩
      · rintro ⟨i, h1, h2⟩
        by_cases e : i = t
        · subst e; exact ⟨i - 1, by omega, by rw [← hh.2]; exact h2⟩
        · exact ⟨i, by omega, h2⟩
    · rw [List.mem_append, List.mem_singleton, ih]
      constructor
      · rintro (⟨i, h1, h2⟩ | h)
        · exact ⟨i, by omega, h2⟩
        · exact ⟨t, by omega, h.symm⟩
      · rintro ⟨i, h1, h2⟩
        by_cases e : i = t
        · subst e; exact .inr h2.symm
        · exact .inl ⟨i, by omega, h2⟩
theorem cmpL_asc {ds : List Pt} (hs : ∀ i j, i < j → j < ds.length → ¬ ltP (gp ds j) (gp ds i)) : ∀ {t : Nat}, t ≤ ds.length → Asc (cmpL ds t)
  | 0, _ => List.Pairwise.nil
  | t + 1, ht => by
    have ih := cmpL_asc hs (t := t) (by omega)
    rw [cmpL]
    split
    · exact ih
    · rename_i hh
      refine List.pairwise_append.2 ⟨ih, by simp, fun q hq r hr => ?_⟩
      rw [List.mem_singleton.1 hr]
      obtain ⟨i, hi, rfl⟩ := (cmpL_mem (by omega)).1 hq
      rcases ltP_tri (gp ds i) (gp ds t) with h | h | h
      · exact h
      · exfalso
        have h1 := hs (t - 1) t (by omega) (by omega)
        by_cases e : i = t - 1
        · subst e; exact hh ⟨by omega, h.symm⟩
        · have h2 := hs i (t - 1) (by omega) (by omega)
          rcases ltP_tri (gp ds t) (gp ds (t - 1)) with k | k | k
          · exact h1 k
          · exact hh ⟨by omega, k⟩
          · rw [← h] at k; exact h2 k
      · exact absurd h (hs i t hi (by omega))
/-- What clear lays. -/
theorem own_tail {g : Nat} {T : TypeId} (N : Nat) : ∀ (vs : List Value) (o : Nat) (w : World) (cur : Array Value), w.heap[g]? = some (.cells cur T (0, 0)) → N ≤ o →
    (∃ cur', (w.setCells g o vs).heap[g]? = some (.cells cur' T (0, 0)) ∧ cur'.size = cur.size ∧ cur'.toList.take N = cur.toList.take N) ∧ But w (w.setCells g o vs) g
  | [], o, w, cur, h, _ => ⟨⟨cur, h, rfl, rfl⟩, But.refl _ _⟩
  | v :: vs, o, w, cur, h, hN => by
    have h1 : (w.setCell ⟨g, o, none⟩ v).heap[g]? = some (.cells (cur.setIfInBounds o v) T (0, 0)) := by simp [World.setCell, Array.getElem?_modify, h]
    obtain ⟨⟨cur', k1, k2, k3⟩, k4⟩ := own_tail N vs (o + 1) _ _ h1 (by omega)
    refine ⟨⟨cur', k1, by rw [k2]; simp, ?_⟩, ?_⟩
    · rw [k3]
      have : (cur.setIfInBounds o v).toList = cur.toList.set o v := by simp
      rw [this, List.take_set_of_le (by omega)]
    · have hb := (But.refl w g).set o v
      exact ⟨k4.os, k4.tape, k4.output, k4.size.trans hb.size, fun k hk => (k4.block k hk).trans (hb.block k hk)⟩
theorem OwnP.clear {w : World} {base g : Nat} {n c : Nat} {ps : List Pt} (h : OwnP w base (.slice (some ⟨g, 0, none⟩) n c) ps) {k : Nat} (hk : k ≤ n) (vs : List Value) :
    OwnP (w.setCells g (k * 2) vs) base (.slice (some ⟨g, 0, none⟩) k c) (ps.take k) ∧ But w (w.setCells g (k * 2) vs) g := by
  have hl := h.pts.1
  unfold OwnP at h ⊢
  rcases h.2 with ⟨hv, h1⟩ | ⟨g', cap, cur, hv, hg, hgg, hnc, hcm, hsz, htk⟩
  · cases hv
  · injection hv with e1 e2 e3
    injection e1 with e1
    injection e1 with e1
    subst e1 e3
    obtain ⟨⟨cur', k1, k2, k3⟩, k4⟩ := own_tail (k * 2) vs (k * 2) w cur hgg (Nat.le_refl _)
    refine ⟨⟨by rw [ptVals_len], .inr ⟨g, c, cur', by rw [List.length_take, Nat.min_eq_left (by omega)], hg, k1, by rw [List.length_take]; omega, hcm, by rw [k2]; exact hsz, ?_⟩⟩, k4⟩
    rw [List.length_take, Nat.min_eq_left (by omega), k3, ← ptVals_take, ← htk, List.take_take, Nat.min_eq_left (by omega)]
theorem clear_pts (w : World) (ty : TypeId) (b o n c : Nat) (hn : 0 < n) (hc : ∀ j, j < n * 2 → (w.cell? ⟨b, o + j, none⟩).isSome = true) (hf : ∀ j, j < n * 2 → w.frozen? ⟨b, o + j, none⟩ = false) :
    ∃ vs, (Builtin.clear_ #[23] ty #[.slice (some ⟨b, o, none⟩) n c]).run Tryz.prog w = .ok (.tuple #[]) (w.setCells b o vs) := by
  have hlen : (Builtin.zeroCells #[.int .i64 0, .int .i64 0] n).toList.length = n * 2 := by simp [Builtin.zeroCells]
  have hst := run_storeCells_cells (P := Tryz.prog) b o (Builtin.zeroCells #[.int .i64 0, .int .i64 0] n).toList 0 w (by rw [hlen]; simpa using hc) (by rw [hlen]; simpa using hf) (by
    intro v hv
    simp [Builtin.zeroCells] at hv
    obtain ⟨i, _, rfl⟩ := hv
    rcases Nat.mod_two_eq_zero_or_one i with h | h <;> simp [h] <;> rfl)
  simp only [Nat.add_zero] at hst
  obtain ⟨m, rfl⟩ : ∃ m, n = m + 1 := ⟨n - 1, by omega⟩
  refine ⟨(Builtin.zeroCells #[.int .i64 0, .int .i64 0] (m + 1)).toList, ?_⟩
  have hv := Tryz.zeroValue41
  simp [Builtin.clear_, run_underlying Tryz.underlying23, hv, Value.cells, hst]
set_option maxHeartbeats 2000000 in
theorem compact_any (ds : List Pt) (n c base g : Nat) (w : World) (hm : n ≤ 1000) (h0 : 0 < n) (hbase : base ≤ w.heap.size) (hown : OwnP w base (.slice (some ⟨g, 0, none⟩) n c) ds) :
    Calls Tryz.prog 106 #[.slice (some ⟨g, 0, none⟩) n c] w fun e w' => ∃ v, e = .returned v ∧ OwnP w' base v (cmpL ds n) ∧ Below base w w' := by
  have hl := hown.pts.1
  have hnc := hown.pts.2.1
  have hcm : c ≤ 9223372036854775807 := by have := hown.pts.2.2.1; unfold maxLen at this; exact this
  have OWN := hide hown
  obtain ⟨gb, hgb, g1, g2, hfr, hcs⟩ := hown.head h0
  injection hgb with hgb
  injection hgb with hgb
  subst hgb
  have HCS := hide hcs
  have HFR := hide hfr
  have HL := hide hl
  clear hown hcs hfr hl
  by_cases hn1 : n < 2
  · have e1 : n = 1 := by omega
    have HR : Hid (cmpL ds n = ds) := hide (by rw [cmpL_all (by rw [HL.out]; exact Nat.le_refl _) (fun i h1 h2 => by omega), List.take_of_length_le (by rw [HL.out]; exact Nat.le_refl _)])
    clear e1
    go_enter Tryz.func106, Tryz.ntmps106
    go_wp2
    go_ret
    exact ⟨_, rfl, by rw [HR.out]; exact OWN.out, Below.refl _ _⟩
  · have hd8 : decide ((n : Int) < 2) = false := decide_eq_false (by omega)
    go_enter Tryz.func106, Tryz.ntmps106
    go_wp2
    go_loopw [3] (fun u3 wr => ∃ k : Nat, 1 ≤ k ∧ k ≤ n ∧ u3 = .int .i64 k ∧ Hid (∀ i, 1 ≤ i → i < k → gp ds i ≠ gp ds (i - 1)) ∧ ∃ x, wr = ext w x) (fun u3 _ => n - (intOf u3).toNat)
    case atStart => exact ⟨1, by omega, by omega, rfl, (fun i h1 h2 => by omega), ext_same w⟩
    case round =>
      obtain ⟨k, hk1, hk2, rfl, hno, x, rfl⟩ := hrel
      have hsz := ext_size w x
      by_cases hlt : k < n
      · obtain ⟨m, rfl⟩ : ∃ m, k = m + 1 := ⟨k - 1, by omega⟩
        obtain ⟨x1, y1⟩ := HCS.out m (by omega)
        obtain ⟨x2, y2⟩ := HCS.out (m + 1) (by omega)
        by_cases hxy : pX ds (m + 1) = pX ds m ∧ pY ds (m + 1) = pY ds m
        · obtain ⟨ex, ey⟩ := hxy
          have EQ : Hid (gp ds (m + 1) = gp ds m) := hide (pt_eq ex ey)
          have C0 : Hid (cmpL ds (m + 1 + 1) = ds.take (m + 1)) := hide (by
            rw [cmpL, if_pos ⟨by omega, by simpa using EQ.out⟩, cmpL_all (by rw [HL.out]; omega) (fun i h1 h2 => hno.out i h1 h2)])
          have OW := hide (OWN.out.below (ext_below w x))
          have hd13 : decide ((m : Int) + 1 < (n : Int)) = true := decide_eq_true (by omega)
          have hq6 : ¬ c = m + 1 := by omega
          have hq4 : (m : Int) + 1 ≤ (n : Int) := by omega
          have hq5 : ((m : Int) + 1).toNat = m + 1 := by omega
          go_wp2
          refine wp_region_ext (by kernel_rfl) (by kernel_rfl) ?_
          repeat (go_big_quiet_step (fail))
          refine wpQuiet_nil ?_
          rintro _ hnq
          have hzq := ext_sz hnq
          obtain ⟨nq, rfl⟩ := hnq
          (try simp at hzq)
          generalize hW : ext (ext w x) nq = W0 at *
          have hb0 : Below w.heap.size w W0 := by rw [← hW]; exact (by (repeat' (first | (with_reducible first | exact Below.refl _ _ | assumption | refine below_ext _ ?_ ?_ | refine Below.alloc ?_ ?_ _ | refine Below.drew ?_ | refine below_drewN ?_ _ | refine le_drewN _ ?_ | refine Below.setCell ?_ ?_ _ | exact Nat.le_refl _ | refine le_ext _ ?_ | refine le_alloc _ ?_ | refine le_setCell _ _ ?_ | refine le_drew ?_) | omega | (simp; done) | (simp; omega))))
          have O0 := hide (OWN.out.below hb0)
          have hsW := hb0.size
          clear hW hsz hzq OW ex ey x1 y1 x2 y2
          go_wp2
          clear hq4 hq5 hq6
          rw [show ((m + 1 : Nat) : Int) = (m : Int) + 1 from rfl]
          go_loopw [3, 5] (fun u3 u5 wr => ∃ (kk k2 : Nat) (L : List Pt), 1 ≤ k2 ∧ m + 1 + k2 ≤ n ∧ u3 = .int .i64 kk ∧ u5 = .int .i64 k2 ∧ kk + 1 ≤ m + 1 + k2 ∧ OwnP wr base (.slice (some ⟨g, 0, none⟩) n c) L ∧ Hid ((cmpL ds (m + 1 + k2)).length = kk) ∧ Hid (L.take kk = cmpL ds (m + 1 + k2)) ∧ Hid (∀ j, kk ≤ j → j < n → gp L j = gp ds j) ∧ Below base w wr ∧ w.heap.size ≤ wr.heap.size) (fun _ u5 _ => n - (m + 1) - (intOf u5).toNat)
          case atStart => exact ⟨m + 1, 1, ds, by omega, by omega, by go_num, rfl, by omega, O0.out, hide (by rw [C0.out, List.length_take, HL.out]; omega), C0.out.symm, (fun j h1 h2 => rfl), hb0.mono hbase, hsW⟩
          case round =>
            obtain ⟨kk, k2, L, hk21, hk22, rfl, rfl, hkk, hOL, hlen, htk, hsame, hbl, hszl⟩ := hrel
            have OL := hide hOL
            obtain ⟨_, _, _, _, hfrL, hcsL⟩ := hOL.head h0
            rename_i gbL hgbL _ _
            injection hgbL with hgbL
            injection hgbL with hgbL
            subst hgbL
            have HCSL := hide hcsL
            have HFRL := hide hfrL
            have glt := OL.out.lt2 g rfl
            clear hOL hcsL hfrL
            by_cases hlt2 : k2 < n - (m + 1)
            · obtain ⟨m2, rfl⟩ : ∃ m2, k2 = m2 + 1 := ⟨k2 - 1, by omega⟩
              obtain ⟨x1, y1⟩ := HCSL.out (m + 1 + m2) (by omega)
              obtain ⟨x2, y2⟩ := HCSL.out (m + 1 + (m2 + 1)) (by omega)
              have s1 := hsame.out (m + 1 + m2) (by omega) (by omega)
              have s2 := hsame.out (m + 1 + (m2 + 1)) (by omega) (by omega)
              have px1 : pX L (m + 1 + m2) = pX ds (m + 1 + m2) := by unfold pX; rw [s1]
              have py1 : pY L (m + 1 + m2) = pY ds (m + 1 + m2) := by unfold pY; rw [s1]
              have px2 : pX L (m + 1 + (m2 + 1)) = pX ds (m + 1 + (m2 + 1)) := by unfold pX; rw [s2]
              have py2 : pY L (m + 1 + (m2 + 1)) = pY ds (m + 1 + (m2 + 1)) := by unfold pY; rw [s2]
              rw [px1, show (m + 1 + m2) * 2 = (m + 1) * 2 + m2 * 2 from by omega] at x1
              rw [py1, show (m + 1 + m2) * 2 = (m + 1) * 2 + m2 * 2 from by omega] at y1
              rw [px2, show (m + 1 + (m2 + 1)) * 2 = (m + 1) * 2 + (m2 + 1) * 2 from by omega] at x2
              rw [py2, show (m + 1 + (m2 + 1)) * 2 = (m + 1) * 2 + (m2 + 1) * 2 from by omega] at y2
              clear s1 s2 px1 py1 px2 py2
              by_cases hxy : pX ds (m + 1 + (m2 + 1)) = pX ds (m + 1 + m2) ∧ pY ds (m + 1 + (m2 + 1)) = pY ds (m + 1 + m2)
              · obtain ⟨ex, ey⟩ := hxy
                have CE : Hid (cmpL ds (m + 1 + (m2 + 1 + 1)) = cmpL ds (m + 1 + (m2 + 1))) := hide (by
                  rw [show m + 1 + (m2 + 1 + 1) = m + 1 + (m2 + 1) + 1 from by omega, cmpL, if_pos ⟨by omega, pt_eq ex ey⟩])
                go_wp2
                refine wp_region_ext (by kernel_rfl) (by kernel_rfl) ?_
                repeat (go_big_quiet_step (fail))
                refine wpQuiet_nil ?_
                rintro _ hnq
                have hzq := ext_sz hnq
                obtain ⟨nq, rfl⟩ := hnq
                (try simp at hzq)
                go_wp2
                exact ⟨⟨kk, m2 + 1 + 1, L, by omega, by omega, rfl, by go_num, by omega, OL.out.below (by (repeat' (first | (with_reducible first | exact Below.refl _ _ | assumption | refine below_ext _ ?_ ?_ | refine Below.alloc ?_ ?_ _ | refine Below.drew ?_ | refine below_drewN ?_ _ | refine le_drewN _ ?_ | refine Below.setCell ?_ ?_ _ | exact Nat.le_refl _ | refine le_ext _ ?_ | refine le_alloc _ ?_ | refine le_setCell _ _ ?_ | refine le_drew ?_) | omega | (simp; done) | (simp; omega)))), hide (by rw [CE.out]; exact hlen.out), hide (by rw [CE.out]; exact htk.out), hsame.out, hbl.trans ((ext_below wr nq).mono (by omega)), by omega⟩, by simp [intOf]; omega⟩
              · have CN : Hid (cmpL ds (m + 1 + (m2 + 1 + 1)) = cmpL ds (m + 1 + (m2 + 1)) ++ [⟨pX ds (m + 1 + (m2 + 1)), pY ds (m + 1 + (m2 + 1))⟩]) := hide (by
                  rw [show m + 1 + (m2 + 1 + 1) = m + 1 + (m2 + 1) + 1 from by omega, cmpL, if_neg (fun hh => hxy (by have := hh.2; rw [show m + 1 + (m2 + 1) - 1 = m + 1 + m2 from by omega] at this; unfold pX pY; rw [this]; exact ⟨rfl, rfl⟩))]; rfl)
                have OX := hide (fun (W : World) (hb : Below wr.heap.size wr W) => (OL.out.below hb).set (i := kk) (by omega) (pX ds (m + 1 + (m2 + 1))) (pY ds (m + 1 + (m2 + 1))))
                obtain ⟨z1, z2⟩ := HCSL.out kk (by omega)
                have f1 := HFRL.out (kk * 2)
                have f2 := HFRL.out (kk * 2 + 1)
                have NX : Hid ((L.set kk ⟨pX ds (m + 1 + (m2 + 1)), pY ds (m + 1 + (m2 + 1))⟩).take (kk + 1) = cmpL ds (m + 1 + (m2 + 1 + 1))) := hide (by
                  rw [CN.out, ← htk.out]
                  have hL : kk < L.length := by have := OL.out.pts.1; omega
                  rw [List.take_succ_eq_append_getElem (by rw [List.length_set]; exact hL), List.take_set_of_le (Nat.le_refl _)]
                  simp)
                have NL : Hid ((cmpL ds (m + 1 + (m2 + 1 + 1))).length = kk + 1) := hide (by rw [CN.out, List.length_append, hlen.out]; rfl)
                have NS : Hid (∀ j, kk + 1 ≤ j → j < n → gp (L.set kk ⟨pX ds (m + 1 + (m2 + 1)), pY ds (m + 1 + (m2 + 1))⟩) j = gp ds j) := hide (fun j h1 h2 => by
                  rw [← hsame.out j (by omega) h2]
                  unfold gp
                  rw [List.getD_eq_getElem?_getD, List.getElem?_set_ne (by omega), ← List.getD_eq_getElem?_getD])
                have hq3 : (kk : Int) < (n : Int) := by omega
                by_cases hx : pX ds (m + 1 + (m2 + 1)) = pX ds (m + 1 + m2)
                · have hy : ¬ pY ds (m + 1 + (m2 + 1)) = pY ds (m + 1 + m2) := fun h => hxy ⟨hx, h⟩
                  clear hxy
                  rw [hx] at OX NX NS
                  go_wp2
                  refine wp_region_ext (by kernel_rfl) (by kernel_rfl) ?_
                  repeat (go_big_quiet_step (fail))
                  refine wpQuiet_nil ?_
                  rintro _ hnq
                  have hzq := ext_sz hnq
                  obtain ⟨nq, rfl⟩ := hnq
                  (try simp at hzq)
                  go_wp2
                  exact ⟨⟨kk + 1, m2 + 1 + 1, _, by omega, by omega, by go_num, by go_num, by omega, OX.out _ (ext_below wr nq), NL, NX, NS, ((hbl.trans ((ext_below wr nq).mono (by omega))).setCell g1 _).setCell g1 _, by simp; omega⟩, by simp [intOf]; omega⟩
                · clear hxy
                  go_wp2
                  refine wp_region_ext (by kernel_rfl) (by kernel_rfl) ?_
                  repeat (go_big_quiet_step (fail))
                  refine wpQuiet_nil ?_
                  rintro _ hnq
                  have hzq := ext_sz hnq
                  obtain ⟨nq, rfl⟩ := hnq
                  (try simp at hzq)
                  go_wp2
                  exact ⟨⟨kk + 1, m2 + 1 + 1, _, by omega, by omega, by go_num, by go_num, by omega, OX.out _ (ext_below wr nq), NL, NX, NS, ((hbl.trans ((ext_below wr nq).mono (by omega))).setCell g1 _).setCell g1 _, by simp; omega⟩, by simp [intOf]; omega⟩
            · have ek : k2 = n - (m + 1) := by omega
              have FIN : Hid (L.take kk = cmpL ds n) := hide (by rw [htk.out, show m + 1 + k2 = n from by omega])
              obtain ⟨vs, hcl⟩ := clear_pts wr 0 g (kk * 2) (n - kk) (c - kk) (by omega) (fun j hj => by
                rcases Nat.mod_two_eq_zero_or_one j with h | h
                · have := (HCSL.out (kk + j / 2) (by omega)).1
                  rw [show (kk + j / 2) * 2 = kk * 2 + j from by omega] at this
                  rw [this]; rfl
                · have := (HCSL.out (kk + j / 2) (by omega)).2
                  rw [show (kk + j / 2) * 2 + 1 = kk * 2 + j from by omega] at this
                  rw [this]; rfl) (fun j hj => HFRL.out _)
              have OC := hide (OL.out.clear (k := kk) (by omega) vs)
              have hq2 : ¬ c = kk := by omega
              have hq3 : (kk : Int) ≤ (n : Int) := by omega
              have hq4 : (kk : Int) ≤ (c : Int) := by omega
              clear ek
              go_wp2
              go_ret
              exact ⟨_, rfl, by rw [← FIN.out]; exact OC.out.1, hbl.trans (OC.out.2.below g1)⟩
        · have NE : Hid (gp ds (m + 1) ≠ gp ds m) := hide (fun e => hxy ⟨by unfold pX; rw [e], by unfold pY; rw [e]⟩)
          by_cases hx : pX ds (m + 1) = pX ds m
          · have hy : ¬ pY ds (m + 1) = pY ds m := fun h => hxy ⟨hx, h⟩
            clear hxy
            go_wp2
            refine wp_region_ext (by kernel_rfl) (by kernel_rfl) ?_
            repeat (go_big_quiet_step (fail))
            refine wpQuiet_nil ?_
            rintro _ hnq
            have hzq := ext_sz hnq
            obtain ⟨nq, rfl⟩ := hnq
            (try simp at hzq)
            go_wp2
            exact ⟨⟨m + 1 + 1, by omega, by omega, by go_num, (fun i h1 h2 => by
              by_cases e : i = m + 1
              · subst e; simpa using NE.out
              · exact hno.out i h1 (by omega)), (ext_mk (by (repeat' (first | (with_reducible first | exact Below.refl _ _ | assumption | refine below_ext _ ?_ ?_ | refine Below.alloc ?_ ?_ _ | refine Below.drew ?_ | refine below_drewN ?_ _ | refine le_drewN _ ?_ | refine Below.setCell ?_ ?_ _ | exact Nat.le_refl _ | refine le_ext _ ?_ | refine le_alloc _ ?_ | refine le_setCell _ _ ?_ | refine le_drew ?_) | omega | (simp; done) | (simp; omega)))))⟩, by simp [intOf]; omega⟩
          · clear hxy
            go_wp2
            refine wp_region_ext (by kernel_rfl) (by kernel_rfl) ?_
            repeat (go_big_quiet_step (fail))
            refine wpQuiet_nil ?_
            rintro _ hnq
            have hzq := ext_sz hnq
            obtain ⟨nq, rfl⟩ := hnq
            (try simp at hzq)
            go_wp2
            exact ⟨⟨m + 1 + 1, by omega, by omega, by go_num, (fun i h1 h2 => by
              by_cases e : i = m + 1
              · subst e; simpa using NE.out
              · exact hno.out i h1 (by omega)), (ext_mk (by (repeat' (first | (with_reducible first | exact Below.refl _ _ | assumption | refine below_ext _ ?_ ?_ | refine Below.alloc ?_ ?_ _ | refine Below.drew ?_ | refine below_drewN ?_ _ | refine le_drewN _ ?_ | refine Below.setCell ?_ ?_ _ | exact Nat.le_refl _ | refine le_ext _ ?_ | refine le_alloc _ ?_ | refine le_setCell _ _ ?_ | refine le_drew ?_) | omega | (simp; done) | (simp; omega)))))⟩, by simp [intOf]; omega⟩
      · have ek : k = n := by omega
        subst ek
        have HR : Hid (cmpL ds k = ds) := hide (by rw [cmpL_all (by rw [HL.out]; exact Nat.le_refl _) (fun i h1 h2 => hno.out i h1 h2), List.take_of_length_le (by rw [HL.out]; exact Nat.le_refl _)])
        go_wp2
        go_ret
        exact ⟨_, rfl, by rw [HR.out]; exact OWN.out.below (by (repeat' (first | (with_reducible first | exact Below.refl _ _ | assumption | refine below_ext _ ?_ ?_ | refine Below.alloc ?_ ?_ _ | refine Below.drew ?_ | refine below_drewN ?_ _ | refine le_drewN _ ?_ | refine Below.setCell ?_ ?_ _ | exact Nat.le_refl _ | refine le_ext _ ?_ | refine le_alloc _ ?_ | refine le_setCell _ _ ?_ | refine le_drew ?_) | omega | (simp; done) | (simp; omega)))), (by (repeat' (first | (with_reducible first | exact Below.refl _ _ | assumption | refine below_ext _ ?_ ?_ | refine Below.alloc ?_ ?_ _ | refine Below.drew ?_ | refine below_drewN ?_ _ | refine le_drewN _ ?_ | refine Below.setCell ?_ ?_ _ | exact Nat.le_refl _ | refine le_ext _ ?_ | refine le_alloc _ ?_ | refine le_setCell _ _ ?_ | refine le_drew ?_) | omega | (simp; done) | (simp; omega))))⟩
end Go.Proofs.YtnddfdhfefconaaGreatDoor

/- The program's 'sorted': Clone, SortFunc, Compact, Clip at points. -/
set_option linter.unusedVariables false
set_option linter.unusedSimpArgs false
namespace Go.Proofs.YtnddfdhfefconaaGreatDoor
open Go.RowKit Go.Shelf Go.Sort Go.Lib

def encPt (p : Pt) : List Value := [.int .i64 p.x, .int .i64 p.y]
def cmpPt (p q : Pt) : Int := orI (sgn (p.x - q.x)) (sgn (p.y - q.y))
theorem cmpPt_lt (p q : Pt) : ltOf cmpPt p q = decide (ltP p q) := by
  unfold ltOf
  rw [Bool.eq_iff_iff, decide_eq_true_iff, decide_eq_true_iff]
  unfold cmpPt orI sgn ltP
  repeat' split
  all_goals (constructor <;> intro <;> omega)
theorem swoPt : SWO (ltOf cmpPt) where
  irrefl x := by rw [cmpPt_lt]; exact decide_eq_false (ltP_irr x)
  trans x y z h1 h2 := by rw [cmpPt_lt] at *; exact decide_eq_true (ltP_trans (of_decide_eq_true h1) (of_decide_eq_true h2))
  ntrans x y z h1 h2 := by
    rw [cmpPt_lt] at *
    have h1 := of_decide_eq_false h1
    have h2 := of_decide_eq_false h2
    exact decide_eq_false (by unfold ltP at *; omega)
set_option maxHeartbeats 400000 in
theorem comparePt_grow (a b c d : Int) (w : World) : Calls Tryz.prog 105 #[.agg #[.int .i64 a, .int .i64 b], .agg #[.int .i64 c, .int .i64 d]] w fun e w' => e = .returned (.int .i64 (orI (sgn (a - c)) (sgn (b - d)))) ∧ ∃ q os', w' = grow (w.drewN q) os' := by
  go_enter Tryz.func105, Tryz.ntmps105
  go_wp2
  go_region_held3 (fun W => W.cell? ⟨w.heap.size, 0, none⟩ = some (.int .i64 a) ∧ W.cell? ⟨w.heap.size, 1, none⟩ = some (.int .i64 b) ∧ W.cell? ⟨w.heap.size + 1, 0, none⟩ = some (.int .i64 c) ∧ W.cell? ⟨w.heap.size + 1, 1, none⟩ = some (.int .i64 d)) (refine ⟨?_, ?_, ?_, ?_⟩ <;> simp [go_sem, ↓IntWalk.iteOmega]) (first | (go_at_call 148; refine (Comparei_any _ _ _).mono ?_; rintro e w' ⟨rfl, rfl⟩) | (go_at_call 147; refine (Or_any (sgn (a - c)) (sgn (b - d)) _ _ _ (by simp [go_sem]) (by simp [go_sem])).mono ?_; rintro e w' ⟨rfl, rfl⟩))
  go_wp2
  go_returns
  exact ⟨rfl, 1, _, by rw [alloc_eq_grow, alloc_eq_grow, alloc_eq_grow, grow_grow, grow_grow]; rfl⟩
theorem cmpLaysPt (blk off size : Nat) (w : World) : CmpLays Tryz.prog 105 #[] encPt 2 cmpPt blk off size w := fun _ _ _ _ x y => comparePt_grow x.x x.y y.x y.y _
theorem flat_get (qs : List Pt) (j : Nat) (h : j < qs.length * 2) : (flatK encPt 2 qs.toArray)[j]! = (ptVals qs)[j]'(by rw [ptVals_len]; exact h) := by
  rw [get_flatK encPt 2 qs.toArray j (by simpa using h)]
  have h2 : j / 2 < qs.length := by omega
  have e : qs.toArray[j / 2]! = gp qs (j / 2) := by
    rw [gp_lt h2]; simp [h2]
  rw [e]
  obtain ⟨q1, q2⟩ := ptVals_at qs (j / 2) h2
  have hj : j < (ptVals qs).length := by rw [ptVals_len]; exact h
  have : (ptVals qs)[j]? = some ((ptVals qs)[j]) := List.getElem?_eq_getElem hj
  rcases Nat.mod_two_eq_zero_or_one j with hm | hm
  · rw [show j / 2 * 2 = j from by omega, this] at q1
    injection q1 with q1
    rw [q1, hm]; rfl
  · rw [show j / 2 * 2 + 1 = j from by omega, this] at q2
    injection q2 with q2
    rw [q2, hm]; rfl
/-- The world behind the sort: the row holds qs. -/
theorem own_sorted {w : World} {base g n c : Nat} {ps qs : List Pt} (h : OwnP w base (.slice (some ⟨g, 0, none⟩) n c) ps) (hq : qs.length = n) (m : Nat) (os : Array Obj) :
    OwnP (sortWorldK encPt 2 w g 0 m qs.toArray os) base (.slice (some ⟨g, 0, none⟩) n c) qs ∧ Below base w (sortWorldK encPt 2 w g 0 m qs.toArray os) := by
  have hl := h.pts.1
  unfold OwnP at h ⊢
  rcases h.2 with ⟨hv, h1⟩ | ⟨g', cap, cur, hv, hg, hgg, hnc, hcm, hsz, htk⟩
  · cases hv
  · injection hv with e1 e2 e3
    injection e1 with e1
    injection e1 with e1
    subst e1 e3
    have glt := (Array.getElem?_eq_some_iff.1 hgg).1
    have hcell : (sortWorldK encPt 2 w g 0 m qs.toArray os).heap[g]? = some (.cells (putCells id 0 (flatK encPt 2 qs.toArray) cur) 41 (0, 0)) := by
      unfold sortWorldK
      rw [heap_grow_old _ _ (by rw [size_putRowK]; exact glt)]
      show ((Sort.ahead w m).heap.modify g _)[g]? = _
      rw [Array.getElem?_modify, if_pos rfl]
      show Option.map _ (w.heap[g]?) = _
      rw [hgg]; rfl
    refine ⟨⟨by rw [ptVals_len], .inr ⟨g, c, _, by rw [hq], hg, hcell, by omega, hcm, by simp [putCells, hsz], ?_⟩⟩, rfl, rfl, rfl, ?_, fun k hk => ?_⟩
    · apply List.ext_getElem
      · simp [putCells, ptVals_len]; omega
      · intro j h1 h2
        have hj : j < qs.length * 2 := by rw [← ptVals_len]; exact h2
        rw [List.getElem_take]
        simp only [putCells, Array.getElem_toList, Array.getElem_mapIdx, size_flatK, List.size_toArray]
        rw [if_pos (by omega), Nat.sub_zero, id_eq, flat_get qs j hj]
    · unfold sortWorldK
      show w.heap.size ≤ ((putRowK encPt 2 (Sort.ahead w m) g 0 qs.toArray).heap ++ os).size
      rw [Array.size_append, size_putRowK]
      exact Nat.le_add_right _ _
    · unfold sortWorldK
      rw [heap_grow_old _ _ (by rw [size_putRowK]; exact Nat.lt_of_lt_of_le hk (Nat.le_trans hg (Nat.le_of_lt glt)))]
      show ((Sort.ahead w m).heap.modify g _)[k]? = _
      rw [Array.getElem?_modify, if_neg (by omega)]; rfl
theorem sort_any (ps : List Pt) (n c base g : Nat) (w : World) (hm : n ≤ 1000) (hown : OwnP w base (.slice (some ⟨g, 0, none⟩) n c) ps) :
    Calls Tryz.prog 104 #[.slice (some ⟨g, 0, none⟩) n c, .func (.func 105) #[] #[]] w fun e w' => e = .returned (.tuple #[]) ∧ ∃ qs : List Pt, qs.Perm ps ∧ (∀ i j, i < j → j < qs.length → ¬ ltP (gp qs j) (gp qs i)) ∧ OwnP w' base (.slice (some ⟨g, 0, none⟩) n c) qs ∧ Below base w w' := by
  have hl := hown.pts.1
  by_cases h0 : n = 0
  · subst h0
    have he : ps = [] := List.eq_nil_of_length_eq_zero hl
    subst he
    refine (AnyF.slices_SortFunc_none { Tryz.sortPt with } (some ⟨g, 0, none⟩) c _ w).mono ?_
    rintro e w' ⟨rfl, rfl⟩
    exact ⟨rfl, [], List.Perm.refl _, fun i j _ hj => by simp at hj, hown, Below.refl _ _⟩
  · obtain ⟨gb, hgb, g1, g2, hfr, hcs⟩ := hown.head (by omega)
    injection hgb with hgb
    injection hgb with hgb
    subst hgb
    have hH : HoldsK encPt 2 w g 0 ps.toArray := by
      intro j hj
      have hj' : j < ps.length * 2 := by simpa using hj
      refine ⟨?_, hfr _⟩
      rw [id_eq, flat_get ps j hj', Nat.zero_add]
      obtain ⟨c1, c2⟩ := hcs (j / 2) (by omega)
      obtain ⟨q1, q2⟩ := ptVals_at ps (j / 2) (by omega)
      have hjl : j < (ptVals ps).length := by rw [ptVals_len]; exact hj'
      rcases Nat.mod_two_eq_zero_or_one j with hm | hm
      · rw [show j / 2 * 2 = j from by omega] at q1 c1
        rw [List.getElem?_eq_getElem hjl] at q1
        rw [c1, ← q1]
      · rw [show j / 2 * 2 + 1 = j from by omega] at q2 c2
        rw [List.getElem?_eq_getElem hjl] at q2
        rw [c2, ← q2]
    have hcon := AnyQ.slices_SortFunc_total Tryz.sortPt 2 Tryz.isAgg41 Tryz.sizeOf41 encPt (fun _ => rfl) (fun x v hv => by simp [encPt] at hv; rcases hv with rfl | rfl <;> rfl) cmpPt swoPt 105 #[] g 0 c ps.toArray w
      (enters _ Tryz.func105 (by kernel_rfl) rfl) (cmpLaysPt g 0 _ w) hH g2 (by simp; omega) (fun x y h1 h2 => by
        rw [cmpPt_lt] at h1 h2
        have h1 := of_decide_eq_false h1
        have h2 := of_decide_eq_false h2
        rcases ltP_tri x y with h | h | h
        · exact absurd h h1
        · exact h
        · exact absurd h h2)
    simp only [List.size_toArray, hl] at hcon
    refine hcon.mono ?_
    rintro e w' ⟨rfl, m, os, rfl⟩
    have hp := List.mergeSort_perm ps fun x y => !ltOf cmpPt y x
    have hsrt : (ps.mergeSort fun x y => !ltOf cmpPt y x).Pairwise fun x y => (!ltOf cmpPt y x) = true := by
      apply List.pairwise_mergeSort
      · intro a b c h1 h2
        rw [cmpPt_lt] at *
        simp only [Bool.not_eq_true', decide_eq_false_iff_not] at *
        unfold ltP at *; omega
      · intro a b
        rw [cmpPt_lt, cmpPt_lt]
        rcases ltP_tri a b with h | h | h
        · have := ltP_asymm h; simp [this]
        · subst h; simp [ltP_irr]
        · have := ltP_asymm h; simp [this]
    have hlq : (ps.mergeSort fun x y => !ltOf cmpPt y x).length = n := by rw [hp.length_eq, hl]
    obtain ⟨k1, k2⟩ := own_sorted hown hlq m os
    refine ⟨rfl, _, hp, fun i j hij hj => ?_, k1, k2⟩
    have := List.pairwise_iff_getElem.1 hsrt i j (by omega) hj hij
    rw [cmpPt_lt] at this
    rw [gp_lt hj, gp_lt (by omega)]
    simpa using this
end Go.Proofs.YtnddfdhfefconaaGreatDoor
/- The program's 'sorted'. -/
set_option linter.unusedVariables false
set_option linter.unusedSimpArgs false
namespace Go.Proofs.YtnddfdhfefconaaGreatDoor
open Go.RowKit

/-- The slice at A is a row of points of the call's own, at block base or later; its block may be longer. -/
def PRow (w : World) (base : Nat) (A : Option Addr) (ps : List Pt) : Prop :=
  0 < ps.length → ∃ g m f, A = some ⟨g, 0, none⟩ ∧ base ≤ g ∧ ps.length * 2 ≤ m ∧ RowAt w g 41 m f ∧ ∀ j, j < ps.length * 2 → f j = ptCell ps j
theorem PRow.nil (w : World) (base : Nat) (A : Option Addr) : PRow w base A [] := fun h => absurd h (Nat.lt_irrefl 0)
theorem PRow.below {w W : World} {base : Nat} {A : Option Addr} {ps : List Pt} (h : PRow w base A ps) (hb : Below w.heap.size w W) : PRow W base A ps := fun h0 => by
  obtain ⟨g, m, f, hA, hg, hm, hr, hf⟩ := h h0
  exact ⟨g, m, f, hA, hg, hm, hr.below hb hr.lt, hf⟩
theorem PRow.more {w : World} {base base' : Nat} {A : Option Addr} {ps : List Pt} (h : PRow w base A ps) (hb : base' ≤ base) : PRow w base' A ps := fun h0 => by
  obtain ⟨g, m, f, hA, hg, hm, hr, hf⟩ := h h0
  exact ⟨g, m, f, hA, Nat.le_trans hb hg, hm, hr, hf⟩
theorem PRow.pts {w : World} {base : Nat} {A : Option Addr} {ps : List Pt} (h : PRow w base A ps) : PtsAt w w.heap.size A ps := fun h0 => by
  obtain ⟨g, m, f, hA, hg, hm, hr, hf⟩ := h h0
  refine ⟨g, 0, hA, hr.lt, fun i hi => ?_⟩
  have h1 := hr.cell (j := i * 2) (by omega)
  have h2 := hr.cell (j := i * 2 + 1) (by omega)
  rw [hf _ (by omega), ptCell_even] at h1
  rw [hf _ (by omega), ptCell_odd] at h2
  rw [Nat.zero_add]
  exact ⟨h1, h2⟩
theorem OwnP.prow {w : World} {base : Nat} {A : Option Addr} {n c : Nat} {ps : List Pt} (h : OwnP w base (.slice A n c) ps) : ps.length = n ∧ PRow w base A ps := by
  have hp := h.pts
  refine ⟨hp.1, fun h0 => ?_⟩
  have hh := h.head (by have := hp.1; omega)
  obtain ⟨gb, hA, hg, _, _, hcs⟩ := hh
  unfold OwnP at h
  rcases h.2 with ⟨hv, h1⟩ | ⟨g, cp, cur, hv, hg2, hgg, hnc, hcm, hsz, htk⟩
  · omega
  · injection hv with e1 e2 e3
    subst e1
    injection hA with hA
    injection hA with hA
    subst hA
    refine ⟨g, cur.size, fun j => cur.getD j undef, rfl, hg, by omega, ⟨cur, hgg, rfl, fun j hj => by simp [hj]⟩, fun j hj => ?_⟩
    obtain ⟨c1, c2⟩ := hcs (j / 2) (by have := hp.1; omega)
    rw [heap_cell hgg] at c1 c2
    show cur.getD j undef = _
    unfold ptCell
    rcases Nat.mod_two_eq_zero_or_one j with hm | hm
    · rw [if_pos hm]
      rw [show j / 2 * 2 = j from by omega] at c1
      rw [Array.getD_eq_getD_getElem?, c1]; rfl
    · rw [if_neg (by omega)]
      rw [show j / 2 * 2 + 1 = j from by omega] at c2
      rw [Array.getD_eq_getD_getElem?, c2]; rfl
/-- Where a slice lies: nil with nothing in it, or at a plain place. -/
def Plain (A : Option Addr) (n : Nat) : Prop := (A = none → n = 0) ∧ ∀ b o s, A = some ⟨b, o, s⟩ → s = none
theorem Plain.some {b o n : Nat} : Plain (some ⟨b, o, none⟩) n := ⟨(fun h => by cases h), (fun b o s h => by injection h with h; injection h with _ _ h; exact h.symm)⟩
theorem Plain.none {n : Nat} (h : n = 0) : Plain none n := ⟨fun _ => h, (fun b o s h => by cases h)⟩
theorem OwnP.form {w : World} {base : Nat} {A : Option Addr} {n c : Nat} {ps : List Pt} (h : OwnP w base (.slice A n c) ps) : Plain A n ∧ (A = none → c = 0) := by
  unfold OwnP at h
  rcases h.2 with ⟨hv, h1⟩ | ⟨g, cap, cur, hv, _⟩
  · injection hv with e1 e2 e3
    subst e1 e2 e3
    exact ⟨Plain.none rfl, fun _ => rfl⟩
  · injection hv with e1 e2 e3
    subst e1
    exact ⟨Plain.some, (fun h => by cases h)⟩
set_option maxHeartbeats 400000 in
theorem clipP_any (A : Option Addr) (n c : Nat) (w : World) (hn : n ≤ c) (hc : c ≤ 9223372036854775807) (hA : Plain A n) :
    Calls Tryz.prog 56 #[.slice A n c] w fun e w' => e = .returned (.slice A n n) ∧ w = w' := by
  cases A with
  | none =>
    have := hA.1 rfl
    subst this
    go_enter Tryz.func56, Tryz.ntmps56
    go_wp2
    go_ret
    exact ⟨rfl, rfl⟩
  | some a =>
    go_enter Tryz.func56, Tryz.ntmps56
    go_wp2
    go_ret
    exact ⟨rfl, rfl⟩
theorem cloneP_any (ps : List Pt) (A : Option Addr) (n c : Nat) (w : World) (hn : ps.length = n) (hm : n ≤ 1000) (hs : PtsAt w w.heap.size A ps) (hA : Plain A n) :
    Calls Tryz.prog 103 #[.slice A n c] w fun e w' => ∃ v, e = .returned v ∧ OwnP w' w.heap.size v ps ∧ Below w.heap.size w w' := by
  obtain ⟨i0, hi, hz0, hz1, hz2⟩ := info_parts ptElt.inf
  match A, hA, hs with
  | none, hA, hs =>
    have e := hA.1 rfl
    subst e
    have he : ps = [] := List.eq_nil_of_length_eq_zero hn
    subst he
    refine (AnyE.slices_Clone_nil Tryz.clonePt 0 c w).mono ?_
    rintro e w' ⟨rfl, rfl⟩
    exact ⟨_, rfl, OwnP.nil _ _, Below.refl _ _⟩
  | some ⟨b, o, s⟩, hA, hs =>
    have e := hA.2 b o s rfl
    subst e
    refine (AnyE.slices_Clone Tryz.clonePt i0 (.agg #[.int .i64 0, .int .i64 0]) 2 16 hi hz0 hz1 hz2 rfl (by decide) Tryz.sizeOf41 b o n c (ptVals ps) w (by rw [ptVals_len, hn]) (by unfold maxLen; omega) (by omega) (fun j u hu => ?_) (ptVals_one ps)).mono ?_
    · have := src_cells hs.src j u hu
      rwa [add_plain] at this
    · rintro e w' ⟨v, rfl, h1, _, h2⟩
      exact ⟨v, rfl, by unfold OwnP; rw [hn]; exact h1, h2⟩
theorem sortP_of {ps qs : List Pt} (hp : qs.Perm ps) (hs : ∀ i j, i < j → j < qs.length → ¬ ltP (gp qs j) (gp qs i)) : cmpL qs qs.length = sortP ps :=
  asc_ext (cmpL_asc hs (Nat.le_refl _)) (sortP_asc ps) fun q => by
    rw [cmpL_mem (Nat.le_refl _), sortP_mem, ← hp.mem_iff]
    constructor
    · rintro ⟨i, hi, rfl⟩; exact gp_mem hi
    · intro h; exact gp_of_mem h
set_option maxHeartbeats 400000 in
theorem compact0_any (A : Option Addr) (c : Nat) (w : World) : Calls Tryz.prog 106 #[.slice A 0 c] w fun e w' => e = .returned (.slice A 0 c) ∧ w = w' := by
  go_enter Tryz.func106, Tryz.ntmps106
  go_wp2
  go_ret
  exact ⟨rfl, rfl⟩
set_option maxHeartbeats 1000000 in
theorem sorted_any (ps : List Pt) (A : Option Addr) (n c : Nat) (w : World) (hn : ps.length = n) (hm : n ≤ 1000) (hs : PtsAt w w.heap.size A ps) (hA : Plain A n) :
    Calls Tryz.prog 53 #[.slice A n c] w fun e w' => ∃ A' n' c', e = .returned (.slice A' n' c') ∧ (sortP ps).length = n' ∧ n' ≤ c' ∧ c' ≤ 9223372036854775807 ∧ PRow w' w.heap.size A' (sortP ps) ∧ Plain A' n' ∧ ∃ x, w' = ext w x := by
  go_enter Tryz.func53, Tryz.ntmps53
  go_wp2_with fail
  refine (cloneP_any ps A n c _ hn hm hs hA).mono ?_
  rintro e w1 ⟨v, rfl, hown, hb1⟩
  obtain ⟨A1, n1, c1, rfl⟩ := hown.slice
  have hl1 := hown.pts.1
  have e1 : n1 = n := by omega
  subst e1
  by_cases h0 : n1 = 0
  · subst h0
    have he : ps = [] := List.eq_nil_of_length_eq_zero hl1
    subst he
    have F1 := hown.form
    have HB : Hid (∃ x, w1 = ext w x) := hide (ext_mk hb1)
    have hcc : c1 ≤ 9223372036854775807 := by have := hown.pts.2.2.1; unfold maxLen at this; exact this
    clear hown hb1
    go_wp2_with fail
    refine (AnyF.slices_SortFunc_none { Tryz.sortPt with } A1 c1 _ _).mono ?_
    rintro e w2 ⟨rfl, rfl⟩
    go_wp2_with (first | (go_at_call 106; refine (compact0_any _ _ _).mono ?_; rintro e w' ⟨rfl, rfl⟩) | (go_at_call 56; refine (clipP_any _ _ _ _ (Nat.zero_le _) hcc F1.1).mono ?_; rintro e w' ⟨rfl, rfl⟩))
    go_ret
    exact ⟨_, _, _, rfl, rfl, Nat.le_refl _, by omega, PRow.nil _ _ _, F1.1, HB.out⟩
  · obtain ⟨gb, rfl, g1, g2, _, _⟩ := hown.head (by omega)
    have OWN := hide hown
    have hs1 := hb1.size
    clear hown
    go_wp2_with fail
    refine (sort_any ps n1 c1 w.heap.size gb _ hm OWN.out).mono ?_
    rintro e w2 ⟨rfl, qs, hp, hso, hown2, hb2⟩
    have OWN2 := hide hown2
    have SO := hide (sortP_of hp hso)
    have hlq : qs.length = n1 := by rw [hp.length_eq]; exact hl1
    rw [hlq] at SO
    have hs2 := hb2.size
    clear hp hso hown2 hlq
    go_wp2_with fail
    refine (compact_any qs n1 c1 w.heap.size gb _ hm (by omega) (by omega) OWN2.out).mono ?_
    rintro e w3 ⟨v3, rfl, hown3, hb3⟩
    obtain ⟨A3, n3, c3, rfl⟩ := hown3.slice
    rw [SO.out] at hown3
    have P3 := hown3.prow
    have F3 := hown3.form
    have hc3 := hown3.pts.2
    have hc31 := hc3.1
    have hc32 : c3 ≤ 9223372036854775807 := by have := hc3.2.1; unfold maxLen at this; exact this
    have P3H := hide P3
    have HB : Hid (∃ x, w3 = ext w x) := hide (ext_mk ((hb1.trans hb2).trans hb3))
    clear hown3 hc3 P3
    go_wp2_with (go_at_call 56; refine (clipP_any _ _ _ _ hc31 hc32 F3.1).mono ?_; rintro e w' ⟨rfl, rfl⟩)
    go_ret
    exact ⟨_, _, _, rfl, P3H.out.1, Nat.le_refl _, by omega, P3H.out.2, F3.1, HB.out⟩
end Go.Proofs.YtnddfdhfefconaaGreatDoor
