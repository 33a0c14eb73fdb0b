
/- The library's Compact at points that the call owns. -/
import Derived.Test.YtelhidonhldjeaaVals
import Derived.Test.YtelhidonhldjeaaHullK
import Derived.Lib.SliceRun
import Derived.BigQuiet
import Derived.Outline
set_option linter.unusedVariables false
set_option linter.unusedSimpArgs false
namespace Go.Proofs.Ytelhidonhldjeaa
open Go.RowKit

/-- The first t of ds, those left out that are as the one ahead of them. -/
def cmpL (ds : List Pt) : Nat → List Pt
  | 0 => []
  | t + 1 => if 1 ≤ t ∧ gp ds t = gp ds (t - 1) then cmpL ds t else cmpL ds t ++ [gp ds t]
theorem cmpL_len (ds : List Pt) : ∀ t, (cmpL ds t).length ≤ t
  | 0 => Nat.le_refl _
  | t + 1 => by
    have := cmpL_len ds t
    rw [cmpL]
    split
    · omega
    · rw [List.length_append]; simp; omega
theorem cmpL_all {ds : List Pt} : ∀ {t : Nat}, t ≤ ds.length → (∀ i, 1 ≤ i → i < t → gp ds i ≠ gp ds (i - 1)) → cmpL ds t = ds.take t
  | 0, _, _ => rfl
  | t + 1, ht, h => by
    rw [cmpL, if_neg (fun hh => h t hh.1 (by omega) hh.2), cmpL_all (by omega) (fun i h1 h2 => h i h1 (by omega)), gp_lt (by omega), List.take_succ_eq_append_getElem (by omega)]
theorem cmpL_mem {ds : List Pt} : ∀ {t : Nat} {q : Pt}, t ≤ ds.length → (q ∈ cmpL ds t ↔ ∃ i, i < t ∧ gp ds i = q)
  | 0, q, _ => by simp [cmpL]
  | t + 1, q, ht => by
    have ih := cmpL_mem (ds := ds) (t := t) (q := q) (by omega)
    rw [cmpL]
    split
    · rename_i hh
      rw [ih]
      constructor
      · rintro ⟨i, h1, h2⟩; exact ⟨i, by omega, h2⟩
      · rintro ⟨i, h1, h2⟩
        by_cases e : i = t
        · subst e; exact ⟨i - 1, by omega, by rw [← hh.2]; exact h2⟩
        · exact ⟨i, by omega, h2⟩
    · rw [List.mem_append, List.mem_singleton, ih]
      constructor
      · rintro (⟨i, h1, h2⟩ | h)
        · exact ⟨i, by omega, h2⟩
        · exact ⟨t, by omega, h.symm⟩
      · rintro ⟨i, h1, h2⟩
        by_cases e : i = t
        · subst e; exact .inr h2.symm
        · exact .inl ⟨i, by omega, h2⟩
theorem cmpL_asc {ds : List Pt} (hs : ∀ i j, i < j → j < ds.length → ¬ ltP (gp ds j) (gp ds i)) : ∀ {t : Nat}, t ≤ ds.length → Asc (cmpL ds t)
  | 0, _ => List.Pairwise.nil
  | t + 1, ht => by
    have ih := cmpL_asc hs (t := t) (by omega)
    rw [cmpL]
    split
    · exact ih
    · rename_i hh
      refine List.pairwise_append.2 ⟨ih, by simp, fun q hq r hr => ?_⟩
      rw [List.mem_singleton.1 hr]
      obtain ⟨i, hi, rfl⟩ := (cmpL_mem (by omega)).1 hq
      rcases ltP_tri (gp ds i) (gp ds t) with h | h | h
      · exact h
      · exfalso
        have h1 := hs (t - 1) t (by omega) (by omega)
        by_cases e : i = t - 1
        · subst e; exact hh ⟨by omega, h.symm⟩
        · have h2 := hs i (t - 1) (by omega) (by omega)
          rcases ltP_tri (gp ds t) (gp ds (t - 1)) with k | k | k
          · exact h1 k
          · exact hh ⟨by omega, k⟩
          · rw [← h] at k; exact h2 k
      · exact absurd h (hs i t hi (by omega))
/-- What clear lays. -/
theorem own_tail {g : Nat} {T : TypeId} (N : Nat) : ∀ (vs : List Value) (o : Nat) (w : World) (cur : Array Value), w.heap[g]? = some (.cells cur T (0, 0)) → N ≤ o →
    (∃ cur', (w.setCells g o vs).heap[g]? = some (.cells cur' T (0, 0)) ∧ cur'.size = cur.size ∧ cur'.toList.take N = cur.toList.take N) ∧ But w (w.setCells g o vs) g
  | [], o, w, cur, h, _ => ⟨⟨cur, h, rfl, rfl⟩, But.refl _ _⟩
  | v :: vs, o, w, cur, h, hN => by
    have h1 : (w.setCell ⟨g, o, none⟩ v).heap[g]? = some (.cells (cur.setIfInBounds o v) T (0, 0)) := by simp [World.setCell, Array.getElem?_modify, h]
    obtain ⟨⟨cur', k1, k2, k3⟩, k4⟩ := own_tail N vs (o + 1) _ _ h1 (by omega)
    refine ⟨⟨cur', k1, by rw [k2]; simp, ?_⟩, ?_⟩
    · rw [k3]
      have : (cur.setIfInBounds o v).toList = cur.toList.set o v := by simp
      rw [this, List.take_set_of_le (by omega)]
    · have hb := (But.refl w g).set o v
      exact ⟨k4.os, k4.tape, k4.output, k4.size.trans hb.size, fun k hk => (k4.block k hk).trans (hb.block k hk)⟩
theorem OwnP.clear {w : World} {base g : Nat} {n c : Nat} {ps : List Pt} (h : OwnP w base (.slice (some ⟨g, 0, none⟩) n c) ps) {k : Nat} (hk : k ≤ n) (vs : List Value) :
    OwnP (w.setCells g (k * 2) vs) base (.slice (some ⟨g, 0, none⟩) k c) (ps.take k) ∧ But w (w.setCells g (k * 2) vs) g := by
  have hl := h.pts.1
  unfold OwnP at h ⊢
  rcases h.2 with ⟨hv, h1⟩ | ⟨g', cap, cur, hv, hg, hgg, hnc, hcm, hsz, htk⟩
  · cases hv
  · injection hv with e1 e2 e3
    injection e1 with e1
    injection e1 with e1
    subst e1 e3
    obtain ⟨⟨cur', k1, k2, k3⟩, k4⟩ := own_tail (k * 2) vs (k * 2) w cur hgg (Nat.le_refl _)
    refine ⟨⟨by rw [ptVals_len], .inr ⟨g, c, cur', by rw [List.length_take, Nat.min_eq_left (by omega)], hg, k1, by rw [List.length_take]; omega, hcm, by rw [k2]; exact hsz, ?_⟩⟩, k4⟩
    rw [List.length_take, Nat.min_eq_left (by omega), k3, ← ptVals_take, ← htk, List.take_take, Nat.min_eq_left (by omega)]
theorem clear_pts (w : World) (ty : TypeId) (b o n c : Nat) (hn : 0 < n) (hc : ∀ j, j < n * 2 → (w.cell? ⟨b, o + j, none⟩).isSome = true) (hf : ∀ j, j < n * 2 → w.frozen? ⟨b, o + j, none⟩ = false) :
    ∃ vs, (Builtin.clear_ #[23] ty #[.slice (some ⟨b, o, none⟩) n c]).run Try.prog w = .ok (.tuple #[]) (w.setCells b o vs) := by
  have hlen : (Builtin.zeroCells #[.int .i64 0, .int .i64 0] n).toList.length = n * 2 := by simp [Builtin.zeroCells]
  have hst := run_storeCells_cells (P := Try.prog) b o (Builtin.zeroCells #[.int .i64 0, .int .i64 0] n).toList 0 w (by rw [hlen]; simpa using hc) (by rw [hlen]; simpa using hf) (by
    intro v hv
    simp [Builtin.zeroCells] at hv
    obtain ⟨i, _, rfl⟩ := hv
    rcases Nat.mod_two_eq_zero_or_one i with h | h <;> simp [h] <;> rfl)
  simp only [Nat.add_zero] at hst
  obtain ⟨m, rfl⟩ : ∃ m, n = m + 1 := ⟨n - 1, by omega⟩
  refine ⟨(Builtin.zeroCells #[.int .i64 0, .int .i64 0] (m + 1)).toList, ?_⟩
  have hv := Try.zeroValue39
  simp [Builtin.clear_, run_underlying Try.underlying23, hv, Value.cells, hst]
set_option maxHeartbeats 2000000 in
theorem compact_any (ds : List Pt) (n c base g : Nat) (w : World) (hm : n ≤ 1000) (h0 : 0 < n) (hbase : base ≤ w.heap.size) (hown : OwnP w base (.slice (some ⟨g, 0, none⟩) n c) ds) :
    Calls Try.prog 117 #[.slice (some ⟨g, 0, none⟩) n c] w fun e w' => ∃ v, e = .returned v ∧ OwnP w' base v (cmpL ds n) ∧ Below base w w' := by
  have hl := hown.pts.1
  have hnc := hown.pts.2.1
  have hcm : c ≤ 9223372036854775807 := by have := hown.pts.2.2.1; unfold maxLen at this; exact this
  have OWN := hide hown
  obtain ⟨gb, hgb, g1, g2, hfr, hcs⟩ := hown.head h0
  injection hgb with hgb
  injection hgb with hgb
  subst hgb
  have HCS := hide hcs
  have HFR := hide hfr
  have HL := hide hl
  clear hown hcs hfr hl
  by_cases hn1 : n < 2
  · have e1 : n = 1 := by omega
    have HR : Hid (cmpL ds n = ds) := hide (by rw [cmpL_all (by rw [HL.out]; exact Nat.le_refl _) (fun i h1 h2 => by omega), List.take_of_length_le (by rw [HL.out]; exact Nat.le_refl _)])
    clear e1
    go_enter Try.func117, Try.ntmps117
    go_wp2
    go_ret
    exact ⟨_, rfl, by rw [HR.out]; exact OWN.out, Below.refl _ _⟩
  · have hd8 : decide ((n : Int) < 2) = false := decide_eq_false (by omega)
    go_enter Try.func117, Try.ntmps117
    go_wp2
    go_loopw [3] (fun u3 wr => ∃ k : Nat, 1 ≤ k ∧ k ≤ n ∧ u3 = .int .i64 k ∧ Hid (∀ i, 1 ≤ i → i < k → gp ds i ≠ gp ds (i - 1)) ∧ ∃ x, wr = ext w x) (fun u3 _ => n - (intOf u3).toNat)
    case atStart => exact ⟨1, by omega, by omega, rfl, (fun i h1 h2 => by omega), ext_same w⟩
    case round =>
      obtain ⟨k, hk1, hk2, rfl, hno, x, rfl⟩ := hrel
      have hsz := ext_size w x
      by_cases hlt : k < n
      · obtain ⟨m, rfl⟩ : ∃ m, k = m + 1 := ⟨k - 1, by omega⟩
        obtain ⟨x1, y1⟩ := HCS.out m (by omega)
        obtain ⟨x2, y2⟩ := HCS.out (m + 1) (by omega)
        by_cases hxy : pX ds (m + 1) = pX ds m ∧ pY ds (m + 1) = pY ds m
        · obtain ⟨ex, ey⟩ := hxy
          have EQ : Hid (gp ds (m + 1) = gp ds m) := hide (pt_eq ex ey)
          have C0 : Hid (cmpL ds (m + 1 + 1) = ds.take (m + 1)) := hide (by
            rw [cmpL, if_pos ⟨by omega, by simpa using EQ.out⟩, cmpL_all (by rw [HL.out]; omega) (fun i h1 h2 => hno.out i h1 h2)])
          have OW := hide (OWN.out.below (ext_below w x))
          have hd13 : decide ((m : Int) + 1 < (n : Int)) = true := decide_eq_true (by omega)
          have hq6 : ¬ c = m + 1 := by omega
          have hq4 : (m : Int) + 1 ≤ (n : Int) := by omega
          have hq5 : ((m : Int) + 1).toNat = m + 1 := by omega
          go_wp2
          refine wp_region_ext (by kernel_rfl) (by kernel_rfl) ?_
          repeat (go_big_quiet_step (fail))
          refine wpQuiet_nil ?_
          rintro _ hnq
          have hzq := ext_sz hnq
          obtain ⟨nq, rfl⟩ := hnq
          (try simp at hzq)
          generalize hW : ext (ext w x) nq = W0 at *
          have hb0 : Below w.heap.size w W0 := by rw [← hW]; exact (by (repeat' (first | (with_reducible exact Below.refl _ _) | (with_reducible assumption) | (with_reducible refine below_ext _ ?_ ?_) | (with_reducible refine Below.alloc ?_ ?_ _) | (with_reducible refine Below.drew ?_) | (with_reducible refine below_drewN ?_ _) | (with_reducible refine le_drewN _ ?_) | (with_reducible refine Below.setCell ?_ ?_ _) | (with_reducible exact Nat.le_refl _) | (with_reducible refine le_ext _ ?_) | (with_reducible refine le_alloc _ ?_) | (with_reducible refine le_setCell _ _ ?_) | (with_reducible refine le_drew ?_) | omega | (simp; done) | (simp; omega))))
          have O0 := hide (OWN.out.below hb0)
          have hsW := hb0.size
          clear hW hsz hzq OW ex ey x1 y1 x2 y2
          go_wp2
          clear hq4 hq5 hq6
          rw [show ((m + 1 : Nat) : Int) = (m : Int) + 1 from rfl]
          go_loopw [3, 5] (fun u3 u5 wr => ∃ (kk k2 : Nat) (L : List Pt), 1 ≤ k2 ∧ m + 1 + k2 ≤ n ∧ u3 = .int .i64 kk ∧ u5 = .int .i64 k2 ∧ kk + 1 ≤ m + 1 + k2 ∧ OwnP wr base (.slice (some ⟨g, 0, none⟩) n c) L ∧ Hid ((cmpL ds (m + 1 + k2)).length = kk) ∧ Hid (L.take kk = cmpL ds (m + 1 + k2)) ∧ Hid (∀ j, kk ≤ j → j < n → gp L j = gp ds j) ∧ Below base w wr ∧ w.heap.size ≤ wr.heap.size) (fun _ u5 _ => n - (m + 1) - (intOf u5).toNat)
          case atStart => exact ⟨m + 1, 1, ds, by omega, by omega, by go_num, rfl, by omega, O0.out, hide (by rw [C0.out, List.length_take, HL.out]; omega), C0.out.symm, (fun j h1 h2 => rfl), hb0.mono hbase, hsW⟩
          case round =>
            obtain ⟨kk, k2, L, hk21, hk22, rfl, rfl, hkk, hOL, hlen, htk, hsame, hbl, hszl⟩ := hrel
            have OL := hide hOL
            obtain ⟨_, _, _, _, hfrL, hcsL⟩ := hOL.head h0
            rename_i gbL hgbL _ _
            injection hgbL with hgbL
            injection hgbL with hgbL
            subst hgbL
            have HCSL := hide hcsL
            have HFRL := hide hfrL
            have glt := OL.out.lt2 g rfl
            clear hOL hcsL hfrL
            by_cases hlt2 : k2 < n - (m + 1)
            · obtain ⟨m2, rfl⟩ : ∃ m2, k2 = m2 + 1 := ⟨k2 - 1, by omega⟩
              obtain ⟨x1, y1⟩ := HCSL.out (m + 1 + m2) (by omega)
              obtain ⟨x2, y2⟩ := HCSL.out (m + 1 + (m2 + 1)) (by omega)
              have s1 := hsame.out (m + 1 + m2) (by omega) (by omega)
              have s2 := hsame.out (m + 1 + (m2 + 1)) (by omega) (by omega)
              have px1 : pX L (m + 1 + m2) = pX ds (m + 1 + m2) := by unfold pX; rw [s1]
              have py1 : pY L (m + 1 + m2) = pY ds (m + 1 + m2) := by unfold pY; rw [s1]
              have px2 : pX L (m + 1 + (m2 + 1)) = pX ds (m + 1 + (m2 + 1)) := by unfold pX; rw [s2]
              have py2 : pY L (m + 1 + (m2 + 1)) = pY ds (m + 1 + (m2 + 1)) := by unfold pY; rw [s2]
              rw [px1, show (m + 1 + m2) * 2 = (m + 1) * 2 + m2 * 2 from by omega] at x1
              rw [py1, show (m + 1 + m2) * 2 = (m + 1) * 2 + m2 * 2 from by omega] at y1
              rw [px2, show (m + 1 + (m2 + 1)) * 2 = (m + 1) * 2 + (m2 + 1) * 2 from by omega] at x2
              rw [py2, show (m + 1 + (m2 + 1)) * 2 = (m + 1) * 2 + (m2 + 1) * 2 from by omega] at y2
              clear s1 s2 px1 py1 px2 py2
              by_cases hxy : pX ds (m + 1 + (m2 + 1)) = pX ds (m + 1 + m2) ∧ pY ds (m + 1 + (m2 + 1)) = pY ds (m + 1 + m2)
              · obtain ⟨ex, ey⟩ := hxy
                have CE : Hid (cmpL ds (m + 1 + (m2 + 1 + 1)) = cmpL ds (m + 1 + (m2 + 1))) := hide (by
                  rw [show m + 1 + (m2 + 1 + 1) = m + 1 + (m2 + 1) + 1 from by omega, cmpL, if_pos ⟨by omega, pt_eq ex ey⟩])
                go_wp2
                refine wp_region_ext (by kernel_rfl) (by kernel_rfl) ?_
                repeat (go_big_quiet_step (fail))
                refine wpQuiet_nil ?_
                rintro _ hnq
                have hzq := ext_sz hnq
                obtain ⟨nq, rfl⟩ := hnq
                (try simp at hzq)
                go_wp2
                exact ⟨⟨kk, m2 + 1 + 1, L, by omega, by omega, rfl, by go_num, by omega, OL.out.below (by (repeat' (first | (with_reducible exact Below.refl _ _) | (with_reducible assumption) | (with_reducible refine below_ext _ ?_ ?_) | (with_reducible refine Below.alloc ?_ ?_ _) | (with_reducible refine Below.drew ?_) | (with_reducible refine below_drewN ?_ _) | (with_reducible refine le_drewN _ ?_) | (with_reducible refine Below.setCell ?_ ?_ _) | (with_reducible exact Nat.le_refl _) | (with_reducible refine le_ext _ ?_) | (with_reducible refine le_alloc _ ?_) | (with_reducible refine le_setCell _ _ ?_) | (with_reducible refine le_drew ?_) | omega | (simp; done) | (simp; omega)))), hide (by rw [CE.out]; exact hlen.out), hide (by rw [CE.out]; exact htk.out), hsame.out, hbl.trans ((ext_below wr nq).mono (by omega)), by omega⟩, by simp [intOf]; omega⟩
              · have CN : Hid (cmpL ds (m + 1 + (m2 + 1 + 1)) = cmpL ds (m + 1 + (m2 + 1)) ++ [⟨pX ds (m + 1 + (m2 + 1)), pY ds (m + 1 + (m2 + 1))⟩]) := hide (by
                  rw [show m + 1 + (m2 + 1 + 1) = m + 1 + (m2 + 1) + 1 from by omega, cmpL, if_neg (fun hh => hxy (by have := hh.2; rw [show m + 1 + (m2 + 1) - 1 = m + 1 + m2 from by omega] at this; unfold pX pY; rw [this]; exact ⟨rfl, rfl⟩))]; rfl)
                have OX := hide (fun (W : World) (hb : Below wr.heap.size wr W) => (OL.out.below hb).set (i := kk) (by omega) (pX ds (m + 1 + (m2 + 1))) (pY ds (m + 1 + (m2 + 1))))
                obtain ⟨z1, z2⟩ := HCSL.out kk (by omega)
                have f1 := HFRL.out (kk * 2)
                have f2 := HFRL.out (kk * 2 + 1)
                have NX : Hid ((L.set kk ⟨pX ds (m + 1 + (m2 + 1)), pY ds (m + 1 + (m2 + 1))⟩).take (kk + 1) = cmpL ds (m + 1 + (m2 + 1 + 1))) := hide (by
                  rw [CN.out, ← htk.out]
                  have hL : kk < L.length := by have := OL.out.pts.1; omega
                  rw [List.take_succ_eq_append_getElem (by rw [List.length_set]; exact hL), List.take_set_of_le (Nat.le_refl _)]
                  simp)
                have NL : Hid ((cmpL ds (m + 1 + (m2 + 1 + 1))).length = kk + 1) := hide (by rw [CN.out, List.length_append, hlen.out]; rfl)
                have NS : Hid (∀ j, kk + 1 ≤ j → j < n → gp (L.set kk ⟨pX ds (m + 1 + (m2 + 1)), pY ds (m + 1 + (m2 + 1))⟩) j = gp ds j) := hide (fun j h1 h2 => by
                  rw [← hsame.out j (by omega) h2]
                  unfold gp
                  rw [List.getD_eq_getElem?_getD, List.getElem?_set_ne (by omega), ← List.getD_eq_getElem?_getD])
                have hq3 : (kk : Int) < (n : Int) := by omega
                by_cases hx : pX ds (m + 1 + (m2 + 1)) = pX ds (m + 1 + m2)
                · have hy : ¬ pY ds (m + 1 + (m2 + 1)) = pY ds (m + 1 + m2) := fun h => hxy ⟨hx, h⟩
                  clear hxy
                  rw [hx] at OX NX NS
                  go_wp2
                  refine wp_region_ext (by kernel_rfl) (by kernel_rfl) ?_
                  repeat (go_big_quiet_step (fail))
                  refine wpQuiet_nil ?_
                  rintro _ hnq
                  have hzq := ext_sz hnq
                  obtain ⟨nq, rfl⟩ := hnq
                  (try simp at hzq)
                  go_wp2
                  exact ⟨⟨kk + 1, m2 + 1 + 1, _, by omega, by omega, by go_num, by go_num, by omega, OX.out _ (ext_below wr nq), NL, NX, NS, ((hbl.trans ((ext_below wr nq).mono (by omega))).setCell g1 _).setCell g1 _, by simp; omega⟩, by simp [intOf]; omega⟩
                · clear hxy
                  go_wp2
                  refine wp_region_ext (by kernel_rfl) (by kernel_rfl) ?_
                  repeat (go_big_quiet_step (fail))
                  refine wpQuiet_nil ?_
                  rintro _ hnq
                  have hzq := ext_sz hnq
                  obtain ⟨nq, rfl⟩ := hnq
                  (try simp at hzq)
                  go_wp2
                  exact ⟨⟨kk + 1, m2 + 1 + 1, _, by omega, by omega, by go_num, by go_num, by omega, OX.out _ (ext_below wr nq), NL, NX, NS, ((hbl.trans ((ext_below wr nq).mono (by omega))).setCell g1 _).setCell g1 _, by simp; omega⟩, by simp [intOf]; omega⟩
            · have ek : k2 = n - (m + 1) := by omega
              have FIN : Hid (L.take kk = cmpL ds n) := hide (by rw [htk.out, show m + 1 + k2 = n from by omega])
              obtain ⟨vs, hcl⟩ := clear_pts wr 0 g (kk * 2) (n - kk) (c - kk) (by omega) (fun j hj => by
                rcases Nat.mod_two_eq_zero_or_one j with h | h
                · have := (HCSL.out (kk + j / 2) (by omega)).1
                  rw [show (kk + j / 2) * 2 = kk * 2 + j from by omega] at this
                  rw [this]; rfl
                · have := (HCSL.out (kk + j / 2) (by omega)).2
                  rw [show (kk + j / 2) * 2 + 1 = kk * 2 + j from by omega] at this
                  rw [this]; rfl) (fun j hj => HFRL.out _)
              have OC := hide (OL.out.clear (k := kk) (by omega) vs)
              have hq2 : ¬ c = kk := by omega
              have hq3 : (kk : Int) ≤ (n : Int) := by omega
              have hq4 : (kk : Int) ≤ (c : Int) := by omega
              clear ek
              go_wp2
              go_ret
              exact ⟨_, rfl, by rw [← FIN.out]; exact OC.out.1, hbl.trans (OC.out.2.below g1)⟩
        · have NE : Hid (gp ds (m + 1) ≠ gp ds m) := hide (fun e => hxy ⟨by unfold pX; rw [e], by unfold pY; rw [e]⟩)
          by_cases hx : pX ds (m + 1) = pX ds m
          · have hy : ¬ pY ds (m + 1) = pY ds m := fun h => hxy ⟨hx, h⟩
            clear hxy
            go_wp2
            refine wp_region_ext (by kernel_rfl) (by kernel_rfl) ?_
            repeat (go_big_quiet_step (fail))
            refine wpQuiet_nil ?_
            rintro _ hnq
            have hzq := ext_sz hnq
            obtain ⟨nq, rfl⟩ := hnq
            (try simp at hzq)
            go_wp2
            exact ⟨⟨m + 1 + 1, by omega, by omega, by go_num, (fun i h1 h2 => by
              by_cases e : i = m + 1
              · subst e; simpa using NE.out
              · exact hno.out i h1 (by omega)), (ext_mk (by (repeat' (first | (with_reducible exact Below.refl _ _) | (with_reducible assumption) | (with_reducible refine below_ext _ ?_ ?_) | (with_reducible refine Below.alloc ?_ ?_ _) | (with_reducible refine Below.drew ?_) | (with_reducible refine below_drewN ?_ _) | (with_reducible refine le_drewN _ ?_) | (with_reducible refine Below.setCell ?_ ?_ _) | (with_reducible exact Nat.le_refl _) | (with_reducible refine le_ext _ ?_) | (with_reducible refine le_alloc _ ?_) | (with_reducible refine le_setCell _ _ ?_) | (with_reducible refine le_drew ?_) | omega | (simp; done) | (simp; omega)))))⟩, by simp [intOf]; omega⟩
          · clear hxy
            go_wp2
            refine wp_region_ext (by kernel_rfl) (by kernel_rfl) ?_
            repeat (go_big_quiet_step (fail))
            refine wpQuiet_nil ?_
            rintro _ hnq
            have hzq := ext_sz hnq
            obtain ⟨nq, rfl⟩ := hnq
            (try simp at hzq)
            go_wp2
            exact ⟨⟨m + 1 + 1, by omega, by omega, by go_num, (fun i h1 h2 => by
              by_cases e : i = m + 1
              · subst e; simpa using NE.out
              · exact hno.out i h1 (by omega)), (ext_mk (by (repeat' (first | (with_reducible exact Below.refl _ _) | (with_reducible assumption) | (with_reducible refine below_ext _ ?_ ?_) | (with_reducible refine Below.alloc ?_ ?_ _) | (with_reducible refine Below.drew ?_) | (with_reducible refine below_drewN ?_ _) | (with_reducible refine le_drewN _ ?_) | (with_reducible refine Below.setCell ?_ ?_ _) | (with_reducible exact Nat.le_refl _) | (with_reducible refine le_ext _ ?_) | (with_reducible refine le_alloc _ ?_) | (with_reducible refine le_setCell _ _ ?_) | (with_reducible refine le_drew ?_) | omega | (simp; done) | (simp; omega)))))⟩, by simp [intOf]; omega⟩
      · have ek : k = n := by omega
        subst ek
        have HR : Hid (cmpL ds k = ds) := hide (by rw [cmpL_all (by rw [HL.out]; exact Nat.le_refl _) (fun i h1 h2 => hno.out i h1 h2), List.take_of_length_le (by rw [HL.out]; exact Nat.le_refl _)])
        go_wp2
        go_ret
        exact ⟨_, rfl, by rw [HR.out]; exact OWN.out.below (by (repeat' (first | (with_reducible exact Below.refl _ _) | (with_reducible assumption) | (with_reducible refine below_ext _ ?_ ?_) | (with_reducible refine Below.alloc ?_ ?_ _) | (with_reducible refine Below.drew ?_) | (with_reducible refine below_drewN ?_ _) | (with_reducible refine le_drewN _ ?_) | (with_reducible refine Below.setCell ?_ ?_ _) | (with_reducible exact Nat.le_refl _) | (with_reducible refine le_ext _ ?_) | (with_reducible refine le_alloc _ ?_) | (with_reducible refine le_setCell _ _ ?_) | (with_reducible refine le_drew ?_) | omega | (simp; done) | (simp; omega)))), (by (repeat' (first | (with_reducible exact Below.refl _ _) | (with_reducible assumption) | (with_reducible refine below_ext _ ?_ ?_) | (with_reducible refine Below.alloc ?_ ?_ _) | (with_reducible refine Below.drew ?_) | (with_reducible refine below_drewN ?_ _) | (with_reducible refine le_drewN _ ?_) | (with_reducible refine Below.setCell ?_ ?_ _) | (with_reducible exact Nat.le_refl _) | (with_reducible refine le_ext _ ?_) | (with_reducible refine le_alloc _ ?_) | (with_reducible refine le_setCell _ _ ?_) | (with_reducible refine le_drew ?_) | omega | (simp; done) | (simp; omega))))⟩
end Go.Proofs.Ytelhidonhldjeaa
