
/- The program's hull: Reverse, Grow, Concat, hull. -/
/- The program's Hull and HullArea. -/
import Derived.Test.YtnddfdhfefconaaGreatDoorSHull
import Derived.Test.YtnddfdhfefconaaGreatDoorSorted
import Derived.Test.YtnddfdhfefconaaGreatDoorSlayG
import Derived.Test.YtnddfdhfefconaaGreatDoorRelM
set_option linter.unusedVariables false
set_option linter.unusedSimpArgs false
namespace Go.Proofs.YtnddfdhfefconaaGreatDoor
open Go.RowKit Go.Shelf Go.Sort Go.Lib

theorem own_same {w w' : World} {base : Nat} {v : Value} {ps : List Pt} (h : OwnP w base v ps) (hb : ∀ k, v.ownBlock = some k → w'.heap[k]? = w.heap[k]?) : OwnP w' base v ps := by
  unfold OwnP at h ⊢
  rcases h with ⟨h1, ⟨hv, h2⟩ | ⟨g, cap, cur, hv, hg, hgg, hr⟩⟩
  · exact ⟨h1, .inl ⟨hv, h2⟩⟩
  · exact ⟨h1, .inr ⟨g, cap, cur, hv, hg, by rw [hb g (by rw [hv]; rfl)]; exact hgg, hr⟩⟩
theorem rev_any (ps : List Pt) (n c base g m : Nat) (f : Nat → Value) (w : World) (hl : ps.length = n) (hm : n ≤ 1000) (hbase : base ≤ g) (hr : RowAt w g 41 m f) (hm2 : ps.length * 2 ≤ m) (hf : ∀ j, j < ps.length * 2 → f j = ptCell ps j) :
    Calls Tryz.prog 55 #[.slice (some ⟨g, 0, none⟩) n c] w fun e w' => e = .returned (.tuple #[]) ∧ PtsAt w' w'.heap.size (some ⟨g, 0, none⟩) ps.reverse ∧ (∀ k, k ≠ g → w'.heap[k]? = w.heap[k]?) ∧ Below base w w' := by
  obtain ⟨cur, hcur, hsz, hcs⟩ := hr
  have glt := heap_lt hcur
  have hH : HoldsK encPt 2 w g 0 ps.toArray := by
    intro j hj
    have hj' : j < ps.length * 2 := by simpa using hj
    refine ⟨?_, heap_frozen hcur _⟩
    rw [id_eq, flat_get ps j hj', Nat.zero_add, heap_cell hcur, hcs j (by omega), hf j hj']
    obtain ⟨q1, q2⟩ := ptVals_at ps (j / 2) (by omega)
    have hjl : j < (ptVals ps).length := by rw [ptVals_len]; exact hj'
    unfold ptCell
    rcases Nat.mod_two_eq_zero_or_one j with hm | hm
    · rw [show j / 2 * 2 = j from by omega] at q1
      rw [List.getElem?_eq_getElem hjl] at q1
      rw [if_pos hm, ← q1]
    · rw [show j / 2 * 2 + 1 = j from by omega] at q2
      rw [List.getElem?_eq_getElem hjl] at q2
      rw [if_neg (by omega), ← q2]
  have hcon := AnyQ.slices_Reverse Tryz.revPt 2 Tryz.isAgg41 Tryz.sizeOf41 encPt (fun _ => rfl) (fun x v hv => by simp [encPt] at hv; rcases hv with rfl | rfl <;> rfl) g 0 c ps.toArray w hH (by simp; omega)
  simp only [List.size_toArray, hl] at hcon
  refine hcon.mono ?_
  rintro e w' ⟨rfl, q, rfl⟩
  have er : ps.toArray.reverse = ps.reverse.toArray := by simp
  rw [er]
  have hcell : (putRowK encPt 2 (Sort.ahead w q) g 0 ps.reverse.toArray).heap[g]? = some (.cells (putCells id 0 (flatK encPt 2 ps.reverse.toArray) cur) 41 (0, 0)) := by
    show ((Sort.ahead w q).heap.modify g _)[g]? = _
    rw [Array.getElem?_modify, if_pos rfl]
    show Option.map _ (w.heap[g]?) = _
    rw [hcur]; rfl
  have hoth : ∀ k, k ≠ g → (putRowK encPt 2 (Sort.ahead w q) g 0 ps.reverse.toArray).heap[k]? = w.heap[k]? := fun k hk => by
    show ((Sort.ahead w q).heap.modify g _)[k]? = _
    rw [Array.getElem?_modify, if_neg (by omega)]; rfl
  have hs : (putRowK encPt 2 (Sort.ahead w q) g 0 ps.reverse.toArray).heap.size = w.heap.size := by rw [size_putRowK]; rfl
  refine ⟨rfl, fun h0 => ⟨g, 0, rfl, by rw [hs]; exact glt, fun i hi => ?_⟩, hoth, ⟨rfl, rfl, rfl, by rw [hs]; exact Nat.le_refl _, fun k hk => hoth k (by omega)⟩⟩
  rw [Nat.zero_add, heap_cell hcell, heap_cell hcell]
  have hi2 : i < ps.length := by rw [← List.length_reverse]; exact hi
  obtain ⟨q1, q2⟩ := ptVals_at ps.reverse i hi
  have e1 := flat_get ps.reverse (i * 2) (by omega)
  have e2 := flat_get ps.reverse (i * 2 + 1) (by omega)
  have hj1 : i * 2 < (ptVals ps.reverse).length := by rw [ptVals_len]; omega
  have hj2 : i * 2 + 1 < (ptVals ps.reverse).length := by rw [ptVals_len]; omega
  rw [List.getElem?_eq_getElem hj1] at q1
  rw [List.getElem?_eq_getElem hj2] at q2
  injection q1 with q1
  injection q2 with q2
  rw [← q1, ← q2, ← e1, ← e2]
  unfold putCells
  have z1 : i * 2 < cur.size := by omega
  have z2 : i * 2 + 1 < cur.size := by omega
  constructor
  · rw [Array.getElem?_mapIdx, Array.getElem?_eq_getElem z1]
    simp [size_flatK]; omega
  · rw [Array.getElem?_mapIdx, Array.getElem?_eq_getElem z2]
    simp [size_flatK]; omega
theorem growNil_any (n : Nat) (w : World) (h0 : 0 < n) (hm : n ≤ 2000) :
    Calls Tryz.prog 108 #[.slice none 0 0, .int .i64 n] w fun e w' => ∃ v, e = .returned v ∧ OwnP w' w.heap.size v [] ∧ Below w.heap.size w w' := by
  obtain ⟨i0, hi, hz0, hz1, hz2⟩ := info_parts ptElt.inf
  have hcon := Any8.slices_Grow_grow Tryz.growPt i0 _ hi hz0 (by omega) none 0 0 n [] w (Nat.le_refl _) (by omega) (by rw [hz2]; omega) (by omega) (by simp) (fun _ => rfl) (fun a ha => by cases ha)
  refine hcon.mono ?_
  rintro e w' ⟨rfl, rfl⟩
  have g1 := grownCap_ge w (0 + n) 0 41
  have g2 := grownCap_le_maxLen w (0 + n) 0 41 (by unfold maxLen; omega)
  refine ⟨_, rfl, OwnP.empty w.drew w.heap.size (grownCap w (0 + n) 0 41) (Nat.le_refl _) _ ?_ g2, (by (repeat' (first | (with_reducible first | exact Below.refl _ _ | assumption | refine below_ext _ ?_ ?_ | refine Below.alloc ?_ ?_ _ | refine Below.drew ?_ | refine below_drewN ?_ _ | refine le_drewN _ ?_ | refine Below.setCell ?_ ?_ _ | exact Nat.le_refl _ | refine le_ext _ ?_ | refine le_alloc _ ?_ | refine le_setCell _ _ ?_ | refine le_drew ?_) | omega | (simp; done) | (simp; omega))))⟩
  rw [show Tryz.growPt_ren.t 25 = 41 from rfl, Array.size_append, Array.size_append, size_zeroCells, size_zeroCells, ptElt.zs]
  generalize grownCap w (0 + n) 0 41 = G at *
  show 0 + (0 + n - 0) * 2 + (G - (0 + n)) * 2 = G * 2
  omega
set_option maxHeartbeats 1000000 in
theorem concat_any (l1 l2 : List Pt) (A1 A2 : Option Addr) (n1 c1 n2 c2 B o c : Nat) (w : World) (h1 : l1.length = n1) (h2 : l2.length = n2) (hm : n1 + n2 ≤ 2000) (h0 : 0 < n1 + n2)
    (hB : B < w.heap.size) (k0 : w.cell? ⟨B, o, none⟩ = some (.slice A1 n1 c1)) (k1 : w.cell? ⟨B, o + 1, none⟩ = some (.slice A2 n2 c2)) (s1 : PtsAt w w.heap.size A1 l1) (s2 : PtsAt w w.heap.size A2 l2) (F1 : Plain A1 n1) (F2 : Plain A2 n2) :
    Calls Tryz.prog 57 #[.slice (some ⟨B, o, none⟩) 2 c] w fun e w' => ∃ v, e = .returned v ∧ OwnP w' w.heap.size v (l1 ++ l2) ∧ ∃ x, w' = ext w x := by
  have HN1 := hide h1
  have HN2 := hide h2
  have HF1 := hide F1
  have HF2 := hide F2
  have HS1 := hide s1
  have HS2 := hide s2
  clear h1 h2 F1 F2 s1 s2
  go_enter Tryz.func57, Tryz.ntmps57
  go_wp2
  go_loopw [3, 11] (fun u3 u11 wr => ∃ k : Nat, k ≤ 2 ∧ u11 = .int .i64 k ∧ u3 = .int .i64 ((if k = 0 then 0 else if k = 1 then n1 else n1 + n2 : Nat) : Int) ∧ wr = w) (fun _ u11 _ => 2 - (intOf u11).toNat)
  case atStart => exact ⟨0, by omega, rfl, rfl, rfl⟩
  case round =>
    obtain ⟨k, hk, rfl, rfl, hwz⟩ := hrel
    have hwz2 := hwz.symm
    clear hwz
    subst hwz2
    match k, hk with
    | 0, _ =>
      rw [if_pos rfl]
      go_wp2
      exact ⟨⟨1, by omega, rfl, by simp, trivial⟩, by simp [intOf]⟩
    | 1, _ =>
      rw [if_neg (by omega), if_pos rfl]
      go_wp2
      exact ⟨⟨2, by omega, rfl, by simp, trivial⟩, by simp [intOf]⟩
    | 2, _ =>
      rw [if_neg (by omega), if_neg (by omega)]
      go_wp2_with fail
      refine (growNil_any (n1 + n2) _ h0 hm).mono ?_
      rintro e w1 ⟨v1, rfl, hown1, hb1⟩
      obtain ⟨A3, n3, c3, rfl⟩ := hown1.slice
      have O1 := hide hown1
      have hs1 := hb1.size
      clear hown1
      go_wp2
      go_loopw [6, 27] (fun u6 u27 wr => ∃ k : Nat, k ≤ 2 ∧ u27 = .int .i64 k ∧ OwnP wr w.heap.size u6 (if k = 0 then [] else if k = 1 then l1 else l1 ++ l2) ∧ Below w.heap.size w wr) (fun _ u27 _ => 2 - (intOf u27).toNat)
      case atStart => exact ⟨0, by omega, rfl, O1.out, hb1⟩
      case round =>
        obtain ⟨k, hk, rfl, hown, hbel⟩ := hrel
        obtain ⟨A0, n0, c0, rfl⟩ := hown.slice
        have hsz := hbel.size
        have z0 := (hbel.cell (p := ⟨B, o, none⟩) hB).trans k0
        have z1 := (hbel.cell (p := ⟨B, o + 1, none⟩) hB).trans k1
        match k, hk with
        | 0, _ =>
          rw [if_pos rfl] at hown
          have O0 := hide hown
          clear hown
          go_wp2_with (at_builtin; refine app_pts rfl (.tmp 31) (.tmp 32) rfl w.heap.size (.slice A0 n0 c0) [] rfl O0.out A1 n1 c1 w.heap.size l1 rfl HN1.out (HS1.out.below hbel) HF1.out.1 HF1.out.2 (Nat.zero_le _) (by omega) hsz ?_; intro v7 w7 hown7 hb7 hat7 hgr7; obtain ⟨A7, n7, c7, rfl⟩ := hown7.slice; have O7 := hide hown7; clear hown7 hat7 hgr7)
          exact ⟨⟨1, by omega, rfl, O7.out, Below.trans hbel hb7⟩, by simp [intOf]⟩
        | 1, _ =>
          rw [if_neg (by omega), if_pos rfl] at hown
          have O0 := hide hown
          clear hown
          go_wp2_with (at_builtin; refine app_pts rfl (.tmp 31) (.tmp 32) rfl w.heap.size (.slice A0 n0 c0) l1 rfl O0.out A2 n2 c2 w.heap.size l2 rfl HN2.out (HS2.out.below hbel) HF2.out.1 HF2.out.2 (by rw [HN1.out]; omega) (by omega) hsz ?_; intro v7 w7 hown7 hb7 hat7 hgr7; obtain ⟨A7, n7, c7, rfl⟩ := hown7.slice; have O7 := hide hown7; clear hown7 hat7 hgr7)
          exact ⟨⟨2, by omega, rfl, O7.out, Below.trans hbel hb7⟩, by simp [intOf]⟩
        | 2, _ =>
          rw [if_neg (by omega), if_neg (by omega)] at hown
          have O0 := hide hown
          clear hown
          go_wp2
          go_ret
          exact ⟨_, rfl, O0.out, ext_mk hbel⟩
theorem halfL_two {s : List Pt} (h : 2 ≤ s.length) : 2 ≤ (halfL s).length := by
  have hne : s ≠ [] := fun e => by rw [e] at h; simp at h
  unfold halfL
  rw [List.length_reverse, ← List.dropLast_concat_getLast hne, halfR_snoc, List.length_cons]
  have h2 : s.dropLast ≠ [] := fun e => by have := congrArg List.length e; rw [List.length_dropLast] at this; simp at this; omega
  have h3 : halfR [] s.dropLast ≠ [] := fun e => by have := halfL_pos h2; unfold halfL at this; rw [List.length_reverse, e] at this; simp at this
  have := popTo_len (s.getLast hne) _ h3
  omega
set_option maxHeartbeats 1000000 in
theorem hull_any (ps : List Pt) (A : Option Addr) (n c : Nat) (w : World) (hn : ps.length = n) (hm : n ≤ 1000) (hb : InB ps) (hs : PtsAt w w.heap.size A ps) (hA : Plain A n) :
    Calls Tryz.prog 31 #[.slice A n c] w fun e w' => ∃ A' n' c', e = .returned (.slice A' n' c') ∧ (hullOf ps).length = n' ∧ n' ≤ c' ∧ c' ≤ 9223372036854775807 ∧ PRow w' w.heap.size A' (hullOf ps) ∧ Plain A' n' ∧ ∃ x, w' = ext w x := by
  have SL := hide (sortP_len ps)
  have HN := hide hn
  go_enter Tryz.func31, Tryz.ntmps31
  go_wp2_with fail
  refine (sorted_any ps A n c _ hn hm hs hA).mono ?_
  rintro e w1 ⟨A1, n1, c1, rfl, hl1, hnc1, hcm1, hpr1, hpl1, x1, rfl⟩
  have P1 := hide hpr1
  have F1 := hide hpl1
  have hs1 := ext_size w x1
  have hm1 : n1 ≤ 1000 := by have := SL.out; omega
  have HL1 := hide hl1
  clear hn hs hpr1 hpl1 hA
  by_cases h3 : n1 < 2
  · have HT : Hid (sortP ps = hullOf ps) := hide (by unfold hullOf; rw [if_pos (by rw [HL1.out]; exact h3)])
    clear hl1
    go_wp2
    go_ret
    exact ⟨_, _, _, rfl, by rw [← HT.out]; exact HL1.out, hnc1, hcm1, by rw [← HT.out]; exact P1.out, F1.out, (ext_mk (by (repeat' (first | (with_reducible first | exact Below.refl _ _ | assumption | refine below_ext _ ?_ ?_ | refine Below.alloc ?_ ?_ _ | refine Below.drew ?_ | refine below_drewN ?_ _ | refine le_drewN _ ?_ | refine Below.setCell ?_ ?_ _ | exact Nat.le_refl _ | refine le_ext _ ?_ | refine le_alloc _ ?_ | refine le_setCell _ _ ?_ | refine le_drew ?_) | omega | (simp; done) | (simp; omega)))))⟩
  · have HT := hide (hullOf_more (l := ps) (by rw [HL1.out]; omega))
    have hne : sortP ps ≠ [] := fun h => by rw [h] at hl1; simp at hl1; omega
    have LP1 := hide (halfL_pos hne)
    have LP2 := hide (halfL_pos (s := (sortP ps).reverse) (by simpa using hne))
    clear hne hl1
    have hd : decide ((n1 : Int) < 2) = false := decide_eq_false (by omega)
    generalize hW1 : ext w x1 = w1 at *
    have HB1 := hide (show Below w.heap.size w w1 from by rw [← hW1]; exact ext_below _ _)
    clear hW1
    obtain ⟨g, m, f, rfl, hg, hgm, hgr, hgf⟩ := P1.out (by rw [HL1.out]; omega)
    have G1 := hide hgr
    have G2 := hide hgf
    have glt := hgr.lt
    clear hgr hgf
    go_wp2_with fail
    refine (half_any (sortP ps) _ n1 c1 _ HL1.out hm1 hb.sort P1.out.pts).mono ?_
    rintro e w2 ⟨v2, rfl, hown2, x2, rfl⟩
    obtain ⟨A2, n2, c2, rfl⟩ := hown2.slice
    generalize hW2 : ext w1 x2 = w2 at *
    have HB2 := hide (show Below w1.heap.size w1 w2 from by rw [← hW2]; exact ext_below _ _)
    clear hW2
    have hs2 := HB2.out.size
    have O2 := hide hown2
    clear hown2
    have G1b := hide (G1.out.below HB2.out glt)
    go_wp2_with fail
    refine (rev_any (sortP ps) n1 c1 w.heap.size g m f _ HL1.out hm1 hg G1b.out hgm G2.out).mono ?_
    rintro e w3 ⟨rfl, hp3, ho3, hb3⟩
    have HB3 := hide hb3
    have HO3 := hide ho3
    have P3 := hide hp3
    have hs3 := hb3.size
    clear hb3 ho3 hp3
    have HL3 : Hid ((sortP ps).reverse.length = n1) := hide (by rw [List.length_reverse, HL1.out])
    go_wp2_with fail
    refine (half_any (sortP ps).reverse _ n1 c1 _ HL3.out hm1 hb.sort.rev P3.out).mono ?_
    rintro e w4 ⟨v4, rfl, hown4, x4, rfl⟩
    obtain ⟨A4, n4, c4, rfl⟩ := hown4.slice
    generalize hW4 : ext w3 x4 = w4 at *
    have HB4 := hide (show Below w3.heap.size w3 w4 from by rw [← hW4]; exact ext_below _ _)
    clear hW4
    have hs4 := HB4.out.size
    have O2a := own_same (w' := w3) O2.out (fun k hk => HO3.out k (by have := O2.out.lt k hk; omega))
    have O2b := O2a.below (W := w4) HB4.out
    have l2 := O2b.pts.1
    have l4 := hown4.pts.1
    obtain ⟨m2, rfl⟩ : ∃ m, n2 = m + 1 := ⟨n2 - 1, by have := LP1.out; omega⟩
    obtain ⟨m4, rfl⟩ : ∃ m, n4 = m + 1 := ⟨n4 - 1, by have := LP2.out; omega⟩
    obtain ⟨g2, rfl, ga, gb, _, _⟩ := O2b.head (by omega)
    obtain ⟨g4, rfl, gc, gd, _, _⟩ := hown4.head (by omega)
    have c2a := O2b.pts.2.1
    have c2b := O2b.pts.2.2.1
    have c4a := hown4.pts.2.1
    have c4b := hown4.pts.2.2.1
    have T2 := O2b.take (k := m2) (by omega) (fun h => by cases h)
    have T4 := hown4.take (k := m4) (by omega) (fun h => by cases h)
    rw [take_dropLast l2] at T2
    rw [take_dropLast l4] at T4
    have T2H : Hid (∀ o, PtsAt (w4.drew.alloc o) (w4.drew.alloc o).heap.size (some ⟨g2, 0, none⟩) (halfL (sortP ps)).dropLast) := hide (fun o => (T2.below (W := w4.drew.alloc o) (by (repeat' (first | (with_reducible first | exact Below.refl _ _ | assumption | refine below_ext _ ?_ ?_ | refine Below.alloc ?_ ?_ _ | refine Below.drew ?_ | refine below_drewN ?_ _ | refine le_drewN _ ?_ | refine Below.setCell ?_ ?_ _ | exact Nat.le_refl _ | refine le_ext _ ?_ | refine le_alloc _ ?_ | refine le_setCell _ _ ?_ | refine le_drew ?_) | omega | (simp; done) | (simp; omega))))).pts.2.2.2)
    have T4H : Hid (∀ o, PtsAt (w4.drew.alloc o) (w4.drew.alloc o).heap.size (some ⟨g4, 0, none⟩) (halfL (sortP ps).reverse).dropLast) := hide (fun o => (T4.below (W := w4.drew.alloc o) (by (repeat' (first | (with_reducible first | exact Below.refl _ _ | assumption | refine below_ext _ ?_ ?_ | refine Below.alloc ?_ ?_ _ | refine Below.drew ?_ | refine below_drewN ?_ _ | refine le_drewN _ ?_ | refine Below.setCell ?_ ?_ _ | exact Nat.le_refl _ | refine le_ext _ ?_ | refine le_alloc _ ?_ | refine le_setCell _ _ ?_ | refine le_drew ?_) | omega | (simp; done) | (simp; omega))))).pts.2.2.2)
    have LL2 : Hid ((halfL (sortP ps)).dropLast.length = m2) := hide (by rw [List.length_dropLast, l2]; rfl)
    have LL4 : Hid ((halfL (sortP ps).reverse).dropLast.length = m4) := hide (by rw [List.length_dropLast, l4]; rfl)
    have LM : m2 + m4 ≤ 2000 := by have := halfL_len (sortP ps); have := halfL_len (sortP ps).reverse; have := HL1.out; have := HL3.out; omega
    have LM0 : 0 < m2 + m4 := by have := halfL_two (s := sortP ps) (by rw [HL1.out]; omega); omega
    have LB : Hid (∀ o : Obj, w4.heap.size < (w4.drew.alloc o).heap.size) := hide (fun o => by simp)
    unfold maxLen at c2b c4b
    clear T2 T4 hown4 O2a O2b O2 l2 l4
    have e1 : IntKind.i64.wrap ((m2 : Int) + 1 - 1) = m2 := by rw [Int.add_sub_cancel]; exact IntWalk.i64_in _ (by omega)
    have e2 : IntKind.i64.wrap ((m4 : Int) + 1 - 1) = m4 := by rw [Int.add_sub_cancel]; exact IntWalk.i64_in _ (by omega)
    have e3 : IntKind.i64.wrap (m2 : Int) = m2 := IntWalk.i64_in _ (by omega)
    have e4 : IntKind.i64.wrap (m4 : Int) = m4 := IntWalk.i64_in _ (by omega)
    have q1 : (m2 : Int) ≤ (c2 : Int) := by omega
    have q2 : (m4 : Int) ≤ (c4 : Int) := by omega
    go_wp2_with fail
    go_region_held3 (fun W => True) (exact trivial) (first | (go_at_call 57; refine (concat_any (halfL (sortP ps)).dropLast (halfL (sortP ps).reverse).dropLast (some ⟨g2, 0, none⟩) (some ⟨g4, 0, none⟩) m2 c2 m4 c4 w4.heap.size 0 _ _ LL2.out LL4.out LM LM0 (LB.out _) ((heap_cell (heap_alloc_new _ _) 0).trans rfl) ((heap_cell (heap_alloc_new _ _) 1).trans rfl) (T2H.out _) (T4H.out _) Plain.some Plain.some).mono ?_; rintro e w7 ⟨v7, rfl, hown7, hw7⟩; obtain ⟨A7, n7, c7, rfl⟩ := hown7.slice; have O7 := hide hown7; have F7 := hide hown7.form; have B7 := hide hw7; have q71 := hown7.pts.2.1; have q72 := hown7.pts.2.2.1; clear hown7 hw7) | (go_at_call 56; refine (clipP_any _ _ _ _ q71 q72 F7.out.1).mono ?_; rintro e w' ⟨rfl, rfl⟩))
    go_wp2_with fail
    go_ret
    have HT2 := HT.out
    unfold lowL upL at HT2
    have z4 : w.heap.size ≤ w4.heap.size := by omega
    refine ⟨_, _, _, rfl, by rw [← HT2]; exact O7.out.pts.1, Nat.le_refl _, by unfold maxLen at q72; omega, by rw [← HT2]; exact O7.out.prow.2.more (by simp; omega), F7.out.1, ?_⟩
    obtain ⟨x7, rfl⟩ := B7.out
    exact ext_mk ((((HB1.out.trans (HB2.out.mono hs1)).trans HB3.out).trans (HB4.out.mono (by omega))).trans (by (repeat' (first | (with_reducible first | exact Below.refl _ _ | assumption | refine below_ext _ ?_ ?_ | refine Below.alloc ?_ ?_ _ | refine Below.drew ?_ | refine below_drewN ?_ _ | refine le_drewN _ ?_ | refine Below.setCell ?_ ?_ _ | exact Nat.le_refl _ | refine le_ext _ ?_ | refine le_alloc _ ?_ | refine le_setCell _ _ ?_ | refine le_drew ?_) | omega | (simp; done) | (simp; omega)))))
end Go.Proofs.YtnddfdhfefconaaGreatDoor
namespace Go.Proofs.YtnddfdhfefconaaGreatDoor
open Go.RowKit

def hullL (ps : List Pt) : List Pt := if listOk ps = true then hullOf ps else []
def hullArea (ps : List Pt) : Int := if listOk ps = true then areaL (hullOf ps) else -1
set_option maxHeartbeats 1000000 in
theorem iHull_any (ps : List Pt) (A : Option Addr) (n c : Nat) (w : World) (hn : ps.length = n) (hm : n ≤ 2000000) (hpl : Plain A n) (hs : PtsAt w w.heap.size A ps) :
    Calls Tryz.prog 12 #[.slice A n c] w fun e w' => ∃ A' n' c', e = .returned (.slice A' n' c') ∧ (hullL ps).length = n' ∧ n' ≤ c' ∧ c' ≤ 9223372036854775807 ∧ PRow w' w.heap.size A' (hullL ps) ∧ Plain A' n' ∧ ∃ x, w' = ext w x := by
  have HC := hide (listOk_any ps A n c w hn hm hs)
  by_cases h : listOk ps = true
  · obtain ⟨hib, hle⟩ := listOk_InB h
    have HH := hide (fun (W : World) (hb : Below w.heap.size w W) => hull_any ps A n c W hn (by omega) hib (hs.to hb) hpl)
    have HE : Hid (hullL ps = hullOf ps) := hide (if_pos h)
    rw [h] at HC
    have HC2 := hide HC.out
    rw [HE.out]
    clear HC h hib hn hs
    go_enter Tryz.func12, Tryz.ntmps12
    go_wp2_with fail
    refine HC2.out.mono ?_
    rintro e w' ⟨rfl, hw'⟩; have hzy := ext_sz hw'; obtain ⟨y, rfl⟩ := hw'; (try simp at hzy)
    go_wp2_with fail
    refine (HH.out _ (by (repeat' (first | (with_reducible first | exact Below.refl _ _ | assumption | refine below_ext _ ?_ ?_ | refine Below.alloc ?_ ?_ _ | refine Below.drew ?_ | refine below_drewN ?_ _ | refine le_drewN _ ?_ | refine Below.setCell ?_ ?_ _ | exact Nat.le_refl _ | refine le_ext _ ?_ | refine le_alloc _ ?_ | refine le_setCell _ _ ?_ | refine le_drew ?_) | omega | (simp; done) | (simp; omega))))).mono ?_
    rintro e w4 ⟨A4, n4, c4, rfl, l4, q4, q4b, p4, f4, x4, rfl⟩
    have K := hide (And.intro l4 (And.intro p4 f4))
    clear l4 p4 f4
    go_wp2
    go_ret
    exact ⟨_, _, _, rfl, K.out.1, q4, q4b, K.out.2.1.more (by omega), K.out.2.2, (ext_mk (by (repeat' (first | (with_reducible first | exact Below.refl _ _ | assumption | refine below_ext _ ?_ ?_ | refine Below.alloc ?_ ?_ _ | refine Below.drew ?_ | refine below_drewN ?_ _ | refine le_drewN _ ?_ | refine Below.setCell ?_ ?_ _ | exact Nat.le_refl _ | refine le_ext _ ?_ | refine le_alloc _ ?_ | refine le_setCell _ _ ?_ | refine le_drew ?_) | omega | (simp; done) | (simp; omega)))))⟩
  · have h := eq_false_of_ne_true h
    have HE : Hid (hullL ps = []) := hide (if_neg (by rw [h]; simp))
    rw [h] at HC
    have HC2 := hide HC.out
    rw [HE.out]
    clear HC h hn hs
    go_enter Tryz.func12, Tryz.ntmps12
    go_wp2_with fail
    refine HC2.out.mono ?_
    rintro e w' ⟨rfl, hw'⟩; have hzy := ext_sz hw'; obtain ⟨y, rfl⟩ := hw'; (try simp at hzy)
    go_wp2
    go_ret
    exact ⟨_, _, _, rfl, rfl, Nat.le_refl _, by omega, PRow.nil _ _ _, Plain.none rfl, (ext_mk (by (repeat' (first | (with_reducible first | exact Below.refl _ _ | assumption | refine below_ext _ ?_ ?_ | refine Below.alloc ?_ ?_ _ | refine Below.drew ?_ | refine below_drewN ?_ _ | refine le_drewN _ ?_ | refine Below.setCell ?_ ?_ _ | exact Nat.le_refl _ | refine le_ext _ ?_ | refine le_alloc _ ?_ | refine le_setCell _ _ ?_ | refine le_drew ?_) | omega | (simp; done) | (simp; omega)))))⟩
set_option maxHeartbeats 1000000 in
theorem iHullArea_any (ps : List Pt) (A : Option Addr) (n c : Nat) (w : World) (hn : ps.length = n) (hm : n ≤ 2000000) (hpl : Plain A n) (hs : PtsAt w w.heap.size A ps) :
    Calls Tryz.prog 90 #[.slice A n c] w fun e w' => e = .returned (.int .i64 (hullArea ps)) ∧ ∃ x, w' = ext w x := by
  have HC := hide (listOk_any ps A n c w hn hm hs)
  by_cases h : listOk ps = true
  · obtain ⟨hib, hle⟩ := listOk_InB h
    have HH := hide (fun (W : World) (hb : Below w.heap.size w W) => hull_any ps A n c W hn (by omega) hib (hs.to hb) hpl)
    have HE : Hid (hullArea ps = areaL (hullOf ps)) := hide (if_pos h)
    have HLE := hide (hullOf_len' ps)
    have HIB : Hid (∀ p ∈ hullOf ps, (-100000 ≤ p.x ∧ p.x ≤ 100000) ∧ -100000 ≤ p.y ∧ p.y ≤ 100000) := hide (fun p hp => hib p (hullOf_sub hp))
    rw [h] at HC
    have HC2 := hide HC.out
    clear HC h hib hs
    go_enter Tryz.func90, Tryz.ntmps90
    go_wp2_with fail
    refine HC2.out.mono ?_
    rintro e w' ⟨rfl, hw'⟩; have hzy := ext_sz hw'; obtain ⟨y, rfl⟩ := hw'; (try simp at hzy)
    go_wp2_with fail
    refine (HH.out _ (by (repeat' (first | (with_reducible first | exact Below.refl _ _ | assumption | refine below_ext _ ?_ ?_ | refine Below.alloc ?_ ?_ _ | refine Below.drew ?_ | refine below_drewN ?_ _ | refine le_drewN _ ?_ | refine Below.setCell ?_ ?_ _ | exact Nat.le_refl _ | refine le_ext _ ?_ | refine le_alloc _ ?_ | refine le_setCell _ _ ?_ | refine le_drew ?_) | omega | (simp; done) | (simp; omega))))).mono ?_
    rintro e w4 ⟨A4, n4, c4, rfl, l4, q4, q4b, p4, f4, x4, rfl⟩
    have L4 := hide l4
    have P4 := hide p4.pts
    have n4m : n4 ≤ 1000 := by have := HLE.out; omega
    clear l4 p4 f4
    go_wp2_with fail
    refine (area_any (hullOf ps) A4 n4 c4 _ L4.out n4m HIB.out P4.out).mono ?_
    rintro e w' ⟨rfl, hw'⟩; have hzy5 := ext_sz hw'; obtain ⟨y5, rfl⟩ := hw'; (try simp at hzy5)
    go_wp2
    go_ret
    exact ⟨ret_int HE.out.symm, (ext_mk (by (repeat' (first | (with_reducible first | exact Below.refl _ _ | assumption | refine below_ext _ ?_ ?_ | refine Below.alloc ?_ ?_ _ | refine Below.drew ?_ | refine below_drewN ?_ _ | refine le_drewN _ ?_ | refine Below.setCell ?_ ?_ _ | exact Nat.le_refl _ | refine le_ext _ ?_ | refine le_alloc _ ?_ | refine le_setCell _ _ ?_ | refine le_drew ?_) | omega | (simp; done) | (simp; omega)))))⟩
  · have h := eq_false_of_ne_true h
    have HE : Hid (hullArea ps = -1) := hide (if_neg (by rw [h]; simp))
    rw [h] at HC
    have HC2 := hide HC.out
    clear HC h hn hs
    go_enter Tryz.func90, Tryz.ntmps90
    go_wp2_with fail
    refine HC2.out.mono ?_
    rintro e w' ⟨rfl, hw'⟩; have hzy := ext_sz hw'; obtain ⟨y, rfl⟩ := hw'; (try simp at hzy)
    go_wp2
    go_ret
    exact ⟨ret_int HE.out.symm, (ext_mk (by (repeat' (first | (with_reducible first | exact Below.refl _ _ | assumption | refine below_ext _ ?_ ?_ | refine Below.alloc ?_ ?_ _ | refine Below.drew ?_ | refine below_drewN ?_ _ | refine le_drewN _ ?_ | refine Below.setCell ?_ ?_ _ | exact Nat.le_refl _ | refine le_ext _ ?_ | refine le_alloc _ ?_ | refine le_setCell _ _ ?_ | refine le_drew ?_) | omega | (simp; done) | (simp; omega)))))⟩
end Go.Proofs.YtnddfdhfefconaaGreatDoor
