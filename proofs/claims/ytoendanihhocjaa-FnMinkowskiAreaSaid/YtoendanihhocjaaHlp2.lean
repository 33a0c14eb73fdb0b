
/- More of the statements' own helpers on points. -/
import Derived.Test.YtoendanihhocjaaHelp
import Derived.Test.YtoendanihhocjaaSHull
import Derived.Test.YtoendanihhocjaaTri
set_option linter.unusedVariables false
set_option linter.unusedSimpArgs false
namespace Go.Proofs.Ytoendanihhocjaa
open Go.RowKit

theorem pts_eq2 {ps qs : List Pt} (h : ps.length = qs.length) (hi : ∀ i, i < ps.length → eqP (pX ps i) (pY ps i) (pX qs i) (pY qs i) = true) : ps = qs := by
  refine List.ext_getElem h fun i h1 h2 => ?_
  obtain ⟨a, b⟩ := eqP_iff.1 (hi i h1)
  rw [← gp_lt h1, ← gp_lt h2, gp_mk, gp_mk, a, b]
set_option maxHeartbeats 400000 in
theorem equalPoints_any (ps qs : List Pt) (A A' : Option Addr) (n c n' c' : Nat) (w : World) (hn : ps.length = n) (hn' : qs.length = n') (hm : n ≤ 2000000) (hm' : n' ≤ 2000000) (hs : PtsAt w w.heap.size A ps) (hs' : PtsAt w w.heap.size A' qs) :
    Calls Try.prog 27 #[.slice A n c, .slice A' n' c'] w fun e w' => e = .returned (.bool (decide (ps = qs))) ∧ ∃ m, w' = ext w m := by
  by_cases hnn : n = n'
  · subst hnn
    have HN := hide hn
    have HN' := hide hn'
    have N := @run_nePt
    clear hn hn'
    go_enter Try.func27, Try.ntmps27
    go_wp2
    go_loopw [5] (fun v wr => ∃ k : Nat, k ≤ n ∧ v = .int .i64 k ∧ Hid (∀ j, j < k → eqP (pX ps j) (pY ps j) (pX qs j) (pY qs j) = true) ∧ ∃ x, wr = ext w x) (fun v _ => n - (intOf v).toNat)
    case atStart => exact ⟨0, Nat.zero_le _, rfl, fun j hj => by omega, ext_same w⟩
    case round =>
      obtain ⟨k, hk, rfl, hp, x, rfl⟩ := hrel
      by_cases hlt : k < n
      · obtain ⟨b, o, rfl, hb, hc⟩ := hs (by rw [HN.out]; omega)
        obtain ⟨hx, hy⟩ := hc k (by rw [HN.out]; omega)
        obtain ⟨b', o', rfl, hb', hc'⟩ := hs' (by rw [HN'.out]; omega)
        obtain ⟨hx', hy'⟩ := hc' k (by rw [HN'.out]; omega)
        have hsz := ext_size w x
        clear hc hc'
        cases ht : eqP (pX ps k) (pY ps k) (pX qs k) (pY qs k)
        · have R := hide (decide_eq_false (p := ps = qs) (fun h => by rw [h, eqP_iff.2 ⟨rfl, rfl⟩] at ht; cases ht))
          go_wp2
          refine wp_region_ext (by kernel_rfl) (by kernel_rfl) ?_
          repeat (go_big_quiet_step (fail))
          refine wpQuiet_nil ?_
          rintro _ hnq
          have hzq := ext_sz hnq
          obtain ⟨nq, rfl⟩ := hnq
          (try simp at hzq)
          go_wp2
          go_ret
          exact ⟨ret_bool R.out.symm, (ext_mk (by (repeat' (first | (with_reducible exact Below.refl _ _) | (with_reducible assumption) | (with_reducible refine below_ext _ ?_ ?_) | (with_reducible refine Below.alloc ?_ ?_ _) | (with_reducible refine Below.drew ?_) | (with_reducible refine below_drewN ?_ _) | (with_reducible refine le_drewN _ ?_) | (with_reducible refine Below.setCell ?_ ?_ _) | (with_reducible exact Nat.le_refl _) | (with_reducible refine le_ext _ ?_) | (with_reducible refine le_alloc _ ?_) | (with_reducible refine le_setCell _ _ ?_) | (with_reducible refine le_drew ?_) | omega | (simp; done) | (simp; omega)))))⟩
        · have HT := hide ht
          go_wp2
          refine wp_region_ext (by kernel_rfl) (by kernel_rfl) ?_
          repeat (go_big_quiet_step (fail))
          refine wpQuiet_nil ?_
          rintro _ hnq
          have hzq := ext_sz hnq
          obtain ⟨nq, rfl⟩ := hnq
          (try simp at hzq)
          go_wp2
          exact ⟨⟨k + 1, by omega, by go_num, fun j hj => by rcases Nat.lt_succ_iff_lt_or_eq.1 hj with h | rfl; exact hp.out j h; exact HT.out, (ext_mk (by (repeat' (first | (with_reducible exact Below.refl _ _) | (with_reducible assumption) | (with_reducible refine below_ext _ ?_ ?_) | (with_reducible refine Below.alloc ?_ ?_ _) | (with_reducible refine Below.drew ?_) | (with_reducible refine below_drewN ?_ _) | (with_reducible refine le_drewN _ ?_) | (with_reducible refine Below.setCell ?_ ?_ _) | (with_reducible exact Nat.le_refl _) | (with_reducible refine le_ext _ ?_) | (with_reducible refine le_alloc _ ?_) | (with_reducible refine le_setCell _ _ ?_) | (with_reducible refine le_drew ?_) | omega | (simp; done) | (simp; omega)))))⟩, by simp [intOf]; omega⟩
      · have : k = n := by omega
        subst this
        go_wp2
        go_ret
        exact ⟨ret_bool (decide_eq_true (pts_eq2 (by rw [HN.out, HN'.out]) (fun i hi => hp.out i (by rw [← HN.out]; exact hi)))).symm, (ext_mk (by (repeat' (first | (with_reducible exact Below.refl _ _) | (with_reducible assumption) | (with_reducible refine below_ext _ ?_ ?_) | (with_reducible refine Below.alloc ?_ ?_ _) | (with_reducible refine Below.drew ?_) | (with_reducible refine below_drewN ?_ _) | (with_reducible refine le_drewN _ ?_) | (with_reducible refine Below.setCell ?_ ?_ _) | (with_reducible exact Nat.le_refl _) | (with_reducible refine le_ext _ ?_) | (with_reducible refine le_alloc _ ?_) | (with_reducible refine le_setCell _ _ ?_) | (with_reducible refine le_drew ?_) | omega | (simp; done) | (simp; omega)))))⟩
  · have hne : ((n : Int) != n') = true := by rw [bne_iff_ne]; omega
    have R := hide (decide_eq_false (p := ps = qs) (fun h => hnn (by rw [← hn, ← hn', h])))
    clear hn hn'
    go_enter Try.func27, Try.ntmps27
    go_wp2
    go_ret
    exact ⟨ret_bool R.out.symm, (ext_mk (by (repeat' (first | (with_reducible exact Below.refl _ _) | (with_reducible assumption) | (with_reducible refine below_ext _ ?_ ?_) | (with_reducible refine Below.alloc ?_ ?_ _) | (with_reducible refine Below.drew ?_) | (with_reducible refine below_drewN ?_ _) | (with_reducible refine le_drewN _ ?_) | (with_reducible refine Below.setCell ?_ ?_ _) | (with_reducible exact Nat.le_refl _) | (with_reducible refine le_ext _ ?_) | (with_reducible refine le_alloc _ ?_) | (with_reducible refine le_setCell _ _ ?_) | (with_reducible refine le_drew ?_) | omega | (simp; done) | (simp; omega)))))⟩
def nearP (ps : List Pt) : Bool := ps.all fun p => decide (-900 ≤ p.x) && decide (p.x ≤ 900) && decide (-900 ≤ p.y) && decide (p.y ≤ 900)
theorem nearP_iff {ps : List Pt} : nearP ps = true ↔ ∀ p ∈ ps, (-900 ≤ p.x ∧ p.x ≤ 900) ∧ (-900 ≤ p.y ∧ p.y ≤ 900) := by
  unfold nearP
  rw [List.all_eq_true]
  constructor
  · intro h p hp
    have := h p hp
    simp only [Bool.and_eq_true, decide_eq_true_eq] at this
    omega
  · intro h p hp
    have := h p hp
    simp only [Bool.and_eq_true, decide_eq_true_eq]
    omega
set_option maxHeartbeats 1000000 in
theorem near_any (ps : List Pt) (A : Option Addr) (n c : Nat) (w : World) (hn : ps.length = n) (hm : n ≤ 2000000) (hs : PtsAt w w.heap.size A ps) :
    Calls Try.prog 31 #[.slice A n c] w fun e w' => e = .returned (.bool (nearP ps)) ∧ ∃ m, w' = ext w m := by
  have HN := hide hn
  clear hn
  go_enter Try.func31, Try.ntmps31
  go_wp2
  go_loopw [3] (fun v wr => ∃ k : Nat, k ≤ n ∧ v = .int .i64 k ∧ Hid (∀ j, j < k → (-900 ≤ pX ps j ∧ pX ps j ≤ 900) ∧ (-900 ≤ pY ps j ∧ pY ps j ≤ 900)) ∧ ∃ x, wr = ext w x) (fun v _ => n - (intOf v).toNat)
  case atStart => exact ⟨0, Nat.zero_le _, rfl, fun j hj => by omega, ext_same w⟩
  case round =>
    obtain ⟨k, hk, rfl, hp, x, rfl⟩ := hrel
    by_cases hlt : k < n
    · obtain ⟨b, o, rfl, hb, hc⟩ := hs (by rw [HN.out]; omega)
      obtain ⟨hx, hy⟩ := hc k (by rw [HN.out]; omega)
      have hsz := ext_size w x
      clear hc
      by_cases hok : (-900 ≤ pX ps k ∧ pX ps k ≤ 900) ∧ (-900 ≤ pY ps k ∧ pY ps k ≤ 900)
      · obtain ⟨⟨a1, a2⟩, a3, a4⟩ := hok
        go_wp2
        exact ⟨⟨k + 1, by omega, by go_num, fun j hj => by rcases Nat.lt_succ_iff_lt_or_eq.1 hj with h | rfl; exact hp.out j h; exact ⟨⟨a1, a2⟩, a3, a4⟩, (ext_mk (by (repeat' (first | (with_reducible exact Below.refl _ _) | (with_reducible assumption) | (with_reducible refine below_ext _ ?_ ?_) | (with_reducible refine Below.alloc ?_ ?_ _) | (with_reducible refine Below.drew ?_) | (with_reducible refine below_drewN ?_ _) | (with_reducible refine le_drewN _ ?_) | (with_reducible refine Below.setCell ?_ ?_ _) | (with_reducible exact Nat.le_refl _) | (with_reducible refine le_ext _ ?_) | (with_reducible refine le_alloc _ ?_) | (with_reducible refine le_setCell _ _ ?_) | (with_reducible refine le_drew ?_) | omega | (simp; done) | (simp; omega)))))⟩, by simp [intOf]; omega⟩
      · have R : Hid (nearP ps = false) := hide (by rw [← Bool.not_eq_true, nearP_iff]; intro h; exact hok (h _ (gp_mem (by rw [HN.out]; exact hlt))))
        rcases (show 900 < pX ps k ∨ (¬ 900 < pX ps k ∧ pX ps k < -900) ∨ (¬ 900 < pX ps k ∧ ¬ pX ps k < -900 ∧ 900 < pY ps k) ∨ (¬ 900 < pX ps k ∧ ¬ pX ps k < -900 ∧ ¬ 900 < pY ps k ∧ pY ps k < -900) by omega) with h1 | ⟨h1, h2⟩ | ⟨h1, h2, h3⟩ | ⟨h1, h2, h3, h4⟩
        all_goals
          clear hok
          go_wp2
          go_ret
          exact ⟨ret_bool R.out.symm, (ext_mk (by (repeat' (first | (with_reducible exact Below.refl _ _) | (with_reducible assumption) | (with_reducible refine below_ext _ ?_ ?_) | (with_reducible refine Below.alloc ?_ ?_ _) | (with_reducible refine Below.drew ?_) | (with_reducible refine below_drewN ?_ _) | (with_reducible refine le_drewN _ ?_) | (with_reducible refine Below.setCell ?_ ?_ _) | (with_reducible exact Nat.le_refl _) | (with_reducible refine le_ext _ ?_) | (with_reducible refine le_alloc _ ?_) | (with_reducible refine le_setCell _ _ ?_) | (with_reducible refine le_drew ?_) | omega | (simp; done) | (simp; omega)))))⟩
    · have : k = n := by omega
      subst this
      have R : Hid (nearP ps = true) := hide (nearP_iff.2 (fun p hp' => by
        obtain ⟨i, hi, rfl⟩ := gp_of_mem hp'
        exact hp.out i (by rw [← HN.out]; exact hi)))
      go_wp2
      go_ret
      exact ⟨ret_bool R.out.symm, (ext_mk (by (repeat' (first | (with_reducible exact Below.refl _ _) | (with_reducible assumption) | (with_reducible refine below_ext _ ?_ ?_) | (with_reducible refine Below.alloc ?_ ?_ _) | (with_reducible refine Below.drew ?_) | (with_reducible refine below_drewN ?_ _) | (with_reducible refine le_drewN _ ?_) | (with_reducible refine Below.setCell ?_ ?_ _) | (with_reducible exact Nat.le_refl _) | (with_reducible refine le_ext _ ?_) | (with_reducible refine le_alloc _ ?_) | (with_reducible refine le_setCell _ _ ?_) | (with_reducible refine le_drew ?_) | omega | (simp; done) | (simp; omega)))))⟩
theorem move_take {ps : List Pt} {k : Nat} (hk : k < ps.length) (t : Pt) : (ps.take (k + 1)).map (fun p => addP p t) = (ps.take k).map (fun p => addP p t) ++ [⟨pX ps k + t.x, pY ps k + t.y⟩] := by
  rw [List.take_succ_eq_append_getElem hk, List.map_append, ← gp_lt hk]; rfl
set_option maxHeartbeats 1000000 in
theorem moved_any (ps : List Pt) (dx dy : Int) (A : Option Addr) (n c : Nat) (w : World) (hn : ps.length = n) (hm : n ≤ 1000) (hx : -100000 ≤ dx ∧ dx ≤ 100000) (hy : -100000 ≤ dy ∧ dy ≤ 100000) (hb : InB ps) (hs : PtsAt w w.heap.size A ps) :
    Calls Try.prog 32 #[.slice A n c, .int .i64 dx, .int .i64 dy] w fun e w' => ∃ v, e = .returned v ∧ OwnP w' w.heap.size v (ps.map fun p => addP p ⟨dx, dy⟩) ∧ ∃ m, w' = ext w m := by
  have HN := hide hn
  have HB := hide hb
  clear hn hb
  go_enter Try.func32, Try.ntmps32
  go_wp2
  go_loopw [7, 8] (fun u7 u8 wr => ∃ (k : Nat), k ≤ n ∧ u8 = .int .i64 k ∧ OwnP wr w.heap.size u7 ((ps.take k).map fun p => addP p ⟨dx, dy⟩) ∧ Below w.heap.size w wr) (fun _ u8 _ => n - (intOf u8).toNat)
  case atStart => exact ⟨0, Nat.zero_le _, rfl, OwnP.empty w w.heap.size 0 (Nat.le_refl _) #[] rfl (by simp [maxLen]), (by (repeat' (first | (with_reducible exact Below.refl _ _) | (with_reducible assumption) | (with_reducible refine below_ext _ ?_ ?_) | (with_reducible refine Below.alloc ?_ ?_ _) | (with_reducible refine Below.drew ?_) | (with_reducible refine below_drewN ?_ _) | (with_reducible refine le_drewN _ ?_) | (with_reducible refine Below.setCell ?_ ?_ _) | (with_reducible exact Nat.le_refl _) | (with_reducible refine le_ext _ ?_) | (with_reducible refine le_alloc _ ?_) | (with_reducible refine le_setCell _ _ ?_) | (with_reducible refine le_drew ?_) | omega | (simp; done) | (simp; omega))))⟩
  case round =>
    obtain ⟨k, hk, rfl, hown, hbel⟩ := hrel
    obtain ⟨A0, n0, c0, rfl⟩ := hown.slice
    have hsz := hbel.size
    have OWN0 := hide hown
    clear hown
    by_cases hlt : k < n
    · obtain ⟨b1, o1, rfl, hbl1, hc1⟩ := hs (by rw [HN.out]; omega)
      obtain ⟨hx0, hy0⟩ := hc1 k (by rw [HN.out]; omega)
      obtain ⟨⟨p1, p2⟩, p3, p4⟩ := HB.out.at (i := k) (by rw [HN.out]; exact hlt)
      have hcx := (hbel.cell (p := ⟨b1, o1 + k * 2, none⟩) hbl1).trans hx0
      have hcy := (hbel.cell (p := ⟨b1, o1 + k * 2 + 1, none⟩) hbl1).trans hy0
      clear hc1 hx0 hy0
      have NX := hide (move_take (ps := ps) (k := k) (by rw [HN.out]; exact hlt) ⟨dx, dy⟩)
      have NL : ((ps.take k).map fun p => addP p ⟨dx, dy⟩).length ≤ 2000000 := by rw [List.length_map, List.length_take]; omega
      have OD : Hid (∀ o, OwnP (wr.drew.alloc o) w.heap.size (.slice A0 n0 c0) ((ps.take k).map fun p => addP p ⟨dx, dy⟩)) := hide (fun o => OWN0.out.below (by (repeat' (first | (with_reducible exact Below.refl _ _) | (with_reducible assumption) | (with_reducible refine below_ext _ ?_ ?_) | (with_reducible refine Below.alloc ?_ ?_ _) | (with_reducible refine Below.drew ?_) | (with_reducible refine below_drewN ?_ _) | (with_reducible refine le_drewN _ ?_) | (with_reducible refine Below.setCell ?_ ?_ _) | (with_reducible exact Nat.le_refl _) | (with_reducible refine le_ext _ ?_) | (with_reducible refine le_alloc _ ?_) | (with_reducible refine le_setCell _ _ ?_) | (with_reducible refine le_drew ?_) | omega | (simp; done) | (simp; omega)))))
      have SZ : Hid (∀ o : Obj, w.heap.size ≤ (wr.drew.alloc o).heap.size) := hide (fun o => by simp; omega)
      have SC : Hid (∀ W : World, (∀ j, j < w.heap.size → W.heap[j]? = wr.heap[j]?) → W.cell? ⟨b1, o1 + k * 2, none⟩ = some (.int .i64 (pX ps k)) ∧ W.cell? ⟨b1, o1 + k * 2 + 1, none⟩ = some (.int .i64 (pY ps k))) := hide (fun W hW => ⟨(World.cell?_of_block (hW _ hbl1)).trans hcx, (World.cell?_of_block (hW _ hbl1)).trans hcy⟩)
      have i2 : IntKind.i64.wrap (k : Int) = k := IntWalk.i64_in _ (by omega)
      have i3 : IntKind.i64.wrap (pX ps k + dx) = pX ps k + dx := IntWalk.i64_in _ (by omega)
      have i4 : IntKind.i64.wrap (pY ps k + dy) = pY ps k + dy := IntWalk.i64_in _ (by omega)
      have q2 : (0 : Int) ≤ (k : Int) := by omega
      have q4 : (k : Int) < (n : Int) := by omega
      go_wp2_with fail
      go_region_held3 (fun W => W.cell? ⟨b1, o1 + k * 2, none⟩ = some (.int .i64 (pX ps k)) ∧ W.cell? ⟨b1, o1 + k * 2 + 1, none⟩ = some (.int .i64 (pY ps k))) (first | exact SC.out _ (fun j _ => rfl) | exact SC.out _ (fun j hj => Below.heap_alloc _ _ j (Nat.lt_of_lt_of_le hj hsz)) | exact SC.out _ (fun j hj => (B7.out.block j hj).trans (Below.heap_alloc _ _ j (Nat.lt_of_lt_of_le hj hsz)))) (first | (refine step_pt (by rfl) (.tmp 16) (.tmp 32) (by rfl) w.heap.size (.slice A0 n0 c0) ((ps.take k).map fun p => addP p ⟨dx, dy⟩) (by rfl) (OD.out _) (pX ps k + dx) (pY ps k + dy) _ _ (by rfl) ((heap_cell (heap_alloc_new _ _) 0).trans rfl) ((heap_cell (heap_alloc_new _ _) 1).trans rfl) NL (SZ.out _) ?_; intro v7 w7 hown7 hb7 hat7 hgr7; obtain ⟨A7, n7, c7, rfl⟩ := hown7.slice; have O7 := hide hown7; have B7 := hide hb7; clear hown7 hat7 hgr7 hb7))
      go_wp2_with fail
      exact ⟨⟨k + 1, by omega, by go_num, by rw [NX.out]; exact O7.out, Below.trans (Below.trans hbel (by (repeat' (first | (with_reducible exact Below.refl _ _) | (with_reducible assumption) | (with_reducible refine below_ext _ ?_ ?_) | (with_reducible refine Below.alloc ?_ ?_ _) | (with_reducible refine Below.drew ?_) | (with_reducible refine below_drewN ?_ _) | (with_reducible refine le_drewN _ ?_) | (with_reducible refine Below.setCell ?_ ?_ _) | (with_reducible exact Nat.le_refl _) | (with_reducible refine le_ext _ ?_) | (with_reducible refine le_alloc _ ?_) | (with_reducible refine le_setCell _ _ ?_) | (with_reducible refine le_drew ?_) | omega | (simp; done) | (simp; omega))))) B7.out⟩, by simp [intOf]; omega⟩
    · have : k = n := by omega
      subst this
      go_wp2
      go_ret
      exact ⟨_, rfl, by rw [show ps = ps.take k from (List.take_of_length_le (by rw [HN.out]; exact Nat.le_refl _)).symm]; exact OWN0.out, ext_mk hbel⟩
theorem any_mem {ps : List Pt} {q : Pt} : (ps.any fun p => decide (p = q)) = true ↔ q ∈ ps := by simp
set_option maxHeartbeats 400000 in
theorem hasPoint_any (ps : List Pt) (x y : Int) (A : Option Addr) (n c : Nat) (w : World) (hn : ps.length = n) (hm : n ≤ 2000000) (hs : PtsAt w w.heap.size A ps) :
    Calls Try.prog 34 #[.slice A n c, .agg #[.int .i64 x, .int .i64 y]] w fun e w' => e = .returned (.bool (decide ((⟨x, y⟩ : Pt) ∈ ps))) ∧ ∃ m, w' = ext w m := by
  have HN := hide hn
  have E := @run_eqPt
  clear hn
  go_enter Try.func34, Try.ntmps34
  go_wp2
  go_loopw [5] (fun v wr => ∃ k : Nat, k ≤ n ∧ v = .int .i64 k ∧ Hid (∀ j, j < k → eqP (pX ps j) (pY ps j) x y = false) ∧ Hid (wr.heap[w.heap.size]? = some (.cells #[.int .i64 x, .int .i64 y] 25 (0, 0))) ∧ Below w.heap.size w wr ∧ w.heap.size + 1 ≤ wr.heap.size) (fun v _ => n - (intOf v).toNat)
  case atStart => exact ⟨0, Nat.zero_le _, rfl, fun j hj => by omega, heap_alloc_new w _, (by (repeat' (first | (with_reducible exact Below.refl _ _) | (with_reducible assumption) | (with_reducible refine below_ext _ ?_ ?_) | (with_reducible refine Below.alloc ?_ ?_ _) | (with_reducible refine Below.drew ?_) | (with_reducible refine below_drewN ?_ _) | (with_reducible refine le_drewN _ ?_) | (with_reducible refine Below.setCell ?_ ?_ _) | (with_reducible exact Nat.le_refl _) | (with_reducible refine le_ext _ ?_) | (with_reducible refine le_alloc _ ?_) | (with_reducible refine le_setCell _ _ ?_) | (with_reducible refine le_drew ?_) | omega | (simp; done) | (simp; omega)))), by simp⟩
  case round =>
    obtain ⟨k, hk, rfl, hp, BX, hbel, hsz⟩ := hrel
    have c0 := heap_cell BX.out 0
    have c1 := heap_cell BX.out 1
    simp at c0 c1
    by_cases hlt : k < n
    · obtain ⟨b, o, rfl, hb, hc⟩ := hs (by rw [HN.out]; omega)
      obtain ⟨hx0, hy0⟩ := hc k (by rw [HN.out]; omega)
      have hx := (hbel.cell (p := ⟨b, o + k * 2, none⟩) hb).trans hx0
      have hy := (hbel.cell (p := ⟨b, o + k * 2 + 1, none⟩) hb).trans hy0
      clear hc hx0 hy0
      cases ht : eqP (pX ps k) (pY ps k) x y
      · have HT := hide ht
        go_wp2
        refine wp_region_ext (by kernel_rfl) (by kernel_rfl) ?_
        repeat (go_big_quiet_step (fail))
        refine wpQuiet_nil ?_
        rintro _ hnq
        have hzq := ext_sz hnq
        obtain ⟨nq, rfl⟩ := hnq
        (try simp at hzq)
        go_wp2
        exact ⟨⟨k + 1, by omega, by go_num, fun j hj => by rcases Nat.lt_succ_iff_lt_or_eq.1 hj with h | rfl; exact hp.out j h; exact HT.out, hide (((ext_below wr nq).block w.heap.size (by omega)).trans BX.out), (by (repeat' (first | (with_reducible exact Below.refl _ _) | (with_reducible assumption) | (with_reducible refine below_ext _ ?_ ?_) | (with_reducible refine Below.alloc ?_ ?_ _) | (with_reducible refine Below.drew ?_) | (with_reducible refine below_drewN ?_ _) | (with_reducible refine le_drewN _ ?_) | (with_reducible refine Below.setCell ?_ ?_ _) | (with_reducible exact Nat.le_refl _) | (with_reducible refine le_ext _ ?_) | (with_reducible refine le_alloc _ ?_) | (with_reducible refine le_setCell _ _ ?_) | (with_reducible refine le_drew ?_) | omega | (simp; done) | (simp; omega)))), by omega⟩, by simp [intOf]; omega⟩
      · have R := hide (decide_eq_true (p := (⟨x, y⟩ : Pt) ∈ ps) (by
          obtain ⟨e1, e2⟩ := eqP_iff.1 ht
          have := gp_mem (ps := ps) (i := k) (by rw [HN.out]; exact hlt)
          rw [gp_mk, e1, e2] at this
          exact this))
        go_wp2
        refine wp_region_ext (by kernel_rfl) (by kernel_rfl) ?_
        repeat (go_big_quiet_step (fail))
        refine wpQuiet_nil ?_
        rintro _ hnq
        have hzq := ext_sz hnq
        obtain ⟨nq, rfl⟩ := hnq
        (try simp at hzq)
        go_wp2
        go_ret
        exact ⟨ret_bool R.out.symm, ext_mk (hbel.trans (by (repeat' (first | (with_reducible exact Below.refl _ _) | (with_reducible assumption) | (with_reducible refine below_ext _ ?_ ?_) | (with_reducible refine Below.alloc ?_ ?_ _) | (with_reducible refine Below.drew ?_) | (with_reducible refine below_drewN ?_ _) | (with_reducible refine le_drewN _ ?_) | (with_reducible refine Below.setCell ?_ ?_ _) | (with_reducible exact Nat.le_refl _) | (with_reducible refine le_ext _ ?_) | (with_reducible refine le_alloc _ ?_) | (with_reducible refine le_setCell _ _ ?_) | (with_reducible refine le_drew ?_) | omega | (simp; done) | (simp; omega)))))⟩
    · have : k = n := by omega
      subst this
      have R := hide (decide_eq_false (p := (⟨x, y⟩ : Pt) ∈ ps) (fun h => by
        obtain ⟨i, hi, e⟩ := gp_of_mem h
        have := hp.out i (by rw [← HN.out]; exact hi)
        unfold pX pY at this
        rw [e, eqP_iff.2 ⟨rfl, rfl⟩] at this
        cases this))
      go_wp2
      go_ret
      exact ⟨ret_bool R.out.symm, ext_mk hbel⟩
end Go.Proofs.Ytoendanihhocjaa
