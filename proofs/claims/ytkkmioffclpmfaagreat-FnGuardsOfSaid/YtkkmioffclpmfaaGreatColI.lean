
import Derived.Test.YtkkmioffclpmfaaGreatColS
import Derived.Test.YtkkmioffclpmfaaGreatGrd
import Derived.BigRegion
import Derived.Outline
import Derived.Deep.RegionHeld3
/- Colors of the program: the closures of impl.colors. -/
set_option linter.unusedVariables false
set_option linter.unusedSimpArgs false
namespace Go.Proofs.YtkkmioffclpmfaaGreat
open Go.RowKit

def clK (cs : List Int) (i k : Nat) : Bool := ((k : Int) != (i : Int)) && (gi cs k == gi cs i)
def clT (cs : List Int) (i a b c : Nat) : Bool := ((List.range 3).any fun x => (i : Int) == gi [(a : Int), (b : Int), (c : Int)] x) && ((List.range 3).any fun x => clK cs i (gi [(a : Int), (b : Int), (c : Int)] x).toNat)
set_option maxHeartbeats 1000000 in
theorem col111_any (cs : List Int) (i k n c cm cb bi bo : Nat) (w : World) (hn : cs.length = n) (hi : i < n) (hk : k < n) (hnc : n ≤ c) (hm : n ≤ 2000000) (hc : ColAt w cb cm cs)
    (h1 : w.cell? ⟨bi, 0, none⟩ = some (.int .i64 i)) (h2 : w.cell? ⟨bo, 0, none⟩ = some (.slice (some ⟨cb, 0, none⟩) n c)) :
    Calls Tryz.prog 116 #[.int .i64 k, .pointer (some ⟨bi, 0, none⟩), .pointer (some ⟨bo, 0, none⟩)] w fun e w' => e = .returned (.bool (clK cs i k)) ∧ ∃ y, w' = ext w y := by
  have l1 := World.block_lt_of_cell? w _ h1
  have l2 := World.block_lt_of_cell? w _ h2
  have l3 := hc.lt
  have c1 := hc.cell (i := i) (by omega)
  have c2 := hc.cell (i := k) (by omega)
  have HV : Hid (clK cs i k = (((k : Int) != (i : Int)) && (gi cs k == gi cs i))) := hide rfl
  rw [HV.out]
  have q1 : (0 : Int) ≤ (i : Int) := by omega
  have q2 : (i : Int) < (n : Int) := by omega
  have q3 : (0 : Int) ≤ (k : Int) := by omega
  have q4 : (k : Int) < (n : Int) := by omega
  clear hc hn HV
  generalize gi cs k = X at *
  generalize gi cs i = Y at *
  cases hd : ((k : Int) != (i : Int))
  · go_enter Tryz.func116, Tryz.ntmps116
    go_wp2_with fail
    refine wp_region_ext (by kernel_rfl) (by kernel_rfl) ?_
    repeat (go_big_quiet_step (fail))
    refine wpQuiet_nil ?_
    rintro _ hnq
    have hzq := ext_sz hnq
    obtain ⟨nq, rfl⟩ := hnq
    (try simp at hzq)
    go_wp2_with fail
    go_ret
    exact ⟨rfl, (ext_mk (by (repeat' (first | (with_reducible first | exact Below.refl _ _ | assumption | refine below_ext _ ?_ ?_ | refine Below.alloc ?_ ?_ _ | refine Below.drew ?_ | refine below_drewN ?_ _ | refine le_drewN _ ?_ | refine Below.setCell ?_ ?_ _ | exact Nat.le_refl _ | refine le_ext _ ?_ | refine le_alloc _ ?_ | refine le_setCell _ _ ?_ | refine le_drew ?_) | omega | (simp; done) | (simp; omega)))))⟩
  · go_enter Tryz.func116, Tryz.ntmps116
    go_wp2_with fail
    refine wp_region_ext (by kernel_rfl) (by kernel_rfl) ?_
    repeat (go_big_quiet_step (fail))
    refine wpQuiet_nil ?_
    rintro _ hnq
    have hzq := ext_sz hnq
    obtain ⟨nq, rfl⟩ := hnq
    (try simp at hzq)
    go_wp2_with fail
    go_ret
    exact ⟨rfl, (ext_mk (by (repeat' (first | (with_reducible first | exact Below.refl _ _ | assumption | refine below_ext _ ?_ ?_ | refine Below.alloc ?_ ?_ _ | refine Below.drew ?_ | refine below_drewN ?_ _ | refine le_drewN _ ?_ | refine Below.setCell ?_ ?_ _ | exact Nat.le_refl _ | refine le_ext _ ?_ | refine le_alloc _ ?_ | refine le_setCell _ _ ?_ | refine le_drew ?_) | omega | (simp; done) | (simp; omega)))))⟩
set_option maxHeartbeats 2000000 in
theorem col11_any (cs : List Int) (i a b c' n c cm cb bi bo : Nat) (w : World) (hn : cs.length = n) (hi : i < n) (ha : a < n) (hb : b < n) (hc' : c' < n) (hnc : n ≤ c) (hm : n ≤ 2000000) (hc : ColAt w cb cm cs)
    (h1 : w.cell? ⟨bi, 0, none⟩ = some (.int .i64 i)) (h2 : w.cell? ⟨bo, 0, none⟩ = some (.slice (some ⟨cb, 0, none⟩) n c)) :
    Calls Tryz.prog 115 #[.agg #[.int .i64 a, .int .i64 b, .int .i64 c'], .pointer (some ⟨bi, 0, none⟩), .pointer (some ⟨bo, 0, none⟩)] w fun e w' => e = .returned (.bool (clT cs i a b c')) ∧ ∃ y, w' = ext w y := by
  have l1 := World.block_lt_of_cell? w _ h1
  have l2 := World.block_lt_of_cell? w _ h2
  have CT := hide (fun (W : World) (k : Nat) (hz : IntsAt W W.heap.size (some ⟨k, 0, none⟩) [(a : Int), (b : Int), (c' : Int)]) => containsN_any [(a : Int), (b : Int), (c' : Int)] (i : Int) (some ⟨k, 0, none⟩) 3 3 W rfl (by omega) hz)
  have CF := hide (fun (W : World) (k : Nat) (hbw : Below w.heap.size w W) (hz : IntsAt W W.heap.size (some ⟨k, 0, none⟩) [(a : Int), (b : Int), (c' : Int)]) =>
    ContainsFuncN_any 116 #[.pointer (some ⟨bi, 0, none⟩), .pointer (some ⟨bo, 0, none⟩)] (fun x => clK cs i (gi [(a : Int), (b : Int), (c' : Int)] x).toNat) [(a : Int), (b : Int), (c' : Int)] (some ⟨k, 0, none⟩) 3 3 W rfl (by omega) (enters _ Tryz.func116 (by kernel_rfl) rfl) hz (fun W' x hb' hx => by
      have hx : x < 3 := hx
      have key : ∃ y : Nat, gi [(a : Int), (b : Int), (c' : Int)] x = (y : Int) ∧ y < n := by
        match x, hx with
        | 0, _ => exact ⟨a, rfl, ha⟩
        | 1, _ => exact ⟨b, rfl, hb⟩
        | 2, _ => exact ⟨c', rfl, hc'⟩
      obtain ⟨y, ey, hy⟩ := key
      rw [ey, Int.toNat_natCast]
      exact col111_any cs i y n c cm cb bi bo W' hn hi hy hnc hm ((hc.bel hbw).bel hb') ((hb'.cell (p := ⟨bi, 0, none⟩) (Nat.lt_of_lt_of_le l1 hbw.size)).trans ((hbw.cell (p := ⟨bi, 0, none⟩) l1).trans h1)) ((hb'.cell (p := ⟨bo, 0, none⟩) (Nat.lt_of_lt_of_le l2 hbw.size)).trans ((hbw.cell (p := ⟨bo, 0, none⟩) l2).trans h2))))
  have CO := hide (fun W => corners_any (a : Int) (b : Int) (c' : Int) W)
  have IZ : Hid (∀ (W1 W : World) (T : TypeId), Below (W1.heap.size + 1) (W1.alloc (.cells #[.int .i64 a, .int .i64 b, .int .i64 c'] T)) W → IntsAt W W.heap.size (some ⟨W1.heap.size, 0, none⟩) [(a : Int), (b : Int), (c' : Int)]) := hide (fun W1 W T hb _ => by
    have h0 := hb.size
    rw [size_alloc] at h0
    refine ⟨W1.heap.size, 0, rfl, by omega, fun i hi => (hb.cell (p := ⟨W1.heap.size, 0 + i, none⟩) (Nat.lt_succ_self _)).trans ?_⟩
    have hi : i < 3 := hi
    match i, hi with
    | 0, _ => exact (heap_cell (heap_alloc_new W1 _) 0).trans rfl
    | 1, _ => exact (heap_cell (heap_alloc_new W1 _) 1).trans rfl
    | 2, _ => exact (heap_cell (heap_alloc_new W1 _) 2).trans rfl)
  have HV : Hid (clT cs i a b c' = (((List.range 3).any fun x => (i : Int) == gi [(a : Int), (b : Int), (c' : Int)] x) && ((List.range 3).any fun x => clK cs i (gi [(a : Int), (b : Int), (c' : Int)] x).toNat))) := hide rfl
  rw [HV.out]
  have SC : Hid (∀ W : World, Below w.heap.size w W → W.cell? ⟨bi, 0, none⟩ = some (.int .i64 i)) := hide (fun W hb => (hb.cell (p := ⟨bi, 0, none⟩) l1).trans h1)
  clear hc hn HV h2 h1
  generalize ((List.range 3).any fun x => (i : Int) == gi [(a : Int), (b : Int), (c' : Int)] x) = V1 at *
  generalize ((List.range 3).any fun x => clK cs i (gi [(a : Int), (b : Int), (c' : Int)] x).toNat) = V2 at *
  generalize [(a : Int), (b : Int), (c' : Int)] = LL at *
  cases V1
  all_goals
    go_enter Tryz.func115, Tryz.ntmps115
    go_wp2_with fail
    refine (CO.out _).mono ?_
    rintro e w' ⟨rfl, hw'⟩; have hzy1 := ext_sz hw'; obtain ⟨y1, rfl⟩ := hw'; (try simp at hzy1)
    have B1 : Below w.heap.size w (ext (w.alloc (.cells #[.int .i64 a, .int .i64 b, .int .i64 c'] 37)) y1) := (by (repeat' (first | (with_reducible first | exact Below.refl _ _ | assumption | refine below_ext _ ?_ ?_ | refine Below.alloc ?_ ?_ _ | refine Below.drew ?_ | refine below_drewN ?_ _ | refine le_drewN _ ?_ | refine Below.setCell ?_ ?_ _ | exact Nat.le_refl _ | refine le_ext _ ?_ | refine le_alloc _ ?_ | refine le_setCell _ _ ?_ | refine le_drew ?_) | omega | (simp; done) | (simp; omega))))
    generalize ext (w.alloc (.cells #[.int .i64 a, .int .i64 b, .int .i64 c'] 37)) y1 = W1 at *
    have s1 := B1.size
    have h1 := SC.out _ B1
    have l1b : bi < W1.heap.size := by omega
    go_wp2_with fail
    refine wp_region_ext (by kernel_rfl) (by kernel_rfl) ?_
    repeat (go_big_quiet_step ((first | (go_at_call 78; exact Calls.in_ext (CT.out _ _ (IZ.out W1 _ 77 (below_ext _ (Below.refl _ _) (by simp))))) | (go_at_call 71; exact Calls.in_ext (CF.out _ _ (by (repeat' (first | (with_reducible first | exact Below.refl _ _ | assumption | refine below_ext _ ?_ ?_ | refine Below.alloc ?_ ?_ _ | refine Below.drew ?_ | refine below_drewN ?_ _ | refine le_drewN _ ?_ | refine Below.setCell ?_ ?_ _ | exact Nat.le_refl _ | refine le_ext _ ?_ | refine le_alloc _ ?_ | refine le_setCell _ _ ?_ | refine le_drew ?_) | omega | (simp; done) | (simp; omega)))) (IZ.out W1 _ 77 (below_ext _ (Below.refl _ _) (by simp))))))))
    refine wpQuiet_nil ?_
    rintro _ hnq
    have hzq := ext_sz hnq
    obtain ⟨nq, rfl⟩ := hnq
    (try simp at hzq)
    go_wp2_with fail
    go_ret
    exact ⟨rfl, (ext_mk (by (repeat' (first | (with_reducible first | exact Below.refl _ _ | assumption | refine below_ext _ ?_ ?_ | refine Below.alloc ?_ ?_ _ | refine Below.drew ?_ | refine below_drewN ?_ _ | refine le_drewN _ ?_ | refine Below.setCell ?_ ?_ _ | exact Nat.le_refl _ | refine le_ext _ ?_ | refine le_alloc _ ?_ | refine le_setCell _ _ ?_ | refine le_drew ?_) | omega | (simp; done) | (simp; omega)))))⟩
def clashB (ts : List TI) (cs : List Int) (i : Nat) : Bool := (List.range ts.length).any fun j => clT cs i (gt ts j).a.toNat (gt ts j).b.toNat (gt ts j).c.toNat
set_option maxHeartbeats 2000000 in
theorem clash_any (ts : List TI) (cs : List Int) (Z : Option Addr) (m d i n c cm cb bl bo : Nat) (w : World) (ht : ts.length = m) (hm2 : m ≤ 2000000) (hn : cs.length = n) (hi : i < n) (hnc : n ≤ c) (hm : n ≤ 2000000) (hin : ∀ j, j < m → tIn n (gt ts j) = true) (hz : TrisAt w w.heap.size Z ts) (hc : ColAt w cb cm cs)
    (h1 : w.cell? ⟨bl, 0, none⟩ = some (.slice Z m d)) (h2 : w.cell? ⟨bo, 0, none⟩ = some (.slice (some ⟨cb, 0, none⟩) n c)) :
    Calls Tryz.prog 114 #[.int .i64 i, .pointer (some ⟨bl, 0, none⟩), .pointer (some ⟨bo, 0, none⟩)] w fun e w' => e = .returned (.bool (clashB ts cs i)) ∧ ∃ y, w' = ext w y := by
  have l1 := World.block_lt_of_cell? w _ h1
  have l2 := World.block_lt_of_cell? w _ h2
  have CF := hide (fun (W : World) (bi : Nat) (hbw : Below w.heap.size w W) (hbi : W.cell? ⟨bi, 0, none⟩ = some (.int .i64 i)) =>
    ContainsFuncT_any 115 #[.pointer (some ⟨bi, 0, none⟩), .pointer (some ⟨bo, 0, none⟩)] (fun j => clT cs i (gt ts j).a.toNat (gt ts j).b.toNat (gt ts j).c.toNat) ts Z m d W ht hm2 (enters _ Tryz.func115 (by kernel_rfl) rfl) (hz.to hbw) (fun W' j hb' hj => by
      obtain ⟨a, b, c', et, la, lb, lc⟩ := tIn_iff.1 (hin j (by omega))
      rw [et]
      exact col11_any cs i a b c' n c cm cb bi bo W' hn hi la lb lc hnc hm ((hc.bel hbw).bel hb') ((hb'.cell (p := ⟨bi, 0, none⟩) (World.block_lt_of_cell? W _ hbi)).trans hbi) ((hb'.cell (p := ⟨bo, 0, none⟩) (Nat.lt_of_lt_of_le l2 hbw.size)).trans ((hbw.cell (p := ⟨bo, 0, none⟩) l2).trans h2))))
  have HV : Hid (clashB ts cs i = (List.range m).any fun j => clT cs i (gt ts j).a.toNat (gt ts j).b.toNat (gt ts j).c.toNat) := hide (by unfold clashB; rw [ht])
  rw [HV.out]
  clear hz hc hin hn ht HV h2
  generalize ((List.range m).any fun j => clT cs i (gt ts j).a.toNat (gt ts j).b.toNat (gt ts j).c.toNat) = V at *
  go_enter Tryz.func114, Tryz.ntmps114
  go_wp2_with fail
  refine (CF.out _ w.heap.size (by (repeat' (first | (with_reducible first | exact Below.refl _ _ | assumption | refine below_ext _ ?_ ?_ | refine Below.alloc ?_ ?_ _ | refine Below.drew ?_ | refine below_drewN ?_ _ | refine le_drewN _ ?_ | refine Below.setCell ?_ ?_ _ | exact Nat.le_refl _ | refine le_ext _ ?_ | refine le_alloc _ ?_ | refine le_setCell _ _ ?_ | refine le_drew ?_) | omega | (simp; done) | (simp; omega)))) (by simp [go_sem, ↓IntWalk.iteOmega])).mono ?_
  rintro e w' ⟨rfl, hw'⟩; have hzy2 := ext_sz hw'; obtain ⟨y2, rfl⟩ := hw'; (try simp at hzy2)
  go_wp2_with fail
  go_ret
  exact ⟨rfl, (ext_mk (by (repeat' (first | (with_reducible first | exact Below.refl _ _ | assumption | refine below_ext _ ?_ ?_ | refine Below.alloc ?_ ?_ _ | refine Below.drew ?_ | refine below_drewN ?_ _ | refine le_drewN _ ?_ | refine Below.setCell ?_ ?_ _ | exact Nat.le_refl _ | refine le_ext _ ?_ | refine le_alloc _ ?_ | refine le_setCell _ _ ?_ | refine le_drew ?_) | omega | (simp; done) | (simp; omega)))))⟩
theorem clT_iff {cs : List Int} {i a b c : Nat} : clT cs i a b c = true ↔ (i = a ∨ i = b ∨ i = c) ∧ ((a ≠ i ∧ gi cs a = gi cs i) ∨ (b ≠ i ∧ gi cs b = gi cs i) ∨ (c ≠ i ∧ gi cs c = gi cs i)) := by
  unfold clT
  rw [any3, any3]
  show ((((i : Int) == (a : Int)) || (((i : Int) == (b : Int)) || ((i : Int) == (c : Int)))) && (clK cs i ((a : Int)).toNat || (clK cs i ((b : Int)).toNat || clK cs i ((c : Int)).toNat))) = true ↔ _
  rw [Int.toNat_natCast, Int.toNat_natCast, Int.toNat_natCast]
  unfold clK
  simp only [Bool.and_eq_true, Bool.or_eq_true, beq_iff_eq, bne_iff_ne, ne_eq, Int.natCast_inj]
theorem fitT_iff {t : Tri3} {cs : List Int} : fitT t cs = true ↔ ¬ (0 ≤ gi cs t.a ∧ (gi cs t.a = gi cs t.b ∨ gi cs t.a = gi cs t.c)) ∧ ¬ (0 ≤ gi cs t.b ∧ gi cs t.b = gi cs t.c) := by
  unfold fitT
  simp only [Bool.not_eq_true', Bool.or_eq_false_iff, ← Bool.not_eq_true, Bool.and_eq_true, Bool.or_eq_true, decide_eq_true_eq]
  exact not_or
theorem clT_fit {cs : List Int} {i a b c : Nat} {k : Int} (hi : i < cs.length) (hk : 0 ≤ k) (hab : a ≠ b) (hbc : b ≠ c) (hac : a ≠ c) (hf : fitT ⟨a, b, c⟩ cs = true) : fitT ⟨a, b, c⟩ (cs.set i k) = true ↔ ¬ clT (cs.set i k) i a b c = true := by
  rw [fitT_iff] at hf ⊢
  rw [clT_iff]
  simp only [gi_set hi, if_true] at *
  by_cases h1 : a = i
  · rw [if_pos h1, if_neg (by omega), if_neg (by omega)]
    omega
  · by_cases h2 : b = i
    · rw [if_neg h1, if_pos h2, if_neg (by omega)]
      omega
    · by_cases h3 : c = i
      · rw [if_neg h1, if_neg h2, if_pos h3]
        omega
      · rw [if_neg h1, if_neg h2, if_neg h3]
        omega
theorem clash_fit {ts : List TI} {cs : List Int} {n i : Nat} {k : Int} (hin : ∀ j, j < ts.length → tIn n (gt ts j) = true) (hd : ∀ j, j < ts.length → (gt ts j).a ≠ (gt ts j).b ∧ (gt ts j).b ≠ (gt ts j).c ∧ (gt ts j).a ≠ (gt ts j).c) (hn : cs.length = n) (hi : i < n) (hk : 0 ≤ k) (hf : fitC (ts.map toN) cs = true) :
    fitC (ts.map toN) (cs.set i k) = !clashB ts (cs.set i k) i := by
  have one : ∀ j, j < ts.length → (fitT (toN (gt ts j)) (cs.set i k) = true ↔ ¬ clT (cs.set i k) i (gt ts j).a.toNat (gt ts j).b.toNat (gt ts j).c.toNat = true) := fun j hj => by
    obtain ⟨a, b, c, et, la, lb, lc⟩ := tIn_iff.1 (hin j hj)
    have hdj := hd j hj
    have eN : toN (gt ts j) = ⟨a, b, c⟩ := by rw [et]; simp [toN]
    have hf1 : fitT (toN (gt ts j)) cs = true := by
      unfold fitC at hf
      rw [List.all_eq_true] at hf
      exact hf _ (List.mem_map.2 ⟨_, gt_mem hj, rfl⟩)
    rw [eN] at hf1 ⊢
    rw [et] at hdj ⊢
    show _ ↔ ¬ clT (cs.set i k) i ((a : Int)).toNat ((b : Int)).toNat ((c : Int)).toNat = true
    rw [Int.toNat_natCast, Int.toNat_natCast, Int.toNat_natCast]
    have e1 : (a : Int) ≠ (b : Int) := hdj.1
    have e2 : (b : Int) ≠ (c : Int) := hdj.2.1
    have e3 : (a : Int) ≠ (c : Int) := hdj.2.2
    exact clT_fit (by omega) hk (by omega) (by omega) (by omega) hf1
  cases hc : clashB ts (cs.set i k) i
  · show _ = true
    refine fitC_yes fun j hj => (one j hj).2 fun h => ?_
    have := any_range_yes (p := fun j => clT (cs.set i k) i (gt ts j).a.toNat (gt ts j).b.toNat (gt ts j).c.toNat) hj h
    unfold clashB at hc
    rw [hc] at this
    cases this
  · show _ = false
    unfold clashB at hc
    rw [List.any_eq_true] at hc
    obtain ⟨j, hj, h⟩ := hc
    have hj := List.mem_range.1 hj
    refine fitC_no hj ?_
    rw [← Bool.not_eq_true]
    exact fun hh => (one j hj).1 hh h
set_option maxRecDepth 20000 in
set_option maxHeartbeats 4000000 in
theorem from_any (ts : List TI) (Z : Option Addr) (m d n c cm cb B bm bo bl bc bf : Nat) (ht : ts.length = m) (hm : m ≤ 2000000) (hn2 : n ≤ 2000000) (hnc : n ≤ c) (hin : ∀ j, j < m → tIn n (gt ts j) = true) (hd : ∀ j, j < ts.length → (gt ts j).a ≠ (gt ts j).b ∧ (gt ts j).b ≠ (gt ts j).c ∧ (gt ts j).a ≠ (gt ts j).c) (hB : B ≤ cb) (n1 : bm ≠ cb) (n2 : bo ≠ cb) (n3 : bl ≠ cb) (n4 : bc ≠ cb) (n5 : bf ≠ cb) : ∀ (f i : Nat) (cs : List Int) (w : World), i + f = n → cs.length = n → (∀ j, i ≤ j → j < n → gi cs j = -1) → fitC (ts.map toN) cs = true → B ≤ w.heap.size → TrisAt w B Z ts → ColAt w cb cm cs →
    w.cell? ⟨bm, 0, none⟩ = some (.int .i64 n) → w.cell? ⟨bo, 0, none⟩ = some (.slice (some ⟨cb, 0, none⟩) n c) → w.cell? ⟨bl, 0, none⟩ = some (.slice Z m d) →
    w.cell? ⟨bc, 0, none⟩ = some (.func (.func 114) #[] #[.pointer (some ⟨bl, 0, none⟩), .pointer (some ⟨bo, 0, none⟩)]) →
    w.cell? ⟨bf, 0, none⟩ = some (.func (.func 117) #[] #[.pointer (some ⟨bm, 0, none⟩), .pointer (some ⟨bo, 0, none⟩), .pointer (some ⟨bc, 0, none⟩), .pointer (some ⟨bf, 0, none⟩)]) →
    Calls Tryz.prog 117 #[.int .i64 i, .pointer (some ⟨bm, 0, none⟩), .pointer (some ⟨bo, 0, none⟩), .pointer (some ⟨bc, 0, none⟩), .pointer (some ⟨bf, 0, none⟩)] w fun e w' => e = .returned (.bool (srch (ts.map toN) f i cs).isSome) ∧ ColAt w' cb cm ((srch (ts.map toN) f i cs).getD cs) ∧ Frm w w' cb
  | 0, i, cs, w, hif, hn, hmi, hft, hBw, hz, hc, g1, g2, g3, g4, g5 => by
    have ei : i = n := by omega
    subst ei
    have R0 : Hid (srch (ts.map toN) 0 i cs = some cs) := hide rfl
    rw [R0.out]
    have HC := hide hc
    clear hc hz hmi hin ht hn R0 hd hft
    go_enter Tryz.func117, Tryz.ntmps117
    go_wp2_with fail
    go_ret
    exact ⟨rfl, HC.out, Frm.refl _ _⟩
  | f + 1, i, cs, w, hif, hn, hmi, hft, hBw, hz, hc, g1, g2, g3, g4, g5 => by
    have hi : i < n := by omega
    have l1 := World.block_lt_of_cell? w _ g1
    have l2 := World.block_lt_of_cell? w _ g2
    have l3 := World.block_lt_of_cell? w _ g3
    have l4 := World.block_lt_of_cell? w _ g4
    have l5 := World.block_lt_of_cell? w _ g5
    have IH := hide (fun (x : Nat) (W : World) (hF : Frm w W cb) (hcW : ColAt W cb cm (cs.set i (x : Int))) (hfx : fitC (ts.map toN) (cs.set i (x : Int)) = true) => from_any ts Z m d n c cm cb B bm bo bl bc bf ht hm hn2 hnc hin hd hB n1 n2 n3 n4 n5 f (i + 1) (cs.set i (x : Int)) W (by omega) (by rw [List.length_set]; exact hn) (fun j h1 h2 => by rw [gi_set (by omega), if_neg (by omega)]; exact hmi j (by omega) h2) hfx (Nat.le_trans hBw hF.size) (hz.below (hF.below hB hBw)) hcW ((hF.cell (b := bm) l1 n1).trans g1) ((hF.cell (b := bo) l2 n2).trans g2) ((hF.cell (b := bl) l3 n3).trans g3) ((hF.cell (b := bc) l4 n4).trans g4) ((hF.cell (b := bf) l5 n5).trans g5))
    have CLA := hide (fun (x : Nat) (W : World) (hF : Frm w W cb) (hcW : ColAt W cb cm (cs.set i (x : Int))) => clash_any ts (cs.set i (x : Int)) Z m d i n c cm cb bl bo W ht hm (by rw [List.length_set]; exact hn) hi hnc hn2 hin ((hz.below (hF.below hB hBw)).more (Nat.le_trans hBw hF.size)) hcW ((hF.cell (b := bl) l3 n3).trans g3) ((hF.cell (b := bo) l2 n2).trans g2))
    have CFT := hide (fun (x : Nat) => clash_fit (ts := ts) (cs := cs) (n := n) (i := i) (k := (x : Int)) (fun j hj => hin j (by omega)) hd hn hi (by omega) hft)
    have SB := hide (set_back (by omega) (hmi i (Nat.le_refl _) hi))
    have HIT := hide (fun k hk h r hr => srch_hit (T := ts.map toN) (f := f) (i := i) (k := k) (cs := cs) (r := r) hk h hr)
    have MISS := hide (srch_miss (T := ts.map toN) (f := f) (i := i) (cs := cs))
    have TR : Hid (∀ k, tryC (ts.map toN) f i cs k = if fitC (ts.map toN) (cs.set i (k : Int)) then srch (ts.map toN) f (i + 1) (cs.set i (k : Int)) else none) := hide (fun k => rfl)
    have HC := hide hc
    have lcb := hc.lt
    have G1 := hide g1
    have G2 := hide g2
    have G4 := hide g4
    have G5 := hide g5
    have HN := hide hn
    have E1 : ∀ args w, (callFunc 114 args).run Tryz.prog w = .ok (.enter 114 args) w := enters _ Tryz.func114 (by kernel_rfl) rfl
    have E2 : ∀ args w, (callFunc 117 args).run Tryz.prog w = .ok (.enter 117 args) w := enters _ Tryz.func117 (by kernel_rfl) rfl
    clear hc hz hmi hin ht hn hd hft g2 g3 g4 g5
    generalize srch (ts.map toN) (f + 1) i cs = R at *
    have w1 : IntKind.i64.wrap ((i : Int) + 1) = ((i + 1 : Nat) : Int) := by rw [IntWalk.i64_in _ (by omega)]; push_cast; rfl
    have dl : ((i : Int) == (n : Int)) = false := by rw [beq_eq_false_iff_ne]; omega
    have q3 : (0 : Int) ≤ (i : Int) := by omega
    have q4 : (i : Int) < (n : Int) := by omega
    go_enter Tryz.func117, Tryz.ntmps117
    go_wp2_with fail
    clear g1
    go_loopw [10] (fun u10 wr => ∃ (k : Nat) (y : Int), k ≤ 3 ∧ u10 = .int .i64 k ∧ ColAt wr cb cm (cs.set i y) ∧ Hid (∀ x, x < k → tryC (ts.map toN) f i cs x = none) ∧ Frm w wr cb) (fun u10 _ => 3 - (intOf u10).toNat)
    case atStart => exact ⟨0, -1, by omega, rfl, by rw [SB.out]; exact HC.out, hide (fun x hx => by omega), Frm.refl _ _⟩
    case round =>
      obtain ⟨k, y, hk, rfl, hca, HP, hF⟩ := hrel
      have e2 := (hF.cell (b := bo) (j := 0) l2 n2).trans G2.out
      have e4 := (hF.cell (b := bc) (j := 0) l4 n4).trans G4.out
      have e5 := (hF.cell (b := bf) (j := 0) l5 n5).trans G5.out
      have hck := hca.cell (i := i) (by rw [List.length_set]; have := HN.out; omega)
      have hfr := hca.frozen i
      have hsz := hF.size
      have CA := hide (fun (x : Int) => hca.set (i := i) (by rw [List.length_set]; have := HN.out; omega) x)
      generalize gi (cs.set i y) i = yy at *
      by_cases hlt : k < 3
      · have d3 : decide ((k : Int) < 3) = true := decide_eq_true (by omega)
        have F1 : Hid (Frm w (wr.setCell ⟨cb, i, none⟩ (.int .i64 (k : Int))) cb) := hide (hF.trans (Frm.set _ _ _ _))
        have C1 : Hid (ColAt (wr.setCell ⟨cb, i, none⟩ (.int .i64 (k : Int))) cb cm (cs.set i (k : Int))) := hide (by have := CA.out (k : Int); rw [List.set_set] at this; exact this)
        have CLk := hide (CLA.out k _ F1.out C1.out)
        have CFk := hide (CFT.out k)
        have TRk := hide (TR.out k)
        have NX : Hid (tryC (ts.map toN) f i cs k = none → ∀ x, x < k + 1 → tryC (ts.map toN) f i cs x = none) := hide (fun h x hx => by
          by_cases ee : x = k
          · rw [ee]; exact h
          · exact HP.out x (by omega))
        have HITk := hide (fun r hr => HIT.out k hlt HP.out r hr)
        have IHk := hide (fun (W : World) (hF : Frm w W cb) (hcW : ColAt W cb cm (cs.set i (k : Int))) (hfx : fitC (ts.map toN) (cs.set i (k : Int)) = true) => IH.out k W hF hcW hfx)
        clear hca CA CLA CFT TR HIT MISS HP IH
        cases hcl : clashB ts (cs.set i (k : Int)) i
        · rw [hcl] at CLk CFk
          have CFk : Hid (fitC (ts.map toN) (cs.set i (k : Int)) = true) := hide CFk.out
          have TR2 : Hid (tryC (ts.map toN) f i cs k = srch (ts.map toN) f (i + 1) (cs.set i (k : Int))) := hide (by rw [TRk.out, if_pos CFk.out])
          have IH2 := hide (fun (W : World) (hF : Frm w W cb) (hcW : ColAt W cb cm (cs.set i (k : Int))) => IHk.out W hF hcW CFk.out)
          rw [TR2.out] at NX HITk
          clear hcl TRk TR2 IHk CFk
          generalize srch (ts.map toN) f (i + 1) (cs.set i (k : Int)) = S at *
          go_wp2_with (go_at_fn 114; refine CLk.out.mono ?_; rintro e w2 ⟨rfl, hx2⟩; have D2 := ext_bel hx2; have F2 := hide (F1.out.trans (Frm.bel cb D2)); have C2 := hide (C1.out.bel D2); have e5b := (F2.out.cell (b := bf) (j := 0) l5 n5).trans G5.out; clear hx2 D2)
          refine (IH2.out _ F2.out C2.out).mono ?_
          rintro e w3 ⟨rfl, ca3, F3⟩
          have F3h := hide (F2.out.trans F3)
          have e2c := (F3h.out.cell (b := bo) (j := 0) l2 n2).trans G2.out
          cases S with
          | none =>
            have NY := hide (NX.out rfl)
            have CA3 := hide ca3
            clear NX HITk ca3 F3
            go_wp2_with fail
            exact ⟨⟨k + 1, (k : Int), by omega, by go_num, CA3.out, NY, F3h.out⟩, by simp [intOf]; omega⟩
          | some r =>
            have HV := HITk.out r rfl
            have CA3 := hide ca3
            subst HV
            clear NX HITk ca3 F3
            go_wp2_with fail
            go_ret
            exact ⟨rfl, CA3.out, F3h.out⟩
        · rw [hcl] at CLk CFk
          have NY := hide (NX.out (by rw [TRk.out, if_neg (by rw [CFk.out]; decide)]))
          clear hcl TRk NX HITk IHk CFk
          go_wp2_with (go_at_fn 114; refine CLk.out.mono ?_; rintro e w2 ⟨rfl, hx2⟩; have D2 := ext_bel hx2; have F2 := hide (F1.out.trans (Frm.bel cb D2)); have C2 := hide (C1.out.bel D2); clear hx2 D2)
          exact ⟨⟨k + 1, (k : Int), by omega, by go_num, C2.out, NY, F2.out⟩, by simp [intOf]; omega⟩
      · have d3 : decide ((k : Int) < 3) = false := decide_eq_false (by omega)
        have HV := MISS.out (fun x hx => HP.out x (by omega))
        subst HV
        have F1 : Hid (Frm w (wr.setCell ⟨cb, i, none⟩ (.int .i64 (-1))) cb) := hide (hF.trans (Frm.set _ _ _ _))
        have C1 : Hid (ColAt (wr.setCell ⟨cb, i, none⟩ (.int .i64 (-1))) cb cm cs) := hide (by have := CA.out (-1); rw [List.set_set, SB.out] at this; exact this)
        clear hca CA CLA CFT TR HIT MISS HP IH
        go_wp2_with fail
        go_ret
        exact ⟨rfl, C1.out, F1.out⟩
end Go.Proofs.YtkkmioffclpmfaaGreat
/- Colors of the program: impl.colors. -/
set_option linter.unusedVariables false
set_option linter.unusedSimpArgs false
namespace Go.Proofs.YtkkmioffclpmfaaGreat
open Go.RowKit

set_option maxRecDepth 20000 in
set_option maxHeartbeats 2000000 in
theorem colors_any (ts : List TI) (Z : Option Addr) (m d n : Nat) (w : World) (ht : ts.length = m) (hm : m ≤ 2000000) (h0 : 0 < n) (hn2 : n ≤ 1000000) (hin : ∀ j, j < m → tIn n (gt ts j) = true) (hd : ∀ j, j < ts.length → (gt ts j).a ≠ (gt ts j).b ∧ (gt ts j).b ≠ (gt ts j).c ∧ (gt ts j).a ≠ (gt ts j).c) (hft : fitC (ts.map toN) (noCol n) = true) (hz : TrisAt w w.heap.size Z ts) :
    Calls Tryz.prog 67 #[.int .i64 n, .slice Z m d] w fun e w' => ∃ g, e = .returned (.slice (some ⟨g, 0, none⟩) n n) ∧ w.heap.size ≤ g ∧ ColAt w' g n (colL (ts.map toN) n) ∧ ∃ x, w' = ext w x := by
  have FR := hide (fun (cb bo bc bf : Nat) (W : World) (hb : Below w.heap.size w W) (hcb : w.heap.size + 2 ≤ cb) (n2 : bo ≠ cb) (n4 : bc ≠ cb) (n5 : bf ≠ cb) (hc : ColAt W cb n (noCol n)) g1 g2 g3 g4 g5 =>
    from_any ts Z m d n n n cb w.heap.size w.heap.size bo (w.heap.size + 1) bc bf ht hm (by omega) (Nat.le_refl _) hin hd (by omega) (by omega) n2 (by omega) n4 n5 n 0 (noCol n) W (by omega) (noCol_len n) (fun j _ hj => gi_noCol' hj) hft hb.size (hz.below hb) hc g1 g2 g3 g4 g5)
  have CL : Hid ((srch (ts.map toN) n 0 (noCol n)).getD (noCol n) = colL (ts.map toN) n) := hide rfl
  rw [CL.out] at FR
  have LL := hide (colL_len (ts.map toN) n)
  have RE := hide (fun (b c : Nat) (W : World) (hx : W.cell? ⟨b, 0, none⟩ = some (.int .i64 (-1))) => rep_any (-1) b c n W h0 (by omega) hx)
  have E2 : ∀ args w, (callFunc 117 args).run Tryz.prog w = .ok (.enter 117 args) w := enters _ Tryz.func117 (by kernel_rfl) rfl
  have ST : ∀ (W : World) (a : Addr) (f : Fn) (x y : Array Value) (md : Mode), (store a (.func f x y) md).run Tryz.prog W = stored Tryz.prog W a (.func f x y) md := fun W a f x y md => run_store Tryz.prog W a (.func f x y) md rfl
  have CP := hide (fun (g : Nat) (W : World) => clipN_any (some ⟨g, 0, none⟩) n n W (Nat.le_refl _) (by omega) (fun _ h => by cases h))
  clear hz hin ht CL hd hft
  generalize colL (ts.map toN) n = CO at *
  generalize (srch (ts.map toN) n 0 (noCol n)).isSome = bb at *
  go_enter Tryz.func67, Tryz.ntmps67
  go_wp2_with fail
  refine (RE.out _ _ _ (by simp [go_sem, ↓IntWalk.iteOmega])).mono ?_
  rintro e w2 ⟨g, rfl, hg, ca, hx2⟩
  have D2 := ext_bel hx2
  have hg : w.heap.size + 3 ≤ g := by simpa using hg
  have lg := ca.lt
  have CA := hide ca
  have B2 := hide ((show Below w.heap.size w _ from (by (repeat' (first | (with_reducible first | exact Below.refl _ _ | assumption | refine below_ext _ ?_ ?_ | refine Below.alloc ?_ ?_ _ | refine Below.drew ?_ | refine below_drewN ?_ _ | refine le_drewN _ ?_ | refine Below.setCell ?_ ?_ _ | exact Nat.le_refl _ | refine le_ext _ ?_ | refine le_alloc _ ?_ | refine le_setCell _ _ ?_ | refine le_drew ?_) | omega | (simp; done) | (simp; omega))))).trans (D2.mono (show w.heap.size ≤ _ by simp; omega)))
  have g1 : w2.cell? ⟨w.heap.size, 0, none⟩ = some (.int .i64 n) := (D2.cell (p := ⟨w.heap.size, 0, none⟩) (by simp; omega)).trans (by simp [go_sem, ↓IntWalk.iteOmega])
  have g3 : w2.cell? ⟨w.heap.size + 1, 0, none⟩ = some (.slice Z m d) := (D2.cell (p := ⟨w.heap.size + 1, 0, none⟩) (by simp)).trans (by simp [go_sem, ↓IntWalk.iteOmega])
  clear ca hx2 D2
  have hs2 : w.heap.size + 1 < w2.heap.size := by omega
  go_wp2_with fail
  refine (FR.out g w2.heap.size (w2.heap.size + 1) (w2.heap.size + 1 + 1) _ (B2.out.trans (by (repeat' (first | (with_reducible first | exact Below.refl _ _ | assumption | refine below_ext _ ?_ ?_ | refine Below.alloc ?_ ?_ _ | refine Below.drew ?_ | refine below_drewN ?_ _ | refine le_drewN _ ?_ | refine Below.setCell ?_ ?_ _ | exact Nat.le_refl _ | refine le_ext _ ?_ | refine le_alloc _ ?_ | refine le_setCell _ _ ?_ | refine le_drew ?_) | omega | (simp; done) | (simp; omega))))) (by omega) (by omega) (by omega) (by omega) (CA.out.bel (by (repeat' (first | (with_reducible first | exact Below.refl _ _ | assumption | refine below_ext _ ?_ ?_ | refine Below.alloc ?_ ?_ _ | refine Below.drew ?_ | refine below_drewN ?_ _ | refine le_drewN _ ?_ | refine Below.setCell ?_ ?_ _ | exact Nat.le_refl _ | refine le_ext _ ?_ | refine le_alloc _ ?_ | refine le_setCell _ _ ?_ | refine le_drew ?_) | omega | (simp; done) | (simp; omega))))) (by simp [go_sem, ↓IntWalk.iteOmega, g1]) (by simp [go_sem, ↓IntWalk.iteOmega]) (by simp [go_sem, ↓IntWalk.iteOmega, g3]) (by simp [go_sem, ↓IntWalk.iteOmega]) (by simp [go_sem, ↓IntWalk.iteOmega])).mono ?_
  rintro e w3 ⟨rfl, ca3, F3⟩
  have cl3 := (F3.cell (b := w2.heap.size) (j := 0) (by simp; omega) (by omega)).trans (show _ = some (Value.slice (some ⟨g, 0, none⟩) n n) by simp [go_sem, ↓IntWalk.iteOmega])
  have CA3 := hide ca3
  have B3 := hide ((B2.out.trans (by (repeat' (first | (with_reducible first | exact Below.refl _ _ | assumption | refine below_ext _ ?_ ?_ | refine Below.alloc ?_ ?_ _ | refine Below.drew ?_ | refine below_drewN ?_ _ | refine le_drewN _ ?_ | refine Below.setCell ?_ ?_ _ | exact Nat.le_refl _ | refine le_ext _ ?_ | refine le_alloc _ ?_ | refine le_setCell _ _ ?_ | refine le_drew ?_) | omega | (simp; done) | (simp; omega))))).trans (F3.below (B := w.heap.size) (by omega) (by simp; omega)))
  clear ca3 F3
  go_wp2_with fail
  refine (CP.out g w3).mono ?_
  rintro e w' ⟨rfl, hw⟩
  have hw := hw.symm
  subst hw
  go_wp2_with fail
  go_ret
  exact ⟨g, rfl, by omega, CA3.out, ext_mk B3.out⟩
end Go.Proofs.YtkkmioffclpmfaaGreat
/- ColorVertices of the program and of the reference. -/
set_option linter.unusedVariables false
set_option linter.unusedSimpArgs false
namespace Go.Proofs.YtkkmioffclpmfaaGreat
open Go.RowKit

def colV (ps : List Pt) (ts : List TI) : List Int := if chkT ps ts = true then colL (ts.map toN) ps.length else []
theorem chk_tri {ps : List Pt} {ts : List TI} (h : chkT ps ts = true) : (∀ j, j < ts.length → tIn ps.length (gt ts j) = true) ∧ (∀ j, j < ts.length → (gt ts j).a ≠ (gt ts j).b ∧ (gt ts j).b ≠ (gt ts j).c ∧ (gt ts j).a ≠ (gt ts j).c) ∧ fitC (ts.map toN) (noCol ps.length) = true ∧ 3 ≤ ps.length ∧ ps.length ≤ 20 := by
  obtain ⟨hok, hl, ht, _, _⟩ := chk_parts h
  have hin : ∀ j, j < ts.length → tIn ps.length (gt ts j) = true := fun j hj => by
    have := ht _ (gt_mem hj)
    unfold tOk at this
    rw [Bool.and_eq_true] at this
    exact this.1
  obtain ⟨_, h3, h20, _, _⟩ := simB_parts (clipB_sim hok)
  refine ⟨hin, fun j hj => ?_, fit_noCol fun t hh => ?_, h3, h20⟩
  · obtain ⟨a, b, c, et, la, lb, lc⟩ := tIn_iff.1 (hin j hj)
    have h2 := (tOk_at (ht _ (gt_mem hj))).1
    rw [et] at h2 ⊢
    unfold TriOk toN at h2
    simp only [Int.toNat_natCast] at h2
    obtain ⟨_, _, _, d1, d2, d3⟩ := h2
    exact ⟨fun e => d1 (by have e : (a : Int) = b := e; omega), fun e => d2 (by have e : (b : Int) = c := e; omega), fun e => d3 (by have e : (a : Int) = c := e; omega)⟩
  · obtain ⟨s, hs, rfl⟩ := List.mem_map.1 hh
    have h2 := (tOk_at (ht _ hs)).1
    exact ⟨h2.1, h2.2.1, h2.2.2.1⟩
theorem ColAt.irow {w : World} {base g m : Nat} {cs : List Int} (h : ColAt w g m cs) (hb : base ≤ g) : IRow w base (some ⟨g, 0, none⟩) cs := fun _ => by
  obtain ⟨h1, f, hr, hf⟩ := h
  exact ⟨g, m, f, rfl, hb, h1, hr, hf⟩
end Go.Proofs.YtkkmioffclpmfaaGreat
