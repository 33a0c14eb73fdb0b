
/- The sums of all pairs of points: the reference's and the program's. -/
import Derived.Test.YtoendanihhocjaaSHull
set_option linter.unusedVariables false
set_option linter.unusedSimpArgs false
namespace Go.Proofs.Ytoendanihhocjaa
open Go.RowKit

def partL (a b : List Pt) (i k : Nat) : List Pt := sumsL (a.take i) b ++ (b.take k).map (addP (gp a i))
theorem partL_zero (a b : List Pt) (i : Nat) : partL a b i 0 = sumsL (a.take i) b := by simp [partL]
theorem partL_step {a b : List Pt} {i k : Nat} (hk : k < b.length) : partL a b i (k + 1) = partL a b i k ++ [⟨pX a i + pX b k, pY a i + pY b k⟩] := by
  unfold partL
  rw [List.take_succ_eq_append_getElem hk, List.map_append, ← List.append_assoc, ← gp_lt hk]; rfl
theorem partL_full {a b : List Pt} {i : Nat} (hi : i < a.length) : partL a b i b.length = partL a b (i + 1) 0 := by
  unfold partL sumsL
  rw [List.take_succ_eq_append_getElem hi, List.flatMap_append, List.take_length, gp_lt hi]; simp
theorem sumsL_len (a b : List Pt) : (sumsL a b).length = a.length * b.length := by
  unfold sumsL
  induction a with
  | nil => simp
  | cons p a ih => rw [List.flatMap_cons, List.length_append, ih, List.length_map, List.length_cons, Nat.succ_mul]; omega
theorem partL_len {a b : List Pt} (ha : a.length ≤ 1000) (hb : b.length ≤ 1000) (i k : Nat) : (partL a b i k).length ≤ 2000000 := by
  unfold partL
  rw [List.length_append, sumsL_len, List.length_map, List.length_take, List.length_take]
  have := Nat.mul_le_mul (show min i a.length ≤ 1000 by omega) hb
  omega
theorem heap_alloc_old (w : World) (o : Obj) (j : Nat) (h : j < w.heap.size) : (w.alloc o).heap[j]? = w.heap[j]? := Below.heap_alloc _ _ _ h
set_option maxHeartbeats 2000000 in
theorem ssums_any (a b : List Pt) (A1 A2 : Option Addr) (n1 c1 n2 c2 : Nat) (w : World) (h1 : a.length = n1) (h2 : b.length = n2) (m1 : n1 ≤ 1000) (m2 : n2 ≤ 1000) (B1 : InB a) (B2 : InB b) (s1 : PtsAt w w.heap.size A1 a) (s2 : PtsAt w w.heap.size A2 b) :
    Calls Try.prog 45 #[.slice A1 n1 c1, .slice A2 n2 c2] w fun e w' => ∃ v, e = .returned v ∧ OwnP w' w.heap.size v (sumsL a b) ∧ ∃ x, w' = ext w x := by
  have HN1 := hide h1
  have HN2 := hide h2
  have HB1 := hide B1
  have HB2 := hide B2
  clear h1 h2 B1 B2
  go_enter Try.func45, Try.ntmps45
  go_wp2
  go_loopw [5, 6] (fun u5 u6 wr => ∃ (i : Nat), i ≤ n1 ∧ u6 = .int .i64 i ∧ OwnP wr w.heap.size u5 (partL a b i 0) ∧ Below w.heap.size w wr) (fun _ u6 _ => n1 - (intOf u6).toNat)
  case atStart => exact ⟨0, Nat.zero_le _, rfl, OwnP.empty w w.heap.size 0 (Nat.le_refl _) #[] rfl (by simp [maxLen]), (by (repeat' (first | (with_reducible exact Below.refl _ _) | (with_reducible assumption) | (with_reducible refine below_ext _ ?_ ?_) | (with_reducible refine Below.alloc ?_ ?_ _) | (with_reducible refine Below.drew ?_) | (with_reducible refine below_drewN ?_ _) | (with_reducible refine le_drewN _ ?_) | (with_reducible refine Below.setCell ?_ ?_ _) | (with_reducible exact Nat.le_refl _) | (with_reducible refine le_ext _ ?_) | (with_reducible refine le_alloc _ ?_) | (with_reducible refine le_setCell _ _ ?_) | (with_reducible refine le_drew ?_) | omega | (simp; done) | (simp; omega))))⟩
  case round =>
    obtain ⟨i, hi, rfl, hown, hbel⟩ := hrel
    obtain ⟨A0, n0, c0, rfl⟩ := hown.slice
    have hsz := hbel.size
    have OWN0 := hide hown
    clear hown
    by_cases hlt : i < n1
    · obtain ⟨b1, o1, rfl, hbl1, hc1⟩ := s1 (by rw [HN1.out]; omega)
      obtain ⟨hx0, hy0⟩ := hc1 i (by rw [HN1.out]; omega)
      obtain ⟨⟨p1, p2⟩, p3, p4⟩ := HB1.out.at (i := i) (by rw [HN1.out]; exact hlt)
      clear hc1
      go_wp2
      go_loopw [5, 7] (fun u5 u7 wi => ∃ (k : Nat), k ≤ n2 ∧ u7 = .int .i64 k ∧ OwnP wi w.heap.size u5 (partL a b i k) ∧ Below w.heap.size w wi) (fun _ u7 _ => n2 - (intOf u7).toNat)
      case atStart => exact ⟨0, Nat.zero_le _, rfl, OWN0.out, hbel⟩
      case round =>
        obtain ⟨k, hk, rfl, hown, hbi⟩ := hrel
        obtain ⟨A3, n3, c3, rfl⟩ := hown.slice
        have hszi := hbi.size
        have OWN3 := hide hown
        clear hown
        have hx := (hbi.cell (p := ⟨b1, o1 + i * 2, none⟩) hbl1).trans hx0
        have hy := (hbi.cell (p := ⟨b1, o1 + i * 2 + 1, none⟩) hbl1).trans hy0
        by_cases hlt2 : k < n2
        · obtain ⟨b2, o2, rfl, hbl2, hc2⟩ := s2 (by rw [HN2.out]; omega)
          obtain ⟨hx20, hy20⟩ := hc2 k (by rw [HN2.out]; omega)
          have hx2 := (hbi.cell (p := ⟨b2, o2 + k * 2, none⟩) hbl2).trans hx20
          have hy2 := (hbi.cell (p := ⟨b2, o2 + k * 2 + 1, none⟩) hbl2).trans hy20
          obtain ⟨⟨p5, p6⟩, p7, p8⟩ := HB2.out.at (i := k) (by rw [HN2.out]; exact hlt2)
          clear hc2 hx20 hy20
          have NX := hide (partL_step (a := a) (b := b) (i := i) (k := k) (by rw [HN2.out]; exact hlt2))
          have NL := partL_len (a := a) (b := b) (by rw [HN1.out]; exact m1) (by rw [HN2.out]; exact m2) i k
          have OD : Hid (∀ o, OwnP (wr.drew.alloc o) w.heap.size (.slice A3 n3 c3) (partL a b i k)) := hide (fun o => OWN3.out.below (by (repeat' (first | (with_reducible exact Below.refl _ _) | (with_reducible assumption) | (with_reducible refine below_ext _ ?_ ?_) | (with_reducible refine Below.alloc ?_ ?_ _) | (with_reducible refine Below.drew ?_) | (with_reducible refine below_drewN ?_ _) | (with_reducible refine le_drewN _ ?_) | (with_reducible refine Below.setCell ?_ ?_ _) | (with_reducible exact Nat.le_refl _) | (with_reducible refine le_ext _ ?_) | (with_reducible refine le_alloc _ ?_) | (with_reducible refine le_setCell _ _ ?_) | (with_reducible refine le_drew ?_) | omega | (simp; done) | (simp; omega)))))
          have SZ : Hid (∀ o : Obj, w.heap.size ≤ (wr.drew.alloc o).heap.size) := hide (fun o => by simp; omega)
          have SC : Hid (∀ W : World, (∀ j, j < w.heap.size → W.heap[j]? = wr.heap[j]?) → W.cell? ⟨b1, o1 + i * 2, none⟩ = some (.int .i64 (pX a i)) ∧ W.cell? ⟨b1, o1 + i * 2 + 1, none⟩ = some (.int .i64 (pY a i)) ∧ W.cell? ⟨b2, o2 + k * 2, none⟩ = some (.int .i64 (pX b k)) ∧ W.cell? ⟨b2, o2 + k * 2 + 1, none⟩ = some (.int .i64 (pY b k))) := hide (fun W hW => by
            exact ⟨(World.cell?_of_block (hW _ hbl1)).trans hx, (World.cell?_of_block (hW _ hbl1)).trans hy, (World.cell?_of_block (hW _ hbl2)).trans hx2, (World.cell?_of_block (hW _ hbl2)).trans hy2⟩)
          have i1 : IntKind.i64.wrap (i : Int) = i := IntWalk.i64_in _ (by omega)
          have i2 : IntKind.i64.wrap (k : Int) = k := IntWalk.i64_in _ (by omega)
          have i3 : IntKind.i64.wrap (pX a i + pX b k) = pX a i + pX b k := IntWalk.i64_in _ (by omega)
          have i4 : IntKind.i64.wrap (pY a i + pY b k) = pY a i + pY b k := IntWalk.i64_in _ (by omega)
          have q1 : (0 : Int) ≤ (i : Int) := by omega
          have q2 : (0 : Int) ≤ (k : Int) := by omega
          have q3 : (i : Int) < (n1 : Int) := by omega
          have q4 : (k : Int) < (n2 : Int) := by omega
          go_wp2_with fail
          go_region_held3 (fun W => W.cell? ⟨b1, o1 + i * 2, none⟩ = some (.int .i64 (pX a i)) ∧ W.cell? ⟨b1, o1 + i * 2 + 1, none⟩ = some (.int .i64 (pY a i)) ∧ W.cell? ⟨b2, o2 + k * 2, none⟩ = some (.int .i64 (pX b k)) ∧ W.cell? ⟨b2, o2 + k * 2 + 1, none⟩ = some (.int .i64 (pY b k))) (first | exact SC.out _ (fun j _ => rfl) | exact SC.out _ (fun j hj => heap_alloc_old _ _ j (Nat.lt_of_lt_of_le hj hszi)) | exact SC.out _ (fun j hj => (B7.out.block j hj).trans (heap_alloc_old _ _ j (Nat.lt_of_lt_of_le hj hszi)))) (first | (refine step_pt (by rfl) (.tmp 21) (.tmp 45) (by rfl) w.heap.size (.slice A3 n3 c3) (partL a b i k) (by rfl) (OD.out _) (pX a i + pX b k) (pY a i + pY b k) _ _ (by rfl) ((heap_cell (heap_alloc_new _ _) 0).trans rfl) ((heap_cell (heap_alloc_new _ _) 1).trans rfl) NL (SZ.out _) ?_; intro v7 w7 hown7 hb7 hat7 hgr7; obtain ⟨A7, n7, c7, rfl⟩ := hown7.slice; have O7 := hide hown7; have B7 := hide hb7; clear hown7 hat7 hgr7 hb7))
          go_wp2_with fail
          exact ⟨⟨k + 1, by omega, by go_num, by rw [NX.out]; exact O7.out, Below.trans (Below.trans hbi (by (repeat' (first | (with_reducible exact Below.refl _ _) | (with_reducible assumption) | (with_reducible refine below_ext _ ?_ ?_) | (with_reducible refine Below.alloc ?_ ?_ _) | (with_reducible refine Below.drew ?_) | (with_reducible refine below_drewN ?_ _) | (with_reducible refine le_drewN _ ?_) | (with_reducible refine Below.setCell ?_ ?_ _) | (with_reducible exact Nat.le_refl _) | (with_reducible refine le_ext _ ?_) | (with_reducible refine le_alloc _ ?_) | (with_reducible refine le_setCell _ _ ?_) | (with_reducible refine le_drew ?_) | omega | (simp; done) | (simp; omega))))) B7.out⟩, by simp [intOf]; omega⟩
        · have : k = n2 := by omega
          subst this
          have FU := hide (partL_full (a := a) (b := b) (i := i) (by rw [HN1.out]; exact hlt))
          rw [HN2.out] at FU
          rw [FU.out] at OWN3
          go_wp2
          exact ⟨⟨i + 1, by omega, by go_num, OWN3.out, hbi⟩, by simp [intOf]; omega⟩
    · have : i = n1 := by omega
      subst this
      go_wp2
      go_ret
      exact ⟨_, rfl, by rw [show sumsL a b = partL a b i 0 from by rw [partL_zero, List.take_of_length_le (by rw [HN1.out]; exact Nat.le_refl _)]]; exact OWN0.out, ext_mk hbel⟩
set_option maxHeartbeats 2000000 in
theorem sums_any (a b : List Pt) (A1 A2 : Option Addr) (n1 c1 n2 c2 : Nat) (w : World) (h1 : a.length = n1) (h2 : b.length = n2) (m1 : n1 ≤ 1000) (m2 : n2 ≤ 1000) (B1 : InB a) (B2 : InB b) (s1 : PtsAt w w.heap.size A1 a) (s2 : PtsAt w w.heap.size A2 b) :
    Calls Try.prog 49 #[.slice A1 n1 c1, .slice A2 n2 c2] w fun e w' => ∃ v, e = .returned v ∧ OwnP w' w.heap.size v (sumsL a b) ∧ ∃ x, w' = ext w x := by
  have HN1 := hide h1
  have HN2 := hide h2
  have HB1 := hide B1
  have HB2 := hide B2
  clear h1 h2 B1 B2
  obtain ⟨i0, hi, hz0, hz1, hz2⟩ := info_parts ptElt.inf
  have IP := hide (And.intro hi (And.intro hz0 (And.intro hz1 hz2)))
  clear hi hz0 hz1 hz2
  have hMM := Nat.mul_le_mul m1 m2
  generalize hM : n1 * n2 = M at hMM
  have hmul : (n1 : Int) * (n2 : Int) = (M : Int) := by rw [← hM]; simp
  have mk1 : i0.bytes * M ≤ 281474976710656 := by rw [IP.out.2.2.2]; omega
  have mk2 : M ≤ maxLen := by unfold maxLen; omega
  clear hM
  have HMU := hide hmul
  go_enter Try.func49, Try.ntmps49
  go_wp2_with (refine wpList_make_own _ rfl (.const (.int .i64 0)) (.tmp 14) 23 rfl w.heap.size 25 i0 _ 2 ptElt.und IP.out.1 IP.out.2.1 IP.out.2.2.1 .i64 .i64 _ M rfl rfl rfl mk1 mk2 (Nat.le_refl _) ?_; intro w1 hown1 hgr1; have O1 := hide (show OwnP w1 w.heap.size _ [] from hown1); have B1 := hide ((Below.refl _ _).grown hgr1 (Nat.le_refl _) (fun k hk => by cases hk)); clear hown1 hgr1)
  go_loopw [5, 18] (fun u5 u18 wr => ∃ (i : Nat), i ≤ n1 ∧ u18 = .int .i64 i ∧ OwnP wr w.heap.size u5 (partL a b i 0) ∧ Below w.heap.size w wr) (fun _ u18 _ => n1 - (intOf u18).toNat)
  case atStart => exact ⟨0, Nat.zero_le _, rfl, O1.out.below (by (repeat' (first | (with_reducible exact Below.refl _ _) | (with_reducible assumption) | (with_reducible refine below_ext _ ?_ ?_) | (with_reducible refine Below.alloc ?_ ?_ _) | (with_reducible refine Below.drew ?_) | (with_reducible refine below_drewN ?_ _) | (with_reducible refine le_drewN _ ?_) | (with_reducible refine Below.setCell ?_ ?_ _) | (with_reducible exact Nat.le_refl _) | (with_reducible refine le_ext _ ?_) | (with_reducible refine le_alloc _ ?_) | (with_reducible refine le_setCell _ _ ?_) | (with_reducible refine le_drew ?_) | omega | (simp; done) | (simp; omega)))), Below.trans B1.out (by (repeat' (first | (with_reducible exact Below.refl _ _) | (with_reducible assumption) | (with_reducible refine below_ext _ ?_ ?_) | (with_reducible refine Below.alloc ?_ ?_ _) | (with_reducible refine Below.drew ?_) | (with_reducible refine below_drewN ?_ _) | (with_reducible refine le_drewN _ ?_) | (with_reducible refine Below.setCell ?_ ?_ _) | (with_reducible exact Nat.le_refl _) | (with_reducible refine le_ext _ ?_) | (with_reducible refine le_alloc _ ?_) | (with_reducible refine le_setCell _ _ ?_) | (with_reducible refine le_drew ?_) | omega | (simp; done) | (simp; omega))))⟩
  case round =>
    obtain ⟨W0, hW0⟩ : ∃ W0, W0 = wr := ⟨_, rfl⟩
    subst hW0
    obtain ⟨i, hi, rfl, hown, hbel⟩ := hrel
    obtain ⟨A0, n0, c0, rfl⟩ := hown.slice
    have hsz := hbel.size
    have OWN0 := hide hown
    have NG := hide hown.lt2
    clear hown
    by_cases hlt : i < n1
    · obtain ⟨b1, o1, rfl, hbl1, hc1⟩ := s1 (by rw [HN1.out]; omega)
      obtain ⟨hx0, hy0⟩ := hc1 i (by rw [HN1.out]; omega)
      have hx := (hbel.cell (p := ⟨b1, o1 + i * 2, none⟩) hbl1).trans hx0
      have hy := (hbel.cell (p := ⟨b1, o1 + i * 2 + 1, none⟩) hbl1).trans hy0
      obtain ⟨⟨p1, p2⟩, p3, p4⟩ := HB1.out.at (i := i) (by rw [HN1.out]; exact hlt)
      clear hc1
      go_wp2
      have WR0 := hide hbel
      go_loopw [5, 24] (fun u5 u24 wi => ∃ (k : Nat), k ≤ n2 ∧ u24 = .int .i64 k ∧ OwnP wi w.heap.size u5 (partL a b i k) ∧ Below w.heap.size w wi ∧ Hid (∀ j, u5.ownBlock = some j → j ≠ W0.heap.size) ∧ W0.heap.size + 1 ≤ wi.heap.size ∧ Hid (wi.heap[W0.heap.size]? = some (.cells #[.int .i64 (pX a i), .int .i64 (pY a i)] 25 (0, 0)))) (fun _ u24 _ => n2 - (intOf u24).toNat)
      case atStart => exact ⟨0, Nat.zero_le _, rfl, OWN0.out.below (by (repeat' (first | (with_reducible exact Below.refl _ _) | (with_reducible assumption) | (with_reducible refine below_ext _ ?_ ?_) | (with_reducible refine Below.alloc ?_ ?_ _) | (with_reducible refine Below.drew ?_) | (with_reducible refine below_drewN ?_ _) | (with_reducible refine le_drewN _ ?_) | (with_reducible refine Below.setCell ?_ ?_ _) | (with_reducible exact Nat.le_refl _) | (with_reducible refine le_ext _ ?_) | (with_reducible refine le_alloc _ ?_) | (with_reducible refine le_setCell _ _ ?_) | (with_reducible refine le_drew ?_) | omega | (simp; done) | (simp; omega)))), Below.trans hbel (by (repeat' (first | (with_reducible exact Below.refl _ _) | (with_reducible assumption) | (with_reducible refine below_ext _ ?_ ?_) | (with_reducible refine Below.alloc ?_ ?_ _) | (with_reducible refine Below.drew ?_) | (with_reducible refine below_drewN ?_ _) | (with_reducible refine le_drewN _ ?_) | (with_reducible refine Below.setCell ?_ ?_ _) | (with_reducible exact Nat.le_refl _) | (with_reducible refine le_ext _ ?_) | (with_reducible refine le_alloc _ ?_) | (with_reducible refine le_setCell _ _ ?_) | (with_reducible refine le_drew ?_) | omega | (simp; done) | (simp; omega)))), hide (fun j hj => by have := NG.out j hj; omega), (by first | (simp; done) | (simp; omega)), hide (heap_alloc_new _ _)⟩
      case round =>
        obtain ⟨k, hk, rfl, hown, hbi, hne, hszo, hbox⟩ := hrel
        obtain ⟨A3, n3, c3, rfl⟩ := hown.slice
        have hszi := hbi.size
        have OWN3 := hide hown
        clear hown
        by_cases hlt2 : k < n2
        · obtain ⟨b2, o2, rfl, hbl2, hc2⟩ := s2 (by rw [HN2.out]; omega)
          obtain ⟨hx20, hy20⟩ := hc2 k (by rw [HN2.out]; omega)
          have hx2 := (hbi.cell (p := ⟨b2, o2 + k * 2, none⟩) hbl2).trans hx20
          have hy2 := (hbi.cell (p := ⟨b2, o2 + k * 2 + 1, none⟩) hbl2).trans hy20
          obtain ⟨⟨p5, p6⟩, p7, p8⟩ := HB2.out.at (i := k) (by rw [HN2.out]; exact hlt2)
          clear hc2 hx20 hy20
          have c0 := heap_cell hbox.out 0
          have c1 := heap_cell hbox.out 1
          simp at c0 c1
          have NX := hide (partL_step (a := a) (b := b) (i := i) (k := k) (by rw [HN2.out]; exact hlt2))
          have NL := hide (partL_len (a := a) (b := b) (by rw [HN1.out]; exact m1) (by rw [HN2.out]; exact m2) i k)
          go_wp2_with fail
          refine (plus_any _ _ _ _ _ (by omega) (by omega) (by omega) (by omega)).mono ?_
          rintro e w' ⟨rfl, hw'⟩; have hzy := ext_sz hw'; obtain ⟨y, rfl⟩ := hw'; (try simp at hzy)
          go_wp2_with (at_builtin; refine app_pt rfl _ _ rfl w.heap.size (.slice A3 n3 c3) (partL a b i k) rfl (OWN3.out.below (by (repeat' (first | (with_reducible exact Below.refl _ _) | (with_reducible assumption) | (with_reducible refine below_ext _ ?_ ?_) | (with_reducible refine Below.alloc ?_ ?_ _) | (with_reducible refine Below.drew ?_) | (with_reducible refine below_drewN ?_ _) | (with_reducible refine le_drewN _ ?_) | (with_reducible refine Below.setCell ?_ ?_ _) | (with_reducible exact Nat.le_refl _) | (with_reducible refine le_ext _ ?_) | (with_reducible refine le_alloc _ ?_) | (with_reducible refine le_setCell _ _ ?_) | (with_reducible refine le_drew ?_) | omega | (simp; done) | (simp; omega))))) (pX a i + pX b k) (pY a i + pY b k) _ _ rfl (by simp [go_sem]) (by simp [go_sem]) NL.out (by simp; omega) ?_; intro v' w' hown' hb' hat hgr; obtain ⟨A4, n4, c4, rfl⟩ := hown'.slice; have O4 := hide hown'; have AT := hide hat; have GR := hide hgr; have sz4 := hb'.size; clear hown' hat hgr)
          simp at sz4
          refine ⟨⟨k + 1, by omega, by go_num, by rw [NX.out]; exact O4.out, Below.trans (Below.trans hbi (by (repeat' (first | (with_reducible exact Below.refl _ _) | (with_reducible assumption) | (with_reducible refine below_ext _ ?_ ?_) | (with_reducible refine Below.alloc ?_ ?_ _) | (with_reducible refine Below.drew ?_) | (with_reducible refine below_drewN ?_ _) | (with_reducible refine le_drewN _ ?_) | (with_reducible refine Below.setCell ?_ ?_ _) | (with_reducible exact Nat.le_refl _) | (with_reducible refine le_ext _ ?_) | (with_reducible refine le_alloc _ ?_) | (with_reducible refine le_setCell _ _ ?_) | (with_reducible refine le_drew ?_) | omega | (simp; done) | (simp; omega))))) hb', hide ?_, by omega, hide ?_⟩, by simp [intOf]; omega⟩
          · intro j hj
            rcases AT.out with e | e
            · exact hne.out j (by rw [← e]; exact hj)
            · rw [e] at hj
              injection hj with hj
              subst hj
              simp
              omega
          · exact (GR.out.block _ (by simp; omega) (fun e => hne.out _ (show Value.ownBlock _ = _ from e.symm) rfl)).trans (((show Below wr.heap.size wr _ from (by (repeat' (first | (with_reducible exact Below.refl _ _) | (with_reducible assumption) | (with_reducible refine below_ext _ ?_ ?_) | (with_reducible refine Below.alloc ?_ ?_ _) | (with_reducible refine Below.drew ?_) | (with_reducible refine below_drewN ?_ _) | (with_reducible refine le_drewN _ ?_) | (with_reducible refine Below.setCell ?_ ?_ _) | (with_reducible exact Nat.le_refl _) | (with_reducible refine le_ext _ ?_) | (with_reducible refine le_alloc _ ?_) | (with_reducible refine le_setCell _ _ ?_) | (with_reducible refine le_drew ?_) | omega | (simp; done) | (simp; omega))))).block _ (by omega)).trans hbox.out)
        · have : k = n2 := by omega
          subst this
          have FU := hide (partL_full (a := a) (b := b) (i := i) (by rw [HN1.out]; exact hlt))
          rw [HN2.out] at FU
          rw [FU.out] at OWN3
          go_wp2
          exact ⟨⟨i + 1, by omega, by go_num, OWN3.out, hbi⟩, by simp [intOf]; omega⟩
    · have : i = n1 := by omega
      subst this
      go_wp2
      go_ret
      exact ⟨_, rfl, by rw [show sumsL a b = partL a b i 0 from by rw [partL_zero, List.take_of_length_le (by rw [HN1.out]; exact Nat.le_refl _)]]; exact OWN0.out, ext_mk hbel⟩
end Go.Proofs.Ytoendanihhocjaa
