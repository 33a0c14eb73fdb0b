
/- The reference's generators of points: any point, some points, two lists of points. -/
import Derived.Test.YtoendanihhocjaaDrawP
import Derived.Outline
set_option linter.unusedVariables false
set_option linter.unusedSimpArgs false
namespace Go.Proofs.Ytoendanihhocjaa
open Go.RowKit

theorem RowAt.lits (w : World) (T : TypeId) (zs : List Int) (cs : Array Value) (hcs : cs = (zs.map (Value.int .i64)).toArray) : RowAt (w.alloc (.cells cs T)) w.heap.size T zs.length (intCell zs) := by
  subst hcs
  have h := RowAt.new w (zs.map (Value.int .i64)).toArray T (f := intCell zs) (fun j hj => by
    have hj' : j < zs.length := by simpa using hj
    rw [List.getElem?_toArray, List.getElem?_map, List.getElem?_eq_getElem hj']
    unfold intCell
    rw [gi_lt hj']; rfl)
  simpa using h
theorem box_setX {w : World} {g : Nat} {x y : Value} {T : TypeId} (h : w.heap[g]? = some (.cells #[x, y] T (0, 0))) (a : Value) : (w.setCell ⟨g, 0, none⟩ a).heap[g]? = some (.cells #[a, y] T (0, 0)) := by
  simp [World.setCell, Array.getElem?_modify, h]
theorem box_setY {w : World} {g : Nat} {x y : Value} {T : TypeId} (h : w.heap[g]? = some (.cells #[x, y] T (0, 0))) (a : Value) : (w.setCell ⟨g, 1, none⟩ a).heap[g]? = some (.cells #[x, a] T (0, 0)) := by
  simp [World.setCell, Array.getElem?_modify, h]
/-- All coordinates lie in -m..m. -/
def CB (m : Int) (ps : List Pt) : Prop := ∀ p ∈ ps, (-m ≤ p.x ∧ p.x ≤ m) ∧ (-m ≤ p.y ∧ p.y ≤ m)
theorem CB.nil (m : Int) : CB m [] := fun p hp => by cases hp
theorem CB.snoc {m : Int} {ps : List Pt} (h : CB m ps) {x y : Int} (hx : -m ≤ x ∧ x ≤ m) (hy : -m ≤ y ∧ y ≤ m) : CB m (ps ++ [⟨x, y⟩]) := fun p hp => by
  rcases List.mem_append.1 hp with hp | hp
  · exact h p hp
  · rw [List.mem_singleton.1 hp]; exact ⟨hx, hy⟩
theorem CB.set {m : Int} {ps : List Pt} (h : CB m ps) {x y : Int} {i : Nat} (hx : -m ≤ x ∧ x ≤ m) (hy : -m ≤ y ∧ y ≤ m) : CB m (ps.set i ⟨x, y⟩) := fun p hp => by
  rcases List.mem_or_eq_of_mem_set hp with hp | rfl
  · exact h p hp
  · exact ⟨hx, hy⟩
theorem CB.at {m : Int} {ps : List Pt} (h : CB m ps) {i : Nat} (hi : i < ps.length) : (-m ≤ pX ps i ∧ pX ps i ≤ m) ∧ (-m ≤ pY ps i ∧ pY ps i ≤ m) := h _ (gp_mem hi)
theorem CB.more {m m' : Int} {ps : List Pt} (h : CB m ps) (hm : m ≤ m') : CB m' ps := fun p hp => by have := h p hp; omega
set_option maxHeartbeats 2000000 in
theorem anyPoint_any (B nb c g p : Nat) (A : Option Addr) (w : World) (hp : p ≤ 800000) (hnb : nb ≤ 2000) (hr : Rd w B A nb c g p) :
    Calls Try.prog 65 #[.pointer (some ⟨g, 0, none⟩)] w fun e w' => ∃ (x y : Int) (p' : Nat), e = .returned (.agg #[.int .i64 x, .int .i64 y]) ∧ (-1001 ≤ x ∧ x ≤ 1001) ∧ (-1001 ≤ y ∧ y ≤ 1001) ∧ p' ≤ p + 10 ∧ Drew w w' B A nb c g p p' := by
  have lg := hr.lt
  have hle := hr.le
  have hr0 := hr.below ((Below.refl _ w).alloc (Nat.le_refl _) (.cells #[.int .i64 0, .int .i64 0] 25))
  have D0 := Drew.first hr ((Below.refl _ w).alloc (Nat.le_refl _) (.cells #[.int .i64 0, .int .i64 0] 25))
  have hg0 := heap_alloc_new w (.cells #[.int .i64 0, .int .i64 0] 25)
  go_enter Try.func65, Try.ntmps65
  go_wp2_with fail
  refine (randomPoint_any B nb c g p A _ (by omega) hnb hr0).mono ?_
  rintro e w1 ⟨x, y, rfl, hx, hy, D1⟩
  have s1 := D1.size
  rw [size_alloc] at s1
  have hg1 := (D1.block w.heap.size (by simp) (by omega)).trans hg0
  have D2 := D0.trans D1
  have hr1 := D1.rd.to ((Below.refl _ w1).alloc (Nat.le_refl _) (.cells #[.int .i64 x, .int .i64 y] 25))
  have D3 := D2.then ((Below.refl _ w1).alloc (Nat.le_refl _) (.cells #[.int .i64 x, .int .i64 y] 25))
  have hg2 := (Below.heap_alloc w1 (.cells #[.int .i64 x, .int .i64 y] 25) w.heap.size (by omega)).trans hg1
  have hb1 := heap_alloc_new w1 (.cells #[.int .i64 x, .int .i64 y] 25)
  clear hr0 hg0 D0 D1 D2 hg1
  go_wp2_with fail
  refine (pick_any 16 B nb c g (p + 2) A _ (by omega) (by omega) (by omega) hnb hr1).mono ?_
  rintro e w2 ⟨v2, rfl, hv2, hb2, hr2⟩
  have s2 : w1.heap.size + 1 ≤ w2.heap.size := by have h := hb2.size; rw [size_alloc] at h; omega
  have hg3 := (hb2.block w.heap.size (by omega)).trans hg2
  have hb3 := (hb2.block w1.heap.size (by omega)).trans hb1
  have D4 := D3.trans (Drew.of_but hb2 hr2)
  clear hg2 hb1 D3 hr1 hb2
  by_cases h0 : v2 = 0
  · subst h0
    have HG4 : Hid (∀ o : Obj, (w2.alloc o).heap[w.heap.size]? = some (.cells #[.int .i64 0, .int .i64 0] 25 (0, 0))) := hide (fun o => (Below.heap_alloc w2 o w.heap.size (by omega)).trans hg3)
    have HB4 : Hid (∀ o : Obj, (w2.alloc o).heap[w1.heap.size]? = some (.cells #[.int .i64 x, .int .i64 y] 25 (0, 0))) := hide (fun o => (Below.heap_alloc w2 o w1.heap.size (by omega)).trans hb3)
    have D5 : Hid (∀ o : Obj, Drew w (w2.alloc o) B A nb c g p (p + 3)) := hide (fun o => D4.then ((Below.refl _ w2).alloc (Nat.le_refl _) o))
    have hr4 : Hid (∀ o : Obj, Rd (w2.alloc o) B A nb c g (p + 3)) := hide (fun o => hr2.to ((Below.refl _ w2).alloc (Nat.le_refl _) o))
    clear hg3 hb3 D4 hr2
    go_wp2_with fail
    refine (one_any [1001, Int.negSucc 1000, 1000, Int.negSucc 999] B nb c g (p + 3) w2.heap.size 4 3 4 _ A _ (by decide) (by decide) (by omega) hnb (hr4.out _) (RowAt.lits w2 _ [1001, Int.negSucc 1000, 1000, Int.negSucc 999] _ rfl) (Nat.le_refl _) (fun i hi => rfl) (by omega)).mono ?_
    rintro e w3 ⟨z, rfl, hzm, hb5, hr5⟩
    have hzb : -1001 ≤ z ∧ z ≤ 1001 := by simp only [List.mem_cons, List.not_mem_nil, or_false] at hzm; omega
    have s3 : w2.heap.size + 1 ≤ w3.heap.size := by have h := hb5.size; rw [size_alloc] at h; omega
    have hg6 := (hb5.block w.heap.size (by omega)).trans (HG4.out _)
    have hb6 := (hb5.block w1.heap.size (by omega)).trans (HB4.out _)
    have D6 := (D5.out _).trans (Drew.of_but hb5 hr5)
    have c0 := heap_cell hb6 0
    have c1 := heap_cell hb6 1
    have f0 := heap_frozen hb6 0
    have e0 := heap_cell hg6 0
    have e1 := heap_cell hg6 1
    have ef0 := heap_frozen hg6 0
    have ef1 := heap_frozen hg6 1
    simp at c0 c1 e0 e1
    have DF := hide (((D6.set lg (by omega) (q := ⟨w1.heap.size, 0, none⟩) (by show w.heap.size ≤ w1.heap.size; omega) (.int .i64 z)).set lg (by omega) (q := ⟨w.heap.size, 0, none⟩) (Nat.le_refl _) (.int .i64 z)).set lg (by omega) (q := ⟨w.heap.size, 1, none⟩) (Nat.le_refl _) (.int .i64 y))
    have hgs : (w3.setCell ⟨w1.heap.size, 0, none⟩ (.int .i64 z)).heap[w.heap.size]? = some (.cells #[.int .i64 0, .int .i64 0] 25 (0, 0)) := (Below.heap_setCell w3 _ _ _ (show w.heap.size ≠ w1.heap.size by omega)).trans hg6
    have HGF := hide (box_set2 hgs (.int .i64 z) (.int .i64 y))
    have nn : ¬ w.heap.size = w1.heap.size := by omega
    have nn2 : ¬ w1.heap.size = w.heap.size := by omega
    clear hgs HG4 HB4 D5 hr4 hzm hb5 hr5 hg6 hb6 D6
    go_wp2
    generalize ((w3.setCell ⟨w1.heap.size, 0, none⟩ (.int .i64 z)).setCell ⟨w.heap.size, 0, none⟩ (.int .i64 z)).setCell ⟨w.heap.size, 1, none⟩ (.int .i64 y) = W at *
    have k0 := heap_cell HGF.out 0
    have k1 := heap_cell HGF.out 1
    simp at k0 k1
    ((try simp only [Exit.inBlock, Exit.then]); refine bodyPost_ret (by simp [results, Try.results65, go_sem, ↓IntWalk.iteOmega, k0, k1]; try rfl) rfl ?_)
    exact ⟨_, _, p + 4, rfl, hzb, by omega, by omega, DF.out⟩
  · have hd0 : ((v2 : Int) == 0) = false := by rw [beq_eq_false_iff_ne]; omega
    by_cases h1 : v2 = 1
    · subst h1
      have HG4 : Hid (∀ o : Obj, (w2.alloc o).heap[w.heap.size]? = some (.cells #[.int .i64 0, .int .i64 0] 25 (0, 0))) := hide (fun o => (Below.heap_alloc w2 o w.heap.size (by omega)).trans hg3)
      have HB4 : Hid (∀ o : Obj, (w2.alloc o).heap[w1.heap.size]? = some (.cells #[.int .i64 x, .int .i64 y] 25 (0, 0))) := hide (fun o => (Below.heap_alloc w2 o w1.heap.size (by omega)).trans hb3)
      have D5 : Hid (∀ o : Obj, Drew w (w2.alloc o) B A nb c g p (p + 3)) := hide (fun o => D4.then ((Below.refl _ w2).alloc (Nat.le_refl _) o))
      have hr4 : Hid (∀ o : Obj, Rd (w2.alloc o) B A nb c g (p + 3)) := hide (fun o => hr2.to ((Below.refl _ w2).alloc (Nat.le_refl _) o))
      clear hg3 hb3 D4 hr2 hd0 h0
      go_wp2_with fail
      refine (one_any [1001, Int.negSucc 1000, 1000, Int.negSucc 999] B nb c g (p + 3) w2.heap.size 4 3 4 _ A _ (by decide) (by decide) (by omega) hnb (hr4.out _) (RowAt.lits w2 _ [1001, Int.negSucc 1000, 1000, Int.negSucc 999] _ rfl) (Nat.le_refl _) (fun i hi => rfl) (by omega)).mono ?_
      rintro e w3 ⟨z, rfl, hzm, hb5, hr5⟩
      have hzb : -1001 ≤ z ∧ z ≤ 1001 := by simp only [List.mem_cons, List.not_mem_nil, or_false] at hzm; omega
      have s3 : w2.heap.size + 1 ≤ w3.heap.size := by have h := hb5.size; rw [size_alloc] at h; omega
      have hg6 := (hb5.block w.heap.size (by omega)).trans (HG4.out _)
      have hb6 := (hb5.block w1.heap.size (by omega)).trans (HB4.out _)
      have D6 := (D5.out _).trans (Drew.of_but hb5 hr5)
      have c0 := heap_cell hb6 0
      have c1 := heap_cell hb6 1
      have f0 := heap_frozen hb6 1
      have e0 := heap_cell hg6 0
      have e1 := heap_cell hg6 1
      have ef0 := heap_frozen hg6 0
      have ef1 := heap_frozen hg6 1
      simp at c0 c1 e0 e1
      have DF := hide (((D6.set lg (by omega) (q := ⟨w1.heap.size, 1, none⟩) (by show w.heap.size ≤ w1.heap.size; omega) (.int .i64 z)).set lg (by omega) (q := ⟨w.heap.size, 0, none⟩) (Nat.le_refl _) (.int .i64 x)).set lg (by omega) (q := ⟨w.heap.size, 1, none⟩) (Nat.le_refl _) (.int .i64 z))
      have hgs : (w3.setCell ⟨w1.heap.size, 1, none⟩ (.int .i64 z)).heap[w.heap.size]? = some (.cells #[.int .i64 0, .int .i64 0] 25 (0, 0)) := (Below.heap_setCell w3 _ _ _ (show w.heap.size ≠ w1.heap.size by omega)).trans hg6
      have HGF := hide (box_set2 hgs (.int .i64 x) (.int .i64 z))
      have nn : ¬ w.heap.size = w1.heap.size := by omega
      have nn2 : ¬ w1.heap.size = w.heap.size := by omega
      clear hgs HG4 HB4 D5 hr4 hzm hb5 hr5 hg6 hb6 D6
      go_wp2
      generalize ((w3.setCell ⟨w1.heap.size, 1, none⟩ (.int .i64 z)).setCell ⟨w.heap.size, 0, none⟩ (.int .i64 x)).setCell ⟨w.heap.size, 1, none⟩ (.int .i64 z) = W at *
      have k0 := heap_cell HGF.out 0
      have k1 := heap_cell HGF.out 1
      simp at k0 k1
      ((try simp only [Exit.inBlock, Exit.then]); refine bodyPost_ret (by simp [results, Try.results65, go_sem, ↓IntWalk.iteOmega, k0, k1]; try rfl) rfl ?_)
      exact ⟨_, _, p + 4, rfl, by omega, hzb, by omega, DF.out⟩
    · have hd1 : ((v2 : Int) == 1) = false := by rw [beq_eq_false_iff_ne]; omega
      have c0 := heap_cell hb3 0
      have c1 := heap_cell hb3 1
      have e0 := heap_cell hg3 0
      have e1 := heap_cell hg3 1
      have ef0 := heap_frozen hg3 0
      have ef1 := heap_frozen hg3 1
      simp at c0 c1 e0 e1
      have DF := hide ((D4.set lg (by omega) (q := ⟨w.heap.size, 0, none⟩) (Nat.le_refl _) (.int .i64 x)).set lg (by omega) (q := ⟨w.heap.size, 1, none⟩) (Nat.le_refl _) (.int .i64 y))
      have HGF := hide (box_set2 hg3 (.int .i64 x) (.int .i64 y))
      clear hg3 hb3 D4 hr2 h0 h1
      go_wp2
      generalize (w2.setCell ⟨w.heap.size, 0, none⟩ (.int .i64 x)).setCell ⟨w.heap.size, 1, none⟩ (.int .i64 y) = W at *
      have k0 := heap_cell HGF.out 0
      have k1 := heap_cell HGF.out 1
      simp at k0 k1
      ((try simp only [Exit.inBlock, Exit.then]); refine bodyPost_ret (by simp [results, Try.results65, go_sem, ↓IntWalk.iteOmega, k0, k1]; try rfl) rfl ?_)
      exact ⟨_, _, p + 3, rfl, by omega, by omega, by omega, DF.out⟩
set_option maxHeartbeats 2000000 in
theorem randomPoints_any (most B nb c g p : Nat) (A : Option Addr) (w : World) (hm : most ≤ 1000) (hp : p ≤ 700000) (hnb : nb ≤ 2000) (hr : Rd w B A nb c g p) :
    Calls Try.prog 86 #[.pointer (some ⟨g, 0, none⟩), .int .i64 most] w fun e w' => ∃ v ps p', e = .returned v ∧ OwnP w' w.heap.size v ps ∧ ps.length ≤ most ∧ CB 1000 ps ∧ p' ≤ p + 2 + 2 * most ∧ Drew w w' B A nb c g p p' := by
  have lg := hr.lt
  have hBg := hr.le
  go_enter Try.func86, Try.ntmps86
  go_wp2_with fail
  refine (pick_any 6 B nb c g p A _ (by omega) (by omega) (by omega) hnb (hr.to (by (repeat' (first | (with_reducible exact Below.refl _ _) | (with_reducible assumption) | (with_reducible refine below_ext _ ?_ ?_) | (with_reducible refine Below.alloc ?_ ?_ _) | (with_reducible refine Below.drew ?_) | (with_reducible refine below_drewN ?_ _) | (with_reducible refine le_drewN _ ?_) | (with_reducible refine Below.setCell ?_ ?_ _) | (with_reducible exact Nat.le_refl _) | (with_reducible refine le_ext _ ?_) | (with_reducible refine le_alloc _ ?_) | (with_reducible refine le_setCell _ _ ?_) | (with_reducible refine le_drew ?_) | omega | (simp; done) | (simp; omega)))))).mono ?_
  rintro e w1 ⟨v1, rfl, hv1, hb1, hr1⟩
  have D1 : Drew w w1 B A nb c g p (p + 1) := (Drew.first hr (by (repeat' (first | (with_reducible exact Below.refl _ _) | (with_reducible assumption) | (with_reducible refine below_ext _ ?_ ?_) | (with_reducible refine Below.alloc ?_ ?_ _) | (with_reducible refine Below.drew ?_) | (with_reducible refine below_drewN ?_ _) | (with_reducible refine le_drewN _ ?_) | (with_reducible refine Below.setCell ?_ ?_ _) | (with_reducible exact Nat.le_refl _) | (with_reducible refine le_ext _ ?_) | (with_reducible refine le_alloc _ ?_) | (with_reducible refine le_setCell _ _ ?_) | (with_reducible refine le_drew ?_) | omega | (simp; done) | (simp; omega))))).trans (Drew.of_but hb1 hr1)
  have O1 : OwnP w1 w.heap.size (.slice (some ⟨w.heap.size, 0, none⟩) 0 0) [] := (OwnP.empty w w.heap.size 0 (Nat.le_refl _) #[] rfl (by simp [maxLen])).drew (Drew.of_but (p := p) hb1 hr1) lg
  clear hb1
  go_wp2_with fail
  have em : (most : Int) + 1 = ((most + 1 : Nat) : Int) := by omega
  rw [em]
  refine (pick_any (most + 1) B nb c g (p + 1) A _ (by omega) (by omega) (by omega) hnb hr1).mono ?_
  rintro e w2 ⟨v2, rfl, hv2, hb2, hr2⟩
  have D2 := D1.trans (Drew.of_but (p := p + 1) hb2 hr2)
  have O2 := O1.drew (Drew.of_but (p := p + 1) hb2 hr2) lg
  clear em hb2 hr1 hr2 D1 O1
  go_wp2_with fail
  go_loopw [5, 7] (fun u5 u7 wr => ∃ m ps q, m ≤ most ∧ u7 = .int .i64 (m : Nat) ∧ OwnP wr w.heap.size u5 ps ∧ ps.length + m ≤ most ∧ q + 2 * m ≤ p + 2 + 2 * most ∧ CB 1000 ps ∧ Drew w wr B A nb c g p q) (fun _ u7 _ => (intOf u7).toNat)
  case atStart => exact ⟨v2, [], p + 2, by omega, rfl, O2, by simp; omega, by omega, CB.nil _, D2⟩
  case round =>
    obtain ⟨m0, ps, q, hm0, rfl, hown, hlen, hq, hcb, hD⟩ := hrel
    obtain ⟨A', n', c', rfl⟩ := hown.slice
    by_cases hlt : 0 < m0
    · obtain ⟨m, rfl⟩ : ∃ m, m0 = m + 1 := ⟨m0 - 1, by omega⟩
      have hd : decide ((0 : Int) < ((m + 1 : Nat) : Int)) = true := decide_eq_true (by omega)
      go_wp2_with fail
      refine (randomPoint_any B nb c g q A _ (by omega) hnb hD.rd).mono ?_
      rintro e w5 ⟨x, y, rfl, hx, hy, D5⟩
      have HO := hide (hown.drew D5 lg)
      have HD5 := hide (hD.trans D5)
      have s5 : w.heap.size ≤ w5.heap.size := HD5.out.size
      clear hown hD D5
      by_cases h0 : v1 = 0
      · have hd0 : ((v1 : Int) == 0) = true := by rw [beq_iff_eq]; omega
        have hd1 : ((v1 : Int) == 1) = false := by rw [beq_eq_false_iff_ne]; omega
        clear h0
        go_wp2_with (at_builtin; refine app_pt rfl _ _ rfl w.heap.size (.slice A' n' c') ps rfl (HO.out.below (by (repeat' (first | (with_reducible exact Below.refl _ _) | (with_reducible assumption) | (with_reducible refine below_ext _ ?_ ?_) | (with_reducible refine Below.alloc ?_ ?_ _) | (with_reducible refine Below.drew ?_) | (with_reducible refine below_drewN ?_ _) | (with_reducible refine le_drewN _ ?_) | (with_reducible refine Below.setCell ?_ ?_ _) | (with_reducible exact Nat.le_refl _) | (with_reducible refine le_ext _ ?_) | (with_reducible refine le_alloc _ ?_) | (with_reducible refine le_setCell _ _ ?_) | (with_reducible refine le_drew ?_) | omega | (simp; done) | (simp; omega))))) (x) (2 * x + 1) _ _ rfl (by simp [go_sem]) (by simp [go_sem]) (by omega) (by simp; omega) ?_; intro v' w' hown' hb' hat hgr; obtain ⟨A2, n2, c2, rfl⟩ := hown'.slice; have HO3 := hide hown'; clear hown' hat)
        have hDF := (HD5.out.then (by (repeat' (first | (with_reducible exact Below.refl _ _) | (with_reducible assumption) | (with_reducible refine below_ext _ ?_ ?_) | (with_reducible refine Below.alloc ?_ ?_ _) | (with_reducible refine Below.drew ?_) | (with_reducible refine below_drewN ?_ _) | (with_reducible refine le_drewN _ ?_) | (with_reducible refine Below.setCell ?_ ?_ _) | (with_reducible exact Nat.le_refl _) | (with_reducible refine le_ext _ ?_) | (with_reducible refine le_alloc _ ?_) | (with_reducible refine le_setCell _ _ ?_) | (with_reducible refine le_drew ?_) | omega | (simp; done) | (simp; omega))))).grown hgr (fun j hj => HO.out.lt j hj) lg
        have HDF := hide hDF
        clear hgr hDF
        go_wp2_with fail
        exact ⟨⟨m, ps ++ [⟨x, 2 * x + 1⟩], q + 2, by omega, by go_num, HO3.out, by simp; omega, by omega, hcb.snoc (by omega) (by omega), HDF.out⟩, by first | (simp [intOf]; done) | (simp [intOf]; omega)⟩
      · have hd0 : ((v1 : Int) == 0) = false := by rw [beq_eq_false_iff_ne]; omega
        by_cases h1 : v1 = 1
        · have hd1 : ((v1 : Int) == 1) = true := by rw [beq_iff_eq]; omega
          clear h0 h1
          go_wp2_with (at_builtin; refine app_pt rfl _ _ rfl w.heap.size (.slice A' n' c') ps rfl (HO.out.below (by (repeat' (first | (with_reducible exact Below.refl _ _) | (with_reducible assumption) | (with_reducible refine below_ext _ ?_ ?_) | (with_reducible refine Below.alloc ?_ ?_ _) | (with_reducible refine Below.drew ?_) | (with_reducible refine below_drewN ?_ _) | (with_reducible refine le_drewN _ ?_) | (with_reducible refine Below.setCell ?_ ?_ _) | (with_reducible exact Nat.le_refl _) | (with_reducible refine le_ext _ ?_) | (with_reducible refine le_alloc _ ?_) | (with_reducible refine le_setCell _ _ ?_) | (with_reducible refine le_drew ?_) | omega | (simp; done) | (simp; omega))))) (x * 100) (y * 37) _ _ rfl (by simp [go_sem]) (by simp [go_sem]) (by omega) (by simp; omega) ?_; intro v' w' hown' hb' hat hgr; obtain ⟨A2, n2, c2, rfl⟩ := hown'.slice; have HO3 := hide hown'; clear hown' hat)
          have hDF := (HD5.out.then (by (repeat' (first | (with_reducible exact Below.refl _ _) | (with_reducible assumption) | (with_reducible refine below_ext _ ?_ ?_) | (with_reducible refine Below.alloc ?_ ?_ _) | (with_reducible refine Below.drew ?_) | (with_reducible refine below_drewN ?_ _) | (with_reducible refine le_drewN _ ?_) | (with_reducible refine Below.setCell ?_ ?_ _) | (with_reducible exact Nat.le_refl _) | (with_reducible refine le_ext _ ?_) | (with_reducible refine le_alloc _ ?_) | (with_reducible refine le_setCell _ _ ?_) | (with_reducible refine le_drew ?_) | omega | (simp; done) | (simp; omega))))).grown hgr (fun j hj => HO.out.lt j hj) lg
          have HDF := hide hDF
          clear hgr hDF
          go_wp2_with fail
          exact ⟨⟨m, ps ++ [⟨x * 100, y * 37⟩], q + 2, by omega, by go_num, HO3.out, by simp; omega, by omega, hcb.snoc (by omega) (by omega), HDF.out⟩, by first | (simp [intOf]; done) | (simp [intOf]; omega)⟩
        · have hd1 : ((v1 : Int) == 1) = false := by rw [beq_eq_false_iff_ne]; omega
          clear h0 h1
          go_wp2_with (at_builtin; refine app_pt rfl _ _ rfl w.heap.size (.slice A' n' c') ps rfl (HO.out.below (by (repeat' (first | (with_reducible exact Below.refl _ _) | (with_reducible assumption) | (with_reducible refine below_ext _ ?_ ?_) | (with_reducible refine Below.alloc ?_ ?_ _) | (with_reducible refine Below.drew ?_) | (with_reducible refine below_drewN ?_ _) | (with_reducible refine le_drewN _ ?_) | (with_reducible refine Below.setCell ?_ ?_ _) | (with_reducible exact Nat.le_refl _) | (with_reducible refine le_ext _ ?_) | (with_reducible refine le_alloc _ ?_) | (with_reducible refine le_setCell _ _ ?_) | (with_reducible refine le_drew ?_) | omega | (simp; done) | (simp; omega))))) (x) (y) _ _ rfl (by simp [go_sem]) (by simp [go_sem]) (by omega) (by simp; omega) ?_; intro v' w' hown' hb' hat hgr; obtain ⟨A2, n2, c2, rfl⟩ := hown'.slice; have HO3 := hide hown'; clear hown' hat)
          have hDF := (HD5.out.then (by (repeat' (first | (with_reducible exact Below.refl _ _) | (with_reducible assumption) | (with_reducible refine below_ext _ ?_ ?_) | (with_reducible refine Below.alloc ?_ ?_ _) | (with_reducible refine Below.drew ?_) | (with_reducible refine below_drewN ?_ _) | (with_reducible refine le_drewN _ ?_) | (with_reducible refine Below.setCell ?_ ?_ _) | (with_reducible exact Nat.le_refl _) | (with_reducible refine le_ext _ ?_) | (with_reducible refine le_alloc _ ?_) | (with_reducible refine le_setCell _ _ ?_) | (with_reducible refine le_drew ?_) | omega | (simp; done) | (simp; omega))))).grown hgr (fun j hj => HO.out.lt j hj) lg
          have HDF := hide hDF
          clear hgr hDF
          go_wp2_with fail
          exact ⟨⟨m, ps ++ [⟨x, y⟩], q + 2, by omega, by go_num, HO3.out, by simp; omega, by omega, hcb.snoc (by omega) (by omega), HDF.out⟩, by first | (simp [intOf]; done) | (simp [intOf]; omega)⟩
    · have hk0 : m0 = 0 := by omega
      subst hk0
      have HO := hide hown
      have HD := hide hD
      clear hown hD
      go_wp2
      go_ret
      exact ⟨_, ps, q, rfl, HO.out, by omega, hcb, by omega, HD.out⟩
def lenOfV : Value → Nat
  | .slice _ n _ => n
  | _ => 0
set_option maxHeartbeats 2000000 in
theorem anyPoints_any (most B nb c g p : Nat) (A : Option Addr) (w : World) (hm : most ≤ 20) (hp : p ≤ 600000) (hnb : nb ≤ 2000) (hr : Rd w B A nb c g p) :
    Calls Try.prog 64 #[.pointer (some ⟨g, 0, none⟩), .int .i64 most] w fun e w' => ∃ v ps p', e = .returned v ∧ OwnP w' w.heap.size v ps ∧ ps.length ≤ 21 ∧ CB 1001 ps ∧ p' ≤ p + 200 ∧ Drew w w' B A nb c g p p' := by
  have lg := hr.lt
  have hBg := hr.le
  go_enter Try.func64, Try.ntmps64
  go_wp2_with fail
  refine (randomPoints_any most B nb c g p A _ (by omega) (by omega) hnb hr).mono ?_
  rintro e w1 ⟨v1, ps, p1, rfl, hown, hlen, hcb0, hp1, hD⟩
  obtain ⟨A1, n1, c1, rfl⟩ := hown.slice
  have hl1 := hown.pts.1
  have hcb := hcb0.more (m' := 1001) (by omega)
  have s1 := hD.size
  have ln1 : n1 ≤ 20 := by omega
  have HL1 := hide hl1
  have HO := hide hown
  have HD := hide hD
  have hrd := hD.rd
  clear hown hD hcb0 hl1 hr
  by_cases h0 : n1 = 0
  · subst h0
    go_wp2
    go_ret
    exact ⟨_, ps, p1, rfl, HO.out, by have := HL1.out; omega, hcb, by omega, HD.out⟩
  · have hd : decide ((0 : Int) < (n1 : Int)) = true := decide_eq_true (by omega)
    obtain ⟨gb, rfl, hgb, hgl, hfr, hcs⟩ := HO.out.head (by omega)
    clear hfr hcs
    go_wp2_with fail
    refine (pick_any 20 B nb c g p1 A _ (by omega) (by omega) (by omega) hnb hrd).mono ?_
    rintro e w2 ⟨v2, rfl, hv2, hb2, hr2⟩
    have HO2 := hide (HO.out.drew (Drew.of_but (p := p1) hb2 hr2) lg)
    have HD2 := hide (HD.out.trans (Drew.of_but (p := p1) hb2 hr2))
    clear hb2 HO HD hrd
    by_cases hv0 : v2 = 0
    · have e0 : ((v2 : Int) == 0) = true := by rw [beq_iff_eq]; omega
      clear hv0
      go_wp2_with fail
      refine (pick_any n1 B nb c g (p1 + 1) A _ (by omega) (by omega) (by omega) hnb hr2).mono ?_
      rintro e w3 ⟨v3, rfl, hv3, hb3, hr3⟩
      have HO3 := hide (HO2.out.drew (Drew.of_but (p := p1 + 1) hb3 hr3) lg)
      have HD3 := hide (HD2.out.trans (Drew.of_but (p := p1 + 1) hb3 hr3))
      obtain ⟨gb', hge, hgb2, hgl2, hfr, hcs⟩ := HO3.out.head (by omega)
      injection hge with hge
      injection hge with hge
      subst hge
      obtain ⟨k0, k1⟩ := hcs v3 hv3
      have f0 := hfr (v3 * 2)
      have f1 := hfr (v3 * 2 + 1)
      have HOF := hide (HO3.out.set hv3 1001 0)
      have HDF := hide ((HD3.out.set lg (by omega) (q := ⟨gb, v3 * 2, none⟩) hgb (.int .i64 1001)).set lg (by omega) (q := ⟨gb, v3 * 2 + 1, none⟩) hgb (.int .i64 0))
      clear hfr hcs hb3 hr3 hr2
      go_wp2
      go_ret
      exact ⟨_, ps.set v3 ⟨1001, 0⟩, p1 + 2, rfl, HOF.out, by rw [List.length_set]; have := HL1.out; omega, hcb.set (by omega) (by omega), by omega, HDF.out⟩
    · have e0 : ((v2 : Int) == 0) = false := by rw [beq_eq_false_iff_ne]; omega
      by_cases hv1 : v2 = 1
      · have e1 : ((v2 : Int) == 1) = true := by rw [beq_iff_eq]; omega
        clear hv0 hv1
        go_wp2_with fail
        go_loopw [5] (fun u5 wr => ∃ ps q, OwnP wr w.heap.size u5 ps ∧ ps.length ≤ 21 ∧ q + 2 * (21 - ps.length) ≤ p + 100 ∧ CB 1001 ps ∧ Drew w wr B A nb c g p q) (fun u5 _ => 21 - lenOfV u5)
        case atStart => exact ⟨ps, p1 + 1, HO2.out, by have := HL1.out; omega, by omega, hcb, HD2.out⟩
        case round =>
          obtain ⟨ps', q, hown', hlen', hq, hcb', hD'⟩ := hrel
          obtain ⟨A', n', c', rfl⟩ := hown'.slice
          have hl' := hown'.pts.1
          have hn' : n' ≤ 21 := by omega
          have hq' : q + 2 * (21 - n') ≤ p + 100 := by omega
          have HL' := hide hl'
          clear hl' hq hlen'
          by_cases hlt : n' < 21
          · have hd' : decide ((n' : Int) < 21) = true := decide_eq_true (by omega)
            go_wp2_with fail
            refine (randomPoint_any B nb c g q A _ (by omega) hnb hD'.rd).mono ?_
            rintro e w5 ⟨x, y, rfl, hx, hy, D5⟩
            have HO5 := hide (hown'.drew D5 lg)
            have HD5 := hide (hD'.trans D5)
            have s5 : w.heap.size ≤ w5.heap.size := HD5.out.size
            clear hown' hD' D5
            have hpl : ps'.length ≤ 2000000 := by have := HL'.out; omega
            go_wp2_with (at_builtin; refine app_pt rfl _ _ rfl w.heap.size (.slice A' n' c') ps' rfl (HO5.out.below (by (repeat' (first | (with_reducible exact Below.refl _ _) | (with_reducible assumption) | (with_reducible refine below_ext _ ?_ ?_) | (with_reducible refine Below.alloc ?_ ?_ _) | (with_reducible refine Below.drew ?_) | (with_reducible refine below_drewN ?_ _) | (with_reducible refine le_drewN _ ?_) | (with_reducible refine Below.setCell ?_ ?_ _) | (with_reducible exact Nat.le_refl _) | (with_reducible refine le_ext _ ?_) | (with_reducible refine le_alloc _ ?_) | (with_reducible refine le_setCell _ _ ?_) | (with_reducible refine le_drew ?_) | omega | (simp; done) | (simp; omega))))) x y _ _ rfl (by simp [go_sem]) (by simp [go_sem]) hpl (by simp; omega) ?_; intro v' w' hown2 hb' hat hgr; obtain ⟨A2, n2, c2, rfl⟩ := hown2.slice; have HO6 := hide hown2; have HL6 := hide hown2.pts.1; clear hown2 hat)
            have hDF := (HD5.out.then (by (repeat' (first | (with_reducible exact Below.refl _ _) | (with_reducible assumption) | (with_reducible refine below_ext _ ?_ ?_) | (with_reducible refine Below.alloc ?_ ?_ _) | (with_reducible refine Below.drew ?_) | (with_reducible refine below_drewN ?_ _) | (with_reducible refine le_drewN _ ?_) | (with_reducible refine Below.setCell ?_ ?_ _) | (with_reducible exact Nat.le_refl _) | (with_reducible refine le_ext _ ?_) | (with_reducible refine le_alloc _ ?_) | (with_reducible refine le_setCell _ _ ?_) | (with_reducible refine le_drew ?_) | omega | (simp; done) | (simp; omega))))).grown hgr (fun j hj => HO5.out.lt j hj) lg
            have HDF := hide hDF
            have hn2 : n2 = n' + 1 := by have h1 := HL6.out; have h2 := HL'.out; simp at h1; omega
            clear hgr hDF
            have hn2' := hide hn2
            clear hn2
            go_wp2_with fail
            exact ⟨⟨ps' ++ [⟨x, y⟩], q + 2, HO6.out, by have := HL'.out; simp; omega, by have := HL'.out; simp; omega, hcb'.snoc (by omega) (by omega), HDF.out⟩, by have := hn2'.out; simp [lenOfV]; omega⟩
          · have hd' : decide ((n' : Int) < 21) = false := decide_eq_false (by omega)
            have HO := hide hown'
            have HD := hide hD'
            clear hown' hD'
            go_wp2
            go_ret
            exact ⟨_, ps', q, rfl, HO.out, by have := HL'.out; omega, hcb', by omega, HD.out⟩
      · have e1 : ((v2 : Int) == 1) = false := by rw [beq_eq_false_iff_ne]; omega
        clear hv0 hv1
        go_wp2
        go_ret
        exact ⟨_, ps, p1 + 1, rfl, HO2.out, by have := HL1.out; omega, hcb, by omega, HD2.out⟩
theorem BytesAt.more {w : World} {B B' : Nat} {A : Option Addr} {n : Nat} (h : BytesAt w B A n) (hB : B ≤ B') : BytesAt w B' A n := fun hn => by
  obtain ⟨b, o, hA, hb, hc⟩ := h hn
  exact ⟨b, o, hA, by omega, hc⟩
set_option maxHeartbeats 2000000 in
theorem drawExtreme_any (n c : Nat) (A : Option Addr) (w : World) (hn : n ≤ c) (hc : c ≤ 9223372036854775807) (hA : BytesAt w w.heap.size A n) :
    Calls Try.prog 36 #[.slice A n c] w fun e w' => ∃ v ps x y, e = .returned (.tuple #[v, .agg #[.int .i64 x, .int .i64 y]]) ∧ OwnP w' w.heap.size v ps ∧ ps.length ≤ 21 ∧ CB 1001 ps ∧ (-1001 ≤ x ∧ x ≤ 1001) ∧ (-1001 ≤ y ∧ y ≤ 1001) ∧ Below w.heap.size w w' := by
  have hg0 := heap_alloc_new w (.cells #[.int .i64 0, .int .i64 0] 25)
  have b0 := (Below.refl w.heap.size w).alloc (Nat.le_refl _) (.cells #[.int .i64 0, .int .i64 0] 25)
  go_enter Try.func36, Try.ntmps36
  go_wp2_with fail
  refine (newReader_any n c A _ hn hc (BytesAt.more (BytesAt.below hA b0) (by first | (simp; done) | (simp; omega)))).mono ?_
  rintro e w1 ⟨g, nb, rfl, hg, hnb, hr, hx⟩
  have D1 := ext_bel hx
  have hg1 := (D1.block w.heap.size (by simp)).trans hg0
  have B1 := b0.trans (D1.mono (by first | (simp; done) | (simp; omega)))
  have lg := hr.lt
  have hgw : w.heap.size + 1 ≤ g := by rw [size_alloc] at hg; exact hg
  have s1 : w.heap.size + 1 ≤ w1.heap.size := by omega
  clear hx hg0 D1 b0 hg
  go_wp2_with fail
  refine (anyPoints_any 8 _ nb _ g 0 A _ (by omega) (by omega) hnb hr).mono ?_
  rintro e w2 ⟨v, ps, p', rfl, hown, hlen, hcb, hp', hD⟩
  obtain ⟨A2, n2, c2, rfl⟩ := hown.slice
  have hg2 := (hD.block w.heap.size (by omega) (by omega)).trans hg1
  have B2 : Below w.heap.size w w2 := B1.trans (hD.below (by omega) (by omega))
  have s2 := hD.size
  have hrd := hD.rd
  have OW := hide hown
  clear hown hg1 hD hr
  go_wp2_with fail
  refine (anyPoint_any _ nb _ g p' A _ (by omega) hnb hrd).mono ?_
  rintro e w3 ⟨x, y, p3, rfl, hx, hy, hp3, D3⟩
  have hg3 := (D3.block w.heap.size (by omega) (by omega)).trans hg2
  have B3 := B2.trans (D3.below (C := w.heap.size) (by omega) (by omega))
  have O3 := OW.out.drew D3 lg
  have s3 := D3.size
  have c0 := heap_cell hg3 0
  have c1 := heap_cell hg3 1
  have f0 := heap_frozen hg3 0
  have f1 := heap_frozen hg3 1
  simp at c0 c1
  have HGF := hide (box_set2 hg3 (.int .i64 x) (.int .i64 y))
  have HOF := hide (((O3.far (q := ⟨w.heap.size, 0, none⟩) (fun j hj => by have := OW.out.lt j hj; show j ≠ w.heap.size; omega) (.int .i64 x)).far (q := ⟨w.heap.size, 1, none⟩) (fun j hj => by have := OW.out.lt j hj; show j ≠ w.heap.size; omega) (.int .i64 y)).base (base' := w.heap.size) (by omega))
  have HBF := hide ((B3.setCell (p := ⟨w.heap.size, 0, none⟩) (Nat.le_refl _) (.int .i64 x)).setCell (p := ⟨w.heap.size, 1, none⟩) (Nat.le_refl _) (.int .i64 y))
  clear hg2 hg3 D3 O3 B1 B2 B3 hrd
  go_wp2
  generalize (w3.setCell ⟨w.heap.size, 0, none⟩ (.int .i64 x)).setCell ⟨w.heap.size, 1, none⟩ (.int .i64 y) = W at *
  have k0 := heap_cell HGF.out 0
  have k1 := heap_cell HGF.out 1
  simp at k0 k1
  ((try simp only [Exit.inBlock, Exit.then]); refine bodyPost_ret (by simp [results, Try.results36, go_sem, ↓IntWalk.iteOmega, k0, k1]; try rfl) rfl ?_)
  exact ⟨_, ps, x, y, rfl, HOF.out, hlen, hcb, hx, hy, HBF.out⟩
set_option maxHeartbeats 2000000 in
theorem drawSupport_any (n c : Nat) (A : Option Addr) (w : World) (hn : n ≤ c) (hc : c ≤ 9223372036854775807) (hA : BytesAt w w.heap.size A n) :
    Calls Try.prog 14 #[.slice A n c] w fun e w' => ∃ v ps x y, e = .returned (.tuple #[v, .agg #[.int .i64 x, .int .i64 y]]) ∧ OwnP w' w.heap.size v ps ∧ ps.length ≤ 21 ∧ CB 1001 ps ∧ (-1001 ≤ x ∧ x ≤ 1001) ∧ (-1001 ≤ y ∧ y ≤ 1001) ∧ Below w.heap.size w w' := by
  have hg0 := heap_alloc_new w (.cells #[.int .i64 0, .int .i64 0] 25)
  have b0 := (Below.refl w.heap.size w).alloc (Nat.le_refl _) (.cells #[.int .i64 0, .int .i64 0] 25)
  go_enter Try.func14, Try.ntmps14
  go_wp2_with fail
  refine (drawExtreme_any n c A _ hn hc (BytesAt.more (BytesAt.below hA b0) (by first | (simp; done) | (simp; omega)))).mono ?_
  rintro e w3 ⟨v, ps, x, y, rfl, O3, hlen, hcb, hx, hy, B3'⟩
  obtain ⟨A2, n2, c2, rfl⟩ := O3.slice
  have hg3 := (B3'.block w.heap.size (by simp)).trans hg0
  have B3 := b0.trans (B3'.mono (by first | (simp; done) | (simp; omega)))
  have c0 := heap_cell hg3 0
  have c1 := heap_cell hg3 1
  have f0 := heap_frozen hg3 0
  have f1 := heap_frozen hg3 1
  simp at c0 c1
  have HGF := hide (box_set2 hg3 (.int .i64 x) (.int .i64 y))
  have hl3 := O3.lt
  have HOF := hide (((O3.far (q := ⟨w.heap.size, 0, none⟩) (fun j hj => by have := hl3 j hj; rw [size_alloc] at this; show j ≠ w.heap.size; omega) (.int .i64 x)).far (q := ⟨w.heap.size, 1, none⟩) (fun j hj => by have := hl3 j hj; rw [size_alloc] at this; show j ≠ w.heap.size; omega) (.int .i64 y)).base (base' := w.heap.size) (by rw [size_alloc]; omega))
  have HBF := hide ((B3.setCell (p := ⟨w.heap.size, 0, none⟩) (Nat.le_refl _) (.int .i64 x)).setCell (p := ⟨w.heap.size, 1, none⟩) (Nat.le_refl _) (.int .i64 y))
  clear hg3 O3 B3 B3' hl3 hg0 b0
  go_wp2
  generalize (w3.setCell ⟨w.heap.size, 0, none⟩ (.int .i64 x)).setCell ⟨w.heap.size, 1, none⟩ (.int .i64 y) = W at *
  have k0 := heap_cell HGF.out 0
  have k1 := heap_cell HGF.out 1
  simp at k0 k1
  ((try simp only [Exit.inBlock, Exit.then]); refine bodyPost_ret (by simp [results, Try.results14, go_sem, ↓IntWalk.iteOmega, k0, k1]; try rfl) rfl ?_)
  exact ⟨_, ps, x, y, rfl, HOF.out, hlen, hcb, hx, hy, HBF.out⟩
theorem ptVals_setX : ∀ (ps : List Pt) (i : Nat) (x : Int), ptVals (ps.set i ⟨x, pY ps i⟩) = (ptVals ps).set (i * 2) (.int .i64 x)
  | [], i, x => by simp [ptVals]
  | p :: ps, 0, x => rfl
  | p :: ps, i + 1, x => by
    rw [show (i + 1) * 2 = i * 2 + 1 + 1 from by omega]
    have : pY (p :: ps) (i + 1) = pY ps i := by simp [pY, gp]
    rw [this]
    simp [ptVals, ptVals_setX ps i x]
/-- The first coordinate of the point at place i written. -/
theorem OwnP.setX {w : World} {base g : Nat} {n c : Nat} {ps : List Pt} (h : OwnP w base (.slice (some ⟨g, 0, none⟩) n c) ps) (i : Nat) (x : Int) :
    OwnP (w.setCell ⟨g, i * 2, none⟩ (.int .i64 x)) base (.slice (some ⟨g, 0, none⟩) n c) (ps.set i ⟨x, pY ps i⟩) := by
  have hl := h.pts.1
  unfold OwnP at h ⊢
  rcases h.2 with ⟨hv, h1⟩ | ⟨g', cap, cur, hv, hg, hgg, hnc, hcm, hsz, htk⟩
  · cases hv
  · injection hv with e1 e2 e3
    injection e1 with e1
    injection e1 with e1
    subst e1 e3
    refine ⟨by rw [ptVals_len], .inr ⟨g, c, cur.setIfInBounds (i * 2) (.int .i64 x), by rw [List.length_set, hl], hg, by simp [World.setCell, Array.getElem?_modify, hgg], by rw [List.length_set]; omega, hcm, by simpa using hsz, ?_⟩⟩
    rw [List.length_set, ptVals_setX, ← htk, Array.toList_setIfInBounds, List.take_set]
theorem gp_set_ne {ps : List Pt} {i j : Nat} (h : i ≠ j) (p : Pt) : gp (ps.set i p) j = gp ps j := by
  unfold gp; rw [List.getD_eq_getElem?_getD, List.getD_eq_getElem?_getD, List.getElem?_set_ne h]
set_option maxHeartbeats 2000000 in
theorem twoHulls_any (n c : Nat) (A : Option Addr) (w : World) (hn : n ≤ c) (hc : c ≤ 9223372036854775807) (hA : BytesAt w w.heap.size A n) :
    Calls Try.prog 52 #[.slice A n c] w fun e w' => ∃ v1 ps v2 qs, e = .returned (.tuple #[v1, v2]) ∧ OwnP w' w.heap.size v1 ps ∧ ps.length ≤ 21 ∧ CB 1001 ps ∧ OwnP w' w.heap.size v2 qs ∧ qs.length ≤ 21 ∧ CB 1007 qs ∧ Below w.heap.size w w' := by
  go_enter Try.func52, Try.ntmps52
  go_wp2_with fail
  refine (newReader_any n c A _ hn hc hA).mono ?_
  rintro e w1 ⟨g, nb, rfl, hg, hnb, hr, hx⟩
  have B1 := ext_bel hx
  have lg := hr.lt
  clear hx
  go_wp2_with fail
  refine (anyPoints_any 5 _ nb _ g 0 A _ (by omega) (by omega) hnb hr).mono ?_
  rintro e w2 ⟨v, ps, p2, rfl, hown2, hlen, hcb, hp2, D2⟩
  obtain ⟨A2, n2, c2, rfl⟩ := hown2.slice
  have B2 : Below w.heap.size w w2 := B1.trans (D2.below hg B1.size)
  have s2 := D2.size
  have hrd2 := D2.rd
  have OW2 := hide hown2
  clear hown2 D2 hr B1
  go_wp2_with fail
  refine (anyPoints_any 5 _ nb _ g p2 A _ (by omega) (by omega) hnb hrd2).mono ?_
  rintro e w3 ⟨v, qs, p3, rfl, hown3, hlenq, hcbq, hp3, D3⟩
  obtain ⟨A3, n3, c3, rfl⟩ := hown3.slice
  have B3 : Below w.heap.size w w3 := B2.trans (D3.below hg (by omega))
  have OP3 := hide (OW2.out.drew D3 lg)
  have OLT := hide OW2.out.lt2
  have s3 := D3.size
  have hrd3 := D3.rd
  have OW3 := hide hown3
  have hl3 := hide hown3.pts.1
  clear hown3 D3 hrd2 B2 OW2
  go_wp2_with fail
  refine (pick_any 3 _ nb _ g p3 A _ (by omega) (by omega) (by omega) hnb hrd3).mono ?_
  rintro e w4 ⟨v4, rfl, hv4, hb4, hr4⟩
  have B4 := hide (B3.trans (hb4.below (B := w.heap.size) hg))
  have OP4 := hide (OP3.out.drew (Drew.of_but (p := p3) hb4 hr4) lg)
  have OQ4 := hide (OW3.out.drew (Drew.of_but (p := p3) hb4 hr4) (by omega))
  have s4 : w3.heap.size ≤ w4.heap.size := by rw [hb4.size]; exact Nat.le_refl _
  have ln3 : n3 ≤ 21 := by have := hl3.out; omega
  clear hb4 hr4 B3 hrd3 OP3 OW3
  by_cases h0 : v4 = 0
  · have e0 : ((v4 : Int) == 0) = true := by rw [beq_iff_eq]; omega
    clear h0
    go_wp2_with fail
    go_loopw [7] (fun u7 wr => ∃ (k : Nat) (qs' : List Pt), k ≤ n3 ∧ u7 = .int .i64 k ∧ OwnP wr w2.heap.size (.slice A3 n3 c3) qs' ∧ CB 1007 qs' ∧ Hid (∀ i, k ≤ i → i < n3 → -1001 ≤ pX qs' i ∧ pX qs' i ≤ 1001) ∧ OwnP wr w1.heap.size (.slice A2 n2 c2) ps ∧ Below w.heap.size w wr) (fun u7 _ => n3 - (intOf u7).toNat)
    case atStart => exact ⟨0, qs, Nat.zero_le _, rfl, OQ4.out, hcbq.more (by omega), hide (fun i _ hi => (hcbq.at (by rw [hl3.out]; exact hi)).1), OP4.out, B4.out⟩
    case round =>
      obtain ⟨k, qs', hk, rfl, hq', hcb', hbd, hp', hbel⟩ := hrel
      have HQ := hide hq'
      have HP := hide hp'
      have HB := hide hbel
      have HCB := hide hcb'
      have hlq := hide hq'.pts.1
      clear hq' hp' hbel hcb'
      by_cases hlt : k < n3
      · obtain ⟨gb, rfl, hgb, hgl, hfr, hcs⟩ := HQ.out.head (by omega)
        obtain ⟨k0, k1⟩ := hcs k hlt
        obtain ⟨x1, x2⟩ := hbd.out k (Nat.le_refl _) hlt
        have f0 := hfr (k * 2)
        have HQ2 := hide (HQ.out.setX k (pX qs' k + 6))
        have HP2 := hide (HP.out.far (q := ⟨gb, k * 2, none⟩) (fun j hj => by have := OLT.out j hj; show j ≠ gb; omega) (.int .i64 (pX qs' k + 6)))
        have HB2 := hide (HB.out.setCell (p := ⟨gb, k * 2, none⟩) (show w.heap.size ≤ gb by omega) (.int .i64 (pX qs' k + 6)))
        have HCB2 := hide (HCB.out.set (i := k) (x := pX qs' k + 6) (y := pY qs' k) (by omega) (HCB.out.at (i := k) (by rw [hlq.out]; exact hlt)).2)
        have hbd2 : Hid (∀ i, k + 1 ≤ i → i < n3 → -1001 ≤ pX (qs'.set k ⟨pX qs' k + 6, pY qs' k⟩) i ∧ pX (qs'.set k ⟨pX qs' k + 6, pY qs' k⟩) i ≤ 1001) := hide (fun i h1 h2 => by
          unfold pX
          rw [gp_set_ne (by omega)]
          exact hbd.out i (by omega) h2)
        clear hfr hcs
        go_wp2_with fail
        exact ⟨⟨k + 1, _, by omega, by go_num, HQ2.out, HCB2.out, hbd2, HP2.out, HB2.out⟩, by simp [intOf]; omega⟩
      · have : k = n3 := by omega
        subst this
        go_wp2
        go_ret2
        exact ⟨_, ps, _, qs', rfl, HP.out.base (by omega), hlen, hcb, HQ.out.base (by omega), by have := hlq.out; omega, HCB.out, HB.out⟩
  · have e0 : ((v4 : Int) == 0) = false := by rw [beq_eq_false_iff_ne]; omega
    clear h0
    go_wp2
    go_ret2
    exact ⟨_, ps, _, qs, rfl, OP4.out.base (by omega), hlen, hcb, OQ4.out.base (by omega), hlenq, hcbq.more (by omega), B4.out⟩
set_option maxHeartbeats 400000 in
theorem drawMink_any (n c : Nat) (A : Option Addr) (w : World) (hn : n ≤ c) (hc : c ≤ 9223372036854775807) (hA : BytesAt w w.heap.size A n) :
    Calls Try.prog 26 #[.slice A n c] w fun e w' => ∃ v1 ps v2 qs, e = .returned (.tuple #[v1, v2]) ∧ OwnP w' w.heap.size v1 ps ∧ ps.length ≤ 21 ∧ CB 1001 ps ∧ OwnP w' w.heap.size v2 qs ∧ qs.length ≤ 21 ∧ CB 1007 qs ∧ Below w.heap.size w w' := by
  have HT := hide (twoHulls_any n c A w hn hc hA)
  clear hA
  go_enter Try.func26, Try.ntmps26
  go_wp2_with fail
  refine HT.out.mono ?_
  rintro e w1 ⟨v1, ps, v2, qs, rfl, o1, l1, b1, o2, l2, b2, bb⟩
  have HB := hide (And.intro o1 (And.intro l1 (And.intro b1 (And.intro o2 (And.intro l2 (And.intro b2 bb))))))
  clear o1 l1 b1 o2 l2 b2 bb
  go_wp2
  go_ret2
  exact ⟨v1, ps, v2, qs, rfl, HB.out⟩
set_option maxHeartbeats 400000 in
theorem drawMeet_any (n c : Nat) (A : Option Addr) (w : World) (hn : n ≤ c) (hc : c ≤ 9223372036854775807) (hA : BytesAt w w.heap.size A n) :
    Calls Try.prog 33 #[.slice A n c] w fun e w' => ∃ v1 ps v2 qs, e = .returned (.tuple #[v1, v2]) ∧ OwnP w' w.heap.size v1 ps ∧ ps.length ≤ 21 ∧ CB 1001 ps ∧ OwnP w' w.heap.size v2 qs ∧ qs.length ≤ 21 ∧ CB 1007 qs ∧ Below w.heap.size w w' := by
  have HT := hide (twoHulls_any n c A w hn hc hA)
  clear hA
  go_enter Try.func33, Try.ntmps33
  go_wp2_with fail
  refine HT.out.mono ?_
  rintro e w1 ⟨v1, ps, v2, qs, rfl, o1, l1, b1, o2, l2, b2, bb⟩
  have HB := hide (And.intro o1 (And.intro l1 (And.intro b1 (And.intro o2 (And.intro l2 (And.intro b2 bb))))))
  clear o1 l1 b1 o2 l2 b2 bb
  go_wp2
  go_ret2
  exact ⟨v1, ps, v2, qs, rfl, HB.out⟩
end Go.Proofs.Ytoendanihhocjaa
