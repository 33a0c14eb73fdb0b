
/- The reference's draws of fractions and of texts. -/
import Derived.Test.YtlggmjofglmjcaaDoorDecP
import Derived.Test.YtlggmjofglmjcaaDoorDraw
import Derived.Test.YtlggmjofglmjcaaDoorDrawK
import Derived.BigRegion
set_option linter.unusedVariables false
set_option linter.unusedSimpArgs false
namespace Go.Proofs.YtlggmjofglmjcaaDoor
open Go.RowKit

theorem gcdR_pos {a b : Int} (h : 0 < b) : 1 ≤ gcdR a b := by
  unfold gcdR
  have : 0 < Int.gcd a b := Nat.pos_of_ne_zero fun e => by
    rw [Int.gcd_eq_zero_iff] at e; omega
  omega
theorem tdivR_bd {a g : Int} {M : Int} (h : -M ≤ a ∧ a ≤ M) : -M ≤ a.tdiv g ∧ a.tdiv g ≤ M := by
  have h2 : (a.tdiv g).natAbs ≤ a.natAbs := by rw [Int.natAbs_tdiv]; exact Nat.div_le_self _ _
  omega
set_option maxHeartbeats 2000000 in
theorem ratio_any (n d : Int) (w : World) (hn : -100 ≤ n ∧ n ≤ 100) (hd : 1 ≤ d ∧ d ≤ 100) :
    Calls Tryd.prog 89 #[.int .i64 n, .int .i64 d] w fun e w' => ∃ a b : Int, e = .returned (.agg #[.int .i64 a, .int .i64 b]) ∧ (-100 ≤ a ∧ a ≤ 100) ∧ (-100 ≤ b ∧ b ≤ 100) ∧ ∃ x, w' = ext w x := by
  have d0 : decide (d < 0) = false := decide_eq_false (by omega)
  have ba : 0 ≤ absR n ∧ absR n ≤ 100 := by unfold absR; split <;> omega
  have SG := hide (fun W => sgcdR_any (absR n) d W (by omega) (by omega))
  have G1 := gcdR_pos (a := absR n) (b := d) (by omega)
  have ta := tdivR_bd (g := gcdR (absR n) d) hn
  have tb := tdivR_bd (a := d) (g := gcdR (absR n) d) (M := 100) (by omega)
  have SA := hide (fun W => (sabsR_any n W (by omega)).mono (fun e w' h => (⟨h.1, by rw [← h.2]; exact ext_same W⟩ : e = .returned (.int .i64 (absR n)) ∧ ∃ x, w' = ext W x)))
  generalize gcdR (absR n) d = g at *
  have g0 : ¬ g = 0 := by omega
  have g1 : ¬ g = -1 := by omega
  have k1 : IntKind.i64.wrap (n.tdiv g) = n.tdiv g := IntWalk.i64_in _ (by omega)
  have k2 : IntKind.i64.wrap (d.tdiv g) = d.tdiv g := IntWalk.i64_in _ (by omega)
  go_enter Tryd.func89, Tryd.ntmps89
  go_wp2_with fail
  refine (SA.out _).mono ?_
  rintro e w1 ⟨rfl, hx⟩
  have B1 : Hid (Below w.heap.size w w1) := hide (((by (repeat' (first | (with_reducible first | exact Below.refl _ _ | assumption | refine below_ext _ ?_ ?_ | refine Below.alloc ?_ ?_ _ | refine Below.drew ?_ | refine below_drewN ?_ _ | refine le_drewN _ ?_ | refine Below.setCell ?_ ?_ _ | exact Nat.le_refl _ | refine le_ext _ ?_ | refine le_alloc _ ?_ | refine le_setCell _ _ ?_ | refine le_drew ?_) | omega | (simp; done) | (simp; omega)))) : Below w.heap.size w _).trans ((ext_bel hx).mono (by first | omega | (simp; done) | (simp; omega))))
  have R1 := hide (blk_keep (heap_alloc_new w _) (ext_bel hx))
  clear hx
  go_wp2_with fail
  refine (SG.out _).mono ?_
  rintro e w2 ⟨rfl, hx⟩
  have B2 := hide (B1.out.trans ((ext_bel hx).mono B1.out.size))
  have R2 := hide (blk_keep R1.out (ext_bel hx))
  have c0 : _ = some (Value.int .i64 0) := heap_cell R2.out 0
  have c1 : _ = some (Value.int .i64 0) := heap_cell R2.out 1
  have f0 := heap_frozen R2.out 0
  have f1 := heap_frozen R2.out 1
  have z2 := B2.out.size
  clear hx SG SA
  have G1 := box2X R2.out (.int .i64 (n.tdiv g))
  have G2 := box2Y G1 (.int .i64 (d.tdiv g))
  have h0 : _ = some (Value.int .i64 (n.tdiv g)) := heap_cell G2 0
  have h1 : _ = some (Value.int .i64 (d.tdiv g)) := heap_cell G2 1
  have BF := hide ((B2.out.setCell (p := ⟨w.heap.size, 0, none⟩) (Nat.le_refl _) (.int .i64 (n.tdiv g))).setCell (p := ⟨w.heap.size, 1, none⟩) (Nat.le_refl _) (.int .i64 (d.tdiv g)))
  clear G1 G2
  go_wp2_with fail
  go_region
  all_goals go_wp2_with fail
  all_goals generalize (w2.setCell ⟨w.heap.size, 0, none⟩ (.int .i64 (n.tdiv g))).setCell ⟨w.heap.size, 1, none⟩ (.int .i64 (d.tdiv g)) = wf at *
  all_goals ((try simp only [Exit.inBlock, Exit.then]); refine bodyPost_ret (by simp [results, Tryd.results89, go_sem, ↓IntWalk.iteOmega, h0, h1]; try rfl) rfl ?_)
  all_goals exact ⟨_, _, rfl, ta, tb, ext_mk (BF.out.drew)⟩
theorem box_one {w : World} {g : Nat} {x y : Value} {T : TypeId} (h : w.heap[g]? = some (.cells #[x, y] T (0, 0))) : w.cell? ⟨g, 0, none⟩ = some x ∧ w.cell? ⟨g, 1, none⟩ = some y ∧ w.frozen? ⟨g, 0, none⟩ = false ∧ w.frozen? ⟨g, 1, none⟩ = false :=
  ⟨heap_cell h 0, heap_cell h 1, heap_frozen h 0, heap_frozen h 1⟩
theorem Drew.heap {w w' : World} {B nb c g p p' : Nat} {A : Option Addr} (h : Drew w w' B A nb c g p p') {k : Nat} {o : Obj} (hk : w.heap[k]? = some o) (hne : k ≠ g) : w'.heap[k]? = some o := (h.block k (heap_lt hk) hne).trans hk
set_option maxHeartbeats 2000000 in
theorem randomRat_any (B nb c g p : Nat) (A : Option Addr) (w : World) (hp : p ≤ 900000) (hnb : nb ≤ 2000) (hr : Rd w B A nb c g p) :
    Calls Tryd.prog 71 #[.pointer (some ⟨g, 0, none⟩)] w fun e w' => ∃ a b : Int, e = .returned (.agg #[.int .i64 a, .int .i64 b]) ∧ (-100 ≤ a ∧ a ≤ 100) ∧ (-100 ≤ b ∧ b ≤ 100) ∧ Drew w w' B A nb c g p (p + 2) := by
  have lg := hr.lt
  have hle := hr.le
  have hr0 := hr.below ((Below.refl _ w).alloc (Nat.le_refl _) (.cells #[.int .i64 0, .int .i64 0] 27))
  have D0 := hide (Drew.first hr ((Below.refl _ w).alloc (Nat.le_refl _) (.cells #[.int .i64 0, .int .i64 0] 27)))
  have hg0 := heap_alloc_new w (.cells #[.int .i64 0, .int .i64 0] 27)
  go_enter Tryd.func71, Tryd.ntmps71
  go_wp2_with fail
  refine (pick_any 40 B nb c g p A _ (by omega) (by omega) (by omega) hnb hr0).mono ?_
  rintro e w1 ⟨v1, rfl, hv1, hb1, hr1⟩
  have hg1 := (hb1.block w.heap.size (by omega)).trans hg0
  have k1 : IntKind.i64.wrap ((v1 : Int) - 15) = (v1 : Int) - 15 := IntWalk.i64_in _ (by omega)
  go_wp2_with fail
  refine (pick_any 9 B nb c g (p + 1) A _ (by omega) (by omega) (by omega) hnb hr1).mono ?_
  rintro e w2 ⟨v2, rfl, hv2, hb2, hr2⟩
  have hg2 := (hb2.block w.heap.size (by omega)).trans hg1
  have D2 := hide ((D0.out.trans (Drew.of_but hb1 hr1)).trans (Drew.of_but hb2 hr2))
  have k2 : IntKind.i64.wrap (1 + (v2 : Int)) = 1 + (v2 : Int) := IntWalk.i64_in _ (by omega)
  clear D0 hr0 hg0 hg1 hr1 hb1 hb2
  go_wp2_with fail
  refine (ratio_any _ _ _ (by omega) (by omega)).mono ?_
  rintro e w3 ⟨a, b, rfl, ha, hb, hx⟩
  have hg3 := blk_keep hg2 (ext_bel hx)
  have D3 := hide (D2.out.then (ext_bel hx))
  obtain ⟨c0, c1, f0, f1⟩ := box_one hg3
  have HGF := hide (box_set2 hg3 (.int .i64 a) (.int .i64 b))
  have DF := hide ((D3.out.set lg (by omega) (q := ⟨w.heap.size, 0, none⟩) (Nat.le_refl _) (.int .i64 a)).set lg (by omega) (q := ⟨w.heap.size, 1, none⟩) (Nat.le_refl _) (.int .i64 b))
  clear hx hg2 hg3 hr2 D2 D3
  go_wp2_with fail
  generalize (w3.setCell ⟨w.heap.size, 0, none⟩ (.int .i64 a)).setCell ⟨w.heap.size, 1, none⟩ (.int .i64 b) = W at *
  obtain ⟨k0, k1, _, _⟩ := box_one HGF.out
  ((try simp only [Exit.inBlock, Exit.then]); refine bodyPost_ret (by simp [results, Tryd.results71, go_sem, ↓IntWalk.iteOmega, k0, k1]; try rfl) rfl ?_)
  exact ⟨_, _, rfl, ha, hb, DF.out⟩
set_option maxHeartbeats 4000000 in
theorem anyRat_any (B nb c g p : Nat) (A : Option Addr) (w : World) (hp : p ≤ 800000) (hnb : nb ≤ 2000) (hr : Rd w B A nb c g p) :
    Calls Tryd.prog 49 #[.pointer (some ⟨g, 0, none⟩)] w fun e w' => ∃ (a b : Int) (p' : Nat), e = .returned (.agg #[.int .i64 a, .int .i64 b]) ∧ p' ≤ p + 10 ∧ Drew w w' B A nb c g p p' := by
  have lg := hr.lt
  have hle := hr.le
  have hr0 := hr.below ((Below.refl _ w).alloc (Nat.le_refl _) (.cells #[.int .i64 0, .int .i64 0] 27))
  have D0 := hide (Drew.first hr ((Below.refl _ w).alloc (Nat.le_refl _) (.cells #[.int .i64 0, .int .i64 0] 27)))
  have hg0 := heap_alloc_new w (.cells #[.int .i64 0, .int .i64 0] 27)
  go_enter Tryd.func49, Tryd.ntmps49
  go_wp2_with fail
  refine (randomRat_any B nb c g p A _ (by omega) hnb hr0).mono ?_
  rintro e w1 ⟨x, y, rfl, hx, hy, D1⟩
  have s1 := D1.size
  rw [size_alloc] at s1
  have hg1 := Drew.heap D1 hg0 (by omega)
  have D2 := hide (D0.out.trans D1)
  have hr1 := D1.rd.to ((Below.refl _ w1).alloc (Nat.le_refl _) (.cells #[.int .i64 x, .int .i64 y] 27))
  have D3 := hide (D2.out.then ((Below.refl _ w1).alloc (Nat.le_refl _) (.cells #[.int .i64 x, .int .i64 y] 27)))
  have hg2 := (Below.heap_alloc w1 (.cells #[.int .i64 x, .int .i64 y] 27) w.heap.size (by omega)).trans hg1
  have hb1 := heap_alloc_new w1 (.cells #[.int .i64 x, .int .i64 y] 27)
  clear hr0 hg0 D0 D1 D2 hg1
  go_wp2_with fail
  refine (pick_any 16 B nb c g (p + 2) A _ (by omega) (by omega) (by omega) hnb hr1).mono ?_
  rintro e w2 ⟨v2, rfl, hv2, hb2, hr2⟩
  have s2 : w1.heap.size + 1 ≤ w2.heap.size := by have h := hb2.size; rw [size_alloc] at h; omega
  have hg3 := hide ((hb2.block w.heap.size (by omega)).trans hg2)
  have hb3 := hide ((hb2.block w1.heap.size (by omega)).trans hb1)
  have D4 := hide (D3.out.trans (Drew.of_but hb2 hr2))
  have HR2 := hide hr2
  clear hg2 hb1 D3 hr1 hb2 hr2
  have nn : ¬ w.heap.size = w1.heap.size := by omega
  have nn2 : ¬ w1.heap.size = w.heap.size := by omega
  by_cases h0 : v2 = 0
  · subst h0
    have o1 := hide (fun o : Obj => (Below.heap_alloc w2 o w.heap.size (by omega)).trans hg3.out)
    have o2 := hide (fun o : Obj => (Below.heap_alloc w2 o w1.heap.size (by omega)).trans hb3.out)
    have o3 := hide (fun o : Obj => D4.out.then ((Below.refl _ w2).alloc (Nat.le_refl _) o))
    have o4 := hide (fun o : Obj => HR2.out.to ((Below.refl _ w2).alloc (Nat.le_refl _) o))
    clear hg3 hb3 D4 HR2
    go_wp2_with fail
    refine (one_any [0, Int.negSucc 0, 20000001, 20000000] B nb c g (p + 3) w2.heap.size 4 3 4 _ A _ (by decide) (by decide) (by omega) hnb (o4.out _) (RowAt.lits w2 _ [0, Int.negSucc 0, 20000001, 20000000] _ rfl) (Nat.le_refl _) (fun i hi => rfl) (by omega)).mono ?_
    rintro e w3 ⟨z, rfl, hzm, hb5, hr5⟩
    have s3 : w2.heap.size + 1 ≤ w3.heap.size := by have h := hb5.size; rw [size_alloc] at h; omega
    have hg6 := (hb5.block w.heap.size (by omega)).trans (o1.out _)
    have hb6 := (hb5.block w1.heap.size (by omega)).trans (o2.out _)
    have D6 := hide ((o3.out _).trans (Drew.of_but hb5 hr5))
    obtain ⟨c0, c1, f0, f1⟩ := box_one hb6
    obtain ⟨e0, e1, ef0, ef1⟩ := box_one hg6
    have hgs := blk_far hg6 (p := ⟨w1.heap.size, 1, none⟩) (by show w.heap.size ≠ w1.heap.size; omega) (.int .i64 z)
    have HGF := hide (box_set2 hgs (.int .i64 x) (.int .i64 z))
    have DF := hide (((D6.out.set lg (by omega) (q := ⟨w1.heap.size, 1, none⟩) (by show w.heap.size ≤ w1.heap.size; omega) (.int .i64 z)).set lg (by omega) (q := ⟨w.heap.size, 0, none⟩) (Nat.le_refl _) (.int .i64 x)).set lg (by omega) (q := ⟨w.heap.size, 1, none⟩) (Nat.le_refl _) (.int .i64 z))
    clear hgs o1 o2 o3 o4 hzm hb5 hr5 hg6 hb6 D6
    go_wp2_with fail
    generalize ((w3.setCell ⟨w1.heap.size, 1, none⟩ (.int .i64 z)).setCell ⟨w.heap.size, 0, none⟩ (.int .i64 x)).setCell ⟨w.heap.size, 1, none⟩ (.int .i64 z) = W at *
    obtain ⟨k0, k1, _, _⟩ := box_one HGF.out
    ((try simp only [Exit.inBlock, Exit.then]); refine bodyPost_ret (by simp [results, Tryd.results49, go_sem, ↓IntWalk.iteOmega, k0, k1]; try rfl) rfl ?_)
    exact ⟨_, _, p + 4, rfl, by omega, DF.out⟩
  have hd0 : ((v2 : Int) == 0) = false := by rw [beq_eq_false_iff_ne]; omega
  by_cases h1 : v2 = 1
  · subst h1
    obtain ⟨c0, c1, f0, f1⟩ := box_one hb3.out
    obtain ⟨e0, e1, ef0, ef1⟩ := box_one hg3.out
    have m1 := box2X hb3.out (.int .i64 2)
    have m1' := box_one m1
    have hgs := blk_far (blk_far hg3.out (p := ⟨w1.heap.size, 0, none⟩) (by show w.heap.size ≠ w1.heap.size; omega) (.int .i64 2)) (p := ⟨w1.heap.size, 1, none⟩) (by show w.heap.size ≠ w1.heap.size; omega) (.int .i64 4)
    have HGF := hide (box_set2 hgs (.int .i64 2) (.int .i64 4))
    have DF := hide ((((D4.out.set lg (by omega) (q := ⟨w1.heap.size, 0, none⟩) (by show w.heap.size ≤ w1.heap.size; omega) (.int .i64 2)).set lg (by omega) (q := ⟨w1.heap.size, 1, none⟩) (by show w.heap.size ≤ w1.heap.size; omega) (.int .i64 4)).set lg (by omega) (q := ⟨w.heap.size, 0, none⟩) (Nat.le_refl _) (.int .i64 2)).set lg (by omega) (q := ⟨w.heap.size, 1, none⟩) (Nat.le_refl _) (.int .i64 4))
    have q1 := m1'.2.1
    clear m1 m1' hgs hg3 hb3 D4 HR2 hd0 h0
    go_wp2_with fail
    generalize (((w2.setCell ⟨w1.heap.size, 0, none⟩ (.int .i64 2)).setCell ⟨w1.heap.size, 1, none⟩ (.int .i64 4)).setCell ⟨w.heap.size, 0, none⟩ (.int .i64 2)).setCell ⟨w.heap.size, 1, none⟩ (.int .i64 4) = W at *
    obtain ⟨k0, k1, _, _⟩ := box_one HGF.out
    ((try simp only [Exit.inBlock, Exit.then]); refine bodyPost_ret (by simp [results, Tryd.results49, go_sem, ↓IntWalk.iteOmega, k0, k1]; try rfl) rfl ?_)
    exact ⟨_, _, p + 3, rfl, by omega, DF.out⟩
  have hd1 : ((v2 : Int) == 1) = false := by rw [beq_eq_false_iff_ne]; omega
  by_cases h2 : v2 = 2
  · subst h2
    have o1 := hide (fun o : Obj => (Below.heap_alloc w2 o w.heap.size (by omega)).trans hg3.out)
    have o2 := hide (fun o : Obj => (Below.heap_alloc w2 o w1.heap.size (by omega)).trans hb3.out)
    have o3 := hide (fun o : Obj => D4.out.then ((Below.refl _ w2).alloc (Nat.le_refl _) o))
    have o4 := hide (fun o : Obj => HR2.out.to ((Below.refl _ w2).alloc (Nat.le_refl _) o))
    clear hg3 hb3 D4 HR2 hd0 hd1 h0 h1
    go_wp2_with fail
    refine (one_any [100000000000, Int.negSucc 99999999999, 100000000001] B nb c g (p + 3) w2.heap.size 3 3 3 _ A _ (by decide) (by decide) (by omega) hnb (o4.out _) (RowAt.lits w2 _ [100000000000, Int.negSucc 99999999999, 100000000001] _ rfl) (Nat.le_refl _) (fun i hi => rfl) (by omega)).mono ?_
    rintro e w3 ⟨z, rfl, hzm, hb5, hr5⟩
    have s3 : w2.heap.size + 1 ≤ w3.heap.size := by have h := hb5.size; rw [size_alloc] at h; omega
    have hg6 := (hb5.block w.heap.size (by omega)).trans (o1.out _)
    have hb6 := (hb5.block w1.heap.size (by omega)).trans (o2.out _)
    have D6 := hide ((o3.out _).trans (Drew.of_but hb5 hr5))
    obtain ⟨c0, c1, f0, f1⟩ := box_one hb6
    obtain ⟨e0, e1, ef0, ef1⟩ := box_one hg6
    have m1 := box2X hb6 (.int .i64 z)
    have q1 := (box_one m1).2.1
    have hgs := blk_far (blk_far hg6 (p := ⟨w1.heap.size, 0, none⟩) (by show w.heap.size ≠ w1.heap.size; omega) (.int .i64 z)) (p := ⟨w1.heap.size, 1, none⟩) (by show w.heap.size ≠ w1.heap.size; omega) (.int .i64 1)
    have HGF := hide (box_set2 hgs (.int .i64 z) (.int .i64 1))
    have DF := hide ((((D6.out.set lg (by omega) (q := ⟨w1.heap.size, 0, none⟩) (by show w.heap.size ≤ w1.heap.size; omega) (.int .i64 z)).set lg (by omega) (q := ⟨w1.heap.size, 1, none⟩) (by show w.heap.size ≤ w1.heap.size; omega) (.int .i64 1)).set lg (by omega) (q := ⟨w.heap.size, 0, none⟩) (Nat.le_refl _) (.int .i64 z)).set lg (by omega) (q := ⟨w.heap.size, 1, none⟩) (Nat.le_refl _) (.int .i64 1))
    clear m1 hgs o1 o2 o3 o4 hzm hb5 hr5 hg6 hb6 D6
    go_wp2_with fail
    generalize (((w3.setCell ⟨w1.heap.size, 0, none⟩ (.int .i64 z)).setCell ⟨w1.heap.size, 1, none⟩ (.int .i64 1)).setCell ⟨w.heap.size, 0, none⟩ (.int .i64 z)).setCell ⟨w.heap.size, 1, none⟩ (.int .i64 1) = W at *
    obtain ⟨k0, k1, _, _⟩ := box_one HGF.out
    ((try simp only [Exit.inBlock, Exit.then]); refine bodyPost_ret (by simp [results, Tryd.results49, go_sem, ↓IntWalk.iteOmega, k0, k1]; try rfl) rfl ?_)
    exact ⟨_, _, p + 4, rfl, by omega, DF.out⟩
  have hd2 : ((v2 : Int) == 2) = false := by rw [beq_eq_false_iff_ne]; omega
  obtain ⟨c0, c1, f0, f1⟩ := box_one hb3.out
  obtain ⟨e0, e1, ef0, ef1⟩ := box_one hg3.out
  have HGF := hide (box_set2 hg3.out (.int .i64 x) (.int .i64 y))
  have DF := hide ((D4.out.set lg (by omega) (q := ⟨w.heap.size, 0, none⟩) (Nat.le_refl _) (.int .i64 x)).set lg (by omega) (q := ⟨w.heap.size, 1, none⟩) (Nat.le_refl _) (.int .i64 y))
  clear hg3 hb3 D4 HR2 h0 h1 h2
  go_wp2_with fail
  generalize (w2.setCell ⟨w.heap.size, 0, none⟩ (.int .i64 x)).setCell ⟨w.heap.size, 1, none⟩ (.int .i64 y) = W at *
  obtain ⟨k0, k1, _, _⟩ := box_one HGF.out
  ((try simp only [Exit.inBlock, Exit.then]); refine bodyPost_ret (by simp [results, Tryd.results49, go_sem, ↓IntWalk.iteOmega, k0, k1]; try rfl) rfl ?_)
  exact ⟨_, _, p + 3, rfl, by omega, DF.out⟩
set_option maxHeartbeats 4000000 in
theorem drawEncR_any (n c : Nat) (A : Option Addr) (w : World) (hn : n ≤ c) (hc : c ≤ 9223372036854775807) (hA : BytesAt w w.heap.size A n) :
    Calls Tryd.prog 22 #[.slice A n c] w fun e w' => ∃ a b x y : Int, e = .returned (.agg #[.int .i64 a, .int .i64 b, .int .i64 x, .int .i64 y]) ∧ Below w.heap.size w w' := by
  have hg0 := heap_alloc_new w (.cells #[.int .i64 0, .int .i64 0, .int .i64 0, .int .i64 0] 29)
  have b0 := (Below.refl w.heap.size w).alloc (Nat.le_refl _) (.cells #[.int .i64 0, .int .i64 0, .int .i64 0, .int .i64 0] 29)
  go_enter Tryd.func22, Tryd.ntmps22
  go_wp2_with fail
  refine (newReader_any n c A _ hn hc (BytesAt.more (BytesAt.below hA b0) (by first | omega | (simp; done) | (simp; omega)))).mono ?_
  rintro e w1 ⟨g, nb, rfl, hg, hnb, hr, hx⟩
  have D1 := ext_bel hx
  have hg1 := (D1.block w.heap.size (by simp)).trans hg0
  have B1 := b0.trans (D1.mono (by first | omega | (simp; done) | (simp; omega)))
  have lg := hr.lt
  have hgw : w.heap.size + 1 ≤ g := by rw [size_alloc] at hg; exact hg
  have s1 : w.heap.size + 1 ≤ w1.heap.size := by omega
  clear hx hg0 D1 b0 hg
  go_wp2_with fail
  refine (anyRat_any _ nb _ g 0 A _ (by omega) hnb hr).mono ?_
  rintro e w2 ⟨a, b, p', rfl, hp', hD⟩
  have hg2 := Drew.heap hD hg1 (by omega)
  have s2 := hD.size
  have B2 : Below w.heap.size w w2 := B1.trans (hD.below (by omega) (by omega))
  have hr2 := hide (fun (W : World) (h : Below w2.heap.size w2 W) => hD.rd.to h)
  have lg2 : g < w2.heap.size := hD.rd.lt
  have gk := hide ((Below.heap_alloc w2 (.cells #[.int .i64 a, .int .i64 b] 27) w.heap.size (heap_lt hg2)).trans hg2)
  have kk := hide (heap_alloc_new w2 (.cells #[.int .i64 a, .int .i64 b] 27))
  have BB : Hid (Below w.heap.size w (w2.alloc (.cells #[.int .i64 a, .int .i64 b] 27))) := hide (B2.alloc (by omega) _)
  have HH := hide (fun (W : World) (hW : Below (w2.heap.size + 1) (w2.alloc (.cells #[.int .i64 a, .int .i64 b] 27)) W) => anyRat_any _ nb _ g p' A W (by omega) hnb (hr2.out W (((Below.refl _ w2).alloc (Nat.le_refl _) (.cells #[.int .i64 a, .int .i64 b] 27)).trans (hW.mono (by omega)))))
  clear hD hg1 hg2 B1 B2 hr
  obtain ⟨q0, q1, _, _⟩ := box_one kk.out
  go_wp2_with fail
  go_region_with (go_at_call 49; refine (HH.out _ (by (repeat' (first | (with_reducible first | exact Below.refl _ _ | assumption | refine below_ext _ ?_ ?_ | refine Below.alloc ?_ ?_ _ | refine Below.drew ?_ | refine below_drewN ?_ _ | refine le_drewN _ ?_ | refine Below.setCell ?_ ?_ _ | exact Nat.le_refl _ | refine le_ext _ ?_ | refine le_alloc _ ?_ | refine le_setCell _ _ ?_ | refine le_drew ?_) | omega | (simp; done) | (simp; omega))))).mono ?_; rintro e w3 ⟨x, y, p3, rfl, hp3, D3⟩; have gk3 := hide (Drew.heap D3 (k := w.heap.size) gk.out (by omega)); have kk3 := Drew.heap D3 (k := w2.heap.size) kk.out (by omega); have B3 : Hid (Below w.heap.size w w3) := hide (BB.out.drew.trans (D3.below (by omega) (by show _ ≤ (w2.alloc _).heap.size; rw [size_alloc]; omega))); have k30 := (box_one kk3).1; have k31 := (box_one kk3).2.1; have t3 := B3.out.size; clear kk3 D3; obtain ⟨⟨a20, a21, a22, a23⟩, f20, f21, f22, f23⟩ := box4_all gk3.out; have E1 := hide (box4_1 gk3.out (.int .i64 a)); have E2 := hide (box4_2 E1.out (.int .i64 b)); have E3 := hide (box4_3 E2.out (.int .i64 x)); have E4 := hide (box4_4 E3.out (.int .i64 y)); have p1 : _ = some (Value.int .i64 0) := heap_cell E1.out 1; have p2 : _ = some (Value.int .i64 0) := heap_cell E2.out 2; have p3' : _ = some (Value.int .i64 0) := heap_cell E3.out 3; have r0 : _ = some (Value.int .i64 a) := heap_cell E1.out 0; have r1 : _ = some (Value.int .i64 b) := heap_cell E2.out 1; have r2 : _ = some (Value.int .i64 x) := heap_cell E3.out 2; have r3 : _ = some (Value.int .i64 y) := heap_cell E4.out 3; clear E1 E2 E3 E4 gk3)
  all_goals
    go_wp2_with fail
    ((try simp only [Exit.inBlock, Exit.then]); refine bodyPost_ret (by simp [results, Tryd.results22, go_sem, ↓IntWalk.iteOmega, r0, r1, r2, r3]; try rfl) rfl ?_)
    exact ⟨a, b, x, y, rfl, by have := B3.out; exact (by (repeat' (first | (with_reducible first | exact Below.refl _ _ | assumption | refine below_ext _ ?_ ?_ | refine Below.alloc ?_ ?_ _ | refine Below.drew ?_ | refine below_drewN ?_ _ | refine le_drewN _ ?_ | refine Below.setCell ?_ ?_ _ | exact Nat.le_refl _ | refine le_ext _ ?_ | refine le_alloc _ ?_ | refine le_setCell _ _ ?_ | refine le_drew ?_) | omega | (simp; done) | (simp; omega))))⟩
end Go.Proofs.YtlggmjofglmjcaaDoor
