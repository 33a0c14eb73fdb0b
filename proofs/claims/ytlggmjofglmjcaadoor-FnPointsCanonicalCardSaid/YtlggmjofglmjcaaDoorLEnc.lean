
/- laws.FnExactEncodeRatPoint: both texts are one. -/
import Derived.Test.YtlggmjofglmjcaaDoorLaid
set_option linter.unusedVariables false
set_option linter.unusedSimpArgs false
namespace Go.Proofs.YtlggmjofglmjcaaDoor
open Go.RowKit

set_option maxHeartbeats 400000 in
theorem toRat_any (n d : Int) (w : World) : Calls Tryd.prog 33 #[.agg #[.int .i64 n, .int .i64 d]] w fun e w' => e = .returned (.agg #[.int .i64 n, .int .i64 d]) ∧ ∃ x, w' = ext w x := by
  go_enter Tryd.func33, Tryd.ntmps33
  go_wp2
  go_returns
  exact ⟨rfl, (ext_mk (by (repeat' (first | (with_reducible first | exact Below.refl _ _ | assumption | refine below_ext _ ?_ ?_ | refine Below.alloc ?_ ?_ _ | refine Below.drew ?_ | refine below_drewN ?_ _ | refine le_drewN _ ?_ | refine Below.setCell ?_ ?_ _ | exact Nat.le_refl _ | refine le_ext _ ?_ | refine le_alloc _ ?_ | refine le_setCell _ _ ?_ | refine le_drew ?_) | omega | (simp; done) | (simp; omega)))))⟩
theorem blk_keep {w W : World} {g : Nat} {o : Obj} (h : w.heap[g]? = some o) (hb : Below w.heap.size w W) : W.heap[g]? = some o := (hb.block g (heap_lt h)).trans h
theorem blk_far {w : World} {g : Nat} {o : Obj} (h : w.heap[g]? = some o) {p : Addr} (hp : g ≠ p.block) (v : Value) : (w.setCell p v).heap[g]? = some o := (Below.heap_setCell w p v g hp).trans h
theorem box4_lo {w : World} {g : Nat} {T : TypeId} {p q r s : Value} (h : w.heap[g]? = some (.cells #[p, q, r, s] T (0, 0))) (a b : Value) : ((w.setCell ⟨g, 0, none⟩ a).setCell ⟨g, 1, none⟩ b).heap[g]? = some (.cells #[a, b, r, s] T (0, 0)) := by
  simp [World.setCell, Array.getElem?_modify, h]
theorem box4_hi {w : World} {g : Nat} {T : TypeId} {p q r s : Value} (h : w.heap[g]? = some (.cells #[p, q, r, s] T (0, 0))) (a b : Value) : ((w.setCell ⟨g, 2, none⟩ a).setCell ⟨g, 3, none⟩ b).heap[g]? = some (.cells #[p, q, a, b] T (0, 0)) := by
  simp [World.setCell, Array.getElem?_modify, h]
theorem box4_all {w : World} {g : Nat} {T : TypeId} {p q r s : Value} (h : w.heap[g]? = some (.cells #[p, q, r, s] T (0, 0))) :
    (w.cell? ⟨g, 0, none⟩ = some p ∧ w.cell? ⟨g, 1, none⟩ = some q ∧ w.cell? ⟨g, 2, none⟩ = some r ∧ w.cell? ⟨g, 3, none⟩ = some s) ∧ (w.frozen? ⟨g, 0, none⟩ = false ∧ w.frozen? ⟨g, 1, none⟩ = false ∧ w.frozen? ⟨g, 2, none⟩ = false ∧ w.frozen? ⟨g, 3, none⟩ = false) :=
  ⟨⟨heap_cell h 0, heap_cell h 1, heap_cell h 2, heap_cell h 3⟩, heap_frozen h 0, heap_frozen h 1, heap_frozen h 2, heap_frozen h 3⟩
theorem box4_1 {w : World} {g : Nat} {T : TypeId} {p q r s : Value} (h : w.heap[g]? = some (.cells #[p, q, r, s] T (0, 0))) (a : Value) : (w.setCell ⟨g, 0, none⟩ a).heap[g]? = some (.cells #[a, q, r, s] T (0, 0)) := by
  simp [World.setCell, Array.getElem?_modify, h]
theorem box4_2 {w : World} {g : Nat} {T : TypeId} {p q r s : Value} (h : w.heap[g]? = some (.cells #[p, q, r, s] T (0, 0))) (a : Value) : (w.setCell ⟨g, 1, none⟩ a).heap[g]? = some (.cells #[p, a, r, s] T (0, 0)) := by
  simp [World.setCell, Array.getElem?_modify, h]
theorem box4_3 {w : World} {g : Nat} {T : TypeId} {p q r s : Value} (h : w.heap[g]? = some (.cells #[p, q, r, s] T (0, 0))) (a : Value) : (w.setCell ⟨g, 2, none⟩ a).heap[g]? = some (.cells #[p, q, a, s] T (0, 0)) := by
  simp [World.setCell, Array.getElem?_modify, h]
theorem box4_4 {w : World} {g : Nat} {T : TypeId} {p q r s : Value} (h : w.heap[g]? = some (.cells #[p, q, r, s] T (0, 0))) (a : Value) : (w.setCell ⟨g, 3, none⟩ a).heap[g]? = some (.cells #[p, q, r, a] T (0, 0)) := by
  simp [World.setCell, Array.getElem?_modify, h]
set_option maxHeartbeats 1000000 in
theorem toRatP_any (a b c d : Int) (w : World) : Calls Tryd.prog 12 #[.agg #[.int .i64 a, .int .i64 b, .int .i64 c, .int .i64 d]] w fun e w' => e = .returned (.agg #[.int .i64 a, .int .i64 b, .int .i64 c, .int .i64 d]) ∧ ∃ x, w' = ext w x := by
  go_enter Tryd.func12, Tryd.ntmps12
  go_wp2_with fail
  refine (toRat_any a b _).mono ?_
  rintro e w1 ⟨rfl, hx⟩
  have A0 := hide (blk_keep (g := w.heap.size) ((Below.heap_alloc _ _ _ (by first | (simp; done) | (simp; omega))).trans ((Below.heap_alloc _ _ _ (by first | (simp; done) | (simp; omega))).trans (heap_alloc_new w _))) (ext_bel hx))
  have A1 := hide (blk_keep (g := w.heap.size + 1) ((Below.heap_alloc _ _ _ (by simp)).trans (by rw [← size_alloc w (.cells #[.int .i64 a, .int .i64 b, .int .i64 c, .int .i64 d] 25)]; exact heap_alloc_new _ _)) (ext_bel hx))
  have A2 := hide (blk_keep (g := w.heap.size + 1 + 1) (by rw [← size_alloc w (.cells #[.int .i64 a, .int .i64 b, .int .i64 c, .int .i64 d] 25), ← size_alloc _ (.cells #[.int .i64 0, .int .i64 0, .int .i64 0, .int .i64 0] 29)]; exact heap_alloc_new _ _) (ext_bel hx))
  have B1 : Hid (Below w.heap.size w w1) := hide (((by (repeat' (first | (with_reducible first | exact Below.refl _ _ | assumption | refine below_ext _ ?_ ?_ | refine Below.alloc ?_ ?_ _ | refine Below.drew ?_ | refine below_drewN ?_ _ | refine le_drewN _ ?_ | refine Below.setCell ?_ ?_ _ | exact Nat.le_refl _ | refine le_ext _ ?_ | refine le_alloc _ ?_ | refine le_setCell _ _ ?_ | refine le_drew ?_) | omega | (simp; done) | (simp; omega)))) : Below w.heap.size w _).trans ((ext_bel hx).mono (by first | (simp; done) | (simp; omega))))
  clear hx
  have z1 := B1.out.size
  obtain ⟨⟨a00, a01, a02, a03⟩, _⟩ := box4_all A0.out
  obtain ⟨⟨a20, a21, a22, a23⟩, f20, f21, f22, f23⟩ := box4_all A2.out
  go_wp2_with fail
  refine (toRat_any c d _).mono ?_
  rintro e w2 ⟨rfl, hx⟩
  have C0 := hide (blk_keep (blk_far (blk_far A0.out (by first | (simp; done) | (simp; omega)) _) (by first | (simp; done) | (simp; omega)) _) (ext_bel hx))
  have C1 := hide (blk_keep (blk_far (blk_far A1.out (by simp) _) (by simp) _) (ext_bel hx))
  have C2 := hide (blk_keep (box4_lo A2.out _ _) (ext_bel hx))
  have B2 : Hid (Below w.heap.size w w2) := hide ((((B1.out.setCell (by first | (simp; done) | (simp; omega)) _).setCell (by first | (simp; done) | (simp; omega)) _)).trans ((ext_bel hx).mono (by simpa using z1)))
  clear hx a00 a01 a02 a03 a20 a21 a22 a23 f20 f21 f22 f23
  have z2 := B2.out.size
  obtain ⟨⟨a00, a01, a02, a03⟩, _⟩ := box4_all C0.out
  obtain ⟨⟨a20, a21, a22, a23⟩, f20, f21, f22, f23⟩ := box4_all C2.out
  have D1 := hide (blk_far (blk_far (p := ⟨w.heap.size + 1 + 1, 2, none⟩) C1.out (by first | (simp; done) | (simp; omega)) (.int .i64 c)) (p := ⟨w.heap.size + 1 + 1, 3, none⟩) (by first | (simp; done) | (simp; omega)) (.int .i64 d))
  have E1 := hide (box4_1 D1.out (.int .i64 a))
  have E2 := hide (box4_2 E1.out (.int .i64 b))
  have E3 := hide (box4_3 E2.out (.int .i64 c))
  have E4 := hide (box4_4 E3.out (.int .i64 d))
  have p0 := heap_cell D1.out 0
  have p1 := heap_cell E1.out 1
  have p2 := heap_cell E2.out 2
  have p3 := heap_cell E3.out 3
  obtain ⟨⟨g0, g1, g2, g3⟩, _⟩ := box4_all E4.out
  obtain ⟨_, f10, f11, f12, f13⟩ := box4_all C1.out
  have r0 := heap_cell E1.out 0
  have r1 := heap_cell E2.out 1
  have r2 := heap_cell E3.out 2
  have r3 := heap_cell E4.out 3
  have p0 : _ = some (Value.int .i64 0) := p0
  have p1 : _ = some (Value.int .i64 0) := p1
  have p2 : _ = some (Value.int .i64 0) := p2
  have p3 : _ = some (Value.int .i64 0) := p3
  have r0 : _ = some (Value.int .i64 a) := r0
  have r1 : _ = some (Value.int .i64 b) := r1
  have r2 : _ = some (Value.int .i64 c) := r2
  have r3 : _ = some (Value.int .i64 d) := r3
  go_wp2_with fail
  ((try simp only [Exit.inBlock, Exit.then]); refine bodyPost_ret (by simp [results, Tryd.results12, go_sem, ↓IntWalk.iteOmega, r0, r1, r2, r3]; try rfl) rfl ?_)
  exact ⟨rfl, ext_mk (by have := B2.out; exact (by (repeat' (first | (with_reducible first | exact Below.refl _ _ | assumption | refine below_ext _ ?_ ?_ | refine Below.alloc ?_ ?_ _ | refine Below.drew ?_ | refine below_drewN ?_ _ | refine le_drewN _ ?_ | refine Below.setCell ?_ ?_ _ | exact Nat.le_refl _ | refine le_ext _ ?_ | refine le_alloc _ ?_ | refine le_setCell _ _ ?_ | refine le_drew ?_) | omega | (simp; done) | (simp; omega)))))⟩
set_option maxHeartbeats 1000000 in
theorem lawEnc (a b c d : Int) (w : World) (ht : Tab w) : Calls Tryd.prog 3 #[.agg #[.int .i64 a, .int .i64 b, .int .i64 c, .int .i64 d]] w fun e w' => e = .returned (.bool true) ∧ Below w.heap.size w w' := by
  have SA := hide (sEncP_any a b c d)
  have IA := hide (fun (W : World) (hb : Below w.heap.size w W) => iEncP_any a b c d W (ht.to hb))
  clear ht
  generalize bS (rpE a b c d) = S at *
  go_enter Tryd.func3, Tryd.ntmps3
  go_wp2_with (first | (go_at_call 12; refine (toRatP_any _ _ _ _ _).mono ?_; rintro e w' ⟨rfl, hw'⟩; have hzy := ext_sz hw'; obtain ⟨y, rfl⟩ := hw'; (try simp at hzy)) | (go_at_call 11; refine (SA.out _).mono ?_; rintro e w' ⟨rfl, hw'⟩; have hzz := ext_sz hw'; obtain ⟨z, rfl⟩ := hw'; (try simp at hzz)) | (go_at_call 13; refine (IA.out _ (by (repeat' (first | (with_reducible first | exact Below.refl _ _ | assumption | refine below_ext _ ?_ ?_ | refine Below.alloc ?_ ?_ _ | refine Below.drew ?_ | refine below_drewN ?_ _ | refine le_drewN _ ?_ | refine Below.setCell ?_ ?_ _ | exact Nat.le_refl _ | refine le_ext _ ?_ | refine le_alloc _ ?_ | refine le_setCell _ _ ?_ | refine le_drew ?_) | omega | (simp; done) | (simp; omega))))).mono ?_; rintro e w' ⟨rfl, hw'⟩; have hzu := ext_sz hw'; obtain ⟨u, rfl⟩ := hw'; (try simp at hzu)))
  go_ret
  exact ⟨rfl, (by (repeat' (first | (with_reducible first | exact Below.refl _ _ | assumption | refine below_ext _ ?_ ?_ | refine Below.alloc ?_ ?_ _ | refine Below.drew ?_ | refine below_drewN ?_ _ | refine le_drewN _ ?_ | refine Below.setCell ?_ ?_ _ | exact Nat.le_refl _ | refine le_ext _ ?_ | refine le_alloc _ ?_ | refine le_setCell _ _ ?_ | refine le_drew ?_) | omega | (simp; done) | (simp; omega))))⟩
end Go.Proofs.YtlggmjofglmjcaaDoor
