
/- The shapes that polygons are drawn from. -/
import Derived.Test.YtelhidonhldjeaaDrawH
import Derived.Test.YtelhidonhldjeaaSHull
import Derived.Test.YtelhidonhldjeaaWit
set_option linter.unusedVariables false
set_option linter.unusedSimpArgs false
namespace Go.Proofs.Ytelhidonhldjeaa
open Go.RowKit

theorem lit_pts (W : World) (T : TypeId) (qs : List Pt) (cs : Array Value) (h : cs = (ptVals qs).toArray) : PtsAt (W.alloc (.cells cs T)) (W.heap.size + 1) (some ⟨W.heap.size, 0, none⟩) qs := by
  refine Src.pts (fun j u hu => ?_) (Nat.lt_succ_self _)
  subst h
  rw [Nat.zero_add, heap_cell (heap_alloc_new W _) j]
  simpa using hu
theorem ptVals_setP : ∀ (ps : List Pt) (i : Nat) (x y : Int), ptVals (ps.set i ⟨x, y⟩) = ((ptVals ps).set (i * 2) (.int .i64 x)).set (i * 2 + 1) (.int .i64 y)
  | [], i, x, y => by simp [ptVals]
  | p :: ps, 0, x, y => rfl
  | p :: ps, i + 1, x, y => by
    rw [show (i + 1) * 2 = i * 2 + 1 + 1 from by omega]
    simp [ptVals, ptVals_setP ps i x y]
/-- The point at place i written. -/
theorem OwnP.setP {w : World} {base g : Nat} {n c : Nat} {ps : List Pt} (h : OwnP w base (.slice (some ⟨g, 0, none⟩) n c) ps) (i : Nat) (x y : Int) :
    OwnP ((w.setCell ⟨g, i * 2, none⟩ (.int .i64 x)).setCell ⟨g, i * 2 + 1, none⟩ (.int .i64 y)) base (.slice (some ⟨g, 0, none⟩) n c) (ps.set i ⟨x, y⟩) := by
  have hl := h.pts.1
  unfold OwnP at h ⊢
  rcases h.2 with ⟨hv, h1⟩ | ⟨g', cap, cur, hv, hg, hgg, hnc, hcm, hsz, htk⟩
  · cases hv
  · injection hv with e1 e2 e3
    injection e1 with e1
    injection e1 with e1
    subst e1 e3
    refine ⟨by rw [ptVals_len], .inr ⟨g, c, (cur.setIfInBounds (i * 2) (.int .i64 x)).setIfInBounds (i * 2 + 1) (.int .i64 y), by rw [List.length_set, hl], hg, by simp [World.setCell, Array.getElem?_modify, hgg], by rw [List.length_set]; omega, hcm, by simpa using hsz, ?_⟩⟩
    rw [List.length_set, ptVals_setP, ← htk, Array.toList_setIfInBounds, Array.toList_setIfInBounds, List.take_set, List.take_set]
theorem PtsAt.blk {w w' : World} {B b o : Nat} {ps : List Pt} (h : PtsAt w B (some ⟨b, o, none⟩) ps) (hb : w'.heap[b]? = w.heap[b]?) : PtsAt w' B (some ⟨b, o, none⟩) ps := fun hn => by
  obtain ⟨b', o', hA, hB, hc⟩ := h hn
  injection hA with hA; injection hA with h1 h2 _
  subst h1 h2
  exact ⟨b, o, rfl, hB, fun i hi => ⟨(World.cell?_of_block hb).trans (hc i hi).1, (World.cell?_of_block hb).trans (hc i hi).2⟩⟩
theorem gp_set_eq {ps : List Pt} {i : Nat} (h : i < ps.length) (p : Pt) : gp (ps.set i p) i = p := by
  rw [gp_lt (by rw [List.length_set]; exact h)]; simp
theorem CB.of {m : Int} {ps : List Pt} (h : ∀ i, i < ps.length → (-m ≤ pX ps i ∧ pX ps i ≤ m) ∧ (-m ≤ pY ps i ∧ pY ps i ≤ m)) : CB m ps := fun p hp => by
  obtain ⟨i, hi, rfl⟩ := gp_of_mem hp
  exact h i hi
theorem CB.rev {m : Int} {ps : List Pt} (h : CB m ps) : CB m ps.reverse := fun p hp => h p (List.mem_reverse.1 hp)
theorem CB.drop {m : Int} {ps : List Pt} (h : CB m ps) (k : Nat) : CB m (ps.drop k) := fun p hp => h p (List.mem_of_mem_drop hp)
theorem CB.take {m : Int} {ps : List Pt} (h : CB m ps) (k : Nat) : CB m (ps.take k) := fun p hp => h p (List.mem_of_mem_take hp)
theorem CB.app {m : Int} {ps qs : List Pt} (h : CB m ps) (h' : CB m qs) : CB m (ps ++ qs) := fun p hp => (List.mem_append.1 hp).elim (h p) (h' p)
theorem cell_top (w : World) (a b c d e f : Obj) (cs : Array Value) (T : TypeId) (j : Nat) : (((((((w.alloc a).alloc b).alloc c).alloc d).alloc e).alloc f).alloc (.cells cs T)).cell? ⟨w.heap.size + 1 + 1 + 1 + 1 + 1 + 1, j, none⟩ = cs[j]? := by
  have SZ : ((((((w.alloc a).alloc b).alloc c).alloc d).alloc e).alloc f).heap.size = w.heap.size + 1 + 1 + 1 + 1 + 1 + 1 := by simp only [size_alloc]
  rw [← SZ]
  exact heap_cell (heap_alloc_new _ (.cells cs T)) j
theorem pts0 (w : World) (qs : List Pt) (cs : Array Value) (hc : cs = (ptVals qs).toArray) (T : TypeId) (b c d e f g : Obj) : PtsAt (((((((w.alloc (.cells cs T)).alloc b).alloc c).alloc d).alloc e).alloc f).alloc g) (w.heap.size + 6) (some ⟨w.heap.size, 0, none⟩) qs := by
  have h := lit_pts w T qs cs hc
  have hb : Below (w.heap.size + 1) (w.alloc (.cells cs T)) (((((((w.alloc (.cells cs T)).alloc b).alloc c).alloc d).alloc e).alloc f).alloc g) := by
    refine Below.alloc (Below.alloc (Below.alloc (Below.alloc (Below.alloc (Below.alloc (Below.refl _ _) ?_ _) ?_ _) ?_ _) ?_ _) ?_ _) ?_ _ <;> simp <;> omega
  exact (h.below hb).more (by omega)
theorem pts1 (w : World) (qs : List Pt) (cs : Array Value) (hc : cs = (ptVals qs).toArray) (T : TypeId) (a c d e f g : Obj) : PtsAt (((((((w.alloc a).alloc (.cells cs T)).alloc c).alloc d).alloc e).alloc f).alloc g) (w.heap.size + 6) (some ⟨w.heap.size + 1, 0, none⟩) qs := by
  have h := lit_pts (w.alloc a) T qs cs hc
  have hb : Below (w.heap.size + 2) ((w.alloc a).alloc (.cells cs T)) (((((((w.alloc a).alloc (.cells cs T)).alloc c).alloc d).alloc e).alloc f).alloc g) := by
    refine Below.alloc (Below.alloc (Below.alloc (Below.alloc (Below.alloc (Below.refl _ _) ?_ _) ?_ _) ?_ _) ?_ _) ?_ _ <;> simp <;> omega
  rw [size_alloc] at h
  exact (h.below hb).more (by omega)
theorem pts2 (w : World) (qs : List Pt) (cs : Array Value) (hc : cs = (ptVals qs).toArray) (T : TypeId) (a b d e f g : Obj) : PtsAt (((((((w.alloc a).alloc b).alloc (.cells cs T)).alloc d).alloc e).alloc f).alloc g) (w.heap.size + 6) (some ⟨w.heap.size + 1 + 1, 0, none⟩) qs := by
  have h := lit_pts ((w.alloc a).alloc b) T qs cs hc
  have hb : Below (w.heap.size + 3) (((w.alloc a).alloc b).alloc (.cells cs T)) (((((((w.alloc a).alloc b).alloc (.cells cs T)).alloc d).alloc e).alloc f).alloc g) := by
    refine Below.alloc (Below.alloc (Below.alloc (Below.alloc (Below.refl _ _) ?_ _) ?_ _) ?_ _) ?_ _ <;> simp <;> omega
  rw [size_alloc, size_alloc] at h
  exact (h.below hb).more (by omega)
theorem pts3 (w : World) (qs : List Pt) (cs : Array Value) (hc : cs = (ptVals qs).toArray) (T : TypeId) (a b c e f g : Obj) : PtsAt (((((((w.alloc a).alloc b).alloc c).alloc (.cells cs T)).alloc e).alloc f).alloc g) (w.heap.size + 6) (some ⟨w.heap.size + 1 + 1 + 1, 0, none⟩) qs := by
  have h := lit_pts (((w.alloc a).alloc b).alloc c) T qs cs hc
  have hb : Below (w.heap.size + 4) ((((w.alloc a).alloc b).alloc c).alloc (.cells cs T)) (((((((w.alloc a).alloc b).alloc c).alloc (.cells cs T)).alloc e).alloc f).alloc g) := by
    refine Below.alloc (Below.alloc (Below.alloc (Below.refl _ _) ?_ _) ?_ _) ?_ _ <;> simp <;> omega
  rw [size_alloc, size_alloc, size_alloc] at h
  exact (h.below hb).more (by omega)
theorem pts4 (w : World) (qs : List Pt) (cs : Array Value) (hc : cs = (ptVals qs).toArray) (T : TypeId) (a b c d f g : Obj) : PtsAt (((((((w.alloc a).alloc b).alloc c).alloc d).alloc (.cells cs T)).alloc f).alloc g) (w.heap.size + 6) (some ⟨w.heap.size + 1 + 1 + 1 + 1, 0, none⟩) qs := by
  have h := lit_pts ((((w.alloc a).alloc b).alloc c).alloc d) T qs cs hc
  have hb : Below (w.heap.size + 5) (((((w.alloc a).alloc b).alloc c).alloc d).alloc (.cells cs T)) (((((((w.alloc a).alloc b).alloc c).alloc d).alloc (.cells cs T)).alloc f).alloc g) := by
    refine Below.alloc (Below.alloc (Below.refl _ _) ?_ _) ?_ _ <;> simp <;> omega
  rw [size_alloc, size_alloc, size_alloc, size_alloc] at h
  exact (h.below hb).more (by omega)
theorem pts5 (w : World) (qs : List Pt) (cs : Array Value) (hc : cs = (ptVals qs).toArray) (T : TypeId) (a b c d e g : Obj) : PtsAt (((((((w.alloc a).alloc b).alloc c).alloc d).alloc e).alloc (.cells cs T)).alloc g) (w.heap.size + 6) (some ⟨w.heap.size + 1 + 1 + 1 + 1 + 1, 0, none⟩) qs := by
  have h := lit_pts (((((w.alloc a).alloc b).alloc c).alloc d).alloc e) T qs cs hc
  have hb : Below (w.heap.size + 6) ((((((w.alloc a).alloc b).alloc c).alloc d).alloc e).alloc (.cells cs T)) (((((((w.alloc a).alloc b).alloc c).alloc d).alloc e).alloc (.cells cs T)).alloc g) := by
    refine Below.alloc (Below.refl _ _) ?_ _ <;> simp <;> omega
  rw [size_alloc, size_alloc, size_alloc, size_alloc, size_alloc] at h
  exact (h.below hb).more (by omega)
set_option maxHeartbeats 2000000 in
theorem shapes_key (w : World) : ∀ j, j < 6 → ∃ g n qs, ((((((((w.alloc (.cells #[.int .i64 0, .int .i64 0, .int .i64 4, .int .i64 0, .int .i64 4, .int .i64 4, .int .i64 0, .int .i64 4] 39)).alloc (.cells #[.int .i64 0, .int .i64 0, .int .i64 6, .int .i64 0, .int .i64 6, .int .i64 6, .int .i64 3, .int .i64 2, .int .i64 0, .int .i64 6] 39)).alloc (.cells #[.int .i64 0, .int .i64 0, .int .i64 5, .int .i64 1, .int .i64 7, .int .i64 5, .int .i64 2, .int .i64 7, .int .i64 (-1), .int .i64 4] 39)).alloc (.cells #[.int .i64 0, .int .i64 0, .int .i64 2, .int .i64 0, .int .i64 2, .int .i64 3, .int .i64 4, .int .i64 3, .int .i64 4, .int .i64 0, .int .i64 6, .int .i64 0, .int .i64 6, .int .i64 5, .int .i64 0, .int .i64 5] 39)).alloc (.cells #[.int .i64 0, .int .i64 0, .int .i64 3, .int .i64 1, .int .i64 6, .int .i64 0, .int .i64 5, .int .i64 3, .int .i64 6, .int .i64 6, .int .i64 3, .int .i64 5, .int .i64 0, .int .i64 6, .int .i64 1, .int .i64 3] 39)).alloc (.cells #[.int .i64 0, .int .i64 0, .int .i64 9, .int .i64 2, .int .i64 1, .int .i64 3] 39)).alloc (.cells #[.slice (some ⟨w.heap.size, 0, none⟩) 4 4, .slice (some ⟨w.heap.size + 1, 0, none⟩) 5 5, .slice (some ⟨w.heap.size + 1 + 1, 0, none⟩) 5 5, .slice (some ⟨w.heap.size + 1 + 1 + 1, 0, none⟩) 8 8, .slice (some ⟨w.heap.size + 1 + 1 + 1 + 1, 0, none⟩) 8 8, .slice (some ⟨w.heap.size + 1 + 1 + 1 + 1 + 1, 0, none⟩) 3 3] 23))).cell? ⟨w.heap.size + 1 + 1 + 1 + 1 + 1 + 1, j, none⟩ = some (.slice (some ⟨g, 0, none⟩) n n) ∧ qs.length = n ∧ 3 ≤ n ∧ n ≤ 8 ∧ CB 9 qs ∧ w.heap.size ≤ g ∧ PtsAt ((((((((w.alloc (.cells #[.int .i64 0, .int .i64 0, .int .i64 4, .int .i64 0, .int .i64 4, .int .i64 4, .int .i64 0, .int .i64 4] 39)).alloc (.cells #[.int .i64 0, .int .i64 0, .int .i64 6, .int .i64 0, .int .i64 6, .int .i64 6, .int .i64 3, .int .i64 2, .int .i64 0, .int .i64 6] 39)).alloc (.cells #[.int .i64 0, .int .i64 0, .int .i64 5, .int .i64 1, .int .i64 7, .int .i64 5, .int .i64 2, .int .i64 7, .int .i64 (-1), .int .i64 4] 39)).alloc (.cells #[.int .i64 0, .int .i64 0, .int .i64 2, .int .i64 0, .int .i64 2, .int .i64 3, .int .i64 4, .int .i64 3, .int .i64 4, .int .i64 0, .int .i64 6, .int .i64 0, .int .i64 6, .int .i64 5, .int .i64 0, .int .i64 5] 39)).alloc (.cells #[.int .i64 0, .int .i64 0, .int .i64 3, .int .i64 1, .int .i64 6, .int .i64 0, .int .i64 5, .int .i64 3, .int .i64 6, .int .i64 6, .int .i64 3, .int .i64 5, .int .i64 0, .int .i64 6, .int .i64 1, .int .i64 3] 39)).alloc (.cells #[.int .i64 0, .int .i64 0, .int .i64 9, .int .i64 2, .int .i64 1, .int .i64 3] 39)).alloc (.cells #[.slice (some ⟨w.heap.size, 0, none⟩) 4 4, .slice (some ⟨w.heap.size + 1, 0, none⟩) 5 5, .slice (some ⟨w.heap.size + 1 + 1, 0, none⟩) 5 5, .slice (some ⟨w.heap.size + 1 + 1 + 1, 0, none⟩) 8 8, .slice (some ⟨w.heap.size + 1 + 1 + 1 + 1, 0, none⟩) 8 8, .slice (some ⟨w.heap.size + 1 + 1 + 1 + 1 + 1, 0, none⟩) 3 3] 23))) (w.heap.size + 6) (some ⟨g, 0, none⟩) qs := by
  intro j hj
  rw [cell_top]
  match j, hj with
  | 0, _ => exact ⟨_, _, [⟨0, 0⟩, ⟨4, 0⟩, ⟨4, 4⟩, ⟨0, 4⟩], rfl, rfl, by omega, by omega, by unfold CB; decide, by omega, pts0 w _ _ (by rfl) _ _ _ _ _ _ _⟩
  | 1, _ => exact ⟨_, _, [⟨0, 0⟩, ⟨6, 0⟩, ⟨6, 6⟩, ⟨3, 2⟩, ⟨0, 6⟩], rfl, rfl, by omega, by omega, by unfold CB; decide, by omega, pts1 w _ _ (by rfl) _ _ _ _ _ _ _⟩
  | 2, _ => exact ⟨_, _, [⟨0, 0⟩, ⟨5, 1⟩, ⟨7, 5⟩, ⟨2, 7⟩, ⟨-1, 4⟩], rfl, rfl, by omega, by omega, by unfold CB; decide, by omega, pts2 w _ _ (by rfl) _ _ _ _ _ _ _⟩
  | 3, _ => exact ⟨_, _, [⟨0, 0⟩, ⟨2, 0⟩, ⟨2, 3⟩, ⟨4, 3⟩, ⟨4, 0⟩, ⟨6, 0⟩, ⟨6, 5⟩, ⟨0, 5⟩], rfl, rfl, by omega, by omega, by unfold CB; decide, by omega, pts3 w _ _ (by rfl) _ _ _ _ _ _ _⟩
  | 4, _ => exact ⟨_, _, [⟨0, 0⟩, ⟨3, 1⟩, ⟨6, 0⟩, ⟨5, 3⟩, ⟨6, 6⟩, ⟨3, 5⟩, ⟨0, 6⟩, ⟨1, 3⟩], rfl, rfl, by omega, by omega, by unfold CB; decide, by omega, pts4 w _ _ (by rfl) _ _ _ _ _ _ _⟩
  | 5, _ => exact ⟨_, _, [⟨0, 0⟩, ⟨9, 2⟩, ⟨1, 3⟩], rfl, rfl, by omega, by omega, by unfold CB; decide, by omega, pts5 w _ _ (by rfl) _ _ _ _ _ _ _⟩
end Go.Proofs.Ytelhidonhldjeaa
