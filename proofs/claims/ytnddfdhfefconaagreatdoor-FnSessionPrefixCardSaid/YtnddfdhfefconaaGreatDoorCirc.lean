
/- Regions that draw their order, by an invariant: one step an operation, whatever the order. No program in sight. -/
/- The determinant of a circle. No program in sight. -/
/- inCircle of both: on which side of a circle a point lies. -/
import Derived.Test.YtnddfdhfefconaaGreatDoorBase
import Derived.Test.YtnddfdhfefconaaGreatDoorHullK
import Derived.Test.YtnddfdhfefconaaGreatDoorLeaf
import Derived.Test.YtnddfdhfefconaaGreatDoorRel
import Derived.Test.YtnddfdhfefconaaGreatDoorTri
set_option linter.unusedVariables false
set_option linter.unusedSimpArgs false
namespace Go.Proofs.YtnddfdhfefconaaGreatDoor
open Go.RowKit

/-- On the ordinary way out alone. -/
def Nrm (K : Act → World → Prop) : Exit → Act → World → Prop := fun e a w => e = .normal ∧ K a w
theorem nrm_out {K : Act → World → Prop} : ¬ LetsOut (Nrm K) := fun ⟨_, _, h, _⟩ => by cases h
theorem wp_of_nrm {P : Program} {o : Oper} {a : Act} {w : World} {K : Act → World → Prop} {Q : Exit → Act → World → Prop} (h : o.wp P a w (Nrm K .normal) (Nrm K)) : o.wp P a w K Q := by
  unfold Oper.wp at *
  generalize (execOp a.eval o).run P w = r at *
  cases r with
  | ok n w' =>
    cases n <;> simp only [Oper.upon] at h ⊢
    all_goals first
      | exact h.2
      | (refine Calls.mono h fun e w'' he => ?_
         cases e with
         | returned v => exact he.2
         | panicked c => exact absurd he.1 (by intro h; cases h)
         | outgrown => exact absurd he nrm_out)
      | exact Rows.mono h (fun _ _ he => he.2)
  | halt x w' =>
    cases x <;> simp only [Oper.upon] at h ⊢
    all_goals exact absurd h.1 (by intro h; cases h)
theorem wpOp_of_one {P : Program} {ops : Array Oper} {i : Nat} {o : Oper} {a : Act} {w : World} {K : Act → World → Prop} {Q : Exit → Act → World → Prop} (hi : ops[i]? = some o) (hg : o.guard = none)
    (h' : ∀ N : Exit → Act → World → Prop, Hid (∀ a w, K a w → N .normal a w) → wpList P ops N [o] a w) : wpOp P ops Q i K a w := by
  have h := h' (Nrm K) (hide fun a w h => ⟨rfl, h⟩)
  clear h'
  unfold wpOp
  rw [hi]
  unfold wpList at h
  have hw : Region.wanted o (yielded ops a.tmps) = true := by simp [Region.wanted, hg]
  simp only [hw, if_true] at h ⊢
  rcases h with h | ⟨_, h⟩
  · exact .inl (wp_of_nrm h)
  · exact absurd h nrm_out
/-- Every operation waits for operations ahead of it alone. -/
def backB (ops : Array Oper) : Bool := (List.range ops.size).all fun i => ((ops[i]?).map fun o => o.after.all fun e => decide (e.on < i)).getD true
def unl (n : Nat) (L : Array Bool) : List Nat := (List.range n).filter fun i => !L.getD i true
theorem flt_lt {p q : Nat → Bool} {x : Nat} : ∀ {l : List Nat}, (∀ y ∈ l, p y = true → q y = true) → x ∈ l → q x = true → p x = false → (l.filter p).length < (l.filter q).length := by
  have le : ∀ {l : List Nat}, (∀ y ∈ l, p y = true → q y = true) → (l.filter p).length ≤ (l.filter q).length := by
    intro l
    induction l with
    | nil => intro _; exact Nat.le_refl _
    | cons a l ih =>
      intro h
      have ih := ih fun y hy => h y (List.mem_cons_of_mem _ hy)
      have ha := h a List.mem_cons_self
      rw [List.filter_cons, List.filter_cons]
      split
      · rename_i hp; rw [if_pos (ha hp)]; simp; omega
      · split
        · simp; omega
        · exact ih
  intro l
  induction l with
  | nil => intro _ h; cases h
  | cons a l ih =>
    intro h hx hq hp
    have h' : ∀ y ∈ l, p y = true → q y = true := fun y hy => h y (List.mem_cons_of_mem _ hy)
    have ha := h a List.mem_cons_self
    rw [List.filter_cons, List.filter_cons]
    rcases List.mem_cons.1 hx with e | e
    · subst e
      rw [hp, hq]
      have := le h'
      simp; omega
    · have ih := ih h' e hq hp
      split
      · rename_i hp; rw [if_pos (ha hp)]; simp; omega
      · split
        · simp; omega
        · exact ih
theorem unl_set {n i : Nat} {L : Array Bool} (hL : L.size = n) (hi : i < n) (h : L.getD i true = false) : (unl n (L.setIfInBounds i true)).length < (unl n L).length := by
  have key : ∀ j, (L.setIfInBounds i true).getD j true = if i = j then true else L.getD j true := fun j => by
    rw [Array.getD_eq_getD_getElem?, Array.getD_eq_getD_getElem?, Array.getElem?_setIfInBounds]
    by_cases e : i = j
    · subst e; simp [hL, hi]
    · simp [e]
  refine flt_lt (x := i) (fun y _ hy => ?_) (List.mem_range.2 hi) ?_ ?_
  · rw [key] at hy
    split at hy
    · cases hy
    · exact hy
  · rw [h]; rfl
  · rw [key, if_pos rfl]; rfl
theorem all_listed {ops : Array Oper} {L : Array Bool} (hb : backB ops = true) (hL : L.size = ops.size) (hr : Region.ready .any ops L = []) : ∀ i, i < ops.size → L.getD i false = true := by
  intro i
  induction i using Nat.strongRecOn with
  | _ i ih =>
    intro hi
    refine Decidable.byContradiction fun hn => ?_
    have hf : L.getD i true = false := by
      rw [Array.getD_eq_getD_getElem?] at hn ⊢
      rw [Array.getElem?_eq_getElem (by omega)] at hn ⊢
      simpa using hn
    have : i ∈ Region.ready .any ops L := by
      unfold Region.ready
      rw [List.mem_filter]
      refine ⟨List.mem_range.2 hi, ?_⟩
      rw [hf]
      have hb' := List.all_eq_true.1 hb i (List.mem_range.2 hi)
      rw [Array.getElem?_eq_getElem hi] at hb' ⊢
      simp only [Option.map_some, Option.getD_some, Bool.not_false, Bool.true_and] at hb' ⊢
      rw [Array.all_eq_true_iff_forall_mem] at hb' ⊢
      intro e he
      have h1 := hb' e he
      simp only [decide_eq_true_eq] at h1
      rw [ih e.on h1 (by omega)]
      simp
    rw [hr] at this
    cases this
theorem wpAny_inv {P : Program} {ops : Array Oper} {Q : Exit → Act → World → Prop} {Inv : Array Bool → Act → World → Prop} (hb : backB ops = true)
    (hstep : ∀ L a w i, L.size = ops.size → i < ops.size → L.getD i true = false → (((ops[i]?).map (·.after.all fun e => !Region.binds .any e || L.getD e.on false)).getD false = true) → Inv L a w → wpOp P ops Q i (fun a' w' => Inv (L.setIfInBounds i true) a' w') a w)
    (hend : ∀ L a w, (∀ i, i < ops.size → L.getD i false = true) → Inv L a w → Q .normal a w) :
    ∀ (fuel : Nat) (L : Array Bool) (a : Act) (w : World), L.size = ops.size → (unl ops.size L).length ≤ fuel → Inv L a w → wpAny P .any ops Q fuel L a w
  | 0, L, a, w, hL, hf, hI => by
    have hr : Region.ready .any ops L = [] := by
      rw [List.eq_nil_iff_forall_not_mem]
      intro i hi
      unfold Region.ready at hi
      rw [List.mem_filter] at hi
      have h2 : i ∈ unl ops.size L := by
        unfold unl
        rw [List.mem_filter]
        refine ⟨hi.1, ?_⟩
        have := hi.2
        rw [Bool.and_eq_true] at this
        exact this.1
      have e0 : unl ops.size L = [] := List.length_eq_zero_iff.1 (by omega)
      rw [e0] at h2
      cases h2
    exact ⟨hr, hend L a w (all_listed hb hL hr) hI⟩
  | fuel + 1, L, a, w, hL, hf, hI => by
    refine ⟨fun hr => hend L a w (all_listed hb hL hr) hI, fun i hi => ?_⟩
    unfold Region.ready at hi
    rw [List.mem_filter, List.mem_range, Bool.and_eq_true] at hi
    obtain ⟨h1, h2, h3⟩ := hi
    have h2 : L.getD i true = false := by simpa using h2
    refine wpOp_mono (fun a' w' h' => ?_) (hstep L a w i hL h1 h2 h3 hI)
    exact wpAny_inv hb hstep hend fuel _ a' w' (by rw [Array.size_setIfInBounds]; exact hL) (by have := unl_set hL h1 h2; omega) h'
/-- A region that draws its order: what one operation keeps, the region keeps. -/
theorem wp_region_inv {P : Program} {id : Nat} {l : List Oper} {Q : Exit → Act → World → Prop} {a : Act} {w : World} (Inv : Array Bool → Act → World → Prop) (hm : P.follows .mixedOrders = true) (hb : backB l.toArray = true)
    (h0 : Inv (Array.replicate l.toArray.size false) a { w with drawn := w.drawn + 1 })
    (hstep : ∀ L a w i, L.size = l.toArray.size → i < l.toArray.size → L.getD i true = false → (((l.toArray[i]?).map (·.after.all fun e => !Region.binds .any e || L.getD e.on false)).getD false = true) → Inv L a w → wpOp P l.toArray Q i (fun a' w' => Inv (L.setIfInBounds i true) a' w') a w)
    (hend : ∀ L a w, (∀ i, i < l.toArray.size → L.getD i false = true) → Inv L a w → Q .normal a w) : (Code.region id l.toArray true).wp P Q a w := by
  refine wp_region_any hm (wpAny_inv hb hstep hend _ _ _ _ (by simp) ?_ h0)
  refine Nat.le_trans (List.length_filter_le _ _) (by simp)
theorem set_ge {L : Array Bool} {n i : Nat} (hL : L.size = n) (hi : i < n) (j : Nat) : (L.setIfInBounds i true).getD j false = if i = j then true else L.getD j false := by
  rw [Array.getD_eq_getD_getElem?, Array.getD_eq_getD_getElem?, Array.getElem?_setIfInBounds]
  by_cases e : i = j
  · subst e; simp [hL, hi]
  · simp [e]
end Go.Proofs.YtnddfdhfefconaaGreatDoor
namespace Go.Proofs.YtnddfdhfefconaaGreatDoor
open Go.RowKit

/-! ### the determinant -/
def sqP (a d : Pt) : Int := (a.x - d.x) * (a.x - d.x) + (a.y - d.y) * (a.y - d.y)
def icD (a b c d : Pt) : Int := sqP a d * trn d b c + sqP b d * trn d c a + sqP c d * trn d a b
end Go.Proofs.YtnddfdhfefconaaGreatDoor
namespace Go.Proofs.YtnddfdhfefconaaGreatDoor
open Go.RowKit

theorem b3 {x y : Int} (hx : -4000 ≤ x ∧ x ≤ 4000) (hy : -4000 ≤ y ∧ y ≤ 4000) : -16000000 ≤ x * y ∧ x * y ≤ 16000000 := by
  have := mul_bd hx hy; omega
theorem b4 {x y : Int} (hx : -32000000 ≤ x ∧ x ≤ 32000000) (hy : -32000000 ≤ y ∧ y ≤ 32000000) : -1024000000000000 ≤ x * y ∧ x * y ≤ 1024000000000000 := by
  have := mul_bd hx hy; omega
/-- A box made in a region: not yet, empty, filled. -/
def BoxF (T : TypeId) (w0 w : World) (al st : Bool) (v : Value) (x y : Int) : Prop := al = true → ∃ g, v = .pointer (some ⟨g, 0, none⟩) ∧ w0.heap.size ≤ g ∧ w.heap[g]? = some (.cells (if st = true then #[.int .i64 x, .int .i64 y] else #[.int .i64 0, .int .i64 0]) T (0, 0))
theorem BoxF.later {T : TypeId} {w0 w w' : World} {al st : Bool} {v : Value} {x y : Int} (h : BoxF T w0 w al st v x y) (hb : Below w.heap.size w w') : BoxF T w0 w' al st v x y := fun e => by
  obtain ⟨g, hv, hg, hc⟩ := h e
  exact ⟨g, hv, hg, (hb.block g (heap_lt hc)).trans hc⟩
theorem BoxF.far {T : TypeId} {w0 w : World} {al st al' : Bool} {v v' : Value} {x y : Int} (h : BoxF T w0 w al st v x y) {g : Nat} (hv' : v' = .pointer (some ⟨g, 0, none⟩)) (hf : al = true → al' = true → v ≠ v') (ha : al' = true) (p q : Value) : BoxF T w0 ((w.setCell ⟨g, 0, none⟩ p).setCell ⟨g, 1, none⟩ q) al st v x y := fun e => by
  obtain ⟨k, hv, hg, hc⟩ := h e
  have hne : k ≠ g := fun ee => hf e ha (by rw [hv, hv', ee])
  exact ⟨k, hv, hg, ((Below.heap_setCell _ _ _ k hne).trans (Below.heap_setCell _ _ _ k hne)).trans hc⟩
theorem okb {p : Pt} (h : p.ok = true) : (-1000 ≤ p.x ∧ p.x ≤ 1000) ∧ (-1000 ≤ p.y ∧ p.y ≤ 1000) := by
  unfold Pt.ok vP inB at h
  simp only [Bool.and_eq_true, decide_eq_true_eq] at h
  omega
set_option maxRecDepth 20000 in
set_option maxHeartbeats 4000000 in
theorem iCircle_any (a b c d : Pt) (w : World) (ha : a.ok = true) (hb : b.ok = true) (hc : c.ok = true) (hd : d.ok = true) :
    Calls Tryz.prog 224 #[.agg #[.int .i64 a.x, .int .i64 a.y], .agg #[.int .i64 b.x, .int .i64 b.y], .agg #[.int .i64 c.x, .int .i64 c.y], .agg #[.int .i64 d.x, .int .i64 d.y]] w fun e w' => e = .returned (.int .i64 (sgn (icD a b c d) * sgn (trn a b c))) ∧ ∃ x, w' = ext w x := by
  have ba := okb ha
  have bb := okb hb
  have bc := okb hc
  have bd := okb hd
  clear ha hb hc hd
  have hBS0 : Hid (∀ W : World, W = ((((w.alloc (.cells #[.int .i64 a.x, .int .i64 a.y] 41)).alloc (.cells #[.int .i64 b.x, .int .i64 b.y] 41)).alloc (.cells #[.int .i64 c.x, .int .i64 c.y] 41)).alloc (.cells #[.int .i64 d.x, .int .i64 d.y] 41)) → W.heap.size = w.heap.size + 4 ∧ Below w.heap.size w W ∧ ∀ W', Below W.heap.size W W' →
      W'.cell? ⟨w.heap.size, 0, none⟩ = some (.int .i64 a.x) ∧ W'.cell? ⟨w.heap.size, 1, none⟩ = some (.int .i64 a.y) ∧ W'.cell? ⟨w.heap.size + 1, 0, none⟩ = some (.int .i64 b.x) ∧ W'.cell? ⟨w.heap.size + 1, 1, none⟩ = some (.int .i64 b.y) ∧
      W'.cell? ⟨w.heap.size + 1 + 1, 0, none⟩ = some (.int .i64 c.x) ∧ W'.cell? ⟨w.heap.size + 1 + 1, 1, none⟩ = some (.int .i64 c.y) ∧ W'.cell? ⟨w.heap.size + 1 + 1 + 1, 0, none⟩ = some (.int .i64 d.x) ∧ W'.cell? ⟨w.heap.size + 1 + 1 + 1, 1, none⟩ = some (.int .i64 d.y)) := hide (fun W hW => by
    subst hW
    refine ⟨by simp, (by (repeat' (first | (with_reducible first | exact Below.refl _ _ | assumption | refine below_ext _ ?_ ?_ | refine Below.alloc ?_ ?_ _ | refine Below.drew ?_ | refine below_drewN ?_ _ | refine le_drewN _ ?_ | refine Below.setCell ?_ ?_ _ | exact Nat.le_refl _ | refine le_ext _ ?_ | refine le_alloc _ ?_ | refine le_setCell _ _ ?_ | refine le_drew ?_) | omega | (simp; done) | (simp; omega)))), fun W' hb => ⟨?_, ?_, ?_, ?_, ?_, ?_, ?_, ?_⟩⟩
    all_goals (refine (hb.cell (by first | (simp; done) | (simp; omega))).trans ?_; simp [go_sem]))
  go_enter Tryz.func224, Tryz.ntmps224
  go_wp2_with fail
  obtain ⟨W0, hW0⟩ : ∃ W0, W0 = ((((w.alloc (.cells #[.int .i64 a.x, .int .i64 a.y] 41)).alloc (.cells #[.int .i64 b.x, .int .i64 b.y] 41)).alloc (.cells #[.int .i64 c.x, .int .i64 c.y] 41)).alloc (.cells #[.int .i64 d.x, .int .i64 d.y] 41)) := ⟨_, rfl⟩
  rw [← hW0]
  obtain ⟨z0, BW, cells⟩ := hBS0.out W0 hW0
  have CELLS := hide cells
  clear hW0 hBS0 cells
  have hBS : Below W0.heap.size W0 { W0 with drawn := W0.drawn + 1 } := drawn_below W0
  refine wp_region_inv (fun L a' w' => ∃ v9 v10 v11 v13 v14 v15 v16 v17 v18 v19 v20 v21 : Value, a' = { tmps := List.toArray (.agg #[.int .i64 a.x, .int .i64 a.y] :: .agg #[.int .i64 b.x, .int .i64 b.y] :: .agg #[.int .i64 c.x, .int .i64 c.y] :: .agg #[.int .i64 d.x, .int .i64 d.y] :: .pointer (some ⟨w.heap.size, 0, none⟩) :: .pointer (some ⟨w.heap.size + 1, 0, none⟩) :: .pointer (some ⟨w.heap.size + 1 + 1, 0, none⟩) :: .pointer (some ⟨w.heap.size + 1 + 1 + 1, 0, none⟩) :: .int .i64 0 :: v9 :: v10 :: v11 :: undef :: v13 :: v14 :: v15 :: v16 :: v17 :: v18 :: v19 :: v20 :: v21 :: undef :: undef :: undef :: undef :: undef :: undef :: undef :: undef :: undef :: undef :: undef :: undef :: undef :: undef :: undef :: undef :: undef :: undef :: undef :: undef :: undef :: undef :: undef :: undef :: undef :: undef :: undef :: undef :: undef :: undef :: undef :: []), defers := [] } ∧ Below W0.heap.size W0 w' ∧ (L.getD 0 false = true → v13 = .agg #[.int .i64 a.x, .int .i64 a.y]) ∧ (L.getD 1 false = true → v14 = .agg #[.int .i64 d.x, .int .i64 d.y]) ∧ (L.getD 2 false = true → v15 = .agg #[.int .i64 (a.x - d.x), .int .i64 (a.y - d.y)]) ∧ (L.getD 3 false = true → v16 = .agg #[.int .i64 b.x, .int .i64 b.y]) ∧ (L.getD 4 false = true → v17 = .agg #[.int .i64 d.x, .int .i64 d.y]) ∧ (L.getD 5 false = true → v18 = .agg #[.int .i64 (b.x - d.x), .int .i64 (b.y - d.y)]) ∧ (L.getD 6 false = true → v19 = .agg #[.int .i64 c.x, .int .i64 c.y]) ∧ (L.getD 7 false = true → v20 = .agg #[.int .i64 d.x, .int .i64 d.y]) ∧ (L.getD 8 false = true → v21 = .agg #[.int .i64 (c.x - d.x), .int .i64 (c.y - d.y)]) ∧ BoxF 41 W0 w' (L.getD 9 false) (L.getD 12 false) v9 (a.x - d.x) (a.y - d.y) ∧ BoxF 41 W0 w' (L.getD 10 false) (L.getD 13 false) v10 (b.x - d.x) (b.y - d.y) ∧ BoxF 41 W0 w' (L.getD 11 false) (L.getD 14 false) v11 (c.x - d.x) (c.y - d.y) ∧ (L.getD 9 false = true → L.getD 10 false = true → v9 ≠ v10) ∧ (L.getD 9 false = true → L.getD 11 false = true → v9 ≠ v11) ∧ (L.getD 10 false = true → L.getD 11 false = true → v10 ≠ v11) ∧ (L.getD 12 false = true → L.getD 9 false = true) ∧ (L.getD 13 false = true → L.getD 10 false = true) ∧ (L.getD 14 false = true → L.getD 11 false = true)) (by kernel_rfl) (by kernel_rfl) ?start ?step ?done
  case start => exact ⟨_, _, _, _, _, _, _, _, _, _, _, _, rfl, hBS, fun h => by simp at h, fun h => by simp at h, fun h => by simp at h, fun h => by simp at h, fun h => by simp at h, fun h => by simp at h, fun h => by simp at h, fun h => by simp at h, fun h => by simp at h, fun h => by simp at h, fun h => by simp at h, fun h => by simp at h, fun h => by simp at h, fun h => by simp at h, fun h => by simp at h, fun h => by simp at h, fun h => by simp at h, fun h => by simp at h⟩
  case step =>
    rintro L a' w' i hL hi hu hr ⟨v9, v10, v11, v13, v14, v15, v16, v17, v18, v19, v20, v21, rfl, hB, f0, f1, f2, f3, f4, f5, f6, f7, f8, b9, b10, b11, n1, n2, n3, ns12, ns13, ns14⟩
    obtain ⟨c0, c1, c2, c3, c4, c5, c6, c7⟩ := CELLS.out w' hB
    have hsz := hB.size
    have hL : L.size = 15 := hL
    have ge : ∀ {j k : Nat}, j < 15 → j ≠ k → (L.setIfInBounds j true).getD k false = L.getD k false := fun h1 h2 => by rw [set_ge hL h1, if_neg h2]
    have gs : ∀ {j : Nat}, j < 15 → (L.setIfInBounds j true).getD j false = true := fun h1 => by rw [set_ge hL h1, if_pos rfl]
    match i, hi with
    | 0, _ =>
      clear hr hu
      refine wpOp_of_one rfl rfl ?_
      intro N hN
      go_wp2_with fail
      refine hN.out _ _ ⟨_, _, _, _, _, _, _, _, _, _, _, _, rfl, ?_⟩
      simp only [ge (j := 0) (k := 1) (by decide) (by decide), ge (j := 0) (k := 2) (by decide) (by decide), ge (j := 0) (k := 3) (by decide) (by decide), ge (j := 0) (k := 4) (by decide) (by decide), ge (j := 0) (k := 5) (by decide) (by decide), ge (j := 0) (k := 6) (by decide) (by decide), ge (j := 0) (k := 7) (by decide) (by decide), ge (j := 0) (k := 8) (by decide) (by decide), ge (j := 0) (k := 9) (by decide) (by decide), ge (j := 0) (k := 10) (by decide) (by decide), ge (j := 0) (k := 11) (by decide) (by decide), ge (j := 0) (k := 12) (by decide) (by decide), ge (j := 0) (k := 13) (by decide) (by decide), ge (j := 0) (k := 14) (by decide) (by decide), gs (j := 0) (by decide)]
      exact ⟨hB, fun _ => (by first | rfl | trivial), f1, f2, f3, f4, f5, f6, f7, f8, b9, b10, b11, n1, n2, n3, ns12, ns13, ns14⟩
    | 1, _ =>
      clear hr hu
      refine wpOp_of_one rfl rfl ?_
      intro N hN
      go_wp2_with fail
      refine hN.out _ _ ⟨_, _, _, _, _, _, _, _, _, _, _, _, rfl, ?_⟩
      simp only [ge (j := 1) (k := 0) (by decide) (by decide), ge (j := 1) (k := 2) (by decide) (by decide), ge (j := 1) (k := 3) (by decide) (by decide), ge (j := 1) (k := 4) (by decide) (by decide), ge (j := 1) (k := 5) (by decide) (by decide), ge (j := 1) (k := 6) (by decide) (by decide), ge (j := 1) (k := 7) (by decide) (by decide), ge (j := 1) (k := 8) (by decide) (by decide), ge (j := 1) (k := 9) (by decide) (by decide), ge (j := 1) (k := 10) (by decide) (by decide), ge (j := 1) (k := 11) (by decide) (by decide), ge (j := 1) (k := 12) (by decide) (by decide), ge (j := 1) (k := 13) (by decide) (by decide), ge (j := 1) (k := 14) (by decide) (by decide), gs (j := 1) (by decide)]
      exact ⟨hB, f0, fun _ => (by first | rfl | trivial), f2, f3, f4, f5, f6, f7, f8, b9, b10, b11, n1, n2, n3, ns12, ns13, ns14⟩
    | 2, _ =>
      have hd : L.getD 0 false = true ∧ L.getD 1 false = true := by
        simp [Region.binds] at hr ⊢
        simp [hr]
      obtain rfl := f0 hd.1
      obtain rfl := f1 hd.2
      clear hr hu
      refine wpOp_of_one rfl rfl ?_
      intro N hN
      go_wp2_with (go_at_call 161; refine (minus_any a.x a.y d.x d.y w' (by omega) (by omega) (by omega) (by omega)).mono ?_; rintro e w' ⟨rfl, hw'⟩; have hzy := ext_sz hw'; obtain ⟨y, rfl⟩ := hw'; (try simp at hzy))
      have hB2 : Below w'.heap.size w' (ext w' y) := ext_below _ _
      refine hN.out _ _ ⟨_, _, _, _, _, _, _, _, _, _, _, _, rfl, ?_⟩
      simp only [ge (j := 2) (k := 0) (by decide) (by decide), ge (j := 2) (k := 1) (by decide) (by decide), ge (j := 2) (k := 3) (by decide) (by decide), ge (j := 2) (k := 4) (by decide) (by decide), ge (j := 2) (k := 5) (by decide) (by decide), ge (j := 2) (k := 6) (by decide) (by decide), ge (j := 2) (k := 7) (by decide) (by decide), ge (j := 2) (k := 8) (by decide) (by decide), ge (j := 2) (k := 9) (by decide) (by decide), ge (j := 2) (k := 10) (by decide) (by decide), ge (j := 2) (k := 11) (by decide) (by decide), ge (j := 2) (k := 12) (by decide) (by decide), ge (j := 2) (k := 13) (by decide) (by decide), ge (j := 2) (k := 14) (by decide) (by decide), gs (j := 2) (by decide)]
      exact ⟨hB.trans (hB2.mono hB.size), f0, f1, fun _ => (by first | rfl | trivial), f3, f4, f5, f6, f7, f8, b9.later hB2, b10.later hB2, b11.later hB2, n1, n2, n3, ns12, ns13, ns14⟩
    | 3, _ =>
      clear hr hu
      refine wpOp_of_one rfl rfl ?_
      intro N hN
      go_wp2_with fail
      refine hN.out _ _ ⟨_, _, _, _, _, _, _, _, _, _, _, _, rfl, ?_⟩
      simp only [ge (j := 3) (k := 0) (by decide) (by decide), ge (j := 3) (k := 1) (by decide) (by decide), ge (j := 3) (k := 2) (by decide) (by decide), ge (j := 3) (k := 4) (by decide) (by decide), ge (j := 3) (k := 5) (by decide) (by decide), ge (j := 3) (k := 6) (by decide) (by decide), ge (j := 3) (k := 7) (by decide) (by decide), ge (j := 3) (k := 8) (by decide) (by decide), ge (j := 3) (k := 9) (by decide) (by decide), ge (j := 3) (k := 10) (by decide) (by decide), ge (j := 3) (k := 11) (by decide) (by decide), ge (j := 3) (k := 12) (by decide) (by decide), ge (j := 3) (k := 13) (by decide) (by decide), ge (j := 3) (k := 14) (by decide) (by decide), gs (j := 3) (by decide)]
      exact ⟨hB, f0, f1, f2, fun _ => (by first | rfl | trivial), f4, f5, f6, f7, f8, b9, b10, b11, n1, n2, n3, ns12, ns13, ns14⟩
    | 4, _ =>
      clear hr hu
      refine wpOp_of_one rfl rfl ?_
      intro N hN
      go_wp2_with fail
      refine hN.out _ _ ⟨_, _, _, _, _, _, _, _, _, _, _, _, rfl, ?_⟩
      simp only [ge (j := 4) (k := 0) (by decide) (by decide), ge (j := 4) (k := 1) (by decide) (by decide), ge (j := 4) (k := 2) (by decide) (by decide), ge (j := 4) (k := 3) (by decide) (by decide), ge (j := 4) (k := 5) (by decide) (by decide), ge (j := 4) (k := 6) (by decide) (by decide), ge (j := 4) (k := 7) (by decide) (by decide), ge (j := 4) (k := 8) (by decide) (by decide), ge (j := 4) (k := 9) (by decide) (by decide), ge (j := 4) (k := 10) (by decide) (by decide), ge (j := 4) (k := 11) (by decide) (by decide), ge (j := 4) (k := 12) (by decide) (by decide), ge (j := 4) (k := 13) (by decide) (by decide), ge (j := 4) (k := 14) (by decide) (by decide), gs (j := 4) (by decide)]
      exact ⟨hB, f0, f1, f2, f3, fun _ => (by first | rfl | trivial), f5, f6, f7, f8, b9, b10, b11, n1, n2, n3, ns12, ns13, ns14⟩
    | 5, _ =>
      have hd : L.getD 3 false = true ∧ L.getD 4 false = true := by
        simp [Region.binds] at hr ⊢
        simp [hr]
      obtain rfl := f3 hd.1
      obtain rfl := f4 hd.2
      clear hr hu
      refine wpOp_of_one rfl rfl ?_
      intro N hN
      go_wp2_with (go_at_call 161; refine (minus_any b.x b.y d.x d.y w' (by omega) (by omega) (by omega) (by omega)).mono ?_; rintro e w' ⟨rfl, hw'⟩; have hzy := ext_sz hw'; obtain ⟨y, rfl⟩ := hw'; (try simp at hzy))
      have hB2 : Below w'.heap.size w' (ext w' y) := ext_below _ _
      refine hN.out _ _ ⟨_, _, _, _, _, _, _, _, _, _, _, _, rfl, ?_⟩
      simp only [ge (j := 5) (k := 0) (by decide) (by decide), ge (j := 5) (k := 1) (by decide) (by decide), ge (j := 5) (k := 2) (by decide) (by decide), ge (j := 5) (k := 3) (by decide) (by decide), ge (j := 5) (k := 4) (by decide) (by decide), ge (j := 5) (k := 6) (by decide) (by decide), ge (j := 5) (k := 7) (by decide) (by decide), ge (j := 5) (k := 8) (by decide) (by decide), ge (j := 5) (k := 9) (by decide) (by decide), ge (j := 5) (k := 10) (by decide) (by decide), ge (j := 5) (k := 11) (by decide) (by decide), ge (j := 5) (k := 12) (by decide) (by decide), ge (j := 5) (k := 13) (by decide) (by decide), ge (j := 5) (k := 14) (by decide) (by decide), gs (j := 5) (by decide)]
      exact ⟨hB.trans (hB2.mono hB.size), f0, f1, f2, f3, f4, fun _ => (by first | rfl | trivial), f6, f7, f8, b9.later hB2, b10.later hB2, b11.later hB2, n1, n2, n3, ns12, ns13, ns14⟩
    | 6, _ =>
      clear hr hu
      refine wpOp_of_one rfl rfl ?_
      intro N hN
      go_wp2_with fail
      refine hN.out _ _ ⟨_, _, _, _, _, _, _, _, _, _, _, _, rfl, ?_⟩
      simp only [ge (j := 6) (k := 0) (by decide) (by decide), ge (j := 6) (k := 1) (by decide) (by decide), ge (j := 6) (k := 2) (by decide) (by decide), ge (j := 6) (k := 3) (by decide) (by decide), ge (j := 6) (k := 4) (by decide) (by decide), ge (j := 6) (k := 5) (by decide) (by decide), ge (j := 6) (k := 7) (by decide) (by decide), ge (j := 6) (k := 8) (by decide) (by decide), ge (j := 6) (k := 9) (by decide) (by decide), ge (j := 6) (k := 10) (by decide) (by decide), ge (j := 6) (k := 11) (by decide) (by decide), ge (j := 6) (k := 12) (by decide) (by decide), ge (j := 6) (k := 13) (by decide) (by decide), ge (j := 6) (k := 14) (by decide) (by decide), gs (j := 6) (by decide)]
      exact ⟨hB, f0, f1, f2, f3, f4, f5, fun _ => (by first | rfl | trivial), f7, f8, b9, b10, b11, n1, n2, n3, ns12, ns13, ns14⟩
    | 7, _ =>
      clear hr hu
      refine wpOp_of_one rfl rfl ?_
      intro N hN
      go_wp2_with fail
      refine hN.out _ _ ⟨_, _, _, _, _, _, _, _, _, _, _, _, rfl, ?_⟩
      simp only [ge (j := 7) (k := 0) (by decide) (by decide), ge (j := 7) (k := 1) (by decide) (by decide), ge (j := 7) (k := 2) (by decide) (by decide), ge (j := 7) (k := 3) (by decide) (by decide), ge (j := 7) (k := 4) (by decide) (by decide), ge (j := 7) (k := 5) (by decide) (by decide), ge (j := 7) (k := 6) (by decide) (by decide), ge (j := 7) (k := 8) (by decide) (by decide), ge (j := 7) (k := 9) (by decide) (by decide), ge (j := 7) (k := 10) (by decide) (by decide), ge (j := 7) (k := 11) (by decide) (by decide), ge (j := 7) (k := 12) (by decide) (by decide), ge (j := 7) (k := 13) (by decide) (by decide), ge (j := 7) (k := 14) (by decide) (by decide), gs (j := 7) (by decide)]
      exact ⟨hB, f0, f1, f2, f3, f4, f5, f6, fun _ => (by first | rfl | trivial), f8, b9, b10, b11, n1, n2, n3, ns12, ns13, ns14⟩
    | 8, _ =>
      have hd : L.getD 6 false = true ∧ L.getD 7 false = true := by
        simp [Region.binds] at hr ⊢
        simp [hr]
      obtain rfl := f6 hd.1
      obtain rfl := f7 hd.2
      clear hr hu
      refine wpOp_of_one rfl rfl ?_
      intro N hN
      go_wp2_with (go_at_call 161; refine (minus_any c.x c.y d.x d.y w' (by omega) (by omega) (by omega) (by omega)).mono ?_; rintro e w' ⟨rfl, hw'⟩; have hzy := ext_sz hw'; obtain ⟨y, rfl⟩ := hw'; (try simp at hzy))
      have hB2 : Below w'.heap.size w' (ext w' y) := ext_below _ _
      refine hN.out _ _ ⟨_, _, _, _, _, _, _, _, _, _, _, _, rfl, ?_⟩
      simp only [ge (j := 8) (k := 0) (by decide) (by decide), ge (j := 8) (k := 1) (by decide) (by decide), ge (j := 8) (k := 2) (by decide) (by decide), ge (j := 8) (k := 3) (by decide) (by decide), ge (j := 8) (k := 4) (by decide) (by decide), ge (j := 8) (k := 5) (by decide) (by decide), ge (j := 8) (k := 6) (by decide) (by decide), ge (j := 8) (k := 7) (by decide) (by decide), ge (j := 8) (k := 9) (by decide) (by decide), ge (j := 8) (k := 10) (by decide) (by decide), ge (j := 8) (k := 11) (by decide) (by decide), ge (j := 8) (k := 12) (by decide) (by decide), ge (j := 8) (k := 13) (by decide) (by decide), ge (j := 8) (k := 14) (by decide) (by decide), gs (j := 8) (by decide)]
      exact ⟨hB.trans (hB2.mono hB.size), f0, f1, f2, f3, f4, f5, f6, f7, fun _ => (by first | rfl | trivial), b9.later hB2, b10.later hB2, b11.later hB2, n1, n2, n3, ns12, ns13, ns14⟩
    | 9, _ =>
      have hst : L.getD 12 false = false := by
        cases e : L.getD 12 false with
        | false => rfl
        | true => exact absurd (ns12 e) (by rw [Array.getD_eq_getD_getElem?] at hu ⊢; rw [Array.getElem?_eq_getElem (by omega)] at hu ⊢; simpa using hu)
      clear hr
      refine wpOp_of_one rfl rfl ?_
      intro N hN
      go_wp2_with fail
      have hB2 : Below w'.heap.size w' (w'.alloc (.cells #[.int .i64 0, .int .i64 0] 41)) := (Below.refl _ _).alloc (Nat.le_refl _) _
      refine hN.out _ _ ⟨_, _, _, _, _, _, _, _, _, _, _, _, rfl, ?_⟩
      simp only [ge (j := 9) (k := 0) (by decide) (by decide), ge (j := 9) (k := 1) (by decide) (by decide), ge (j := 9) (k := 2) (by decide) (by decide), ge (j := 9) (k := 3) (by decide) (by decide), ge (j := 9) (k := 4) (by decide) (by decide), ge (j := 9) (k := 5) (by decide) (by decide), ge (j := 9) (k := 6) (by decide) (by decide), ge (j := 9) (k := 7) (by decide) (by decide), ge (j := 9) (k := 8) (by decide) (by decide), ge (j := 9) (k := 10) (by decide) (by decide), ge (j := 9) (k := 11) (by decide) (by decide), ge (j := 9) (k := 12) (by decide) (by decide), ge (j := 9) (k := 13) (by decide) (by decide), ge (j := 9) (k := 14) (by decide) (by decide), gs (j := 9) (by decide)]
      exact ⟨hB.trans (hB2.mono hB.size), f0, f1, f2, f3, f4, f5, f6, f7, f8, fun _ => ⟨w'.heap.size, rfl, hB.size, by rw [heap_alloc_new]; rw [hst]; rfl⟩, b10.later hB2, b11.later hB2, fun _ h e => by obtain ⟨g, hv, _, hc⟩ := b10 h; rw [hv] at e; simp at e; have := heap_lt hc; omega, fun _ h e => by obtain ⟨g, hv, _, hc⟩ := b11 h; rw [hv] at e; simp at e; have := heap_lt hc; omega, n3, fun _ => trivial, ns13, ns14⟩
    | 10, _ =>
      have hst : L.getD 13 false = false := by
        cases e : L.getD 13 false with
        | false => rfl
        | true => exact absurd (ns13 e) (by rw [Array.getD_eq_getD_getElem?] at hu ⊢; rw [Array.getElem?_eq_getElem (by omega)] at hu ⊢; simpa using hu)
      clear hr
      refine wpOp_of_one rfl rfl ?_
      intro N hN
      go_wp2_with fail
      have hB2 : Below w'.heap.size w' (w'.alloc (.cells #[.int .i64 0, .int .i64 0] 41)) := (Below.refl _ _).alloc (Nat.le_refl _) _
      refine hN.out _ _ ⟨_, _, _, _, _, _, _, _, _, _, _, _, rfl, ?_⟩
      simp only [ge (j := 10) (k := 0) (by decide) (by decide), ge (j := 10) (k := 1) (by decide) (by decide), ge (j := 10) (k := 2) (by decide) (by decide), ge (j := 10) (k := 3) (by decide) (by decide), ge (j := 10) (k := 4) (by decide) (by decide), ge (j := 10) (k := 5) (by decide) (by decide), ge (j := 10) (k := 6) (by decide) (by decide), ge (j := 10) (k := 7) (by decide) (by decide), ge (j := 10) (k := 8) (by decide) (by decide), ge (j := 10) (k := 9) (by decide) (by decide), ge (j := 10) (k := 11) (by decide) (by decide), ge (j := 10) (k := 12) (by decide) (by decide), ge (j := 10) (k := 13) (by decide) (by decide), ge (j := 10) (k := 14) (by decide) (by decide), gs (j := 10) (by decide)]
      exact ⟨hB.trans (hB2.mono hB.size), f0, f1, f2, f3, f4, f5, f6, f7, f8, b9.later hB2, fun _ => ⟨w'.heap.size, rfl, hB.size, by rw [heap_alloc_new]; rw [hst]; rfl⟩, b11.later hB2, fun h _ e => by obtain ⟨g, hv, _, hc⟩ := b9 h; rw [hv] at e; simp at e; have := heap_lt hc; omega, n2, fun _ h e => by obtain ⟨g, hv, _, hc⟩ := b11 h; rw [hv] at e; simp at e; have := heap_lt hc; omega, ns12, fun _ => trivial, ns14⟩
    | 11, _ =>
      have hst : L.getD 14 false = false := by
        cases e : L.getD 14 false with
        | false => rfl
        | true => exact absurd (ns14 e) (by rw [Array.getD_eq_getD_getElem?] at hu ⊢; rw [Array.getElem?_eq_getElem (by omega)] at hu ⊢; simpa using hu)
      clear hr
      refine wpOp_of_one rfl rfl ?_
      intro N hN
      go_wp2_with fail
      have hB2 : Below w'.heap.size w' (w'.alloc (.cells #[.int .i64 0, .int .i64 0] 41)) := (Below.refl _ _).alloc (Nat.le_refl _) _
      refine hN.out _ _ ⟨_, _, _, _, _, _, _, _, _, _, _, _, rfl, ?_⟩
      simp only [ge (j := 11) (k := 0) (by decide) (by decide), ge (j := 11) (k := 1) (by decide) (by decide), ge (j := 11) (k := 2) (by decide) (by decide), ge (j := 11) (k := 3) (by decide) (by decide), ge (j := 11) (k := 4) (by decide) (by decide), ge (j := 11) (k := 5) (by decide) (by decide), ge (j := 11) (k := 6) (by decide) (by decide), ge (j := 11) (k := 7) (by decide) (by decide), ge (j := 11) (k := 8) (by decide) (by decide), ge (j := 11) (k := 9) (by decide) (by decide), ge (j := 11) (k := 10) (by decide) (by decide), ge (j := 11) (k := 12) (by decide) (by decide), ge (j := 11) (k := 13) (by decide) (by decide), ge (j := 11) (k := 14) (by decide) (by decide), gs (j := 11) (by decide)]
      exact ⟨hB.trans (hB2.mono hB.size), f0, f1, f2, f3, f4, f5, f6, f7, f8, b9.later hB2, b10.later hB2, fun _ => ⟨w'.heap.size, rfl, hB.size, by rw [heap_alloc_new]; rw [hst]; rfl⟩, n1, fun h _ e => by obtain ⟨g, hv, _, hc⟩ := b9 h; rw [hv] at e; simp at e; have := heap_lt hc; omega, fun h _ e => by obtain ⟨g, hv, _, hc⟩ := b10 h; rw [hv] at e; simp at e; have := heap_lt hc; omega, ns12, ns13, fun _ => trivial⟩
    | 12, _ =>
      have hd : L.getD 9 false = true ∧ L.getD 2 false = true := by
        simp [Region.binds] at hr ⊢
        simp [hr]
      obtain rfl := f2 hd.2
      obtain ⟨g, hv, hg, hc⟩ := b9 hd.1
      subst hv
      have t0 := heap_cell hc 0
      have t1 := heap_cell hc 1
      have r0 := heap_frozen hc 0
      have r1 := heap_frozen hc 1
      have hst : L.getD 12 false = false := by rw [Array.getD_eq_getD_getElem?] at hu ⊢; rw [Array.getElem?_eq_getElem (by omega)] at hu ⊢; simpa using hu
      rw [hst] at t0 t1 hc
      simp at t0 t1
      have hlg := heap_lt hc
      clear hr hu
      refine wpOp_of_one rfl rfl ?_
      intro N hN
      go_wp2_with fail
      refine hN.out _ _ ⟨_, _, _, _, _, _, _, _, _, _, _, _, rfl, ?_⟩
      simp only [ge (j := 12) (k := 0) (by decide) (by decide), ge (j := 12) (k := 1) (by decide) (by decide), ge (j := 12) (k := 2) (by decide) (by decide), ge (j := 12) (k := 3) (by decide) (by decide), ge (j := 12) (k := 4) (by decide) (by decide), ge (j := 12) (k := 5) (by decide) (by decide), ge (j := 12) (k := 6) (by decide) (by decide), ge (j := 12) (k := 7) (by decide) (by decide), ge (j := 12) (k := 8) (by decide) (by decide), ge (j := 12) (k := 9) (by decide) (by decide), ge (j := 12) (k := 10) (by decide) (by decide), ge (j := 12) (k := 11) (by decide) (by decide), ge (j := 12) (k := 13) (by decide) (by decide), ge (j := 12) (k := 14) (by decide) (by decide), gs (j := 12) (by decide)]
      exact ⟨(hB.setCell (p := ⟨g, 0, none⟩) hg _).setCell (p := ⟨g, 1, none⟩) hg _, f0, f1, f2, f3, f4, f5, f6, f7, f8, fun _ => ⟨g, rfl, hg, box_set2 (by simpa using hc) _ _⟩, b10.far rfl (fun h1 h2 e => n1 h2 h1 e.symm) hd.1 _ _, b11.far rfl (fun h1 h2 e => n2 h2 h1 e.symm) hd.1 _ _, n1, n2, n3, fun _ => hd.1, ns13, ns14⟩
    | 13, _ =>
      have hd : L.getD 10 false = true ∧ L.getD 5 false = true := by
        simp [Region.binds] at hr ⊢
        simp [hr]
      obtain rfl := f5 hd.2
      obtain ⟨g, hv, hg, hc⟩ := b10 hd.1
      subst hv
      have t0 := heap_cell hc 0
      have t1 := heap_cell hc 1
      have r0 := heap_frozen hc 0
      have r1 := heap_frozen hc 1
      have hst : L.getD 13 false = false := by rw [Array.getD_eq_getD_getElem?] at hu ⊢; rw [Array.getElem?_eq_getElem (by omega)] at hu ⊢; simpa using hu
      rw [hst] at t0 t1 hc
      simp at t0 t1
      have hlg := heap_lt hc
      clear hr hu
      refine wpOp_of_one rfl rfl ?_
      intro N hN
      go_wp2_with fail
      refine hN.out _ _ ⟨_, _, _, _, _, _, _, _, _, _, _, _, rfl, ?_⟩
      simp only [ge (j := 13) (k := 0) (by decide) (by decide), ge (j := 13) (k := 1) (by decide) (by decide), ge (j := 13) (k := 2) (by decide) (by decide), ge (j := 13) (k := 3) (by decide) (by decide), ge (j := 13) (k := 4) (by decide) (by decide), ge (j := 13) (k := 5) (by decide) (by decide), ge (j := 13) (k := 6) (by decide) (by decide), ge (j := 13) (k := 7) (by decide) (by decide), ge (j := 13) (k := 8) (by decide) (by decide), ge (j := 13) (k := 9) (by decide) (by decide), ge (j := 13) (k := 10) (by decide) (by decide), ge (j := 13) (k := 11) (by decide) (by decide), ge (j := 13) (k := 12) (by decide) (by decide), ge (j := 13) (k := 14) (by decide) (by decide), gs (j := 13) (by decide)]
      exact ⟨(hB.setCell (p := ⟨g, 0, none⟩) hg _).setCell (p := ⟨g, 1, none⟩) hg _, f0, f1, f2, f3, f4, f5, f6, f7, f8, b9.far rfl n1 hd.1 _ _, fun _ => ⟨g, rfl, hg, box_set2 (by simpa using hc) _ _⟩, b11.far rfl (fun h1 h2 e => n3 h2 h1 e.symm) hd.1 _ _, n1, n2, n3, ns12, fun _ => hd.1, ns14⟩
    | 14, _ =>
      have hd : L.getD 11 false = true ∧ L.getD 8 false = true := by
        simp [Region.binds] at hr ⊢
        simp [hr]
      obtain rfl := f8 hd.2
      obtain ⟨g, hv, hg, hc⟩ := b11 hd.1
      subst hv
      have t0 := heap_cell hc 0
      have t1 := heap_cell hc 1
      have r0 := heap_frozen hc 0
      have r1 := heap_frozen hc 1
      have hst : L.getD 14 false = false := by rw [Array.getD_eq_getD_getElem?] at hu ⊢; rw [Array.getElem?_eq_getElem (by omega)] at hu ⊢; simpa using hu
      rw [hst] at t0 t1 hc
      simp at t0 t1
      have hlg := heap_lt hc
      clear hr hu
      refine wpOp_of_one rfl rfl ?_
      intro N hN
      go_wp2_with fail
      refine hN.out _ _ ⟨_, _, _, _, _, _, _, _, _, _, _, _, rfl, ?_⟩
      simp only [ge (j := 14) (k := 0) (by decide) (by decide), ge (j := 14) (k := 1) (by decide) (by decide), ge (j := 14) (k := 2) (by decide) (by decide), ge (j := 14) (k := 3) (by decide) (by decide), ge (j := 14) (k := 4) (by decide) (by decide), ge (j := 14) (k := 5) (by decide) (by decide), ge (j := 14) (k := 6) (by decide) (by decide), ge (j := 14) (k := 7) (by decide) (by decide), ge (j := 14) (k := 8) (by decide) (by decide), ge (j := 14) (k := 9) (by decide) (by decide), ge (j := 14) (k := 10) (by decide) (by decide), ge (j := 14) (k := 11) (by decide) (by decide), ge (j := 14) (k := 12) (by decide) (by decide), ge (j := 14) (k := 13) (by decide) (by decide), gs (j := 14) (by decide)]
      exact ⟨(hB.setCell (p := ⟨g, 0, none⟩) hg _).setCell (p := ⟨g, 1, none⟩) hg _, f0, f1, f2, f3, f4, f5, f6, f7, f8, b9.far rfl n2 hd.1 _ _, b10.far rfl n3 hd.1 _ _, fun _ => ⟨g, rfl, hg, box_set2 (by simpa using hc) _ _⟩, n1, n2, n3, ns12, ns13, fun _ => hd.1⟩
  case done =>
    rintro L a' w' hall ⟨v9, v10, v11, v13, v14, v15, v16, v17, v18, v19, v20, v21, rfl, hB, f0, f1, f2, f3, f4, f5, f6, f7, f8, b9, b10, b11, n1, n2, n3, ns12, ns13, ns14⟩
    have l9 : L.getD 9 false = true := hall 9 (by decide)
    have l10 : L.getD 10 false = true := hall 10 (by decide)
    have l11 : L.getD 11 false = true := hall 11 (by decide)
    have l12 : L.getD 12 false = true := hall 12 (by decide)
    have l13 : L.getD 13 false = true := hall 13 (by decide)
    have l14 : L.getD 14 false = true := hall 14 (by decide)
    obtain ⟨g9, rfl, hg9, hc9⟩ := b9 l9
    obtain ⟨g10, rfl, hg10, hc10⟩ := b10 l10
    obtain ⟨g11, rfl, hg11, hc11⟩ := b11 l11
    rw [l12] at hc9
    rw [l13] at hc10
    rw [l14] at hc11
    clear f0 f1 f2 f3 f4 f5 f6 f7 f8 b9 b10 b11 n1 n2 n3 ns12 ns13 ns14 l9 l10 l11 l12 l13 l14 hall
    have p0 := heap_cell hc9 0
    have p1 := heap_cell hc9 1
    have q0 := heap_cell hc10 0
    have q1 := heap_cell hc10 1
    have r0 := heap_cell hc11 0
    have r1 := heap_cell hc11 1
    simp at p0 p1 q0 q1 r0 r1
    have lg9 := heap_lt hc9
    have lg10 := heap_lt hc10
    have lg11 := heap_lt hc11
    have hsz := hB.size
    obtain ⟨c0, c1, c2, c3, c4, c5, c6, c7⟩ := CELLS.out w' hB
    have HDV : Hid (sgn (icD a b c d) * sgn (trn a b c) = sgn (((a.x - d.x) * (a.x - d.x) + (a.y - d.y) * (a.y - d.y)) * ((b.x - d.x) * (c.y - d.y) - (b.y - d.y) * (c.x - d.x)) + ((b.x - d.x) * (b.x - d.x) + (b.y - d.y) * (b.y - d.y)) * ((c.x - d.x) * (a.y - d.y) - (c.y - d.y) * (a.x - d.x)) + ((c.x - d.x) * (c.x - d.x) + (c.y - d.y) * (c.y - d.y)) * ((a.x - d.x) * (b.y - d.y) - (a.y - d.y) * (b.x - d.x))) * sgn ((b.x - a.x) * (c.y - a.y) - (b.y - a.y) * (c.x - a.x))) := hide rfl
    have BWF := hide (BW.trans (hB.mono BW.size))
    clear hc9 hc10 hc11 CELLS hBS BW hB
    have k1 := b3 (x := a.x - d.x) (y := a.x - d.x) (by omega) (by omega)
    have k2 := b3 (x := a.y - d.y) (y := a.y - d.y) (by omega) (by omega)
    have k3 := b3 (x := b.x - d.x) (y := b.x - d.x) (by omega) (by omega)
    have k4 := b3 (x := b.y - d.y) (y := b.y - d.y) (by omega) (by omega)
    have k5 := b3 (x := c.x - d.x) (y := c.x - d.x) (by omega) (by omega)
    have k6 := b3 (x := c.y - d.y) (y := c.y - d.y) (by omega) (by omega)
    have m1 := b3 (x := b.x - d.x) (y := c.y - d.y) (by omega) (by omega)
    have m2 := b3 (x := b.y - d.y) (y := c.x - d.x) (by omega) (by omega)
    have m3 := b3 (x := c.x - d.x) (y := a.y - d.y) (by omega) (by omega)
    have m4 := b3 (x := c.y - d.y) (y := a.x - d.x) (by omega) (by omega)
    have m5 := b3 (x := a.x - d.x) (y := b.y - d.y) (by omega) (by omega)
    have m6 := b3 (x := a.y - d.y) (y := b.x - d.x) (by omega) (by omega)
    have M1 := b4 (x := (a.x - d.x) * (a.x - d.x) + (a.y - d.y) * (a.y - d.y)) (y := (b.x - d.x) * (c.y - d.y) - (b.y - d.y) * (c.x - d.x)) (by omega) (by omega)
    have M2 := b4 (x := (b.x - d.x) * (b.x - d.x) + (b.y - d.y) * (b.y - d.y)) (y := (c.x - d.x) * (a.y - d.y) - (c.y - d.y) * (a.x - d.x)) (by omega) (by omega)
    have M3 := b4 (x := (c.x - d.x) * (c.x - d.x) + (c.y - d.y) * (c.y - d.y)) (y := (a.x - d.x) * (b.y - d.y) - (a.y - d.y) * (b.x - d.x)) (by omega) (by omega)
    have TU := hide (fun W => turn_any a.x a.y b.x b.y c.x c.y W (by omega) (by omega) (by omega) (by omega) (by omega) (by omega))
    have SG := hide sign_any
    have S1 := sgn_bd (((a.x - d.x) * (a.x - d.x) + (a.y - d.y) * (a.y - d.y)) * ((b.x - d.x) * (c.y - d.y) - (b.y - d.y) * (c.x - d.x)) + ((b.x - d.x) * (b.x - d.x) + (b.y - d.y) * (b.y - d.y)) * ((c.x - d.x) * (a.y - d.y) - (c.y - d.y) * (a.x - d.x)) + ((c.x - d.x) * (c.x - d.x) + (c.y - d.y) * (c.y - d.y)) * ((a.x - d.x) * (b.y - d.y) - (a.y - d.y) * (b.x - d.x)))
    have S2 := sgn_bd ((b.x - a.x) * (c.y - a.y) - (b.y - a.y) * (c.x - a.x))
    have S3 := mul_bd (M := 1) (N := 1) S1 S2
    clear S1 S2
    go_wp2_with fail
    refine wp_region_ext (by kernel_rfl) (by kernel_rfl) ?_
    repeat (go_big_quiet_step ((first | (go_at_call 211; exact Calls.in_ext (dot_any _ _ _ _ _ (by omega) (by omega) (by omega) (by omega))) | (go_at_call 162; exact Calls.in_ext (cross_any _ _ _ _ _ (by omega) (by omega) (by omega) (by omega))))))
    refine wpQuiet_nil ?_
    rintro _ hnq
    have hzq := ext_sz hnq
    obtain ⟨nq, rfl⟩ := hnq
    (try simp at hzq)
    go_wp2_with fail
    refine wp_region_ext (by kernel_rfl) (by kernel_rfl) ?_
    repeat (go_big_quiet_step ((first | (go_at_call 123; exact Calls.in_ext (SG.out _ _)) | (go_at_call 107; exact Calls.in_ext (TU.out _)))))
    refine wpQuiet_nil ?_
    rintro _ hnq
    have hzq := ext_sz hnq
    obtain ⟨nq, rfl⟩ := hnq
    (try simp at hzq)
    go_wp2_with fail
    go_ret
    rw [HDV.out]
    exact ⟨rfl, ext_mk (BWF.out.trans (Below.mono (by (repeat' (first | (with_reducible first | exact Below.refl _ _ | assumption | refine below_ext _ ?_ ?_ | refine Below.alloc ?_ ?_ _ | refine Below.drew ?_ | refine below_drewN ?_ _ | refine le_drewN _ ?_ | refine Below.setCell ?_ ?_ _ | exact Nat.le_refl _ | refine le_ext _ ?_ | refine le_alloc _ ?_ | refine le_setCell _ _ ?_ | refine le_drew ?_) | omega | (simp; done) | (simp; omega)))) BWF.out.size))⟩
set_option maxHeartbeats 4000000 in
theorem sCircle_any (a b c d : Pt) (w : World) (ha : a.ok = true) (hb : b.ok = true) (hc : c.ok = true) (hd : d.ok = true) :
    Calls Tryz.prog 209 #[.agg #[.int .i64 a.x, .int .i64 a.y], .agg #[.int .i64 b.x, .int .i64 b.y], .agg #[.int .i64 c.x, .int .i64 c.y], .agg #[.int .i64 d.x, .int .i64 d.y]] w fun e w' => e = .returned (.int .i64 (sgn (icD a b c d))) ∧ ∃ x, w' = ext w x := by
  have ba := okb ha
  have bb := okb hb
  have bc := okb hc
  have bd := okb hd
  have HDV : Hid (icD a b c d = ((a.x - d.x) * (a.x - d.x) + (a.y - d.y) * (a.y - d.y)) * ((b.x - d.x) * (c.y - d.y) - (b.y - d.y) * (c.x - d.x)) - ((b.x - d.x) * (b.x - d.x) + (b.y - d.y) * (b.y - d.y)) * ((a.x - d.x) * (c.y - d.y) - (a.y - d.y) * (c.x - d.x)) + ((c.x - d.x) * (c.x - d.x) + (c.y - d.y) * (c.y - d.y)) * ((a.x - d.x) * (b.y - d.y) - (a.y - d.y) * (b.x - d.x))) := hide (by unfold icD sqP trn; grind)
  rw [HDV.out]
  clear ha hb hc hd HDV
  have hX : Hid (∃ px py qx qy rx ry : Int, px = a.x - d.x ∧ py = a.y - d.y ∧ qx = b.x - d.x ∧ qy = b.y - d.y ∧ rx = c.x - d.x ∧ ry = c.y - d.y) := hide ⟨_, _, _, _, _, _, rfl, rfl, rfl, rfl, rfl, rfl⟩
  clear hX
  have k1 := b3 (x := a.x - d.x) (y := a.x - d.x) (by omega) (by omega)
  have k2 := b3 (x := a.y - d.y) (y := a.y - d.y) (by omega) (by omega)
  have k3 := b3 (x := b.x - d.x) (y := b.x - d.x) (by omega) (by omega)
  have k4 := b3 (x := b.y - d.y) (y := b.y - d.y) (by omega) (by omega)
  have k5 := b3 (x := c.x - d.x) (y := c.x - d.x) (by omega) (by omega)
  have k6 := b3 (x := c.y - d.y) (y := c.y - d.y) (by omega) (by omega)
  have m1 := b3 (x := b.x - d.x) (y := c.y - d.y) (by omega) (by omega)
  have m2 := b3 (x := b.y - d.y) (y := c.x - d.x) (by omega) (by omega)
  have m3 := b3 (x := a.x - d.x) (y := c.y - d.y) (by omega) (by omega)
  have m4 := b3 (x := a.y - d.y) (y := c.x - d.x) (by omega) (by omega)
  have m5 := b3 (x := a.x - d.x) (y := b.y - d.y) (by omega) (by omega)
  have m6 := b3 (x := a.y - d.y) (y := b.x - d.x) (by omega) (by omega)
  have M1 := b4 (x := (a.x - d.x) * (a.x - d.x) + (a.y - d.y) * (a.y - d.y)) (y := (b.x - d.x) * (c.y - d.y) - (b.y - d.y) * (c.x - d.x)) (by omega) (by omega)
  have M2 := b4 (x := (b.x - d.x) * (b.x - d.x) + (b.y - d.y) * (b.y - d.y)) (y := (a.x - d.x) * (c.y - d.y) - (a.y - d.y) * (c.x - d.x)) (by omega) (by omega)
  have M3 := b4 (x := (c.x - d.x) * (c.x - d.x) + (c.y - d.y) * (c.y - d.y)) (y := (a.x - d.x) * (b.y - d.y) - (a.y - d.y) * (b.x - d.x)) (by omega) (by omega)
  have SG := hide ssign_any
  go_enter Tryz.func209, Tryz.ntmps209
  go_wp2_with fail
  refine (SG.out _ _).mono ?_
  rintro e w' ⟨rfl, hw'⟩; have hzy := ext_sz hw'; obtain ⟨y, rfl⟩ := hw'; (try simp at hzy)
  go_wp2_with fail
  go_ret
  exact ⟨rfl, (ext_mk (by (repeat' (first | (with_reducible first | exact Below.refl _ _ | assumption | refine below_ext _ ?_ ?_ | refine Below.alloc ?_ ?_ _ | refine Below.drew ?_ | refine below_drewN ?_ _ | refine le_drewN _ ?_ | refine Below.setCell ?_ ?_ _ | exact Nat.le_refl _ | refine le_ext _ ?_ | refine le_alloc _ ?_ | refine le_setCell _ _ ?_ | refine le_drew ?_) | omega | (simp; done) | (simp; omega)))))⟩
end Go.Proofs.YtnddfdhfefconaaGreatDoor
