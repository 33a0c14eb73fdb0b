
/- Regions that draw their order, by an invariant: one step an operation, whatever the order. No program in sight. -/
import Derived.Test.YtcebmcbglhkkfaaBase
set_option linter.unusedVariables false
set_option linter.unusedSimpArgs false
namespace Go.Proofs.Ytcebmcbglhkkfaa
open Go.RowKit

/-- On the ordinary way out alone. -/
def Nrm (K : Act → World → Prop) : Exit → Act → World → Prop := fun e a w => e = .normal ∧ K a w
theorem nrm_out {K : Act → World → Prop} : ¬ LetsOut (Nrm K) := fun ⟨_, _, h, _⟩ => by cases h
theorem wp_of_nrm {P : Program} {o : Oper} {a : Act} {w : World} {K : Act → World → Prop} {Q : Exit → Act → World → Prop} (h : o.wp P a w (Nrm K .normal) (Nrm K)) : o.wp P a w K Q := by
  unfold Oper.wp at *
  generalize (execOp a.eval o).run P w = r at *
  cases r with
  | ok n w' =>
    cases n <;> simp only [Oper.upon] at h ⊢
    all_goals first
      | exact h.2
      | (refine Calls.mono h fun e w'' he => ?_
         cases e with
         | returned v => exact he.2
         | panicked c => exact absurd he.1 (by intro h; cases h)
         | outgrown => exact absurd he nrm_out)
      | exact Rows.mono h (fun _ _ he => he.2)
  | halt x w' =>
    cases x <;> simp only [Oper.upon] at h ⊢
    all_goals exact absurd h.1 (by intro h; cases h)
theorem wpOp_of_one {P : Program} {ops : Array Oper} {i : Nat} {o : Oper} {a : Act} {w : World} {K : Act → World → Prop} {Q : Exit → Act → World → Prop} (hi : ops[i]? = some o) (hg : o.guard = none)
    (h' : ∀ N : Exit → Act → World → Prop, Hid (∀ a w, K a w → N .normal a w) → wpList P ops N [o] a w) : wpOp P ops Q i K a w := by
  have h := h' (Nrm K) (hide fun a w h => ⟨rfl, h⟩)
  clear h'
  unfold wpOp
  rw [hi]
  unfold wpList at h
  have hw : Region.wanted o (yielded ops a.tmps) = true := by simp [Region.wanted, hg]
  simp only [hw, if_true] at h ⊢
  rcases h with h | ⟨_, h⟩
  · exact .inl (wp_of_nrm h)
  · exact absurd h nrm_out
/-- Every operation waits for operations ahead of it alone. -/
def backB (ops : Array Oper) : Bool := (List.range ops.size).all fun i => ((ops[i]?).map fun o => o.after.all fun e => decide (e.on < i)).getD true
def unl (n : Nat) (L : Array Bool) : List Nat := (List.range n).filter fun i => !L.getD i true
theorem flt_lt {p q : Nat → Bool} {x : Nat} : ∀ {l : List Nat}, (∀ y ∈ l, p y = true → q y = true) → x ∈ l → q x = true → p x = false → (l.filter p).length < (l.filter q).length := by
  have le : ∀ {l : List Nat}, (∀ y ∈ l, p y = true → q y = true) → (l.filter p).length ≤ (l.filter q).length := by
    intro l
    induction l with
    | nil => intro _; exact Nat.le_refl _
    | cons a l ih =>
      intro h
      have ih := ih fun y hy => h y (List.mem_cons_of_mem _ hy)
      have ha := h a List.mem_cons_self
      rw [List.filter_cons, List.filter_cons]
      split
      · rename_i hp; rw [if_pos (ha hp)]; simp; omega
      · split
        · simp; omega
        · exact ih
  intro l
  induction l with
  | nil => intro _ h; cases h
  | cons a l ih =>
    intro h hx hq hp
    have h' : ∀ y ∈ l, p y = true → q y = true := fun y hy => h y (List.mem_cons_of_mem _ hy)
    have ha := h a List.mem_cons_self
    rw [List.filter_cons, List.filter_cons]
    rcases List.mem_cons.1 hx with e | e
    · subst e
      rw [hp, hq]
      have := le h'
      simp; omega
    · have ih := ih h' e hq hp
      split
      · rename_i hp; rw [if_pos (ha hp)]; simp; omega
      · split
        · simp; omega
        · exact ih
theorem unl_set {n i : Nat} {L : Array Bool} (hL : L.size = n) (hi : i < n) (h : L.getD i true = false) : (unl n (L.setIfInBounds i true)).length < (unl n L).length := by
  have key : ∀ j, (L.setIfInBounds i true).getD j true = if i = j then true else L.getD j true := fun j => by
    rw [Array.getD_eq_getD_getElem?, Array.getD_eq_getD_getElem?, Array.getElem?_setIfInBounds]
    by_cases e : i = j
    · subst e; simp [hL, hi]
    · simp [e]
  refine flt_lt (x := i) (fun y _ hy => ?_) (List.mem_range.2 hi) ?_ ?_
  · rw [key] at hy
    split at hy
    · cases hy
    · exact hy
  · rw [h]; rfl
  · rw [key, if_pos rfl]; rfl
theorem all_listed {ops : Array Oper} {L : Array Bool} (hb : backB ops = true) (hL : L.size = ops.size) (hr : Region.ready .any ops L = []) : ∀ i, i < ops.size → L.getD i false = true := by
  intro i
  induction i using Nat.strongRecOn with
  | _ i ih =>
    intro hi
    refine Decidable.byContradiction fun hn => ?_
    have hf : L.getD i true = false := by
      rw [Array.getD_eq_getD_getElem?] at hn ⊢
      rw [Array.getElem?_eq_getElem (by omega)] at hn ⊢
      simpa using hn
    have : i ∈ Region.ready .any ops L := by
      unfold Region.ready
      rw [List.mem_filter]
      refine ⟨List.mem_range.2 hi, ?_⟩
      rw [hf]
      have hb' := List.all_eq_true.1 hb i (List.mem_range.2 hi)
      rw [Array.getElem?_eq_getElem hi] at hb' ⊢
      simp only [Option.map_some, Option.getD_some, Bool.not_false, Bool.true_and] at hb' ⊢
      rw [Array.all_eq_true_iff_forall_mem] at hb' ⊢
      intro e he
      have h1 := hb' e he
      simp only [decide_eq_true_eq] at h1
      rw [ih e.on h1 (by omega)]
      simp
    rw [hr] at this
    cases this
theorem wpAny_inv {P : Program} {ops : Array Oper} {Q : Exit → Act → World → Prop} {Inv : Array Bool → Act → World → Prop} (hb : backB ops = true)
    (hstep : ∀ L a w i, L.size = ops.size → i < ops.size → L.getD i true = false → (((ops[i]?).map (·.after.all fun e => !Region.binds .any e || L.getD e.on false)).getD false = true) → Inv L a w → wpOp P ops Q i (fun a' w' => Inv (L.setIfInBounds i true) a' w') a w)
    (hend : ∀ L a w, (∀ i, i < ops.size → L.getD i false = true) → Inv L a w → Q .normal a w) :
    ∀ (fuel : Nat) (L : Array Bool) (a : Act) (w : World), L.size = ops.size → (unl ops.size L).length ≤ fuel → Inv L a w → wpAny P .any ops Q fuel L a w
  | 0, L, a, w, hL, hf, hI => by
    have hr : Region.ready .any ops L = [] := by
      rw [List.eq_nil_iff_forall_not_mem]
      intro i hi
      unfold Region.ready at hi
      rw [List.mem_filter] at hi
      have h2 : i ∈ unl ops.size L := by
        unfold unl
        rw [List.mem_filter]
        refine ⟨hi.1, ?_⟩
        have := hi.2
        rw [Bool.and_eq_true] at this
        exact this.1
      have e0 : unl ops.size L = [] := List.length_eq_zero_iff.1 (by omega)
      rw [e0] at h2
      cases h2
    exact ⟨hr, hend L a w (all_listed hb hL hr) hI⟩
  | fuel + 1, L, a, w, hL, hf, hI => by
    refine ⟨fun hr => hend L a w (all_listed hb hL hr) hI, fun i hi => ?_⟩
    unfold Region.ready at hi
    rw [List.mem_filter, List.mem_range, Bool.and_eq_true] at hi
    obtain ⟨h1, h2, h3⟩ := hi
    have h2 : L.getD i true = false := by simpa using h2
    refine wpOp_mono (fun a' w' h' => ?_) (hstep L a w i hL h1 h2 h3 hI)
    exact wpAny_inv hb hstep hend fuel _ a' w' (by rw [Array.size_setIfInBounds]; exact hL) (by have := unl_set hL h1 h2; omega) h'
/-- A region that draws its order: what one operation keeps, the region keeps. -/
theorem wp_region_inv {P : Program} {id : Nat} {l : List Oper} {Q : Exit → Act → World → Prop} {a : Act} {w : World} (Inv : Array Bool → Act → World → Prop) (hm : P.follows .mixedOrders = true) (hb : backB l.toArray = true)
    (h0 : Inv (Array.replicate l.toArray.size false) a { w with drawn := w.drawn + 1 })
    (hstep : ∀ L a w i, L.size = l.toArray.size → i < l.toArray.size → L.getD i true = false → (((l.toArray[i]?).map (·.after.all fun e => !Region.binds .any e || L.getD e.on false)).getD false = true) → Inv L a w → wpOp P l.toArray Q i (fun a' w' => Inv (L.setIfInBounds i true) a' w') a w)
    (hend : ∀ L a w, (∀ i, i < l.toArray.size → L.getD i false = true) → Inv L a w → Q .normal a w) : (Code.region id l.toArray true).wp P Q a w := by
  refine wp_region_any hm (wpAny_inv hb hstep hend _ _ _ _ (by simp) ?_ h0)
  refine Nat.le_trans (List.length_filter_le _ _) (by simp)
theorem set_ge {L : Array Bool} {n i : Nat} (hL : L.size = n) (hi : i < n) (j : Nat) : (L.setIfInBounds i true).getD j false = if i = j then true else L.getD j false := by
  rw [Array.getD_eq_getD_getElem?, Array.getD_eq_getD_getElem?, Array.getElem?_setIfInBounds]
  by_cases e : i = j
  · subst e; simp [hL, hi]
  · simp [e]
end Go.Proofs.Ytcebmcbglhkkfaa
