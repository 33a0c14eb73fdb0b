
/- A loop over an iterator that keeps its own state in cells: own law, out of the kit's steps of the loop's record. -/
import Derived.RangeFuncWrites
import Derived.RangeFuncBound
import Derived.RangeFuncCalls
import Derived.RangeFuncLeaves
import Derived.Test.YtnddfdhfefconaaGreatDoorBase
set_option linter.unusedVariables false
set_option linter.unusedSimpArgs false
namespace Go.Proofs.YtnddfdhfefconaaGreatDoor
open Go.RowKit

/-- The iterator's word: it may write the cells 'Mine' between two rounds. -/
def SeqCells {α : Type} (n : Nat) (P : Program) (gf : Nat) (lb : Array Value) (encs : α → Array Value) (Mine : Addr → Prop) (Kp : World → World → Prop) (Z : World → Prop) (Ok : List α → α → Prop) (S Sp : List α → Prop) (w : World) : Prop :=
  ∀ (l : Nat) (J Jx : List α → World → Prop) (W : World), Below w.heap.size w W → (∀ pre X p v, Mine p → J pre X → J pre (X.setCell p v)) → (∀ pre X, J pre X → Z X) →
    (∀ pre x X, J pre X → Ok pre x → YieldAt Fence.wide (n - 1) P l (encs x) X fun e X' => (e = .returned (.bool true) ∧ J (pre ++ [x]) X' ∧ Kp X X') ∨ (e = .returned (.bool false) ∧ Jx (pre ++ [x]) X')) →
    J [] W → CallsIn Fence.wide n P gf (#[.func (.yield l) #[] #[]] ++ lb) W fun e W' => (∃ v, e = .returned v) ∧ ((∃ xs, S xs ∧ J xs W') ∨ (∃ pre, Sp pre ∧ Jx pre W'))
theorem range_cells {α : Type} {P : Program} {n : Nat} {g : Operand} {ps : Array Tmp} {assign body : Code} {Q : Exit → Act → World → Prop} {a : Act} {w : World} {gf : Nat} {lb : Array Value}
    (h1 : 1 ≤ n) (hg : a.eval g = .func (.func gf) #[] lb) (eg : ∀ args w, (callFunc gf args).run P w = .ok (.enter gf args) w)
    {encs : α → Array Value} {Mine : Addr → Prop} {Kp : World → World → Prop} {Z : World → Prop} {Ok : List α → α → Prop} {S Sp : List α → Prop} (hseq : SeqCells (n - 1) P gf lb encs Mine Kp Z Ok S Sp w)
    (hMine : ∀ p, Mine p → p.block < w.heap.size) (hKt : ∀ {A B C : World}, Kp A B → Kp B C → Kp A C) (hKb : ∀ (W : World) (l : Nat) (o' : Obj), w.heap.size ≤ l → Kp W (W.putObj l o')) (hps : ∀ x, (encs x).size = ps.size)
    (I : List α → World → Prop) (Ix : Code → List α → World → Prop) (hI : OwnFrom w.heap.size I) (hIx : ∀ c, OwnFrom w.heap.size (Ix c)) (hIs : ∀ pre X p v, Mine p → I pre X → I pre (X.setCell p v)) (hIZ : ∀ pre X, I pre X → Z X) (h0 : I [] w) (a₁ : α → Act)
    (hassign : ∀ (l : Nat) (x : α) (W : World) (K : Act → World → Prop), K (a₁ x) W →
      assign.wpIn (Fence.wide.inRound l) (n - 1 - 1) P (Exit.then K (fun _ _ _ => False)) { tmps := (ps.zip (encs x)).foldl (fun t (p, v) => t.setIfInBounds p v) a.tmps, defers := [] } W)
    (hbody : ∀ (l : Nat) (pre : List α) (x : α) (W : World), I pre W → Ok pre x → body.wpIn (Fence.wide.inRound l) (n - 1 - 1) P (ownPostG w.heap.size Kp I Ix (pre ++ [x]) W) (a₁ x) W)
    (hdone : ∀ (D : Nat) (xs : List α) (W : World), w.heap.size ≤ D → S xs → I xs W → W.heap[D]? = some (.deferred (some [])) → Q .normal { a with defers := { target := .collected D, args := #[] } :: a.defers } W)
    (hstop : ∀ (D : Nat) (c : Code) (pre : List α) (W : World), w.heap.size ≤ D → Sp pre → Ix c pre W → W.heap[D]? = some (.deferred (some [])) → c.wpIn Fence.wide n P Q { a with defers := { target := .collected D, args := #[] } :: a.defers } W) :
    (Code.rangeFunc g ps assign body).wpIn Fence.wide n P Q a w := by
  refine wpIn_rangeFunc fun fn hfn => ?_
  -- the record's two blocks: D the rounds' deferred calls, D + 1 the record
  obtain ⟨D, hD⟩ : ∃ D, w.heap.size = D := ⟨_, rfl⟩
  let rc : LoopState → Option Code → Obj := fun st pe => .loop { state := st, pending := pe, fn := fn, tmps := a.tmps, params := ps, assign := assign, body := body, defers := D }
  have two : ∀ (W : World) (o o' : Obj), ((W.alloc o).alloc o').heap[W.heap.size]? = some o ∧ ((W.alloc o).alloc o').heap[W.heap.size + 1]? = some o' := fun W o o' => by
    refine ⟨(Below.heap_alloc _ _ _ (by simp)).trans (World.alloc_heap_new W o), ?_⟩
    have := World.alloc_heap_new (W.alloc o) o'
    rwa [World.size_alloc] at this
  obtain ⟨W1, hW1⟩ : ∃ W1, (w.alloc (.deferred (some []))).alloc (rc .ready none) = W1 := ⟨_, rfl⟩
  have hK1 : W1.heap[D]? = some (.deferred (some [])) := by rw [← hW1, ← hD]; exact (two w _ _).1
  have hL1 : W1.heap[D + 1]? = some (rc .ready none) := by rw [← hW1, ← hD]; exact (two w _ _).2
  have hI1 : I [] W1 := by rw [← hW1]; exact hI.alloc _ (hI.alloc _ h0)
  have hb1 : Below w.heap.size w W1 := by rw [← hW1]; exact ((Below.refl _ w).alloc (Nat.le_refl _) _).alloc (by simp) _
  have eRun : (Instr.enterLoop fn a.tmps ps assign body none).run P w = .ok (D + 1, [{ target := .collected D, args := #[] }]) W1 := by
    rw [← hW1, ← hD]; show _ = Result.ok _ ((w.alloc _).alloc (rc .ready none)); rw [run_enterLoop_outer]; rw [hD]
  refine ⟨D + 1, [{ target := .collected D, args := #[] }], W1, { target := .fn (.func gf) lb, args := #[.func (.yield (D + 1)) #[] #[]] }, W1, gf, #[.func (.yield (D + 1)) #[] #[]] ++ lb, W1, eRun, ?_, fun _ _ => trivial, ?_, fun _ => h1, ?_⟩
  · simp only [resolve, hg]
    simp [go_sem]
  · simp [invoke, go_sem, eg]
  -- what holds between two rounds, and behind the last
  let J : List α → World → Prop := fun pre W => I pre W ∧ W.heap[D + 1]? = some (rc .ready none) ∧ W.heap[D]? = some (.deferred (some []))
  let Jx : List α → World → Prop := fun pre W => ∃ c, Ix c pre W ∧ W.heap[D + 1]? = some (rc .done (some c)) ∧ W.heap[D]? = some (.deferred (some []))
  have hrc : ∀ st pe, (rc st pe).isCells = false := fun _ _ => rfl
  have hset : ∀ (W : World) (st : LoopState) (pe : Option Code) (o' : Obj), W.heap[D + 1]? = some (rc st pe) → W.heap[D]? = some (.deferred (some [])) → (W.putObj (D + 1) o').heap[D + 1]? = some o' ∧ (W.putObj (D + 1) o').heap[D]? = some (.deferred (some [])) := fun W st pe o' hl hk =>
    ⟨World.putObj_heap_same (Array.getElem?_eq_some_iff.1 hl).1, (World.putObj_heap_other (by omega)).trans hk⟩
  refine (hseq (D + 1) J Jx W1 hb1 (fun pre X p v hp hj => ?_) (fun pre X hj => hIZ pre X hj.1) ?_ ⟨hI1, hL1, hK1⟩).mono ?_
  · have hpb := hMine p hp
    exact ⟨hIs pre X p v hp hj.1, (Below.heap_setCell X p v (D + 1) (by omega)).trans hj.2.1, (Below.heap_setCell X p v D (by omega)).trans hj.2.2⟩
  · rintro pre x W ⟨hi, hl, hk⟩ hok
    refine ⟨fn, _, assign, body, run_yield (P := P) (args := encs x) hl (hps x), roundIn_of_wpIn hfn (hassign _ x W _ ⟨_, run_beginRound hl rfl, ?_⟩)⟩
    obtain ⟨hl2, hk2⟩ := hset W _ _ (rc .busy none) hl hk
    have hi2 : I pre (W.putObj (D + 1) (rc .busy none)) := hI.putObj _ hi (by omega) hl (hrc _ _)
    have hw2 : Kp W (W.putObj (D + 1) (rc .busy none)) := hKb _ _ _ (by omega)
    refine wpIn_mono (hbody _ pre x _ hi2 hok) ?_
    have fin : ∀ (jump : Option Code) (W3 : World), KeepsFrom w.heap.size (W.putObj (D + 1) (rc .busy none)) W3 →
        W3.heap[D + 1]? = some (rc .busy none) ∧ (Instr.endRound (D + 1) jump).run P W3 = .ok (.bool jump.isNone) (W3.putObj (D + 1) (rc (if jump.isNone then .ready else .done) jump)) ∧
        (W3.putObj (D + 1) (rc (if jump.isNone then .ready else .done) jump)).heap[D + 1]? = some (rc (if jump.isNone then .ready else .done) jump) ∧ (W3.putObj (D + 1) (rc (if jump.isNone then .ready else .done) jump)).heap[D]? = some (.deferred (some [])) := fun jump W3 hk3 => by
      have hl3 := hk3.same _ _ (by omega) hl2 (hrc _ _)
      have hd3 := hk3.same _ _ (by omega) hk2 rfl
      exact ⟨hl3, run_endRound (P := P) jump hl3, hset W3 _ _ _ hl3 hd3⟩
    rintro e a3 W3 hp
    cases e with
    | normal =>
      obtain ⟨hk3, hkp3, hi3⟩ := hp
      obtain ⟨hl3, hr, hl4, hk4⟩ := fin none W3 hk3
      exact ⟨_, _, hr, .inl ⟨rfl, ⟨hI.putObj _ hi3 (by omega) hl3 (hrc _ _), hl4, hk4⟩, hKt (hKt hw2 hkp3) (hKb _ _ _ (by omega))⟩⟩
    | ret =>
      obtain ⟨hk3, hi3⟩ := hp
      obtain ⟨hl3, hr, hl4, hk4⟩ := fin (some .ret) W3 hk3
      exact ⟨_, _, hr, .inr ⟨rfl, .ret, (hIx _).putObj _ hi3 (by omega) hl3 (hrc _ _), hl4, hk4⟩⟩
    | exit id =>
      obtain ⟨hk3, hi3⟩ := hp
      obtain ⟨hl3, hr, hl4, hk4⟩ := fin (some (.exit id)) W3 hk3
      exact ⟨_, _, hr, .inr ⟨rfl, .exit id, (hIx _).putObj _ hi3 (by omega) hl3 (hrc _ _), hl4, hk4⟩⟩
    | goto t =>
      obtain ⟨hk3, hi3⟩ := hp
      obtain ⟨hl3, hr, hl4, hk4⟩ := fin (some (.goto t)) W3 hk3
      exact ⟨_, _, hr, .inr ⟨rfl, .goto t, (hIx _).putObj _ hi3 (by omega) hl3 (hrc _ _), hl4, hk4⟩⟩
    | panic ch => exact hp.elim
    | outgrown => exact hp.elim
  · rintro e W2 ⟨⟨v, rfl⟩, (⟨xs, hS, hi, hl, hk⟩ | ⟨pre, hSp, c, hi, hl, hk⟩)⟩
    · exact ⟨none, _, run_endLoop (P := P) hl (fun e => by cases e), hdone _ xs _ (by omega) hS (hI.putObj _ hi (by omega) hl (hrc _ _)) ((World.putObj_heap_other (by omega)).trans hk)⟩
    · exact ⟨some c, _, run_endLoop (P := P) hl (fun e => by cases e), hstop _ c pre _ (by omega) hSp ((hIx c).putObj _ hi (by omega) hl (hrc _ _)) ((World.putObj_heap_other (by omega)).trans hk)⟩
end Go.Proofs.YtnddfdhfefconaaGreatDoor
