
/- A loop over an iterator that keeps its own state in cells: own law, out of the kit's steps of the loop's record. -/
/- strings.SplitSeq at a separator of one byte: the iterator's word. -/
/- Reading numbers and fractions: the reference's parseInt; both DecodeRat, both DecodeRatPoint. -/
/- impl.DecodePoints. -/
/- Reading points: the reference's parsePoints, DecodePoints. -/
import Derived.RangeFuncWrites
import Derived.RangeFuncBound
import Derived.RangeFuncCalls
import Derived.RangeFuncLeaves
import Derived.Test.YtnddfdhfefconaaGreatDoorBase
import Derived.RangeFuncNested
import Derived.Shelf.Abstract
import Derived.Shelf.RegionOpen
import Derived.WalkKit
import Derived.OwnWalkIn
import Derived.TacticsInMore
import Derived.LoopNIn
import Derived.LoopIn
import Derived.Test.YtnddfdhfefconaaGreatDoorSlayU
import Derived.Test.YtnddfdhfefconaaGreatDoorPtM
import Derived.Test.YtnddfdhfefconaaGreatDoorLaid
import Derived.RangeFuncBox
import Derived.Maps.OwnIn
import Derived.Maps.AppendAt
import Derived.Test.YtnddfdhfefconaaGreatDoorEncP
set_option linter.unusedVariables false
set_option linter.unusedSimpArgs false
namespace Go.Proofs.YtnddfdhfefconaaGreatDoor
open Go.RowKit

/-- The iterator's word: it may write the cells 'Mine' between two rounds. -/
def SeqCells {α : Type} (n : Nat) (P : Program) (gf : Nat) (lb : Array Value) (encs : α → Array Value) (Mine : Addr → Prop) (Kp : World → World → Prop) (Z : World → Prop) (Ok : List α → α → Prop) (S Sp : List α → Prop) (w : World) : Prop :=
  ∀ (l : Nat) (J Jx : List α → World → Prop) (W : World), Below w.heap.size w W → (∀ pre X p v, Mine p → J pre X → J pre (X.setCell p v)) → (∀ pre X, J pre X → Z X) →
    (∀ pre x X, J pre X → Ok pre x → YieldAt Fence.wide (n - 1) P l (encs x) X fun e X' => (e = .returned (.bool true) ∧ J (pre ++ [x]) X' ∧ Kp X X') ∨ (e = .returned (.bool false) ∧ Jx (pre ++ [x]) X')) →
    J [] W → CallsIn Fence.wide n P gf (#[.func (.yield l) #[] #[]] ++ lb) W fun e W' => (∃ v, e = .returned v) ∧ ((∃ xs, S xs ∧ J xs W') ∨ (∃ pre, Sp pre ∧ Jx pre W'))
theorem range_cells {α : Type} {P : Program} {n : Nat} {g : Operand} {ps : Array Tmp} {assign body : Code} {Q : Exit → Act → World → Prop} {a : Act} {w : World} {gf : Nat} {lb : Array Value}
    (h1 : 1 ≤ n) (hg : a.eval g = .func (.func gf) #[] lb) (eg : ∀ args w, (callFunc gf args).run P w = .ok (.enter gf args) w)
    {encs : α → Array Value} {Mine : Addr → Prop} {Kp : World → World → Prop} {Z : World → Prop} {Ok : List α → α → Prop} {S Sp : List α → Prop} (hseq : SeqCells (n - 1) P gf lb encs Mine Kp Z Ok S Sp w)
    (hMine : ∀ p, Mine p → p.block < w.heap.size) (hKt : ∀ {A B C : World}, Kp A B → Kp B C → Kp A C) (hKb : ∀ (W : World) (l : Nat) (o' : Obj), w.heap.size ≤ l → Kp W (W.putObj l o')) (hps : ∀ x, (encs x).size = ps.size)
    (I : List α → World → Prop) (Ix : Code → List α → World → Prop) (hI : OwnFrom w.heap.size I) (hIx : ∀ c, OwnFrom w.heap.size (Ix c)) (hIs : ∀ pre X p v, Mine p → I pre X → I pre (X.setCell p v)) (hIZ : ∀ pre X, I pre X → Z X) (h0 : I [] w) (a₁ : α → Act)
    (hassign : ∀ (l : Nat) (x : α) (W : World) (K : Act → World → Prop), K (a₁ x) W →
      assign.wpIn (Fence.wide.inRound l) (n - 1 - 1) P (Exit.then K (fun _ _ _ => False)) { tmps := (ps.zip (encs x)).foldl (fun t (p, v) => t.setIfInBounds p v) a.tmps, defers := [] } W)
    (hbody : ∀ (l : Nat) (pre : List α) (x : α) (W : World), I pre W → Ok pre x → body.wpIn (Fence.wide.inRound l) (n - 1 - 1) P (ownPostG w.heap.size Kp I Ix (pre ++ [x]) W) (a₁ x) W)
    (hdone : ∀ (D : Nat) (xs : List α) (W : World), w.heap.size ≤ D → S xs → I xs W → W.heap[D]? = some (.deferred (some [])) → Q .normal { a with defers := { target := .collected D, args := #[] } :: a.defers } W)
    (hstop : ∀ (D : Nat) (c : Code) (pre : List α) (W : World), w.heap.size ≤ D → Sp pre → Ix c pre W → W.heap[D]? = some (.deferred (some [])) → c.wpIn Fence.wide n P Q { a with defers := { target := .collected D, args := #[] } :: a.defers } W) :
    (Code.rangeFunc g ps assign body).wpIn Fence.wide n P Q a w := by
  refine wpIn_rangeFunc fun fn hfn => ?_
  -- the record's two blocks: D the rounds' deferred calls, D + 1 the record
  obtain ⟨D, hD⟩ : ∃ D, w.heap.size = D := ⟨_, rfl⟩
  let rc : LoopState → Option Code → Obj := fun st pe => .loop { state := st, pending := pe, fn := fn, tmps := a.tmps, params := ps, assign := assign, body := body, defers := D }
  have two : ∀ (W : World) (o o' : Obj), ((W.alloc o).alloc o').heap[W.heap.size]? = some o ∧ ((W.alloc o).alloc o').heap[W.heap.size + 1]? = some o' := fun W o o' => by
    refine ⟨(Below.heap_alloc _ _ _ (by simp)).trans (World.alloc_heap_new W o), ?_⟩
    have := World.alloc_heap_new (W.alloc o) o'
    rwa [World.size_alloc] at this
  obtain ⟨W1, hW1⟩ : ∃ W1, (w.alloc (.deferred (some []))).alloc (rc .ready none) = W1 := ⟨_, rfl⟩
  have hK1 : W1.heap[D]? = some (.deferred (some [])) := by rw [← hW1, ← hD]; exact (two w _ _).1
  have hL1 : W1.heap[D + 1]? = some (rc .ready none) := by rw [← hW1, ← hD]; exact (two w _ _).2
  have hI1 : I [] W1 := by rw [← hW1]; exact hI.alloc _ (hI.alloc _ h0)
  have hb1 : Below w.heap.size w W1 := by rw [← hW1]; exact ((Below.refl _ w).alloc (Nat.le_refl _) _).alloc (by simp) _
  have eRun : (Instr.enterLoop fn a.tmps ps assign body none).run P w = .ok (D + 1, [{ target := .collected D, args := #[] }]) W1 := by
    rw [← hW1, ← hD]; show _ = Result.ok _ ((w.alloc _).alloc (rc .ready none)); rw [run_enterLoop_outer]; rw [hD]
  refine ⟨D + 1, [{ target := .collected D, args := #[] }], W1, { target := .fn (.func gf) lb, args := #[.func (.yield (D + 1)) #[] #[]] }, W1, gf, #[.func (.yield (D + 1)) #[] #[]] ++ lb, W1, eRun, ?_, fun _ _ => trivial, ?_, fun _ => h1, ?_⟩
  · simp only [resolve, hg]
    simp [go_sem]
  · simp [invoke, go_sem, eg]
  -- what holds between two rounds, and behind the last
  let J : List α → World → Prop := fun pre W => I pre W ∧ W.heap[D + 1]? = some (rc .ready none) ∧ W.heap[D]? = some (.deferred (some []))
  let Jx : List α → World → Prop := fun pre W => ∃ c, Ix c pre W ∧ W.heap[D + 1]? = some (rc .done (some c)) ∧ W.heap[D]? = some (.deferred (some []))
  have hrc : ∀ st pe, (rc st pe).isCells = false := fun _ _ => rfl
  have hset : ∀ (W : World) (st : LoopState) (pe : Option Code) (o' : Obj), W.heap[D + 1]? = some (rc st pe) → W.heap[D]? = some (.deferred (some [])) → (W.putObj (D + 1) o').heap[D + 1]? = some o' ∧ (W.putObj (D + 1) o').heap[D]? = some (.deferred (some [])) := fun W st pe o' hl hk =>
    ⟨World.putObj_heap_same (Array.getElem?_eq_some_iff.1 hl).1, (World.putObj_heap_other (by omega)).trans hk⟩
  refine (hseq (D + 1) J Jx W1 hb1 (fun pre X p v hp hj => ?_) (fun pre X hj => hIZ pre X hj.1) ?_ ⟨hI1, hL1, hK1⟩).mono ?_
  · have hpb := hMine p hp
    exact ⟨hIs pre X p v hp hj.1, (Below.heap_setCell X p v (D + 1) (by omega)).trans hj.2.1, (Below.heap_setCell X p v D (by omega)).trans hj.2.2⟩
  · rintro pre x W ⟨hi, hl, hk⟩ hok
    refine ⟨fn, _, assign, body, run_yield (P := P) (args := encs x) hl (hps x), roundIn_of_wpIn hfn (hassign _ x W _ ⟨_, run_beginRound hl rfl, ?_⟩)⟩
    obtain ⟨hl2, hk2⟩ := hset W _ _ (rc .busy none) hl hk
    have hi2 : I pre (W.putObj (D + 1) (rc .busy none)) := hI.putObj _ hi (by omega) hl (hrc _ _)
    have hw2 : Kp W (W.putObj (D + 1) (rc .busy none)) := hKb _ _ _ (by omega)
    refine wpIn_mono (hbody _ pre x _ hi2 hok) ?_
    have fin : ∀ (jump : Option Code) (W3 : World), KeepsFrom w.heap.size (W.putObj (D + 1) (rc .busy none)) W3 →
        W3.heap[D + 1]? = some (rc .busy none) ∧ (Instr.endRound (D + 1) jump).run P W3 = .ok (.bool jump.isNone) (W3.putObj (D + 1) (rc (if jump.isNone then .ready else .done) jump)) ∧
        (W3.putObj (D + 1) (rc (if jump.isNone then .ready else .done) jump)).heap[D + 1]? = some (rc (if jump.isNone then .ready else .done) jump) ∧ (W3.putObj (D + 1) (rc (if jump.isNone then .ready else .done) jump)).heap[D]? = some (.deferred (some [])) := fun jump W3 hk3 => by
      have hl3 := hk3.same _ _ (by omega) hl2 (hrc _ _)
      have hd3 := hk3.same _ _ (by omega) hk2 rfl
      exact ⟨hl3, run_endRound (P := P) jump hl3, hset W3 _ _ _ hl3 hd3⟩
    rintro e a3 W3 hp
    cases e with
    | normal =>
      obtain ⟨hk3, hkp3, hi3⟩ := hp
      obtain ⟨hl3, hr, hl4, hk4⟩ := fin none W3 hk3
      exact ⟨_, _, hr, .inl ⟨rfl, ⟨hI.putObj _ hi3 (by omega) hl3 (hrc _ _), hl4, hk4⟩, hKt (hKt hw2 hkp3) (hKb _ _ _ (by omega))⟩⟩
    | ret =>
      obtain ⟨hk3, hi3⟩ := hp
      obtain ⟨hl3, hr, hl4, hk4⟩ := fin (some .ret) W3 hk3
      exact ⟨_, _, hr, .inr ⟨rfl, .ret, (hIx _).putObj _ hi3 (by omega) hl3 (hrc _ _), hl4, hk4⟩⟩
    | exit id =>
      obtain ⟨hk3, hi3⟩ := hp
      obtain ⟨hl3, hr, hl4, hk4⟩ := fin (some (.exit id)) W3 hk3
      exact ⟨_, _, hr, .inr ⟨rfl, .exit id, (hIx _).putObj _ hi3 (by omega) hl3 (hrc _ _), hl4, hk4⟩⟩
    | goto t =>
      obtain ⟨hk3, hi3⟩ := hp
      obtain ⟨hl3, hr, hl4, hk4⟩ := fin (some (.goto t)) W3 hk3
      exact ⟨_, _, hr, .inr ⟨rfl, .goto t, (hIx _).putObj _ hi3 (by omega) hl3 (hrc _ _), hl4, hk4⟩⟩
    | panic ch => exact hp.elim
    | outgrown => exact hp.elim
  · rintro e W2 ⟨⟨v, rfl⟩, (⟨xs, hS, hi, hl, hk⟩ | ⟨pre, hSp, c, hi, hl, hk⟩)⟩
    · exact ⟨none, _, run_endLoop (P := P) hl (fun e => by cases e), hdone _ xs _ (by omega) hS (hI.putObj _ hi (by omega) hl (hrc _ _)) ((World.putObj_heap_other (by omega)).trans hk)⟩
    · exact ⟨some c, _, run_endLoop (P := P) hl (fun e => by cases e), hstop _ c pre _ (by omega) hSp ((hIx c).putObj _ hi (by omega) hl (hrc _ _)) ((World.putObj_heap_other (by omega)).trans hk)⟩
end Go.Proofs.YtnddfdhfefconaaGreatDoor
namespace Go.Proofs.YtnddfdhfefconaaGreatDoor
open Go.RowKit Go.Shelf

attribute [local go_sem] Oper.semAt_some

theorem index_no {l : List UInt8} {c : UInt8} (h : c ∉ l) : Lib.index l [c] = -1 := by
  rcases Lib.index_spec l [c] with ⟨e, _⟩ | ⟨i, e, hi, ho, _⟩
  · exact e
  · exfalso
    unfold Lib.occAt at ho
    simp [List.isPrefixOf] at ho
    cases hd : l.drop i with
    | nil => rw [hd] at ho; simp at ho
    | cons x r =>
      rw [hd] at ho
      simp at ho
      exact h (by have : x ∈ l.drop i := by rw [hd]; simp
                  rw [ho]; exact List.mem_of_mem_drop this)
theorem index_at {a b : List UInt8} {c : UInt8} (h : c ∉ a) : Lib.index (a ++ c :: b) [c] = (a.length : Nat) := by
  refine Lib.index_hit ?_ (by simp) (by simp [Lib.occAt, List.isPrefixOf])
  intro j hj
  unfold Lib.occAt
  rw [List.drop_append_of_le_length (by omega)]
  cases hd : a.drop j with
  | nil => have := congrArg List.length hd; simp at this; omega
  | cons x r =>
    have : x ∈ a := List.mem_of_mem_drop (by rw [hd]; simp : x ∈ a.drop j)
    simp [List.isPrefixOf]
    intro e; exact h (by rw [e]; exact this)
theorem index_any (l : List UInt8) (w : World) (hl : l.length ≤ 2000000) (hM : MaxL w) :
    Calls Tryz.prog 180 #[.string (bS l), .string ⟨#[44]⟩] w fun e w' => e = .returned (.int .i64 (Lib.index l [44])) ∧ w' = w := by
  obtain ⟨m, hm⟩ := hM
  have h := Any.strings_Index (ρ := Tryz.idxS_ren) { Tryz.idxS with } (bS l) (bS [44]) m w (by rw [bS_size]; omega) hm
  rw [bS_list, bS_list] at h
  exact h
/-- How many bytes are still to come, read off the world. -/
def leftIn (Bs : Nat) (W : World) : Nat := match W.cell? ⟨Bs, 0, none⟩ with | some (.string s) => s.size | _ => 0
theorem leftIn_of {Bs : Nat} {W : World} {l : List UInt8} (h : W.cell? ⟨Bs, 0, none⟩ = some (.string (bS l))) : leftIn Bs W = l.length := by
  unfold leftIn; rw [h]; exact bS_size l
/-- What a round keeps: the iterator's three cells. -/
def Kept3 (Bp Bs Bv : Nat) (W W' : World) : Prop := W'.heap[Bp]? = W.heap[Bp]? ∧ W'.heap[Bs]? = W.heap[Bs]? ∧ W'.heap[Bv]? = W.heap[Bv]?
theorem Kept3.t {Bp Bs Bv : Nat} {A B C : World} (h : Kept3 Bp Bs Bv A B) (k : Kept3 Bp Bs Bv B C) : Kept3 Bp Bs Bv A C := ⟨k.1.trans h.1, k.2.1.trans h.2.1, k.2.2.trans h.2.2⟩
def It3 (Bp Bs Bv : Nat) (r : List UInt8) (W : World) : Prop :=
  (∃ t, W.heap[Bp]? = some (.cells #[.string ⟨#[44]⟩] t (0, 0))) ∧ (∃ t, W.heap[Bs]? = some (.cells #[.string (bS r)] t (0, 0))) ∧ (∃ t, W.heap[Bv]? = some (.cells #[.int .i64 0] t (0, 0)))
theorem It3.kept {Bp Bs Bv : Nat} {r : List UInt8} {W W' : World} (h : It3 Bp Bs Bv r W) (k : Kept3 Bp Bs Bv W W') : It3 Bp Bs Bv r W' := by
  obtain ⟨⟨t1, a⟩, ⟨t2, b⟩, t3, c⟩ := h
  exact ⟨⟨t1, k.1.trans a⟩, ⟨t2, k.2.1.trans b⟩, t3, k.2.2.trans c⟩
theorem It3.cells {Bp Bs Bv : Nat} {r : List UInt8} {W : World} (h : It3 Bp Bs Bv r W) : (W.cell? ⟨Bp, 0, none⟩ = some (.string ⟨#[44]⟩) ∧ W.cell? ⟨Bs, 0, none⟩ = some (.string (bS r)) ∧ W.cell? ⟨Bv, 0, none⟩ = some (.int .i64 0)) ∧ W.frozen? ⟨Bs, 0, none⟩ = false := by
  obtain ⟨⟨t1, a⟩, ⟨t2, b⟩, t3, c⟩ := h
  exact ⟨⟨heap_cell a 0, heap_cell b 0, heap_cell c 0⟩, heap_frozen b 0⟩
theorem box1_0 {w : World} {g : Nat} {x : Value} {T : TypeId} (h : w.heap[g]? = some (.cells #[x] T (0, 0))) (a : Value) : (w.setCell ⟨g, 0, none⟩ a).heap[g]? = some (.cells #[a] T (0, 0)) := by
  simp [World.setCell, Array.getElem?_modify, h]
theorem It3.set {Bp Bs Bv : Nat} {r : List UInt8} {W : World} (h : It3 Bp Bs Bv r W) (h1 : Bp ≠ Bs) (h2 : Bv ≠ Bs) (r' : List UInt8) : It3 Bp Bs Bv r' (W.setCell ⟨Bs, 0, none⟩ (.string (bS r'))) := by
  obtain ⟨⟨t1, a⟩, ⟨t2, b⟩, t3, c⟩ := h
  exact ⟨⟨t1, (Below.heap_setCell W _ _ Bp h1).trans a⟩, ⟨t2, box1_0 b _⟩, t3, (Below.heap_setCell W _ _ Bv h2).trans c⟩
theorem pcs_step {pre : List (List UInt8)} {a b L : List UInt8} {m : Nat} (h : pre ++ splN (a ++ 44 :: b) 44 m = pcs L) (ha : (44 : UInt8) ∉ a) (hm : (a ++ 44 :: b).length ≤ m) : (pre ++ [a]) ++ splN b 44 (m - 1) = pcs L ∧ b.length ≤ m - 1 := by
  rw [List.length_append, List.length_cons] at hm
  obtain ⟨m', rfl⟩ : ∃ m', m = m' + 1 := ⟨m - 1, by omega⟩
  rw [splN_at ha] at h
  refine ⟨?_, by omega⟩
  rw [← h, List.append_assoc]; rfl
theorem pcs_last {pre : List (List UInt8)} {r L : List UInt8} {m : Nat} (h : pre ++ splN r 44 m = pcs L) (hr : (44 : UInt8) ∉ r) : pre ++ [r] = pcs L := by rwa [splN_no hr] at h
theorem ext_two {a b : List UInt8} : (bS (a ++ 44 :: b)).extract 0 a.length = bS a ∧ (bS (a ++ 44 :: b)).extract (a.length + 1) (a ++ 44 :: b).length = bS b := by
  rw [bS_ext, bS_ext]
  constructor
  · simp
  · congr 1
    rw [List.length_append, List.length_cons]
    have e : (a ++ 44 :: b).drop (a.length + 1) = b := by rw [show a ++ 44 :: b = (a ++ [44]) ++ b by simp]; exact List.drop_left' (by simp)
    rw [e, List.take_of_length_le (by omega)]
set_option maxRecDepth 100000 in
set_option maxHeartbeats 2000000 in
theorem split_it (L : List UInt8) (Bp Bs Bv : Nat) (n : Nat) (w : World) (hL : L.length ≤ 2000000) (h1 : Bp ≠ Bs) (h2 : Bv ≠ Bs) (hI : It3 Bp Bs Bv L w) (hb1 : Bp < w.heap.size) (hb2 : Bs < w.heap.size) (hb3 : Bv < w.heap.size) :
    SeqCells n Tryz.prog 178 #[.pointer (some ⟨Bp, 0, none⟩), .pointer (some ⟨Bs, 0, none⟩), .pointer (some ⟨Bv, 0, none⟩)] (fun x : List UInt8 => #[.string (bS x)]) (fun p => p = ⟨Bs, 0, none⟩) (Kept3 Bp Bs Bv) MaxL
      (fun pre x => pre ++ [x] <+: pcs L) (fun xs => xs = pcs L) (fun _ => True) w := by
  intro l J Jx W hb hst hZ hY h0
  have hIW : It3 Bp Bs Bv L W := hI.kept ⟨hb.block Bp hb1, hb.block Bs hb2, hb.block Bv hb3⟩
  have HST := hide hst
  have HZ := hide hZ
  have HY := hide hY
  clear hst hZ hY hI hb hb1 hb2 hb3
  have J0 := hide h0
  clear h0
  obtain ⟨⟨c1, c2, c3⟩, f2⟩ := hIW.cells
  have HIW := hide hIW
  refine callsIn_of_wp Tryz.func178 rfl trivial ?_ rfl
  simp only [Tryz.ntmps178, List.size_toArray, List.length_cons, List.length_nil, Nat.reduceAdd, Nat.reduceSub, Array.replicate_succ, Array.replicate_zero, List.push_toArray, List.append_toArray, List.nil_append, List.cons_append]
  gi_wp2
  gi_loopw [7] (fun u7 wr => ∃ (pre : List (List UInt8)) (r : List UInt8) (m : Nat), J pre wr ∧ It3 Bp Bs Bv r wr ∧ Hid (pre ++ splN r 44 m = pcs L) ∧ r.length ≤ m ∧ r.length ≤ L.length) (fun u7 wr => leftIn Bs wr)
  case atStart => exact ⟨[], L, L.length + 20, J0.out, HIW.out, hide rfl, by omega, Nat.le_refl _⟩
  case round =>
    obtain ⟨pre, r, m, hJ, hI3, HP, hm, hrl⟩ := hrel
    clear hIW c1 c2 c3 f2 J0 HIW
    obtain ⟨⟨c1, c2, c3⟩, f2⟩ := hI3.cells
    have HX := hide (index_any r wr (by omega) (HZ.out _ _ hJ))
    have HJ := hide hJ
    have HI3 := hide hI3
    have SZ := bS_size r
    clear hJ hI3
    rcases split_at r 44 with hno | ⟨a, b, rfl, ha⟩
    · rw [index_no hno] at HX
      have hl := hide (pcs_last HP.out hno)
      obtain ⟨fn, tmps, assign, body, hy, hR⟩ := HY.out pre r wr HJ.out ⟨[], by simpa using hl.out⟩
      clear hno HP hm
      gi_wp2
      refine ⟨trivial, (fun h => by cases h), (callsIn_wide.2 HX.out).mono ?_⟩
      rintro e w' ⟨rfl, rfl⟩
      gi_wp2
      refine ⟨(fun h => by cases h), hR.mono ?_⟩
      rintro e W3 (⟨rfl, hJ3, hk3⟩ | ⟨rfl, hJx3⟩)
      · gi_wp2
        go_end0
        exact ⟨⟨_, rfl⟩, .inl ⟨_, hl.out, hJ3⟩⟩
      · gi_wp2
        go_end0
        exact ⟨⟨_, rfl⟩, .inr ⟨_, trivial, hJx3⟩⟩
    · rw [index_at ha] at HX
      have EX := ext_two (a := a) (b := b)
      obtain ⟨hp2, hm2⟩ := pcs_step HP.out ha hm
      have HP2 := hide hp2
      have pf : pre ++ [a] <+: pcs L := ⟨_, hp2⟩
      obtain ⟨fn, tmps, assign, body, hy, hR⟩ := HY.out pre a wr HJ.out pf
      have LI := hide (leftIn_of c2)
      have rl2 : (a ++ 44 :: b).length = a.length + (b.length + 1) := by simp
      obtain ⟨T, hT⟩ : ∃ T, T = (a ++ 44 :: b).length := ⟨_, rfl⟩
      rw [← hT] at hrl SZ EX LI rl2 hm
      have lb : b.length < T := by omega
      have lb2 := hide lb
      generalize hi : a.length = i at *
      have q4 : (i : Int) ≤ (T : Int) := by omega
      have q5 : (i : Int) + 1 ≤ (T : Int) := by omega
      have q6 : ((i : Int) + 1).toNat = i + 1 := by omega
      have q7 : -9223372036854775808 ≤ (i : Int) ∧ (i : Int) ≤ 9223372036854775807 := by omega
      have q8 : -9223372036854775808 ≤ (i : Int) + 1 ∧ (i : Int) + 1 ≤ 9223372036854775807 := by omega
      have q1 : decide ((i : Int) < 0) = false := (by first | omega | (simp; done) | (simp; omega))
      have q2 : wrap64 (i : Int) = i := IntWalk.wrap64_in _ q7
      have q3 : wrap64 ((i : Int) + 1) = (i : Int) + 1 := IntWalk.wrap64_in _ q8
      clear q7 q8 rl2
      obtain ⟨x1, x2⟩ := EX
      clear ha HP hm hp2 pf hT hi lb
      generalize hS : bS (a ++ 44 :: b) = S at *
      have HS := hide hS
      clear hS
      gi_wp2
      refine ⟨trivial, (fun h => by cases h), (callsIn_wide.2 HX.out).mono ?_⟩
      rintro e w' ⟨rfl, rfl⟩
      gi_wp2
      refine ⟨(fun h => by cases h), hR.mono ?_⟩
      rintro e W3 (⟨rfl, hJ3, hk3⟩ | ⟨rfl, hJx3⟩)
      · have I3 := hide (HI3.out.kept hk3)
        have J3 := hide (HST.out _ _ _ (.string (bS b)) rfl hJ3)
        have SET := hide (I3.out.set h1 h2 b)
        clear c1 c2 c3 f2 hJ3 hk3
        obtain ⟨⟨c1, c2, c3⟩, f2⟩ := I3.out.cells
        rw [HS.out] at c2
        gi_wp2
        go_roundw
        case rel => exact ⟨pre ++ [a], b, m - 1, J3.out, SET.out, HP2, hm2, by have := lb2.out; omega⟩
        case measure => rw [leftIn_of SET.out.cells.1.2.1, LI.out]; exact lb2.out
      · gi_wp2
        refine bodyPost_ret (results_none rfl _ _ _) rfl ?_
        exact ⟨⟨_, rfl⟩, .inr ⟨_, trivial, hJx3⟩⟩
end Go.Proofs.YtnddfdhfefconaaGreatDoor
namespace Go.Proofs.YtnddfdhfefconaaGreatDoor
open Go.RowKit

theorem parT_pw {k : Nat} (hk : k ≤ 12) (l : List UInt8) : -207000000000000 ≤ parT l k ∧ parT l k ≤ 207000000000000 := by
  have h := parT_bd l k
  have hp : (10 : Int) ^ k ≤ 10 ^ 12 := by
    have := Nat.pow_le_pow_right (show 0 < 10 by omega) hk
    exact_mod_cast this
  have h0 : (0 : Int) < 10 ^ k := Int.pow_pos (by omega)
  omega
theorem bS_at {l : List UInt8} {i : Nat} (h : i < l.length) (h' : i < (bS l).size) : (bS l)[i] = l.getD i 0 := by
  have := bS_get h
  rw [Array.getElem?_eq_getElem (show i < (bS l).data.size from h')] at this
  injection this
theorem min12 {i n : Nat} (h : ¬ (i < n ∧ i < 12)) (hi : i ≤ n) (hi2 : i ≤ 12) : i = min 12 n := by omega
set_option maxHeartbeats 2000000 in
theorem parse_any (l : List UInt8) (w : World) (hl : l.length ≤ 2000000) : Calls Tryz.prog 109 #[.string (bS l)] w fun e w' => e = .returned (.int .i64 (parI l)) ∧ ∃ x, w' = ext w x := by
  have SZ := bS_size l
  by_cases hs : l.head? = some 45
  · have h0 : 0 < l.length := by cases l with | nil => simp at hs | cons a r => simp
    have hP : Hid (parI l = -1 * parT (l.drop 1) (min 12 (l.drop 1).length)) := hide (by unfold parI; rw [if_pos hs]; omega)
    have h0' : 0 < (bS l).size := by omega
    have G0 := bS_at h0 h0'
    have d0 : (((bS l)[0].toNat : Int) == 45) = true := by
      rw [G0]
      cases l with
      | nil => simp at hs
      | cons a r => simp at hs; subst hs; rfl
    have EX : (bS l).extract 1 l.length = bS (l.drop 1) := by
      rw [bS_ext, List.take_of_length_le (by rw [List.length_drop]; exact Nat.le_refl _)]
    have SZ2 : (bS (l.drop 1)).size = l.length - 1 := by rw [bS_size, List.length_drop]
    have GI := hide (fun (i : Nat) (h : i < l.length - 1) (h' : i < (bS (l.drop 1)).size) => bS_at (l := l.drop 1) (by rw [List.length_drop]; exact h) h')
    have ML : (l.drop 1).length = l.length - 1 := List.length_drop
    rw [ML] at hP
    clear hs G0 ML
    generalize l.drop 1 = m at *
    go_enter Tryz.func109, Tryz.ntmps109
    go_wp2
    go_loopw [4, 5] (fun u4 u5 wr => ∃ i : Nat, i ≤ l.length - 1 ∧ i ≤ 12 ∧ u4 = .int .i64 (parT m i) ∧ u5 = .int .i64 i ∧ ∃ x, wr = ext w x) (fun _ u5 _ => 13 - (intOf u5).toNat)
    case atStart => exact ⟨0, Nat.zero_le _, Nat.zero_le _, by go_num, by go_num, ext_same _⟩
    case round =>
      obtain ⟨i, hi, hi2, rfl, rfl, x, rfl⟩ := hrel
      by_cases hc : i < l.length - 1 ∧ i < 12
      · obtain ⟨ha, hb⟩ := hc
        have h' : i < (bS m).size := by omega
        have G := GI.out i ha h'
        have pt := parT_pw hi2 m
        have bt : (m.getD i 0).toNat < 256 := UInt8.toNat_lt _
        have NX : Hid (parT m (i + 1) = 10 * parT m i + ((m.getD i 0).toNat : Int) - 48) := rfl
        rw [← G] at bt NX
        have k1 : IntKind.i64.wrap (10 * parT m i) = 10 * parT m i := IntWalk.i64_in _ (by omega)
        have k2 : IntKind.i64.wrap (10 * parT m i + ((bS m)[i].toNat : Int)) = 10 * parT m i + ((bS m)[i].toNat : Int) := IntWalk.i64_in _ (by omega)
        have k3 : IntKind.i64.wrap (10 * parT m i + ((bS m)[i].toNat : Int) - 48) = 10 * parT m i + ((bS m)[i].toNat : Int) - 48 := IntWalk.i64_in _ (by omega)
        have k4 : IntKind.i64.wrap ((bS m)[i].toNat : Int) = ((bS m)[i].toNat : Int) := IntWalk.i64_in _ (by omega)
        clear G
        go_wp2
        exact ⟨⟨i + 1, by omega, by omega, by rw [NX.out], by go_num, (ext_mk (by (repeat' (first | (with_reducible first | exact Below.refl _ _ | assumption | refine below_ext _ ?_ ?_ | refine Below.alloc ?_ ?_ _ | refine Below.drew ?_ | refine below_drewN ?_ _ | refine le_drewN _ ?_ | refine Below.setCell ?_ ?_ _ | exact Nat.le_refl _ | refine le_ext _ ?_ | refine le_alloc _ ?_ | refine le_setCell _ _ ?_ | refine le_drew ?_) | omega | (simp; done) | (simp; omega)))))⟩, by simp [intOf]; omega⟩
      · have ei := min12 hc hi hi2
        have HV : Hid (-1 * parT m i = parI l) := hide (by rw [hP.out, ei])
        have pt := parT_pw hi2 m
        have k1 : IntKind.i64.wrap (-1 * parT m i) = -1 * parT m i := IntWalk.i64_in _ (by omega)
        rcases Nat.lt_or_ge i (l.length - 1) with hh | hh
        · have e12 : ¬ i < 12 := fun e => hc ⟨hh, e⟩
          clear hc ei
          go_wp2
          go_ret
          exact ⟨ret_int (by rw [← HV.out]; omega), (ext_mk (by (repeat' (first | (with_reducible first | exact Below.refl _ _ | assumption | refine below_ext _ ?_ ?_ | refine Below.alloc ?_ ?_ _ | refine Below.drew ?_ | refine below_drewN ?_ _ | refine le_drewN _ ?_ | refine Below.setCell ?_ ?_ _ | exact Nat.le_refl _ | refine le_ext _ ?_ | refine le_alloc _ ?_ | refine le_setCell _ _ ?_ | refine le_drew ?_) | omega | (simp; done) | (simp; omega)))))⟩
        · have el : ¬ i < l.length - 1 := by omega
          clear hc ei
          go_wp2
          go_ret
          exact ⟨ret_int (by rw [← HV.out]; omega), (ext_mk (by (repeat' (first | (with_reducible first | exact Below.refl _ _ | assumption | refine below_ext _ ?_ ?_ | refine Below.alloc ?_ ?_ _ | refine Below.drew ?_ | refine below_drewN ?_ _ | refine le_drewN _ ?_ | refine Below.setCell ?_ ?_ _ | exact Nat.le_refl _ | refine le_ext _ ?_ | refine le_alloc _ ?_ | refine le_setCell _ _ ?_ | refine le_drew ?_) | omega | (simp; done) | (simp; omega)))))⟩
  · have hP : Hid (parI l = parT l (min 12 l.length)) := hide (by unfold parI; rw [if_neg hs])
    have GI := hide (fun (i : Nat) (h : i < l.length) (h' : i < (bS l).size) => bS_at (l := l) h h')
    have key : ∀ (K : Prop), ((l.length = 0) → K) → ((h0 : 0 < (bS l).size) → (((bS l)[0].toNat : Int) == 45) = false → K) → K := fun K ka kb => by
      rcases Nat.eq_zero_or_pos l.length with e | e
      · exact ka e
      · refine kb (by omega) ?_
        rw [bS_at e (by omega), beq_eq_false_iff_ne]
        intro hh
        apply hs
        cases l with
        | nil => simp at e
        | cons a r =>
          have : a.toNat = 45 := by have h2 : ((a.toNat : Nat) : Int) = 45 := hh; omega
          simp
          exact UInt8.toNat_inj.1 this
    clear hs
    refine key _ (fun he => ?_) (fun h0 d0 => ?_)
    all_goals
      clear key
      go_enter Tryz.func109, Tryz.ntmps109
      go_wp2
      go_loopw [4, 5] (fun u4 u5 wr => ∃ i : Nat, i ≤ l.length ∧ i ≤ 12 ∧ u4 = .int .i64 (parT l i) ∧ u5 = .int .i64 i ∧ ∃ x, wr = ext w x) (fun _ u5 _ => 13 - (intOf u5).toNat)
      case atStart => exact ⟨0, Nat.zero_le _, Nat.zero_le _, by go_num, by go_num, ext_same _⟩
      case round =>
        obtain ⟨i, hi, hi2, rfl, rfl, x, rfl⟩ := hrel
        by_cases hc : i < l.length ∧ i < 12
        · obtain ⟨ha, hb⟩ := hc
          have h' : i < (bS l).size := by omega
          have G := GI.out i ha h'
          have pt := parT_pw hi2 l
          have bt : (l.getD i 0).toNat < 256 := UInt8.toNat_lt _
          have NX : Hid (parT l (i + 1) = 10 * parT l i + ((l.getD i 0).toNat : Int) - 48) := rfl
          rw [← G] at bt NX
          have k1 : IntKind.i64.wrap (10 * parT l i) = 10 * parT l i := IntWalk.i64_in _ (by omega)
          have k2 : IntKind.i64.wrap (10 * parT l i + ((bS l)[i].toNat : Int)) = 10 * parT l i + ((bS l)[i].toNat : Int) := IntWalk.i64_in _ (by omega)
          have k3 : IntKind.i64.wrap (10 * parT l i + ((bS l)[i].toNat : Int) - 48) = 10 * parT l i + ((bS l)[i].toNat : Int) - 48 := IntWalk.i64_in _ (by omega)
          have k4 : IntKind.i64.wrap ((bS l)[i].toNat : Int) = ((bS l)[i].toNat : Int) := IntWalk.i64_in _ (by omega)
          clear G
          go_wp2
          all_goals exact ⟨⟨i + 1, by omega, by omega, by rw [NX.out], by go_num, (ext_mk (by (repeat' (first | (with_reducible first | exact Below.refl _ _ | assumption | refine below_ext _ ?_ ?_ | refine Below.alloc ?_ ?_ _ | refine Below.drew ?_ | refine below_drewN ?_ _ | refine le_drewN _ ?_ | refine Below.setCell ?_ ?_ _ | exact Nat.le_refl _ | refine le_ext _ ?_ | refine le_alloc _ ?_ | refine le_setCell _ _ ?_ | refine le_drew ?_) | omega | (simp; done) | (simp; omega)))))⟩, by simp [intOf]; omega⟩
        · have ei := min12 hc hi hi2
          have HV : Hid (1 * parT l i = parI l) := hide (by rw [hP.out, ei, Int.one_mul])
          have pt := parT_pw hi2 l
          have k1 : IntKind.i64.wrap (1 * parT l i) = 1 * parT l i := IntWalk.i64_in _ (by omega)
          rcases Nat.lt_or_ge i l.length with hh | hh
          · have e12 : ¬ i < 12 := fun e => hc ⟨hh, e⟩
            clear hc ei
            go_wp2
            all_goals go_ret
            all_goals exact ⟨ret_int (by rw [← HV.out]; omega), (ext_mk (by (repeat' (first | (with_reducible first | exact Below.refl _ _ | assumption | refine below_ext _ ?_ ?_ | refine Below.alloc ?_ ?_ _ | refine Below.drew ?_ | refine below_drewN ?_ _ | refine le_drewN _ ?_ | refine Below.setCell ?_ ?_ _ | exact Nat.le_refl _ | refine le_ext _ ?_ | refine le_alloc _ ?_ | refine le_setCell _ _ ?_ | refine le_drew ?_) | omega | (simp; done) | (simp; omega)))))⟩
          · have el : ¬ i < l.length := by omega
            clear hc ei
            go_wp2
            all_goals go_ret
            all_goals exact ⟨ret_int (by rw [← HV.out]; omega), (ext_mk (by (repeat' (first | (with_reducible first | exact Below.refl _ _ | assumption | refine below_ext _ ?_ ?_ | refine Below.alloc ?_ ?_ _ | refine Below.drew ?_ | refine below_drewN ?_ _ | refine le_drewN _ ?_ | refine Below.setCell ?_ ?_ _ | exact Nat.le_refl _ | refine le_ext _ ?_ | refine le_alloc _ ?_ | refine le_setCell _ _ ?_ | refine le_drew ?_) | omega | (simp; done) | (simp; omega)))))⟩
theorem splN_1 (l : List UInt8) (c : UInt8) : splN l c 1 = if (Lib.cut l [c]).2.2 = true then [(Lib.cut l [c]).1, (Lib.cut l [c]).2.1] else [(Lib.cut l [c]).1] := by
  rcases split_at l c with h | ⟨a, b, rfl, ha⟩
  · rw [splN_no h, cut_no h]; rfl
  · rw [splN_at ha, cut_at ha]; rfl
theorem cut_len (l : List UInt8) (c : UInt8) : (Lib.cut l [c]).1.length ≤ l.length ∧ (Lib.cut l [c]).2.1.length ≤ l.length := by
  rcases split_at l c with h | ⟨a, b, rfl, ha⟩
  · rw [cut_no h]; simp
  · rw [cut_at ha]; simp; omega
theorem box2Y {w : World} {g : Nat} {x y : Value} {T : TypeId} (h : w.heap[g]? = some (.cells #[x, y] T (0, 0))) (a : Value) : (w.setCell ⟨g, 1, none⟩ a).heap[g]? = some (.cells #[x, a] T (0, 0)) := by
  simp [World.setCell, Array.getElem?_modify, h]
theorem box2X {w : World} {g : Nat} {x y : Value} {T : TypeId} (h : w.heap[g]? = some (.cells #[x, y] T (0, 0))) (a : Value) : (w.setCell ⟨g, 0, none⟩ a).heap[g]? = some (.cells #[a, y] T (0, 0)) := by
  simp [World.setCell, Array.getElem?_modify, h]
theorem bS_ne (a b : List UInt8) : ((bS a).toList == (bS b).toList) = decide (a = b) := by
  rw [ByteArray.toList_eq, ByteArray.toList_eq, bS_list, bS_list]
  by_cases h : a = b
  · subst h; simp
  · rw [decide_eq_false h]; simpa using h
end Go.Proofs.YtnddfdhfefconaaGreatDoor
namespace Go.Proofs.YtnddfdhfefconaaGreatDoor
open Go.RowKit Go.Shelf

set_option maxHeartbeats 1000000 in
theorem splitSeq_any (S T : ByteArray) (w : World) : Calls Tryz.prog 131 #[.string S, .string T, .int .i64 0] w fun e w' =>
    e = .returned (.func (.func 178) #[] #[.pointer (some ⟨w.heap.size + 1, 0, none⟩), .pointer (some ⟨w.heap.size, 0, none⟩), .pointer (some ⟨w.heap.size + 1 + 1, 0, none⟩)]) ∧
    w' = ((w.alloc (.cells #[.string S] 9)).alloc (.cells #[.string T] 9)).alloc (.cells #[.int .i64 0] 3) := by
  go_enter Tryz.func131, Tryz.ntmps131
  go_wp2
  go_ret
  exact ⟨by simp, rfl⟩
set_option maxHeartbeats 1000000 in
theorem seqOf_any (S T : ByteArray) (w : World) : Calls Tryz.prog 84 #[.string S, .string T] w fun e w' =>
    e = .returned (.func (.func 178) #[] #[.pointer (some ⟨w.heap.size + 1, 0, none⟩), .pointer (some ⟨w.heap.size, 0, none⟩), .pointer (some ⟨w.heap.size + 1 + 1, 0, none⟩)]) ∧
    w' = ((w.alloc (.cells #[.string S] 9)).alloc (.cells #[.string T] 9)).alloc (.cells #[.int .i64 0] 3) := by
  go_enter Tryz.func84, Tryz.ntmps84
  go_wp2_with (go_at_call 131; refine (splitSeq_any _ _ _).mono ?_; rintro e w' ⟨rfl, rfl⟩)
  go_ret
  exact ⟨rfl, rfl⟩
/-- What holds between two rounds of DecodePoints' loop. -/
def RI (w : World) (b : Nat) (pre : List (List UInt8)) (W : World) : Prop :=
  (∃ (out : List Pt) (v : Value), pre.map atO = out.map some ∧ Boxed W (b + 3) 23 v ∧ OwnP W b v out) ∧ (Boxed W b 23 (.slice none 0 0) ∧ Boxed W (b + 1) 4 (.bool false)) ∧
  ((∃ v, Boxed W (b + 4) 9 v) ∧ Boxed W (b + 5) 9 (.string ⟨#[44]⟩) ∧ Boxed W (b + 6) 3 (.int .i64 0)) ∧ Below b w W
def RX (w : World) (b : Nat) (l : List UInt8) (c : Code) (pre : List (List UInt8)) (W : World) : Prop :=
  c = .ret ∧ decL l = ([], false) ∧ (Boxed W b 23 (.slice none 0 0) ∧ Boxed W (b + 1) 4 (.bool false)) ∧ Below b w W
theorem ne_row {X : World} {row : Option Nat} {B : Nat} {t : TypeId} {u : Value} (h : Boxed X B t u) (hr : ∀ r, row = some r → ∃ o : Obj, X.heap[r]? = some o ∧ o.isCells = false) : some B ≠ row := fun e => by
  obtain ⟨o, ho, hc⟩ := hr B e.symm
  rw [show X.heap[B]? = _ from h] at ho
  injection ho with ho
  rw [← ho] at hc
  cases hc
theorem own_row {X : World} {row : Option Nat} {base : Nat} {v : Value} {ps : List Pt} (h : OwnP X base v ps) (hr : ∀ r, row = some r → ∃ o : Obj, X.heap[r]? = some o ∧ o.isCells = false) : v.ownBlock = none ∨ v.ownBlock ≠ row := by
  unfold OwnP at h
  rcases h.2 with ⟨rfl, _⟩ | ⟨g, cap, cur, rfl, _, hgb, _⟩
  · exact .inl rfl
  · refine .inr fun e' => ?_
    obtain ⟨o, ho, hc⟩ := hr g e'.symm
    rw [hgb] at ho
    injection ho with ho
    rw [← ho] at hc
    cases hc
theorem OwnP.kept {X Y : World} {row : Option Nat} {base : Nat} {v : Value} {ps : List Pt} (h : OwnP X base v ps) (hg : X.grownBy Y row) (hne : v.ownBlock = none ∨ v.ownBlock ≠ row) : OwnP Y base v ps := World.ownsRow.kept h hg hne
theorem RI.own {w : World} {b : Nat} (hb : w.heap.size = b) : OwnFrom (b + 7) (RI w b) := by
  rintro pre X Y row ⟨⟨out, v, ho, hv, hr⟩, ⟨h0, h1⟩, ⟨⟨v4, h4⟩, h5, h6⟩, hB⟩ hg hrow
  have hc := fun r e => (hrow r e).2
  refine ⟨⟨out, v, ho, hv.kept hg (ne_row hv hc), hr.kept hg (own_row hr hc)⟩, ⟨h0.kept hg (ne_row h0 hc), h1.kept hg (ne_row h1 hc)⟩, ⟨⟨v4, h4.kept hg (ne_row h4 hc)⟩, h5.kept hg (ne_row h5 hc), h6.kept hg (ne_row h6 hc)⟩, hB.grown hg (by have := hB.size; omega) (fun k e => by have := (hrow k e).1; omega)⟩
theorem RX.own {w : World} {b : Nat} {l : List UInt8} (hb : w.heap.size = b) (c : Code) : OwnFrom (b + 7) (RX w b l c) := by
  rintro pre X Y row ⟨hcc, hd, ⟨h0, h1⟩, hB⟩ hg hrow
  have hc := fun r e => (hrow r e).2
  exact ⟨hcc, hd, ⟨h0.kept hg (ne_row h0 hc), h1.kept hg (ne_row h1 hc)⟩, hB.grown hg (by have := hB.size; omega) (fun k e => by have := (hrow k e).1; omega)⟩
theorem RI.set {w : World} {b : Nat} (hb : w.heap.size = b) {pre : List (List UInt8)} {X : World} (h : RI w b pre X) (v' : Value) : RI w b pre (X.setCell ⟨b + 4, 0, none⟩ v') := by
  obtain ⟨⟨out, v, ho, hv, hr⟩, ⟨h0, h1⟩, ⟨⟨v4, h4⟩, h5, h6⟩, hB⟩ := h
  have hg := grownBy_setCell' X (b + 4) v'
  have ne : ∀ {B : Nat}, B ≠ b + 4 → some B ≠ some (b + 4) := fun h e => h (by injection e)
  exact ⟨⟨out, v, ho, hv.kept hg (ne (by omega)), hr.kept hg (.inr (h4.not_row (by decide) hr).symm)⟩, ⟨h0.kept hg (ne (by omega)), h1.kept hg (ne (by omega))⟩, ⟨⟨v', h4.set v'⟩, h5.kept hg (ne (by omega)), h6.kept hg (ne (by omega))⟩, hB.setCell (p := ⟨b + 4, 0, none⟩) (by simp) _⟩
theorem RI.start {w : World} {b : Nat} (hb : w.heap.size = b) (l : List UInt8) {W7 : World} (hW7 : (((((((w.alloc (.cells #[.slice none 0 0] 23)).alloc (.cells #[.bool false] 4)).alloc (.cells #[] 41)).alloc (.cells #[.slice (some ⟨b + 2, 0, none⟩) 0 0] 23)).alloc (.cells #[.string (bS l)] 9)).alloc (.cells #[.string ⟨#[44]⟩] 9)).alloc (.cells #[.int .i64 0] 3)) = W7) : RI w b [] W7 ∧ It3 (b + 5) (b + 4) (b + 6) l W7 ∧ W7.heap.size = b + 7 := by
  subst hb hW7
  generalize hW0 : (w.alloc (.cells #[.slice none 0 0] 23)).alloc (.cells #[.bool false] 4) = W0
  have z0 : W0.heap.size = w.heap.size + 2 := by rw [← hW0, size_alloc, size_alloc]
  have a0 : Boxed W0 w.heap.size 23 (.slice none 0 0) := by rw [← hW0]; exact (Boxed.new _ _ _).alloc _
  have a1 : Boxed W0 (w.heap.size + 1) 4 (.bool false) := by rw [← hW0]; have := Boxed.new (w.alloc (.cells #[.slice none 0 0] 23)) 4 (.bool false); rwa [size_alloc] at this
  have B0 : Below w.heap.size w W0 := by rw [← hW0]; exact (by (repeat' (first | (with_reducible first | exact Below.refl _ _ | assumption | refine below_ext _ ?_ ?_ | refine Below.alloc ?_ ?_ _ | refine Below.drew ?_ | refine below_drewN ?_ _ | refine le_drewN _ ?_ | refine Below.setCell ?_ ?_ _ | exact Nat.le_refl _ | refine le_ext _ ?_ | refine le_alloc _ ?_ | refine le_setCell _ _ ?_ | refine le_drew ?_) | omega | (simp; done) | (simp; omega))))
  clear hW0
  have e2 := OwnP.empty W0 w.heap.size 0 (by omega) #[] rfl (by simp [maxLen])
  rw [z0] at e2
  generalize hW1 : W0.alloc (.cells #[] 41) = W1 at *
  have z1 : W1.heap.size = w.heap.size + 3 := by rw [← hW1, size_alloc, z0]
  have B1 : Below w.heap.size w W1 := by rw [← hW1]; exact B0.alloc (by omega) _
  have b0 : Boxed W1 w.heap.size 23 (.slice none 0 0) := by rw [← hW1]; exact a0.alloc _
  have b1 : Boxed W1 (w.heap.size + 1) 4 (.bool false) := by rw [← hW1]; exact a1.alloc _
  clear a0 a1 hW1 B0
  have c3 := Boxed.new W1 23 (.slice (some ⟨w.heap.size + 2, 0, none⟩) 0 0)
  rw [z1] at c3
  generalize hW2 : W1.alloc (.cells #[.slice (some ⟨w.heap.size + 2, 0, none⟩) 0 0] 23) = W2 at *
  have z2 : W2.heap.size = w.heap.size + 4 := by rw [← hW2, size_alloc, z1]
  have bel2 : Below W1.heap.size W1 W2 := by rw [← hW2]; exact (by (repeat' (first | (with_reducible first | exact Below.refl _ _ | assumption | refine below_ext _ ?_ ?_ | refine Below.alloc ?_ ?_ _ | refine Below.drew ?_ | refine below_drewN ?_ _ | refine le_drewN _ ?_ | refine Below.setCell ?_ ?_ _ | exact Nat.le_refl _ | refine le_ext _ ?_ | refine le_alloc _ ?_ | refine le_setCell _ _ ?_ | refine le_drew ?_) | omega | (simp; done) | (simp; omega))))
  have d0 : Boxed W2 w.heap.size 23 (.slice none 0 0) := by rw [← hW2]; exact b0.alloc _
  have d1 : Boxed W2 (w.heap.size + 1) 4 (.bool false) := by rw [← hW2]; exact b1.alloc _
  have o2 := e2.below bel2
  have B2 := B1.trans (bel2.mono (by omega))
  clear hW2 b0 b1 e2 B1 bel2
  have f4 := Boxed.new W2 9 (.string (bS l))
  have f5 := Boxed.new (W2.alloc (.cells #[.string (bS l)] 9)) 9 (.string ⟨#[44]⟩)
  have f6 := Boxed.new ((W2.alloc (.cells #[.string (bS l)] 9)).alloc (.cells #[.string ⟨#[44]⟩] 9)) 3 (.int .i64 0)
  simp only [size_alloc, z2] at f4 f5 f6
  have bel3 : Below W2.heap.size W2 (((W2.alloc (.cells #[.string (bS l)] 9)).alloc (.cells #[.string ⟨#[44]⟩] 9)).alloc (.cells #[.int .i64 0] 3)) := (by (repeat' (first | (with_reducible first | exact Below.refl _ _ | assumption | refine below_ext _ ?_ ?_ | refine Below.alloc ?_ ?_ _ | refine Below.drew ?_ | refine below_drewN ?_ _ | refine le_drewN _ ?_ | refine Below.setCell ?_ ?_ _ | exact Nat.le_refl _ | refine le_ext _ ?_ | refine le_alloc _ ?_ | refine le_setCell _ _ ?_ | refine le_drew ?_) | omega | (simp; done) | (simp; omega))))
  exact ⟨⟨⟨[], _, rfl, ((c3.alloc _).alloc _).alloc _, o2.below bel3⟩, ⟨((d0.alloc _).alloc _).alloc _, ((d1.alloc _).alloc _).alloc _⟩, ⟨⟨_, (f4.alloc _).alloc _⟩, f5.alloc _, f6⟩, B2.trans (bel3.mono (by omega))⟩, ⟨⟨_, f5.alloc _⟩, ⟨_, (f4.alloc _).alloc _⟩, ⟨_, f6⟩⟩, by simp only [size_alloc, z2]⟩
theorem two_new (W : World) (x y : Value) (t : TypeId) : ∀ (j : Nat) (u : Value), [x, y][j]? = some u → (W.alloc (.cells #[x, y] t)).cell? (Addr.add ⟨W.heap.size, 0, none⟩ j) = some u := fun j u h => by
  rw [add_plain, Nat.zero_add, heap_cell (heap_alloc_new W _) j]
  match j, h with
  | 0, h => simpa using h
  | 1, h => simpa using h
  | j + 2, h => simp at h
theorem keeps_of_below {W W' : World} (h : Below W.heap.size W W') (B : Nat) : KeepsFrom B W W' :=
  ⟨h.size, fun k o _ hk _ => (h.block k (Array.getElem?_eq_some_iff.1 hk).1).trans hk⟩
theorem bx_bel {W W' : World} {B : Nat} {t : TypeId} {v : Value} (h : Boxed W B t v) (hb : Below W.heap.size W W') : Boxed W' B t v := (hb.block B h.lt).trans h
/-- What a round owes where it goes on. -/
theorem RI.step {w W w3 w1 : World} {b N : Nat} (hb : w.heap.size = b) {pre : List (List UInt8)} {x : List UInt8} {out : List Pt} {v v' : Value} {p q : Int} {v4 : Value} {tmp : Obj} (ho : pre.map atO = out.map some) (hp : atO x = some ⟨p, q⟩)
    (hv : Boxed W (b + 3) 23 v) (hr : OwnP W b v out) (h0 : Boxed W b 23 (.slice none 0 0)) (h1 : Boxed W (b + 1) 4 (.bool false)) (h4 : Boxed W (b + 4) 9 v4) (h5 : Boxed W (b + 5) 9 (.string ⟨#[44]⟩)) (h6 : Boxed W (b + 6) 3 (.int .i64 0)) (hB : Below b w W)
    (h3 : Below W.heap.size W w3) (hown' : w1.ownsRow b 41 2 v' (out.length + 1) (ptVals out ++ [.int .i64 p, .int .i64 q])) (hgrow : (w3.alloc tmp).grownBy w1 v.ownBlock) :
    KeepsFrom N W (w1.setCell ⟨b + 3, 0, none⟩ v') ∧ Kept3 (b + 5) (b + 4) (b + 6) W (w1.setCell ⟨b + 3, 0, none⟩ v') ∧ RI w b (pre ++ [x]) (w1.setCell ⟨b + 3, 0, none⟩ v') := by
  have sz := hB.size
  have sz3 := h3.size
  have hr3 := hr.below h3
  obtain ⟨hv1, hv2, hr2, hk2, hb2⟩ := (bx_bel hv h3).appended (by decide) (show w3.ownsRow b 41 2 v out.length (ptVals out) from hr3) (by omega) (by omega) hown' hgrow
  have go : ∀ {B : Nat} {t : TypeId} {u : Value}, Boxed W B t u → t ≠ 41 → B ≠ b + 3 → Boxed (w1.setCell ⟨b + 3, 0, none⟩ v') B t u := fun {B t u} h ht hne => by
    have h3' := bx_bel h h3
    refine ((h3'.alloc tmp).kept hgrow (h3'.not_row ht (show w3.ownsRow b 41 2 v out.length (ptVals out) from hr3))).kept (grownBy_setCell' w1 (b + 3) v') (fun e => hne (by injection e))
  have g0 := go h0 (by decide) (by omega)
  have g1 := go h1 (by decide) (by omega)
  have g4 := go h4 (by decide) (by omega)
  have g5 := go h5 (by decide) (by omega)
  have g6 := go h6 (by decide) (by omega)
  refine ⟨(keeps_of_below h3 _).trans (hk2.from _), ⟨Eq.trans g5 (Eq.symm h5), Eq.trans g4 (Eq.symm h4), Eq.trans g6 (Eq.symm h6)⟩, ⟨⟨out ++ [⟨p, q⟩], v', ?_, hv2, ?_⟩, ⟨g0, g1⟩, ⟨⟨v4, g4⟩, g5, g6⟩, (hB.trans (h3.mono (by omega))).trans hb2⟩⟩
  · rw [List.map_append, List.map_append, ho, List.map_cons, List.map_nil, hp]; rfl
  · unfold OwnP
    rw [List.length_append, ptVals_app]
    exact hr2
/-- What a round owes where it leaves. -/
theorem RX.stop {w W w3 : World} {b N : Nat} (hb : w.heap.size = b) {l x : List UInt8} {pre : List (List UInt8)} (hd : decL l = ([], false)) (h0 : Boxed W b 23 (.slice none 0 0)) (h1 : Boxed W (b + 1) 4 (.bool false)) (hB : Below b w W) (h3 : Below W.heap.size W w3) :
    KeepsFrom N W ((w3.setCell ⟨b, 0, none⟩ (.slice none 0 0)).setCell ⟨b + 1, 0, none⟩ (.bool false)) ∧ RX w b l .ret (pre ++ [x]) ((w3.setCell ⟨b, 0, none⟩ (.slice none 0 0)).setCell ⟨b + 1, 0, none⟩ (.bool false)) := by
  have sz := hB.size
  have g0 := (bx_bel h0 h3).set (.slice none 0 0)
  have g1 := (bx_bel h1 h3).kept (grownBy_setCell' w3 b (.slice none 0 0)) (fun e => by injection e with e; omega)
  refine ⟨((keeps_of_below h3 _).trans ((KeepsOthers.setCell _ _ _).from _)).trans ((KeepsOthers.setCell _ _ _).from _), rfl, hd, ⟨g0.kept (grownBy_setCell' _ (b + 1) _) (fun e => by injection e with e; omega), g1.set _⟩, ((hB.trans (h3.mono (by omega))).setCell (p := ⟨b, 0, none⟩) (Nat.le_refl _) _).setCell (p := ⟨b + 1, 0, none⟩) (by simp) _⟩
attribute [local go_sem] Oper.semAt_some
set_option maxRecDepth 100000 in
set_option maxHeartbeats 4000000 in
theorem iDecL_any (l : List UInt8) (w : World) (hl : l.length ≤ 1048576) (ht : Tab w) (hE : Errs w) (hM : MaxL w) :
    Calls Tryz.prog 50 #[.string (bS l)] w fun e w' => ∃ A' n' c', e = .returned (.tuple #[.slice A' n' c', .bool (decL l).2]) ∧ (decL l).1.length = n' ∧ n' ≤ c' ∧ c' ≤ 9223372036854775807 ∧ PRow w' w.heap.size A' (decL l).1 ∧ ∃ x, w' = ext w x := by
  refine (callsIn_wide (n := 6)).1 ?_
  refine callsIn_of_wp_marks Tryz.func50 rfl trivial ?_ rfl
  simp only [Tryz.ntmps50, List.size_toArray, List.length_cons, List.length_nil, Nat.reduceAdd, Nat.reduceSub, Array.replicate_succ, Array.replicate_zero, List.push_toArray, List.append_toArray, List.nil_append, List.cons_append]
  gi_wp2
  refine ⟨trivial, (callsIn_wide.2 (seqOf_any _ _ _)).mono ?_⟩
  rintro e w' ⟨rfl, rfl⟩
  gi_wp2
  simp only [Nat.add_assoc, Nat.reduceAdd]
  generalize hW7 : World.alloc _ (.cells #[.int .i64 0] 3) = W7
  obtain ⟨R0, I0, z7⟩ := RI.start rfl l hW7
  clear hW7
  refine range_cells (by omega) (gf := 178) (lb := #[.pointer (some ⟨w.heap.size + 5, 0, none⟩), .pointer (some ⟨w.heap.size + 4, 0, none⟩), .pointer (some ⟨w.heap.size + 6, 0, none⟩)]) rfl (enters_of Tryz.func178 (by kernel_rfl) rfl)
    (split_it l (w.heap.size + 5) (w.heap.size + 4) (w.heap.size + 6) 5 W7 (by omega) (by omega) (by omega) I0 (by omega) (by omega) (by omega)) (fun p hp => by subst hp; show w.heap.size + 4 < _; omega) (fun h k => h.t k)
    (fun W l' o' hle => ⟨World.putObj_heap_other (by omega), World.putObj_heap_other (by omega), World.putObj_heap_other (by omega)⟩) (fun _ => rfl) (RI w w.heap.size) (RX w w.heap.size l) (by rw [z7]; exact RI.own rfl) (fun c => by rw [z7]; exact RX.own rfl c) (fun pre X p v hp h => by subst hp; exact RI.set rfl h v) (fun pre X h => hM.to h.2.2.2) R0
    (fun x => { tmps := #[.string (bS l), undef, .pointer (some ⟨w.heap.size, 0, none⟩), .pointer (some ⟨w.heap.size + 1, 0, none⟩), .pointer (some ⟨w.heap.size + 3, 0, none⟩), .string (bS x), undef, undef, undef, undef, undef, undef, undef, .slice (some ⟨w.heap.size + 2, 0, none⟩) 0 0, .string (bS l), .func (.func 178) #[] #[.pointer (some ⟨w.heap.size + 5, 0, none⟩), .pointer (some ⟨w.heap.size + 4, 0, none⟩), .pointer (some ⟨w.heap.size + 6, 0, none⟩)], .string (bS x), undef, undef, undef, undef, undef, undef, undef, undef, undef, undef, undef, undef, undef, undef, undef, undef, undef, undef, undef, undef, undef, undef, undef, undef, undef, undef, undef, undef, undef, undef, undef, undef, undef, undef], defers := [] }) ?assign ?body ?done ?stop
  case assign =>
    intro l' x W K hK
    gi_wp2
    exact hK
  case body =>
    rintro lr pre x W ⟨⟨out, v, ho, hv, hr⟩, ⟨h0, h1⟩, ⟨⟨v4, h4⟩, h5, h6⟩, hB⟩ hok
    have z6 := h6.lt
    have hx := hok.subset (show x ∈ pre ++ [x] by simp)
    have hxl : x.length ≤ l.length := splN_mem l 44 _ x hx
    have hol : out.length ≤ 1100000 := by
      have e1 := congrArg List.length ho
      rw [List.length_map, List.length_map] at e1
      have e2 := hok.length_le
      have e3 := pcs_len l
      simp at e2
      omega
    have CU := hide (show Calls Tryz.prog 85 #[.string (bS x), .string ⟨#[32]⟩] W fun e w' => e = .returned (.tuple #[.string (bS (Lib.cut x [32]).1), .string (bS (Lib.cut x [32]).2.1), .bool (Lib.cut x [32]).2.2]) ∧ ∃ y, w' = ext W y from cut_any x 32 W (by omega) (hM.to hB))
    have OK := hide (fun (m : List UInt8) (v : Int) (W : World) (h : m.length ≤ l.length) (h2 : Lib.atoiAll m = .ok v) => atoi_ok W (by omega) h2)
    have BAD := hide (fun (m : List UInt8) (W' : World) (hb : Below W.heap.size W W') (h : m.length ≤ l.length) (h2 : ∀ v, Lib.atoiAll m ≠ .ok v) => atoi_bad W' (by omega) h2 (hE.to (hB.trans (hb.mono hB.size))))
    have lens := cut_len x 32
    have A1 := hide (fun p q => @atO_ok x p q)
    have A2 := hide (@atO_n1 x)
    have A3 := hide (@atO_n2 x)
    have HBAD := hide (fun (h : atO x = none) => dI_bad hx h)
    obtain ⟨i0, hi, hz0, hz1, hz2⟩ := info_parts ptElt.inf
    have cv := hv.cell
    have c0 := h0.cell
    have f0 := h0.frozen
    have c1 := h1.cell
    have f1 := h1.frozen
    clear hx hok
    gi_wp2
    refine ⟨trivial, (CallsIn.inRound lr (callsIn_wide.2 CU.out)).mono ?_⟩
    rintro e w1 ⟨rfl, hx1⟩
    have B1 := hide (ext_bel hx1)
    clear hx1 CU
    generalize (Lib.cut x [32]).1 = la at *
    generalize (Lib.cut x [32]).2.1 = lb at *
    generalize (Lib.cut x [32]).2.2 = pb at *
    by_cases ha : ∃ v, Lib.atoiAll la = .ok v
    · obtain ⟨X, ha⟩ := ha
      gi_wp2
      refine ⟨trivial, (CallsIn.inRound lr (callsIn_wide.2 (OK.out la X w1 (by omega) ha))).mono ?_⟩
      rintro e w2 ⟨rfl, hx2⟩
      have B2 := hide (B1.out.trans ((ext_bel hx2).mono B1.out.size))
      clear hx2
      by_cases hb : ∃ v, Lib.atoiAll lb = .ok v
      · obtain ⟨Y, hb⟩ := hb
        have HA := A1.out X Y ha hb
        gi_wp2
        refine ⟨trivial, (CallsIn.inRound lr (callsIn_wide.2 (OK.out lb Y w2 (by omega) hb))).mono ?_⟩
        rintro e w3 ⟨rfl, hx3⟩
        have B3 := B2.out.trans ((ext_bel hx3).mono B2.out.size)
        have cv3 := (bx_bel hv B3).cell
        have hr3 := hr.below B3
        have z3 := B3.size
        have zB := hB.size
        have e1 : (out.length + 1) ≤ maxLen := by unfold maxLen; omega
        have e2 : (out.length + 1) * 16 ≤ 140737488355328 := by omega
        have e3 : w.heap.size ≤ (w3.alloc (.cells #[.int .i64 X, .int .i64 Y] 41)).heap.size := by rw [size_alloc]; omega
        have HR3 := hide hr3
        have HV := hide hv
        have HR := hide hr
        clear hx3 B1 B2 OK BAD A1 A2 A3 HBAD cv c0 f0 c1 f1 ha hb hr3 hv hr lens hxl hol z3 zB
        obtain ⟨A0, n0, c0, rfl⟩ := HR.out.slice
        gi_wp2_with (gi_at_builtin; refine wpListIn_append_own_at _ rfl (.tmp 39) (.tmp 43) 23 rfl w.heap.size 41 i0 _ 2 16 ptElt.und hi hz0 hz1 hz2 rfl (by decide) (.slice A0 n0 c0) out.length (ptVals out) rfl (World.ownsRow.kept HR3.out (World.grownBy_alloc w3 _ none) (by cases A0 <;> simp [Value.ownBlock])) ⟨w3.heap.size, 0, none⟩ 1 1 [.int .i64 X, .int .i64 Y] rfl rfl (two_new w3 _ _ _) (by simp [Value.oneCell']) e1 e2 e3 ?_; intro v' w4 hown' hgrow hnil hat; have HOWN := hide hown'; have HGR := hide hgrow; have b4 := (Boxed.kept (Boxed.alloc (bx_bel HV.out B3) _) hgrow ((bx_bel HV.out B3).not_row (by decide) (show w3.ownsRow w.heap.size 41 2 _ out.length (ptVals out) from HR3.out))); have c4 := b4.cell; have f4 := b4.frozen; obtain ⟨g', cap', rfl⟩ := ownsRow_succ hown'; clear hown' hgrow hnil hat)
        exact RI.step rfl ho HA HV.out HR.out h0 h1 h4 h5 h6 hB B3 HOWN.out HGR.out
      · have hb : ∀ v, Lib.atoiAll lb ≠ .ok v := fun v hv => hb ⟨v, hv⟩
        have HD := HBAD.out (A3.out hb)
        gi_wp2
        refine ⟨trivial, (CallsIn.inRound lr (callsIn_wide.2 (BAD.out lb w2 B2.out (by omega) hb))).mono ?_⟩
        rintro e w3 ⟨vb, Tb, Nb, rfl, hx3⟩
        have B3 := B2.out.trans ((ext_bel hx3).mono B2.out.size)
        have g0 := (bx_bel h0 B3).cell
        have k0 := (bx_bel h0 B3).frozen
        have g1 := (bx_bel h1 B3).cell
        have k1 := (bx_bel h1 B3).frozen
        clear hx3 B1 B2 OK BAD A1 A2 A3 HBAD cv c0 f0 c1 f1 ha hb
        gi_wp2
        exact RX.stop rfl HD h0 h1 hB B3
    · have ha : ∀ v, Lib.atoiAll la ≠ .ok v := fun v hv => ha ⟨v, hv⟩
      have HD := HBAD.out (A2.out ha)
      gi_wp2
      refine ⟨trivial, (CallsIn.inRound lr (callsIn_wide.2 (BAD.out la w1 B1.out (by omega) ha))).mono ?_⟩
      rintro e w2 ⟨vb, Tb, Nb, rfl, hx2⟩
      have B2 := hide (B1.out.trans ((ext_bel hx2).mono B1.out.size))
      clear hx2
      by_cases hb : ∃ v, Lib.atoiAll lb = .ok v
      · obtain ⟨Y, hb⟩ := hb
        gi_wp2
        refine ⟨trivial, (CallsIn.inRound lr (callsIn_wide.2 (OK.out lb Y w2 (by omega) hb))).mono ?_⟩
        rintro e w3 ⟨rfl, hx3⟩
        have B3 := B2.out.trans ((ext_bel hx3).mono B2.out.size)
        have g0 := (bx_bel h0 B3).cell
        have k0 := (bx_bel h0 B3).frozen
        have g1 := (bx_bel h1 B3).cell
        have k1 := (bx_bel h1 B3).frozen
        clear hx3 B1 B2 OK BAD A1 A2 A3 HBAD cv c0 f0 c1 f1 ha hb
        gi_wp2
        exact RX.stop rfl HD h0 h1 hB B3
      · have hb : ∀ v, Lib.atoiAll lb ≠ .ok v := fun v hv => hb ⟨v, hv⟩
        gi_wp2
        refine ⟨trivial, (CallsIn.inRound lr (callsIn_wide.2 (BAD.out lb w2 B2.out (by omega) hb))).mono ?_⟩
        rintro e w3 ⟨vc, Tc, Nc, rfl, hx3⟩
        have B3 := B2.out.trans ((ext_bel hx3).mono B2.out.size)
        have g0 := (bx_bel h0 B3).cell
        have k0 := (bx_bel h0 B3).frozen
        have g1 := (bx_bel h1 B3).cell
        have k1 := (bx_bel h1 B3).frozen
        clear hx3 B1 B2 OK BAD A1 A2 A3 HBAD cv c0 f0 c1 f1 ha hb
        gi_wp2
        exact RX.stop rfl HD h0 h1 hB B3
  case done =>
    rintro D xs W2 hD rfl ⟨⟨out, v, ho, hv, hr⟩, ⟨h0, h1⟩, _, hB⟩ hK
    rw [z7] at hD
    obtain ⟨A0, n0, c0, rfl⟩ := hr.slice
    have HDe := dI_ok ho
    obtain ⟨hn0, hc0, hm0, hs0⟩ := hr.pts
    have l0 : n0 ≤ 1100000 := by
      have e1 := congrArg List.length ho
      rw [List.length_map, List.length_map] at e1
      have e3 := pcs_len l
      omega
    have IE := hide (iEncL_any out A0 n0 c0 W2 hn0 (by omega) hs0 (ht.to hB))
    have EQ := bS_ne (encE out) l
    have cv := hv.cell
    have lD := (Array.getElem?_eq_some_iff.1 hK).1
    by_cases he : encE out = l
    · rw [decide_eq_true he] at EQ
      rw [if_pos he] at HDe
      clear he ho
      generalize bS (encE out) = S at *
      gi_wp2
      refine ⟨trivial, (callsIn_wide.2 IE.out).mono ?_⟩
      rintro e w3 ⟨rfl, hx⟩
      have B3 := ext_bel hx
      have v3 := bx_bel hv B3
      have g0 := bx_bel h0 B3
      have g1 := bx_bel h1 B3
      have cv3 := v3.cell
      have k0 := g0.cell
      have k1 := g1.cell
      have j0 := g0.frozen
      have j1 := g1.frozen
      have hK3 := (B3.block D lD).trans hK
      have CL := hide (clipP_any A0 n0 c0 w3 hc0 (by unfold maxLen at hm0; omega) hr.form.1)
      clear hx cv
      gi_wp2
      refine ⟨trivial, (callsIn_wide.2 CL.out).mono ?_⟩
      rintro e w4 ⟨rfl, rfl⟩
      have n0' : ∀ B : Nat, B ≠ w.heap.size → some B ≠ some w.heap.size := fun B h e => h (by injection e)
      have n1' : ∀ B : Nat, B ≠ w.heap.size + 1 → some B ≠ some (w.heap.size + 1) := fun B h e => h (by injection e)
      have z0 := (g0.set (.slice A0 n0 n0)).kept (grownBy_setCell' _ (w.heap.size + 1) (.bool true)) (n1' _ (by omega))
      have z1 := (g1.kept (grownBy_setCell' _ w.heap.size (.slice A0 n0 n0)) (n0' _ (by omega))).set (.bool true)
      have hr3 := hr.below B3
      have hr4 := hr3.kept (grownBy_setCell' _ w.heap.size (.slice A0 n0 n0)) (.inr (g0.not_row (by decide) hr3).symm)
      have hr5 := hr4.kept (grownBy_setCell' _ (w.heap.size + 1) (.bool true)) (.inr ((g1.kept (grownBy_setCell' _ w.heap.size (.slice A0 n0 n0)) (n0' _ (by omega))).not_row (by decide) hr4).symm)
      have hK5 := ((Below.heap_setCell (w3.setCell ⟨w.heap.size, 0, none⟩ (.slice A0 n0 n0)) ⟨w.heap.size + 1, 0, none⟩ (.bool true) D (by show D ≠ w.heap.size + 1; omega)).trans (Below.heap_setCell w3 ⟨w.heap.size, 0, none⟩ (.slice A0 n0 n0) D (by show D ≠ w.heap.size; omega))).trans hK3
      have B5 := ((hB.trans (B3.mono hB.size)).setCell (p := ⟨w.heap.size, 0, none⟩) (Nat.le_refl _) (.slice A0 n0 n0)).setCell (p := ⟨w.heap.size + 1, 0, none⟩) (by simp) (.bool true)
      gi_wp2
      have nD : ∀ B : Nat, B ≠ D → some B ≠ some D := fun B h e => h (by injection e)
      have p0 := (z0.kept (grownBy_putObj' _ D (.deferred none)) (nD _ (by omega))).cell
      have p1 := (z1.kept (grownBy_putObj' _ D (.deferred none)) (nD _ (by omega))).cell
      have B6 := B5.grown (grownBy_putObj' _ D (.deferred none)) B5.size (fun k e => by injection e with e; omega)
      have r6 := hr5.kept (grownBy_putObj' _ D (.deferred none)) (own_row hr5 (fun r e => by injection e with e; subst e; exact ⟨_, hK5, rfl⟩))
      refine ⟨by simp, .inl ⟨_, _, rfl, run_takeDeferred hK5, ?_⟩⟩
      refine ⟨_, by simp [results, Tryz.results50, go_sem, p0, p1]; rfl, ?_⟩
      exact ⟨_, _, _, by rw [HDe], by rw [HDe]; exact hn0, Nat.le_refl _, by unfold maxLen at hm0; omega, by rw [HDe]; exact r6.prow.2, ext_mk B6⟩
    · rw [decide_eq_false he] at EQ
      rw [if_neg he] at HDe
      clear he ho
      generalize bS (encE out) = S at *
      gi_wp2
      refine ⟨trivial, (callsIn_wide.2 IE.out).mono ?_⟩
      rintro e w3 ⟨rfl, hx⟩
      have B3 := ext_bel hx
      have g0 := bx_bel h0 B3
      have g1 := bx_bel h1 B3
      have k0 := g0.cell
      have k1 := g1.cell
      have j0 := g0.frozen
      have j1 := g1.frozen
      have hK3 := (B3.block D lD).trans hK
      clear hx cv
      have n0' : ∀ B : Nat, B ≠ w.heap.size → some B ≠ some w.heap.size := fun B h e => h (by injection e)
      have n1' : ∀ B : Nat, B ≠ w.heap.size + 1 → some B ≠ some (w.heap.size + 1) := fun B h e => h (by injection e)
      have z0 := (g0.set (.slice none 0 0)).kept (grownBy_setCell' _ (w.heap.size + 1) (.bool false)) (n1' _ (by omega))
      have z1 := (g1.kept (grownBy_setCell' _ w.heap.size (.slice none 0 0)) (n0' _ (by omega))).set (.bool false)
      have hK5 := ((Below.heap_setCell (w3.setCell ⟨w.heap.size, 0, none⟩ (.slice none 0 0)) ⟨w.heap.size + 1, 0, none⟩ (.bool false) D (by show D ≠ w.heap.size + 1; omega)).trans (Below.heap_setCell w3 ⟨w.heap.size, 0, none⟩ (.slice none 0 0) D (by show D ≠ w.heap.size; omega))).trans hK3
      have B5 := ((hB.trans (B3.mono hB.size)).setCell (p := ⟨w.heap.size, 0, none⟩) (Nat.le_refl _) (.slice none 0 0)).setCell (p := ⟨w.heap.size + 1, 0, none⟩) (by simp) (.bool false)
      have hr5 := True.intro
      gi_wp2
      have nD : ∀ B : Nat, B ≠ D → some B ≠ some D := fun B h e => h (by injection e)
      have p0 := (z0.kept (grownBy_putObj' _ D (.deferred none)) (nD _ (by omega))).cell
      have p1 := (z1.kept (grownBy_putObj' _ D (.deferred none)) (nD _ (by omega))).cell
      have B6 := B5.grown (grownBy_putObj' _ D (.deferred none)) B5.size (fun k e => by injection e with e; omega)
      refine ⟨by simp, .inl ⟨_, _, rfl, run_takeDeferred hK5, ?_⟩⟩
      refine ⟨_, by simp [results, Tryz.results50, go_sem, p0, p1]; rfl, ?_⟩
      exact ⟨_, _, _, by rw [HDe], by rw [HDe]; rfl, Nat.le_refl _, by omega, by rw [HDe]; exact PRow.nil _ _ _, ext_mk B6⟩
  case stop =>
    rintro D c pre W2 hD _ ⟨rfl, HDe, ⟨z0, z1⟩, B5⟩ hK5
    rw [z7] at hD
    gi_wp2
    have nD : ∀ B : Nat, B ≠ D → some B ≠ some D := fun B h e => h (by injection e)
    have p0 := (z0.kept (grownBy_putObj' _ D (.deferred none)) (nD _ (by omega))).cell
    have p1 := (z1.kept (grownBy_putObj' _ D (.deferred none)) (nD _ (by omega))).cell
    have B6 := B5.grown (grownBy_putObj' _ D (.deferred none)) B5.size (fun k e => by injection e with e; omega)
    refine ⟨by simp, .inl ⟨_, _, rfl, run_takeDeferred hK5, ?_⟩⟩
    refine ⟨_, by simp [results, Tryz.results50, go_sem, p0, p1]; rfl, ?_⟩
    exact ⟨_, _, _, by rw [HDe], by rw [HDe]; rfl, Nat.le_refl _, by omega, by rw [HDe]; exact PRow.nil _ _ _, ext_mk B6⟩
end Go.Proofs.YtnddfdhfefconaaGreatDoor
namespace Go.Proofs.YtnddfdhfefconaaGreatDoor
open Go.RowKit

theorem strs_grown {w w' : World} {row : Option Nat} {b o : Nat} {ss : List (List UInt8)} (hb : b < w.heap.size) (hg : w.grownBy w' row) (hne : row ≠ some b)
    (h : ∀ i, i < ss.length → w.cell? ⟨b, o + i, none⟩ = some (.string (bS (gstr ss i)))) : ∀ i, i < ss.length → w'.cell? ⟨b, o + i, none⟩ = some (.string (bS (gstr ss i))) := fun i hi => by
  rw [World.cell?_of_block (a := ⟨b, o + i, none⟩) (hg.block b hb (fun e => hne e.symm))]
  exact h i hi
theorem strs_below {w w' : World} {B b o : Nat} {ss : List (List UInt8)} (hb : b < B) (hg : Below B w w')
    (h : ∀ i, i < ss.length → w.cell? ⟨b, o + i, none⟩ = some (.string (bS (gstr ss i)))) : ∀ i, i < ss.length → w'.cell? ⟨b, o + i, none⟩ = some (.string (bS (gstr ss i))) := fun i hi =>
  (hg.cell (p := ⟨b, o + i, none⟩) hb).trans (h i hi)
theorem rdL_take {ss : List (List UInt8)} {k : Nat} (hk : k < ss.length) : (ss.take (k + 1)).map rdP = (ss.take k).map rdP ++ [rdP (gstr ss k)] := by
  rw [List.take_succ_eq_append_getElem hk, List.map_append, ← gstr_lt hk]; rfl
theorem rdP_yes {m : List UInt8} (h : (Lib.cut m [32]).2.2 = true) : rdP m = ⟨parI (Lib.cut m [32]).1, parI (Lib.cut m [32]).2.1⟩ := by unfold rdP; rw [if_pos h]
theorem rdP_no {m : List UInt8} (h : ¬ (Lib.cut m [32]).2.2 = true) : rdP m = ⟨parI (Lib.cut m [32]).1, 0⟩ := by unfold rdP; rw [if_neg h]
set_option maxHeartbeats 4000000 in
theorem sParse_any (l : List UInt8) (w : World) (hl : l.length ≤ 2000000) :
    Calls Tryz.prog 58 #[.string (bS l)] w fun e w' => ∃ v, e = .returned v ∧ OwnP w' w.heap.size v (rdL l) ∧ ∃ x, w' = ext w x := by
  have SP := hide (fun (W : World) => (show Calls Tryz.prog 32 #[.string (bS l), .int .u8 44, .int .i64 20] W fun e w' => ∃ v, e = .returned v ∧ OwnS w' W.heap.size v (splN l 44 20) ∧ ∃ x, w' = ext W x from split_any l 44 20 W hl (by omega)))
  have SQ := hide (fun (m : List UInt8) (W : World) (hm : m.length ≤ l.length) => (show Calls Tryz.prog 32 #[.string (bS m), .int .u8 32, .int .i64 1] W fun e w' => ∃ v, e = .returned v ∧ OwnS w' W.heap.size v (splN m 32 1) ∧ ∃ x, w' = ext W x from split_any m 32 1 W (by omega) (by omega)))
  have PA := hide (fun (m : List UInt8) (W : World) (h : m.length ≤ l.length) => parse_any m W (by omega))
  have LEN := hide (splN_mem l 44 20)
  have NE := hide (splN_ne l 44 20)
  have L21 := splN_len l 44 20
  unfold rdL
  generalize splN l 44 20 = pcz at *
  have E0 := hide (OwnP.empty w w.heap.size 0 (Nat.le_refl _) #[] rfl (by simp [maxLen]))
  go_enter Tryz.func58, Tryz.ntmps58
  go_wp2_with fail
  refine (SP.out _).mono ?_
  rintro e w1 ⟨v1, rfl, hown, hx⟩
  obtain ⟨A1, n1, c1, rfl⟩ := hown.slice
  obtain ⟨hn1, hc1, _, hs1⟩ := hown.strs
  obtain ⟨b, o, rfl, hb, hcs⟩ := hs1 NE.out
  have hbo := (World.ownsRow.lt hown b rfl).1
  have D1 := ext_bel hx
  have B1 := hide (((by (repeat' (first | (with_reducible first | exact Below.refl _ _ | assumption | refine below_ext _ ?_ ?_ | refine Below.alloc ?_ ?_ _ | refine Below.drew ?_ | refine below_drewN ?_ _ | refine le_drewN _ ?_ | refine Below.setCell ?_ ?_ _ | exact Nat.le_refl _ | refine le_ext _ ?_ | refine le_alloc _ ?_ | refine le_setCell _ _ ?_ | refine le_drew ?_) | omega | (simp; done) | (simp; omega)))) : Below w.heap.size w (w.alloc (.cells #[] 41))).trans (D1.mono (by first | omega | (simp; done) | (simp; omega))))
  have O1 := hide (E0.out.below D1)
  have HCS := hide hcs
  have hbn : Hid (some w.heap.size ≠ some b) := hide (fun e => by injection e with e; rw [size_alloc] at hbo; omega)
  have hbl := hide hb
  clear hx hown hs1 hbo D1 SP E0 hcs hb
  go_wp2_with fail
  go_loopw [3, 5] (fun u3 u5 wr => ∃ (k : Nat), k ≤ n1 ∧ u5 = .int .i64 k ∧ OwnP wr w.heap.size u3 ((pcz.take k).map rdP) ∧ Hid (∀ i, i < pcz.length → wr.cell? ⟨b, o + i, none⟩ = some (.string (bS (gstr pcz i)))) ∧ Hid (u3.ownBlock ≠ some b) ∧ Hid (b < wr.heap.size) ∧ Below w.heap.size w wr) (fun _ u5 _ => n1 - (intOf u5).toNat)
  case atStart => exact ⟨0, Nat.zero_le _, rfl, O1.out, HCS, hbn, hbl, B1.out⟩
  case round =>
    obtain ⟨k, hk, rfl, hown, HC, HB, HL, hbel⟩ := hrel
    obtain ⟨A0, n0, c0, rfl⟩ := hown.slice
    have OWN := hide hown
    have BEL := hide hbel
    have hsz := hbel.size
    clear hown hbel
    by_cases hlt : k < n1
    · have ck := HC.out k (by omega)
      have TK := hide (rdL_take (ss := pcz) (k := k) (by omega))
      have hmlen := LEN.out (gstr pcz k) (gstr_mem (by omega))
      have NL : ((pcz.take k).map rdP).length ≤ 2000000 := by rw [List.length_map, List.length_take]; omega
      generalize gstr pcz k = m at *
      have e1 := splN_1 m 32
      have lens := cut_len m 32
      go_wp2_with fail
      refine (SQ.out _ _ hmlen).mono ?_
      rintro e w2 ⟨v2, rfl, hown, hx⟩
      obtain ⟨A2, n2, c2, rfl⟩ := hown.slice
      obtain ⟨hn2, hc2, _, hs2⟩ := hown.strs
      have B2 := hide (ext_bel hx)
      have z2 := B2.out.size
      rw [e1] at hn2 hs2
      clear hown hx e1 ck
      by_cases hp : (Lib.cut m [32]).2.2 = true
      · rw [if_pos hp] at hn2 hs2
        have RD := hide (rdP_yes hp)
        have en : n2 = 2 := by rw [← hn2]; rfl
        subst en
        obtain ⟨b2, o2, rfl, hb2, hcs2⟩ := hs2 (by simp)
        have cs0 : w2.cell? ⟨b2, o2, none⟩ = some (.string (bS (Lib.cut m [32]).1)) := hcs2 0 (by simp)
        have cs1 : w2.cell? ⟨b2, o2 + 1, none⟩ = some (.string (bS (Lib.cut m [32]).2.1)) := hcs2 1 (by simp)
        clear hcs2 hn2 hp hs2
        generalize (Lib.cut m [32]).1 = la at *
        generalize (Lib.cut m [32]).2.1 = lb at *
        go_wp2_with fail
        refine (PA.out _ _ (by omega)).mono ?_
        rintro e w3 ⟨rfl, hx⟩
        have B3 := hide (B2.out.trans ((ext_bel hx).mono B2.out.size))
        have cs2 := ((ext_bel hx).cell (p := ⟨b2, o2 + 1, none⟩) hb2).trans cs1
        have hb3 := Nat.lt_of_lt_of_le hb2 (ext_bel hx).size
        have z3 := B3.out.size
        clear hx cs0 cs1 z2
        generalize parI la = X at *
        go_wp2_with fail
        refine (PA.out _ _ (by omega)).mono ?_
        rintro e w4 ⟨rfl, hx⟩
        have K4 := hide (blk_keep (heap_alloc_new w3 (.cells #[.int .i64 X, .int .i64 0] 41)) (ext_bel hx))
        have B4 := hide ((B3.out.alloc B3.out.size (.cells #[.int .i64 X, .int .i64 0] 41)).trans ((ext_bel hx).mono (by first | omega | (simp; done) | (simp; omega))))
        have l4 := heap_lt K4.out
        have k41 : _ = some (Value.int .i64 0) := heap_cell K4.out 1
        have k42 := heap_frozen K4.out 1
        clear hx cs2
        generalize parI lb = Y at *
        have K5 := hide (box2Y K4.out (.int .i64 Y))
        have BZ : Hid (Below wr.heap.size wr (w4.setCell ⟨w3.heap.size, 1, none⟩ (.int .i64 Y))) := hide (B4.out.setCell (by simp; omega) _)
        have z5 : (w4.setCell ⟨w3.heap.size, 1, none⟩ (.int .i64 Y)).heap.size = w4.heap.size := by simp
        have k50 : _ = some (Value.int .i64 X) := heap_cell K5.out 0
        have k51 : _ = some (Value.int .i64 Y) := heap_cell K5.out 1
        go_wp2_with (at_builtin; refine app_pt rfl _ _ rfl w.heap.size (.slice A0 n0 c0) ((pcz.take k).map rdP) rfl (OWN.out.below (BZ.out.alloc BZ.out.size _)) X Y _ _ rfl (by simp [go_sem]) (by simp [go_sem]) NL (by simp; omega) ?_; intro v' w' hown' hb' hat hgr; have HB9 := hide hb'; have HAT := hide hat; have HGR := hide hgr; clear hat hgr hb'; obtain ⟨A9, n9, c9, rfl⟩ := hown'.slice; have O9 := hide hown'; clear hown')
        have hz := BZ.out.size
        have BF := hide ((BEL.out.trans ((BZ.out.alloc BZ.out.size _).mono BEL.out.size)).trans HB9.out)
        exact ⟨⟨k + 1, by omega, by go_num, by rw [TK.out, RD.out]; exact O9.out, hide (strs_grown (by simp; have := HL.out; omega) HGR.out HB.out (strs_below HL.out (BZ.out.alloc BZ.out.size _) HC.out)), hide (by
          rcases HAT.out with h | h
          · rw [h]; exact HB.out
          · rw [h]; intro e; injection e with e; rw [size_alloc] at e; have := HL.out; omega), hide (by have h1 := HGR.out.size; have h2 := HL.out; have h3 := BZ.out.size; simp at h1 h3; omega), BF.out⟩, by simp [intOf]; omega⟩
      · rw [if_neg hp] at hn2 hs2
        have RD := hide (rdP_no hp)
        have en : n2 = 1 := by rw [← hn2]; rfl
        subst en
        obtain ⟨b2, o2, rfl, hb2, hcs2⟩ := hs2 (by simp)
        have cs0 : w2.cell? ⟨b2, o2, none⟩ = some (.string (bS (Lib.cut m [32]).1)) := hcs2 0 (by simp)
        clear hcs2 hn2 hp hs2
        generalize (Lib.cut m [32]).1 = la at *
        generalize (Lib.cut m [32]).2.1 = lb at *
        go_wp2_with fail
        refine (PA.out _ _ (by omega)).mono ?_
        rintro e w3 ⟨rfl, hx⟩
        have B3 := hide (B2.out.trans ((ext_bel hx).mono B2.out.size))
        have z3 := B3.out.size
        clear hx cs0 z2
        generalize parI la = X at *
        have K5 := hide (heap_alloc_new w3 (.cells #[.int .i64 X, .int .i64 0] 41))
        have BZ : Hid (Below wr.heap.size wr (w3.alloc (.cells #[.int .i64 X, .int .i64 0] 41))) := hide (B3.out.alloc B3.out.size _)
        have k50 : _ = some (Value.int .i64 X) := heap_cell K5.out 0
        have k51 : _ = some (Value.int .i64 0) := heap_cell K5.out 1
        have z5 : (w3.alloc (.cells #[.int .i64 X, .int .i64 0] 41)).heap.size = w3.heap.size + 1 := by simp
        go_wp2_with (at_builtin; refine app_pt rfl _ _ rfl w.heap.size (.slice A0 n0 c0) ((pcz.take k).map rdP) rfl (OWN.out.below (BZ.out.alloc BZ.out.size _)) X 0 _ _ rfl (by simp [go_sem]) (by simp [go_sem]) NL (by simp; omega) ?_; intro v' w' hown' hb' hat hgr; have HB9 := hide hb'; have HAT := hide hat; have HGR := hide hgr; clear hat hgr hb'; obtain ⟨A9, n9, c9, rfl⟩ := hown'.slice; have O9 := hide hown'; clear hown')
        have hz := BZ.out.size
        have BF := hide ((BEL.out.trans ((BZ.out.alloc BZ.out.size _).mono BEL.out.size)).trans HB9.out)
        exact ⟨⟨k + 1, by omega, by go_num, by rw [TK.out, RD.out]; exact O9.out, hide (strs_grown (by simp; have := HL.out; omega) HGR.out HB.out (strs_below HL.out (BZ.out.alloc BZ.out.size _) HC.out)), hide (by
          rcases HAT.out with h | h
          · rw [h]; exact HB.out
          · rw [h]; intro e; injection e with e; rw [size_alloc] at e; have := HL.out; omega), hide (by have h1 := HGR.out.size; have h2 := HL.out; have h3 := BZ.out.size; simp at h1 h3; omega), BF.out⟩, by simp [intOf]; omega⟩
    · have e0 : pcz.take k = pcz := List.take_of_length_le (by omega)
      have OWN1 : Hid (OwnP wr w.heap.size (.slice A0 n0 c0) (pcz.map rdP)) := hide (by have := OWN.out; rw [e0] at this; exact this)
      clear e0 OWN
      go_wp2
      go_ret
      exact ⟨_, rfl, OWN1.out, ext_mk BEL.out⟩
set_option maxHeartbeats 4000000 in
theorem sDecL_any (l : List UInt8) (w : World) (hl : l.length ≤ 2000000) :
    Calls Tryz.prog 33 #[.string (bS l)] w fun e w' => ∃ v, e = .returned (.tuple #[v, .bool (decL l).2]) ∧ OwnP w' w.heap.size v (decL l).1 ∧ ∃ x, w' = ext w x := by
  have SP := hide (fun W => sParse_any l W hl)
  have len := rdL_ne l
  have l21 : (rdL l).length ≤ 21 := by unfold rdL; rw [List.length_map]; exact splN_len l 44 20
  have EQ := bS_ne (encL (rdL l)) l
  have VP := hide (fun (A : Option Addr) (n c : Nat) (W : World) hn hm hs => validPoints_any (rdL l) A n c W hn hm hs)
  by_cases hv : listOk (rdL l) = true
  · have FR := hide (fun (A : Option Addr) (n c : Nat) (W : World) hn hs => fmtL_any (rdL l) A n c W hn hv hs)
    rw [hv] at VP
    by_cases he : encL (rdL l) = l
    · rw [dS_yes ⟨hv, he⟩]
      rw [decide_eq_true he] at EQ
      clear hv he len
      generalize bS (encL (rdL l)) = S at *
      generalize rdL l = R at *
      go_enter Tryz.func33, Tryz.ntmps33
      go_wp2_with fail
      refine (SP.out _).mono ?_
      rintro e w1 ⟨v1, rfl, hown, hx⟩
      obtain ⟨A1, n1, c1, rfl⟩ := hown.slice
      obtain ⟨hn1, hc1, _, hs1⟩ := hown.pts
      have B1 := hide (ext_bel hx)
      have O1 := hide hown
      clear hx hown
      go_wp2_with fail
      refine (VP.out _ _ _ _ hn1 (by omega) hs1).mono ?_
      rintro e w' ⟨rfl, hw'⟩; have hzy1 := ext_sz hw'; obtain ⟨y1, rfl⟩ := hw'; (try simp at hzy1)
      go_wp2_with ((go_at_call 26; refine (FR.out _ _ _ _ hn1 (hs1.to (by (repeat' (first | (with_reducible first | exact Below.refl _ _ | assumption | refine below_ext _ ?_ ?_ | refine Below.alloc ?_ ?_ _ | refine Below.drew ?_ | refine below_drewN ?_ _ | refine le_drewN _ ?_ | refine Below.setCell ?_ ?_ _ | exact Nat.le_refl _ | refine le_ext _ ?_ | refine le_alloc _ ?_ | refine le_setCell _ _ ?_ | refine le_drew ?_) | omega | (simp; done) | (simp; omega)))))).mono ?_; rintro e w' ⟨rfl, hw'⟩; have hzy2 := ext_sz hw'; obtain ⟨y2, rfl⟩ := hw'; (try simp at hzy2)))
      go_ret2
      exact ⟨_, rfl, O1.out.below (by (repeat' (first | (with_reducible first | exact Below.refl _ _ | assumption | refine below_ext _ ?_ ?_ | refine Below.alloc ?_ ?_ _ | refine Below.drew ?_ | refine below_drewN ?_ _ | refine le_drewN _ ?_ | refine Below.setCell ?_ ?_ _ | exact Nat.le_refl _ | refine le_ext _ ?_ | refine le_alloc _ ?_ | refine le_setCell _ _ ?_ | refine le_drew ?_) | omega | (simp; done) | (simp; omega)))), ext_mk (B1.out.trans (Below.mono (show Below w1.heap.size w1 _ from (by (repeat' (first | (with_reducible first | exact Below.refl _ _ | assumption | refine below_ext _ ?_ ?_ | refine Below.alloc ?_ ?_ _ | refine Below.drew ?_ | refine below_drewN ?_ _ | refine le_drewN _ ?_ | refine Below.setCell ?_ ?_ _ | exact Nat.le_refl _ | refine le_ext _ ?_ | refine le_alloc _ ?_ | refine le_setCell _ _ ?_ | refine le_drew ?_) | omega | (simp; done) | (simp; omega))))) B1.out.size))⟩
    · rw [dS_no (fun h => he h.2)]
      rw [decide_eq_false he] at EQ
      clear hv he len
      generalize bS (encL (rdL l)) = S at *
      generalize rdL l = R at *
      go_enter Tryz.func33, Tryz.ntmps33
      go_wp2_with fail
      refine (SP.out _).mono ?_
      rintro e w1 ⟨v1, rfl, hown, hx⟩
      obtain ⟨A1, n1, c1, rfl⟩ := hown.slice
      obtain ⟨hn1, hc1, _, hs1⟩ := hown.pts
      have B1 := hide (ext_bel hx)
      have O1 := hide hown
      clear hx hown
      go_wp2_with fail
      refine (VP.out _ _ _ _ hn1 (by omega) hs1).mono ?_
      rintro e w' ⟨rfl, hw'⟩; have hzy1 := ext_sz hw'; obtain ⟨y1, rfl⟩ := hw'; (try simp at hzy1)
      go_wp2_with ((go_at_call 26; refine (FR.out _ _ _ _ hn1 (hs1.to (by (repeat' (first | (with_reducible first | exact Below.refl _ _ | assumption | refine below_ext _ ?_ ?_ | refine Below.alloc ?_ ?_ _ | refine Below.drew ?_ | refine below_drewN ?_ _ | refine le_drewN _ ?_ | refine Below.setCell ?_ ?_ _ | exact Nat.le_refl _ | refine le_ext _ ?_ | refine le_alloc _ ?_ | refine le_setCell _ _ ?_ | refine le_drew ?_) | omega | (simp; done) | (simp; omega)))))).mono ?_; rintro e w' ⟨rfl, hw'⟩; have hzy2 := ext_sz hw'; obtain ⟨y2, rfl⟩ := hw'; (try simp at hzy2)))
      go_ret2
      exact ⟨_, rfl, OwnP.nil _ _, ext_mk (B1.out.trans (Below.mono (show Below w1.heap.size w1 _ from (by (repeat' (first | (with_reducible first | exact Below.refl _ _ | assumption | refine below_ext _ ?_ ?_ | refine Below.alloc ?_ ?_ _ | refine Below.drew ?_ | refine below_drewN ?_ _ | refine le_drewN _ ?_ | refine Below.setCell ?_ ?_ _ | exact Nat.le_refl _ | refine le_ext _ ?_ | refine le_alloc _ ?_ | refine le_setCell _ _ ?_ | refine le_drew ?_) | omega | (simp; done) | (simp; omega))))) B1.out.size))⟩
  · rw [eq_false_of_ne_true hv] at VP
    rw [dS_no (fun h => hv h.1)]
    clear hv len EQ
    generalize rdL l = R at *
    go_enter Tryz.func33, Tryz.ntmps33
    go_wp2_with fail
    refine (SP.out _).mono ?_
    rintro e w1 ⟨v1, rfl, hown, hx⟩
    obtain ⟨A1, n1, c1, rfl⟩ := hown.slice
    obtain ⟨hn1, hc1, _, hs1⟩ := hown.pts
    have B1 := hide (ext_bel hx)
    have O1 := hide hown
    clear hx hown
    go_wp2_with fail
    refine (VP.out _ _ _ _ hn1 (by omega) hs1).mono ?_
    rintro e w' ⟨rfl, hw'⟩; have hzy1 := ext_sz hw'; obtain ⟨y1, rfl⟩ := hw'; (try simp at hzy1)
    go_wp2_with fail
    go_ret2
    exact ⟨_, rfl, OwnP.nil _ _, ext_mk (B1.out.trans (Below.mono (show Below w1.heap.size w1 _ from (by (repeat' (first | (with_reducible first | exact Below.refl _ _ | assumption | refine below_ext _ ?_ ?_ | refine Below.alloc ?_ ?_ _ | refine Below.drew ?_ | refine below_drewN ?_ _ | refine le_drewN _ ?_ | refine Below.setCell ?_ ?_ _ | exact Nat.le_refl _ | refine le_ext _ ?_ | refine le_alloc _ ?_ | refine le_setCell _ _ ?_ | refine le_drew ?_) | omega | (simp; done) | (simp; omega))))) B1.out.size))⟩
end Go.Proofs.YtnddfdhfefconaaGreatDoor
