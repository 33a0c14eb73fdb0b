/- Words for worlds: a world that is as another was below that one's own blocks; regions that draw their order, walked once, where callees make memory of their own. No program in sight. -/
import Derived.WalkKit
import Derived.WalkSpells
import Derived.WalkLawsBesides
import Derived.BigQuiet
import Derived.Handy
import Derived.Deep.LoopGhost
set_option linter.unusedVariables false
set_option linter.unusedSimpArgs false
namespace Go.Proofs.YtnddfdhfefconaaGreatDoor
open Go.RowKit

theorem hide {p : Prop} (h : p) : Hid p := h

/-- A world that is as w was below w's own blocks; w itself if x is no such one. -/
noncomputable def ext (w x : World) : World := @ite _ (Below w.heap.size w x) (Classical.propDecidable _) x w

theorem ext_below (w x : World) : Below w.heap.size w (ext w x) := by
  unfold ext; split
  · assumption
  · exact Below.refl _ _
theorem ext_of {w x : World} (h : Below w.heap.size w x) : ext w x = x := by unfold ext; rw [if_pos h]
theorem ext_size (w x : World) : w.heap.size ≤ (ext w x).heap.size := (ext_below w x).size
theorem ext_mk {w w' : World} (h : Below w.heap.size w w') : ∃ n, w' = ext w n := ⟨w', (ext_of h).symm⟩
theorem ext_same (w : World) : ∃ n, w = ext w n := ext_mk (Below.refl _ _)
theorem below_ext {B : Nat} {a w : World} (x : World) (h : Below B a w) (hB : B ≤ w.heap.size) : Below B a (ext w x) := h.trans ((ext_below w x).mono hB)
theorem le_ext {B : Nat} {w : World} (x : World) (h : B ≤ w.heap.size) : B ≤ (ext w x).heap.size := Nat.le_trans h (ext_size w x)
theorem le_alloc {B : Nat} {w : World} (o : Obj) (h : B ≤ w.heap.size) : B ≤ (w.alloc o).heap.size := by simp; omega
theorem lt_alloc {B : Nat} {w : World} (o : Obj) (h : B < w.heap.size + 1) : B < (w.alloc o).heap.size := by simpa using h
theorem le_setCell {B : Nat} {w : World} (p : Addr) (v : Value) (h : B ≤ w.heap.size) : B ≤ (w.setCell p v).heap.size := by simpa using h
theorem le_drew {B : Nat} {w : World} (h : B ≤ w.heap.size) : B ≤ w.drew.heap.size := h
theorem ext_ext (w x y : World) : ∃ n, ext (ext w x) y = ext w n := ext_mk (below_ext y (ext_below w x) (ext_size w x))

/-- 'if b < n then x else y', opened only when n has been reckoned. -/
def selLt {α : Type} (n b : Nat) (x y : α) : α := if b < n then x else y
def selEq {α : Type} (n b : Nat) (x y : α) : α := if b = n then x else y
@[go_sem] theorem selLt_open {α : Type} (n b : Nat) (x y : α) : selLt n b x y = if b < n then x else y := rfl
@[go_sem] theorem selEq_open {α : Type} (n b : Nat) (x y : α) : selEq n b x y = if b = n then x else y := rfl
noncomputable def cellElse (w x : World) (a : Addr) : Option Value := (ext w x).cell? a
noncomputable def frozenElse (w x : World) (a : Addr) : Bool := (ext w x).frozen? a
@[go_sem] theorem cell?_ext (w x : World) (b o : Nat) : (ext w x).cell? ⟨b, o, none⟩ = selLt w.heap.size b (w.cell? ⟨b, o, none⟩) (cellElse w x ⟨b, o, none⟩) := by
  unfold selLt; split
  · rename_i h; exact (ext_below w x).cell (p := ⟨b, o, none⟩) h
  · rfl
@[go_sem] theorem frozen?_ext (w x : World) (b o : Nat) : (ext w x).frozen? ⟨b, o, none⟩ = selLt w.heap.size b (w.frozen? ⟨b, o, none⟩) (frozenElse w x ⟨b, o, none⟩) := by
  unfold selLt; split
  · rename_i h; exact (ext_below w x).frozen (p := ⟨b, o, none⟩) h
  · rfl
@[go_sem] theorem cell?_alloc_ite (w : World) (c : Array Value) (t : TypeId) (b o : Nat) : (w.alloc (.cells c t)).cell? ⟨b, o, none⟩ = selLt w.heap.size b (w.cell? ⟨b, o, none⟩) (selEq w.heap.size b c[o]? none) := by
  unfold selLt selEq; split
  · rename_i h; exact World.cell?_alloc_lt w _ _ h
  · split
    · rename_i h; subst h; exact World.cell?_alloc_new w c t o
    · rename_i h1 h2
      have : (w.alloc (.cells c t)).heap[b]? = none := by
        rw [Array.getElem?_eq_none]; simp; omega
      simp [World.cell?, this]
@[go_sem] theorem frozen?_alloc_ite (w : World) (c : Array Value) (t : TypeId) (b o : Nat) : (w.alloc (.cells c t)).frozen? ⟨b, o, none⟩ = selLt w.heap.size b (w.frozen? ⟨b, o, none⟩) false := by
  unfold selLt; split
  · rename_i h; exact World.frozen?_alloc_past _ _ _ h
  · rename_i h
    by_cases h2 : b = w.heap.size
    · exact World.frozen?_alloc_at c t b o h2
    · have : (w.alloc (.cells c t)).heap[b]? = none := by
        rw [Array.getElem?_eq_none]; simp; omega
      simp [World.frozen?, this]
theorem ext_sz {w w' : World} (h : ∃ m, w' = ext w m) : w.heap.size ≤ w'.heap.size := by obtain ⟨m, rfl⟩ := h; exact ext_size w m
theorem drawn_below (w : World) : Below w.heap.size w { w with drawn := w.drawn + 1 } := ⟨rfl, rfl, rfl, Nat.le_refl _, fun _ _ => rfl⟩

/-- A region that draws its order, whose operations only read, and whose callees make memory of their own alone: one walk in the order of the text. -/
theorem wp_region_ext {P : Program} {id : Nat} {Q : Exit → Act → World → Prop} {a : Act} {w : World} {l : List Oper} (hm : P.follows .mixedOrders = true) (hB : Region.lexB .any l.toArray = true)
    (h : wpQuiet P l.toArray (fun w' => ∃ n, w' = ext w n) (fun a' => ∀ w', (∃ n, w' = ext w n) → Q .normal a' w') l a) : (Code.region id l.toArray true).wp P Q a w :=
  wp_region_quiet (C := fun w' => ∃ n, w' = ext w n) hm hB ⟨_, (ext_of (drawn_below w)).symm⟩ (by simpa using h)

/-- A callee's contract, met inside such a region. -/
theorem Calls.in_ext {P : Program} {f : FuncId} {args : Array Value} {w n : World} {v : Value}
    (h : Calls P f args (ext w n) fun e w' => e = .returned v ∧ ∃ m, w' = ext (ext w n) m) : Calls P f args (ext w n) fun e w'' => e = .returned v ∧ ∃ m, w'' = ext w m :=
  h.mono fun _ _ ⟨he, m, hm⟩ => ⟨he, by
    obtain ⟨k, hk⟩ := ext_ext w n m
    exact ⟨k, hm.trans hk⟩⟩

theorem mul_bd {a b M N : Int} (ha : -M ≤ a ∧ a ≤ M) (hb : -N ≤ b ∧ b ≤ N) : -(M * N) ≤ a * b ∧ a * b ≤ M * N := by
  have hM : 0 ≤ M := by omega
  have hN : 0 ≤ N := by omega
  have h1 : 0 ≤ (M - a) * (N - b) := Int.mul_nonneg (by omega) (by omega)
  have h2 : 0 ≤ (M + a) * (N + b) := Int.mul_nonneg (by omega) (by omega)
  have h3 : 0 ≤ (M - a) * (N + b) := Int.mul_nonneg (by omega) (by omega)
  have h4 : 0 ≤ (M + a) * (N - b) := Int.mul_nonneg (by omega) (by omega)
  simp only [Int.sub_mul, Int.add_mul, Int.mul_sub, Int.mul_add] at h1 h2 h3 h4
  constructor <;> omega
theorem ret_int {k : IntKind} {a b : Int} (h : a = b) : Ending.returned (.int k a) = .returned (.int k b) := by rw [h]
theorem ret_bool {a b : Bool} (h : a = b) : Ending.returned (.bool a) = .returned (.bool b) := by rw [h]

/-! ### points -/
structure Pt where
  x : Int
  y : Int
  deriving DecidableEq, Inhabited

def gp (ps : List Pt) (i : Nat) : Pt := ps.getD i default
def pX (ps : List Pt) (i : Nat) : Int := (gp ps i).x
def pY (ps : List Pt) (i : Nat) : Int := (gp ps i).y
theorem gp_lt {ps : List Pt} {i : Nat} (h : i < ps.length) : gp ps i = ps[i] := by unfold gp; rw [List.getD_eq_getElem?_getD, List.getElem?_eq_getElem h]; rfl
theorem gp_mem {ps : List Pt} {i : Nat} (h : i < ps.length) : gp ps i ∈ ps := by rw [gp_lt h]; exact List.getElem_mem h
theorem gp_of_mem {ps : List Pt} {p : Pt} (h : p ∈ ps) : ∃ i, i < ps.length ∧ gp ps i = p := by
  obtain ⟨i, hi, rfl⟩ := List.getElem_of_mem h
  exact ⟨i, hi, gp_lt hi⟩
theorem gp_mk (ps : List Pt) (i : Nat) : gp ps i = ⟨pX ps i, pY ps i⟩ := rfl

/-- The slice at A reads as these points, all of it below block B. -/
def PtsAt (w : World) (B : Nat) (A : Option Addr) (ps : List Pt) : Prop :=
  0 < ps.length → ∃ b o, A = some ⟨b, o, none⟩ ∧ b < B ∧ ∀ i, i < ps.length → w.cell? ⟨b, o + i * 2, none⟩ = some (.int .i64 (pX ps i)) ∧ w.cell? ⟨b, o + i * 2 + 1, none⟩ = some (.int .i64 (pY ps i))

theorem PtsAt.below {w w' : World} {B : Nat} {A : Option Addr} {ps : List Pt} (h : PtsAt w B A ps) (hb : Below B w w') : PtsAt w' B A ps := fun hn => by
  obtain ⟨b, o, hA, hB, hc⟩ := h hn
  exact ⟨b, o, hA, hB, fun i hi => ⟨(hb.cell (p := ⟨b, o + i * 2, none⟩) hB).trans (hc i hi).1, (hb.cell (p := ⟨b, o + i * 2 + 1, none⟩) hB).trans (hc i hi).2⟩⟩
theorem PtsAt.more {w : World} {B B' : Nat} {A : Option Addr} {ps : List Pt} (h : PtsAt w B A ps) (hB : B ≤ B') : PtsAt w B' A ps := fun hn => by
  obtain ⟨b, o, hA, hb, hc⟩ := h hn
  exact ⟨b, o, hA, by omega, hc⟩
theorem PtsAt.to {w W : World} {A : Option Addr} {ps : List Pt} (h : PtsAt w w.heap.size A ps) (hb : Below w.heap.size w W) : PtsAt W W.heap.size A ps := (h.below hb).more hb.size
theorem PtsAt.ext {w : World} {B : Nat} {A : Option Addr} {ps : List Pt} (h : PtsAt w B A ps) (hB : B ≤ w.heap.size) (x : World) : PtsAt (ext w x) B A ps := h.below ((ext_below w x).mono hB)
theorem PtsAt.alloc {w : World} {B : Nat} {A : Option Addr} {ps : List Pt} (h : PtsAt w B A ps) (hB : B ≤ w.heap.size) (o : Obj) : PtsAt (w.alloc o) B A ps := h.below ((Below.refl _ _).alloc hB o)

/-! ### a block of the call's own, known whole -/
/-- Block g is m cells of element type T, none frozen; cell j holds f j. -/
def RowAt (w : World) (g : Nat) (T : TypeId) (m : Nat) (f : Nat → Value) : Prop := ∃ cs : Array Value, w.heap[g]? = some (.cells cs T (0, 0)) ∧ cs.size = m ∧ ∀ j, j < m → cs[j]? = some (f j)

section
variable {w w' : World} {g : Nat} {T : TypeId} {m : Nat} {f : Nat → Value}
theorem RowAt.lt (h : RowAt w g T m f) : g < w.heap.size := by
  obtain ⟨cs, h, _⟩ := h
  exact (Array.getElem?_eq_some_iff.1 h).1
theorem RowAt.cell (h : RowAt w g T m f) {j : Nat} (hj : j < m) : w.cell? ⟨g, j, none⟩ = some (f j) := by
  obtain ⟨cs, h, _, hc⟩ := h
  simp [World.cell?, h, hc j hj]
theorem RowAt.frozen (h : RowAt w g T m f) (j : Nat) : w.frozen? ⟨g, j, none⟩ = false := by
  obtain ⟨cs, h, _⟩ := h
  simp [World.frozen?, h]
theorem RowAt.new (w : World) (cs : Array Value) (T : TypeId) (hf : ∀ j, j < cs.size → cs[j]? = some (f j)) : RowAt (w.alloc (.cells cs T)) w.heap.size T cs.size f := ⟨cs, heap_alloc_new w _, rfl, hf⟩
theorem RowAt.block (h : RowAt w g T m f) (hb : w'.heap[g]? = w.heap[g]?) : RowAt w' g T m f := by
  obtain ⟨cs, h, r⟩ := h
  exact ⟨cs, hb.trans h, r⟩
theorem RowAt.below {B : Nat} (h : RowAt w g T m f) (hb : Below B w w') (hg : g < B) : RowAt w' g T m f := h.block (hb.block g hg)
theorem RowAt.ext (h : RowAt w g T m f) (x : World) : RowAt (ext w x) g T m f := h.below (ext_below w x) h.lt
theorem RowAt.alloc (h : RowAt w g T m f) (o : Obj) : RowAt (w.alloc o) g T m f := h.block (Below.heap_alloc w o g h.lt)
theorem RowAt.far (h : RowAt w g T m f) {p : Addr} (hp : g ≠ p.block) (v : Value) : RowAt (w.setCell p v) g T m f := h.block (Below.heap_setCell w p v g hp)
theorem RowAt.set (h : RowAt w g T m f) {i : Nat} (hi : i < m) (v : Value) : RowAt (w.setCell ⟨g, i, none⟩ v) g T m (fun j => if j = i then v else f j) := by
  obtain ⟨cs, h, hs, hc⟩ := h
  refine ⟨cs.setIfInBounds i v, by simp [World.setCell, Array.getElem?_modify, h], by simpa using hs, fun j hj => ?_⟩
  by_cases hji : j = i
  · subst hji; simp [hs, hj]
  · rw [Array.getElem?_setIfInBounds_ne (by omega)]; simp only [if_neg hji]; exact hc j hj
theorem RowAt.congr (h : RowAt w g T m f) {f' : Nat → Value} (hf : ∀ j, j < m → f j = f' j) : RowAt w g T m f' := by
  obtain ⟨cs, h, hs, hc⟩ := h
  exact ⟨cs, h, hs, fun j hj => by rw [hc j hj, hf j hj]⟩
end

/-- What a block that holds points from its head on holds in cell j. -/
def ptCell (ps : List Pt) (j : Nat) : Value := .int .i64 (if j % 2 = 0 then pX ps (j / 2) else pY ps (j / 2))
theorem ptCell_even (ps : List Pt) (k : Nat) : ptCell ps (k * 2) = .int .i64 (pX ps k) := by
  unfold ptCell; rw [if_pos (by omega), show k * 2 / 2 = k from by omega]
theorem ptCell_odd (ps : List Pt) (k : Nat) : ptCell ps (k * 2 + 1) = .int .i64 (pY ps k) := by
  unfold ptCell; rw [if_neg (by omega), show (k * 2 + 1) / 2 = k from by omega]
theorem two_set {f : Nat → Value} {ps : List Pt} {k : Nat} (h : ∀ j, j < k * 2 → f j = ptCell ps j) (j : Nat) (hj : j < (k + 1) * 2) :
    (if j = k * 2 + 1 then Value.int .i64 (pY ps k) else if j = k * 2 then Value.int .i64 (pX ps k) else f j) = ptCell ps j := by
  by_cases h1 : j = k * 2 + 1
  · rw [if_pos h1, h1, ptCell_odd]
  · rw [if_neg h1]
    by_cases h2 : j = k * 2
    · rw [if_pos h2, h2, ptCell_even]
    · rw [if_neg h2]; exact h j (by omega)
/-- Points that lie in such a block. -/
theorem PtsAt.of_row {w : World} {g : Nat} {T : TypeId} {m : Nat} {ps : List Pt} {B : Nat} (h : RowAt w g T m (ptCell ps)) (hm : ps.length * 2 ≤ m) (hB : g < B) : PtsAt w B (some ⟨g, 0, none⟩) ps := fun _ =>
  ⟨g, 0, rfl, hB, fun i hi => by
    have h1 := h.cell (j := i * 2) (by omega)
    have h2 := h.cell (j := i * 2 + 1) (by omega)
    rw [Nat.zero_add, h1, h2]
    unfold ptCell
    rw [if_pos (by omega), if_neg (by omega), show i * 2 / 2 = i from by omega, show (i * 2 + 1) / 2 = i from by omega]
    exact ⟨rfl, rfl⟩⟩

/-! ### ints -/
def gi (zs : List Int) (i : Nat) : Int := zs.getD i 0
theorem gi_lt {zs : List Int} {i : Nat} (h : i < zs.length) : gi zs i = zs[i] := by unfold gi; rw [List.getD_eq_getElem?_getD, List.getElem?_eq_getElem h]; rfl
/-- The slice at A reads as these numbers, all of it below block B. -/
def IntsAt (w : World) (B : Nat) (A : Option Addr) (zs : List Int) : Prop :=
  0 < zs.length → ∃ b o, A = some ⟨b, o, none⟩ ∧ b < B ∧ ∀ i, i < zs.length → w.cell? ⟨b, o + i, none⟩ = some (.int .i64 (gi zs i))
theorem IntsAt.below {w w' : World} {B : Nat} {A : Option Addr} {zs : List Int} (h : IntsAt w B A zs) (hb : Below B w w') : IntsAt w' B A zs := fun hn => by
  obtain ⟨b, o, hA, hB, hc⟩ := h hn
  exact ⟨b, o, hA, hB, fun i hi => (hb.cell (p := ⟨b, o + i, none⟩) hB).trans (hc i hi)⟩
theorem IntsAt.more {w : World} {B B' : Nat} {A : Option Addr} {zs : List Int} (h : IntsAt w B A zs) (hB : B ≤ B') : IntsAt w B' A zs := fun hn => by
  obtain ⟨b, o, hA, hb, hc⟩ := h hn
  exact ⟨b, o, hA, by omega, hc⟩
theorem IntsAt.to {w W : World} {A : Option Addr} {zs : List Int} (h : IntsAt w w.heap.size A zs) (hb : Below w.heap.size w W) : IntsAt W W.heap.size A zs := (h.below hb).more hb.size
def intCell (zs : List Int) (j : Nat) : Value := .int .i64 (gi zs j)
theorem IntsAt.row {w : World} {g m : Nat} {T : TypeId} {zs : List Int} (h : RowAt w g T m (intCell zs)) (hm : zs.length ≤ m) : IntsAt w w.heap.size (some ⟨g, 0, none⟩) zs := fun _ =>
  ⟨g, 0, rfl, h.lt, fun i hi => by rw [Nat.zero_add]; exact h.cell (by omega)⟩
theorem PtsAt.row {w : World} {g n : Nat} {T : TypeId} {ps : List Pt} (h : RowAt w g T (n * 2) (ptCell ps)) (hn : ps.length = n) : PtsAt w w.heap.size (some ⟨g, 0, none⟩) ps := PtsAt.of_row h (by omega) h.lt
theorem gp_drop_take (ps : List Pt) (a m i : Nat) (hi : i < m) : gp ((ps.drop a).take m) i = gp ps (a + i) := by
  unfold gp; rw [List.getD_eq_getElem?_getD, List.getD_eq_getElem?_getD, List.getElem?_take, if_pos hi, List.getElem?_drop]
/-- A cut of a slice of points that is no cut at the capacity. -/
theorem PtsAt.cut {w : World} {B b o a m : Nat} {ps : List Pt} (h : PtsAt w B (some ⟨b, o, none⟩) ps) (hm : a + m ≤ ps.length) : PtsAt w B (some ⟨b, o + a * 2, none⟩) ((ps.drop a).take m) := fun hn => by
  have hl : ((ps.drop a).take m).length = m := by rw [List.length_take, List.length_drop]; omega
  obtain ⟨b', o', hA, hB, hc⟩ := h (by omega)
  injection hA with hA; injection hA with h1 h2 _
  subst h1 h2
  refine ⟨b, o + a * 2, rfl, hB, fun i hi => ?_⟩
  rw [hl] at hi
  unfold pX pY
  rw [gp_drop_take ps a m i hi]
  have := hc (a + i) (by omega)
  rw [show o + a * 2 + i * 2 = o + (a + i) * 2 from by omega]
  exact this
/-! ### blocks known whole; all but one block -/
theorem heap_lt {w : World} {g : Nat} {o : Obj} (h : w.heap[g]? = some o) : g < w.heap.size := (Array.getElem?_eq_some_iff.1 h).1
theorem heap_cell {w : World} {g : Nat} {cs : Array Value} {T : TypeId} (h : w.heap[g]? = some (.cells cs T (0, 0))) (j : Nat) : w.cell? ⟨g, j, none⟩ = cs[j]? := by simp [World.cell?, h]
theorem heap_frozen {w : World} {g : Nat} {cs : Array Value} {T : TypeId} (h : w.heap[g]? = some (.cells cs T (0, 0))) (j : Nat) : w.frozen? ⟨g, j, none⟩ = false := by simp [World.frozen?, h]
theorem size_alloc (w : World) (o : Obj) : (w.alloc o).heap.size = w.heap.size + 1 := by simp
theorem box_set2 {w : World} {g : Nat} {x y : Value} {T : TypeId} (h : w.heap[g]? = some (.cells #[x, y] T (0, 0))) (a b : Value) : ((w.setCell ⟨g, 0, none⟩ a).setCell ⟨g, 1, none⟩ b).heap[g]? = some (.cells #[a, b] T (0, 0)) := by
  simp [World.setCell, Array.getElem?_modify, h]
theorem cell_set1 {w : World} {g : Nat} {x : Value} {T : TypeId} (h : w.heap[g]? = some (.cells #[x] T (0, 0))) (a : Value) : (w.setCell ⟨g, 0, none⟩ a).heap[g]? = some (.cells #[a] T (0, 0)) := by
  simp [World.setCell, Array.getElem?_modify, h]
/-- w' is as w was but for the cells of block g. -/
structure But (w w' : World) (g : Nat) : Prop where
  os : w'.os = w.os
  tape : w'.tape = w.tape
  output : w'.output = w.output
  size : w'.heap.size = w.heap.size
  block : ∀ k, k ≠ g → w'.heap[k]? = w.heap[k]?
theorem But.refl (w : World) (g : Nat) : But w w g := ⟨rfl, rfl, rfl, rfl, fun _ _ => rfl⟩
theorem But.set {w w' : World} {g : Nat} (h : But w w' g) (j : Nat) (v : Value) : But w (w'.setCell ⟨g, j, none⟩ v) g :=
  ⟨h.os, h.tape, h.output, by simpa using h.size, fun k hk => (Below.heap_setCell w' _ _ k hk).trans (h.block k hk)⟩
theorem But.below {w w' : World} {g B : Nat} (h : But w w' g) (hB : B ≤ g) : Below B w w' :=
  ⟨h.os, h.tape, h.output, by rw [h.size]; exact Nat.le_refl _, fun k hk => h.block k (by omega)⟩
theorem RowAt.but {w w' : World} {g g' : Nat} {T : TypeId} {m : Nat} {f : Nat → Value} (h : RowAt w g T m f) (hb : But w w' g') (hne : g ≠ g') : RowAt w' g T m f := h.block (hb.block g hne)
theorem ext_bel {w w' : World} (h : ∃ x, w' = ext w x) : Below w.heap.size w w' := by obtain ⟨x, rfl⟩ := h; exact ext_below w x
theorem below_drewN {B : Nat} {a w : World} (h : Below B a w) (n : Nat) : Below B a (w.drewN n) := h.trans ⟨rfl, rfl, rfl, Nat.le_refl _, fun _ _ => rfl⟩
theorem le_drewN {B : Nat} {w : World} (n : Nat) (h : B ≤ w.heap.size) : B ≤ (w.drewN n).heap.size := h
end Go.Proofs.YtnddfdhfefconaaGreatDoor