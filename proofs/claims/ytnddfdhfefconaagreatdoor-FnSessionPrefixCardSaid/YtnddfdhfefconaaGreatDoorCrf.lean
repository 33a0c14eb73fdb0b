
/- Rows of rows of ints that a call owns. -/
/- All ascending lists of one, two, three indices: the reference's subsets. -/
/- EnclosingSupport of the reference; its answer to 'circle'. -/
import Derived.Test.YtnddfdhfefconaaGreatDoorApp
import Derived.Test.YtnddfdhfefconaaGreatDoorCre
set_option linter.unusedVariables false
set_option linter.unusedSimpArgs false
namespace Go.Proofs.YtnddfdhfefconaaGreatDoor
open Go.RowKit

/-- Slice v is a row of values of the call's own, at block base or later. -/
def OwnV (w : World) (base : Nat) (v : Value) (vs : List Value) : Prop := w.ownsRow base 63 1 v vs.length vs
theorem OwnV.below {w W : World} {base : Nat} {v : Value} {vs : List Value} (h : OwnV w base v vs) (hb : Below w.heap.size w W) : OwnV W base v vs := own_below h hb
theorem OwnV.base {w : World} {base base' : Nat} {v : Value} {vs : List Value} (h : OwnV w base v vs) (hb : base' ≤ base) : OwnV w base' v vs := own_base h hb
theorem OwnV.lt {w : World} {base : Nat} {v : Value} {vs : List Value} (h : OwnV w base v vs) : ∀ k, v.ownBlock = some k → base ≤ k := fun k hk => (World.ownsRow.lt h k hk).1
theorem OwnV.snoc {w : World} {base : Nat} {v : Value} {vs : List Value} {x : Value} (h : w.ownsRow base 63 1 v (vs.length + 1) (vs ++ [x])) : OwnV w base v (vs ++ [x]) := by
  unfold OwnV; rw [List.length_append]; exact h
theorem OwnV.slice {w : World} {base : Nat} {v : Value} {vs : List Value} (h : OwnV w base v vs) : ∃ A n c, v = .slice A n c := by
  unfold OwnV at h
  rcases h.2 with ⟨hv, _⟩ | ⟨g, cap, cur, hv, _⟩
  · exact ⟨_, _, _, hv⟩
  · exact ⟨_, _, _, hv⟩
theorem OwnV.empty (w : World) (base c : Nat) (hb : base ≤ w.heap.size) (cur : Array Value) (hc : cur.size = c) (hm : c ≤ maxLen) : OwnV (w.alloc (.cells cur 63)) base (.slice (some ⟨w.heap.size, 0, none⟩) 0 c) [] :=
  ⟨rfl, .inr ⟨w.heap.size, c, cur, rfl, hb, heap_alloc_new w _, Nat.zero_le _, hm, by omega, by simp⟩⟩
theorem OwnV.nil (w : World) (base : Nat) : OwnV w base (.slice none 0 0) [] := World.ownsRow_nil w base _ 1
/-- What such a row is known for. -/
theorem OwnV.vals {w : World} {base : Nat} {A : Option Addr} {n c : Nat} {vs : List Value} (h : OwnV w base (.slice A n c) vs) : vs.length = n ∧ n ≤ c ∧ c ≤ maxLen ∧ (0 < vs.length → ∃ g, A = some ⟨g, 0, none⟩ ∧ g < w.heap.size ∧ base ≤ g ∧ ∀ i v, vs[i]? = some v → w.cell? ⟨g, i, none⟩ = some v) := by
  unfold OwnV at h
  rcases h.2 with ⟨hv, h0⟩ | ⟨g, cap, cur, hv, hg, hgg, hnc, hcm, hsz, htk⟩
  · injection hv with h1 h2 h3
    subst h1 h2 h3
    exact ⟨h0, Nat.le_refl _, by simp [maxLen], fun hn => by omega⟩
  · injection hv with h1 h2 h3
    subst h1 h2 h3
    refine ⟨rfl, hnc, hcm, fun _ => ⟨g, rfl, (Array.getElem?_eq_some_iff.1 hgg).1, hg, fun i v hv' => ?_⟩⟩
    have hi : i < vs.length := (List.getElem?_eq_some_iff.1 hv').1
    have : cur.toList[i]? = some v := by
      have h2 : (cur.toList.take (vs.length * 1))[i]? = some v := by rw [htk]; exact hv'
      rw [List.getElem?_take, if_pos (by omega)] at h2
      exact h2
    simp [World.cell?, hgg, ← Array.getElem?_toList, this]
theorem appInfoV : (Tryz.prog.info? 63).map (fun i => (i.zero, i.size, i.bytes)) = some (some (.slice none 0 0), 1, 24) := by kernel_rfl
/-- append(v, x), x a row stored in a block of its own. -/
theorem app_val {ops : Array Oper} {rest : List Oper} {o : Oper} {a : Act} {Q : Exit → Act → World → Prop} {w : World} (hgd : o.guard = none) (s x : Operand)
    (ho : o.op = .call { callee := .builtin .append, args := #[s, x], argTypes := #[116, 116] })
    (base : Nat) (v : Value) (vs : List Value) (hs : a.eval s = v) (hown : OwnV w base v vs) (A0 : Option Addr) (n0 c0 : Nat) (b c : Nat) (hx : a.eval x = .slice (some ⟨b, 0, none⟩) 1 c) (hc : w.cell? ⟨b, 0, none⟩ = some (.slice A0 n0 c0))
    (hlen : vs.length ≤ 2000000) (hbase : base ≤ w.heap.size)
    (h : ∀ v' w', OwnV w' base v' (vs ++ [.slice A0 n0 c0]) → Below base w w' → (v'.ownBlock = v.ownBlock ∨ v'.ownBlock = some w.heap.size) → w.grownBy w' v.ownBlock → wpList Tryz.prog ops Q rest (a.put o.dst v') w') :
    wpList Tryz.prog ops Q (o :: rest) a w := by
  obtain ⟨i0, hi, hz0, hz1, hz2⟩ := info_parts appInfoV
  refine wpList_append_own_at (P := Tryz.prog) (w := w) hgd s x _ ho base 63 i0 (.slice none 0 0) 1 24 Tryz.underlying116 hi hz0 hz1 hz2 rfl (by decide) v vs.length _ hs hown ⟨b, 0, none⟩ 1 c [.slice A0 n0 c0] hx rfl ?_ ?_ ?_ ?_ hbase ?_
  · intro j u hj
    cases j with
    | zero => simp at hj; subst hj; simpa [Addr.add] using hc
    | succ j => simp at hj
  · intro u hu; simp at hu; subst hu; rfl
  · unfold maxLen; omega
  · omega
  · intro v' w' h1 h2 _ h4
    exact h v' w' (OwnV.snoc h1) ((Below.refl _ _).grown h2 hbase hown.lt) h4 h2
def gz (zss : List (List Int)) (j : Nat) : List Int := zss.getD j []
/-- The values vs are rows of the ints zss, none of them in the block no. -/
structure VR (w : World) (no : Option Nat) (vs : List Value) (zss : List (List Int)) : Prop where
  len : vs.length = zss.length
  row : ∀ j, j < vs.length → ∃ A n c, vs[j]? = some (.slice A n c) ∧ (gz zss j).length = n ∧ n ≤ c ∧ IntsAt w w.heap.size A (gz zss j) ∧ ∀ g o s, A = some ⟨g, o, s⟩ → g < w.heap.size ∧ some g ≠ no
theorem VR.nil (w : World) (no : Option Nat) : VR w no [] [] := ⟨rfl, fun j hj => by simp at hj⟩
theorem VR.below {w W : World} {no : Option Nat} {vs : List Value} {zss : List (List Int)} (h : VR w no vs zss) (hb : Below w.heap.size w W) : VR W no vs zss := ⟨h.len, fun j hj => by
  obtain ⟨A, n, c, h1, h2, h3, h4, h5⟩ := h.row j hj
  exact ⟨A, n, c, h1, h2, h3, h4.to hb, fun g o s e => ⟨Nat.lt_of_lt_of_le (h5 g o s e).1 hb.size, (h5 g o s e).2⟩⟩⟩
theorem VR.grown {w W : World} {no no' : Option Nat} {vs : List Value} {zss : List (List Int)} (h : VR w no vs zss) (hg : w.grownBy W no) (hno : no' = no ∨ no' = some w.heap.size) : VR W no' vs zss := ⟨h.len, fun j hj => by
  obtain ⟨A, n, c, h1, h2, h3, h4, h5⟩ := h.row j hj
  refine ⟨A, n, c, h1, h2, h3, fun hz => ?_, fun g o s e => ⟨Nat.lt_of_lt_of_le (h5 g o s e).1 hg.size, ?_⟩⟩
  · obtain ⟨b, o, hA, hB, hc⟩ := h4 hz
    exact ⟨b, o, hA, Nat.lt_of_lt_of_le hB hg.size, fun i hi => (World.cell?_of_block (hg.block b hB (h5 b o none hA).2)).trans (hc i hi)⟩
  · rcases hno with e2 | e2
    · rw [e2]; exact (h5 g o s e).2
    · rw [e2]; intro e3
      injection e3 with e3
      have := (h5 g o s e).1
      omega⟩
theorem VR.snoc {w : World} {no : Option Nat} {vs : List Value} {zss : List (List Int)} {A : Option Addr} {n c : Nat} {zs : List Int} (h : VR w no vs zss) (hl : zs.length = n) (hc : n ≤ c) (hi : IntsAt w w.heap.size A zs) (hA : ∀ g o s, A = some ⟨g, o, s⟩ → g < w.heap.size ∧ some g ≠ no) : VR w no (vs ++ [.slice A n c]) (zss ++ [zs]) := by
  refine ⟨by simp [h.len], fun j hj => ?_⟩
  simp at hj
  by_cases e : j < vs.length
  · obtain ⟨A', n', c', h1, h2, h3, h4, h5⟩ := h.row j e
    have hg : gz (zss ++ [zs]) j = gz zss j := by
      unfold gz; rw [List.getD_eq_getElem?_getD, List.getD_eq_getElem?_getD, List.getElem?_append_left (by rw [← h.len]; exact e)]
    rw [hg]
    exact ⟨A', n', c', by rw [List.getElem?_append_left e]; exact h1, h2, h3, h4, h5⟩
  · have ej : j = vs.length := by omega
    have hg : gz (zss ++ [zs]) j = zs := by
      unfold gz; rw [List.getD_eq_getElem?_getD, ej, h.len, List.getElem?_append_right (Nat.le_refl _)]; simp
    rw [hg]
    exact ⟨A, n, c, by rw [ej, List.getElem?_append_right (Nat.le_refl _)]; simp, hl, hc, hi, hA⟩
/-- A slice of rows. -/
def RowsAt (w : World) (A : Option Addr) (n : Nat) (zss : List (List Int)) : Prop := zss.length = n ∧ (0 < n → ∃ g o vs no, A = some ⟨g, o, none⟩ ∧ g < w.heap.size ∧ VR w no vs zss ∧ ∀ i v, vs[i]? = some v → w.cell? ⟨g, o + i, none⟩ = some v)
theorem RowsAt.below {w W : World} {A : Option Addr} {n : Nat} {zss : List (List Int)} (h : RowsAt w A n zss) (hb : Below w.heap.size w W) : RowsAt W A n zss := ⟨h.1, fun h0 => by
  obtain ⟨g, o, vs, no, hA, hg, hv, hc⟩ := h.2 h0
  exact ⟨g, o, vs, no, hA, Nat.lt_of_lt_of_le hg hb.size, hv.below hb, fun i v hi => (hb.cell (p := ⟨g, o + i, none⟩) hg).trans (hc i v hi)⟩⟩
theorem OwnV.rows {w : World} {base : Nat} {A : Option Addr} {n c : Nat} {vs : List Value} {zss : List (List Int)} {no : Option Nat} (h : OwnV w base (.slice A n c) vs) (hv : VR w no vs zss) : RowsAt w A n zss := by
  obtain ⟨h1, _, _, h4⟩ := h.vals
  refine ⟨by rw [← hv.len]; exact h1, fun h0 => ?_⟩
  obtain ⟨g, hA, hg, _, hc⟩ := h4 (by omega)
  exact ⟨g, 0, vs, no, hA, hg, hv, fun i v hi => by rw [Nat.zero_add]; exact hc i v hi⟩
/-- The row at place j of such a slice. -/
theorem RowsAt.row {w : World} {A : Option Addr} {n : Nat} {zss : List (List Int)} (h : RowsAt w A n zss) {j : Nat} (hj : j < n) : ∃ g o, A = some ⟨g, o, none⟩ ∧ g < w.heap.size ∧ ∃ A' n' c', w.cell? ⟨g, o + j, none⟩ = some (.slice A' n' c') ∧ (gz zss j).length = n' ∧ n' ≤ c' ∧ IntsAt w w.heap.size A' (gz zss j) := by
  obtain ⟨g, o, vs, no, hA, hg, hv, hc⟩ := h.2 (by omega)
  obtain ⟨A', n', c', h1, h2, h3, h4, _⟩ := hv.row j (by rw [hv.len, h.1]; exact hj)
  exact ⟨g, o, hA, hg, A', n', c', hc j _ h1, h2, h3, h4⟩
end Go.Proofs.YtnddfdhfefconaaGreatDoor
namespace Go.Proofs.YtnddfdhfefconaaGreatDoor
open Go.RowKit

def one1 (i : Nat) : List (List Nat) := (List.range i).map fun i => [i]
def two1 (i k : Nat) : List (List Nat) := (List.range' (i + 1) (k - (i + 1))).map fun k => [i, k]
def two0 (n i : Nat) : List (List Nat) := (List.range i).flatMap fun i => two1 i n
def thr2 (i k m : Nat) : List (List Nat) := (List.range' (k + 1) (m - (k + 1))).map fun m => [i, k, m]
def thr1 (n i k : Nat) : List (List Nat) := (List.range' (i + 1) (k - (i + 1))).flatMap fun k => thr2 i k n
def thr0 (n i : Nat) : List (List Nat) := (List.range i).flatMap fun i => thr1 n i n
def subsL (n : Nat) : List (List Nat) := one1 n ++ two0 n n ++ thr0 n n
theorem rng_snoc {i k : Nat} (h : i + 1 ≤ k) : List.range' (i + 1) (k + 1 - (i + 1)) = List.range' (i + 1) (k - (i + 1)) ++ [k] := by
  rw [show k + 1 - (i + 1) = (k - (i + 1)) + 1 by omega, List.range'_concat]
  congr 2
  omega
theorem one1_s (i : Nat) : one1 (i + 1) = one1 i ++ [[i]] := by unfold one1; rw [List.range_succ]; simp
theorem two1_s {i k : Nat} (h : i + 1 ≤ k) : two1 i (k + 1) = two1 i k ++ [[i, k]] := by unfold two1; rw [rng_snoc h]; simp
theorem two1_0 (i : Nat) : two1 i (i + 1) = [] := by unfold two1; rw [Nat.sub_self]; rfl
theorem two0_s (n i : Nat) : two0 n (i + 1) = two0 n i ++ two1 i n := by unfold two0; rw [List.range_succ]; simp
theorem thr2_s {i k m : Nat} (h : k + 1 ≤ m) : thr2 i k (m + 1) = thr2 i k m ++ [[i, k, m]] := by unfold thr2; rw [rng_snoc h]; simp
theorem thr2_0 (i k : Nat) : thr2 i k (k + 1) = [] := by unfold thr2; rw [Nat.sub_self]; rfl
theorem thr1_s {n i k : Nat} (h : i + 1 ≤ k) : thr1 n i (k + 1) = thr1 n i k ++ thr2 i k n := by unfold thr1; rw [rng_snoc h]; simp
theorem thr1_0 (n i : Nat) : thr1 n i (i + 1) = [] := by unfold thr1; rw [Nat.sub_self]; rfl
theorem thr0_s (n i : Nat) : thr0 n (i + 1) = thr0 n i ++ thr1 n i n := by unfold thr0; rw [List.range_succ]; simp
theorem flat_len {α : Type} (f : Nat → List α) (M : Nat) (l : List Nat) (h : ∀ k ∈ l, (f k).length ≤ M) : (l.flatMap f).length ≤ M * l.length := by
  induction l with
  | nil => simp
  | cons a l ih =>
    have h1 := h a (by simp)
    have h2 := ih fun k hk => h k (List.mem_cons_of_mem _ hk)
    rw [List.flatMap_cons, List.length_append, List.length_cons, Nat.mul_succ]
    omega
theorem subs_len {n : Nat} (h : n ≤ 100) : (one1 n).length ≤ 100 ∧ (∀ i k, k ≤ n → (two1 i k).length ≤ 100) ∧ (∀ i, i ≤ n → (two0 n i).length ≤ 10000) ∧ (∀ i k m, m ≤ n → (thr2 i k m).length ≤ 100) ∧ (∀ i k, k ≤ n → (thr1 n i k).length ≤ 10000) ∧ (∀ i, i ≤ n → (thr0 n i).length ≤ 1000000) := by
  have t1 : ∀ i k, k ≤ n → (two1 i k).length ≤ 100 := fun i k hk => by unfold two1; simp; omega
  have r2 : ∀ i k m, m ≤ n → (thr2 i k m).length ≤ 100 := fun i k m hm => by unfold thr2; simp; omega
  have r1 : ∀ i k, k ≤ n → (thr1 n i k).length ≤ 10000 := fun i k hk => by
    unfold thr1
    have := flat_len (fun k => thr2 i k n) 100 (List.range' (i + 1) (k - (i + 1))) (fun k _ => r2 i k n (Nat.le_refl _))
    rw [List.length_range'] at this; omega
  refine ⟨by unfold one1; simp; omega, t1, fun i hi => ?_, r2, r1, fun i hi => ?_⟩
  · unfold two0
    have := flat_len (fun i => two1 i n) 100 (List.range i) (fun k _ => t1 k n (Nat.le_refl _))
    rw [List.length_range] at this; omega
  · unfold thr0
    have := flat_len (fun i => thr1 n i n) 10000 (List.range i) (fun k _ => r1 k n (Nat.le_refl _))
    rw [List.length_range] at this; omega
/-! ### rows that stay as they are -/
def iV (ks : List Nat) : List Value := ks.map fun (k : Nat) => (.int .i64 (k : Int) : Value)
/-- The values vs are rows of these indices, each in a block of ints of its own. -/
def FixR (w : World) (vs : List Value) (rs : List (List Nat)) : Prop :=
  vs.length = rs.length ∧ ∀ j (h : j < rs.length), ∃ r, vs[j]? = some (.slice (some ⟨r, 0, none⟩) (rs[j]).length (rs[j]).length) ∧ w.heap[r]? = some (.cells (iV rs[j]).toArray 3 (0, 0))
theorem FixR.nil (w : World) : FixR w [] [] := ⟨rfl, fun j h => by simp at h⟩
theorem FixR.below {w W : World} {vs : List Value} {rs : List (List Nat)} (h : FixR w vs rs) (hb : Below w.heap.size w W) : FixR W vs rs := ⟨h.1, fun j hj => by
  obtain ⟨r, h1, h2⟩ := h.2 j hj
  exact ⟨r, h1, (hb.block _ (heap_lt h2)).trans h2⟩⟩
theorem FixR.grown {w W : World} {o : Option Nat} {vs : List Value} {rs : List (List Nat)} (h : FixR w vs rs) (hg : w.grownBy W o) (ho : ∀ g, o = some g → ∃ cur, w.heap[g]? = some (.cells cur 63 (0, 0))) : FixR W vs rs := ⟨h.1, fun j hj => by
  obtain ⟨r, h1, h2⟩ := h.2 j hj
  refine ⟨r, h1, (hg.block _ (heap_lt h2) fun e => ?_).trans h2⟩
  obtain ⟨cur, hc⟩ := ho r e.symm
  rw [h2] at hc
  injection hc with hc
  injection hc with _ h3
  exact absurd h3 (by decide)⟩
theorem FixR.snoc {w : World} {vs : List Value} {rs : List (List Nat)} (h : FixR w vs rs) {r : Nat} {ks : List Nat} (hr : w.heap[r]? = some (.cells (iV ks).toArray 3 (0, 0))) : FixR w (vs ++ [.slice (some ⟨r, 0, none⟩) ks.length ks.length]) (rs ++ [ks]) := by
  refine ⟨by simp [h.1], fun j hj => ?_⟩
  by_cases e : j < rs.length
  · obtain ⟨r', h1, h2⟩ := h.2 j e
    rw [List.getElem_append_left e]
    exact ⟨r', by rw [List.getElem?_append_left (by rw [h.1]; exact e)]; exact h1, h2⟩
  · have ej : j = rs.length := by simp at hj; omega
    subst ej
    refine ⟨r, ?_, ?_⟩
    · simp only [List.getElem_concat_length]
      rw [List.getElem?_append_right (by rw [h.1]; exact Nat.le_refl _), h.1, Nat.sub_self]; rfl
    · simpa using hr
theorem FixR.app {w : World} {vs vs' : List Value} {rs rs' : List (List Nat)} (h : FixR w vs rs) (h' : FixR w vs' rs') : FixR w (vs ++ vs') (rs ++ rs') := by
  refine ⟨by simp [h.1, h'.1], fun j hj => ?_⟩
  by_cases e : j < rs.length
  · obtain ⟨r', h1, h2⟩ := h.2 j e
    rw [List.getElem_append_left e]
    exact ⟨r', by rw [List.getElem?_append_left (by rw [h.1]; exact e)]; exact h1, h2⟩
  · have hj2 : j - rs.length < rs'.length := by simp at hj; omega
    obtain ⟨r', h1, h2⟩ := h'.2 _ hj2
    rw [List.getElem_append_right (by omega)]
    exact ⟨r', by rw [List.getElem?_append_right (by rw [h.1]; omega), h.1]; exact h1, h2⟩
/-- One of the tables that grow. -/
def TbV (w : World) (base : Nat) (v : Value) (rs : List (List Nat)) : Prop := ∃ vs, OwnV w base v vs ∧ FixR w vs rs ∧ ∃ g n c, v = .slice (some ⟨g, 0, none⟩) n c
theorem TbV.blk {w : World} {base : Nat} {v : Value} {rs : List (List Nat)} (h : TbV w base v rs) : ∀ g, v.ownBlock = some g → base ≤ g ∧ ∃ cur, w.heap[g]? = some (.cells cur 63 (0, 0)) := fun g hg => by
  obtain ⟨vs, h1, _, g', n, c, rfl⟩ := h
  injection hg with hg
  subst hg
  unfold OwnV at h1
  rcases h1.2 with ⟨hv, _⟩ | ⟨g, cap, cur, hv, hb, hgg, _⟩
  · cases hv
  · injection hv with hv
    injection hv with hv
    injection hv with hv
    subst hv
    exact ⟨hb, cur, hgg⟩
theorem TbV.below {w W : World} {base : Nat} {v : Value} {rs : List (List Nat)} (h : TbV w base v rs) (hb : Below w.heap.size w W) : TbV W base v rs := by
  obtain ⟨vs, h1, h2, h3⟩ := h
  exact ⟨vs, h1.below hb, h2.below hb, h3⟩
/-- Another table grows. -/
theorem TbV.other {w W : World} {base : Nat} {v v2 : Value} {rs rs2 : List (List Nat)} (h : TbV w base v rs) (h2 : TbV w base v2 rs2) (hne : v.ownBlock ≠ v2.ownBlock) (hg : w.grownBy W v2.ownBlock) : TbV W base v rs := by
  obtain ⟨vs, o1, f1, s1⟩ := h
  refine ⟨vs, own_block o1 (fun k hk => hg.block k (World.ownsRow.lt o1 k hk).2 (fun e => hne (by rw [hk, e]))), f1.grown hg (fun g hg => (h2.blk g hg).2), s1⟩
/-- Three tables in blocks of their own. -/
def T3 (w : World) (base : Nat) (u v x : Value) (a b c : List (List Nat)) : Prop :=
  TbV w base u a ∧ TbV w base v b ∧ TbV w base x c ∧ u.ownBlock ≠ v.ownBlock ∧ u.ownBlock ≠ x.ownBlock ∧ v.ownBlock ≠ x.ownBlock
theorem T3.swap {w : World} {base : Nat} {u v x : Value} {a b c : List (List Nat)} (h : T3 w base u v x a b c) : T3 w base v u x b a c := ⟨h.2.1, h.1, h.2.2.1, fun e => h.2.2.2.1 e.symm, h.2.2.2.2.2, h.2.2.2.2.1⟩
theorem T3.swap2 {w : World} {base : Nat} {u v x : Value} {a b c : List (List Nat)} (h : T3 w base u v x a b c) : T3 w base u x v a c b := ⟨h.1, h.2.2.1, h.2.1, h.2.2.2.2.1, h.2.2.2.1, fun e => h.2.2.2.2.2 e.symm⟩
theorem T3.lt {w : World} {base : Nat} {u v x : Value} {a b c : List (List Nat)} (h : T3 w base u v x a b c) : ∀ k, u.ownBlock = some k → k < w.heap.size := fun k hk => by
  obtain ⟨_, cur, hc⟩ := h.1.blk k hk
  exact heap_lt hc
/-- Behind 'u = append(u, ks)'. -/
theorem T3.put {w W : World} {base : Nat} {u v x u' : Value} {a b c : List (List Nat)} {ks : List Nat} {o : Obj} {vs : List Value} (h : T3 w base u v x a b c) (ho : OwnV w base u vs) (hf : FixR w vs a)
    (hown : OwnV W base u' (vs ++ [.slice (some ⟨w.heap.size, 0, none⟩) ks.length ks.length])) (hgr : ((w.alloc (.cells (iV ks).toArray 3)).alloc o).grownBy W u.ownBlock) (hat : u'.ownBlock = u.ownBlock ∨ u'.ownBlock = some ((w.alloc (.cells (iV ks).toArray 3)).alloc o).heap.size) :
    T3 W base u' v x (a ++ [ks]) b c := by
  have B : Below w.heap.size w ((w.alloc (.cells (iV ks).toArray 3)).alloc o) := ((Below.refl _ _).alloc (Nat.le_refl _) _).alloc (by simp) _
  have N : ((w.alloc (.cells (iV ks).toArray 3)).alloc o).heap[w.heap.size]? = some (.cells (iV ks).toArray 3 (0, 0)) := (Below.heap_alloc _ _ _ (by simp)).trans (heap_alloc_new w _)
  have b1 : ∀ g, u.ownBlock = some g → ∃ cur, ((w.alloc (.cells (iV ks).toArray 3)).alloc o).heap[g]? = some (.cells cur 63 (0, 0)) := fun g hg => by
    obtain ⟨_, cur, hc⟩ := h.1.blk g hg
    exact ⟨cur, (B.block g (heap_lt hc)).trans hc⟩
  have F1 : FixR W (vs ++ [.slice (some ⟨w.heap.size, 0, none⟩) ks.length ks.length]) (a ++ [ks]) := ((hf.below B).snoc N).grown hgr b1
  have nb : ∀ z : Value, (∀ k, z.ownBlock = some k → k < w.heap.size) → z.ownBlock ≠ none → u.ownBlock ≠ z.ownBlock → u'.ownBlock ≠ z.ownBlock := fun z hz h0 hne => by
    rcases hat with e | e
    · rw [e]; exact hne
    · rw [e]
      intro e2
      have := hz _ e2.symm
      simp at this
      omega
  have some' : ∀ {z : Value} {r : List (List Nat)}, TbV w base z r → z.ownBlock ≠ none := fun h e => by
    obtain ⟨_, _, _, g, n, c, rfl⟩ := h
    cases e
  obtain ⟨A', n', c', e'⟩ := hown.slice
  have hsl : ∃ g n c, u' = .slice (some ⟨g, 0, none⟩) n c := by
    have hown2 := hown
    unfold OwnV at hown2
    rcases hown2.2 with ⟨hv, h0⟩ | ⟨g, cap, cur, hv, _⟩
    · simp at h0
    · exact ⟨_, _, _, hv⟩
  refine ⟨⟨_, hown, F1, hsl⟩, (h.2.1.below B).other (h.1.below B) (fun e => h.2.2.2.1 e.symm) hgr, (h.2.2.1.below B).other (h.1.below B) (fun e => h.2.2.2.2.1 e.symm) hgr, nb v h.swap.lt (some' h.2.1) h.2.2.2.1, nb x (h.swap2.swap).lt (some' h.2.2.1) h.2.2.2.2.1, h.2.2.2.2.2⟩
theorem OwnV.blk {w : World} {base : Nat} {v : Value} {vs : List Value} (h : OwnV w base v vs) : ∀ g, v.ownBlock = some g → ∃ cur, w.heap[g]? = some (.cells cur 63 (0, 0)) := fun g hg => by
  unfold OwnV at h
  rcases h.2 with ⟨hv, _⟩ | ⟨g', cap, cur, hv, hb, hgg, _⟩
  · rw [hv] at hg; cases hg
  · rw [hv] at hg
    injection hg with hg
    exact ⟨cur, by rw [← hg]; exact hgg⟩
theorem OwnV.shape {w : World} {base : Nat} {v : Value} {vs : List Value} (h : OwnV w base v vs) (hn : v.ownBlock ≠ none) : ∃ g n c, v = .slice (some ⟨g, 0, none⟩) n c := by
  unfold OwnV at h
  rcases h.2 with ⟨hv, _⟩ | ⟨g', cap, cur, hv, _⟩
  · rw [hv] at hn; exact absurd rfl hn
  · exact ⟨_, _, _, hv⟩
theorem FixR.one {w : World} {vs : List Value} {rs : List (List Nat)} (h : FixR w vs rs) : ∀ u ∈ vs, u.oneCell' = true := fun u hu => by
  obtain ⟨j, hj, rfl⟩ := List.getElem_of_mem hu
  obtain ⟨r, h1, _⟩ := h.2 j (by rw [← h.1]; exact hj)
  rw [List.getElem?_eq_getElem hj] at h1
  injection h1 with h1
  rw [h1]; rfl
theorem OwnV.src {w : World} {base : Nat} {A : Option Addr} {n c : Nat} {vs : List Value} (h : OwnV w base (.slice A n c) vs) : Src w A vs := fun h0 => by
  obtain ⟨_, _, _, h4⟩ := h.vals
  obtain ⟨g, hA, _, _, hc⟩ := h4 h0
  exact ⟨g, 0, hA, fun j u hu => by simpa using hc j u hu⟩
theorem valElt : Elt 116 63 1 24 (.slice none 0 0) := ⟨Tryz.underlying116, appInfoV, rfl, by decide⟩
/-- append(v, x...) -/
theorem app_vals {ops : Array Oper} {rest : List Oper} {o : Oper} {a : Act} {Q : Exit → Act → World → Prop} {w : World} (hgd : o.guard = none) (s x : Operand)
    (ho : o.op = .call { callee := .builtin .append, args := #[s, x], argTypes := #[116, 116] })
    (base : Nat) (v : Value) (vs : List Value) (hs : a.eval s = v) (hown : OwnV w base v vs) (g m c : Nat) (ws : List Value) (hx : a.eval x = .slice (some ⟨g, 0, none⟩) m c) (hm : ws.length = m) (hq : Src w (some ⟨g, 0, none⟩) ws) (h1 : ∀ u ∈ ws, u.oneCell' = true)
    (hlen : vs.length ≤ 2000000) (hlen2 : m ≤ 2000000) (hbase : base ≤ w.heap.size)
    (h : ∀ v' w', OwnV w' base v' (vs ++ ws) → Below base w w' → (v'.ownBlock = v.ownBlock ∨ v'.ownBlock = some w.heap.size) → w.grownBy w' v.ownBlock → wpList Tryz.prog ops Q rest (a.put o.dst v') w') :
    wpList Tryz.prog ops Q (o :: rest) a w := by
  refine wpList_plain hgd fun K hK => ?_
  refine app_wp valElt s x ho base v vs.length _ hs hown (some ⟨g, 0, none⟩) m c ws hx (by rw [hm, Nat.mul_one]) hq (fun h => by cases h) (fun b o s h => by injection h with h; injection h with _ _ h3; exact h3.symm) h1 (by unfold maxLen; omega) (by omega) hbase fun v' w' h2 h3 h4 => hK _ _ ?_
  exact h v' w' (by unfold OwnV; rw [List.length_append, hm]; exact h2) ((Below.refl _ _).grown h3 hbase hown.lt) h4 h3
set_option maxRecDepth 20000 in
set_option maxHeartbeats 8000000 in
theorem subsets_any (n : Nat) (w : World) (hn : n ≤ 20) :
    Calls Tryz.prog 112 #[.int .i64 n] w fun e w' => ∃ v, e = .returned v ∧ TbV w' w.heap.size v (subsL n) ∧ ∃ x, w' = ext w x := by
  have SL := hide (subs_len (n := n) (by omega))
  have H0 : Hid (T3 (((w.alloc (.cells #[] 63)).alloc (.cells #[] 63)).alloc (.cells #[] 63)) w.heap.size (.slice (some ⟨w.heap.size, 0, none⟩) 0 0) (.slice (some ⟨w.heap.size + 1, 0, none⟩) 0 0) (.slice (some ⟨w.heap.size + 1 + 1, 0, none⟩) 0 0) (one1 0) (two0 n 0) (thr0 n 0)) := hide (by
    have e1 := OwnV.empty w w.heap.size 0 (Nat.le_refl _) #[] rfl (by simp [maxLen])
    have e2 := OwnV.empty (w.alloc (.cells #[] 63)) w.heap.size 0 (by simp) #[] rfl (by simp [maxLen])
    have e3 := OwnV.empty ((w.alloc (.cells #[] 63)).alloc (.cells #[] 63)) w.heap.size 0 (by simp; omega) #[] rfl (by simp [maxLen])
    rw [size_alloc] at e2
    rw [size_alloc, size_alloc] at e3
    refine ⟨⟨[], (e1.below ((Below.refl _ _).alloc (Nat.le_refl _) _)).below ((Below.refl _ _).alloc (Nat.le_refl _) _), FixR.nil _, _, _, _, rfl⟩, ⟨[], e2.below ((Below.refl _ _).alloc (Nat.le_refl _) _), FixR.nil _, _, _, _, rfl⟩, ⟨[], e3, FixR.nil _, _, _, _, rfl⟩, ?_, ?_, ?_⟩ <;> (intro e; have e2 := Option.some.inj e; simp only at e2; omega))
  go_enter Tryz.func112, Tryz.ntmps112
  go_wp2_with fail
  go_loopw [3, 4, 5, 6] (fun u3 u4 u5 u6 wr => ∃ i : Nat, i ≤ n ∧ u6 = .int .i64 i ∧ Hid (T3 wr w.heap.size u3 u4 u5 (one1 i) (two0 n i) (thr0 n i)) ∧ Below w.heap.size w wr) (fun _ _ _ u6 _ => n - (intOf u6).toNat)
  case atStart => exact ⟨0, Nat.zero_le _, rfl, H0, (by (repeat' (first | (with_reducible first | exact Below.refl _ _ | assumption | refine below_ext _ ?_ ?_ | refine Below.alloc ?_ ?_ _ | refine Below.drew ?_ | refine below_drewN ?_ _ | refine le_drewN _ ?_ | refine Below.setCell ?_ ?_ _ | exact Nat.le_refl _ | refine le_ext _ ?_ | refine le_alloc _ ?_ | refine le_setCell _ _ ?_ | refine le_drew ?_) | omega | (simp; done) | (simp; omega))))⟩
  case round =>
    obtain ⟨i, hi, rfl, HT, hbel⟩ := hrel
    clear H0
    have hsz := hbel.size
    by_cases hlt : i < n
    · skip
      obtain ⟨vs7, o1, f1, g7, n7, c7, rfl⟩ := (HT.out).1
      have OWN := hide o1
      have LEN : Hid (vs7.length ≤ 2000000) := hide (by have h := f1.1; have := SL.out.1; unfold one1 at *; simp at *; omega)
      have F1 := hide f1
      clear o1 f1
      go_wp2_with (at_builtin; refine app_val rfl _ _ rfl w.heap.size (.slice (some ⟨g7, 0, none⟩) n7 c7) vs7 rfl (OWN.out.below (by (repeat' (first | (with_reducible first | exact Below.refl _ _ | assumption | refine below_ext _ ?_ ?_ | refine Below.alloc ?_ ?_ _ | refine Below.drew ?_ | refine below_drewN ?_ _ | refine le_drewN _ ?_ | refine Below.setCell ?_ ?_ _ | exact Nat.le_refl _ | refine le_ext _ ?_ | refine le_alloc _ ?_ | refine le_setCell _ _ ?_ | refine le_drew ?_) | omega | (simp; done) | (simp; omega))))) (some ⟨wr.heap.size, 0, none⟩) 1 1 _ _ rfl (by simp [go_sem]) LEN.out (by simp; omega) ?_; intro v7 w7 hown7 hb7 hat7 hgr7; have T7 := hide ((HT.out).put (ks := [i]) OWN.out F1.out hown7 hgr7 hat7); have B7 := hide (hbel.trans ((Below.trans (by (repeat' (first | (with_reducible first | exact Below.refl _ _ | assumption | refine below_ext _ ?_ ?_ | refine Below.alloc ?_ ?_ _ | refine Below.drew ?_ | refine below_drewN ?_ _ | refine le_drewN _ ?_ | refine Below.setCell ?_ ?_ _ | exact Nat.le_refl _ | refine le_ext _ ?_ | refine le_alloc _ ?_ | refine le_setCell _ _ ?_ | refine le_drew ?_) | omega | (simp; done) | (simp; omega)))) hb7 : Below w.heap.size wr w7))); clear hown7 hb7 hat7 hgr7)
      clear OWN F1 LEN HT
      rw [← one1_s] at T7
      go_loopw [4, 5, 7] (fun u4 u5 u7 wr => ∃ k : Nat, i + 1 ≤ k ∧ k ≤ n ∧ u7 = .int .i64 k ∧ Hid (T3 wr w.heap.size v7 u4 u5 (one1 (i + 1)) (two0 n i ++ two1 i k) (thr0 n i ++ thr1 n i k)) ∧ Below w.heap.size w wr) (fun _ _ u7 _ => n - (intOf u7).toNat)
      case atStart => exact ⟨i + 1, Nat.le_refl _, hlt, by go_num, by rw [two1_0, thr1_0, List.append_nil, List.append_nil]; exact T7, B7.out⟩
      case round =>
        obtain ⟨k, hk1, hk2, rfl, HT, hbel⟩ := hrel
        clear T7 B7
        have hsz := hbel.size
        by_cases hkn : k < n
        · skip
          obtain ⟨vs8, o1, f1, g8, n8, c8, rfl⟩ := (HT.out.swap).1
          have OWN := hide o1
          have LEN : Hid (vs8.length ≤ 2000000) := hide (by have h := f1.1; have h2 := SL.out.2.2.1 i (by omega); have h3 := SL.out.2.1 i k (by omega); rw [List.length_append] at h; omega)
          have F1 := hide f1
          clear o1 f1
          go_wp2_with (at_builtin; refine app_val rfl _ _ rfl w.heap.size (.slice (some ⟨g8, 0, none⟩) n8 c8) vs8 rfl (OWN.out.below (by (repeat' (first | (with_reducible first | exact Below.refl _ _ | assumption | refine below_ext _ ?_ ?_ | refine Below.alloc ?_ ?_ _ | refine Below.drew ?_ | refine below_drewN ?_ _ | refine le_drewN _ ?_ | refine Below.setCell ?_ ?_ _ | exact Nat.le_refl _ | refine le_ext _ ?_ | refine le_alloc _ ?_ | refine le_setCell _ _ ?_ | refine le_drew ?_) | omega | (simp; done) | (simp; omega))))) (some ⟨wr.heap.size, 0, none⟩) 2 2 _ _ rfl (by simp [go_sem]) LEN.out (by simp; omega) ?_; intro v8 w8 hown7 hb7 hat7 hgr7; have T8 := hide ((HT.out.swap).put (ks := [i, k]) OWN.out F1.out hown7 hgr7 hat7); have B8 := hide (hbel.trans ((Below.trans (by (repeat' (first | (with_reducible first | exact Below.refl _ _ | assumption | refine below_ext _ ?_ ?_ | refine Below.alloc ?_ ?_ _ | refine Below.drew ?_ | refine below_drewN ?_ _ | refine le_drewN _ ?_ | refine Below.setCell ?_ ?_ _ | exact Nat.le_refl _ | refine le_ext _ ?_ | refine le_alloc _ ?_ | refine le_setCell _ _ ?_ | refine le_drew ?_) | omega | (simp; done) | (simp; omega)))) hb7 : Below w.heap.size wr w8))); clear hown7 hb7 hat7 hgr7)
          clear OWN F1 LEN HT
          rw [List.append_assoc, ← two1_s hk1] at T8
          go_loopw [5, 8] (fun u5 u8 wr => ∃ m : Nat, k + 1 ≤ m ∧ m ≤ n ∧ u8 = .int .i64 m ∧ Hid (T3 wr w.heap.size v8 v7 u5 (two0 n i ++ two1 i (k + 1)) (one1 (i + 1)) ((thr0 n i ++ thr1 n i k) ++ thr2 i k m)) ∧ Below w.heap.size w wr) (fun _ u8 _ => n - (intOf u8).toNat)
          case atStart => exact ⟨k + 1, Nat.le_refl _, hkn, by go_num, by rw [thr2_0, List.append_nil]; exact T8, B8.out⟩
          case round =>
            obtain ⟨m, hm1, hm2, rfl, HT, hbel⟩ := hrel
            clear T8 B8
            have hsz := hbel.size
            by_cases hmn : m < n
            · skip
              obtain ⟨vs9, o1, f1, g9, n9, c9, rfl⟩ := (HT.out.swap2.swap).1
              have OWN := hide o1
              have LEN : Hid (vs9.length ≤ 2000000) := hide (by have h := f1.1; have h2 := SL.out.2.2.2.2.2 i (by omega); have h3 := SL.out.2.2.2.2.1 i k (by omega); have h4 := SL.out.2.2.2.1 i k m (by omega); rw [List.length_append, List.length_append] at h; omega)
              have F1 := hide f1
              clear o1 f1
              go_wp2_with (at_builtin; refine app_val rfl _ _ rfl w.heap.size (.slice (some ⟨g9, 0, none⟩) n9 c9) vs9 rfl (OWN.out.below (by (repeat' (first | (with_reducible first | exact Below.refl _ _ | assumption | refine below_ext _ ?_ ?_ | refine Below.alloc ?_ ?_ _ | refine Below.drew ?_ | refine below_drewN ?_ _ | refine le_drewN _ ?_ | refine Below.setCell ?_ ?_ _ | exact Nat.le_refl _ | refine le_ext _ ?_ | refine le_alloc _ ?_ | refine le_setCell _ _ ?_ | refine le_drew ?_) | omega | (simp; done) | (simp; omega))))) (some ⟨wr.heap.size, 0, none⟩) 3 3 _ _ rfl (by simp [go_sem]) LEN.out (by simp; omega) ?_; intro v9 w9 hown7 hb7 hat7 hgr7; have T9 := hide ((HT.out.swap2.swap).put (ks := [i, k, m]) OWN.out F1.out hown7 hgr7 hat7); have B9 := hide (hbel.trans ((Below.trans (by (repeat' (first | (with_reducible first | exact Below.refl _ _ | assumption | refine below_ext _ ?_ ?_ | refine Below.alloc ?_ ?_ _ | refine Below.drew ?_ | refine below_drewN ?_ _ | refine le_drewN _ ?_ | refine Below.setCell ?_ ?_ _ | exact Nat.le_refl _ | refine le_ext _ ?_ | refine le_alloc _ ?_ | refine le_setCell _ _ ?_ | refine le_drew ?_) | omega | (simp; done) | (simp; omega)))) hb7 : Below w.heap.size wr w9))); clear hown7 hb7 hat7 hgr7)
              clear OWN F1 LEN HT
              rw [List.append_assoc, ← thr2_s hm1] at T9
              exact ⟨⟨m + 1, by omega, hmn, by go_num, hide T9.out.swap.swap2, B9.out⟩, by simp [intOf]; omega⟩
            · have em : m = n := by omega
              have T10 : Hid (T3 wr w.heap.size v7 v8 u5 (one1 (i + 1)) (two0 n i ++ two1 i (k + 1)) (thr0 n i ++ thr1 n i (k + 1))) := hide (by have := HT.out.swap; rw [em, List.append_assoc, ← thr1_s hk1] at this; exact this)
              clear HT em
              go_wp2
              exact ⟨⟨k + 1, by omega, hkn, by go_num, T10, hbel⟩, by simp [intOf]; omega⟩
        · have ek : k = n := by omega
          have T10 : Hid (T3 wr w.heap.size v7 u4 u5 (one1 (i + 1)) (two0 n (i + 1)) (thr0 n (i + 1))) := hide (by have := HT.out; rw [ek, ← two0_s, ← thr0_s] at this; exact this)
          clear HT ek
          go_wp2
          exact ⟨⟨i + 1, hlt, by go_num, T10, hbel⟩, by simp [intOf]; omega⟩
    · have ei : i = n := by omega
      have HT2 : Hid (T3 wr w.heap.size u3 u4 u5 (one1 n) (two0 n n) (thr0 n n)) := hide (by have := HT.out; rw [ei] at this; exact this)
      clear HT ei
      obtain ⟨vs1, o1, f1, g1, n1, c1, rfl⟩ := HT2.out.1
      obtain ⟨vs2, o2, f2, g2, n2, c2, rfl⟩ := HT2.out.2.1
      obtain ⟨vs3, o3, f3, g3, n3, c3, rfl⟩ := HT2.out.2.2.1
      have L1 : vs1.length ≤ 100 := by have h := f1.1; have := SL.out.1; omega
      have L2 : vs2.length ≤ 10000 := by have h := f2.1; have := SL.out.2.2.1 n (Nat.le_refl _); omega
      have L3 : vs3.length ≤ 1000000 := by have h := f3.1; have := SL.out.2.2.2.2.2 n (Nat.le_refl _); omega
      have N2 := o2.vals.1
      have N3 := o3.vals.1
      have V1 := o1.vals.1
      have O1 := hide o1
      have S2 := hide o2.src
      have E2 := hide f2.one
      have F12 := hide (f1.app f2)
      have T5 := hide (HT2.out.2.2.1)
      have T1 := hide (HT2.out.1)
      have NE := hide HT2.out.2.2.2.2.1
      clear o1 o2 o3 f1 f2 f3 HT2
      have LL : n2 ≤ 2000000 := by omega
      have LL3 : n3 ≤ 2000000 := by omega
      have L12 : (vs1 ++ vs2).length ≤ 2000000 := by rw [List.length_append]; omega
      go_wp2_with (first | (at_builtin; refine app_vals rfl (.tmp 49) (.tmp 50) rfl w.heap.size (.slice (some ⟨g1, 0, none⟩) n1 c1) vs1 rfl O1.out g2 n2 c2 vs2 rfl N2 S2.out E2.out (by omega) LL hsz ?_; intro v7 w7 hown7 hb7 hat7 hgr7; obtain ⟨vs4, o4, f4, _⟩ := T5.out.other T1.out (fun e => NE.out e.symm) hgr7; have N4 := o4.vals.1; have O7 := hide hown7; have O4 := hide o4; have F4 := hide f4; have F7 := hide (F12.out.grown hgr7 (fun g hg => (T1.out.blk g hg).2)); have AT7 := hide hat7; have Z7 := hb7.size; have B7 := hide (hbel.trans hb7); clear hown7 hb7 hat7 hgr7 o4 f4) | (at_builtin; refine app_vals rfl (.tmp 51) (.tmp 52) rfl w.heap.size v7 (vs1 ++ vs2) rfl O7.out g3 n3 c3 vs4 rfl N4 O4.out.src F4.out.one L12 LL3 (B7.out.size) ?_; intro v8 w8 hown8 hb8 hat8 hgr8; have O8 := hide hown8; have F8 := hide ((F7.out.app F4.out).grown hgr8 O7.out.blk); have AT8 := hide hat8; have B8 := hide (B7.out.trans hb8); clear hown8 hb8 hat8 hgr8))
      go_ret
      have NN : v8.ownBlock ≠ none := by
        rcases AT8.out with e | e
        · rw [e]
          rcases AT7.out with e | e
          · rw [e]; intro h; cases h
          · rw [e]; intro h; cases h
        · rw [e]; intro h; cases h
      exact ⟨v8, rfl, ⟨_, O8.out, F8.out, O8.out.shape NN⟩, ext_mk B8.out⟩
end Go.Proofs.YtnddfdhfefconaaGreatDoor
namespace Go.Proofs.YtnddfdhfefconaaGreatDoor
open Go.RowKit

theorem srch0_f (ps : List Pt) (nx : Nat) (s : List Nat) : srch ps 0 nx s = [s].find? (supB ps) := by
  unfold srch
  cases h : supB ps s <;> simp [List.find?, h]
theorem srch1_f (ps : List Pt) (nx : Nat) (s : List Nat) : srch ps 1 nx s = ((List.range' nx (ps.length - nx)).flatMap fun k => [s ++ [k]]).find? (supB ps) := by
  rw [srch_S, List.find?_flatMap]
  simp only [srch0_f]
theorem srch2_f (ps : List Pt) (nx : Nat) (s : List Nat) : srch ps 2 nx s = ((List.range' nx (ps.length - nx)).flatMap fun i => (List.range' (i + 1) (ps.length - (i + 1))).flatMap fun k => [s ++ [i] ++ [k]]).find? (supB ps) := by
  rw [srch_S, List.find?_flatMap]
  simp only [srch1_f]
theorem srch3_f (ps : List Pt) (nx : Nat) (s : List Nat) : srch ps 3 nx s = ((List.range' nx (ps.length - nx)).flatMap fun i => (List.range' (i + 1) (ps.length - (i + 1))).flatMap fun k => (List.range' (k + 1) (ps.length - (k + 1))).flatMap fun m => [s ++ [i] ++ [k] ++ [m]]).find? (supB ps) := by
  rw [srch_S, List.find?_flatMap]
  simp only [srch2_f]
theorem map_flat {α : Type} (l : List Nat) (f : Nat → α) : (l.flatMap fun k => [f k]) = l.map f := by
  induction l with
  | nil => rfl
  | cons a l ih => rw [List.flatMap_cons, ih]; rfl
theorem encL3_find (ps : List Pt) : encL3 ps = ((subsL ps.length).find? (supB ps)).getD [] := by
  have r0 : List.range' 0 (ps.length - 0) = List.range ps.length := by rw [List.range_eq_range', Nat.sub_zero]
  have e1 : srch ps 1 0 [] = (one1 ps.length).find? (supB ps) := by rw [srch1_f, map_flat, r0]; rfl
  have e2 : srch ps 2 0 [] = (two0 ps.length ps.length).find? (supB ps) := by rw [srch2_f]; simp only [map_flat]; rw [r0]; rfl
  have e3 : srch ps 3 0 [] = (thr0 ps.length ps.length).find? (supB ps) := by rw [srch3_f]; simp only [map_flat]; rw [r0]; rfl
  unfold encL3 subsL
  rw [e1, e2, e3, List.find?_append, List.find?_append]
  cases (one1 ps.length).find? (supB ps) with
  | some r => rfl
  | none =>
    cases (two0 ps.length ps.length).find? (supB ps) with
    | some r => rfl
    | none => rfl
theorem subs_mem {n : Nat} {ks : List Nat} (h : ks ∈ subsL n) : (ks.length = 1 ∨ ks.length = 2 ∨ ks.length = 3) ∧ (∀ k ∈ ks, k < n) ∧ AscN ks := by
  unfold subsL one1 two0 thr0 thr1 two1 thr2 at h
  simp only [List.mem_append, List.mem_map, List.mem_flatMap, List.mem_range, List.mem_range'_1] at h
  rcases h with (⟨i, hi, rfl⟩ | ⟨i, hi, k, hk, rfl⟩) | ⟨i, hi, k, hk, m, hm, rfl⟩
  · refine ⟨.inl rfl, fun k hk => ?_, fun t h1 h2 => ?_⟩
    · rw [List.mem_singleton.1 hk]; exact hi
    · simp at h2; omega
  · refine ⟨.inr (.inl rfl), fun j hj => ?_, fun t h1 h2 => ?_⟩
    · simp at hj; rcases hj with rfl | rfl <;> omega
    · have : t = 1 := by simp at h2; omega
      subst this
      show i < k
      omega
  · refine ⟨.inr (.inr rfl), fun j hj => ?_, fun t h1 h2 => ?_⟩
    · simp at hj; rcases hj with rfl | rfl | rfl <;> omega
    · have : t = 1 ∨ t = 2 := by simp at h2; omega
      rcases this with rfl | rfl
      · show i < k; omega
      · show k < m; omega
theorem encL3_fst {ps : List Pt} {n t : Nat} (hn : ps.length = n) (ht : t < (subsL n).length) (h1 : ∀ j (h : j < t), supB ps ((subsL n)[j]'(by omega)) = false) (h2 : supB ps (subsL n)[t] = true) : encL3 ps = (subsL n)[t] := by
  subst hn
  rw [encL3_find]
  have e : (subsL ps.length).find? (supB ps) = some (subsL ps.length)[t] := by
    rw [List.find?_eq_some_iff_getElem]
    exact ⟨h2, t, ht, rfl, fun j hj => by rw [h1 j hj]; rfl⟩
  rw [e]; rfl
theorem encL3_non {ps : List Pt} {n : Nat} (hn : ps.length = n) (h1 : ∀ j (h : j < (subsL n).length), supB ps (subsL n)[j] = false) : encL3 ps = [] := by
  subst hn
  rw [encL3_find]
  have e : (subsL ps.length).find? (supB ps) = none := by
    rw [List.find?_eq_none]
    intro x hx
    obtain ⟨j, hj, rfl⟩ := List.getElem_of_mem hx
    rw [h1 j hj]; simp
  rw [e]; rfl
theorem row_ints {w : World} {r : Nat} {ks : List Nat} (h : w.heap[r]? = some (.cells (iV ks).toArray 3 (0, 0))) : IntsAt w w.heap.size (some ⟨r, 0, none⟩) (zI ks) := fun _ => ⟨r, 0, rfl, heap_lt h, fun i hi => by
  rw [zI_len] at hi
  rw [Nat.zero_add, zI_at hi]
  have := heap_cell h i
  rw [this]
  simp [iV, Array.getD_eq_getD_getElem?, hi]⟩
set_option maxRecDepth 20000 in
set_option maxHeartbeats 4000000 in
theorem sEncl_any (ps : List Pt) (A : Option Addr) (n c : Nat) (w : World) (hn : ps.length = n) (h0 : ps ≠ []) (hok : listOk ps = true) (hs : PtsAt w w.heap.size A ps) :
    Calls Tryz.prog 65 #[.slice A n c] w fun e w' => ∃ A' n' c', e = .returned (.slice A' n' c') ∧ (zI (encL3 ps)).length = n' ∧ IntsAt w' w'.heap.size A' (zI (encL3 ps)) ∧ ∃ x, w' = ext w x := by
  obtain ⟨h1, h2⟩ := listOk_1 hok
  have hl : 0 < n := by rw [← hn]; exact List.length_pos_iff.2 h0
  have LO := hide (validPoints_any ps A n c w hn (by omega) hs)
  rw [hok] at LO
  have SB := hide (fun (W : World) => subsets_any n W (by omega))
  have bz : ((n : Int) == 0) = false := by rw [beq_eq_false_iff_ne]; omega
  have IS := hide (fun (ks : List Nat) (A2 : Option Addr) (m : Nat) (W : World) (hb : Below w.heap.size w W) (hm : ks.length = m) (hk : ks ∈ subsL n) (hi : IntsAt W W.heap.size A2 (zI ks)) => have q := subs_mem hk; isSup_any ps ks A A2 n c m m W hn (by omega) h2 hm (by rw [← hm]; exact q.1) q.2.1 q.2.2 (hs.to hb) hi)
  have EN := hide (fun (ks : List Nat) (A2 : Option Addr) (m : Nat) (W : World) (hb : Below w.heap.size w W) (hm : ks.length = m) (hk : ks ∈ subsL n) (hi : IntsAt W W.heap.size A2 (zI ks)) => have q := subs_mem hk; sEnc_any' ps ks A A2 n c m m W hn (by omega) h2 hm (by rw [← hm]; exact q.1) q.2.1 (hs.to hb) hi)
  have SUP : Hid (∀ ks, supB ps ks = (detB (ks.map (gp ps)) && !((List.range n).any fun i => !encB (ks.map (gp ps)) (gp ps i)))) := hide (fun ks => by unfold supB; rw [hn])
  have FST := hide (fun (t : Nat) (ht : t < (subsL n).length) => @encL3_fst ps n t hn ht)
  have NON : Hid ((∀ j (h : j < (subsL n).length), supB ps (subsL n)[j] = false) → encL3 ps = []) := hide (@encL3_non ps n hn)
  have hn20 : n ≤ 20 := by omega
  clear hn h0 hok hs h1 h2
  go_enter Tryz.func65, Tryz.ntmps65
  go_wp2_with fail
  refine LO.out.mono ?_
  rintro e w' ⟨rfl, hw'⟩; have hzy1 := ext_sz hw'; obtain ⟨y1, rfl⟩ := hw'; (try simp at hzy1)
  go_wp2_with fail
  refine (SB.out _).mono ?_
  rintro e w2 ⟨v2, rfl, hT, hx⟩
  have B2 := hide ((show Below w.heap.size w (ext w y1) from (by (repeat' (first | (with_reducible first | exact Below.refl _ _ | assumption | refine below_ext _ ?_ ?_ | refine Below.alloc ?_ ?_ _ | refine Below.drew ?_ | refine below_drewN ?_ _ | refine le_drewN _ ?_ | refine Below.setCell ?_ ?_ _ | exact Nat.le_refl _ | refine le_ext _ ?_ | refine le_alloc _ ?_ | refine le_setCell _ _ ?_ | refine le_drew ?_) | omega | (simp; done) | (simp; omega))))).trans ((ext_bel hx).mono (by first | omega | (simp; done) | (simp; omega))))
  obtain ⟨vs, ov, fv, g2, m2, c2, rfl⟩ := hT
  obtain ⟨lv, _, _, cv⟩ := ov.vals
  have CV := hide cv
  have FV := hide fv
  have LV : (subsL n).length = m2 := by rw [← fv.1]; exact lv
  have M6 : m2 ≤ 2000000 := by
    have := subs_len (n := n) (by omega)
    rw [← LV]; unfold subsL; rw [List.length_append, List.length_append]
    have a := this.1; have b := this.2.2.1 n (Nat.le_refl _); have d := this.2.2.2.2.2 n (Nat.le_refl _)
    omega
  have LVH := hide LV
  clear hx ov fv cv LO SB LV lv
  go_wp2_with fail
  go_loopw [4] (fun u4 wr => ∃ t : Nat, t ≤ m2 ∧ u4 = .int .i64 t ∧ Hid (∀ j (h : j < (subsL n).length), j < t → supB ps (subsL n)[j] = false) ∧ Below w2.heap.size w2 wr) (fun u4 _ => m2 - (intOf u4).toNat)
  case atStart => exact ⟨0, Nat.zero_le _, rfl, hide (fun j _ hj => by omega), Below.refl _ _⟩
  case round =>
    obtain ⟨t, ht, rfl, HA, hbel⟩ := hrel
    have hsz := hbel.size
    have BW := hide (B2.out.trans (hbel.mono B2.out.size))
    by_cases hlt : t < m2
    · have hl2 : t < (subsL n).length := by rw [LVH.out]; exact hlt
      obtain ⟨r, hv, hr⟩ := FV.out.2 t hl2
      obtain ⟨g, hA, hg, _, hc⟩ := CV.out (by rw [FV.out.1]; omega)
      injection hA with hA; injection hA with hA
      subst hA
      have c1 := (hbel.cell (p := ⟨g2, t, none⟩) hg).trans (hc t _ hv)
      have rr := (hbel.block r (heap_lt hr)).trans hr
      have mem := List.getElem_mem hl2
      have ISk := hide (IS.out _ _ _ wr BW.out rfl mem (row_ints rr))
      have ENk := hide (fun (W : World) (hb : Below wr.heap.size wr W) => EN.out _ _ _ W (BW.out.trans (hb.mono BW.out.size)) rfl mem (row_ints ((hb.block r (heap_lt rr)).trans rr)))
      have SU := hide (SUP.out (subsL n)[t])
      have FS := hide (fun hs => FST.out t hl2 (fun j hj => HA.out j (by omega) hj) hs)
      have HA2 : Hid (supB ps (subsL n)[t] = false → ∀ j (h : j < (subsL n).length), j < t + 1 → supB ps (subsL n)[j] = false) := hide (fun h j hj h2 => by
        by_cases e : j = t
        · subst e; exact h
        · exact HA.out j hj (by omega))
      have RR := hide rr
      have q1 : (t : Int) < (m2 : Int) := by omega
      clear hv hr hc mem IS EN SUP FST NON HA rr FV CV
      generalize (subsL n)[t] = ks at *
      generalize detB (ks.map (gp ps)) = D at *
      generalize (!((List.range n).any fun i => !encB (ks.map (gp ps)) (gp ps i))) = E at *
      cases D
      · have sf := HA2.out (by rw [SU.out]; rfl)
        have HA3 := hide sf
        clear sf HA2 SU FS ENk
        go_wp2_with fail
        refine ISk.out.mono ?_
        rintro e w' ⟨rfl, hw'⟩; have hzy3 := ext_sz hw'; obtain ⟨y3, rfl⟩ := hw'; (try simp at hzy3)
        go_wp2_with fail
        exact ⟨⟨t + 1, hlt, by go_num, HA3, Below.trans hbel (by (repeat' (first | (with_reducible first | exact Below.refl _ _ | assumption | refine below_ext _ ?_ ?_ | refine Below.alloc ?_ ?_ _ | refine Below.drew ?_ | refine below_drewN ?_ _ | refine le_drewN _ ?_ | refine Below.setCell ?_ ?_ _ | exact Nat.le_refl _ | refine le_ext _ ?_ | refine le_alloc _ ?_ | refine le_setCell _ _ ?_ | refine le_drew ?_) | omega | (simp; done) | (simp; omega))))⟩, by simp [intOf]; omega⟩
      · cases E
        · have sf := HA2.out (by rw [SU.out]; rfl)
          have HA3 := hide sf
          clear sf HA2 SU FS
          go_wp2_with fail
          refine ISk.out.mono ?_
          rintro e w' ⟨rfl, hw'⟩; have hzy3 := ext_sz hw'; obtain ⟨y3, rfl⟩ := hw'; (try simp at hzy3)
          have c2 := ((ext_below wr y3).cell (p := ⟨g2, t, none⟩) (Nat.lt_of_lt_of_le hg hsz)).trans c1
          go_wp2_with fail
          refine (ENk.out _ (by (repeat' (first | (with_reducible first | exact Below.refl _ _ | assumption | refine below_ext _ ?_ ?_ | refine Below.alloc ?_ ?_ _ | refine Below.drew ?_ | refine below_drewN ?_ _ | refine le_drewN _ ?_ | refine Below.setCell ?_ ?_ _ | exact Nat.le_refl _ | refine le_ext _ ?_ | refine le_alloc _ ?_ | refine le_setCell _ _ ?_ | refine le_drew ?_) | omega | (simp; done) | (simp; omega))))).mono ?_
          rintro e w' ⟨rfl, hw'⟩; have hzy4 := ext_sz hw'; obtain ⟨y4, rfl⟩ := hw'; (try simp at hzy4)
          go_wp2_with fail
          exact ⟨⟨t + 1, hlt, by go_num, HA3, Below.trans hbel (by (repeat' (first | (with_reducible first | exact Below.refl _ _ | assumption | refine below_ext _ ?_ ?_ | refine Below.alloc ?_ ?_ _ | refine Below.drew ?_ | refine below_drewN ?_ _ | refine le_drewN _ ?_ | refine Below.setCell ?_ ?_ _ | exact Nat.le_refl _ | refine le_ext _ ?_ | refine le_alloc _ ?_ | refine le_setCell _ _ ?_ | refine le_drew ?_) | omega | (simp; done) | (simp; omega))))⟩, by simp [intOf]; omega⟩
        · have HR := hide (FS.out (by rw [SU.out]; rfl))
          clear HA2 SU FS
          go_wp2_with fail
          refine ISk.out.mono ?_
          rintro e w' ⟨rfl, hw'⟩; have hzy3 := ext_sz hw'; obtain ⟨y3, rfl⟩ := hw'; (try simp at hzy3)
          have c2 := ((ext_below wr y3).cell (p := ⟨g2, t, none⟩) (Nat.lt_of_lt_of_le hg hsz)).trans c1
          go_wp2_with fail
          refine (ENk.out _ (by (repeat' (first | (with_reducible first | exact Below.refl _ _ | assumption | refine below_ext _ ?_ ?_ | refine Below.alloc ?_ ?_ _ | refine Below.drew ?_ | refine below_drewN ?_ _ | refine le_drewN _ ?_ | refine Below.setCell ?_ ?_ _ | exact Nat.le_refl _ | refine le_ext _ ?_ | refine le_alloc _ ?_ | refine le_setCell _ _ ?_ | refine le_drew ?_) | omega | (simp; done) | (simp; omega))))).mono ?_
          rintro e w5 ⟨rfl, hx5⟩
          have b5 : Below wr.heap.size wr w5 := Below.trans (ext_below wr y3) ((ext_bel hx5).mono (ext_size wr y3))
          have c3 := (b5.cell (p := ⟨g2, t, none⟩) (Nat.lt_of_lt_of_le hg hsz)).trans c1
          have R5 := hide (row_ints ((b5.block r (heap_lt RR.out)).trans RR.out))
          have B5 := hide b5
          clear hx5 b5 c1 c2
          go_wp2_with fail
          go_ret
          exact ⟨_, _, _, rfl, by rw [HR.out, zI_len], by rw [HR.out]; exact R5.out, ext_mk (BW.out.trans (B5.out.mono BW.out.size))⟩
    · have HR := hide (NON.out (fun j hj => HA.out j hj (by have := LVH.out; omega)))
      clear HA IS EN SUP FST NON
      go_wp2_with fail
      go_ret
      exact ⟨none, 0, 0, rfl, by rw [HR.out]; rfl, by rw [HR.out]; exact fun h => absurd h (Nat.lt_irrefl 0), ext_mk BW.out⟩
set_option maxHeartbeats 1000000 in
theorem sq_cir (ps : List Pt) (h0 : ps ≠ []) : AnsS qCircle (cirT ps) ps := by
  intro A n c w hn hok hc hcm hs
  have HH := hide (sEncl_any ps A n c w hn h0 hok hs)
  have h3 := (encL3_mem ps).1
  have FI := hide (fun (A' : Option Addr) (n' c' : Nat) (W : World) (hl : (zI (encL3 ps)).length = n') h2 => fmtInts_any (zI (encL3 ps)) A' n' c' W hl (by rw [zI_len] at hl; omega) (cir_big ps (listOk_1 hok).1) h2)
  unfold cirT
  have y1 := lit_no (l := qCircle) (q := [104, 117, 108, 108]) (by decide)
  have y2 := lit_no (l := qCircle) (q := [97, 114, 101, 97]) (by decide)
  have y3 := lit_no (l := qCircle) (q := [100, 105, 97, 109, 101, 116, 101, 114]) (by decide)
  have y4 := lit_yes (l := qCircle) (q := [99, 105, 114, 99, 108, 101]) rfl
  clear hn hok hs
  generalize bS qCircle = S at *
  generalize zI (encL3 ps) = zs at *
  go_enter Tryz.func34, Tryz.ntmps34
  go_wp2_with fail
  refine HH.out.mono ?_
  rintro e w2 ⟨A2, n2, c2, rfl, l2, i2, hx⟩
  have B2 := hide (ext_bel hx)
  have TK := hide (FI.out A2 n2 c2 w2 l2 i2)
  clear hx FI i2 l2
  go_wp2_with fail
  refine TK.out.mono ?_
  rintro e w' ⟨rfl, hw'⟩; have hzy := ext_sz hw'; obtain ⟨y, rfl⟩ := hw'; (try simp at hzy)
  go_wp2_with fail
  go_ret
  exact ⟨rfl, ext_mk (B2.out.trans (Below.mono (show Below w2.heap.size w2 _ from (by (repeat' (first | (with_reducible first | exact Below.refl _ _ | assumption | refine below_ext _ ?_ ?_ | refine Below.alloc ?_ ?_ _ | refine Below.drew ?_ | refine below_drewN ?_ _ | refine le_drewN _ ?_ | refine Below.setCell ?_ ?_ _ | exact Nat.le_refl _ | refine le_ext _ ?_ | refine le_alloc _ ?_ | refine le_setCell _ _ ?_ | refine le_drew ?_) | omega | (simp; done) | (simp; omega))))) B2.out.size))⟩
end Go.Proofs.YtnddfdhfefconaaGreatDoor
