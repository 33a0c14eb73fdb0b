
/- Rows of triangles; the laws' helpers at triangles: copies, comparisons, marks; append. -/
import Derived.Test.YtcebmcbglhkkfaaHelp
import Derived.Test.YtcebmcbglhkkfaaApp
import Derived.Test.YtcebmcbglhkkfaaMarkP
set_option linter.unusedVariables false
set_option linter.unusedSimpArgs false
namespace Go.Proofs.Ytcebmcbglhkkfaa
open Go.RowKit

structure TI where
  a : Int
  b : Int
  c : Int
  deriving DecidableEq, Inhabited
def gt (ts : List TI) (i : Nat) : TI := ts.getD i default
theorem gt_lt {ts : List TI} {i : Nat} (h : i < ts.length) : gt ts i = ts[i] := by unfold gt; rw [List.getD_eq_getElem?_getD, List.getElem?_eq_getElem h]; rfl
theorem gt_mem {ts : List TI} {i : Nat} (h : i < ts.length) : gt ts i ∈ ts := by rw [gt_lt h]; exact List.getElem_mem h
theorem gt_of_mem {ts : List TI} {t : TI} (h : t ∈ ts) : ∃ i, i < ts.length ∧ gt ts i = t := by
  obtain ⟨i, hi, rfl⟩ := List.getElem_of_mem h
  exact ⟨i, hi, gt_lt hi⟩
/-- The slice at A reads as these triangles, all of it below block B. -/
def TrisAt (w : World) (B : Nat) (A : Option Addr) (ts : List TI) : Prop :=
  0 < ts.length → ∃ b o, A = some ⟨b, o, none⟩ ∧ b < B ∧ ∀ i, i < ts.length → w.cell? ⟨b, o + i * 3, none⟩ = some (.int .i64 (gt ts i).a) ∧ w.cell? ⟨b, o + i * 3 + 1, none⟩ = some (.int .i64 (gt ts i).b) ∧ w.cell? ⟨b, o + i * 3 + 2, none⟩ = some (.int .i64 (gt ts i).c)
theorem TrisAt.below {w w' : World} {B : Nat} {A : Option Addr} {ts : List TI} (h : TrisAt w B A ts) (hb : Below B w w') : TrisAt w' B A ts := fun hn => by
  obtain ⟨b, o, hA, hB, hc⟩ := h hn
  refine ⟨b, o, hA, hB, fun i hi => ?_⟩
  obtain ⟨c1, c2, c3⟩ := hc i hi
  exact ⟨(hb.cell (p := ⟨b, o + i * 3, none⟩) hB).trans c1, (hb.cell (p := ⟨b, o + i * 3 + 1, none⟩) hB).trans c2, (hb.cell (p := ⟨b, o + i * 3 + 2, none⟩) hB).trans c3⟩
theorem TrisAt.more {w : World} {B B' : Nat} {A : Option Addr} {ts : List TI} (h : TrisAt w B A ts) (hB : B ≤ B') : TrisAt w B' A ts := fun hn => by
  obtain ⟨b, o, hA, hb, hc⟩ := h hn
  exact ⟨b, o, hA, by omega, hc⟩
theorem TrisAt.to {w W : World} {A : Option Addr} {ts : List TI} (h : TrisAt w w.heap.size A ts) (hb : Below w.heap.size w W) : TrisAt W W.heap.size A ts := (h.below hb).more hb.size
/-- What a block that holds triangles from its head on holds in cell j. -/
def triCell (ts : List TI) (j : Nat) : Value := .int .i64 (if j % 3 = 0 then (gt ts (j / 3)).a else if j % 3 = 1 then (gt ts (j / 3)).b else (gt ts (j / 3)).c)
theorem triCell_0 (ts : List TI) (k : Nat) : triCell ts (k * 3) = .int .i64 (gt ts k).a := by
  unfold triCell; rw [if_pos (by omega), show k * 3 / 3 = k from by omega]
theorem triCell_1 (ts : List TI) (k : Nat) : triCell ts (k * 3 + 1) = .int .i64 (gt ts k).b := by
  unfold triCell; rw [if_neg (by omega), if_pos (by omega), show (k * 3 + 1) / 3 = k from by omega]
theorem triCell_2 (ts : List TI) (k : Nat) : triCell ts (k * 3 + 2) = .int .i64 (gt ts k).c := by
  unfold triCell; rw [if_neg (by omega), if_neg (by omega), show (k * 3 + 2) / 3 = k from by omega]
theorem three_set {f : Nat → Value} {ts : List TI} {k : Nat} (h : ∀ j, j < k * 3 → f j = triCell ts j) (j : Nat) (hj : j < (k + 1) * 3) :
    (if j = k * 3 + 2 then Value.int .i64 (gt ts k).c else if j = k * 3 + 1 then Value.int .i64 (gt ts k).b else if j = k * 3 then Value.int .i64 (gt ts k).a else f j) = triCell ts j := by
  by_cases h0 : j = k * 3 + 2
  · rw [if_pos h0, h0, triCell_2]
  · rw [if_neg h0]
    by_cases h1 : j = k * 3 + 1
    · rw [if_pos h1, h1, triCell_1]
    · rw [if_neg h1]
      by_cases h2 : j = k * 3
      · rw [if_pos h2, h2, triCell_0]
      · rw [if_neg h2]; exact h j (by omega)
theorem TrisAt.of_row {w : World} {g : Nat} {T : TypeId} {m : Nat} {ts : List TI} {B : Nat} (h : RowAt w g T m (triCell ts)) (hm : ts.length * 3 ≤ m) (hB : g < B) : TrisAt w B (some ⟨g, 0, none⟩) ts := fun _ =>
  ⟨g, 0, rfl, hB, fun i hi => by
    have h1 := h.cell (j := i * 3) (by omega)
    have h2 := h.cell (j := i * 3 + 1) (by omega)
    have h3 := h.cell (j := i * 3 + 2) (by omega)
    rw [Nat.zero_add, h1, h2, h3, triCell_0, triCell_1, triCell_2]
    exact ⟨rfl, rfl, rfl⟩⟩
theorem TrisAt.row {w : World} {g n : Nat} {T : TypeId} {ts : List TI} (h : RowAt w g T (n * 3) (triCell ts)) (hn : ts.length = n) : TrisAt w w.heap.size (some ⟨g, 0, none⟩) ts := TrisAt.of_row h (by omega) h.lt
/-! ### a row of triangles of the call's own -/
def triVals : List TI → List Value
  | [] => []
  | t :: ts => .int .i64 t.a :: .int .i64 t.b :: .int .i64 t.c :: triVals ts
theorem triVals_len : ∀ ts : List TI, (triVals ts).length = ts.length * 3
  | [] => rfl
  | t :: ts => by simp [triVals, triVals_len ts]; omega
theorem triVals_app : ∀ ts fs : List TI, triVals (ts ++ fs) = triVals ts ++ triVals fs
  | [], _ => rfl
  | t :: ts, fs => by simp [triVals, triVals_app ts fs]
theorem triVals_one : ∀ (ts : List TI), ∀ u ∈ triVals ts, u.oneCell' = true
  | [], u, h => by cases h
  | t :: ts, u, h => by
    simp only [triVals, List.mem_cons] at h
    rcases h with rfl | rfl | rfl | h
    · rfl
    · rfl
    · rfl
    · exact triVals_one ts u h
theorem triVals_at : ∀ (ts : List TI) (i : Nat), i < ts.length → (triVals ts)[i * 3]? = some (.int .i64 (gt ts i).a) ∧ (triVals ts)[i * 3 + 1]? = some (.int .i64 (gt ts i).b) ∧ (triVals ts)[i * 3 + 2]? = some (.int .i64 (gt ts i).c)
  | [], i, h => by simp at h
  | t :: ts, 0, _ => ⟨rfl, rfl, rfl⟩
  | t :: ts, i + 1, h => by
    have := triVals_at ts i (by simpa using h)
    rw [show (i + 1) * 3 = i * 3 + 1 + 1 + 1 from by omega]
    simpa [triVals, gt] using this
/-- The slice v is a row of triangles of the call's own, at block base or later. -/
def OwnT (w : World) (base : Nat) (v : Value) (ts : List TI) : Prop := w.ownsRow base 37 3 v ts.length (triVals ts)
theorem triElt : Elt 25 37 3 24 (.agg #[.int .i64 0, .int .i64 0, .int .i64 0]) := ⟨Try.underlying25, by kernel_rfl, rfl, by decide⟩
theorem OwnT.below {w W : World} {base : Nat} {v : Value} {ts : List TI} (h : OwnT w base v ts) (hb : Below w.heap.size w W) : OwnT W base v ts := own_below h hb
theorem OwnT.base {w : World} {base base' : Nat} {v : Value} {ts : List TI} (h : OwnT w base v ts) (hb : base' ≤ base) : OwnT w base' v ts := own_base h hb
theorem OwnT.lt {w : World} {base : Nat} {v : Value} {ts : List TI} (h : OwnT w base v ts) : ∀ k, v.ownBlock = some k → base ≤ k := fun k hk => (World.ownsRow.lt h k hk).1
theorem OwnT.lt2 {w : World} {base : Nat} {v : Value} {ts : List TI} (h : OwnT w base v ts) : ∀ k, v.ownBlock = some k → k < w.heap.size := fun k hk => (World.ownsRow.lt h k hk).2
theorem OwnT.empty (w : World) (base : Nat) (hb : base ≤ w.heap.size) : OwnT (w.alloc (.cells #[] 37)) base (.slice (some ⟨w.heap.size, 0, none⟩) 0 0) [] :=
  ⟨rfl, .inr ⟨w.heap.size, 0, #[], rfl, hb, heap_alloc_new w _, Nat.le_refl _, by simp [maxLen], rfl, rfl⟩⟩
theorem OwnT.nil (w : World) (base : Nat) : OwnT w base (.slice none 0 0) [] := World.ownsRow_nil w base _ 3
theorem OwnT.slice {w : World} {base : Nat} {v : Value} {ts : List TI} (h : OwnT w base v ts) : ∃ A n c, v = .slice A n c := by
  unfold OwnT at h
  rcases h.2 with ⟨hv, _⟩ | ⟨g, cap, cur, hv, _⟩
  · exact ⟨_, _, _, hv⟩
  · exact ⟨_, _, _, hv⟩
theorem OwnT.tris {w : World} {base : Nat} {A : Option Addr} {n c : Nat} {ts : List TI} (h : OwnT w base (.slice A n c) ts) : ts.length = n ∧ n ≤ c ∧ c ≤ maxLen ∧ TrisAt w w.heap.size A ts := by
  unfold OwnT at h
  rcases h.2 with ⟨hv, h0⟩ | ⟨g, cap, cur, hv, hg, hgg, hnc, hcm, hsz, htk⟩
  · injection hv with h1 h2 h3
    subst h1 h2 h3
    exact ⟨h0, Nat.le_refl _, by simp [maxLen], fun hn => by omega⟩
  · injection hv with h1 h2 h3
    subst h1 h2 h3
    have key : ∀ j u, (triVals ts)[j]? = some u → w.cell? ⟨g, 0 + j, none⟩ = some u := fun j u hu => by
      have hj : j < ts.length * 3 := by rw [← triVals_len]; exact (List.getElem?_eq_some_iff.1 hu).1
      rw [← htk, List.getElem?_take, if_pos hj] at hu
      simp [World.cell?, hgg, ← Array.getElem?_toList, hu]
    refine ⟨rfl, hnc, hcm, fun _ => ⟨g, 0, rfl, (Array.getElem?_eq_some_iff.1 hgg).1, fun i hi => ?_⟩⟩
    obtain ⟨k1, k2, k3⟩ := triVals_at ts i hi
    exact ⟨key _ _ k1, by rw [Nat.add_assoc]; exact key _ _ k2, by rw [Nat.add_assoc]; exact key _ _ k3⟩
theorem OwnT.form {w : World} {base : Nat} {A : Option Addr} {n c : Nat} {ts : List TI} (h : OwnT w base (.slice A n c) ts) : (A = none → n = 0) ∧ ∀ b o s, A = some ⟨b, o, s⟩ → s = none := by
  unfold OwnT at h
  rcases h.2 with ⟨hv, h1⟩ | ⟨g, cap, cur, hv, _⟩
  · injection hv with e1 e2 e3
    subst e1 e2
    exact ⟨fun _ => rfl, fun b o s h => by cases h⟩
  · injection hv with e1 e2 e3
    subst e1
    exact ⟨(fun h => by cases h), fun b o s h => by injection h with h; injection h with _ _ h3; exact h3.symm⟩
/-- append(v, t), t stored in a block of its own. -/
theorem app_tri {ops : Array Oper} {rest : List Oper} {o : Oper} {a : Act} {Q : Exit → Act → World → Prop} {w : World} (hgd : o.guard = none) (s x : Operand)
    (ho : o.op = .call { callee := .builtin .append, args := #[s, x], argTypes := #[25, 25] })
    (base : Nat) (v : Value) (ts : List TI) (hs : a.eval s = v) (hown : OwnT w base v ts) (p q r : Int) (b c : Nat) (hx : a.eval x = .slice (some ⟨b, 0, none⟩) 1 c) (h0 : w.cell? ⟨b, 0, none⟩ = some (.int .i64 p)) (h1 : w.cell? ⟨b, 1, none⟩ = some (.int .i64 q)) (h2 : w.cell? ⟨b, 2, none⟩ = some (.int .i64 r))
    (hlen : ts.length ≤ 2000000) (hbase : base ≤ w.heap.size)
    (h : ∀ v' w', OwnT w' base v' (ts ++ [⟨p, q, r⟩]) → Below base w w' → (v'.ownBlock = v.ownBlock ∨ v'.ownBlock = some w.heap.size) → w.grownBy w' v.ownBlock → wpList Try.prog ops Q rest (a.put o.dst v') w') :
    wpList Try.prog ops Q (o :: rest) a w := by
  refine wpList_plain hgd fun K hK => ?_
  refine app_wp triElt s x ho base v ts.length _ hs hown (some ⟨b, 0, none⟩) 1 c (triVals [⟨p, q, r⟩]) hx rfl (fun _ => ⟨b, 0, rfl, fun j u hu => ?_⟩) (fun h => by cases h) (fun b o s h => by injection h with h; injection h with _ _ h3; exact h3.symm) (triVals_one _) (by unfold maxLen; omega) (by omega) hbase fun v' w' g2 g3 g4 => hK _ _ ?_
  · match j with
    | 0 => simp [triVals] at hu; subst hu; simpa using h0
    | 1 => simp [triVals] at hu; subst hu; simpa using h1
    | 2 => simp [triVals] at hu; subst hu; simpa using h2
    | j + 3 => simp [triVals] at hu
  · exact h v' w' (by unfold OwnT; rw [List.length_append, triVals_app]; exact g2) ((Below.refl _ _).grown g3 hbase hown.lt) g4 g3
/-- The same inside a region that draws its order. -/
theorem step_tri {ops : Array Oper} {o : Oper} {a : Act} {K : Act → World → Prop} {Q : Exit → Act → World → Prop} {E : Prop} {w : World} (hgd : o.guard = none) (s x : Operand)
    (ho : o.op = .call { callee := .builtin .append, args := #[s, x], argTypes := #[25, 25] })
    (base : Nat) (v : Value) (ts : List TI) (hs : a.eval s = v) (hown : OwnT w base v ts) (p q r : Int) (b c : Nat) (hx : a.eval x = .slice (some ⟨b, 0, none⟩) 1 c) (h0 : w.cell? ⟨b, 0, none⟩ = some (.int .i64 p)) (h1 : w.cell? ⟨b, 1, none⟩ = some (.int .i64 q)) (h2 : w.cell? ⟨b, 2, none⟩ = some (.int .i64 r))
    (hlen : ts.length ≤ 2000000) (hbase : base ≤ w.heap.size)
    (h : ∀ v' w', OwnT w' base v' (ts ++ [⟨p, q, r⟩]) → Below base w w' → (v'.ownBlock = v.ownBlock ∨ v'.ownBlock = some w.heap.size) → w.grownBy w' v.ownBlock → K (a.put o.dst v') w') :
    if Region.wanted o (yielded ops a.tmps) = true then Oper.wp Try.prog o a w K Q else E := by
  have hw : Region.wanted o (yielded ops a.tmps) = true := by simp [Region.wanted, hgd]
  rw [if_pos hw]
  refine app_wp triElt s x ho base v ts.length _ hs hown (some ⟨b, 0, none⟩) 1 c (triVals [⟨p, q, r⟩]) hx rfl (fun _ => ⟨b, 0, rfl, fun j u hu => ?_⟩) (fun h => by cases h) (fun b o s h => by injection h with h; injection h with _ _ h3; exact h3.symm) (triVals_one _) (by unfold maxLen; omega) (by omega) hbase fun v' w' g2 g3 g4 => ?_
  · match j with
    | 0 => simp [triVals] at hu; subst hu; simpa using h0
    | 1 => simp [triVals] at hu; subst hu; simpa using h1
    | 2 => simp [triVals] at hu; subst hu; simpa using h2
    | j + 3 => simp [triVals] at hu
  · exact h v' w' (by unfold OwnT; rw [List.length_append, triVals_app]; exact g2) ((Below.refl _ _).grown g3 hbase hown.lt) g4 g3
def eqT (s t : TI) : Bool := decide (s.a = t.a) && (decide (s.b = t.b) && decide (s.c = t.c))
theorem eqT_iff {s t : TI} : eqT s t = true ↔ s.a = t.a ∧ s.b = t.b ∧ s.c = t.c := by simp [eqT]
theorem tris_eq {ps qs : List TI} (h : ps.length = qs.length) (hi : ∀ i, i < ps.length → (gt ps i).a = (gt qs i).a ∧ (gt ps i).b = (gt qs i).b ∧ (gt ps i).c = (gt qs i).c) : ps = qs := by
  refine List.ext_getElem h fun i h1 h2 => ?_
  rw [← gt_lt h1, ← gt_lt h2]
  obtain ⟨e1, e2, e3⟩ := hi i h1
  cases hp : gt ps i; cases hq : gt qs i
  rw [hp, hq] at e1 e2 e3
  simp_all
/-- The slice at A is a row of triangles of the call's own, at block base or later; its block may be longer. -/
def TRow (w : World) (base : Nat) (A : Option Addr) (ts : List TI) : Prop :=
  0 < ts.length → ∃ g m f, A = some ⟨g, 0, none⟩ ∧ base ≤ g ∧ ts.length * 3 ≤ m ∧ RowAt w g 37 m f ∧ ∀ j, j < ts.length * 3 → f j = triCell ts j
theorem TRow.nil (w : World) (base : Nat) (A : Option Addr) : TRow w base A [] := fun h => absurd h (Nat.lt_irrefl 0)
theorem TRow.below {w W : World} {base : Nat} {A : Option Addr} {ts : List TI} (h : TRow w base A ts) (hb : Below w.heap.size w W) : TRow W base A ts := fun h0 => by
  obtain ⟨g, m, f, hA, hg, hm, hr, hf⟩ := h h0
  exact ⟨g, m, f, hA, hg, hm, hr.below hb hr.lt, hf⟩
theorem TRow.more {w : World} {base base' : Nat} {A : Option Addr} {ts : List TI} (h : TRow w base A ts) (hb : base' ≤ base) : TRow w base' A ts := fun h0 => by
  obtain ⟨g, m, f, hA, hg, hm, hr, hf⟩ := h h0
  exact ⟨g, m, f, hA, Nat.le_trans hb hg, hm, hr, hf⟩
theorem TRow.but {w W : World} {base g : Nat} {A : Option Addr} {ts : List TI} (h : TRow w base A ts) (hb : But w W g) (hg : g < base) : TRow W base A ts := fun h0 => by
  obtain ⟨g', m, f, hA, hg', hm, hr, hf⟩ := h h0
  exact ⟨g', m, f, hA, hg', hm, hr.but hb (by omega), hf⟩
theorem TRow.tris {w : World} {base : Nat} {A : Option Addr} {ts : List TI} (h : TRow w base A ts) : TrisAt w w.heap.size A ts := fun h0 => by
  obtain ⟨g, m, f, hA, hg, hm, hr, hf⟩ := h h0
  refine ⟨g, 0, hA, hr.lt, fun i hi => ?_⟩
  rw [Nat.zero_add, hr.cell (by omega), hr.cell (by omega), hr.cell (by omega), hf _ (by omega), hf _ (by omega), hf _ (by omega), triCell_0, triCell_1, triCell_2]
  exact ⟨rfl, rfl, rfl⟩
theorem OwnT.trow {w : World} {base : Nat} {A : Option Addr} {n c : Nat} {ts : List TI} (h : OwnT w base (.slice A n c) ts) : ts.length = n ∧ TRow w base A ts := by
  have hi := h.tris
  refine ⟨hi.1, fun h0 => ?_⟩
  have hin := hi.2.2.2
  unfold OwnT at h
  rcases h.2 with ⟨hv, h1⟩ | ⟨g, cp, cur, hv, hg, hgg, hnc, hcm, hsz, htk⟩
  · omega
  · injection hv with h1 h2 h3
    subst h1 h2 h3
    refine ⟨g, _, fun j => cur.getD j undef, rfl, hg, by omega, ⟨cur, hgg, hsz, fun j hj => ?_⟩, fun j hj => ?_⟩
    · have : j < cur.size := by omega
      simp [this]
    · obtain ⟨b, o, hA, _, hc⟩ := hin h0
      injection hA with hA; injection hA with e1 e2
      subst e1 e2
      obtain ⟨k1, k2, k3⟩ := hc (j / 3) (by omega)
      rw [Nat.zero_add, heap_cell hgg] at k1
      rw [Nat.zero_add, heap_cell hgg] at k2
      rw [Nat.zero_add, heap_cell hgg] at k3
      show cur.getD j undef = _
      rw [Array.getD_eq_getD_getElem?]
      rcases (show j = j / 3 * 3 ∨ j = j / 3 * 3 + 1 ∨ j = j / 3 * 3 + 2 by omega) with e | e | e
      · rw [e, k1, triCell_0]; rfl
      · rw [e, k2, triCell_1]; rfl
      · rw [e, k3, triCell_2]; rfl
def MarkedT (w : World) (base : Nat) (A : Option Addr) (n : Nat) : Prop := 0 < n → ∃ g m f, A = some ⟨g, 0, none⟩ ∧ base ≤ g ∧ n * 3 ≤ m ∧ RowAt w g 37 m (markCell 1 (n * 3) f)
theorem MarkedT.below {w W : World} {base : Nat} {A : Option Addr} {n : Nat} (h : MarkedT w base A n) (hb : Below w.heap.size w W) : MarkedT W base A n := fun h0 => by
  obtain ⟨g', m, f, hA, hg', hm, hr⟩ := h h0
  exact ⟨g', m, f, hA, hg', hm, hr.below hb hr.lt⟩
end Go.Proofs.Ytcebmcbglhkkfaa
