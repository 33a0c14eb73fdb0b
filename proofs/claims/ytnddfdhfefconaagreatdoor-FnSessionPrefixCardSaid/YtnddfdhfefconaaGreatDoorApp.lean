
import Derived.Test.YtnddfdhfefconaaGreatDoorBase
import Derived.Test.YtnddfdhfefconaaGreatDoorRows
import Derived.Maps.AppendAt
import Derived.RegionTactic
import Derived.OwnWalk
/- Rows of ints that a call owns and appends to. -/
set_option linter.unusedVariables false
set_option linter.unusedSimpArgs false
namespace Go.Proofs.YtnddfdhfefconaaGreatDoor
open Go.RowKit

theorem own_below {w W : World} {base : Nat} {e : TypeId} {size : Nat} {v : Value} {n : Nat} {xs : List Value} (h : w.ownsRow base e size v n xs) (hb : Below w.heap.size w W) : W.ownsRow base e size v n xs := by
  refine ⟨h.1, ?_⟩
  rcases h.2 with hn | ⟨g, cap, cur, rfl, hg, hgg, rest⟩
  · exact .inl hn
  · exact .inr ⟨g, cap, cur, rfl, hg, (hb.block g (Array.getElem?_eq_some_iff.1 hgg).1).trans hgg, rest⟩
theorem own_base {w : World} {base base' : Nat} {e : TypeId} {size : Nat} {v : Value} {n : Nat} {xs : List Value} (h : w.ownsRow base e size v n xs) (hb : base' ≤ base) : w.ownsRow base' e size v n xs := by
  refine ⟨h.1, ?_⟩
  rcases h.2 with hn | ⟨g, cap, cur, rfl, hg, hgg, rest⟩
  · exact .inl hn
  · exact .inr ⟨g, cap, cur, rfl, by omega, hgg, rest⟩
/-- Slice v is a row of ints of the call's own, at block base or later. -/
def Own (w : World) (base : Nat) (v : Value) (zs : List Int) : Prop := w.ownsRow base 3 1 v zs.length (zs.map (Value.int .i64))
theorem Own.below {w W : World} {base : Nat} {v : Value} {zs : List Int} (h : Own w base v zs) (hb : Below w.heap.size w W) : Own W base v zs := own_below h hb
theorem Own.lt {w : World} {base : Nat} {v : Value} {zs : List Int} (h : Own w base v zs) : ∀ k, v.ownBlock = some k → base ≤ k := fun k hk => (World.ownsRow.lt h k hk).1
theorem Own.base {w : World} {base base' : Nat} {v : Value} {zs : List Int} (h : Own w base v zs) (hb : base' ≤ base) : Own w base' v zs := own_base h hb
theorem Own.snoc {w : World} {base : Nat} {v : Value} {zs : List Int} {x : Int} (h : w.ownsRow base 3 1 v (zs.length + 1) (zs.map (Value.int .i64) ++ [.int .i64 x])) : Own w base v (zs ++ [x]) := by
  unfold Own; rw [List.length_append, List.map_append]; exact h
theorem Own.ints {w : World} {base : Nat} {A : Option Addr} {n c : Nat} {zs : List Int} (h : Own w base (.slice A n c) zs) : zs.length = n ∧ n ≤ c ∧ c ≤ maxLen ∧ IntsAt w w.heap.size A zs := by
  unfold Own at h
  rcases h.2 with ⟨hv, h0⟩ | ⟨g, cap, cur, hv, hg, hgg, hnc, hcm, hsz, htk⟩
  · injection hv with h1 h2 h3
    subst h1 h2 h3
    exact ⟨h0, Nat.le_refl _, by simp [maxLen], fun hn => by omega⟩
  · injection hv with h1 h2 h3
    subst h1 h2 h3
    refine ⟨rfl, hnc, hcm, fun _ => ⟨g, 0, rfl, (Array.getElem?_eq_some_iff.1 hgg).1, fun i hi => ?_⟩⟩
    have : cur.toList[i]? = some (.int .i64 (gi zs i)) := by
      have h2 : (cur.toList.take (zs.length * 1))[i]? = some (.int .i64 (gi zs i)) := by
        rw [htk, List.getElem?_map, List.getElem?_eq_getElem hi, gi_lt hi]; rfl
      rw [List.getElem?_take, if_pos (by omega)] at h2
      exact h2
    simp [World.cell?, hgg, ← Array.getElem?_toList, this]
theorem Own.lit (w : World) (x : Int) : Own (w.alloc (.cells #[.int .i64 x] 3)) w.heap.size (.slice (some ⟨w.heap.size, 0, none⟩) 1 1) [x] :=
  ⟨rfl, .inr ⟨w.heap.size, 1, #[.int .i64 x], rfl, Nat.le_refl _, heap_alloc_new w _, Nat.le_refl _, by simp [maxLen], rfl, rfl⟩⟩
theorem Own.nil (w : World) (base : Nat) : Own w base (.slice none 0 0) [] := World.ownsRow_nil w base _ 1
theorem own_block {w W : World} {base : Nat} {e : TypeId} {size : Nat} {v : Value} {n : Nat} {xs : List Value} (h : w.ownsRow base e size v n xs) (hb : ∀ k, v.ownBlock = some k → W.heap[k]? = w.heap[k]?) : W.ownsRow base e size v n xs := by
  refine ⟨h.1, ?_⟩
  rcases h.2 with hn | ⟨g, cap, cur, rfl, hg, hgg, rest⟩
  · exact .inl hn
  · exact .inr ⟨g, cap, cur, rfl, hg, (hb g rfl).trans hgg, rest⟩
theorem own_slice {w : World} {base : Nat} {v : Value} {zs : List Int} (h : Own w base v zs) : ∃ A n c, v = .slice A n c := by
  unfold Own at h
  rcases h.2 with ⟨hv, _⟩ | ⟨g, cap, cur, hv, _⟩
  · exact ⟨_, _, _, hv⟩
  · exact ⟨_, _, _, hv⟩
theorem appInfo : (Tryz.prog.info? 3).map (fun i => (i.zero, i.size, i.bytes)) = some (some (.int .i64 0), 1, 8) := by kernel_rfl
/-- append(v, x), x stored in the block that was laid last: the law that the walks take. -/
theorem app_one {ops : Array Oper} {rest : List Oper} {o : Oper} {a : Act} {Q : Exit → Act → World → Prop} {w : World} (hgd : o.guard = none) (s x : Operand)
    (ho : o.op = .call { callee := .builtin .append, args := #[s, x], argTypes := #[63, 63] })
    (base : Nat) (v : Value) (zs : List Int) (hs : a.eval s = v) (hown : Own w base v zs) (y : Int) (b c : Nat) (hx : a.eval x = .slice (some ⟨b, 0, none⟩) 1 c) (hc : w.cell? ⟨b, 0, none⟩ = some (.int .i64 y))
    (hlen : zs.length ≤ 2000000) (hbase : base ≤ w.heap.size)
    (h : ∀ v' w', Own w' base v' (zs ++ [y]) → Below base w w' → (v'.ownBlock = v.ownBlock ∨ v'.ownBlock = some w.heap.size) → w.grownBy w' v.ownBlock → wpList Tryz.prog ops Q rest (a.put o.dst v') w') :
    wpList Tryz.prog ops Q (o :: rest) a w := by
  obtain ⟨i0, hi, hz0, hz1, hz2⟩ := info_parts appInfo
  refine wpList_append_own_at (P := Tryz.prog) (w := w) hgd s x _ ho base 3 i0 (.int .i64 0) 1 8 Tryz.underlying63 hi hz0 hz1 hz2 rfl (by decide) v zs.length _ hs hown ⟨b, 0, none⟩ 1 c [.int .i64 y] hx rfl ?_ ?_ ?_ ?_ hbase ?_
  · intro j u hj
    cases j with
    | zero => simp at hj; subst hj; simpa [Addr.add] using hc
    | succ j => simp at hj
  · intro u hu; simp at hu; subst hu; rfl
  · unfold maxLen; omega
  · omega
  · intro v' w' h1 h2 _ h4
    exact h v' w' (Own.snoc h1) ((Below.refl _ _).grown h2 hbase hown.lt) h4 h2
end Go.Proofs.YtnddfdhfefconaaGreatDoor
/- Rows of values that a call owns and appends to, of whatever element type; rows of points. -/
set_option linter.unusedVariables false
set_option linter.unusedSimpArgs false
namespace Go.Proofs.YtnddfdhfefconaaGreatDoor
open Go.RowKit

/-- The slice at A reads as these cells. -/
def Src (w : World) (A : Option Addr) (xs : List Value) : Prop := 0 < xs.length → ∃ b o, A = some ⟨b, o, none⟩ ∧ ∀ j u, xs[j]? = some u → w.cell? ⟨b, o + j, none⟩ = some u
/-- What is known of an element type: its slice type t, its cells, bytes and zero value. -/
structure Elt (t e : TypeId) (size bytes : Nat) (z : Value) : Prop where
  und : Tryz.prog.underlying t = some (.slice e)
  inf : (Tryz.prog.info? e).map (fun i => (i.zero, i.size, i.bytes)) = some (some z, size, bytes)
  zs : z.cells.size = size
  pos : 0 < size
theorem add_plain (b o j : Nat) : Addr.add ⟨b, o, none⟩ j = ⟨b, o + j, none⟩ := by unfold Addr.add; split <;> simp_all
theorem nil_add (w : World) (t ty e : TypeId) (i : TypeInfo) (size base : Nat) (ht : Tryz.prog.underlying t = some (.slice e)) (hi : Tryz.prog.info? e = some i) (v : Value) (n : Nat) (xs : List Value) (hown : w.ownsRow base e size v n xs) (c : Nat) :
    (Builtin.append_ #[t, t] ty #[v, .slice none 0 c]).run Tryz.prog w = .ok v w := by
  rcases hown.2 with ⟨rfl, rfl⟩ | ⟨g, cap, cur, rfl, _, _, hnc, _⟩
  · simp [Builtin.append_, run_underlying ht, sizeOf, typeInfo, hi, Builtin.lenOf, Builtin.firstCells]
  · simp [Builtin.append_, run_underlying ht, sizeOf, typeInfo, hi, Builtin.lenOf, Builtin.firstCells, hnc, storeCells]
theorem src_cells {w : World} {b o : Nat} {news : List Value} (hsrc : Src w (some ⟨b, o, none⟩) news) : ∀ j u, news[j]? = some u → w.cell? ((⟨b, o, none⟩ : Addr).add j) = some u := by
  intro j u hu
  rw [add_plain]
  have h0 : 0 < news.length := by
    have := (List.getElem?_eq_some_iff.1 hu).1; omega
  obtain ⟨b', o', h, hc⟩ := hsrc h0
  injection h with h
  injection h with e1 e2 _
  subst e1 e2
  exact hc j u hu
/-- append(v, A...), the source nil, empty or not. -/
theorem run_app {w : World} {t e : TypeId} {size bytes : Nat} {z : Value} (E : Elt t e size bytes z) (ty : TypeId) (base : Nat) (v : Value) (n : Nat) (xs : List Value) (hown : w.ownsRow base e size v n xs)
    (A : Option Addr) (m c : Nat) (news : List Value) (hl : news.length = m * size) (hsrc : Src w A news) (hA : A = none → m = 0) (hsp : ∀ b o s, A = some ⟨b, o, s⟩ → s = none) (h1 : ∀ u ∈ news, u.oneCell' = true)
    (h63 : n + m ≤ maxLen) (hbytes : (n + m) * bytes ≤ 140737488355328) (hbase : base ≤ w.heap.size) :
    ∃ v' w', (Builtin.append_ #[t, t] ty #[v, .slice A m c]).run Tryz.prog w = .ok v' w' ∧ w'.ownsRow base e size v' (n + m) (xs ++ news) ∧ w.grownBy w' v.ownBlock ∧ (v'.ownBlock = v.ownBlock ∨ v'.ownBlock = some w.heap.size) := by
  obtain ⟨i, hi, hz, hsize, hby⟩ := info_parts E.inf
  rcases A with _ | ⟨b, o, s⟩
  · obtain rfl := hA rfl
    have hn : news = [] := List.eq_nil_of_length_eq_zero (by simpa using hl)
    subst hn
    exact ⟨v, w, nil_add w t ty e i size base E.und hi v n xs hown c, by simpa using hown, World.grownBy.refl w _, .inl rfl⟩
  · obtain rfl := hsp b o s rfl
    have hcells := src_cells hsrc
    obtain ⟨v', w', hrun, h2, h3, _, h5⟩ := run_append_own_at (P := Tryz.prog) w base t ty e i z size bytes E.und hi hz hsize hby E.zs E.pos v n xs hown ⟨b, o, none⟩ m c news hl hcells h1 h63 hbytes hbase
    exact ⟨v', w', hrun, h2, h3, h5⟩
theorem app_wp {w : World} {t e : TypeId} {size bytes : Nat} {z : Value} (E : Elt t e size bytes z) {o : Oper} {a : Act} {K : Act → World → Prop} {Q : Exit → Act → World → Prop} (s x : Operand)
    (ho : o.op = .call { callee := .builtin .append, args := #[s, x], argTypes := #[t, t] })
    (base : Nat) (v : Value) (n : Nat) (xs : List Value) (hs : a.eval s = v) (hown : w.ownsRow base e size v n xs)
    (A : Option Addr) (m c : Nat) (news : List Value) (hx : a.eval x = .slice A m c) (hl : news.length = m * size) (hsrc : Src w A news) (hA : A = none → m = 0) (hsp : ∀ b o s, A = some ⟨b, o, s⟩ → s = none) (h1 : ∀ u ∈ news, u.oneCell' = true)
    (h63 : n + m ≤ maxLen) (hbytes : (n + m) * bytes ≤ 140737488355328) (hbase : base ≤ w.heap.size)
    (h : ∀ v' w', w'.ownsRow base e size v' (n + m) (xs ++ news) → w.grownBy w' v.ownBlock → (v'.ownBlock = v.ownBlock ∨ v'.ownBlock = some w.heap.size) → K (a.put o.dst v') w') : o.wp Tryz.prog a w K Q := by
  obtain ⟨v', w', hrun, h2, h3, h4⟩ := run_app E o.type base v n xs hown A m c news hl hsrc hA hsp h1 h63 hbytes hbase
  unfold Oper.wp execOp
  simp only [ho, resolve, invoke, builtin, Sem.run_bind, Sem.run_pure, Result.andThen_ok, List.map_toArray, List.map_cons, List.map_nil, hs, hx, hrun]
  exact h v' w' h2 h3 h4

/-! ### points -/
def ptVals : List Pt → List Value
  | [] => []
  | p :: ps => .int .i64 p.x :: .int .i64 p.y :: ptVals ps
theorem ptVals_len : ∀ ps : List Pt, (ptVals ps).length = ps.length * 2
  | [] => rfl
  | p :: ps => by simp [ptVals, ptVals_len ps]; omega
theorem ptVals_app : ∀ ps qs : List Pt, ptVals (ps ++ qs) = ptVals ps ++ ptVals qs
  | [], _ => rfl
  | p :: ps, qs => by simp [ptVals, ptVals_app ps qs]
theorem ptVals_one : ∀ (ps : List Pt), ∀ u ∈ ptVals ps, u.oneCell' = true
  | [], u, h => by cases h
  | p :: ps, u, h => by
    simp only [ptVals, List.mem_cons] at h
    rcases h with rfl | rfl | h
    · rfl
    · rfl
    · exact ptVals_one ps u h
theorem ptVals_at : ∀ (ps : List Pt) (i : Nat), i < ps.length → (ptVals ps)[i * 2]? = some (.int .i64 (pX ps i)) ∧ (ptVals ps)[i * 2 + 1]? = some (.int .i64 (pY ps i))
  | [], i, h => by simp at h
  | p :: ps, 0, _ => ⟨rfl, rfl⟩
  | p :: ps, i + 1, h => by
    have := ptVals_at ps i (by simpa using h)
    rw [show (i + 1) * 2 = i * 2 + 1 + 1 from by omega]
    simpa [ptVals, pX, pY, gp] using this
theorem ptVals_take : ∀ (ps : List Pt) (k : Nat), (ptVals ps).take (k * 2) = ptVals (ps.take k)
  | [], k => by simp [ptVals]
  | p :: ps, 0 => by simp [ptVals]
  | p :: ps, k + 1 => by
    rw [show (k + 1) * 2 = k * 2 + 1 + 1 from by omega]
    simp [ptVals, ptVals_take ps k]
theorem PtsAt.src {w : World} {B : Nat} {A : Option Addr} {ps : List Pt} (h : PtsAt w B A ps) : Src w A (ptVals ps) := fun h0 => by
  rw [ptVals_len] at h0
  obtain ⟨b, o, hA, _, hc⟩ := h (by omega)
  refine ⟨b, o, hA, fun j u hu => ?_⟩
  have hj : j < ps.length * 2 := by rw [← ptVals_len]; exact (List.getElem?_eq_some_iff.1 hu).1
  obtain ⟨e1, e2⟩ := ptVals_at ps (j / 2) (by omega)
  obtain ⟨c1, c2⟩ := hc (j / 2) (by omega)
  rcases Nat.mod_two_eq_zero_or_one j with hm | hm
  · rw [show j / 2 * 2 = j from by omega] at e1 c1
    rw [e1] at hu; injection hu with hu; rw [← hu]; exact c1
  · rw [show j / 2 * 2 + 1 = j from by omega] at e2
    rw [show o + j / 2 * 2 + 1 = o + j from by omega] at c2
    rw [e2] at hu; injection hu with hu; rw [← hu]; exact c2
theorem Src.pts {w : World} {B b o : Nat} {ps : List Pt} (h : ∀ j u, (ptVals ps)[j]? = some u → w.cell? ⟨b, o + j, none⟩ = some u) (hB : b < B) : PtsAt w B (some ⟨b, o, none⟩) ps := fun h0 =>
  ⟨b, o, rfl, hB, fun i hi => ⟨h _ _ (ptVals_at ps i hi).1, by rw [Nat.add_assoc]; exact h _ _ (ptVals_at ps i hi).2⟩⟩
/-- The slice v is a row of points of the call's own, at block base or later. -/
def OwnP (w : World) (base : Nat) (v : Value) (ps : List Pt) : Prop := w.ownsRow base 41 2 v ps.length (ptVals ps)
theorem ptElt : Elt 23 41 2 16 (.agg #[.int .i64 0, .int .i64 0]) := ⟨Tryz.underlying23, by kernel_rfl, rfl, by decide⟩
theorem OwnP.below {w W : World} {base : Nat} {v : Value} {ps : List Pt} (h : OwnP w base v ps) (hb : Below w.heap.size w W) : OwnP W base v ps := own_below h hb
theorem OwnP.base {w : World} {base base' : Nat} {v : Value} {ps : List Pt} (h : OwnP w base v ps) (hb : base' ≤ base) : OwnP w base' v ps := own_base h hb
theorem OwnP.lt {w : World} {base : Nat} {v : Value} {ps : List Pt} (h : OwnP w base v ps) : ∀ k, v.ownBlock = some k → base ≤ k := fun k hk => (World.ownsRow.lt h k hk).1
theorem OwnP.lt2 {w : World} {base : Nat} {v : Value} {ps : List Pt} (h : OwnP w base v ps) : ∀ k, v.ownBlock = some k → k < w.heap.size := fun k hk => (World.ownsRow.lt h k hk).2
theorem OwnP.nil (w : World) (base : Nat) : OwnP w base (.slice none 0 0) [] := World.ownsRow_nil w base _ 2
theorem OwnP.slice {w : World} {base : Nat} {v : Value} {ps : List Pt} (h : OwnP w base v ps) : ∃ A n c, v = .slice A n c := by
  unfold OwnP at h
  rcases h.2 with ⟨hv, _⟩ | ⟨g, cap, cur, hv, _⟩
  · exact ⟨_, _, _, hv⟩
  · exact ⟨_, _, _, hv⟩
/-- What such a row is known for, its block among it. -/
theorem OwnP.pts {w : World} {base : Nat} {A : Option Addr} {n c : Nat} {ps : List Pt} (h : OwnP w base (.slice A n c) ps) : ps.length = n ∧ n ≤ c ∧ c ≤ maxLen ∧ PtsAt w w.heap.size A ps := by
  unfold OwnP at h
  rcases h.2 with ⟨hv, h0⟩ | ⟨g, cap, cur, hv, hg, hgg, hnc, hcm, hsz, htk⟩
  · injection hv with h1 h2 h3
    subst h1 h2 h3
    exact ⟨h0, Nat.le_refl _, by simp [maxLen], fun hn => by omega⟩
  · injection hv with h1 h2 h3
    subst h1 h2 h3
    refine ⟨rfl, hnc, hcm, Src.pts (fun j u hu => ?_) (Array.getElem?_eq_some_iff.1 hgg).1⟩
    have hj : j < ps.length * 2 := by rw [← ptVals_len]; exact (List.getElem?_eq_some_iff.1 hu).1
    rw [← htk, List.getElem?_take, if_pos hj] at hu
    simp [World.cell?, hgg, ← Array.getElem?_toList, hu]
theorem OwnP.empty (w : World) (base c : Nat) (hb : base ≤ w.heap.size) (cur : Array Value) (hc : cur.size = c * 2) (hm : c ≤ maxLen) : OwnP (w.alloc (.cells cur 41)) base (.slice (some ⟨w.heap.size, 0, none⟩) 0 c) [] :=
  ⟨rfl, .inr ⟨w.heap.size, c, cur, rfl, hb, heap_alloc_new w _, Nat.zero_le _, hm, hc, by simp [ptVals]⟩⟩
/-- append(v, p), p stored in a block of its own. -/
theorem app_pt {ops : Array Oper} {rest : List Oper} {o : Oper} {a : Act} {Q : Exit → Act → World → Prop} {w : World} (hgd : o.guard = none) (s x : Operand)
    (ho : o.op = .call { callee := .builtin .append, args := #[s, x], argTypes := #[23, 23] })
    (base : Nat) (v : Value) (ps : List Pt) (hs : a.eval s = v) (hown : OwnP w base v ps) (p q : Int) (b c : Nat) (hx : a.eval x = .slice (some ⟨b, 0, none⟩) 1 c) (h0 : w.cell? ⟨b, 0, none⟩ = some (.int .i64 p)) (h1 : w.cell? ⟨b, 1, none⟩ = some (.int .i64 q))
    (hlen : ps.length ≤ 2000000) (hbase : base ≤ w.heap.size)
    (h : ∀ v' w', OwnP w' base v' (ps ++ [⟨p, q⟩]) → Below base w w' → (v'.ownBlock = v.ownBlock ∨ v'.ownBlock = some w.heap.size) → w.grownBy w' v.ownBlock → wpList Tryz.prog ops Q rest (a.put o.dst v') w') :
    wpList Tryz.prog ops Q (o :: rest) a w := by
  refine wpList_plain hgd fun K hK => ?_
  refine app_wp ptElt s x ho base v ps.length _ hs hown (some ⟨b, 0, none⟩) 1 c (ptVals [⟨p, q⟩]) hx rfl (fun _ => ⟨b, 0, rfl, fun j u hu => ?_⟩) (fun h => by cases h) (fun b o s h => by injection h with h; injection h with _ _ h3; exact h3.symm) (ptVals_one _) (by unfold maxLen; omega) (by omega) hbase fun v' w' h2 h3 h4 => hK _ _ ?_
  · match j with
    | 0 => simp [ptVals] at hu; subst hu; simpa using h0
    | 1 => simp [ptVals] at hu; subst hu; simpa using h1
    | j + 2 => simp [ptVals] at hu
  · exact h v' w' (by unfold OwnP; rw [List.length_append, ptVals_app]; exact h2) ((Below.refl _ _).grown h3 hbase hown.lt) h4 h3
/-- append(v, qs...). -/
theorem app_pts {ops : Array Oper} {rest : List Oper} {o : Oper} {a : Act} {Q : Exit → Act → World → Prop} {w : World} (hgd : o.guard = none) (s x : Operand)
    (ho : o.op = .call { callee := .builtin .append, args := #[s, x], argTypes := #[23, 23] })
    (base : Nat) (v : Value) (ps : List Pt) (hs : a.eval s = v) (hown : OwnP w base v ps) (A : Option Addr) (m c B : Nat) (qs : List Pt) (hx : a.eval x = .slice A m c) (hm : qs.length = m) (hq : PtsAt w B A qs) (hA : A = none → m = 0) (hsp : ∀ b o s, A = some ⟨b, o, s⟩ → s = none)
    (hlen : ps.length ≤ 2000000) (hlen2 : m ≤ 2000000) (hbase : base ≤ w.heap.size)
    (h : ∀ v' w', OwnP w' base v' (ps ++ qs) → Below base w w' → (v'.ownBlock = v.ownBlock ∨ v'.ownBlock = some w.heap.size) → w.grownBy w' v.ownBlock → wpList Tryz.prog ops Q rest (a.put o.dst v') w') :
    wpList Tryz.prog ops Q (o :: rest) a w := by
  refine wpList_plain hgd fun K hK => ?_
  refine app_wp ptElt s x ho base v ps.length _ hs hown A m c (ptVals qs) hx (by rw [ptVals_len, hm]) hq.src hA hsp (ptVals_one _) (by unfold maxLen; omega) (by omega) hbase fun v' w' h2 h3 h4 => hK _ _ ?_
  exact h v' w' (by unfold OwnP; rw [List.length_append, ptVals_app, hm]; exact h2) ((Below.refl _ _).grown h3 hbase hown.lt) h4 h3
/-- v[:k]. -/
theorem OwnP.take {w : World} {base : Nat} {A : Option Addr} {n c : Nat} {ps : List Pt} (h : OwnP w base (.slice A n c) ps) {k : Nat} (hk : k ≤ n) (h0 : A = none → k = 0 ∧ c = 0) : OwnP w base (.slice A k c) (ps.take k) := by
  have hl := h.pts.1
  unfold OwnP at h ⊢
  rw [← ptVals_take]
  refine ⟨by rw [List.length_take, List.length_take, ptVals_len]; omega, ?_⟩
  rw [List.length_take, Nat.min_eq_left (by omega)]
  rcases h.2 with ⟨hv, h1⟩ | ⟨g, cap, cur, hv, hg, hgg, hnc, hcm, hsz, htk⟩
  · injection hv with e1 e2 e3
    subst e1 e2 e3
    exact .inl ⟨by rw [show k = 0 by omega], by omega⟩
  · injection hv with e1 e2 e3
    subst e1 e2 e3
    exact .inr ⟨g, c, cur, rfl, hg, hgg, by omega, hcm, hsz, by rw [← htk, List.take_take, Nat.min_eq_left (by omega)]⟩
/-- A point written at place i. -/
theorem OwnP.set {w : World} {base g : Nat} {n c : Nat} {ps : List Pt} (h : OwnP w base (.slice (some ⟨g, 0, none⟩) n c) ps) {i : Nat} (hi : i < n) (x y : Int) :
    OwnP ((w.setCell ⟨g, i * 2, none⟩ (.int .i64 x)).setCell ⟨g, i * 2 + 1, none⟩ (.int .i64 y)) base (.slice (some ⟨g, 0, none⟩) n c) (ps.set i ⟨x, y⟩) := by
  have hl := h.pts.1
  unfold OwnP at h ⊢
  rcases h.2 with ⟨hv, h1⟩ | ⟨g', cap, cur, hv, hg, hgg, hnc, hcm, hsz, htk⟩
  · cases hv
  · injection hv with e1 e2 e3
    injection e1 with e1
    injection e1 with e1
    subst e1 e3
    refine ⟨by rw [ptVals_len], .inr ⟨g, c, (cur.setIfInBounds (i * 2) (.int .i64 x)).setIfInBounds (i * 2 + 1) (.int .i64 y), by rw [List.length_set, hl], hg, by simp [World.setCell, Array.getElem?_modify, hgg], by rw [List.length_set]; omega, hcm, by simpa using hsz, ?_⟩⟩
    rw [List.length_set]
    apply List.ext_getElem?
    intro j
    have hat : ∀ j, j < ps.length * 2 → cur[j]? = (ptVals ps)[j]? := fun j hj => by
      rw [← htk, List.getElem?_take, if_pos hj, Array.getElem?_toList]
    rw [List.getElem?_take]
    split
    · rename_i hj
      rw [Array.getElem?_toList]
      obtain ⟨q1, q2⟩ := ptVals_at (ps.set i ⟨x, y⟩) (j / 2) (by rw [List.length_set]; omega)
      obtain ⟨r1, r2⟩ := ptVals_at ps (j / 2) (by omega)
      by_cases hji : j / 2 = i
      · have ex : pX (ps.set i ⟨x, y⟩) (j / 2) = x := by unfold pX gp; rw [List.getD_eq_getElem?_getD, hji, List.getElem?_set_self (by omega)]; rfl
        have ey : pY (ps.set i ⟨x, y⟩) (j / 2) = y := by unfold pY gp; rw [List.getD_eq_getElem?_getD, hji, List.getElem?_set_self (by omega)]; rfl
        rw [ex] at q1
        rw [ey] at q2
        rcases Nat.mod_two_eq_zero_or_one j with hm | hm
        · rw [show j / 2 * 2 = j from by omega] at q1
          rw [q1, Array.getElem?_setIfInBounds_ne (by omega), show i * 2 = j from by omega, Array.getElem?_setIfInBounds_self, if_pos (by omega)]
        · rw [show j / 2 * 2 + 1 = j from by omega] at q2
          rw [q2, show i * 2 + 1 = j from by omega, Array.getElem?_setIfInBounds_self, if_pos (by simp; omega)]
      · have ex : pX (ps.set i ⟨x, y⟩) (j / 2) = pX ps (j / 2) := by unfold pX gp; rw [List.getD_eq_getElem?_getD, List.getElem?_set_ne (by omega), ← List.getD_eq_getElem?_getD]
        have ey : pY (ps.set i ⟨x, y⟩) (j / 2) = pY ps (j / 2) := by unfold pY gp; rw [List.getD_eq_getElem?_getD, List.getElem?_set_ne (by omega), ← List.getD_eq_getElem?_getD]
        rw [Array.getElem?_setIfInBounds_ne (by omega), Array.getElem?_setIfInBounds_ne (by omega), hat j hj]
        rcases Nat.mod_two_eq_zero_or_one j with hm | hm
        · rw [show j / 2 * 2 = j from by omega] at q1 r1
          rw [q1, r1, ex]
        · rw [show j / 2 * 2 + 1 = j from by omega] at q2 r2
          rw [q2, r2, ey]
    · rename_i hj
      rw [List.getElem?_eq_none]
      rw [ptVals_len, List.length_set]; omega
theorem OwnP.head {w : World} {base : Nat} {A : Option Addr} {n c : Nat} {ps : List Pt} (h : OwnP w base (.slice A n c) ps) (hn : 0 < n) :
    ∃ gb, A = some ⟨gb, 0, none⟩ ∧ base ≤ gb ∧ gb < w.heap.size ∧ (∀ j, w.frozen? ⟨gb, j, none⟩ = false) ∧ ∀ i, i < n → w.cell? ⟨gb, i * 2, none⟩ = some (.int .i64 (pX ps i)) ∧ w.cell? ⟨gb, i * 2 + 1, none⟩ = some (.int .i64 (pY ps i)) := by
  have hp := h.pts
  unfold OwnP at h
  rcases h.2 with ⟨hv, h0⟩ | ⟨g, cap, cur, hv, hg, hgg, hnc, hcm, hsz, htk⟩
  · injection hv with h1 h2 h3
    omega
  · injection hv with h1 h2 h3
    subst h1
    obtain ⟨b, o, hA, _, hc⟩ := hp.2.2.2 (by omega)
    injection hA with hA; injection hA with e1 e2
    subst e1 e2
    refine ⟨g, rfl, hg, (Array.getElem?_eq_some_iff.1 hgg).1, fun j => heap_frozen hgg j, fun i hi => ?_⟩
    have := hc i (by omega)
    rwa [Nat.zero_add] at this
theorem OwnP.far {w : World} {base : Nat} {v : Value} {ps : List Pt} (h : OwnP w base v ps) {q : Addr} (hq : ∀ k, v.ownBlock = some k → k ≠ q.block) (u : Value) : OwnP (w.setCell q u) base v ps :=
  own_block h fun k hk => Below.heap_setCell w q u k (hq k hk)
end Go.Proofs.YtnddfdhfefconaaGreatDoor
/- Rows of ints: append of many, a store, a cut. -/
set_option linter.unusedVariables false
set_option linter.unusedSimpArgs false
namespace Go.Proofs.YtnddfdhfefconaaGreatDoor
open Go.RowKit

theorem intElt : Elt 63 3 1 8 (.int .i64 0) := ⟨Tryz.underlying63, by kernel_rfl, rfl, by decide⟩
theorem IntsAt.src {w : World} {B : Nat} {A : Option Addr} {zs : List Int} (h : IntsAt w B A zs) : Src w A (zs.map (Value.int .i64)) := fun h0 => by
  rw [List.length_map] at h0
  obtain ⟨b, o, hA, _, hc⟩ := h h0
  refine ⟨b, o, hA, fun j u hu => ?_⟩
  have hj : j < zs.length := by have := (List.getElem?_eq_some_iff.1 hu).1; simpa using this
  rw [List.getElem?_map, List.getElem?_eq_getElem hj] at hu
  injection hu with hu
  rw [hc j hj, gi_lt hj, hu]
theorem Own.form {w : World} {base : Nat} {A : Option Addr} {n c : Nat} {zs : List Int} (h : Own w base (.slice A n c) zs) : (A = none → n = 0) ∧ ∀ b o s, A = some ⟨b, o, s⟩ → s = none := by
  unfold Own at h
  rcases h.2 with ⟨hv, h1⟩ | ⟨g, cap, cur, hv, _⟩
  · injection hv with e1 e2 e3
    subst e1 e2
    exact ⟨fun _ => rfl, (fun b o s h => by cases h)⟩
  · injection hv with e1 e2 e3
    subst e1
    exact ⟨(fun h => by cases h), (fun b o s h => by injection h with h; injection h with _ _ h; exact h.symm)⟩
theorem Own.lt2 {w : World} {base : Nat} {v : Value} {zs : List Int} (h : Own w base v zs) : ∀ k, v.ownBlock = some k → k < w.heap.size := fun k hk => (World.ownsRow.lt h k hk).2
theorem Own.empty (w : World) (base : Nat) (hb : base ≤ w.heap.size) : Own (w.alloc (.cells #[] 3)) base (.slice (some ⟨w.heap.size, 0, none⟩) 0 0) [] :=
  ⟨rfl, .inr ⟨w.heap.size, 0, #[], rfl, hb, heap_alloc_new w _, Nat.le_refl _, by simp [maxLen], rfl, rfl⟩⟩
theorem Own.head {w : World} {base : Nat} {A : Option Addr} {n c : Nat} {zs : List Int} (h : Own w base (.slice A n c) zs) (hn : 0 < n) :
    ∃ gb, A = some ⟨gb, 0, none⟩ ∧ base ≤ gb ∧ gb < w.heap.size ∧ (∀ j, w.frozen? ⟨gb, j, none⟩ = false) ∧ ∀ i, i < n → w.cell? ⟨gb, i, none⟩ = some (.int .i64 (gi zs i)) := by
  have hp := h.ints
  unfold Own at h
  rcases h.2 with ⟨hv, h0⟩ | ⟨g, cap, cur, hv, hg, hgg, hnc, hcm, hsz, htk⟩
  · injection hv with h1 h2 h3
    omega
  · injection hv with h1 h2 h3
    subst h1
    obtain ⟨b, o, hA, _, hc⟩ := hp.2.2.2 (by omega)
    injection hA with hA; injection hA with e1 e2
    subst e1 e2
    refine ⟨g, rfl, hg, (Array.getElem?_eq_some_iff.1 hgg).1, fun j => heap_frozen hgg j, fun i hi => ?_⟩
    have := hc i (by omega)
    rwa [Nat.zero_add] at this
theorem Own.set {w : World} {base g : Nat} {n c : Nat} {zs : List Int} (h : Own w base (.slice (some ⟨g, 0, none⟩) n c) zs) {i : Nat} (hi : i < n) (x : Int) :
    Own (w.setCell ⟨g, i, none⟩ (.int .i64 x)) base (.slice (some ⟨g, 0, none⟩) n c) (zs.set i x) := by
  have hl := h.ints.1
  unfold Own at h ⊢
  rcases h.2 with ⟨hv, h1⟩ | ⟨g', cap, cur, hv, hg, hgg, hnc, hcm, hsz, htk⟩
  · cases hv
  · injection hv with e1 e2 e3
    injection e1 with e1
    injection e1 with e1
    subst e1 e3
    refine ⟨by simp, .inr ⟨g, c, cur.setIfInBounds i (.int .i64 x), by rw [List.length_set, hl], hg, by simp [World.setCell, Array.getElem?_modify, hgg], by rw [List.length_set]; omega, hcm, by simpa using hsz, ?_⟩⟩
    rw [List.length_set, List.map_set]
    have e : (cur.setIfInBounds i (.int .i64 x)).toList = cur.toList.set i (.int .i64 x) := by simp
    rw [e, List.take_set, htk]
theorem IntsAt.cut {w : World} {B b o a m : Nat} {zs : List Int} (h : IntsAt w B (some ⟨b, o, none⟩) zs) (hm : a + m ≤ zs.length) : IntsAt w B (some ⟨b, o + a, none⟩) ((zs.drop a).take m) := fun hn => by
  have hl : ((zs.drop a).take m).length = m := by rw [List.length_take, List.length_drop]; omega
  obtain ⟨b', o', hA, hB, hc⟩ := h (by omega)
  injection hA with hA; injection hA with h1 h2 _
  subst h1 h2
  refine ⟨b, o + a, rfl, hB, fun i hi => ?_⟩
  rw [hl] at hi
  have e : gi ((zs.drop a).take m) i = gi zs (a + i) := by
    unfold gi; rw [List.getD_eq_getElem?_getD, List.getD_eq_getElem?_getD, List.getElem?_take, if_pos hi, List.getElem?_drop]
  rw [e, show o + a + i = o + (a + i) from by omega]
  exact hc (a + i) (by omega)
theorem ints_one (zs : List Int) : ∀ u ∈ zs.map (Value.int .i64), u.oneCell' = true := fun u hu => by
  obtain ⟨z, _, rfl⟩ := List.mem_map.1 hu
  rfl
theorem ints_wp {o : Oper} {a : Act} {K : Act → World → Prop} {Q : Exit → Act → World → Prop} {w : World} (s x : Operand)
    (ho : o.op = .call { callee := .builtin .append, args := #[s, x], argTypes := #[63, 63] })
    (base : Nat) (v : Value) (zs : List Int) (hs : a.eval s = v) (hown : Own w base v zs) (A : Option Addr) (m c B : Nat) (ys : List Int) (hx : a.eval x = .slice A m c) (hm : ys.length = m) (hq : IntsAt w B A ys) (hA : (A = none → m = 0) ∧ ∀ b o s, A = some ⟨b, o, s⟩ → s = none)
    (hlen : zs.length ≤ 2000000) (hlen2 : m ≤ 2000000) (hbase : base ≤ w.heap.size)
    (h : ∀ v' w', Own w' base v' (zs ++ ys) → Below base w w' → (v'.ownBlock = v.ownBlock ∨ v'.ownBlock = some w.heap.size) → w.grownBy w' v.ownBlock → K (a.put o.dst v') w') : o.wp Tryz.prog a w K Q := by
  refine app_wp intElt s x ho base v zs.length _ hs hown A m c (ys.map (Value.int .i64)) hx (by rw [List.length_map, hm]; omega) hq.src hA.1 hA.2 (ints_one _) (by unfold maxLen; omega) (by omega) hbase fun v' w' h2 h3 h4 => ?_
  exact h v' w' (by unfold Own; rw [List.length_append, List.map_append, hm]; exact h2) ((Below.refl _ _).grown h3 hbase hown.lt) h4 h3
/-- append(v, ys...). -/
theorem app_ints {ops : Array Oper} {rest : List Oper} {o : Oper} {a : Act} {Q : Exit → Act → World → Prop} {w : World} (hgd : o.guard = none) (s x : Operand)
    (ho : o.op = .call { callee := .builtin .append, args := #[s, x], argTypes := #[63, 63] })
    (base : Nat) (v : Value) (zs : List Int) (hs : a.eval s = v) (hown : Own w base v zs) (A : Option Addr) (m c B : Nat) (ys : List Int) (hx : a.eval x = .slice A m c) (hm : ys.length = m) (hq : IntsAt w B A ys) (hA : (A = none → m = 0) ∧ ∀ b o s, A = some ⟨b, o, s⟩ → s = none)
    (hlen : zs.length ≤ 2000000) (hlen2 : m ≤ 2000000) (hbase : base ≤ w.heap.size)
    (h : ∀ v' w', Own w' base v' (zs ++ ys) → Below base w w' → (v'.ownBlock = v.ownBlock ∨ v'.ownBlock = some w.heap.size) → w.grownBy w' v.ownBlock → wpList Tryz.prog ops Q rest (a.put o.dst v') w') :
    wpList Tryz.prog ops Q (o :: rest) a w :=
  wpList_plain hgd fun K hK => ints_wp s x ho base v zs hs hown A m c B ys hx hm hq hA hlen hlen2 hbase fun v' w' h1 h2 h3 h4 => hK _ _ (h v' w' h1 h2 h3 h4)
theorem step_ints {ops : Array Oper} {o : Oper} {a : Act} {K : Act → World → Prop} {Q : Exit → Act → World → Prop} {E : Prop} {w : World} (hgd : o.guard = none) (s x : Operand)
    (ho : o.op = .call { callee := .builtin .append, args := #[s, x], argTypes := #[63, 63] })
    (base : Nat) (v : Value) (zs : List Int) (hs : a.eval s = v) (hown : Own w base v zs) (A : Option Addr) (m c B : Nat) (ys : List Int) (hx : a.eval x = .slice A m c) (hm : ys.length = m) (hq : IntsAt w B A ys) (hA : (A = none → m = 0) ∧ ∀ b o s, A = some ⟨b, o, s⟩ → s = none)
    (hlen : zs.length ≤ 2000000) (hlen2 : m ≤ 2000000) (hbase : base ≤ w.heap.size)
    (h : ∀ v' w', Own w' base v' (zs ++ ys) → Below base w w' → (v'.ownBlock = v.ownBlock ∨ v'.ownBlock = some w.heap.size) → w.grownBy w' v.ownBlock → K (a.put o.dst v') w') :
    if Region.wanted o (yielded ops a.tmps) = true then Oper.wp Tryz.prog o a w K Q else E := by
  have hw : Region.wanted o (yielded ops a.tmps) = true := by simp [Region.wanted, hgd]
  rw [if_pos hw]
  exact ints_wp s x ho base v zs hs hown A m c B ys hx hm hq hA hlen hlen2 hbase h
end Go.Proofs.YtnddfdhfefconaaGreatDoor
/- A row of numbers of the call's own, its block perhaps longer; Clip at numbers. -/
set_option linter.unusedVariables false
set_option linter.unusedSimpArgs false
namespace Go.Proofs.YtnddfdhfefconaaGreatDoor
open Go.RowKit

/-- The slice at A is a row of ints of the call's own, at block base or later; its block may be longer. -/
def IRow (w : World) (base : Nat) (A : Option Addr) (zs : List Int) : Prop :=
  0 < zs.length → ∃ g m f, A = some ⟨g, 0, none⟩ ∧ base ≤ g ∧ zs.length ≤ m ∧ RowAt w g 3 m f ∧ ∀ i, i < zs.length → f i = .int .i64 (gi zs i)
theorem IRow.nil (w : World) (base : Nat) (A : Option Addr) : IRow w base A [] := fun h => absurd h (Nat.lt_irrefl 0)
theorem IRow.below {w W : World} {base : Nat} {A : Option Addr} {zs : List Int} (h : IRow w base A zs) (hb : Below w.heap.size w W) : IRow W base A zs := fun h0 => by
  obtain ⟨g, m, f, hA, hg, hm, hr, hf⟩ := h h0
  exact ⟨g, m, f, hA, hg, hm, hr.below hb hr.lt, hf⟩
theorem IRow.more {w : World} {base base' : Nat} {A : Option Addr} {zs : List Int} (h : IRow w base A zs) (hb : base' ≤ base) : IRow w base' A zs := fun h0 => by
  obtain ⟨g, m, f, hA, hg, hm, hr, hf⟩ := h h0
  exact ⟨g, m, f, hA, Nat.le_trans hb hg, hm, hr, hf⟩
theorem IRow.ints {w : World} {base : Nat} {A : Option Addr} {zs : List Int} (h : IRow w base A zs) : IntsAt w w.heap.size A zs := fun h0 => by
  obtain ⟨g, m, f, hA, hg, hm, hr, hf⟩ := h h0
  exact ⟨g, 0, hA, hr.lt, fun i hi => by rw [Nat.zero_add, hr.cell (by omega), hf i hi]⟩
set_option maxHeartbeats 400000 in
theorem clipN_any (A : Option Addr) (n c : Nat) (w : World) (hn : n ≤ c) (hc : c ≤ 9223372036854775807) (hA : 0 < n → A ≠ none) :
    Calls Tryz.prog 142 #[.slice A n c] w fun e w' => e = .returned (.slice A n n) ∧ w = w' := by
  go_enter Tryz.func142, Tryz.ntmps142
  go_wp2
  go_ret
  exact ⟨rfl, rfl⟩
end Go.Proofs.YtnddfdhfefconaaGreatDoor
