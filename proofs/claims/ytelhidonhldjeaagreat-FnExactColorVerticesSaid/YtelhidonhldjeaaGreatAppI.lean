
/- Rows of ints: append of many, a store, a cut. -/
import Derived.Test.YtelhidonhldjeaaGreatVals
import Derived.OwnWalk
set_option linter.unusedVariables false
set_option linter.unusedSimpArgs false
namespace Go.Proofs.YtelhidonhldjeaaGreat
open Go.RowKit

theorem intElt : Elt 24 3 1 8 (.int .i64 0) := ⟨Tryz.underlying24, by kernel_rfl, rfl, by decide⟩
theorem IntsAt.src {w : World} {B : Nat} {A : Option Addr} {zs : List Int} (h : IntsAt w B A zs) : Src w A (zs.map (Value.int .i64)) := fun h0 => by
  rw [List.length_map] at h0
  obtain ⟨b, o, hA, _, hc⟩ := h h0
  refine ⟨b, o, hA, fun j u hu => ?_⟩
  have hj : j < zs.length := by have := (List.getElem?_eq_some_iff.1 hu).1; simpa using this
  rw [List.getElem?_map, List.getElem?_eq_getElem hj] at hu
  injection hu with hu
  rw [hc j hj, gi_lt hj, hu]
theorem Own.form {w : World} {base : Nat} {A : Option Addr} {n c : Nat} {zs : List Int} (h : Own w base (.slice A n c) zs) : (A = none → n = 0) ∧ ∀ b o s, A = some ⟨b, o, s⟩ → s = none := by
  unfold Own at h
  rcases h.2 with ⟨hv, h1⟩ | ⟨g, cap, cur, hv, _⟩
  · injection hv with e1 e2 e3
    subst e1 e2
    exact ⟨fun _ => rfl, (fun b o s h => by cases h)⟩
  · injection hv with e1 e2 e3
    subst e1
    exact ⟨(fun h => by cases h), (fun b o s h => by injection h with h; injection h with _ _ h; exact h.symm)⟩
theorem Own.lt2 {w : World} {base : Nat} {v : Value} {zs : List Int} (h : Own w base v zs) : ∀ k, v.ownBlock = some k → k < w.heap.size := fun k hk => (World.ownsRow.lt h k hk).2
theorem Own.empty (w : World) (base : Nat) (hb : base ≤ w.heap.size) : Own (w.alloc (.cells #[] 3)) base (.slice (some ⟨w.heap.size, 0, none⟩) 0 0) [] :=
  ⟨rfl, .inr ⟨w.heap.size, 0, #[], rfl, hb, heap_alloc_new w _, Nat.le_refl _, by simp [maxLen], rfl, rfl⟩⟩
theorem Own.head {w : World} {base : Nat} {A : Option Addr} {n c : Nat} {zs : List Int} (h : Own w base (.slice A n c) zs) (hn : 0 < n) :
    ∃ gb, A = some ⟨gb, 0, none⟩ ∧ base ≤ gb ∧ gb < w.heap.size ∧ (∀ j, w.frozen? ⟨gb, j, none⟩ = false) ∧ ∀ i, i < n → w.cell? ⟨gb, i, none⟩ = some (.int .i64 (gi zs i)) := by
  have hp := h.ints
  unfold Own at h
  rcases h.2 with ⟨hv, h0⟩ | ⟨g, cap, cur, hv, hg, hgg, hnc, hcm, hsz, htk⟩
  · injection hv with h1 h2 h3
    omega
  · injection hv with h1 h2 h3
    subst h1
    obtain ⟨b, o, hA, _, hc⟩ := hp.2.2.2 (by omega)
    injection hA with hA; injection hA with e1 e2
    subst e1 e2
    refine ⟨g, rfl, hg, (Array.getElem?_eq_some_iff.1 hgg).1, fun j => heap_frozen hgg j, fun i hi => ?_⟩
    have := hc i (by omega)
    rwa [Nat.zero_add] at this
theorem Own.set {w : World} {base g : Nat} {n c : Nat} {zs : List Int} (h : Own w base (.slice (some ⟨g, 0, none⟩) n c) zs) {i : Nat} (hi : i < n) (x : Int) :
    Own (w.setCell ⟨g, i, none⟩ (.int .i64 x)) base (.slice (some ⟨g, 0, none⟩) n c) (zs.set i x) := by
  have hl := h.ints.1
  unfold Own at h ⊢
  rcases h.2 with ⟨hv, h1⟩ | ⟨g', cap, cur, hv, hg, hgg, hnc, hcm, hsz, htk⟩
  · cases hv
  · injection hv with e1 e2 e3
    injection e1 with e1
    injection e1 with e1
    subst e1 e3
    refine ⟨by simp, .inr ⟨g, c, cur.setIfInBounds i (.int .i64 x), by rw [List.length_set, hl], hg, by simp [World.setCell, Array.getElem?_modify, hgg], by rw [List.length_set]; omega, hcm, by simpa using hsz, ?_⟩⟩
    rw [List.length_set, List.map_set]
    have e : (cur.setIfInBounds i (.int .i64 x)).toList = cur.toList.set i (.int .i64 x) := by simp
    rw [e, List.take_set, htk]
theorem IntsAt.cut {w : World} {B b o a m : Nat} {zs : List Int} (h : IntsAt w B (some ⟨b, o, none⟩) zs) (hm : a + m ≤ zs.length) : IntsAt w B (some ⟨b, o + a, none⟩) ((zs.drop a).take m) := fun hn => by
  have hl : ((zs.drop a).take m).length = m := by rw [List.length_take, List.length_drop]; omega
  obtain ⟨b', o', hA, hB, hc⟩ := h (by omega)
  injection hA with hA; injection hA with h1 h2 _
  subst h1 h2
  refine ⟨b, o + a, rfl, hB, fun i hi => ?_⟩
  rw [hl] at hi
  have e : gi ((zs.drop a).take m) i = gi zs (a + i) := by
    unfold gi; rw [List.getD_eq_getElem?_getD, List.getD_eq_getElem?_getD, List.getElem?_take, if_pos hi, List.getElem?_drop]
  rw [e, show o + a + i = o + (a + i) from by omega]
  exact hc (a + i) (by omega)
theorem ints_one (zs : List Int) : ∀ u ∈ zs.map (Value.int .i64), u.oneCell' = true := fun u hu => by
  obtain ⟨z, _, rfl⟩ := List.mem_map.1 hu
  rfl
theorem ints_wp {o : Oper} {a : Act} {K : Act → World → Prop} {Q : Exit → Act → World → Prop} {w : World} (s x : Operand)
    (ho : o.op = .call { callee := .builtin .append, args := #[s, x], argTypes := #[24, 24] })
    (base : Nat) (v : Value) (zs : List Int) (hs : a.eval s = v) (hown : Own w base v zs) (A : Option Addr) (m c B : Nat) (ys : List Int) (hx : a.eval x = .slice A m c) (hm : ys.length = m) (hq : IntsAt w B A ys) (hA : (A = none → m = 0) ∧ ∀ b o s, A = some ⟨b, o, s⟩ → s = none)
    (hlen : zs.length ≤ 2000000) (hlen2 : m ≤ 2000000) (hbase : base ≤ w.heap.size)
    (h : ∀ v' w', Own w' base v' (zs ++ ys) → Below base w w' → (v'.ownBlock = v.ownBlock ∨ v'.ownBlock = some w.heap.size) → w.grownBy w' v.ownBlock → K (a.put o.dst v') w') : o.wp Tryz.prog a w K Q := by
  refine app_wp intElt s x ho base v zs.length _ hs hown A m c (ys.map (Value.int .i64)) hx (by rw [List.length_map, hm]; omega) hq.src hA.1 hA.2 (ints_one _) (by unfold maxLen; omega) (by omega) hbase fun v' w' h2 h3 h4 => ?_
  exact h v' w' (by unfold Own; rw [List.length_append, List.map_append, hm]; exact h2) ((Below.refl _ _).grown h3 hbase hown.lt) h4 h3
/-- append(v, ys...). -/
theorem app_ints {ops : Array Oper} {rest : List Oper} {o : Oper} {a : Act} {Q : Exit → Act → World → Prop} {w : World} (hgd : o.guard = none) (s x : Operand)
    (ho : o.op = .call { callee := .builtin .append, args := #[s, x], argTypes := #[24, 24] })
    (base : Nat) (v : Value) (zs : List Int) (hs : a.eval s = v) (hown : Own w base v zs) (A : Option Addr) (m c B : Nat) (ys : List Int) (hx : a.eval x = .slice A m c) (hm : ys.length = m) (hq : IntsAt w B A ys) (hA : (A = none → m = 0) ∧ ∀ b o s, A = some ⟨b, o, s⟩ → s = none)
    (hlen : zs.length ≤ 2000000) (hlen2 : m ≤ 2000000) (hbase : base ≤ w.heap.size)
    (h : ∀ v' w', Own w' base v' (zs ++ ys) → Below base w w' → (v'.ownBlock = v.ownBlock ∨ v'.ownBlock = some w.heap.size) → w.grownBy w' v.ownBlock → wpList Tryz.prog ops Q rest (a.put o.dst v') w') :
    wpList Tryz.prog ops Q (o :: rest) a w :=
  wpList_plain hgd fun K hK => ints_wp s x ho base v zs hs hown A m c B ys hx hm hq hA hlen hlen2 hbase fun v' w' h1 h2 h3 h4 => hK _ _ (h v' w' h1 h2 h3 h4)
theorem step_ints {ops : Array Oper} {o : Oper} {a : Act} {K : Act → World → Prop} {Q : Exit → Act → World → Prop} {E : Prop} {w : World} (hgd : o.guard = none) (s x : Operand)
    (ho : o.op = .call { callee := .builtin .append, args := #[s, x], argTypes := #[24, 24] })
    (base : Nat) (v : Value) (zs : List Int) (hs : a.eval s = v) (hown : Own w base v zs) (A : Option Addr) (m c B : Nat) (ys : List Int) (hx : a.eval x = .slice A m c) (hm : ys.length = m) (hq : IntsAt w B A ys) (hA : (A = none → m = 0) ∧ ∀ b o s, A = some ⟨b, o, s⟩ → s = none)
    (hlen : zs.length ≤ 2000000) (hlen2 : m ≤ 2000000) (hbase : base ≤ w.heap.size)
    (h : ∀ v' w', Own w' base v' (zs ++ ys) → Below base w w' → (v'.ownBlock = v.ownBlock ∨ v'.ownBlock = some w.heap.size) → w.grownBy w' v.ownBlock → K (a.put o.dst v') w') :
    if Region.wanted o (yielded ops a.tmps) = true then Oper.wp Tryz.prog o a w K Q else E := by
  have hw : Region.wanted o (yielded ops a.tmps) = true := by simp [Region.wanted, hgd]
  rw [if_pos hw]
  exact ints_wp s x ho base v zs hs hown A m c B ys hx hm hq hA hlen hlen2 hbase h
end Go.Proofs.YtelhidonhldjeaaGreat
