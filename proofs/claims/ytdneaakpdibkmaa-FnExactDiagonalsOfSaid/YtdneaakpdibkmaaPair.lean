
/- Rows of pairs of ints (printed off XVals and XSHull by tools/genpair.py). -/
import Derived.Test.YtdneaakpdibkmaaVals
import Derived.Test.YtdneaakpdibkmaaFunc
import Derived.BigRegion
import Derived.Deep.RegionHeld3
set_option linter.unusedVariables false
set_option linter.unusedSimpArgs false
namespace Go.Proofs.Ytdneaakpdibkmaa
open Go.RowKit
/-- The slice v is a row of points of the call's own, at block base or later. -/
def OwnR (w : World) (base : Nat) (v : Value) (ps : List Pt) : Prop := w.ownsRow base 51 2 v ps.length (ptVals ps)
theorem prElt : Elt 40 51 2 16 (.agg #[.int .i64 0, .int .i64 0]) := ⟨Try.underlying40, by kernel_rfl, rfl, by decide⟩
theorem OwnR.below {w W : World} {base : Nat} {v : Value} {ps : List Pt} (h : OwnR w base v ps) (hb : Below w.heap.size w W) : OwnR W base v ps := own_below h hb
theorem OwnR.base {w : World} {base base' : Nat} {v : Value} {ps : List Pt} (h : OwnR w base v ps) (hb : base' ≤ base) : OwnR w base' v ps := own_base h hb
theorem OwnR.lt {w : World} {base : Nat} {v : Value} {ps : List Pt} (h : OwnR w base v ps) : ∀ k, v.ownBlock = some k → base ≤ k := fun k hk => (World.ownsRow.lt h k hk).1
theorem OwnR.lt2 {w : World} {base : Nat} {v : Value} {ps : List Pt} (h : OwnR w base v ps) : ∀ k, v.ownBlock = some k → k < w.heap.size := fun k hk => (World.ownsRow.lt h k hk).2
theorem OwnR.nil (w : World) (base : Nat) : OwnR w base (.slice none 0 0) [] := World.ownsRow_nil w base _ 2
theorem OwnR.slice {w : World} {base : Nat} {v : Value} {ps : List Pt} (h : OwnR w base v ps) : ∃ A n c, v = .slice A n c := by
  unfold OwnR at h
  rcases h.2 with ⟨hv, _⟩ | ⟨g, cap, cur, hv, _⟩
  · exact ⟨_, _, _, hv⟩
  · exact ⟨_, _, _, hv⟩
/-- What such a row is known for, its block among it. -/
theorem OwnR.pts {w : World} {base : Nat} {A : Option Addr} {n c : Nat} {ps : List Pt} (h : OwnR w base (.slice A n c) ps) : ps.length = n ∧ n ≤ c ∧ c ≤ maxLen ∧ PtsAt w w.heap.size A ps := by
  unfold OwnR at h
  rcases h.2 with ⟨hv, h0⟩ | ⟨g, cap, cur, hv, hg, hgg, hnc, hcm, hsz, htk⟩
  · injection hv with h1 h2 h3
    subst h1 h2 h3
    exact ⟨h0, Nat.le_refl _, by simp [maxLen], fun hn => by omega⟩
  · injection hv with h1 h2 h3
    subst h1 h2 h3
    refine ⟨rfl, hnc, hcm, Src.pts (fun j u hu => ?_) (Array.getElem?_eq_some_iff.1 hgg).1⟩
    have hj : j < ps.length * 2 := by rw [← ptVals_len]; exact (List.getElem?_eq_some_iff.1 hu).1
    rw [← htk, List.getElem?_take, if_pos hj] at hu
    simp [World.cell?, hgg, ← Array.getElem?_toList, hu]
theorem OwnR.empty (w : World) (base c : Nat) (hb : base ≤ w.heap.size) (cur : Array Value) (hc : cur.size = c * 2) (hm : c ≤ maxLen) : OwnR (w.alloc (.cells cur 51)) base (.slice (some ⟨w.heap.size, 0, none⟩) 0 c) [] :=
  ⟨rfl, .inr ⟨w.heap.size, c, cur, rfl, hb, heap_alloc_new w _, Nat.zero_le _, hm, hc, by simp [ptVals]⟩⟩
/-- append(v, p), p stored in a block of its own. -/
theorem app_pr {ops : Array Oper} {rest : List Oper} {o : Oper} {a : Act} {Q : Exit → Act → World → Prop} {w : World} (hgd : o.guard = none) (s x : Operand)
    (ho : o.op = .call { callee := .builtin .append, args := #[s, x], argTypes := #[40, 40] })
    (base : Nat) (v : Value) (ps : List Pt) (hs : a.eval s = v) (hown : OwnR w base v ps) (p q : Int) (b c : Nat) (hx : a.eval x = .slice (some ⟨b, 0, none⟩) 1 c) (h0 : w.cell? ⟨b, 0, none⟩ = some (.int .i64 p)) (h1 : w.cell? ⟨b, 1, none⟩ = some (.int .i64 q))
    (hlen : ps.length ≤ 2000000) (hbase : base ≤ w.heap.size)
    (h : ∀ v' w', OwnR w' base v' (ps ++ [⟨p, q⟩]) → Below base w w' → (v'.ownBlock = v.ownBlock ∨ v'.ownBlock = some w.heap.size) → w.grownBy w' v.ownBlock → wpList Try.prog ops Q rest (a.put o.dst v') w') :
    wpList Try.prog ops Q (o :: rest) a w := by
  refine wpList_plain hgd fun K hK => ?_
  refine app_wp prElt s x ho base v ps.length _ hs hown (some ⟨b, 0, none⟩) 1 c (ptVals [⟨p, q⟩]) hx rfl (fun _ => ⟨b, 0, rfl, fun j u hu => ?_⟩) (fun h => by cases h) (fun b o s h => by injection h with h; injection h with _ _ h3; exact h3.symm) (ptVals_one _) (by unfold maxLen; omega) (by omega) hbase fun v' w' h2 h3 h4 => hK _ _ ?_
  · match j with
    | 0 => simp [ptVals] at hu; subst hu; simpa using h0
    | 1 => simp [ptVals] at hu; subst hu; simpa using h1
    | j + 2 => simp [ptVals] at hu
  · exact h v' w' (by unfold OwnR; rw [List.length_append, ptVals_app]; exact h2) ((Below.refl _ _).grown h3 hbase hown.lt) h4 h3
/-- append(v, qs...). -/
theorem app_prs {ops : Array Oper} {rest : List Oper} {o : Oper} {a : Act} {Q : Exit → Act → World → Prop} {w : World} (hgd : o.guard = none) (s x : Operand)
    (ho : o.op = .call { callee := .builtin .append, args := #[s, x], argTypes := #[40, 40] })
    (base : Nat) (v : Value) (ps : List Pt) (hs : a.eval s = v) (hown : OwnR w base v ps) (A : Option Addr) (m c B : Nat) (qs : List Pt) (hx : a.eval x = .slice A m c) (hm : qs.length = m) (hq : PtsAt w B A qs) (hA : A = none → m = 0) (hsp : ∀ b o s, A = some ⟨b, o, s⟩ → s = none)
    (hlen : ps.length ≤ 2000000) (hlen2 : m ≤ 2000000) (hbase : base ≤ w.heap.size)
    (h : ∀ v' w', OwnR w' base v' (ps ++ qs) → Below base w w' → (v'.ownBlock = v.ownBlock ∨ v'.ownBlock = some w.heap.size) → w.grownBy w' v.ownBlock → wpList Try.prog ops Q rest (a.put o.dst v') w') :
    wpList Try.prog ops Q (o :: rest) a w := by
  refine wpList_plain hgd fun K hK => ?_
  refine app_wp prElt s x ho base v ps.length _ hs hown A m c (ptVals qs) hx (by rw [ptVals_len, hm]) hq.src hA hsp (ptVals_one _) (by unfold maxLen; omega) (by omega) hbase fun v' w' h2 h3 h4 => hK _ _ ?_
  exact h v' w' (by unfold OwnR; rw [List.length_append, ptVals_app, hm]; exact h2) ((Below.refl _ _).grown h3 hbase hown.lt) h4 h3
/-- v[:k]. -/
theorem OwnR.take {w : World} {base : Nat} {A : Option Addr} {n c : Nat} {ps : List Pt} (h : OwnR w base (.slice A n c) ps) {k : Nat} (hk : k ≤ n) (h0 : A = none → k = 0 ∧ c = 0) : OwnR w base (.slice A k c) (ps.take k) := by
  have hl := h.pts.1
  unfold OwnR at h ⊢
  rw [← ptVals_take]
  refine ⟨by rw [List.length_take, List.length_take, ptVals_len]; omega, ?_⟩
  rw [List.length_take, Nat.min_eq_left (by omega)]
  rcases h.2 with ⟨hv, h1⟩ | ⟨g, cap, cur, hv, hg, hgg, hnc, hcm, hsz, htk⟩
  · injection hv with e1 e2 e3
    subst e1 e2 e3
    exact .inl ⟨by rw [show k = 0 by omega], by omega⟩
  · injection hv with e1 e2 e3
    subst e1 e2 e3
    exact .inr ⟨g, c, cur, rfl, hg, hgg, by omega, hcm, hsz, by rw [← htk, List.take_take, Nat.min_eq_left (by omega)]⟩
/-- A point written at place i. -/
theorem OwnR.set {w : World} {base g : Nat} {n c : Nat} {ps : List Pt} (h : OwnR w base (.slice (some ⟨g, 0, none⟩) n c) ps) {i : Nat} (hi : i < n) (x y : Int) :
    OwnR ((w.setCell ⟨g, i * 2, none⟩ (.int .i64 x)).setCell ⟨g, i * 2 + 1, none⟩ (.int .i64 y)) base (.slice (some ⟨g, 0, none⟩) n c) (ps.set i ⟨x, y⟩) := by
  have hl := h.pts.1
  unfold OwnR at h ⊢
  rcases h.2 with ⟨hv, h1⟩ | ⟨g', cap, cur, hv, hg, hgg, hnc, hcm, hsz, htk⟩
  · cases hv
  · injection hv with e1 e2 e3
    injection e1 with e1
    injection e1 with e1
    subst e1 e3
    refine ⟨by rw [ptVals_len], .inr ⟨g, c, (cur.setIfInBounds (i * 2) (.int .i64 x)).setIfInBounds (i * 2 + 1) (.int .i64 y), by rw [List.length_set, hl], hg, by simp [World.setCell, Array.getElem?_modify, hgg], by rw [List.length_set]; omega, hcm, by simpa using hsz, ?_⟩⟩
    rw [List.length_set]
    apply List.ext_getElem?
    intro j
    have hat : ∀ j, j < ps.length * 2 → cur[j]? = (ptVals ps)[j]? := fun j hj => by
      rw [← htk, List.getElem?_take, if_pos hj, Array.getElem?_toList]
    rw [List.getElem?_take]
    split
    · rename_i hj
      rw [Array.getElem?_toList]
      obtain ⟨q1, q2⟩ := ptVals_at (ps.set i ⟨x, y⟩) (j / 2) (by rw [List.length_set]; omega)
      obtain ⟨r1, r2⟩ := ptVals_at ps (j / 2) (by omega)
      by_cases hji : j / 2 = i
      · have ex : pX (ps.set i ⟨x, y⟩) (j / 2) = x := by unfold pX gp; rw [List.getD_eq_getElem?_getD, hji, List.getElem?_set_self (by omega)]; rfl
        have ey : pY (ps.set i ⟨x, y⟩) (j / 2) = y := by unfold pY gp; rw [List.getD_eq_getElem?_getD, hji, List.getElem?_set_self (by omega)]; rfl
        rw [ex] at q1
        rw [ey] at q2
        rcases Nat.mod_two_eq_zero_or_one j with hm | hm
        · rw [show j / 2 * 2 = j from by omega] at q1
          rw [q1, Array.getElem?_setIfInBounds_ne (by omega), show i * 2 = j from by omega, Array.getElem?_setIfInBounds_self, if_pos (by omega)]
        · rw [show j / 2 * 2 + 1 = j from by omega] at q2
          rw [q2, show i * 2 + 1 = j from by omega, Array.getElem?_setIfInBounds_self, if_pos (by simp; omega)]
      · have ex : pX (ps.set i ⟨x, y⟩) (j / 2) = pX ps (j / 2) := by unfold pX gp; rw [List.getD_eq_getElem?_getD, List.getElem?_set_ne (by omega), ← List.getD_eq_getElem?_getD]
        have ey : pY (ps.set i ⟨x, y⟩) (j / 2) = pY ps (j / 2) := by unfold pY gp; rw [List.getD_eq_getElem?_getD, List.getElem?_set_ne (by omega), ← List.getD_eq_getElem?_getD]
        rw [Array.getElem?_setIfInBounds_ne (by omega), Array.getElem?_setIfInBounds_ne (by omega), hat j hj]
        rcases Nat.mod_two_eq_zero_or_one j with hm | hm
        · rw [show j / 2 * 2 = j from by omega] at q1 r1
          rw [q1, r1, ex]
        · rw [show j / 2 * 2 + 1 = j from by omega] at q2 r2
          rw [q2, r2, ey]
    · rename_i hj
      rw [List.getElem?_eq_none]
      rw [ptVals_len, List.length_set]; omega
theorem OwnR.head {w : World} {base : Nat} {A : Option Addr} {n c : Nat} {ps : List Pt} (h : OwnR w base (.slice A n c) ps) (hn : 0 < n) :
    ∃ gb, A = some ⟨gb, 0, none⟩ ∧ base ≤ gb ∧ gb < w.heap.size ∧ (∀ j, w.frozen? ⟨gb, j, none⟩ = false) ∧ ∀ i, i < n → w.cell? ⟨gb, i * 2, none⟩ = some (.int .i64 (pX ps i)) ∧ w.cell? ⟨gb, i * 2 + 1, none⟩ = some (.int .i64 (pY ps i)) := by
  have hp := h.pts
  unfold OwnR at h
  rcases h.2 with ⟨hv, h0⟩ | ⟨g, cap, cur, hv, hg, hgg, hnc, hcm, hsz, htk⟩
  · injection hv with h1 h2 h3
    omega
  · injection hv with h1 h2 h3
    subst h1
    obtain ⟨b, o, hA, _, hc⟩ := hp.2.2.2 (by omega)
    injection hA with hA; injection hA with e1 e2
    subst e1 e2
    refine ⟨g, rfl, hg, (Array.getElem?_eq_some_iff.1 hgg).1, fun j => heap_frozen hgg j, fun i hi => ?_⟩
    have := hc i (by omega)
    rwa [Nat.zero_add] at this
theorem OwnR.far {w : World} {base : Nat} {v : Value} {ps : List Pt} (h : OwnR w base v ps) {q : Addr} (hq : ∀ k, v.ownBlock = some k → k ≠ q.block) (u : Value) : OwnR (w.setCell q u) base v ps :=
  own_block h fun k hk => Below.heap_setCell w q u k (hq k hk)
theorem step_prs {ops : Array Oper} {o : Oper} {a : Act} {K : Act → World → Prop} {Q : Exit → Act → World → Prop} {E : Prop} {w : World} (hgd : o.guard = none) (s x : Operand)
    (ho : o.op = .call { callee := .builtin .append, args := #[s, x], argTypes := #[40, 40] })
    (base : Nat) (v : Value) (ps : List Pt) (hs : a.eval s = v) (hown : OwnR w base v ps) (A : Option Addr) (m c B : Nat) (qs : List Pt) (hx : a.eval x = .slice A m c) (hm : qs.length = m) (hq : PtsAt w B A qs) (hA : (A = none → m = 0) ∧ ∀ b o s, A = some ⟨b, o, s⟩ → s = none)
    (hlen : ps.length ≤ 2000000) (hlen2 : m ≤ 2000000) (hbase : base ≤ w.heap.size)
    (h : ∀ v' w', OwnR w' base v' (ps ++ qs) → Below base w w' → (v'.ownBlock = v.ownBlock ∨ v'.ownBlock = some w.heap.size) → w.grownBy w' v.ownBlock → K (a.put o.dst v') w') :
    if Region.wanted o (yielded ops a.tmps) = true then Oper.wp Try.prog o a w K Q else E := by
  have hw : Region.wanted o (yielded ops a.tmps) = true := by simp [Region.wanted, hgd]
  rw [if_pos hw]
  refine app_wp prElt s x ho base v ps.length _ hs hown A m c (ptVals qs) hx (by rw [ptVals_len, hm]) hq.src hA.1 hA.2 (ptVals_one _) (by unfold maxLen; omega) (by omega) hbase fun v' w' h2 h3 h4 => ?_
  exact h v' w' (by unfold OwnR; rw [List.length_append, ptVals_app, hm]; exact h2) ((Below.refl _ _).grown h3 hbase hown.lt) h4 h3
theorem step_pr {ops : Array Oper} {o : Oper} {a : Act} {K : Act → World → Prop} {Q : Exit → Act → World → Prop} {E : Prop} {w : World} (hgd : o.guard = none) (s x : Operand)
    (ho : o.op = .call { callee := .builtin .append, args := #[s, x], argTypes := #[40, 40] })
    (base : Nat) (v : Value) (ps : List Pt) (hs : a.eval s = v) (hown : OwnR w base v ps) (p q : Int) (b c : Nat) (hx : a.eval x = .slice (some ⟨b, 0, none⟩) 1 c) (h0 : w.cell? ⟨b, 0, none⟩ = some (.int .i64 p)) (h1 : w.cell? ⟨b, 1, none⟩ = some (.int .i64 q))
    (hlen : ps.length ≤ 2000000) (hbase : base ≤ w.heap.size)
    (h : ∀ v' w', OwnR w' base v' (ps ++ [⟨p, q⟩]) → Below base w w' → (v'.ownBlock = v.ownBlock ∨ v'.ownBlock = some w.heap.size) → w.grownBy w' v.ownBlock → K (a.put o.dst v') w') :
    if Region.wanted o (yielded ops a.tmps) = true then Oper.wp Try.prog o a w K Q else E :=
  step_prs (B := b + 1) hgd s x ho base v ps hs hown (some ⟨b, 0, none⟩) 1 c [⟨p, q⟩] hx rfl (fun _ => ⟨b, 0, rfl, Nat.lt_succ_self _, fun i hi => by
    have : i = 0 := by simp at hi; exact hi
    subst this
    exact ⟨by simpa [pX, gp] using h0, by simpa [pY, gp] using h1⟩⟩) ⟨(fun h => by cases h), (fun b o s h => by injection h with h; injection h with _ _ h3; exact h3.symm)⟩ hlen (by omega) hbase h
end Go.Proofs.Ytdneaakpdibkmaa
