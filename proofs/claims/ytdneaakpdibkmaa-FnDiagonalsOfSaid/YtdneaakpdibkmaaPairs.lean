
import Derived.Test.YtdneaakpdibkmaaVals
import Derived.Test.YtdneaakpdibkmaaFunc
import Derived.BigRegion
import Derived.Deep.RegionHeld3
import Derived.Test.YtdneaakpdibkmaaSorted
import Derived.Test.YtdneaakpdibkmaaTri
import Derived.Test.YtdneaakpdibkmaaHlp2
import Derived.Lib.SliceRun
/- Rows of pairs of ints (printed off XVals and XSHull by tools/genpair.py). -/
set_option linter.unusedVariables false
set_option linter.unusedSimpArgs false
namespace Go.Proofs.Ytdneaakpdibkmaa
open Go.RowKit
/-- The slice v is a row of points of the call's own, at block base or later. -/
def OwnR (w : World) (base : Nat) (v : Value) (ps : List Pt) : Prop := w.ownsRow base 51 2 v ps.length (ptVals ps)
theorem prElt : Elt 40 51 2 16 (.agg #[.int .i64 0, .int .i64 0]) := ⟨Try.underlying40, by kernel_rfl, rfl, by decide⟩
theorem OwnR.below {w W : World} {base : Nat} {v : Value} {ps : List Pt} (h : OwnR w base v ps) (hb : Below w.heap.size w W) : OwnR W base v ps := own_below h hb
theorem OwnR.base {w : World} {base base' : Nat} {v : Value} {ps : List Pt} (h : OwnR w base v ps) (hb : base' ≤ base) : OwnR w base' v ps := own_base h hb
theorem OwnR.lt {w : World} {base : Nat} {v : Value} {ps : List Pt} (h : OwnR w base v ps) : ∀ k, v.ownBlock = some k → base ≤ k := fun k hk => (World.ownsRow.lt h k hk).1
theorem OwnR.lt2 {w : World} {base : Nat} {v : Value} {ps : List Pt} (h : OwnR w base v ps) : ∀ k, v.ownBlock = some k → k < w.heap.size := fun k hk => (World.ownsRow.lt h k hk).2
theorem OwnR.nil (w : World) (base : Nat) : OwnR w base (.slice none 0 0) [] := World.ownsRow_nil w base _ 2
theorem OwnR.slice {w : World} {base : Nat} {v : Value} {ps : List Pt} (h : OwnR w base v ps) : ∃ A n c, v = .slice A n c := by
  unfold OwnR at h
  rcases h.2 with ⟨hv, _⟩ | ⟨g, cap, cur, hv, _⟩
  · exact ⟨_, _, _, hv⟩
  · exact ⟨_, _, _, hv⟩
/-- What such a row is known for, its block among it. -/
theorem OwnR.pts {w : World} {base : Nat} {A : Option Addr} {n c : Nat} {ps : List Pt} (h : OwnR w base (.slice A n c) ps) : ps.length = n ∧ n ≤ c ∧ c ≤ maxLen ∧ PtsAt w w.heap.size A ps := by
  unfold OwnR at h
  rcases h.2 with ⟨hv, h0⟩ | ⟨g, cap, cur, hv, hg, hgg, hnc, hcm, hsz, htk⟩
  · injection hv with h1 h2 h3
    subst h1 h2 h3
    exact ⟨h0, Nat.le_refl _, by simp [maxLen], fun hn => by omega⟩
  · injection hv with h1 h2 h3
    subst h1 h2 h3
    refine ⟨rfl, hnc, hcm, Src.pts (fun j u hu => ?_) (Array.getElem?_eq_some_iff.1 hgg).1⟩
    have hj : j < ps.length * 2 := by rw [← ptVals_len]; exact (List.getElem?_eq_some_iff.1 hu).1
    rw [← htk, List.getElem?_take, if_pos hj] at hu
    simp [World.cell?, hgg, ← Array.getElem?_toList, hu]
theorem OwnR.empty (w : World) (base c : Nat) (hb : base ≤ w.heap.size) (cur : Array Value) (hc : cur.size = c * 2) (hm : c ≤ maxLen) : OwnR (w.alloc (.cells cur 51)) base (.slice (some ⟨w.heap.size, 0, none⟩) 0 c) [] :=
  ⟨rfl, .inr ⟨w.heap.size, c, cur, rfl, hb, heap_alloc_new w _, Nat.zero_le _, hm, hc, by simp [ptVals]⟩⟩
/-- append(v, p), p stored in a block of its own. -/
theorem app_pr {ops : Array Oper} {rest : List Oper} {o : Oper} {a : Act} {Q : Exit → Act → World → Prop} {w : World} (hgd : o.guard = none) (s x : Operand)
    (ho : o.op = .call { callee := .builtin .append, args := #[s, x], argTypes := #[40, 40] })
    (base : Nat) (v : Value) (ps : List Pt) (hs : a.eval s = v) (hown : OwnR w base v ps) (p q : Int) (b c : Nat) (hx : a.eval x = .slice (some ⟨b, 0, none⟩) 1 c) (h0 : w.cell? ⟨b, 0, none⟩ = some (.int .i64 p)) (h1 : w.cell? ⟨b, 1, none⟩ = some (.int .i64 q))
    (hlen : ps.length ≤ 2000000) (hbase : base ≤ w.heap.size)
    (h : ∀ v' w', OwnR w' base v' (ps ++ [⟨p, q⟩]) → Below base w w' → (v'.ownBlock = v.ownBlock ∨ v'.ownBlock = some w.heap.size) → w.grownBy w' v.ownBlock → wpList Try.prog ops Q rest (a.put o.dst v') w') :
    wpList Try.prog ops Q (o :: rest) a w := by
  refine wpList_plain hgd fun K hK => ?_
  refine app_wp prElt s x ho base v ps.length _ hs hown (some ⟨b, 0, none⟩) 1 c (ptVals [⟨p, q⟩]) hx rfl (fun _ => ⟨b, 0, rfl, fun j u hu => ?_⟩) (fun h => by cases h) (fun b o s h => by injection h with h; injection h with _ _ h3; exact h3.symm) (ptVals_one _) (by unfold maxLen; omega) (by omega) hbase fun v' w' h2 h3 h4 => hK _ _ ?_
  · match j with
    | 0 => simp [ptVals] at hu; subst hu; simpa using h0
    | 1 => simp [ptVals] at hu; subst hu; simpa using h1
    | j + 2 => simp [ptVals] at hu
  · exact h v' w' (by unfold OwnR; rw [List.length_append, ptVals_app]; exact h2) ((Below.refl _ _).grown h3 hbase hown.lt) h4 h3
/-- append(v, qs...). -/
theorem app_prs {ops : Array Oper} {rest : List Oper} {o : Oper} {a : Act} {Q : Exit → Act → World → Prop} {w : World} (hgd : o.guard = none) (s x : Operand)
    (ho : o.op = .call { callee := .builtin .append, args := #[s, x], argTypes := #[40, 40] })
    (base : Nat) (v : Value) (ps : List Pt) (hs : a.eval s = v) (hown : OwnR w base v ps) (A : Option Addr) (m c B : Nat) (qs : List Pt) (hx : a.eval x = .slice A m c) (hm : qs.length = m) (hq : PtsAt w B A qs) (hA : A = none → m = 0) (hsp : ∀ b o s, A = some ⟨b, o, s⟩ → s = none)
    (hlen : ps.length ≤ 2000000) (hlen2 : m ≤ 2000000) (hbase : base ≤ w.heap.size)
    (h : ∀ v' w', OwnR w' base v' (ps ++ qs) → Below base w w' → (v'.ownBlock = v.ownBlock ∨ v'.ownBlock = some w.heap.size) → w.grownBy w' v.ownBlock → wpList Try.prog ops Q rest (a.put o.dst v') w') :
    wpList Try.prog ops Q (o :: rest) a w := by
  refine wpList_plain hgd fun K hK => ?_
  refine app_wp prElt s x ho base v ps.length _ hs hown A m c (ptVals qs) hx (by rw [ptVals_len, hm]) hq.src hA hsp (ptVals_one _) (by unfold maxLen; omega) (by omega) hbase fun v' w' h2 h3 h4 => hK _ _ ?_
  exact h v' w' (by unfold OwnR; rw [List.length_append, ptVals_app, hm]; exact h2) ((Below.refl _ _).grown h3 hbase hown.lt) h4 h3
/-- v[:k]. -/
theorem OwnR.take {w : World} {base : Nat} {A : Option Addr} {n c : Nat} {ps : List Pt} (h : OwnR w base (.slice A n c) ps) {k : Nat} (hk : k ≤ n) (h0 : A = none → k = 0 ∧ c = 0) : OwnR w base (.slice A k c) (ps.take k) := by
  have hl := h.pts.1
  unfold OwnR at h ⊢
  rw [← ptVals_take]
  refine ⟨by rw [List.length_take, List.length_take, ptVals_len]; omega, ?_⟩
  rw [List.length_take, Nat.min_eq_left (by omega)]
  rcases h.2 with ⟨hv, h1⟩ | ⟨g, cap, cur, hv, hg, hgg, hnc, hcm, hsz, htk⟩
  · injection hv with e1 e2 e3
    subst e1 e2 e3
    exact .inl ⟨by rw [show k = 0 by omega], by omega⟩
  · injection hv with e1 e2 e3
    subst e1 e2 e3
    exact .inr ⟨g, c, cur, rfl, hg, hgg, by omega, hcm, hsz, by rw [← htk, List.take_take, Nat.min_eq_left (by omega)]⟩
/-- A point written at place i. -/
theorem OwnR.set {w : World} {base g : Nat} {n c : Nat} {ps : List Pt} (h : OwnR w base (.slice (some ⟨g, 0, none⟩) n c) ps) {i : Nat} (hi : i < n) (x y : Int) :
    OwnR ((w.setCell ⟨g, i * 2, none⟩ (.int .i64 x)).setCell ⟨g, i * 2 + 1, none⟩ (.int .i64 y)) base (.slice (some ⟨g, 0, none⟩) n c) (ps.set i ⟨x, y⟩) := by
  have hl := h.pts.1
  unfold OwnR at h ⊢
  rcases h.2 with ⟨hv, h1⟩ | ⟨g', cap, cur, hv, hg, hgg, hnc, hcm, hsz, htk⟩
  · cases hv
  · injection hv with e1 e2 e3
    injection e1 with e1
    injection e1 with e1
    subst e1 e3
    refine ⟨by rw [ptVals_len], .inr ⟨g, c, (cur.setIfInBounds (i * 2) (.int .i64 x)).setIfInBounds (i * 2 + 1) (.int .i64 y), by rw [List.length_set, hl], hg, by simp [World.setCell, Array.getElem?_modify, hgg], by rw [List.length_set]; omega, hcm, by simpa using hsz, ?_⟩⟩
    rw [List.length_set]
    apply List.ext_getElem?
    intro j
    have hat : ∀ j, j < ps.length * 2 → cur[j]? = (ptVals ps)[j]? := fun j hj => by
      rw [← htk, List.getElem?_take, if_pos hj, Array.getElem?_toList]
    rw [List.getElem?_take]
    split
    · rename_i hj
      rw [Array.getElem?_toList]
      obtain ⟨q1, q2⟩ := ptVals_at (ps.set i ⟨x, y⟩) (j / 2) (by rw [List.length_set]; omega)
      obtain ⟨r1, r2⟩ := ptVals_at ps (j / 2) (by omega)
      by_cases hji : j / 2 = i
      · have ex : pX (ps.set i ⟨x, y⟩) (j / 2) = x := by unfold pX gp; rw [List.getD_eq_getElem?_getD, hji, List.getElem?_set_self (by omega)]; rfl
        have ey : pY (ps.set i ⟨x, y⟩) (j / 2) = y := by unfold pY gp; rw [List.getD_eq_getElem?_getD, hji, List.getElem?_set_self (by omega)]; rfl
        rw [ex] at q1
        rw [ey] at q2
        rcases Nat.mod_two_eq_zero_or_one j with hm | hm
        · rw [show j / 2 * 2 = j from by omega] at q1
          rw [q1, Array.getElem?_setIfInBounds_ne (by omega), show i * 2 = j from by omega, Array.getElem?_setIfInBounds_self, if_pos (by omega)]
        · rw [show j / 2 * 2 + 1 = j from by omega] at q2
          rw [q2, show i * 2 + 1 = j from by omega, Array.getElem?_setIfInBounds_self, if_pos (by simp; omega)]
      · have ex : pX (ps.set i ⟨x, y⟩) (j / 2) = pX ps (j / 2) := by unfold pX gp; rw [List.getD_eq_getElem?_getD, List.getElem?_set_ne (by omega), ← List.getD_eq_getElem?_getD]
        have ey : pY (ps.set i ⟨x, y⟩) (j / 2) = pY ps (j / 2) := by unfold pY gp; rw [List.getD_eq_getElem?_getD, List.getElem?_set_ne (by omega), ← List.getD_eq_getElem?_getD]
        rw [Array.getElem?_setIfInBounds_ne (by omega), Array.getElem?_setIfInBounds_ne (by omega), hat j hj]
        rcases Nat.mod_two_eq_zero_or_one j with hm | hm
        · rw [show j / 2 * 2 = j from by omega] at q1 r1
          rw [q1, r1, ex]
        · rw [show j / 2 * 2 + 1 = j from by omega] at q2 r2
          rw [q2, r2, ey]
    · rename_i hj
      rw [List.getElem?_eq_none]
      rw [ptVals_len, List.length_set]; omega
theorem OwnR.head {w : World} {base : Nat} {A : Option Addr} {n c : Nat} {ps : List Pt} (h : OwnR w base (.slice A n c) ps) (hn : 0 < n) :
    ∃ gb, A = some ⟨gb, 0, none⟩ ∧ base ≤ gb ∧ gb < w.heap.size ∧ (∀ j, w.frozen? ⟨gb, j, none⟩ = false) ∧ ∀ i, i < n → w.cell? ⟨gb, i * 2, none⟩ = some (.int .i64 (pX ps i)) ∧ w.cell? ⟨gb, i * 2 + 1, none⟩ = some (.int .i64 (pY ps i)) := by
  have hp := h.pts
  unfold OwnR at h
  rcases h.2 with ⟨hv, h0⟩ | ⟨g, cap, cur, hv, hg, hgg, hnc, hcm, hsz, htk⟩
  · injection hv with h1 h2 h3
    omega
  · injection hv with h1 h2 h3
    subst h1
    obtain ⟨b, o, hA, _, hc⟩ := hp.2.2.2 (by omega)
    injection hA with hA; injection hA with e1 e2
    subst e1 e2
    refine ⟨g, rfl, hg, (Array.getElem?_eq_some_iff.1 hgg).1, fun j => heap_frozen hgg j, fun i hi => ?_⟩
    have := hc i (by omega)
    rwa [Nat.zero_add] at this
theorem OwnR.far {w : World} {base : Nat} {v : Value} {ps : List Pt} (h : OwnR w base v ps) {q : Addr} (hq : ∀ k, v.ownBlock = some k → k ≠ q.block) (u : Value) : OwnR (w.setCell q u) base v ps :=
  own_block h fun k hk => Below.heap_setCell w q u k (hq k hk)
theorem step_prs {ops : Array Oper} {o : Oper} {a : Act} {K : Act → World → Prop} {Q : Exit → Act → World → Prop} {E : Prop} {w : World} (hgd : o.guard = none) (s x : Operand)
    (ho : o.op = .call { callee := .builtin .append, args := #[s, x], argTypes := #[40, 40] })
    (base : Nat) (v : Value) (ps : List Pt) (hs : a.eval s = v) (hown : OwnR w base v ps) (A : Option Addr) (m c B : Nat) (qs : List Pt) (hx : a.eval x = .slice A m c) (hm : qs.length = m) (hq : PtsAt w B A qs) (hA : (A = none → m = 0) ∧ ∀ b o s, A = some ⟨b, o, s⟩ → s = none)
    (hlen : ps.length ≤ 2000000) (hlen2 : m ≤ 2000000) (hbase : base ≤ w.heap.size)
    (h : ∀ v' w', OwnR w' base v' (ps ++ qs) → Below base w w' → (v'.ownBlock = v.ownBlock ∨ v'.ownBlock = some w.heap.size) → w.grownBy w' v.ownBlock → K (a.put o.dst v') w') :
    if Region.wanted o (yielded ops a.tmps) = true then Oper.wp Try.prog o a w K Q else E := by
  have hw : Region.wanted o (yielded ops a.tmps) = true := by simp [Region.wanted, hgd]
  rw [if_pos hw]
  refine app_wp prElt s x ho base v ps.length _ hs hown A m c (ptVals qs) hx (by rw [ptVals_len, hm]) hq.src hA.1 hA.2 (ptVals_one _) (by unfold maxLen; omega) (by omega) hbase fun v' w' h2 h3 h4 => ?_
  exact h v' w' (by unfold OwnR; rw [List.length_append, ptVals_app, hm]; exact h2) ((Below.refl _ _).grown h3 hbase hown.lt) h4 h3
theorem step_pr {ops : Array Oper} {o : Oper} {a : Act} {K : Act → World → Prop} {Q : Exit → Act → World → Prop} {E : Prop} {w : World} (hgd : o.guard = none) (s x : Operand)
    (ho : o.op = .call { callee := .builtin .append, args := #[s, x], argTypes := #[40, 40] })
    (base : Nat) (v : Value) (ps : List Pt) (hs : a.eval s = v) (hown : OwnR w base v ps) (p q : Int) (b c : Nat) (hx : a.eval x = .slice (some ⟨b, 0, none⟩) 1 c) (h0 : w.cell? ⟨b, 0, none⟩ = some (.int .i64 p)) (h1 : w.cell? ⟨b, 1, none⟩ = some (.int .i64 q))
    (hlen : ps.length ≤ 2000000) (hbase : base ≤ w.heap.size)
    (h : ∀ v' w', OwnR w' base v' (ps ++ [⟨p, q⟩]) → Below base w w' → (v'.ownBlock = v.ownBlock ∨ v'.ownBlock = some w.heap.size) → w.grownBy w' v.ownBlock → K (a.put o.dst v') w') :
    if Region.wanted o (yielded ops a.tmps) = true then Oper.wp Try.prog o a w K Q else E :=
  step_prs (B := b + 1) hgd s x ho base v ps hs hown (some ⟨b, 0, none⟩) 1 c [⟨p, q⟩] hx rfl (fun _ => ⟨b, 0, rfl, Nat.lt_succ_self _, fun i hi => by
    have : i = 0 := by simp at hi; exact hi
    subst this
    exact ⟨by simpa [pX, gp] using h0, by simpa [pY, gp] using h1⟩⟩) ⟨(fun h => by cases h), (fun b o s h => by injection h with h; injection h with _ _ h3; exact h3.symm)⟩ hlen (by omega) hbase h
end Go.Proofs.Ytdneaakpdibkmaa
/- Pairs: the program's list of all pairs, the library's DeleteFunc and Clip at pairs, equal lists of pairs. -/
set_option linter.unusedVariables false
set_option linter.unusedSimpArgs false
namespace Go.Proofs.Ytdneaakpdibkmaa
open Go.RowKit

theorem run_neR (a b c d : Int) (w : World) : (binOp .neq 51 (.agg #[.int .i64 a, .int .i64 b]) (.agg #[.int .i64 c, .int .i64 d])).run Try.prog w = .ok (.bool (!eqP a b c d)) w := by
  by_cases h1 : a = c <;> by_cases h2 : b = d <;> simp [eqP, h1, h2, go_sem]
theorem OwnR.form {w : World} {base : Nat} {A : Option Addr} {n c : Nat} {ps : List Pt} (h : OwnR w base (.slice A n c) ps) : Plain A n ∧ (A = none → c = 0) := by
  unfold OwnR at h
  rcases h.2 with ⟨hv, _⟩ | ⟨g, cap, cur, hv, _⟩
  · injection hv with e1 e2 e3
    subst e1 e2 e3
    exact ⟨Plain.none rfl, fun _ => rfl⟩
  · injection hv with e1 e2 e3
    subst e1
    exact ⟨Plain.some, (fun h => by cases h)⟩
theorem OwnR.clip {w : World} {base : Nat} {A : Option Addr} {n c : Nat} {ps : List Pt} (h : OwnR w base (.slice A n c) ps) : ps.length = n ∧ PtsAt w w.heap.size A ps ∧ Plain A n := ⟨h.pts.1, h.pts.2.2.2, h.form.1⟩
theorem box_ext (w : World) (v : Value) (T : TypeId) (y : World) : (ext (w.alloc (.cells #[v] T)) y).cell? ⟨w.heap.size, 0, none⟩ = some v ∧ w.heap.size + 1 ≤ (ext (w.alloc (.cells #[v] T)) y).heap.size ∧ Below w.heap.size w (ext (w.alloc (.cells #[v] T)) y) := by
  have h1 : (w.alloc (.cells #[v] T)).heap.size = w.heap.size + 1 := by simp
  refine ⟨((ext_below (w.alloc (.cells #[v] T)) y).cell (p := ⟨w.heap.size, 0, none⟩) (show w.heap.size < (w.alloc (.cells #[v] T)).heap.size by omega)).trans ?_, by rw [← h1]; exact ext_size _ y, ?_⟩
  · simp
  · exact (by (repeat' (first | (with_reducible exact Below.refl _ _) | (with_reducible assumption) | (with_reducible refine below_ext _ ?_ ?_) | (with_reducible refine Below.alloc ?_ ?_ _) | (with_reducible refine Below.drew ?_) | (with_reducible refine below_drewN ?_ _) | (with_reducible refine le_drewN _ ?_) | (with_reducible refine Below.setCell ?_ ?_ _) | (with_reducible exact Nat.le_refl _) | (with_reducible refine le_ext _ ?_) | (with_reducible refine le_alloc _ ?_) | (with_reducible refine le_setCell _ _ ?_) | (with_reducible refine le_drew ?_) | omega | (simp; done) | (simp; omega))))
set_option maxHeartbeats 400000 in
theorem equalPairs_any (ps qs : List Pt) (A A' : Option Addr) (n c n' c' : Nat) (w : World) (hn : ps.length = n) (hn' : qs.length = n') (hm : n ≤ 2000000) (hm' : n' ≤ 2000000) (hs : PtsAt w w.heap.size A ps) (hs' : PtsAt w w.heap.size A' qs) :
    Calls Try.prog 40 #[.slice A n c, .slice A' n' c'] w fun e w' => e = .returned (.bool (decide (ps = qs))) ∧ ∃ m, w' = ext w m := by
  by_cases hnn : n = n'
  · subst hnn
    have HN := hide hn
    have HN' := hide hn'
    have N := @run_neR
    clear hn hn'
    go_enter Try.func40, Try.ntmps40
    go_wp2
    go_loopw [5] (fun v wr => ∃ k : Nat, k ≤ n ∧ v = .int .i64 k ∧ Hid (∀ j, j < k → eqP (pX ps j) (pY ps j) (pX qs j) (pY qs j) = true) ∧ ∃ x, wr = ext w x) (fun v _ => n - (intOf v).toNat)
    case atStart => exact ⟨0, Nat.zero_le _, rfl, fun j hj => by omega, ext_same w⟩
    case round =>
      obtain ⟨k, hk, rfl, hp, x, rfl⟩ := hrel
      by_cases hlt : k < n
      · obtain ⟨b, o, rfl, hb, hc⟩ := hs (by rw [HN.out]; omega)
        obtain ⟨hx, hy⟩ := hc k (by rw [HN.out]; omega)
        obtain ⟨b', o', rfl, hb', hc'⟩ := hs' (by rw [HN'.out]; omega)
        obtain ⟨hx', hy'⟩ := hc' k (by rw [HN'.out]; omega)
        have hsz := ext_size w x
        clear hc hc'
        cases ht : eqP (pX ps k) (pY ps k) (pX qs k) (pY qs k)
        · have R := hide (decide_eq_false (p := ps = qs) (fun h => by rw [h, eqP_iff.2 ⟨rfl, rfl⟩] at ht; cases ht))
          go_wp2
          refine wp_region_ext (by kernel_rfl) (by kernel_rfl) ?_
          repeat (go_big_quiet_step (fail))
          refine wpQuiet_nil ?_
          rintro _ hnq
          have hzq := ext_sz hnq
          obtain ⟨nq, rfl⟩ := hnq
          (try simp at hzq)
          go_wp2
          go_ret
          exact ⟨ret_bool R.out.symm, (ext_mk (by (repeat' (first | (with_reducible exact Below.refl _ _) | (with_reducible assumption) | (with_reducible refine below_ext _ ?_ ?_) | (with_reducible refine Below.alloc ?_ ?_ _) | (with_reducible refine Below.drew ?_) | (with_reducible refine below_drewN ?_ _) | (with_reducible refine le_drewN _ ?_) | (with_reducible refine Below.setCell ?_ ?_ _) | (with_reducible exact Nat.le_refl _) | (with_reducible refine le_ext _ ?_) | (with_reducible refine le_alloc _ ?_) | (with_reducible refine le_setCell _ _ ?_) | (with_reducible refine le_drew ?_) | omega | (simp; done) | (simp; omega)))))⟩
        · have HT := hide ht
          go_wp2
          refine wp_region_ext (by kernel_rfl) (by kernel_rfl) ?_
          repeat (go_big_quiet_step (fail))
          refine wpQuiet_nil ?_
          rintro _ hnq
          have hzq := ext_sz hnq
          obtain ⟨nq, rfl⟩ := hnq
          (try simp at hzq)
          go_wp2
          exact ⟨⟨k + 1, by omega, by go_num, fun j hj => by rcases Nat.lt_succ_iff_lt_or_eq.1 hj with h | rfl; exact hp.out j h; exact HT.out, (ext_mk (by (repeat' (first | (with_reducible exact Below.refl _ _) | (with_reducible assumption) | (with_reducible refine below_ext _ ?_ ?_) | (with_reducible refine Below.alloc ?_ ?_ _) | (with_reducible refine Below.drew ?_) | (with_reducible refine below_drewN ?_ _) | (with_reducible refine le_drewN _ ?_) | (with_reducible refine Below.setCell ?_ ?_ _) | (with_reducible exact Nat.le_refl _) | (with_reducible refine le_ext _ ?_) | (with_reducible refine le_alloc _ ?_) | (with_reducible refine le_setCell _ _ ?_) | (with_reducible refine le_drew ?_) | omega | (simp; done) | (simp; omega)))))⟩, by simp [intOf]; omega⟩
      · have : k = n := by omega
        subst this
        go_wp2
        go_ret
        exact ⟨ret_bool (decide_eq_true (pts_eq2 (by rw [HN.out, HN'.out]) (fun i hi => hp.out i (by rw [← HN.out]; exact hi)))).symm, (ext_mk (by (repeat' (first | (with_reducible exact Below.refl _ _) | (with_reducible assumption) | (with_reducible refine below_ext _ ?_ ?_) | (with_reducible refine Below.alloc ?_ ?_ _) | (with_reducible refine Below.drew ?_) | (with_reducible refine below_drewN ?_ _) | (with_reducible refine le_drewN _ ?_) | (with_reducible refine Below.setCell ?_ ?_ _) | (with_reducible exact Nat.le_refl _) | (with_reducible refine le_ext _ ?_) | (with_reducible refine le_alloc _ ?_) | (with_reducible refine le_setCell _ _ ?_) | (with_reducible refine le_drew ?_) | omega | (simp; done) | (simp; omega)))))⟩
  · have hne : ((n : Int) != n') = true := by rw [bne_iff_ne]; omega
    have R := hide (decide_eq_false (p := ps = qs) (fun h => hnn (by rw [← hn, ← hn', h])))
    clear hn hn'
    go_enter Try.func40, Try.ntmps40
    go_wp2
    go_ret
    exact ⟨ret_bool R.out.symm, (ext_mk (by (repeat' (first | (with_reducible exact Below.refl _ _) | (with_reducible assumption) | (with_reducible refine below_ext _ ?_ ?_) | (with_reducible refine Below.alloc ?_ ?_ _) | (with_reducible refine Below.drew ?_) | (with_reducible refine below_drewN ?_ _) | (with_reducible refine le_drewN _ ?_) | (with_reducible refine Below.setCell ?_ ?_ _) | (with_reducible exact Nat.le_refl _) | (with_reducible refine le_ext _ ?_) | (with_reducible refine le_alloc _ ?_) | (with_reducible refine le_setCell _ _ ?_) | (with_reducible refine le_drew ?_) | omega | (simp; done) | (simp; omega)))))⟩
set_option maxHeartbeats 400000 in
theorem clipR_any (A : Option Addr) (n c : Nat) (w : World) (hn : n ≤ c) (hc : c ≤ 9223372036854775807) (hA : Plain A n) :
    Calls Try.prog 62 #[.slice A n c] w fun e w' => e = .returned (.slice A n n) ∧ w = w' := by
  cases A with
  | none =>
    have := hA.1 rfl
    subst this
    go_enter Try.func62, Try.ntmps62
    go_wp2
    go_ret
    exact ⟨rfl, rfl⟩
  | some a =>
    go_enter Try.func62, Try.ntmps62
    go_wp2
    go_ret
    exact ⟨rfl, rfl⟩
/-! ### all pairs -/
def rowPr (a b : Nat) : List Pt := (List.range (b - (a + 1))).map fun t => ⟨(a : Int), ((a + 1 + t : Nat) : Int)⟩
def prsTo (n : Nat) : Nat → List Pt
  | 0 => []
  | a + 1 => prsTo n a ++ rowPr a n
def prL (n : Nat) : List Pt := prsTo n n
theorem rowPr_nil (a : Nat) : rowPr a (a + 1) = [] := by unfold rowPr; rw [Nat.sub_self]; rfl
theorem rowPr_succ {a b : Nat} (h : a + 1 ≤ b) : rowPr a (b + 1) = rowPr a b ++ [⟨(a : Int), (b : Int)⟩] := by
  unfold rowPr
  rw [show b + 1 - (a + 1) = b - (a + 1) + 1 by omega, List.range_succ, List.map_append, List.map_cons, List.map_nil, show a + 1 + (b - (a + 1)) = b by omega]
theorem rowPr_mem {a b : Nat} {d : Pt} : d ∈ rowPr a b ↔ ∃ k : Nat, a < k ∧ k < b ∧ d = ⟨(a : Int), (k : Int)⟩ := by
  unfold rowPr
  rw [List.mem_map]
  constructor
  · rintro ⟨t, ht, rfl⟩
    rw [List.mem_range] at ht
    exact ⟨a + 1 + t, by omega, by omega, rfl⟩
  · rintro ⟨k, h1, h2, rfl⟩
    exact ⟨k - (a + 1), List.mem_range.2 (by omega), by rw [show a + 1 + (k - (a + 1)) = k by omega]⟩
theorem prsTo_mem {n : Nat} {d : Pt} : ∀ {a : Nat}, d ∈ prsTo n a ↔ ∃ i k : Nat, i < a ∧ i < k ∧ k < n ∧ d = ⟨(i : Int), (k : Int)⟩
  | 0 => by
    constructor
    · intro h; cases h
    · rintro ⟨i, k, h, _⟩; omega
  | a + 1 => by
    unfold prsTo
    rw [List.mem_append, prsTo_mem, rowPr_mem]
    constructor
    · rintro (⟨i, k, h1, h2, h3, e⟩ | ⟨k, h1, h2, e⟩)
      · exact ⟨i, k, by omega, h2, h3, e⟩
      · exact ⟨a, k, by omega, h1, h2, e⟩
    · rintro ⟨i, k, h1, h2, h3, e⟩
      by_cases h : i = a
      · subst h; exact .inr ⟨k, h2, h3, e⟩
      · exact .inl ⟨i, k, by omega, h2, h3, e⟩
theorem rowPr_len (a b : Nat) : (rowPr a b).length = b - (a + 1) := by simp [rowPr]
theorem prsTo_len (n : Nat) : ∀ a, (prsTo n a).length ≤ a * n
  | 0 => by simp [prsTo]
  | a + 1 => by
    have := prsTo_len n a
    unfold prsTo
    rw [List.length_append, rowPr_len, Nat.succ_mul]; omega
set_option maxHeartbeats 1000000 in
theorem pairs_any (n : Nat) (w : World) (hm : n ≤ 1000) :
    Calls Try.prog 64 #[.int .i64 n] w fun e w' => ∃ v, e = .returned v ∧ OwnR w' w.heap.size v (prL n) ∧ ∃ x, w' = ext w x := by
  have NL := hide (prsTo_len n)
  have RL := hide rowPr_len
  have RS : Hid (∀ a b : Nat, a + 1 ≤ b → rowPr a (b + 1) = rowPr a b ++ [⟨(a : Int), (b : Int)⟩]) := hide (fun a b h => rowPr_succ h)
  have R0 := hide rowPr_nil
  have PS : Hid (∀ a, prsTo n (a + 1) = prsTo n a ++ rowPr a n) := hide (fun a => rfl)
  go_enter Try.func64, Try.ntmps64
  go_wp2_with fail
  go_loopw [3, 4, 8] (fun u3 _ u8 wr => ∃ a : Nat, a ≤ n ∧ u8 = .int .i64 a ∧ OwnR wr w.heap.size u3 (prsTo n a) ∧ Below w.heap.size w wr) (fun _ _ u8 _ => n - (intOf u8).toNat)
  case atStart => exact ⟨0, Nat.zero_le _, rfl, OwnR.empty w _ 0 (Nat.le_refl _) #[] rfl (by simp [maxLen]), (by (repeat' (first | (with_reducible exact Below.refl _ _) | (with_reducible assumption) | (with_reducible refine below_ext _ ?_ ?_) | (with_reducible refine Below.alloc ?_ ?_ _) | (with_reducible refine Below.drew ?_) | (with_reducible refine below_drewN ?_ _) | (with_reducible refine le_drewN _ ?_) | (with_reducible refine Below.setCell ?_ ?_ _) | (with_reducible exact Nat.le_refl _) | (with_reducible refine le_ext _ ?_) | (with_reducible refine le_alloc _ ?_) | (with_reducible refine le_setCell _ _ ?_) | (with_reducible refine le_drew ?_) | omega | (simp; done) | (simp; omega))))⟩
  case round =>
    obtain ⟨a, ha, rfl, hown, hbel⟩ := hrel
    obtain ⟨Ak, nk, ck, rfl⟩ := hown.slice
    have hsz := hbel.size
    have OWN := hide hown
    clear hown
    obtain ⟨W0, hW0⟩ : ∃ W0, W0 = wr := ⟨_, rfl⟩
    subst hW0
    by_cases hlt : a < n
    · go_wp2_with fail
      go_loopw [3, 5] (fun u3 u5 wr => ∃ b : Nat, a + 1 ≤ b ∧ b ≤ n ∧ u5 = .int .i64 b ∧ OwnR wr w.heap.size u3 (prsTo n a ++ rowPr a b) ∧ Below w.heap.size w wr) (fun _ u5 _ => n - (intOf u5).toNat)
      case atStart => exact ⟨a + 1, Nat.le_refl _, by omega, by go_num, by rw [R0.out, List.append_nil]; exact OWN.out, hbel⟩
      case round =>
        obtain ⟨b, hb1, hb2, rfl, hown, hbel2⟩ := hrel
        obtain ⟨Bk, mk, dk, rfl⟩ := hown.slice
        have hsz2 := hbel2.size
        have OWN2 := hide hown
        clear hown
        have hal : (prsTo n a ++ rowPr a b).length ≤ 2000000 := by
          have h1 := NL.out a
          have h2 : a * n ≤ 1000 * 1000 := Nat.mul_le_mul (by omega) hm
          rw [List.length_append, RL.out]; omega
        by_cases hlt2 : b < n
        · have NX := hide (RS.out a b hb1)
          go_wp2_with (at_builtin; refine app_pr rfl _ _ rfl w.heap.size (.slice Bk mk dk) (prsTo n a ++ rowPr a b) rfl (OWN2.out.below (by (repeat' (first | (with_reducible exact Below.refl _ _) | (with_reducible assumption) | (with_reducible refine below_ext _ ?_ ?_) | (with_reducible refine Below.alloc ?_ ?_ _) | (with_reducible refine Below.drew ?_) | (with_reducible refine below_drewN ?_ _) | (with_reducible refine le_drewN _ ?_) | (with_reducible refine Below.setCell ?_ ?_ _) | (with_reducible exact Nat.le_refl _) | (with_reducible refine le_ext _ ?_) | (with_reducible refine le_alloc _ ?_) | (with_reducible refine le_setCell _ _ ?_) | (with_reducible refine le_drew ?_) | omega | (simp; done) | (simp; omega))))) (a : Int) (b : Int) _ _ rfl (by simp [go_sem]) (by simp [go_sem]) hal (by simp; omega) ?_; intro v' w' hown' hb' hat hgr; obtain ⟨A', n', c', rfl⟩ := hown'.slice; have OWN' := hide hown'; clear hown' hat hgr)
          exact ⟨⟨b + 1, by omega, by omega, by go_num, by rw [NX.out, ← List.append_assoc]; exact OWN'.out, Below.trans (Below.trans hbel2 (by (repeat' (first | (with_reducible exact Below.refl _ _) | (with_reducible assumption) | (with_reducible refine below_ext _ ?_ ?_) | (with_reducible refine Below.alloc ?_ ?_ _) | (with_reducible refine Below.drew ?_) | (with_reducible refine below_drewN ?_ _) | (with_reducible refine le_drewN _ ?_) | (with_reducible refine Below.setCell ?_ ?_ _) | (with_reducible exact Nat.le_refl _) | (with_reducible refine le_ext _ ?_) | (with_reducible refine le_alloc _ ?_) | (with_reducible refine le_setCell _ _ ?_) | (with_reducible refine le_drew ?_) | omega | (simp; done) | (simp; omega))))) hb'⟩, by simp [intOf]; omega⟩
        · have eb : b = n := by omega
          subst eb
          go_wp2_with fail
          exact ⟨⟨a + 1, by omega, by go_num, by rw [PS.out]; exact OWN2.out, hbel2⟩, by simp [intOf]; omega⟩
    · have ea : a = n := by omega
      subst ea
      go_wp2
      go_ret
      exact ⟨_, rfl, OWN.out, ext_mk hbel⟩
set_option maxHeartbeats 400000 in
theorem IndexFuncR_any (g : Nat) (lb : Array Value) (p : Nat → Bool) (ps : List Pt) (A : Option Addr) (n c : Nat) (w : World) (hn : ps.length = n) (hm : n ≤ 2000000) (eg : ∀ args w, (callFunc g args).run Try.prog w = .ok (.enter g args) w)
    (hs : PtsAt w w.heap.size A ps) (hg : ∀ (W : World) (i : Nat), Below w.heap.size w W → i < ps.length → Calls Try.prog g (#[.agg #[.int .i64 (pX ps i), .int .i64 (pY ps i)]] ++ lb) W fun e w' => e = .returned (.bool (p i)) ∧ ∃ m, w' = ext W m) :
    Calls Try.prog 94 #[.slice A n c, .func (.func g) #[] lb] w fun e w' => e = .returned (.int .i64 (firstIdx p n)) ∧ ∃ m, w' = ext w m := by
  have HG := hide hg
  clear hg
  go_enter Try.func94, Try.ntmps94
  go_wp2
  go_loopw [8] (fun v8 wr => ∃ k : Nat, k ≤ n ∧ v8 = .int .i64 k ∧ Hid (∀ j, j < k → p j = false) ∧ ∃ x, wr = ext w x) (fun v8 _ => n - (intOf v8).toNat)
  case atStart => exact ⟨0, Nat.zero_le _, rfl, fun j hj => by omega, ext_same w⟩
  case round =>
    obtain ⟨k, hk, rfl, hp, x, rfl⟩ := hrel
    by_cases hlt : k < n
    · obtain ⟨b, o, rfl, hb, hc⟩ := hs (by omega)
      have hck := hc k (by omega)
      clear hc
      obtain ⟨hx, hy⟩ := hck
      go_wp2_with (go_at_fn g; refine (HG.out _ k (ext_below w x) (by omega)).mono ?_; rintro e w' ⟨rfl, y, rfl⟩)
      case roundEnd =>
        have hpk : p k = false := by assumption
        exact ⟨⟨k + 1, by omega, by go_num, fun j hj => by rcases Nat.lt_succ_iff_lt_or_eq.1 hj with h | rfl; exact hp.out j h; exact hpk, (ext_mk (by (repeat' (first | (with_reducible exact Below.refl _ _) | (with_reducible assumption) | (with_reducible refine below_ext _ ?_ ?_) | (with_reducible refine Below.alloc ?_ ?_ _) | (with_reducible refine Below.drew ?_) | (with_reducible refine below_drewN ?_ _) | (with_reducible refine le_drewN _ ?_) | (with_reducible refine Below.setCell ?_ ?_ _) | (with_reducible exact Nat.le_refl _) | (with_reducible refine le_ext _ ?_) | (with_reducible refine le_alloc _ ?_) | (with_reducible refine le_setCell _ _ ?_) | (with_reducible refine le_drew ?_) | omega | (simp; done) | (simp; omega)))))⟩, by simp [intOf]; omega⟩
      have hpk : p k = true := by assumption
      go_ret
      exact ⟨ret_int (firstIdx_at hlt hpk hp.out).symm, (ext_mk (by (repeat' (first | (with_reducible exact Below.refl _ _) | (with_reducible assumption) | (with_reducible refine below_ext _ ?_ ?_) | (with_reducible refine Below.alloc ?_ ?_ _) | (with_reducible refine Below.drew ?_) | (with_reducible refine below_drewN ?_ _) | (with_reducible refine le_drewN _ ?_) | (with_reducible refine Below.setCell ?_ ?_ _) | (with_reducible exact Nat.le_refl _) | (with_reducible refine le_ext _ ?_) | (with_reducible refine le_alloc _ ?_) | (with_reducible refine le_setCell _ _ ?_) | (with_reducible refine le_drew ?_) | omega | (simp; done) | (simp; omega)))))⟩
    · have : k = n := by omega
      subst this
      go_wp2
      go_ret
      exact ⟨ret_int (firstIdx_none hp.out).symm, (ext_mk (by (repeat' (first | (with_reducible exact Below.refl _ _) | (with_reducible assumption) | (with_reducible refine below_ext _ ?_ ?_) | (with_reducible refine Below.alloc ?_ ?_ _) | (with_reducible refine Below.drew ?_) | (with_reducible refine below_drewN ?_ _) | (with_reducible refine le_drewN _ ?_) | (with_reducible refine Below.setCell ?_ ?_ _) | (with_reducible exact Nat.le_refl _) | (with_reducible refine le_ext _ ?_) | (with_reducible refine le_alloc _ ?_) | (with_reducible refine le_setCell _ _ ?_) | (with_reducible refine le_drew ?_) | omega | (simp; done) | (simp; omega)))))⟩

/-! ### slices.DeleteFunc -/
theorem OwnR.past {w : World} {base g n c : Nat} {ds : List Pt} (h : OwnR w base (.slice (some ⟨g, 0, none⟩) n c) ds) {j : Nat} (hj : n * 2 ≤ j) (v : Value) : OwnR (w.setCell ⟨g, j, none⟩ v) base (.slice (some ⟨g, 0, none⟩) n c) ds := by
  have hl := h.pts.1
  unfold OwnR at h ⊢
  rcases h.2 with ⟨hv, h1⟩ | ⟨g', cap, cur, hv, hg, hgg, hnc, hcm, hsz, htk⟩
  · cases hv
  · injection hv with e1 e2 e3
    injection e1 with e1
    injection e1 with e1
    subst e1 e3
    refine ⟨by rw [ptVals_len], .inr ⟨g, c, cur.setIfInBounds j v, by rw [hl], hg, by simp [World.setCell, Array.getElem?_modify, hgg], by omega, hcm, by simpa using hsz, ?_⟩⟩
    rw [← htk]
    refine List.ext_getElem? fun k => ?_
    rw [List.getElem?_take, List.getElem?_take]
    split
    · rw [Array.getElem?_toList, Array.getElem?_toList, Array.getElem?_setIfInBounds_ne (by omega)]
    · rfl
theorem OwnR.pasts {base g n c : Nat} {ds : List Pt} : ∀ (vs : List Value) {w : World} (j : Nat), n * 2 ≤ j → OwnR w base (.slice (some ⟨g, 0, none⟩) n c) ds → OwnR (w.setCells g j vs) base (.slice (some ⟨g, 0, none⟩) n c) ds
  | [], _, _, _, h => h
  | v :: r, w, j, hj, h => OwnR.pasts r (j + 1) (by omega) (h.past hj v)
theorem below_setCells {B g : Nat} {a : World} (hg : B ≤ g) : ∀ (vs : List Value) {w : World} (j : Nat), Below B a w → Below B a (w.setCells g j vs)
  | [], _, _, h => h
  | v :: r, w, j, h => below_setCells hg r (j + 1) (h.setCell hg v)
theorem zeroCells_two (m : Nat) : (Builtin.zeroCells (Value.cells (.agg #[.int .i64 0, .int .i64 0])) m).toList = List.replicate (m * 2) (.int .i64 0) := by
  have h : Value.cells (.agg #[.int .i64 0, .int .i64 0]) = #[.int .i64 0, .int .i64 0] := rfl
  rw [h]
  unfold Builtin.zeroCells
  refine List.ext_getElem (by simp) fun i h1 h2 => ?_
  simp
  rcases Nat.mod_two_eq_zero_or_one i with e | e <;> simp [e]
theorem prElt_zero (w : World) : (zeroValue 51).run Try.prog w = .ok (.agg #[.int .i64 0, .int .i64 0]) w := by
  obtain ⟨i0, hi, hz0, -, -⟩ := info_parts prElt.inf
  simp [zeroValue, typeInfo, hi, hz0]
theorem run_clearR (w : World) (g i m c : Nat) (ty : TypeId) (hm : 0 < m) (hc : ∀ j, j < m * 2 → (w.cell? ⟨g, i * 2 + j, none⟩).isSome = true) (hf : ∀ j, j < m * 2 → w.frozen? ⟨g, i * 2 + j, none⟩ = false) :
    (Builtin.clear_ #[40] ty #[.slice (some ⟨g, i * 2, none⟩) m c]).run Try.prog w = .ok (.tuple #[]) (w.setCells g (i * 2) (List.replicate (m * 2) (.int .i64 0))) := by
  have hst := run_storeCells_cells (P := Try.prog) g (i * 2) (List.replicate (m * 2) (.int .i64 0)) 0 w (by simpa using hc) (by simpa using hf) (by intro v hv; rw [List.eq_of_mem_replicate hv]; rfl)
  simp only [Nat.add_zero] at hst
  obtain ⟨k, rfl⟩ : ∃ k, m = k + 1 := ⟨m - 1, by omega⟩
  have hz := zeroCells_two (k + 1)
  simp [Builtin.clear_, run_underlying prElt.und, prElt_zero, hz, hst]
/-- Where the deletion stands. -/
structure KeptR (p : Pt → Bool) (ds cur : List Pt) (i j : Nat) : Prop where
  lt : i < j
  le : j ≤ ds.length
  len : cur.length = ds.length
  done : cur.take i = (ds.take j).filter fun d => !p d
  high : ∀ t, j ≤ t → gp cur t = gp ds t
theorem filter_snoc (p : Pt → Bool) {ds : List Pt} {j : Nat} (hj : j < ds.length) : (ds.take (j + 1)).filter (fun d => !p d) = (ds.take j).filter (fun d => !p d) ++ if p (gp ds j) then [] else [gp ds j] := by
  rw [List.take_succ_eq_append_getElem hj, List.filter_append, ← gp_lt hj]
  congr 1
  cases h : p (gp ds j) <;> simp [h]
theorem KeptR.start {p : Pt → Bool} {ds : List Pt} {k : Nat} (hk : k < ds.length) (ht : p (gp ds k) = true) (hf : ∀ t, t < k → p (gp ds t) = false) : KeptR p ds ds k (k + 1) := by
  refine ⟨by omega, by omega, rfl, ?_, fun _ _ => rfl⟩
  rw [filter_snoc p hk, ht, if_pos rfl, List.append_nil]
  refine (List.filter_eq_self.2 fun d hd => ?_).symm
  obtain ⟨t, ht', rfl⟩ := gp_of_mem hd
  rw [List.length_take] at ht'
  have e : gp (ds.take k) t = gp ds t := by unfold gp; rw [List.getD_eq_getElem?_getD, List.getD_eq_getElem?_getD, List.getElem?_take, if_pos (by omega)]
  rw [e, hf t (by omega)]; rfl
theorem KeptR.skip {p : Pt → Bool} {ds cur : List Pt} {i j : Nat} (h : KeptR p ds cur i j) (hj : j < ds.length) (ht : p (gp ds j) = true) : KeptR p ds cur i (j + 1) :=
  ⟨by have := h.lt; omega, by omega, h.len, by rw [filter_snoc p hj, ht, if_pos rfl, List.append_nil]; exact h.done, fun t ht => h.high t (by omega)⟩
theorem KeptR.keep {p : Pt → Bool} {ds cur : List Pt} {i j : Nat} (h : KeptR p ds cur i j) (hj : j < ds.length) (ht : p (gp ds j) = false) : KeptR p ds (cur.set i (gp ds j)) (i + 1) (j + 1) := by
  have hl := h.lt
  have hlen := h.len
  refine ⟨by omega, by omega, by rw [List.length_set]; exact h.len, ?_, fun t ht => ?_⟩
  · rw [filter_snoc p hj, ht, if_neg (by simp), ← h.done]
    rw [List.take_succ_eq_append_getElem (by rw [List.length_set]; omega), List.getElem_set_self, List.take_set_of_le (Nat.le_refl _)]
  · rw [← h.high t (by omega)]
    unfold gp
    simp only [List.getD_eq_getElem?_getD]
    rw [List.getElem?_set_ne (by omega)]
theorem filter_none {p : Pt → Bool} {ds : List Pt} (h : ∀ t, t < ds.length → p (gp ds t) = false) : ds.filter (fun d => !p d) = ds := List.filter_eq_self.2 fun d hd => by
  obtain ⟨t, ht', rfl⟩ := gp_of_mem hd
  rw [h t ht']; rfl
theorem firstIdx_cases (p : Nat → Bool) (n : Nat) : (firstIdx p n = -1 ∧ ∀ j, j < n → p j = false) ∨ ∃ k, k < n ∧ firstIdx p n = (k : Int) ∧ p k = true ∧ ∀ j, j < k → p j = false := by
  unfold firstIdx
  cases h : (List.range n).find? p with
  | none => exact .inl ⟨rfl, by simpa using h⟩
  | some i =>
    rw [List.find?_range_eq_some] at h
    exact .inr ⟨i, by simpa using h.2.1, rfl, h.1, by simpa using h.2.2⟩
set_option maxHeartbeats 4000000 in
theorem deleteR_any (g : Nat) (lb : Array Value) (p : Pt → Bool) (ds : List Pt) (base : Nat) (A : Option Addr) (n c : Nat) (w : World) (hn : ds.length = n) (hm : n ≤ 1000000) (h0 : 0 < n) (hbase : base ≤ w.heap.size) (eg : ∀ args w, (callFunc g args).run Try.prog w = .ok (.enter g args) w)
    (hown : OwnR w base (.slice A n c) ds) (hg : ∀ (W : World) (i : Nat), Below base w W → i < n → Calls Try.prog g (#[.agg #[.int .i64 (pX ds i), .int .i64 (pY ds i)]] ++ lb) W fun e w' => e = .returned (.bool (p (gp ds i))) ∧ ∃ m, w' = ext W m) :
    Calls Try.prog 63 #[.slice A n c, .func (.func g) #[] lb] w fun e w' => ∃ v, e = .returned v ∧ OwnR w' base v (ds.filter fun d => !p d) ∧ Below base w w' := by
  have HI := hide (IndexFuncR_any g lb (fun i => p (gp ds i)) ds A n c w hn (by omega) eg hown.pts.2.2.2 (fun W i hW hi => hg W i (hW.mono hbase) (by omega)))
  obtain ⟨gb, hA, hgb, hgs, hfz, hcs⟩ := hown.head (by omega)
  subst hA
  have hnc := hown.pts.2.1
  have hcm := hown.pts.2.2.1
  unfold maxLen at hcm
  have OWN := hide hown
  have HG := hide hg
  have HN := hide hn
  clear hg hown hfz hcs
  rcases firstIdx_cases (fun i => p (gp ds i)) n with ⟨e1, hall⟩ | ⟨k, hk, e1, ht, hf⟩
  · have FN := hide (filter_none (p := p) (ds := ds) (fun t ht => hall t (by rw [← HN.out]; exact ht)))
    have HI2 := HI.out
    rw [e1] at HI2
    have HI3 := hide HI2
    clear HI HI2 e1 hall hn
    go_enter Try.func63, Try.ntmps63
    go_wp2_with (go_at_call 94; refine HI3.out.mono ?_; rintro e w' ⟨rfl, hw'⟩; have hzy1 := ext_sz hw'; obtain ⟨y1, rfl⟩ := hw'; (try simp at hzy1))
    go_ret
    exact ⟨_, rfl, by rw [FN.out]; exact OWN.out.below (by (repeat' (first | (with_reducible exact Below.refl _ _) | (with_reducible assumption) | (with_reducible refine below_ext _ ?_ ?_) | (with_reducible refine Below.alloc ?_ ?_ _) | (with_reducible refine Below.drew ?_) | (with_reducible refine below_drewN ?_ _) | (with_reducible refine le_drewN _ ?_) | (with_reducible refine Below.setCell ?_ ?_ _) | (with_reducible exact Nat.le_refl _) | (with_reducible refine le_ext _ ?_) | (with_reducible refine le_alloc _ ?_) | (with_reducible refine le_setCell _ _ ?_) | (with_reducible refine le_drew ?_) | omega | (simp; done) | (simp; omega)))), (by (repeat' (first | (with_reducible exact Below.refl _ _) | (with_reducible assumption) | (with_reducible refine below_ext _ ?_ ?_) | (with_reducible refine Below.alloc ?_ ?_ _) | (with_reducible refine Below.drew ?_) | (with_reducible refine below_drewN ?_ _) | (with_reducible refine le_drewN _ ?_) | (with_reducible refine Below.setCell ?_ ?_ _) | (with_reducible exact Nat.le_refl _) | (with_reducible refine le_ext _ ?_) | (with_reducible refine le_alloc _ ?_) | (with_reducible refine le_setCell _ _ ?_) | (with_reducible refine le_drew ?_) | omega | (simp; done) | (simp; omega))))⟩
  · have HI2 := HI.out
    rw [e1] at HI2
    have HI3 := hide HI2
    have ST := hide (KeptR.start (p := p) (ds := ds) (k := k) (by omega) ht hf)
    have d1 : ((k : Int) == -1) = false := by rw [beq_eq_false_iff_ne]; omega
    clear HI HI2 e1 ht hf hn
    go_enter Try.func63, Try.ntmps63
    go_wp2_with (go_at_call 94; refine HI3.out.mono ?_; rintro e w' ⟨rfl, hw'⟩; have hzy1 := ext_sz hw'; obtain ⟨y1, rfl⟩ := hw'; (try simp at hzy1))
    go_loopw [5, 6, 7] (fun u5 u6 _ wr => ∃ (i j : Nat) (cur : List Pt), u5 = .int .i64 i ∧ u6 = .int .i64 j ∧ j ≤ n ∧ Hid (KeptR p ds cur i j) ∧ Hid (OwnR wr base (.slice (some ⟨gb, 0, none⟩) n c) cur) ∧ Below base w wr) (fun _ u6 _ _ => n - (intOf u6).toNat)
    case atStart => exact ⟨k, k + 1, ds, rfl, by go_num, by omega, ST, hide (OWN.out.below (by (repeat' (first | (with_reducible exact Below.refl _ _) | (with_reducible assumption) | (with_reducible refine below_ext _ ?_ ?_) | (with_reducible refine Below.alloc ?_ ?_ _) | (with_reducible refine Below.drew ?_) | (with_reducible refine below_drewN ?_ _) | (with_reducible refine le_drewN _ ?_) | (with_reducible refine Below.setCell ?_ ?_ _) | (with_reducible exact Nat.le_refl _) | (with_reducible refine le_ext _ ?_) | (with_reducible refine le_alloc _ ?_) | (with_reducible refine le_setCell _ _ ?_) | (with_reducible refine le_drew ?_) | omega | (simp; done) | (simp; omega))))), (by (repeat' (first | (with_reducible exact Below.refl _ _) | (with_reducible assumption) | (with_reducible refine below_ext _ ?_ ?_) | (with_reducible refine Below.alloc ?_ ?_ _) | (with_reducible refine Below.drew ?_) | (with_reducible refine below_drewN ?_ _) | (with_reducible refine le_drewN _ ?_) | (with_reducible refine Below.setCell ?_ ?_ _) | (with_reducible exact Nat.le_refl _) | (with_reducible refine le_ext _ ?_) | (with_reducible refine le_alloc _ ?_) | (with_reducible refine le_setCell _ _ ?_) | (with_reducible refine le_drew ?_) | omega | (simp; done) | (simp; omega))))⟩
    case round =>
      obtain ⟨i, j, cur, rfl, rfl, hj, KR, O1, hbel⟩ := hrel
      have hij := KR.out.lt
      have hsz := hbel.size
      obtain ⟨gb', hA', _, hgs', hfz, hcs⟩ := O1.out.head (by omega)
      injection hA' with hA'
      injection hA' with hA' _ _
      subst hA'
      have fz1 := hfz (i * 2)
      have fz2 := hfz (i * 2 + 1)
      by_cases hlt : j < n
      · obtain ⟨cx, cy⟩ := hcs j hlt
        have hi1 : pX cur j = pX ds j := by unfold pX; rw [KR.out.high j (Nat.le_refl _)]
        have hi2 : pY cur j = pY ds j := by unfold pY; rw [KR.out.high j (Nat.le_refl _)]
        rw [hi1] at cx
        rw [hi2] at cy
        obtain ⟨ox, oy⟩ := hcs i (by omega)
        have GJ := hide (fun (W : World) (hW : Below base wr W) => HG.out W j (hbel.trans hW) hlt)
        have GE : Hid (gp ds j = ⟨pX ds j, pY ds j⟩) := hide rfl
        have q1 : (0 : Int) ≤ (j : Int) := by omega
        have q2 : (j : Int) < (n : Int) := by omega
        have q3 : (0 : Int) ≤ (i : Int) := by omega
        have q4 : (i : Int) < (n : Int) := by omega
        have SET := hide (fun (W : World) (hW : OwnR W base (.slice (some ⟨gb, 0, none⟩) n c) cur) => OwnR.set hW (i := i) (by omega) (pX ds j) (pY ds j))
        by_cases hp : p (gp ds j) = true
        · rw [hp] at GJ
          have KN := hide (KR.out.skip (by rw [HN.out]; exact hlt) hp)
          clear hcs hfz ST HG hi1 hi2 hp ox oy
          go_wp2_with (go_at_fn g; refine (GJ.out _ (by (repeat' (first | (with_reducible exact Below.refl _ _) | (with_reducible assumption) | (with_reducible refine below_ext _ ?_ ?_) | (with_reducible refine Below.alloc ?_ ?_ _) | (with_reducible refine Below.drew ?_) | (with_reducible refine below_drewN ?_ _) | (with_reducible refine le_drewN _ ?_) | (with_reducible refine Below.setCell ?_ ?_ _) | (with_reducible exact Nat.le_refl _) | (with_reducible refine le_ext _ ?_) | (with_reducible refine le_alloc _ ?_) | (with_reducible refine le_setCell _ _ ?_) | (with_reducible refine le_drew ?_) | omega | (simp; done) | (simp; omega))))).mono ?_; rintro e w' ⟨rfl, hw'⟩; have hzy2 := ext_sz hw'; obtain ⟨y2, rfl⟩ := hw'; (try simp at hzy2))
          exact ⟨⟨i, j + 1, cur, rfl, by go_num, by omega, KN, hide (O1.out.below (by (repeat' (first | (with_reducible exact Below.refl _ _) | (with_reducible assumption) | (with_reducible refine below_ext _ ?_ ?_) | (with_reducible refine Below.alloc ?_ ?_ _) | (with_reducible refine Below.drew ?_) | (with_reducible refine below_drewN ?_ _) | (with_reducible refine le_drewN _ ?_) | (with_reducible refine Below.setCell ?_ ?_ _) | (with_reducible exact Nat.le_refl _) | (with_reducible refine le_ext _ ?_) | (with_reducible refine le_alloc _ ?_) | (with_reducible refine le_setCell _ _ ?_) | (with_reducible refine le_drew ?_) | omega | (simp; done) | (simp; omega))))), hbel.trans (by (repeat' (first | (with_reducible exact Below.refl _ _) | (with_reducible assumption) | (with_reducible refine below_ext _ ?_ ?_) | (with_reducible refine Below.alloc ?_ ?_ _) | (with_reducible refine Below.drew ?_) | (with_reducible refine below_drewN ?_ _) | (with_reducible refine le_drewN _ ?_) | (with_reducible refine Below.setCell ?_ ?_ _) | (with_reducible exact Nat.le_refl _) | (with_reducible refine le_ext _ ?_) | (with_reducible refine le_alloc _ ?_) | (with_reducible refine le_setCell _ _ ?_) | (with_reducible refine le_drew ?_) | omega | (simp; done) | (simp; omega))))⟩, by simp [intOf]; omega⟩
        · have hp' : p (gp ds j) = false := by simpa using hp
          rw [hp'] at GJ
          have KN := hide (KR.out.keep (by rw [HN.out]; exact hlt) hp')
          rw [GE.out] at KN
          clear hcs hfz ST HG hi1 hi2 hp hp'
          go_wp2_with (go_at_fn g; refine (GJ.out _ (by (repeat' (first | (with_reducible exact Below.refl _ _) | (with_reducible assumption) | (with_reducible refine below_ext _ ?_ ?_) | (with_reducible refine Below.alloc ?_ ?_ _) | (with_reducible refine Below.drew ?_) | (with_reducible refine below_drewN ?_ _) | (with_reducible refine le_drewN _ ?_) | (with_reducible refine Below.setCell ?_ ?_ _) | (with_reducible exact Nat.le_refl _) | (with_reducible refine le_ext _ ?_) | (with_reducible refine le_alloc _ ?_) | (with_reducible refine le_setCell _ _ ?_) | (with_reducible refine le_drew ?_) | omega | (simp; done) | (simp; omega))))).mono ?_; rintro e w' ⟨rfl, hw'⟩; have hzy2 := ext_sz hw'; obtain ⟨y2, rfl⟩ := hw'; (try simp at hzy2))
          exact ⟨⟨i + 1, j + 1, _, by go_num, by go_num, by omega, KN, hide (SET.out _ (O1.out.below (by (repeat' (first | (with_reducible exact Below.refl _ _) | (with_reducible assumption) | (with_reducible refine below_ext _ ?_ ?_) | (with_reducible refine Below.alloc ?_ ?_ _) | (with_reducible refine Below.drew ?_) | (with_reducible refine below_drewN ?_ _) | (with_reducible refine le_drewN _ ?_) | (with_reducible refine Below.setCell ?_ ?_ _) | (with_reducible exact Nat.le_refl _) | (with_reducible refine le_ext _ ?_) | (with_reducible refine le_alloc _ ?_) | (with_reducible refine le_setCell _ _ ?_) | (with_reducible refine le_drew ?_) | omega | (simp; done) | (simp; omega)))))), hbel.trans (by (repeat' (first | (with_reducible exact Below.refl _ _) | (with_reducible assumption) | (with_reducible refine below_ext _ ?_ ?_) | (with_reducible refine Below.alloc ?_ ?_ _) | (with_reducible refine Below.drew ?_) | (with_reducible refine below_drewN ?_ _) | (with_reducible refine le_drewN _ ?_) | (with_reducible refine Below.setCell ?_ ?_ _) | (with_reducible exact Nat.le_refl _) | (with_reducible refine le_ext _ ?_) | (with_reducible refine le_alloc _ ?_) | (with_reducible refine le_setCell _ _ ?_) | (with_reducible refine le_drew ?_) | omega | (simp; done) | (simp; omega))))⟩, by simp [intOf]; omega⟩
      · have ej : j = n := by omega
        subst ej
        obtain ⟨wz, HZ, OZ, BZ⟩ : ∃ wz, (∀ ty, (Builtin.clear_ #[40] ty #[.slice (some ⟨gb, i * 2, none⟩) (j - i) (c - i)]).run Try.prog wr = .ok (.tuple #[]) wz) ∧ Hid (OwnR wz base (.slice (some ⟨gb, 0, none⟩) i c) (ds.filter fun d => !p d)) ∧ Hid (Below base wr wz) :=
          ⟨_, fun ty => run_clearR wr gb i (j - i) (c - i) ty (by omega) (fun t ht => by
              obtain ⟨x1, x2⟩ := hcs (i + t / 2) (by omega)
              rcases Nat.mod_two_eq_zero_or_one t with e | e
              · rw [show i * 2 + t = (i + t / 2) * 2 by omega, x1]; rfl
              · rw [show i * 2 + t = (i + t / 2) * 2 + 1 by omega, x2]; rfl) (fun t _ => hfz _), hide (OwnR.pasts _ _ (Nat.le_refl _) (by
            have := O1.out.take (k := i) (by omega) (fun h => by cases h)
            rw [KR.out.done, show ds.take j = ds from List.take_of_length_le (by rw [HN.out]; exact Nat.le_refl _)] at this
            exact this)), hide (below_setCells (by omega) _ _ (Below.refl _ _))⟩
        have zb := BZ.out.size
        have q3 : (0 : Int) ≤ (i : Int) := by omega
        have q4 : (i : Int) ≤ (j : Int) := by omega
        have q5 : (j : Int) ≤ (c : Int) := by omega
        clear hcs hfz ST HG fz1 fz2
        go_wp2_with fail
        go_ret
        exact ⟨_, rfl, OZ.out, hbel.trans BZ.out⟩
end Go.Proofs.Ytdneaakpdibkmaa
