
import Derived.Test.YtlggmjofglmjcaaDoorSorted
import Derived.Outline
import Derived.Test.YtlggmjofglmjcaaDoorApp
import Derived.Test.YtlggmjofglmjcaaDoorHullK
import Derived.Test.YtlggmjofglmjcaaDoorSeg
import Derived.Deep.CutRange
import Derived.BigRegion
import Derived.Deep.RegionHeld3
/- The reference's sorting by insertion: pointLess, addPoint, sorted. -/
set_option linter.unusedVariables false
set_option linter.unusedSimpArgs false
namespace Go.Proofs.YtlggmjofglmjcaaDoor
open Go.RowKit

theorem PtsAt.pre {w : World} {B : Nat} {A : Option Addr} {ps : List Pt} (h : PtsAt w B A ps) (k : Nat) : PtsAt w B A (ps.take k) := fun h0 => by
  rw [List.length_take] at h0
  obtain ⟨b, o, hA, hB, hc⟩ := h (by omega)
  refine ⟨b, o, hA, hB, fun i hi => ?_⟩
  rw [List.length_take] at hi
  have e : gp (ps.take k) i = gp ps i := by
    unfold gp; rw [List.getD_eq_getElem?_getD, List.getD_eq_getElem?_getD, List.getElem?_take, if_pos (by omega)]
  unfold pX pY
  rw [e]
  exact hc i (by omega)
theorem PtsAt.none_ (w : World) (B : Nat) (A : Option Addr) : PtsAt w B A [] := fun h => absurd h (Nat.lt_irrefl 0)
theorem insP_at {p : Pt} : ∀ {L : List Pt} {k : Nat}, k ≤ L.length → (∀ i, i < k → ltP (gp L i) p) → (k < L.length → ¬ ltP (gp L k) p) → insP p L = if k < L.length ∧ gp L k = p then L else L.take k ++ p :: L.drop k
  | [], k, hk, _, _ => by simp at hk; subst hk; simp [insP]
  | a :: r, 0, _, _, h => by
    have h := h (by simp)
    have e : gp (a :: r) 0 = a := rfl
    rw [e] at h ⊢
    rw [insP, if_neg h]
    by_cases ha : a = p
    · rw [if_pos ha, if_pos ⟨by simp, ha⟩]
    · rw [if_neg ha, if_neg (fun hh => ha hh.2)]; simp
  | a :: r, k + 1, hk, h1, h2 => by
    have ha := h1 0 (by omega)
    have e : gp (a :: r) 0 = a := rfl
    rw [e] at ha
    have es : ∀ i, gp (a :: r) (i + 1) = gp r i := fun i => by simp [gp]
    rw [insP, if_pos ha, insP_at (L := r) (k := k) (by simpa using hk) (fun i hi => by rw [← es]; exact h1 (i + 1) (by omega)) (fun hh => by rw [← es]; exact h2 (by simpa using hh)), es]
    by_cases hc : k < r.length ∧ gp r k = p
    · rw [if_pos hc, if_pos ⟨by simpa using hc.1, hc.2⟩]
    · rw [if_neg hc, if_neg (fun hh => hc ⟨by simpa using hh.1, hh.2⟩)]; simp
theorem OwnP.some_ {w : World} {base : Nat} {A : Option Addr} {n c : Nat} {ps : List Pt} (h : OwnP w base (.slice A n c) ps) : (A = none ∧ n = 0 ∧ c = 0) ∨ ∃ g, A = some ⟨g, 0, none⟩ ∧ base ≤ g ∧ g < w.heap.size := by
  have hl := h.lt
  have hl2 := h.lt2
  unfold OwnP at h
  rcases h.2 with ⟨hv, h1⟩ | ⟨g, cap, cur, hv, hg, hgg, _⟩
  · injection hv with e1 e2 e3
    exact .inl ⟨e1, e2, e3⟩
  · injection hv with e1 e2 e3
    exact .inr ⟨g, e1, hg, heap_lt hgg⟩
end Go.Proofs.YtlggmjofglmjcaaDoor
/- Half hulls: the program's 'half' and the reference's 'chain'. -/
set_option linter.unusedVariables false
set_option linter.unusedSimpArgs false
namespace Go.Proofs.YtlggmjofglmjcaaDoor
open Go.RowKit

def popL (p : Pt) (L : List Pt) : List Pt := (popTo p L.reverse).reverse
theorem rev_two : ∀ {L : List Pt} {m : Nat}, L.length = m + 2 → ∃ r, L = r ++ [gp L m, gp L (m + 1)] ∧ r.length = m := by
  intro L m h
  refine ⟨L.take m, ?_, by rw [List.length_take]; omega⟩
  apply List.ext_getElem
  · simp; omega
  · intro i h1 h2
    rw [List.getElem_append]
    split
    · rw [List.getElem_take]
    · rename_i hi
      have hm : (L.take m).length = m := by rw [List.length_take]; omega
      rw [hm] at hi
      by_cases e : i = m
      · subst e
        simp only [hm, Nat.sub_self, List.getElem_cons_zero]
        rw [gp_lt (by omega)]
      · have e : i = m + 1 := by omega
        subst e
        have : m + 1 - m = 1 := by omega
        simp [hm, this, gp_lt (show m + 1 < L.length by omega)]
theorem popL_short {p : Pt} {L : List Pt} (h : L.length ≤ 1) : popL p L = L := by
  match L, h with
  | [], _ => rfl
  | [a], _ => rfl
theorem popL_step {p : Pt} {L : List Pt} {m : Nat} (h : L.length = m + 2) (ht : trn (gp L m) (gp L (m + 1)) p ≤ 0) : popL p L = popL p (L.take (m + 1)) := by
  obtain ⟨r, e, hr⟩ := rev_two h
  have e2 : L.take (m + 1) = r ++ [gp L m] := by
    rw [show L.take (m + 1) = (r ++ [gp L m, gp L (m + 1)]).take (m + 1) from by rw [← e]]
    rw [show r ++ [gp L m, gp L (m + 1)] = (r ++ [gp L m]) ++ [gp L (m + 1)] from by simp, List.take_left' (by simp [hr])]
  unfold popL
  rw [e2, show L.reverse = gp L (m + 1) :: gp L m :: r.reverse from by rw [show L.reverse = (r ++ [gp L m, gp L (m + 1)]).reverse from by rw [← e]]; simp, popTo, if_pos ht]
  simp
theorem popL_stop {p : Pt} {L : List Pt} {m : Nat} (h : L.length = m + 2) (ht : ¬ trn (gp L m) (gp L (m + 1)) p ≤ 0) : popL p L = L := by
  obtain ⟨r, e, hr⟩ := rev_two h
  unfold popL
  rw [show L.reverse = gp L (m + 1) :: gp L m :: r.reverse from by rw [show L.reverse = (r ++ [gp L m, gp L (m + 1)]).reverse from by rw [← e]]; simp, popTo, if_neg ht]
  rw [show (gp L (m + 1) :: gp L m :: r.reverse).reverse = r ++ [gp L m, gp L (m + 1)] from by simp, ← e]
theorem halfR_snoc : ∀ (s st : List Pt) (p : Pt), halfR st (s ++ [p]) = p :: popTo p (halfR st s)
  | [], st, p => rfl
  | q :: s, st, p => by rw [List.cons_append, halfR, halfR, halfR_snoc s]
theorem halfL_take {s : List Pt} {k : Nat} (hk : k < s.length) : halfL (s.take (k + 1)) = popL ⟨pX s k, pY s k⟩ (halfL (s.take k)) ++ [⟨pX s k, pY s k⟩] := by
  have e : s.take (k + 1) = s.take k ++ [gp s k] := by rw [gp_lt hk, List.take_succ_eq_append_getElem hk]
  rw [e]
  unfold halfL popL
  rw [halfR_snoc, List.reverse_reverse, List.reverse_cons]; rfl
/-- All coordinates are small enough to reckon with. -/
def InB (s : List Pt) : Prop := ∀ p ∈ s, (-100000 ≤ p.x ∧ p.x ≤ 100000) ∧ (-100000 ≤ p.y ∧ p.y ≤ 100000)
theorem InB.at {s : List Pt} (h : InB s) {i : Nat} (hi : i < s.length) : (-100000 ≤ (pX s i) ∧ (pX s i) ≤ 100000) ∧ (-100000 ≤ (pY s i) ∧ (pY s i) ≤ 100000) := h (gp s i) (gp_mem hi)
def lenV : Value → Nat
  | .slice _ n _ => n
  | _ => 0
theorem halfL_sub {s : List Pt} {q : Pt} (h : q ∈ halfL s) : q ∈ s := by
  have pop : ∀ (p : Pt) (st : List Pt) (q : Pt), q ∈ popTo p st → q ∈ st := by
    intro p st
    induction st with
    | nil => intro q h; exact h
    | cons t st ih =>
      intro q h
      cases st with
      | nil => exact h
      | cons u r =>
        rw [popTo] at h
        split at h
        · exact List.mem_cons_of_mem _ (ih q h)
        · exact h
  have go : ∀ (s st : List Pt) (q : Pt), q ∈ halfR st s → q ∈ st ∨ q ∈ s := by
    intro s
    induction s with
    | nil => intro st q h; exact .inl h
    | cons p s ih =>
      intro st q h
      rw [halfR] at h
      rcases ih _ q h with h | h
      · rcases List.mem_cons.1 h with h | h
        · exact .inr (by simp [h])
        · exact .inl (pop p st q h)
      · exact .inr (List.mem_cons_of_mem _ h)
  unfold halfL at h
  rw [List.mem_reverse] at h
  rcases go s [] q h with h | h
  · cases h
  · exact h
theorem halfL_len (s : List Pt) : (halfL s).length ≤ s.length := by
  have pop : ∀ (p : Pt) (st : List Pt), (popTo p st).length ≤ st.length := by
    intro p st
    induction st with
    | nil => exact Nat.le_refl _
    | cons t st ih =>
      cases st with
      | nil => exact Nat.le_refl _
      | cons u r =>
        rw [popTo]
        split
        · have := ih; simp at this ⊢; omega
        · exact Nat.le_refl _
  have go : ∀ (s st : List Pt), (halfR st s).length ≤ st.length + s.length := by
    intro s
    induction s with
    | nil => intro st; exact Nat.le_refl _
    | cons p s ih =>
      intro st
      rw [halfR]
      have := ih (p :: popTo p st)
      have := pop p st
      simp at *; omega
  unfold halfL
  rw [List.length_reverse]
  have := go s []
  simpa using this
end Go.Proofs.YtlggmjofglmjcaaDoor
/- The reference's hull: sorted, reversed, hull, sums. -/
set_option linter.unusedVariables false
set_option linter.unusedSimpArgs false
namespace Go.Proofs.YtlggmjofglmjcaaDoor
open Go.RowKit

theorem step_pts {ops : Array Oper} {o : Oper} {a : Act} {K : Act → World → Prop} {Q : Exit → Act → World → Prop} {E : Prop} {w : World} (hgd : o.guard = none) (s x : Operand)
    (ho : o.op = .call { callee := .builtin .append, args := #[s, x], argTypes := #[35, 35] })
    (base : Nat) (v : Value) (ps : List Pt) (hs : a.eval s = v) (hown : OwnP w base v ps) (A : Option Addr) (m c B : Nat) (qs : List Pt) (hx : a.eval x = .slice A m c) (hm : qs.length = m) (hq : PtsAt w B A qs) (hA : (A = none → m = 0) ∧ ∀ b o s, A = some ⟨b, o, s⟩ → s = none)
    (hlen : ps.length ≤ 2000000) (hlen2 : m ≤ 2000000) (hbase : base ≤ w.heap.size)
    (h : ∀ v' w', OwnP w' base v' (ps ++ qs) → Below base w w' → (v'.ownBlock = v.ownBlock ∨ v'.ownBlock = some w.heap.size) → w.grownBy w' v.ownBlock → K (a.put o.dst v') w') :
    if Region.wanted o (yielded ops a.tmps) = true then Oper.wp Tryd.prog o a w K Q else E := by
  have hw : Region.wanted o (yielded ops a.tmps) = true := by simp [Region.wanted, hgd]
  rw [if_pos hw]
  refine app_wp ptElt s x ho base v ps.length _ hs hown A m c (ptVals qs) hx (by rw [ptVals_len, hm]) hq.src hA.1 hA.2 (ptVals_one _) (by unfold maxLen; omega) (by omega) hbase fun v' w' h2 h3 h4 => ?_
  exact h v' w' (by unfold OwnP; rw [List.length_append, ptVals_app, hm]; exact h2) ((Below.refl _ _).grown h3 hbase hown.lt) h4 h3
theorem step_pt {ops : Array Oper} {o : Oper} {a : Act} {K : Act → World → Prop} {Q : Exit → Act → World → Prop} {E : Prop} {w : World} (hgd : o.guard = none) (s x : Operand)
    (ho : o.op = .call { callee := .builtin .append, args := #[s, x], argTypes := #[35, 35] })
    (base : Nat) (v : Value) (ps : List Pt) (hs : a.eval s = v) (hown : OwnP w base v ps) (p q : Int) (b c : Nat) (hx : a.eval x = .slice (some ⟨b, 0, none⟩) 1 c) (h0 : w.cell? ⟨b, 0, none⟩ = some (.int .i64 p)) (h1 : w.cell? ⟨b, 1, none⟩ = some (.int .i64 q))
    (hlen : ps.length ≤ 2000000) (hbase : base ≤ w.heap.size)
    (h : ∀ v' w', OwnP w' base v' (ps ++ [⟨p, q⟩]) → Below base w w' → (v'.ownBlock = v.ownBlock ∨ v'.ownBlock = some w.heap.size) → w.grownBy w' v.ownBlock → K (a.put o.dst v') w') :
    if Region.wanted o (yielded ops a.tmps) = true then Oper.wp Tryd.prog o a w K Q else E :=
  step_pts (B := b + 1) hgd s x ho base v ps hs hown (some ⟨b, 0, none⟩) 1 c [⟨p, q⟩] hx rfl (fun _ => ⟨b, 0, rfl, Nat.lt_succ_self _, fun i hi => by
    have : i = 0 := by simp at hi; exact hi
    subst this
    exact ⟨by simpa [pX, gp] using h0, by simpa [pY, gp] using h1⟩⟩) ⟨(fun h => by cases h), (fun b o s h => by injection h with h; injection h with _ _ h3; exact h3.symm)⟩ hlen (by omega) hbase h
theorem sortP_take {ps : List Pt} {k : Nat} (hk : k < ps.length) : sortP (ps.take (k + 1)) = insP ⟨pX ps k, pY ps k⟩ (sortP (ps.take k)) := by
  rw [List.take_succ_eq_append_getElem hk, ← gp_lt hk]
  unfold sortP
  rw [List.foldl_append]; rfl
theorem rev_drop {ps : List Pt} {m : Nat} (hm : m < ps.length) : (ps.drop m).reverse = (ps.drop (m + 1)).reverse ++ [⟨pX ps m, pY ps m⟩] := by
  rw [List.drop_eq_getElem_cons hm, List.reverse_cons, ← gp_lt hm]; rfl
theorem hullOf_two {l : List Pt} (h : (sortP l).length < 3) : sortP l = hullOf l := by
  unfold hullOf
  split
  · rfl
  · rename_i h2
    have e : (sortP l).length = 2 := by omega
    unfold lowL upL
    match hs : sortP l, e with
    | [a, b], _ => simp [halfL, halfR, popTo]
theorem popTo_len (p : Pt) : ∀ st : List Pt, st ≠ [] → 1 ≤ (popTo p st).length
  | [], h => absurd rfl h
  | [a], _ => by simp [popTo]
  | a :: b :: r, _ => by
    rw [popTo]
    split
    · exact popTo_len p (b :: r) (by simp)
    · simp
theorem halfL_pos {s : List Pt} (h : s ≠ []) : 1 ≤ (halfL s).length := by
  unfold halfL
  rw [List.length_reverse]
  have e : s = s.dropLast ++ [s.getLast h] := (List.dropLast_concat_getLast h).symm
  rw [e, halfR_snoc]
  simp
theorem take_dropLast {l : List Pt} {m : Nat} (h : l.length = m + 1) : l.take m = l.dropLast := by
  rw [List.dropLast_eq_take, h]; rfl
theorem hullOf_more {l : List Pt} (h : ¬ (sortP l).length < 2) : (lowL l).dropLast ++ (upL l).dropLast = hullOf l := by
  unfold hullOf; rw [if_neg h]
theorem InB.sort {s : List Pt} (h : InB s) : InB (sortP s) := fun p hp => h p (sortP_mem.1 hp)
theorem InB.rev {s : List Pt} (h : InB s) : InB s.reverse := fun p hp => h p (List.mem_reverse.1 hp)
end Go.Proofs.YtlggmjofglmjcaaDoor
