
/- Half hulls: the program's 'half' and the reference's 'chain'. -/
import Derived.Test.YtelhidonhldjeaaVals
import Derived.Test.YtelhidonhldjeaaHullK
import Derived.Test.YtelhidonhldjeaaSeg
import Derived.Deep.CutRange
set_option linter.unusedVariables false
set_option linter.unusedSimpArgs false
namespace Go.Proofs.Ytelhidonhldjeaa
open Go.RowKit

def popL (p : Pt) (L : List Pt) : List Pt := (popTo p L.reverse).reverse
theorem rev_two : ∀ {L : List Pt} {m : Nat}, L.length = m + 2 → ∃ r, L = r ++ [gp L m, gp L (m + 1)] ∧ r.length = m := by
  intro L m h
  refine ⟨L.take m, ?_, by rw [List.length_take]; omega⟩
  apply List.ext_getElem
  · simp; omega
  · intro i h1 h2
    rw [List.getElem_append]
    split
    · rw [List.getElem_take]
    · rename_i hi
      have hm : (L.take m).length = m := by rw [List.length_take]; omega
      rw [hm] at hi
      by_cases e : i = m
      · subst e
        simp only [hm, Nat.sub_self, List.getElem_cons_zero]
        rw [gp_lt (by omega)]
      · have e : i = m + 1 := by omega
        subst e
        have : m + 1 - m = 1 := by omega
        simp [hm, this, gp_lt (show m + 1 < L.length by omega)]
theorem popL_short {p : Pt} {L : List Pt} (h : L.length ≤ 1) : popL p L = L := by
  match L, h with
  | [], _ => rfl
  | [a], _ => rfl
theorem popL_step {p : Pt} {L : List Pt} {m : Nat} (h : L.length = m + 2) (ht : trn (gp L m) (gp L (m + 1)) p ≤ 0) : popL p L = popL p (L.take (m + 1)) := by
  obtain ⟨r, e, hr⟩ := rev_two h
  have e2 : L.take (m + 1) = r ++ [gp L m] := by
    rw [show L.take (m + 1) = (r ++ [gp L m, gp L (m + 1)]).take (m + 1) from by rw [← e]]
    rw [show r ++ [gp L m, gp L (m + 1)] = (r ++ [gp L m]) ++ [gp L (m + 1)] from by simp, List.take_left' (by simp [hr])]
  unfold popL
  rw [e2, show L.reverse = gp L (m + 1) :: gp L m :: r.reverse from by rw [show L.reverse = (r ++ [gp L m, gp L (m + 1)]).reverse from by rw [← e]]; simp, popTo, if_pos ht]
  simp
theorem popL_stop {p : Pt} {L : List Pt} {m : Nat} (h : L.length = m + 2) (ht : ¬ trn (gp L m) (gp L (m + 1)) p ≤ 0) : popL p L = L := by
  obtain ⟨r, e, hr⟩ := rev_two h
  unfold popL
  rw [show L.reverse = gp L (m + 1) :: gp L m :: r.reverse from by rw [show L.reverse = (r ++ [gp L m, gp L (m + 1)]).reverse from by rw [← e]]; simp, popTo, if_neg ht]
  rw [show (gp L (m + 1) :: gp L m :: r.reverse).reverse = r ++ [gp L m, gp L (m + 1)] from by simp, ← e]
theorem halfR_snoc : ∀ (s st : List Pt) (p : Pt), halfR st (s ++ [p]) = p :: popTo p (halfR st s)
  | [], st, p => rfl
  | q :: s, st, p => by rw [List.cons_append, halfR, halfR, halfR_snoc s]
theorem halfL_take {s : List Pt} {k : Nat} (hk : k < s.length) : halfL (s.take (k + 1)) = popL ⟨pX s k, pY s k⟩ (halfL (s.take k)) ++ [⟨pX s k, pY s k⟩] := by
  have e : s.take (k + 1) = s.take k ++ [gp s k] := by rw [gp_lt hk, List.take_succ_eq_append_getElem hk]
  rw [e]
  unfold halfL popL
  rw [halfR_snoc, List.reverse_reverse, List.reverse_cons]; rfl
/-- All coordinates are small enough to reckon with. -/
def InB (s : List Pt) : Prop := ∀ p ∈ s, (-100000 ≤ p.x ∧ p.x ≤ 100000) ∧ (-100000 ≤ p.y ∧ p.y ≤ 100000)
theorem InB.at {s : List Pt} (h : InB s) {i : Nat} (hi : i < s.length) : (-100000 ≤ (pX s i) ∧ (pX s i) ≤ 100000) ∧ (-100000 ≤ (pY s i) ∧ (pY s i) ≤ 100000) := h (gp s i) (gp_mem hi)
def lenV : Value → Nat
  | .slice _ n _ => n
  | _ => 0
theorem halfL_sub {s : List Pt} {q : Pt} (h : q ∈ halfL s) : q ∈ s := by
  have pop : ∀ (p : Pt) (st : List Pt) (q : Pt), q ∈ popTo p st → q ∈ st := by
    intro p st
    induction st with
    | nil => intro q h; exact h
    | cons t st ih =>
      intro q h
      cases st with
      | nil => exact h
      | cons u r =>
        rw [popTo] at h
        split at h
        · exact List.mem_cons_of_mem _ (ih q h)
        · exact h
  have go : ∀ (s st : List Pt) (q : Pt), q ∈ halfR st s → q ∈ st ∨ q ∈ s := by
    intro s
    induction s with
    | nil => intro st q h; exact .inl h
    | cons p s ih =>
      intro st q h
      rw [halfR] at h
      rcases ih _ q h with h | h
      · rcases List.mem_cons.1 h with h | h
        · exact .inr (by simp [h])
        · exact .inl (pop p st q h)
      · exact .inr (List.mem_cons_of_mem _ h)
  unfold halfL at h
  rw [List.mem_reverse] at h
  rcases go s [] q h with h | h
  · cases h
  · exact h
theorem halfL_len (s : List Pt) : (halfL s).length ≤ s.length := by
  have pop : ∀ (p : Pt) (st : List Pt), (popTo p st).length ≤ st.length := by
    intro p st
    induction st with
    | nil => exact Nat.le_refl _
    | cons t st ih =>
      cases st with
      | nil => exact Nat.le_refl _
      | cons u r =>
        rw [popTo]
        split
        · have := ih; simp at this ⊢; omega
        · exact Nat.le_refl _
  have go : ∀ (s st : List Pt), (halfR st s).length ≤ st.length + s.length := by
    intro s
    induction s with
    | nil => intro st; exact Nat.le_refl _
    | cons p s ih =>
      intro st
      rw [halfR]
      have := ih (p :: popTo p st)
      have := pop p st
      simp at *; omega
  unfold halfL
  rw [List.length_reverse]
  have := go s []
  simpa using this
set_option maxHeartbeats 2000000 in
theorem half_any (s : List Pt) (A : Option Addr) (n c : Nat) (w : World) (hn : s.length = n) (hm : n ≤ 1000) (hb : InB s) (hs : PtsAt w w.heap.size A s) :
    Calls Try.prog 120 #[.slice A n c] w fun e w' => ∃ v, e = .returned v ∧ OwnP w' w.heap.size v (halfL s) ∧ ∃ x, w' = ext w x := by
  have HN := hide hn
  have HB := hide hb
  clear hn hb
  go_enter Try.func120, Try.ntmps120
  go_wp2
  go_loopw [3, 9] (fun u3 u9 wr => ∃ (k : Nat) (L : List Pt), k ≤ n ∧ u9 = .int .i64 k ∧ OwnP wr w.heap.size u3 L ∧ Hid (L = halfL (s.take k)) ∧ L.length ≤ k ∧ Below w.heap.size w wr) (fun _ u9 _ => n - (intOf u9).toNat)
  case atStart => exact ⟨0, [], Nat.zero_le _, rfl, OwnP.empty w w.heap.size 0 (Nat.le_refl _) #[] rfl (by simp [maxLen]), rfl, Nat.le_refl _, (by (repeat' (first | (with_reducible exact Below.refl _ _) | (with_reducible assumption) | (with_reducible refine below_ext _ ?_ ?_) | (with_reducible refine Below.alloc ?_ ?_ _) | (with_reducible refine Below.drew ?_) | (with_reducible refine below_drewN ?_ _) | (with_reducible refine le_drewN _ ?_) | (with_reducible refine Below.setCell ?_ ?_ _) | (with_reducible exact Nat.le_refl _) | (with_reducible refine le_ext _ ?_) | (with_reducible refine le_alloc _ ?_) | (with_reducible refine le_setCell _ _ ?_) | (with_reducible refine le_drew ?_) | omega | (simp; done) | (simp; omega))))⟩
  case round =>
    obtain ⟨k, L, hk, rfl, hown, hL, hLl, hbel⟩ := hrel
    obtain ⟨A0, n0, c0, rfl⟩ := hown.slice
    have hsz := hbel.size
    by_cases hlt : k < n
    · obtain ⟨b, o, rfl, hbl, hc⟩ := hs (by rw [HN.out]; omega)
      obtain ⟨hx0, hy0⟩ := hc k (by rw [HN.out]; omega)
      have hx := (hbel.cell (p := ⟨b, o + k * 2, none⟩) hbl).trans hx0
      have hy := (hbel.cell (p := ⟨b, o + k * 2 + 1, none⟩) hbl).trans hy0
      have bp := HB.out.at (i := k) (by rw [HN.out]; exact hlt)
      obtain ⟨⟨bp1, bp2⟩, bp3, bp4⟩ := bp
      have HC := hide hc
      clear hc hx0 hy0
      have OWN0 := hide hown
      clear hown
      go_wp2_with fail
      go_loopw [3] (fun u3 wi => ∃ L' : List Pt, OwnP wi w.heap.size u3 L' ∧ Hid (popL ⟨pX s k, pY s k⟩ L' = popL ⟨pX s k, pY s k⟩ L) ∧ Hid (∀ q ∈ L', q ∈ L) ∧ L'.length ≤ k ∧ Below wr.heap.size wr wi ∧ wr.heap.size + 1 ≤ wi.heap.size ∧ wi.heap[wr.heap.size]? = some (.cells #[.int .i64 (pX s k), .int .i64 (pY s k)] 39 (0, 0))) (fun u3 _ => lenV u3)
      case atStart => exact ⟨L, OWN0.out.below (by (repeat' (first | (with_reducible exact Below.refl _ _) | (with_reducible assumption) | (with_reducible refine below_ext _ ?_ ?_) | (with_reducible refine Below.alloc ?_ ?_ _) | (with_reducible refine Below.drew ?_) | (with_reducible refine below_drewN ?_ _) | (with_reducible refine le_drewN _ ?_) | (with_reducible refine Below.setCell ?_ ?_ _) | (with_reducible exact Nat.le_refl _) | (with_reducible refine le_ext _ ?_) | (with_reducible refine le_alloc _ ?_) | (with_reducible refine le_setCell _ _ ?_) | (with_reducible refine le_drew ?_) | omega | (simp; done) | (simp; omega)))), rfl, fun q h => h, hLl, (by (repeat' (first | (with_reducible exact Below.refl _ _) | (with_reducible assumption) | (with_reducible refine below_ext _ ?_ ?_) | (with_reducible refine Below.alloc ?_ ?_ _) | (with_reducible refine Below.drew ?_) | (with_reducible refine below_drewN ?_ _) | (with_reducible refine le_drewN _ ?_) | (with_reducible refine Below.setCell ?_ ?_ _) | (with_reducible exact Nat.le_refl _) | (with_reducible refine le_ext _ ?_) | (with_reducible refine le_alloc _ ?_) | (with_reducible refine le_setCell _ _ ?_) | (with_reducible refine le_drew ?_) | omega | (simp; done) | (simp; omega)))), by simp, heap_alloc_new _ _⟩
      case round =>
        obtain ⟨L', hown', hpop, hsub, hl', hbi, hszi, hbox⟩ := hrel
        obtain ⟨A1, n1, c1, rfl⟩ := hown'.slice
        have hl1 := hown'.pts.1
        have hcm := hown'.pts.2.2.1
        have hnc := hown'.pts.2.1
        have hbw : Below w.heap.size w wr := hbel.trans (hbi.mono hbel.size)
        unfold maxLen at hcm
        have z0 := heap_cell hbox 0
        have z1 := heap_cell hbox 1
        simp at z0 z1
        have HBOX := hide hbox
        have OWN1 := hide hown'
        clear hbox hown'
        have hszi2 := hbi.size
        by_cases h1 : 1 < n1
        · obtain ⟨m, rfl⟩ : ∃ m, n1 = m + 2 := ⟨n1 - 2, by omega⟩
          obtain ⟨gb, rfl, g1, g2, _, hcs⟩ := OWN1.out.head (by omega)
          obtain ⟨x1, y1⟩ := hcs m (by omega)
          obtain ⟨x2, y2⟩ := hcs (m + 1) (by omega)
          have q1 := HB.out _ (List.mem_of_mem_take (halfL_sub (by rw [← hL.out]; exact hsub.out (gp L' m) (gp_mem (by omega)))))
          have q2 := HB.out _ (List.mem_of_mem_take (halfL_sub (by rw [← hL.out]; exact hsub.out (gp L' (m + 1)) (gp_mem (by omega)))))
          change ((-100000 ≤ (pX L' m) ∧ (pX L' m) ≤ 100000) ∧ (-100000 ≤ (pY L' m) ∧ (pY L' m) ≤ 100000)) at q1
          change ((-100000 ≤ (pX L' (m + 1)) ∧ (pX L' (m + 1)) ≤ 100000) ∧ (-100000 ≤ (pY L' (m + 1)) ∧ (pY L' (m + 1)) ≤ 100000)) at q2
          obtain ⟨⟨q11, q12⟩, q13, q14⟩ := q1
          obtain ⟨⟨q21, q22⟩, q23, q24⟩ := q2
          clear hcs
          have hg : decide ((1 : Int) < (m : Int) + 2) = true := decide_eq_true (by omega)
          have r1 : (m : Int) < (m : Int) + 2 := by omega
          have r2 : (m : Int) + 1 < (m : Int) + 2 := by omega
          cases ht : decide ((pX L' (m + 1) - pX L' m) * (pY s k - pY L' m) - (pY L' (m + 1) - pY L' m) * (pX s k - pX L' m) ≤ 0)
          · have HT := hide (of_decide_eq_false ht)
            have hst := popL_stop (p := ⟨pX s k, pY s k⟩) hl1 HT.out
            have HST := hide hst
            clear hst
            go_wp2_with fail
            refine wp_region_ext (by kernel_rfl) (by kernel_rfl) ?_
            repeat (go_big_quiet_step ((first | (go_at_call 129; exact Calls.in_ext (turn_any _ _ _ _ _ _ _ (by omega) (by omega) (by omega) (by omega) (by omega) (by omega))))))
            refine wpQuiet_nil ?_
            rintro _ hnq
            have hzq := ext_sz hnq
            obtain ⟨nq, rfl⟩ := hnq
            (try simp at hzq)
            have NEXT : Hid (L' ++ [⟨pX s k, pY s k⟩] = halfL (s.take (k + 1))) := hide (by rw [halfL_take (by rw [HN.out]; exact hlt), ← hL.out, ← hpop.out, HST.out])
            go_wp2_with (at_builtin; refine app_pt rfl _ _ rfl w.heap.size (.slice (some ⟨gb, 0, none⟩) (m + 2) c1) L' rfl (OWN1.out.below (by (repeat' (first | (with_reducible exact Below.refl _ _) | (with_reducible assumption) | (with_reducible refine below_ext _ ?_ ?_) | (with_reducible refine Below.alloc ?_ ?_ _) | (with_reducible refine Below.drew ?_) | (with_reducible refine below_drewN ?_ _) | (with_reducible refine le_drewN _ ?_) | (with_reducible refine Below.setCell ?_ ?_ _) | (with_reducible exact Nat.le_refl _) | (with_reducible refine le_ext _ ?_) | (with_reducible refine le_alloc _ ?_) | (with_reducible refine le_setCell _ _ ?_) | (with_reducible refine le_drew ?_) | omega | (simp; done) | (simp; omega))))) (pX s k) (pY s k) _ _ rfl (by simp [go_sem]) (by simp [go_sem]) (by omega) (by simp; omega) ?_; intro v' w' hown' hb' hat hgr; obtain ⟨A2, n2, c2, rfl⟩ := hown'.slice; have HO3 := hide hown'; clear hown' hat hgr)
            exact ⟨⟨k + 1, L' ++ [⟨pX s k, pY s k⟩], by omega, by go_num, HO3.out, NEXT, by simp; omega, Below.trans (by (repeat' (first | (with_reducible exact Below.refl _ _) | (with_reducible assumption) | (with_reducible refine below_ext _ ?_ ?_) | (with_reducible refine Below.alloc ?_ ?_ _) | (with_reducible refine Below.drew ?_) | (with_reducible refine below_drewN ?_ _) | (with_reducible refine le_drewN _ ?_) | (with_reducible refine Below.setCell ?_ ?_ _) | (with_reducible exact Nat.le_refl _) | (with_reducible refine le_ext _ ?_) | (with_reducible refine le_alloc _ ?_) | (with_reducible refine le_setCell _ _ ?_) | (with_reducible refine le_drew ?_) | omega | (simp; done) | (simp; omega)))) hb'⟩, by simp [intOf]; omega⟩
          · have HT := hide (of_decide_eq_true ht)
            go_wp2_with fail
            refine wp_region_ext (by kernel_rfl) (by kernel_rfl) ?_
            repeat (go_big_quiet_step ((first | (go_at_call 129; exact Calls.in_ext (turn_any _ _ _ _ _ _ _ (by omega) (by omega) (by omega) (by omega) (by omega) (by omega))))))
            refine wpQuiet_nil ?_
            rintro _ hnq
            have hzq := ext_sz hnq
            obtain ⟨nq, rfl⟩ := hnq
            (try simp at hzq)
            go_wp2_with fail
            have hst := popL_step (p := ⟨pX s k, pY s k⟩) hl1 HT.out
            exact ⟨⟨L'.take (m + 1), OwnP.take (OWN1.out.below (by (repeat' (first | (with_reducible exact Below.refl _ _) | (with_reducible assumption) | (with_reducible refine below_ext _ ?_ ?_) | (with_reducible refine Below.alloc ?_ ?_ _) | (with_reducible refine Below.drew ?_) | (with_reducible refine below_drewN ?_ _) | (with_reducible refine le_drewN _ ?_) | (with_reducible refine Below.setCell ?_ ?_ _) | (with_reducible exact Nat.le_refl _) | (with_reducible refine le_ext _ ?_) | (with_reducible refine le_alloc _ ?_) | (with_reducible refine le_setCell _ _ ?_) | (with_reducible refine le_drew ?_) | omega | (simp; done) | (simp; omega))))) (by omega) (fun h => by cases h), hst.symm.trans hpop.out, fun q hq => hsub.out q (List.mem_of_mem_take hq), by rw [List.length_take]; omega, (by (repeat' (first | (with_reducible exact Below.refl _ _) | (with_reducible assumption) | (with_reducible refine below_ext _ ?_ ?_) | (with_reducible refine Below.alloc ?_ ?_ _) | (with_reducible refine Below.drew ?_) | (with_reducible refine below_drewN ?_ _) | (with_reducible refine le_drewN _ ?_) | (with_reducible refine Below.setCell ?_ ?_ _) | (with_reducible exact Nat.le_refl _) | (with_reducible refine le_ext _ ?_) | (with_reducible refine le_alloc _ ?_) | (with_reducible refine le_setCell _ _ ?_) | (with_reducible refine le_drew ?_) | omega | (simp; done) | (simp; omega)))), by omega, ((ext_below _ nq).block _ (by omega)).trans HBOX.out⟩, by simp [lenV]⟩
        · have HST := hide (popL_short (p := ⟨pX s k, pY s k⟩) (L := L') (by omega))
          have hg : decide ((1 : Int) < (n1 : Int)) = false := decide_eq_false (by omega)
          go_wp2_with fail
          go_quiet (fail)
          have NEXT : Hid (L' ++ [⟨pX s k, pY s k⟩] = halfL (s.take (k + 1))) := hide (by rw [halfL_take (by rw [HN.out]; exact hlt), ← hL.out, ← hpop.out, HST.out])
          go_wp2_with (at_builtin; refine app_pt rfl _ _ rfl w.heap.size (.slice A1 n1 c1) L' rfl (OWN1.out.below (by (repeat' (first | (with_reducible exact Below.refl _ _) | (with_reducible assumption) | (with_reducible refine below_ext _ ?_ ?_) | (with_reducible refine Below.alloc ?_ ?_ _) | (with_reducible refine Below.drew ?_) | (with_reducible refine below_drewN ?_ _) | (with_reducible refine le_drewN _ ?_) | (with_reducible refine Below.setCell ?_ ?_ _) | (with_reducible exact Nat.le_refl _) | (with_reducible refine le_ext _ ?_) | (with_reducible refine le_alloc _ ?_) | (with_reducible refine le_setCell _ _ ?_) | (with_reducible refine le_drew ?_) | omega | (simp; done) | (simp; omega))))) (pX s k) (pY s k) _ _ rfl (by simp [go_sem]) (by simp [go_sem]) (by omega) (by simp; omega) ?_; intro v' w' hown' hb' hat hgr; obtain ⟨A2, n2, c2, rfl⟩ := hown'.slice; have HO3 := hide hown'; clear hown' hat hgr)
          exact ⟨⟨k + 1, L' ++ [⟨pX s k, pY s k⟩], by omega, by go_num, HO3.out, NEXT, by simp; omega, Below.trans (by (repeat' (first | (with_reducible exact Below.refl _ _) | (with_reducible assumption) | (with_reducible refine below_ext _ ?_ ?_) | (with_reducible refine Below.alloc ?_ ?_ _) | (with_reducible refine Below.drew ?_) | (with_reducible refine below_drewN ?_ _) | (with_reducible refine le_drewN _ ?_) | (with_reducible refine Below.setCell ?_ ?_ _) | (with_reducible exact Nat.le_refl _) | (with_reducible refine le_ext _ ?_) | (with_reducible refine le_alloc _ ?_) | (with_reducible refine le_setCell _ _ ?_) | (with_reducible refine le_drew ?_) | omega | (simp; done) | (simp; omega)))) hb'⟩, by simp [intOf]; omega⟩
    · have : k = n := by omega
      subst this
      have OWN0 := hide hown
      clear hown
      go_wp2
      go_ret
      exact ⟨_, rfl, by rw [show halfL s = L from by rw [hL.out, List.take_of_length_le (by rw [HN.out]; omega)]]; exact OWN0.out, ext_mk hbel⟩
set_option maxHeartbeats 2000000 in
theorem chain_any (s : List Pt) (A : Option Addr) (n c : Nat) (w : World) (hn : s.length = n) (hm : n ≤ 1000) (hb : InB s) (hs : PtsAt w w.heap.size A s) :
    Calls Try.prog 124 #[.slice A n c] w fun e w' => ∃ v, e = .returned v ∧ OwnP w' w.heap.size v (halfL s) ∧ ∃ x, w' = ext w x := by
  have HN := hide hn
  have HB := hide hb
  clear hn hb
  go_enter Try.func124, Try.ntmps124
  go_wp2
  go_loopw [3, 4] (fun u3 u9 wr => ∃ (k : Nat) (L : List Pt), k ≤ n ∧ u9 = .int .i64 k ∧ OwnP wr w.heap.size u3 L ∧ Hid (L = halfL (s.take k)) ∧ L.length ≤ k ∧ Below w.heap.size w wr) (fun _ u9 _ => n - (intOf u9).toNat)
  case atStart => exact ⟨0, [], Nat.zero_le _, rfl, OwnP.empty w w.heap.size 0 (Nat.le_refl _) #[] rfl (by simp [maxLen]), rfl, Nat.le_refl _, (by (repeat' (first | (with_reducible exact Below.refl _ _) | (with_reducible assumption) | (with_reducible refine below_ext _ ?_ ?_) | (with_reducible refine Below.alloc ?_ ?_ _) | (with_reducible refine Below.drew ?_) | (with_reducible refine below_drewN ?_ _) | (with_reducible refine le_drewN _ ?_) | (with_reducible refine Below.setCell ?_ ?_ _) | (with_reducible exact Nat.le_refl _) | (with_reducible refine le_ext _ ?_) | (with_reducible refine le_alloc _ ?_) | (with_reducible refine le_setCell _ _ ?_) | (with_reducible refine le_drew ?_) | omega | (simp; done) | (simp; omega))))⟩
  case round =>
    obtain ⟨k, L, hk, rfl, hown, hL, hLl, hbel⟩ := hrel
    obtain ⟨A0, n0, c0, rfl⟩ := hown.slice
    have hsz := hbel.size
    by_cases hlt : k < n
    · obtain ⟨b, o, rfl, hbl, hc⟩ := hs (by rw [HN.out]; omega)
      obtain ⟨hx0, hy0⟩ := hc k (by rw [HN.out]; omega)
      have hx := (hbel.cell (p := ⟨b, o + k * 2, none⟩) hbl).trans hx0
      have hy := (hbel.cell (p := ⟨b, o + k * 2 + 1, none⟩) hbl).trans hy0
      have bp := HB.out.at (i := k) (by rw [HN.out]; exact hlt)
      obtain ⟨⟨bp1, bp2⟩, bp3, bp4⟩ := bp
      have HC := hide hc
      clear hc hx0 hy0
      have OWN0 := hide hown
      clear hown
      go_wp2_with fail
      go_loopw [3] (fun u3 wi => ∃ L' : List Pt, OwnP wi w.heap.size u3 L' ∧ Hid (popL ⟨pX s k, pY s k⟩ L' = popL ⟨pX s k, pY s k⟩ L) ∧ Hid (∀ q ∈ L', q ∈ L) ∧ L'.length ≤ k ∧ Below wr.heap.size wr wi) (fun u3 _ => lenV u3)
      case atStart => exact ⟨L, OWN0.out, rfl, fun q h => h, hLl, (by (repeat' (first | (with_reducible exact Below.refl _ _) | (with_reducible assumption) | (with_reducible refine below_ext _ ?_ ?_) | (with_reducible refine Below.alloc ?_ ?_ _) | (with_reducible refine Below.drew ?_) | (with_reducible refine below_drewN ?_ _) | (with_reducible refine le_drewN _ ?_) | (with_reducible refine Below.setCell ?_ ?_ _) | (with_reducible exact Nat.le_refl _) | (with_reducible refine le_ext _ ?_) | (with_reducible refine le_alloc _ ?_) | (with_reducible refine le_setCell _ _ ?_) | (with_reducible refine le_drew ?_) | omega | (simp; done) | (simp; omega))))⟩
      case round =>
        obtain ⟨L', hown', hpop, hsub, hl', hbi⟩ := hrel
        obtain ⟨A1, n1, c1, rfl⟩ := hown'.slice
        have hl1 := hown'.pts.1
        have hcm := hown'.pts.2.2.1
        have hnc := hown'.pts.2.1
        have hbw : Below w.heap.size w wr := hbel.trans (hbi.mono hbel.size)
        unfold maxLen at hcm
        have z0 := (hbi.cell (p := ⟨b, o + k * 2, none⟩) (Nat.lt_of_lt_of_le hbl hbel.size)).trans hx
        have z1 := (hbi.cell (p := ⟨b, o + k * 2 + 1, none⟩) (Nat.lt_of_lt_of_le hbl hbel.size)).trans hy
        have OWN1 := hide hown'
        clear hown'
        have hszi2 := hbi.size
        by_cases h1 : 1 < n1
        · obtain ⟨m, rfl⟩ : ∃ m, n1 = m + 2 := ⟨n1 - 2, by omega⟩
          obtain ⟨gb, rfl, g1, g2, _, hcs⟩ := OWN1.out.head (by omega)
          obtain ⟨x1, y1⟩ := hcs m (by omega)
          obtain ⟨x2, y2⟩ := hcs (m + 1) (by omega)
          have q1 := HB.out _ (List.mem_of_mem_take (halfL_sub (by rw [← hL.out]; exact hsub.out (gp L' m) (gp_mem (by omega)))))
          have q2 := HB.out _ (List.mem_of_mem_take (halfL_sub (by rw [← hL.out]; exact hsub.out (gp L' (m + 1)) (gp_mem (by omega)))))
          change ((-100000 ≤ (pX L' m) ∧ (pX L' m) ≤ 100000) ∧ (-100000 ≤ (pY L' m) ∧ (pY L' m) ≤ 100000)) at q1
          change ((-100000 ≤ (pX L' (m + 1)) ∧ (pX L' (m + 1)) ≤ 100000) ∧ (-100000 ≤ (pY L' (m + 1)) ∧ (pY L' (m + 1)) ≤ 100000)) at q2
          obtain ⟨⟨q11, q12⟩, q13, q14⟩ := q1
          obtain ⟨⟨q21, q22⟩, q23, q24⟩ := q2
          clear hcs
          have hg : decide ((1 : Int) < (m : Int) + 2) = true := decide_eq_true (by omega)
          have r1 : (m : Int) < (m : Int) + 2 := by omega
          have r2 : (m : Int) + 1 < (m : Int) + 2 := by omega
          cases ht : decide ((pX L' (m + 1) - pX L' m) * (pY s k - pY L' m) - (pY L' (m + 1) - pY L' m) * (pX s k - pX L' m) ≤ 0)
          · have HT := hide (of_decide_eq_false ht)
            have hst := popL_stop (p := ⟨pX s k, pY s k⟩) hl1 HT.out
            have HST := hide hst
            clear hst
            go_wp2_with fail
            refine wp_region_ext (by kernel_rfl) (by kernel_rfl) ?_
            repeat (go_big_quiet_step ((first | (go_at_call 89; exact Calls.in_ext (scross_any _ _ _ _ _ _ _ (by omega) (by omega) (by omega) (by omega) (by omega) (by omega))))))
            refine wpQuiet_nil ?_
            rintro _ hnq
            have hzq := ext_sz hnq
            obtain ⟨nq, rfl⟩ := hnq
            (try simp at hzq)
            have NEXT : Hid (L' ++ [⟨pX s k, pY s k⟩] = halfL (s.take (k + 1))) := hide (by rw [halfL_take (by rw [HN.out]; exact hlt), ← hL.out, ← hpop.out, HST.out])
            go_wp2_with (at_builtin; refine app_pt rfl _ _ rfl w.heap.size (.slice (some ⟨gb, 0, none⟩) (m + 2) c1) L' rfl (OWN1.out.below (by (repeat' (first | (with_reducible exact Below.refl _ _) | (with_reducible assumption) | (with_reducible refine below_ext _ ?_ ?_) | (with_reducible refine Below.alloc ?_ ?_ _) | (with_reducible refine Below.drew ?_) | (with_reducible refine below_drewN ?_ _) | (with_reducible refine le_drewN _ ?_) | (with_reducible refine Below.setCell ?_ ?_ _) | (with_reducible exact Nat.le_refl _) | (with_reducible refine le_ext _ ?_) | (with_reducible refine le_alloc _ ?_) | (with_reducible refine le_setCell _ _ ?_) | (with_reducible refine le_drew ?_) | omega | (simp; done) | (simp; omega))))) (pX s k) (pY s k) _ _ rfl (by simp [go_sem]) (by simp [go_sem]) (by omega) (by simp; omega) ?_; intro v' w' hown' hb' hat hgr; obtain ⟨A2, n2, c2, rfl⟩ := hown'.slice; have HO3 := hide hown'; clear hown' hat hgr)
            exact ⟨⟨k + 1, L' ++ [⟨pX s k, pY s k⟩], by omega, by go_num, HO3.out, NEXT, by simp; omega, Below.trans (by (repeat' (first | (with_reducible exact Below.refl _ _) | (with_reducible assumption) | (with_reducible refine below_ext _ ?_ ?_) | (with_reducible refine Below.alloc ?_ ?_ _) | (with_reducible refine Below.drew ?_) | (with_reducible refine below_drewN ?_ _) | (with_reducible refine le_drewN _ ?_) | (with_reducible refine Below.setCell ?_ ?_ _) | (with_reducible exact Nat.le_refl _) | (with_reducible refine le_ext _ ?_) | (with_reducible refine le_alloc _ ?_) | (with_reducible refine le_setCell _ _ ?_) | (with_reducible refine le_drew ?_) | omega | (simp; done) | (simp; omega)))) hb'⟩, by simp [intOf]; omega⟩
          · have HT := hide (of_decide_eq_true ht)
            go_wp2_with fail
            refine wp_region_ext (by kernel_rfl) (by kernel_rfl) ?_
            repeat (go_big_quiet_step ((first | (go_at_call 89; exact Calls.in_ext (scross_any _ _ _ _ _ _ _ (by omega) (by omega) (by omega) (by omega) (by omega) (by omega))))))
            refine wpQuiet_nil ?_
            rintro _ hnq
            have hzq := ext_sz hnq
            obtain ⟨nq, rfl⟩ := hnq
            (try simp at hzq)
            go_wp2_with fail
            have hst := popL_step (p := ⟨pX s k, pY s k⟩) hl1 HT.out
            exact ⟨⟨L'.take (m + 1), OwnP.take (OWN1.out.below (by (repeat' (first | (with_reducible exact Below.refl _ _) | (with_reducible assumption) | (with_reducible refine below_ext _ ?_ ?_) | (with_reducible refine Below.alloc ?_ ?_ _) | (with_reducible refine Below.drew ?_) | (with_reducible refine below_drewN ?_ _) | (with_reducible refine le_drewN _ ?_) | (with_reducible refine Below.setCell ?_ ?_ _) | (with_reducible exact Nat.le_refl _) | (with_reducible refine le_ext _ ?_) | (with_reducible refine le_alloc _ ?_) | (with_reducible refine le_setCell _ _ ?_) | (with_reducible refine le_drew ?_) | omega | (simp; done) | (simp; omega))))) (by omega) (fun h => by cases h), hst.symm.trans hpop.out, fun q hq => hsub.out q (List.mem_of_mem_take hq), by rw [List.length_take]; omega, (by (repeat' (first | (with_reducible exact Below.refl _ _) | (with_reducible assumption) | (with_reducible refine below_ext _ ?_ ?_) | (with_reducible refine Below.alloc ?_ ?_ _) | (with_reducible refine Below.drew ?_) | (with_reducible refine below_drewN ?_ _) | (with_reducible refine le_drewN _ ?_) | (with_reducible refine Below.setCell ?_ ?_ _) | (with_reducible exact Nat.le_refl _) | (with_reducible refine le_ext _ ?_) | (with_reducible refine le_alloc _ ?_) | (with_reducible refine le_setCell _ _ ?_) | (with_reducible refine le_drew ?_) | omega | (simp; done) | (simp; omega))))⟩, by simp [lenV]⟩
        · have HST := hide (popL_short (p := ⟨pX s k, pY s k⟩) (L := L') (by omega))
          have hg : decide ((1 : Int) < (n1 : Int)) = false := decide_eq_false (by omega)
          go_wp2_with fail
          go_quiet (fail)
          have NEXT : Hid (L' ++ [⟨pX s k, pY s k⟩] = halfL (s.take (k + 1))) := hide (by rw [halfL_take (by rw [HN.out]; exact hlt), ← hL.out, ← hpop.out, HST.out])
          go_wp2_with (at_builtin; refine app_pt rfl _ _ rfl w.heap.size (.slice A1 n1 c1) L' rfl (OWN1.out.below (by (repeat' (first | (with_reducible exact Below.refl _ _) | (with_reducible assumption) | (with_reducible refine below_ext _ ?_ ?_) | (with_reducible refine Below.alloc ?_ ?_ _) | (with_reducible refine Below.drew ?_) | (with_reducible refine below_drewN ?_ _) | (with_reducible refine le_drewN _ ?_) | (with_reducible refine Below.setCell ?_ ?_ _) | (with_reducible exact Nat.le_refl _) | (with_reducible refine le_ext _ ?_) | (with_reducible refine le_alloc _ ?_) | (with_reducible refine le_setCell _ _ ?_) | (with_reducible refine le_drew ?_) | omega | (simp; done) | (simp; omega))))) (pX s k) (pY s k) _ _ rfl (by simp [go_sem]) (by simp [go_sem]) (by omega) (by simp; omega) ?_; intro v' w' hown' hb' hat hgr; obtain ⟨A2, n2, c2, rfl⟩ := hown'.slice; have HO3 := hide hown'; clear hown' hat hgr)
          exact ⟨⟨k + 1, L' ++ [⟨pX s k, pY s k⟩], by omega, by go_num, HO3.out, NEXT, by simp; omega, Below.trans (by (repeat' (first | (with_reducible exact Below.refl _ _) | (with_reducible assumption) | (with_reducible refine below_ext _ ?_ ?_) | (with_reducible refine Below.alloc ?_ ?_ _) | (with_reducible refine Below.drew ?_) | (with_reducible refine below_drewN ?_ _) | (with_reducible refine le_drewN _ ?_) | (with_reducible refine Below.setCell ?_ ?_ _) | (with_reducible exact Nat.le_refl _) | (with_reducible refine le_ext _ ?_) | (with_reducible refine le_alloc _ ?_) | (with_reducible refine le_setCell _ _ ?_) | (with_reducible refine le_drew ?_) | omega | (simp; done) | (simp; omega)))) hb'⟩, by simp [intOf]; omega⟩
    · have : k = n := by omega
      subst this
      have OWN0 := hide hown
      clear hown
      go_wp2
      go_ret
      exact ⟨_, rfl, by rw [show halfL s = L from by rw [hL.out, List.take_of_length_le (by rw [HN.out]; omega)]]; exact OWN0.out, ext_mk hbel⟩
end Go.Proofs.Ytelhidonhldjeaa
