
/- KdOrder of the program: the comparison. -/
/- KdOrder of the program: sorting a part of the indices; the recursion; its answer to 'kd'. -/
/- KdOrder of the program and its answer to 'kd'. -/
import Derived.Test.YtnddfdhfefconaaGreatDoorKdT
import Derived.Test.YtnddfdhfefconaaGreatDoorSlayK
import Derived.Deep.AppendLies
import Derived.StillTailTactics
import Derived.Deep.DeepCutAuto
import Derived.BigRegion
import Derived.Laws.EntriesVeiled
set_option linter.unusedVariables false
set_option linter.unusedSimpArgs false
namespace Go.Proofs.YtnddfdhfefconaaGreatDoor
open Go.RowKit Go.Sort

/-- A later world with more draws is one that has grown. -/
theorem grow_of_below {W w' : World} (h : Below W.heap.size W w') (hd : W.drawn ≤ w'.drawn) : ∃ q os', w' = grow (W.drewN q) os' := by
  refine ⟨w'.drawn - W.drawn, w'.heap.extract W.heap.size w'.heap.size, ?_⟩
  have e : W.heap ++ w'.heap.extract W.heap.size w'.heap.size = w'.heap := by
    apply Array.ext_getElem?
    intro i
    have hs := h.size
    rw [Array.getElem?_append]
    split
    · rename_i hi
      exact (h.block i hi).symm
    · rename_i hi
      rw [Array.getElem?_extract]
      split
      · congr 1; omega
      · rw [Array.getElem?_eq_none (by omega)]
  have h1 := h.os
  have h2 := h.tape
  have h3 := h.output
  cases w'
  cases W
  simp only [grow, World.drewN] at *
  subst h1 h2 h3
  rw [e]
  congr 1
  omega
/-- The comparison of two indices. -/
def cmpK (ps : List Pt) (t : Bool) (i k : Nat) : Int := orI (orI (sgn ((ptK ps t i).x - (ptK ps t k).x)) (sgn ((ptK ps t i).y - (ptK ps t k).y))) (sgn ((i : Int) - (k : Int)))
theorem cmpK_lt (ps : List Pt) (t : Bool) (i k : Nat) : cmpK ps t i k < 0 ↔ kL ps t i k := by
  unfold cmpK orI sgn kL
  split <;> split <;> (try split) <;> (try split) <;> omega
theorem grow_below (W : World) (q : Nat) (os' : Array Obj) : Below W.heap.size W (grow (W.drewN q) os') ∧ W.drawn ≤ (grow (W.drewN q) os').drawn :=
  ⟨⟨rfl, rfl, rfl, by simp [grow], fun k hk => by simp [grow, Array.getElem?_append, hk]⟩, Nat.le_add_right _ _⟩
set_option maxRecDepth 20000 in
set_option maxHeartbeats 4000000 in
theorem kdc_any (ps : List Pt) (i k : Nat) (A : Option Addr) (n c lb tb : Nat) (w : World) (hn : ps.length = n) (hi : i < n) (hk : k < n) (hlb : lb < w.heap.size) (htb : tb < w.heap.size) (cl : w.cell? ⟨lb, 0, none⟩ = some (.slice A n c)) (ct : w.cell? ⟨tb, 0, none⟩ = some (.bool false)) (hs : PtsAt w w.heap.size A ps) :
    Calls Tryz.prog 145 #[.int .i64 i, .int .i64 k, .pointer (some ⟨lb, 0, none⟩), .pointer (some ⟨tb, 0, none⟩)] w fun e w' => e = .returned (.int .i64 (cmpK ps false i k)) ∧ Below w.heap.size w w' ∧ w.drawn ≤ w'.drawn := by
  obtain ⟨b, o, rfl, hb, hcs⟩ := hs (by omega)
  obtain ⟨ix, iy⟩ := hcs i (by omega)
  obtain ⟨kx, ky⟩ := hcs k (by omega)
  have q1 : (i : Int) < (n : Int) := by omega
  have q2 : (k : Int) < (n : Int) := by omega
  have q3 : (0 : Int) ≤ (i : Int) := by omega
  have q4 : (0 : Int) ≤ (k : Int) := by omega
  have RV : Hid (cmpK ps false i k = orI (orI (sgn (pX ps i - pX ps k)) (sgn (pY ps i - pY ps k))) (sgn ((i : Int) - (k : Int)))) := hide rfl
  have CB := hide (fun (a b c d : Int) (W : World) => (comparePt_grow a b c d W).mono (fun e w' (h : _ ∧ ∃ q os', w' = grow (W.drewN q) os') => (show e = .returned (.int .i64 (orI (sgn (a - c)) (sgn (b - d)))) ∧ Below W.heap.size W w' ∧ W.drawn ≤ w'.drawn from ⟨h.1, by obtain ⟨_, q, os', rfl⟩ := h; exact grow_below W q os'⟩)))
  clear hn hcs hs
  generalize pX ps i = X1 at *
  generalize pY ps i = Y1 at *
  generalize pX ps k = X2 at *
  generalize pY ps k = Y2 at *
  go_enter Tryz.func145, Tryz.ntmps145
  go_wp2_with fail
  go_region
  all_goals
    go_wp2_with fail
    refine (CB.out _ _ _ _ _).mono ?_
    rintro e w5 ⟨rfl, hb5, hd5⟩
    have zw := hb5.size
    simp at zw
    have B5 : Below w.heap.size w w5 := Below.trans (by (repeat' (first | (with_reducible first | exact Below.refl _ _ | assumption | refine below_ext _ ?_ ?_ | refine Below.alloc ?_ ?_ _ | refine Below.drew ?_ | refine below_drewN ?_ _ | refine le_drewN _ ?_ | refine Below.setCell ?_ ?_ _ | exact Nat.le_refl _ | refine le_ext _ ?_ | refine le_alloc _ ?_ | refine le_setCell _ _ ?_ | refine le_drew ?_) | omega | (simp; done) | (simp; omega)))) (hb5.mono (by first | omega | (simp; done) | (simp; omega)))
    have D5 : w.drawn ≤ w5.drawn := Nat.le_trans (Nat.le_succ w.drawn) hd5
    clear hb5 hd5
    go_wp2_with (first | (go_at_call 148; refine (Comparei_any _ _ _).mono ?_; rintro e w' ⟨rfl, rfl⟩) | (go_at_call 147; refine (Or_any (orI (sgn (X1 - X2)) (sgn (Y1 - Y2))) (sgn ((i : Int) - (k : Int))) _ _ _ (by simp [go_sem]) (by simp [go_sem])).mono ?_; rintro e w' ⟨rfl, rfl⟩))
    go_ret
    exact ⟨congrArg (fun z => Ending.returned (.int .i64 z)) RV.out.symm, B5.trans (Below.alloc (Below.refl _ _) B5.size _), D5⟩
set_option maxHeartbeats 400000 in
theorem turned_any (x y : Int) (w : World) : Calls Tryz.prog 146 #[.agg #[.int .i64 x, .int .i64 y]] w fun e w' => e = .returned (.agg #[.int .i64 y, .int .i64 x]) ∧ w' = (w.alloc (.cells #[.int .i64 x, .int .i64 y] 41)).alloc (.cells #[.int .i64 y, .int .i64 x] 41) := by
  go_enter Tryz.func146, Tryz.ntmps146
  go_wp2
  go_returns
  exact ⟨rfl, rfl⟩
set_option maxRecDepth 20000 in
set_option maxHeartbeats 4000000 in
theorem kdt_any (ps : List Pt) (i k : Nat) (A : Option Addr) (n c lb tb : Nat) (w : World) (hn : ps.length = n) (hi : i < n) (hk : k < n) (hlb : lb < w.heap.size) (htb : tb < w.heap.size) (cl : w.cell? ⟨lb, 0, none⟩ = some (.slice A n c)) (ct : w.cell? ⟨tb, 0, none⟩ = some (.bool true)) (hs : PtsAt w w.heap.size A ps) :
    Calls Tryz.prog 145 #[.int .i64 i, .int .i64 k, .pointer (some ⟨lb, 0, none⟩), .pointer (some ⟨tb, 0, none⟩)] w fun e w' => e = .returned (.int .i64 (cmpK ps true i k)) ∧ Below w.heap.size w w' ∧ w.drawn ≤ w'.drawn := by
  obtain ⟨b, o, rfl, hb, hcs⟩ := hs (by omega)
  obtain ⟨ix, iy⟩ := hcs i (by omega)
  obtain ⟨kx, ky⟩ := hcs k (by omega)
  have q1 : (i : Int) < (n : Int) := by omega
  have q2 : (k : Int) < (n : Int) := by omega
  have q3 : (0 : Int) ≤ (i : Int) := by omega
  have q4 : (0 : Int) ≤ (k : Int) := by omega
  have RV : Hid (cmpK ps true i k = orI (orI (sgn (pY ps i - pY ps k)) (sgn (pX ps i - pX ps k))) (sgn ((i : Int) - (k : Int)))) := hide rfl
  have TU := hide turned_any
  have CB := hide (fun (a b c d : Int) (W : World) => (comparePt_grow a b c d W).mono (fun e w' (h : _ ∧ ∃ q os', w' = grow (W.drewN q) os') => (show e = .returned (.int .i64 (orI (sgn (a - c)) (sgn (b - d)))) ∧ Below W.heap.size W w' ∧ W.drawn ≤ w'.drawn from ⟨h.1, by obtain ⟨_, q, os', rfl⟩ := h; exact grow_below W q os'⟩)))
  clear hn hcs hs
  generalize pX ps i = X1 at *
  generalize pY ps i = Y1 at *
  generalize pX ps k = X2 at *
  generalize pY ps k = Y2 at *
  go_enter Tryz.func145, Tryz.ntmps145
  go_wp2_with fail
  go_region
  all_goals
    go_wp2_with fail
    go_region_with (go_at_call 146; refine (TU.out _ _ _).mono ?_; rintro e w' ⟨rfl, rfl⟩)
  all_goals
    go_wp2_with fail
    refine (CB.out _ _ _ _ _).mono ?_
    rintro e w5 ⟨rfl, hb5, hd5⟩
    have zw := hb5.size
    simp at zw
    have B5 : Below w.heap.size w w5 := Below.trans (by (repeat' (first | (with_reducible first | exact Below.refl _ _ | assumption | refine below_ext _ ?_ ?_ | refine Below.alloc ?_ ?_ _ | refine Below.drew ?_ | refine below_drewN ?_ _ | refine le_drewN _ ?_ | refine Below.setCell ?_ ?_ _ | exact Nat.le_refl _ | refine le_ext _ ?_ | refine le_alloc _ ?_ | refine le_setCell _ _ ?_ | refine le_drew ?_) | omega | (simp; done) | (simp; omega)))) (hb5.mono (by first | omega | (simp; done) | (simp; omega)))
    have D5 : w.drawn ≤ w5.drawn := Nat.le_trans (show w.drawn ≤ w.drawn + 1 + 1 by omega) hd5
    clear hb5 hd5
    go_wp2_with (first | (go_at_call 148; refine (Comparei_any _ _ _).mono ?_; rintro e w' ⟨rfl, rfl⟩) | (go_at_call 147; refine (Or_any (orI (sgn (Y1 - Y2)) (sgn (X1 - X2))) (sgn ((i : Int) - (k : Int))) _ _ _ (by simp [go_sem]) (by simp [go_sem])).mono ?_; rintro e w' ⟨rfl, rfl⟩))
    go_ret
    exact ⟨congrArg (fun z => Ending.returned (.int .i64 z)) RV.out.symm, B5.trans (Below.alloc (Below.refl _ _) B5.size _), D5⟩
end Go.Proofs.YtnddfdhfefconaaGreatDoor
namespace Go.Proofs.YtnddfdhfefconaaGreatDoor
open Go.RowKit Go.Sort Go.Shelf Go.Lib

/-! ### the world behind a sort in place -/
section
variable {α : Type} [Inhabited α] (enc : α → Value)
theorem sw_size (w : World) (g o q : Nat) (dk : Array α) (os : Array Obj) : w.heap.size ≤ (sortWorld enc w g o q dk os).heap.size := by
  unfold sortWorld
  show w.heap.size ≤ ((putRow enc (Sort.ahead w q) g o dk).heap ++ os).size
  rw [Array.size_append, Go.Sort.size_putRow]
  exact Nat.le_add_right _ _
theorem sw_old (w : World) (g o q : Nat) (dk : Array α) (os : Array Obj) {k : Nat} (hk : k < w.heap.size) (hne : k ≠ g) : (sortWorld enc w g o q dk os).heap[k]? = w.heap[k]? := by
  unfold sortWorld
  rw [Go.Sort.heap_grow_old _ _ (by rw [Go.Sort.size_putRow]; exact hk)]
  show ((Sort.ahead w q).heap.modify g _)[k]? = _
  rw [Array.getElem?_modify, if_neg (fun e => hne e.symm)]; rfl
theorem sw_grown (w : World) (g o q : Nat) (dk : Array α) (os : Array Obj) : w.grownBy (sortWorld enc w g o q dk os) (some g) :=
  ⟨rfl, rfl, rfl, sw_size enc w g o q dk os, fun k hk hne => sw_old enc w g o q dk os hk (fun e => hne (by rw [e]))⟩
theorem sw_out (w : World) (g o q : Nat) (dk : Array α) (os : Array Obj) (hg : g < w.heap.size) {j : Nat} (hj : j < o ∨ o + dk.size ≤ j) : (sortWorld enc w g o q dk os).cell? ⟨g, j, none⟩ = w.cell? ⟨g, j, none⟩ := by
  unfold sortWorld
  rw [cell?_grow _ _ _ (by rw [Go.Sort.size_putRow]; exact hg), cell?_putRow_other _ _ _ _ _ _ (.inr hj)]
  rfl
theorem sw_frozen (w : World) (g o q : Nat) (dk : Array α) (os : Array Obj) (hg : g < w.heap.size) (j : Nat) : (sortWorld enc w g o q dk os).frozen? ⟨g, j, none⟩ = w.frozen? ⟨g, j, none⟩ := by
  unfold sortWorld
  rw [frozen?_grow _ _ _ (by rw [Go.Sort.size_putRow]; exact hg), frozen?_putRow]
  rfl
end
/-- Part o.. of block g holds these indices. -/
def RowI (W : World) (g o : Nat) (l : List Nat) : Prop := ∀ i (h : i < l.length), W.cell? ⟨g, o + i, none⟩ = some (.int .i64 ((l[i] : Nat) : Int)) ∧ W.frozen? ⟨g, o + i, none⟩ = false
def encF {m : Nat} (x : Fin (m + 1)) : Value := .int .i64 ((x.val : Nat) : Int)
theorem oneF {m : Nat} : OneCell (encF (m := m)) := fun x => rfl
def cmpF (ps : List Pt) (t : Bool) {m : Nat} (x y : Fin (m + 1)) : Int := cmpK ps t x.val y.val
theorem cmpF_lt (ps : List Pt) (t : Bool) {m : Nat} (x y : Fin (m + 1)) : ltOf (cmpF ps t) x y = decide (kL ps t x.val y.val) := by
  unfold ltOf cmpF
  rw [Bool.eq_iff_iff, decide_eq_true_iff, decide_eq_true_iff, cmpK_lt]
theorem swoF (ps : List Pt) (t : Bool) {m : Nat} : SWO (ltOf (cmpF ps t (m := m))) where
  irrefl x := by rw [cmpF_lt]; exact decide_eq_false (fun h => kL_asy h h)
  trans x y z h1 h2 := by rw [cmpF_lt] at *; exact decide_eq_true (kL_tr (of_decide_eq_true h1) (of_decide_eq_true h2))
  ntrans x y z h1 h2 := by
    rw [cmpF_lt] at *
    have h1 := of_decide_eq_false h1
    have h2 := of_decide_eq_false h2
    exact decide_eq_false (by unfold kL at *; omega)
def toF (m : Nat) (l : List Nat) : Array (Fin (m + 1)) := (l.map fun k => Fin.ofNat (m + 1) k).toArray
theorem toF_size (m : Nat) (l : List Nat) : (toF m l).size = l.length := by simp [toF]
theorem toF_at {m : Nat} {l : List Nat} (hl : ∀ k ∈ l, k < m + 1) {i : Nat} (hi : i < l.length) : ((toF m l)[i]!).val = l[i] := by
  have h1 : i < (toF m l).size := by rw [toF_size]; exact hi
  rw [getElem!_pos _ i h1]
  have e : (toF m l)[i] = Fin.ofNat (m + 1) l[i] := by simp [toF]
  rw [e]
  exact Nat.mod_eq_of_lt (hl _ (List.getElem_mem _))
theorem toF_val {m : Nat} {l : List Nat} (hl : ∀ k ∈ l, k < m + 1) : (toF m l).toList.map Fin.val = l := by
  apply List.ext_getElem
  · simp [toF]
  · intro i h1 h2
    simp [toF]
    exact hl _ (List.getElem_mem _)
/-- What the library's sort gives is the one sorted order. -/
theorem srtF {ps : List Pt} {t : Bool} {m : Nat} {l : List Nat} (hl : ∀ k ∈ l, k < m + 1) (hn : l.Nodup) :
    ((toF m l).toList.mergeSort fun x y => !(ltOf (cmpF ps t)) y x).map Fin.val = srtK ps t l := by
  have hp := List.mergeSort_perm (toF m l).toList fun x y => !(ltOf (cmpF ps t)) y x
  have hv := hp.map Fin.val
  rw [toF_val hl] at hv
  refine srtK_only hn hv ?_
  have hs : ((toF m l).toList.mergeSort fun x y => !(ltOf (cmpF ps t)) y x).Pairwise fun x y => (!(ltOf (cmpF ps t)) y x) = true := by
    apply List.pairwise_mergeSort
    · intro a b c h1 h2
      rw [cmpF_lt] at *
      simp only [Bool.not_eq_true', decide_eq_false_iff_not] at *
      unfold kL at *; omega
    · intro a b
      rw [cmpF_lt, cmpF_lt]
      simp only [Bool.or_eq_true, Bool.not_eq_true', decide_eq_false_iff_not]
      unfold kL; omega
  have hnd := hv.nodup_iff.2 hn
  rw [List.pairwise_map]
  rw [List.Nodup, List.pairwise_map] at hnd
  refine (hs.and hnd).imp ?_
  rintro a b ⟨h1, h2⟩
  rw [cmpF_lt] at h1
  simp only [Bool.not_eq_true', decide_eq_false_iff_not] at h1
  rcases kL_tri ps t a.val b.val with h | h | h
  · exact h
  · exact absurd h h2
  · exact absurd h h1
theorem kdq_any (ps : List Pt) (t : Bool) (i k : Nat) (A : Option Addr) (n c lb tb : Nat) (w : World) (hn : ps.length = n) (hi : i < n) (hk : k < n) (hlb : lb < w.heap.size) (htb : tb < w.heap.size) (cl : w.cell? ⟨lb, 0, none⟩ = some (.slice A n c)) (ct : w.cell? ⟨tb, 0, none⟩ = some (.bool t)) (hs : PtsAt w w.heap.size A ps) :
    Calls Tryz.prog 145 #[.int .i64 i, .int .i64 k, .pointer (some ⟨lb, 0, none⟩), .pointer (some ⟨tb, 0, none⟩)] w fun e w' => e = .returned (.int .i64 (cmpK ps t i k)) ∧ ∃ q os', w' = grow (w.drewN q) os' := by
  cases t
  · exact (kdc_any ps i k A n c lb tb w hn hi hk hlb htb cl ct hs).mono fun e w' h => ⟨h.1, grow_of_below h.2.1 h.2.2⟩
  · exact (kdt_any ps i k A n c lb tb w hn hi hk hlb htb cl ct hs).mono fun e w' h => ⟨h.1, grow_of_below h.2.1 h.2.2⟩
theorem sortK_any (ps : List Pt) (t : Bool) (l : List Nat) (A : Option Addr) (n c lb tb g o m c1 : Nat) (w : World) (hn : ps.length = n) (hm : l.length = m) (h0 : 0 < m) (hm2 : m ≤ 1000) (hl : ∀ k ∈ l, k < n) (hnd : l.Nodup) (hlb : lb < w.heap.size) (htb : tb < w.heap.size) (hg : g < w.heap.size) (n1 : lb ≠ g) (n2 : tb ≠ g)
    (cl : w.cell? ⟨lb, 0, none⟩ = some (.slice A n c)) (ct : w.cell? ⟨tb, 0, none⟩ = some (.bool t)) (hs : PtsAt w g A ps) (hr : RowI w g o l) :
    Calls Tryz.prog 144 #[.slice (some ⟨g, o, none⟩) m c1, .func (.func 145) #[] #[.pointer (some ⟨lb, 0, none⟩), .pointer (some ⟨tb, 0, none⟩)]] w fun e w' =>
      e = .returned (.tuple #[]) ∧ w.grownBy w' (some g) ∧ RowI w' g o (srtK ps t l) ∧ ∀ j, (j < o ∨ o + m ≤ j) → w'.cell? ⟨g, j, none⟩ = w.cell? ⟨g, j, none⟩ ∧ w'.frozen? ⟨g, j, none⟩ = w.frozen? ⟨g, j, none⟩ := by
  obtain ⟨n', rfl⟩ : ∃ n', n = n' + 1 := ⟨n - 1, by
    have := hl l[0] (List.getElem_mem (by omega)); omega⟩
  have hH : Holds encF w g o (toF n' l) := fun j hj => by
    rw [toF_size] at hj
    unfold encF
    rw [toF_at hl hj]
    exact hr j hj
  have hC : CmpLays1 Tryz.prog 145 #[.pointer (some ⟨lb, 0, none⟩), .pointer (some ⟨tb, 0, none⟩)] (encF (m := n')) (cmpF ps t) g o (toF n' l).size w := fun q os dk hd x y => by
    have zs := sw_size encF w g o q dk os
    have ol : (sortWorld encF w g o q dk os).cell? ⟨lb, 0, none⟩ = some (.slice A (n' + 1) c) := (World.cell?_of_block (sw_old encF w g o q dk os hlb n1)).trans cl
    have ot : (sortWorld encF w g o q dk os).cell? ⟨tb, 0, none⟩ = some (.bool t) := (World.cell?_of_block (sw_old encF w g o q dk os htb n2)).trans ct
    exact kdq_any ps t x.val y.val A (n' + 1) c lb tb _ hn x.isLt y.isLt (by omega) (by omega) ol ot ((hs.below (show Below g w (sortWorld encF w g o q dk os) from ⟨rfl, rfl, rfl, zs, fun k hk => sw_old encF w g o q dk os (by omega) (by omega)⟩)).more (by omega))
  have hcon := Any.slices_SortFunc_total Tryz.sortI encF oneF (cmpF ps t) (swoF ps t) 145 #[.pointer (some ⟨lb, 0, none⟩), .pointer (some ⟨tb, 0, none⟩)] g o c1 (toF n' l) w
    (enters _ Tryz.func145 (by kernel_rfl) rfl) hC hH hg (by rw [toF_size]; omega) (fun x y h1 h2 => by
      rw [cmpF_lt] at h1 h2
      have h1 := of_decide_eq_false h1
      have h2 := of_decide_eq_false h2
      rcases kL_tri ps t x.val y.val with h | h | h
      · exact absurd h h1
      · exact Fin.ext h
      · exact absurd h h2)
  rw [toF_size, hm] at hcon
  refine hcon.mono ?_
  rintro e w' ⟨rfl, q, os, rfl⟩
  have hv := srtF (ps := ps) (t := t) hl hnd
  have hlen : ((toF n' l).toList.mergeSort fun x y => !(ltOf (cmpF ps t)) y x).length = m := by rw [List.length_mergeSort]; simp [toF, hm]
  have hh := holds_sortWorld encF w g o q (toF n' l) ((toF n' l).toList.mergeSort fun x y => !(ltOf (cmpF ps t)) y x).toArray os hg hH (by rw [List.size_toArray, hlen, toF_size, hm])
  refine ⟨rfl, sw_grown encF w g o q _ os, fun i hi => ?_, fun j hj => ⟨sw_out encF w g o q _ os hg (by rw [List.size_toArray, hlen]; exact hj), sw_frozen encF w g o q _ os hg j⟩⟩
  have hi2 : i < ((toF n' l).toList.mergeSort fun x y => !(ltOf (cmpF ps t)) y x).length := by rw [hlen]; rw [srtK_len, hm] at hi; exact hi
  have := hh i (by rw [List.size_toArray]; exact hi2)
  refine ⟨this.1.trans ?_, this.2⟩
  unfold encF
  rw [getElem!_pos _ i (by rw [List.size_toArray]; exact hi2), List.getElem_toArray]
  have e2 : (srtK ps t l)[i] = (((toF n' l).toList.mergeSort fun x y => !(ltOf (cmpF ps t)) y x)[i]).val := by
    have := List.getElem_of_eq hv.symm hi
    rw [this, List.getElem_map]
  rw [e2]
/-! ### the recursion -/
def kdFn (lb ob fb : Nat) : Value := .func (.func 143) #[] #[.pointer (some ⟨lb, 0, none⟩), .pointer (some ⟨ob, 0, none⟩), .pointer (some ⟨fb, 0, none⟩)]
/-- What the closure has captured: the list, what comes out, itself; the indices' block beside them. -/
structure CapK (base lb ob fb g : Nat) (A : Option Addr) (n c : Nat) (W : World) (v : Value) (zs : List Int) : Prop where
  k : W.heap[ob]? = some (.cells #[v] 63 (0, 0))
  p : W.heap[lb]? = some (.cells #[.slice A n c] 23 (0, 0))
  f : W.heap[fb]? = some (.cells #[kdFn lb ob fb] 138 (0, 0))
  own : Own W base v zs
  le : base ≤ ob ∧ base ≤ g
  gl : g < W.heap.size
  off : ∀ k, v.ownBlock = some k → k ≠ ob ∧ k ≠ lb ∧ k ≠ fb ∧ k ≠ g
  ne : lb ≠ ob ∧ fb ≠ ob ∧ g ≠ ob ∧ g ≠ lb ∧ g ≠ fb
theorem CapK.later {base lb ob fb g : Nat} {A : Option Addr} {n c : Nat} {W W' : World} {v : Value} {zs : List Int} (h : CapK base lb ob fb g A n c W v zs) (hb : Below W.heap.size W W') : CapK base lb ob fb g A n c W' v zs :=
  ⟨(hb.block _ (heap_lt h.k)).trans h.k, (hb.block _ (heap_lt h.p)).trans h.p, (hb.block _ (heap_lt h.f)).trans h.f, h.own.below hb, h.le, Nat.lt_of_lt_of_le h.gl hb.size, h.off, h.ne⟩
/-- Behind a sort of the indices. -/
theorem CapK.sorted {base lb ob fb g : Nat} {A : Option Addr} {n c : Nat} {W W' : World} {v : Value} {zs : List Int} (h : CapK base lb ob fb g A n c W v zs) (hgr : W.grownBy W' (some g)) : CapK base lb ob fb g A n c W' v zs := by
  have bk : ∀ k, k < W.heap.size → k ≠ g → W'.heap[k]? = W.heap[k]? := fun k hk hne => hgr.block k hk (fun e => hne (Option.some.inj e))
  refine ⟨(bk ob (heap_lt h.k) (fun e => h.ne.2.2.1 e.symm)).trans h.k, (bk lb (heap_lt h.p) (fun e => h.ne.2.2.2.1 e.symm)).trans h.p, (bk fb (heap_lt h.f) (fun e => h.ne.2.2.2.2 e.symm)).trans h.f, ?_, h.le, Nat.lt_of_lt_of_le h.gl hgr.size, h.off, h.ne⟩
  exact own_block h.own (fun k hk => bk k (h.own.lt2 k hk) (h.off k hk).2.2.2)
/-- Behind 'out = append(out, y)'. -/
theorem CapK.put {base lb ob fb g : Nat} {A : Option Addr} {n c : Nat} {W W' : World} {o : Obj} {v v' : Value} {zs zs' : List Int} (h : CapK base lb ob fb g A n c W v zs) (hgr : (W.alloc o).grownBy W' v.ownBlock)
    (hown : Own W' base v' zs') (hat : v'.ownBlock = v.ownBlock ∨ v'.ownBlock = some (W.alloc o).heap.size) :
    W'.heap[ob]? = some (.cells #[v] 63 (0, 0)) ∧ W'.heap[g]? = W.heap[g]? ∧ CapK base lb ob fb g A n c (W'.setCell ⟨ob, 0, none⟩ v') v' zs' := by
  have step : ∀ k, k < W.heap.size → (∀ j, v.ownBlock = some j → j ≠ k) → W'.heap[k]? = W.heap[k]? := fun k hk hne =>
    (hgr.block k (by simp; omega) (fun e => hne k e.symm rfl)).trans (Below.heap_alloc W o k hk)
  have hk := (step ob (heap_lt h.k) (fun j hj => (h.off j hj).1)).trans h.k
  have off' : ∀ k, v'.ownBlock = some k → k ≠ ob ∧ k ≠ lb ∧ k ≠ fb ∧ k ≠ g := by
    intro k hk
    rcases hat with e | e
    · exact h.off k (e.symm.trans hk)
    · have := heap_lt h.p; have := heap_lt h.f; have := heap_lt h.k; have := h.gl
      have hkk := Option.some.inj (e.symm.trans hk)
      rw [size_alloc] at hkk
      omega
  refine ⟨hk, step g h.gl (fun j hj => (h.off j hj).2.2.2), cell_set1 hk v', ?_, ?_, ?_, h.le, ?_, off', h.ne⟩
  · exact (Below.heap_setCell W' _ _ lb h.ne.1).trans ((step lb (heap_lt h.p) (fun j hj => (h.off j hj).2.1)).trans h.p)
  · exact (Below.heap_setCell W' _ _ fb h.ne.2.1).trans ((step fb (heap_lt h.f) (fun j hj => (h.off j hj).2.2.1)).trans h.f)
  · exact own_block hown (fun k hk2 => Below.heap_setCell W' _ _ k (off' k hk2).1)
  · have := hgr.size
    have h2 := h.gl
    simp at this ⊢
    omega
theorem RowI.cells {W W' : World} {g o : Nat} {l : List Nat} (h : RowI W g o l) (hc : ∀ i, i < l.length → W'.cell? ⟨g, o + i, none⟩ = W.cell? ⟨g, o + i, none⟩ ∧ W'.frozen? ⟨g, o + i, none⟩ = W.frozen? ⟨g, o + i, none⟩) : RowI W' g o l := fun i hi =>
  ⟨(hc i hi).1.trans (h i hi).1, (hc i hi).2.trans (h i hi).2⟩
theorem RowI.block {W W' : World} {g o : Nat} {l : List Nat} (h : RowI W g o l) (hb : W'.heap[g]? = W.heap[g]?) : RowI W' g o l :=
  h.cells fun i hi => ⟨World.cell?_of_block hb, by simp [World.frozen?, hb]⟩
theorem RowI.take {W : World} {g o : Nat} {l : List Nat} (h : RowI W g o l) (k : Nat) : RowI W g o (l.take k) := fun i hi => by
  rw [List.getElem_take]
  rw [List.length_take] at hi
  exact h i (by omega)
theorem RowI.drop {W : World} {g o : Nat} {l : List Nat} (h : RowI W g o l) (k : Nat) : RowI W g (o + k) (l.drop k) := fun i hi => by
  rw [List.getElem_drop]
  rw [List.length_drop] at hi
  have := h (k + i) (by omega)
  rwa [← Nat.add_assoc] at this
/-- All of block g but the part from o on, m long, is as it was. -/
def Aside (w w' : World) (g o m : Nat) : Prop := ∀ j, (j < o ∨ o + m ≤ j) → w'.cell? ⟨g, j, none⟩ = w.cell? ⟨g, j, none⟩ ∧ w'.frozen? ⟨g, j, none⟩ = w.frozen? ⟨g, j, none⟩
theorem Aside.of_block {w w' : World} {g o m : Nat} (hb : w'.heap[g]? = w.heap[g]?) : Aside w w' g o m := fun j _ => ⟨World.cell?_of_block hb, by simp [World.frozen?, hb]⟩
theorem Aside.trans {w w' w2 : World} {g o m : Nat} (h : Aside w w' g o m) (h2 : Aside w' w2 g o m) : Aside w w2 g o m := fun j hj => ⟨(h2 j hj).1.trans (h j hj).1, (h2 j hj).2.trans (h j hj).2⟩
theorem Aside.wide {w w' : World} {g o m o' m' : Nat} (h : Aside w w' g o m) (h1 : o' ≤ o) (h2 : o + m ≤ o' + m') : Aside w w' g o' m' := fun j hj => h j (by omega)
/-- What else stays: all but what comes out, the indices and the own block. -/
structure KeptK (ob g : Nat) (w w' : World) (v v' : Value) : Prop where
  keep : ∀ k, k < w.heap.size → k ≠ ob → k ≠ g → v.ownBlock ≠ some k → w'.heap[k]? = w.heap[k]?
  own : v'.ownBlock = v.ownBlock ∨ ∃ k, v'.ownBlock = some k ∧ w.heap.size ≤ k
  size : w.heap.size ≤ w'.heap.size
theorem KeptK.trans {ob g : Nat} {w w' w2 : World} {v v' v2 : Value} (h : KeptK ob g w w' v v') (h2 : KeptK ob g w' w2 v' v2) : KeptK ob g w w2 v v2 := by
  refine ⟨fun k hk h3 h4 h5 => (h2.keep k (Nat.lt_of_lt_of_le hk h.size) h3 h4 (fun e => ?_)).trans (h.keep k hk h3 h4 h5), ?_, Nat.le_trans h.size h2.size⟩
  · rcases h.own with a | ⟨j, a, b⟩
    · exact h5 (a ▸ e)
    · rw [a] at e; injection e; omega
  · rcases h2.own with a | ⟨j, a, b⟩
    · rw [a]; exact h.own
    · exact .inr ⟨j, a, Nat.le_trans h.size b⟩
theorem KeptK.below {ob g : Nat} {w w' : World} (h : Below w.heap.size w w') (v : Value) : KeptK ob g w w' v v := ⟨fun k hk _ _ _ => h.block k hk, .inl rfl, h.size⟩
set_option maxRecDepth 20000 in
set_option maxHeartbeats 8000000 in
theorem kdr_any (ps : List Pt) (n c base lb ob fb g : Nat) (A : Option Addr) (hn : ps.length = n) :
    ∀ (f : Nat) (t : Bool) (l : List Nat) (A1 : Option Addr) (o m c1 : Nat) (v : Value) (zs : List Int) (w : World), l.length ≤ f → l.length = m → zs.length + m ≤ 100 → l.Nodup → (∀ k ∈ l, k < n) → base ≤ w.heap.size → PtsAt w base A ps → CapK base lb ob fb g A n c w v zs → (0 < m → A1 = some ⟨g, o, none⟩ ∧ m ≤ c1) → RowI w g o l →
    Calls Tryz.prog 143 #[.slice A1 m c1, .bool t, .pointer (some ⟨lb, 0, none⟩), .pointer (some ⟨ob, 0, none⟩), .pointer (some ⟨fb, 0, none⟩)] w fun e w' =>
      ∃ v', e = .returned (.tuple #[]) ∧ CapK base lb ob fb g A n c w' v' (zs ++ zI (kdF ps f t l)) ∧ Below base w w' ∧ Aside w w' g o m ∧ KeptK ob g w w' v v' := by
  intro f
  induction f with
  | zero =>
    intro t l A1 o m c1 v zs w h1 h2 hz hnd hk hbase hp hcap hA hr
    have : l = [] := List.eq_nil_of_length_eq_zero (by omega)
    subst this
    have e0 : m = 0 := by rw [← h2]; rfl
    subst e0
    have CAP := hide (hcap.later ((Below.refl w.heap.size w).alloc (Nat.le_refl _) (.cells #[.bool t] 4)))
    have B := hide (show Below base w (w.alloc (.cells #[.bool t] 4)) from (Below.refl _ _).alloc hbase _)
    have AS : Hid (Aside w (w.alloc (.cells #[.bool t] 4)) g o 0) := hide (Aside.of_block (Below.heap_alloc _ _ _ hcap.gl))
    have KK : Hid (KeptK ob g w (w.alloc (.cells #[.bool t] 4)) v v) := hide (KeptK.below ((Below.refl _ _).alloc (Nat.le_refl _) _) v)
    clear hp hk hnd hcap hA hr
    go_enter Tryz.func143, Tryz.ntmps143
    go_wp2_with fail
    (try simp only [Exit.inBlock, Exit.then])
    refine bodyPost_ret (results_none rfl _ _ _) rfl ?_
    exact ⟨v, rfl, by rw [show kdF ps 0 t [] = [] from rfl]; simpa [zI] using CAP.out, B.out, AS.out, KK.out⟩
  | succ f ih =>
    intro t l A1 o m c1 v zs w h1 h2 hz hnd hk hbase hp hcap hA hr
    by_cases h0 : m = 0
    · subst h0
      have : l = [] := List.eq_nil_of_length_eq_zero h2
      subst this
      have CAP := hide (hcap.later ((Below.refl w.heap.size w).alloc (Nat.le_refl _) (.cells #[.bool t] 4)))
      have B := hide (show Below base w (w.alloc (.cells #[.bool t] 4)) from (Below.refl _ _).alloc hbase _)
      have AS : Hid (Aside w (w.alloc (.cells #[.bool t] 4)) g o 0) := hide (Aside.of_block (Below.heap_alloc _ _ _ hcap.gl))
      have KK : Hid (KeptK ob g w (w.alloc (.cells #[.bool t] 4)) v v) := hide (KeptK.below ((Below.refl _ _).alloc (Nat.le_refl _) _) v)
      clear hp hk hnd hcap hA hr ih
      go_enter Tryz.func143, Tryz.ntmps143
      go_wp2_with fail
      (try simp only [Exit.inBlock, Exit.then])
      refine bodyPost_ret (results_none rfl _ _ _) rfl ?_
      exact ⟨v, rfl, by rw [show kdF ps (f + 1) t [] = [] by unfold kdF; rfl]; simpa [zI] using CAP.out, B.out, AS.out, KK.out⟩
    · obtain ⟨rfl, hc1⟩ := hA (by omega)
      have hB1 : Below w.heap.size w (w.alloc (.cells #[.bool t] 4)) := (Below.refl w.heap.size w).alloc (Nat.le_refl _) _
      have CAP1 := hide (hcap.later hB1)
      have B1 := hide (hB1.mono hbase)
      have z1 : (w.alloc (.cells #[.bool t] 4)).heap.size = w.heap.size + 1 := by simp
      have tc : (w.alloc (.cells #[.bool t] 4)).heap[w.heap.size]? = some (.cells #[.bool t] 4 (0, 0)) := heap_alloc_new w _
      have TC := hide tc
      have gl := hcap.gl
      have SK := hide (sortK_any ps t l A n c lb w.heap.size g o m c1 (w.alloc (.cells #[.bool t] 4)) hn h2 (by omega) (by omega) hk hnd (by have := heap_lt hcap.p; omega) (by omega) (by omega) (fun e => hcap.ne.2.2.2.1 e.symm) (by omega) (heap_cell CAP1.out.p 0) (heap_cell tc 0) ((hp.below B1.out).more hcap.le.2) (hr.block (Below.heap_alloc _ _ _ gl)))
      have lob : ob < w.heap.size := heap_lt hcap.k
      have llb : lb < w.heap.size := heap_lt hcap.p
      have lfb : fb < w.heap.size := heap_lt hcap.f
      have NE := hide hcap.ne
      have LE := hide hcap.le
      have OWLT := hide hcap.own.lt2
      have hc1' := hc1
      have HP := hide hp
      have IH := hide ih
      have HK := hide hk
      have H2 := hide h2
      have H1 := hide h1
      have bz : ((m : Int) == 0) = false := by rw [beq_eq_false_iff_ne]; omega
      have KD : Hid (kdF ps (f + 1) t l = (srtK ps t l).getD (m / 2) 0 :: (kdF ps f (!t) ((srtK ps t l).take (m / 2)) ++ kdF ps f (!t) ((srtK ps t l).drop (m / 2 + 1)))) := hide (by
        rw [← h2, kdF, if_neg (by intro e; rw [e] at h2; exact h0 h2.symm)])
      have SN : Hid ((srtK ps t l).Nodup) := hide ((srtK_perm ps t hnd).nodup_iff.2 hnd)
      have SMn : Hid (∀ k ∈ srtK ps t l, k < n) := hide (fun k hk' => hk _ ((srtK_perm ps t hnd).mem_iff.1 hk'))
      have SL : Hid ((srtK ps t l).length = m) := hide (by rw [srtK_len, h2])
      clear hcap hp hk hnd hr ih h2 h1 tc hA hn
      generalize srtK ps t l = S at *
      go_enter Tryz.func143, Tryz.ntmps143
      go_wp2_with fail
      refine SK.out.mono ?_
      rintro e w2 ⟨rfl, hgr2, hr2, ha2⟩
      have CAP2 := hide (CAP1.out.sorted hgr2)
      have R2 := hide hr2
      have z2 := hgr2.size
      have TC2 : Hid (w2.heap[w.heap.size]? = some (.cells #[.bool t] 4 (0, 0))) := hide ((hgr2.block _ (by omega) (by intro e; injection e; omega)).trans TC.out)
      have B2 : Hid (Below base w w2) := hide (B1.out.trans ⟨hgr2.os, hgr2.tape, hgr2.output, hgr2.size, fun k hk => hgr2.block k (by omega) (by intro e; injection e; have := LE.out.2; omega)⟩)
      have AS2 : Hid (Aside w w2 g o m) := hide (fun j hj => by
        have h1 := ha2 j hj
        have h2 : (w.alloc (.cells #[.bool t] 4)).heap[g]? = w.heap[g]? := Below.heap_alloc _ _ _ gl
        exact ⟨h1.1.trans (World.cell?_of_block h2), h1.2.trans (by simp [World.frozen?, h2])⟩)
      have KK2 : Hid (KeptK ob g w w2.drew v v) := hide ⟨fun k hk h3 h4 _ => (hgr2.block k (by omega) (fun e => h4 (Option.some.inj e))).trans (Below.heap_alloc _ _ _ hk), .inl rfl, (by show w.heap.size ≤ w2.heap.size; omega)⟩
      clear hgr2 hr2 ha2 SK CAP1 TC B1 hB1
      obtain ⟨hf, hhf⟩ : ∃ hf, hf = m / 2 := ⟨_, rfl⟩
      rw [← hhf] at KD
      have ehf : (m : Int) / 2 = (hf : Int) := by omega
      have hfm : hf < m := by omega
      have HF := hide hhf
      have hfl : hf < S.length := by rw [SL.out]; exact hfm
      obtain ⟨y, hy⟩ : ∃ y, y = S[hf] := ⟨_, rfl⟩
      have gy : S.getD hf 0 = y := by rw [hy, List.getD_eq_getElem?_getD, List.getElem?_eq_getElem hfl]; rfl
      rw [gy] at KD
      obtain ⟨cy, fy⟩ := R2.out hf hfl
      rw [← hy] at cy
      have ck : w2.cell? ⟨ob, 0, none⟩ = some v := heap_cell CAP2.out.k 0
      have fk := heap_frozen CAP2.out.k 0
      obtain ⟨A2, n2, c2, rfl⟩ := own_slice CAP2.out.own
      have q1 : (0 : Int) ≤ (hf : Int) := by omega
      have q2 : (hf : Int) < (m : Int) := by omega
      have lz : zs.length ≤ 2000000 := by omega
      clear hy gy hfl hhf
      have hd : Below w2.heap.size w2 w2.drew := drawn_below w2
      have CAP3 := hide (CAP2.out.later hd)
      have R3 := hide (R2.out.block (W' := w2.drew) rfl)
      have TC3 : Hid (w2.drew.heap[w.heap.size]? = some (.cells #[.bool t] 4 (0, 0))) := TC2
      have B3 : Hid (Below base w w2.drew) := hide (B2.out.trans (hd.mono (Nat.le_trans hbase (by omega))))
      have AS3 : Hid (Aside w w2.drew g o m) := AS2
      have lob2 : ob < w2.heap.size := by omega
      have lfb2 : fb < w2.heap.size := by omega
      have ltb2 : w.heap.size < w2.heap.size := by omega
      have lg2 : g < w2.heap.size := by omega
      clear R2 TC2 B2 AS2 CAP2
      have NB : Hid (∀ k, (Value.slice A2 n2 c2).ownBlock = some k → k ≠ w.heap.size) := hide (fun k hk => Nat.ne_of_lt (OWLT.out k hk))
      go_upto_region 4 with (fail)
      go_cut [] from 17 to 23 (fun wx => ∃ v3 : Value, Hid (CapK base lb ob fb g A n c wx v3 (zs ++ [(y : Int)])) ∧ Hid (wx.heap[g]? = w2.drew.heap[g]?) ∧ Hid (wx.heap[w.heap.size]? = some (.cells #[.bool t] 4 (0, 0))) ∧ Hid (Below base w wx) ∧ Hid (KeptK ob g w2.drew wx (.slice A2 n2 c2) v3))
      case first =>
        clear KD IH SMn SN HK KK2 AS3 HP
        go_region_law (refine step_ints (by rfl) (.tmp 17) (.tmp 22) (by rfl) base (.slice A2 n2 c2) zs (by rfl) (CAP3.out.own.below ((Below.refl _ _).alloc (Nat.le_refl _) _)) (some ⟨w2.heap.size, 0, none⟩) 1 1 _ [(y : Int)] (by rfl) rfl (ints1 _ _) ⟨(fun h => by cases h), (fun b o s h => by injection h with h; injection h with _ _ h3; exact h3.symm)⟩ lz (by omega) (by simp; omega) ?_; intro v3 w3 hown3 hb3 hat3 hgr3; obtain ⟨A3, n3, c3, rfl⟩ := own_slice hown3; obtain ⟨hkk, hgg, hcap2⟩ := CapK.put CAP3.out hgr3 hown3 hat3; have ck3 := heap_cell hkk 0; have fk3 := heap_frozen hkk 0; simp at ck3; have PUT := hide (And.intro hcap2 (And.intro hgg (And.intro hgr3 (And.intro hb3 hat3)))); clear hkk hgg hcap2 hgr3 hb3 hown3 hat3)
        all_goals
          obtain ⟨p1, p2, p3, p4, p5⟩ := PUT.out
          go_wp2_with fail
          go_meet
          refine ⟨_, hide p1, hide ((Below.heap_setCell _ _ _ g NE.out.2.2.1).trans p2), hide ?_, hide ?_, hide ⟨fun k hk h3 h4 h5 => ?_, ?_, ?_⟩⟩
          · refine (Below.heap_setCell _ _ _ _ (by show w.heap.size ≠ ob; omega)).trans ((p3.block w.heap.size (by show w.heap.size < (w2.alloc _).heap.size; simp; omega) (fun e => NB.out _ e.symm rfl)).trans ?_)
            exact (Below.heap_alloc w2 _ _ ltb2).trans TC3.out
          · refine Below.setCell ?_ LE.out.1 _
            refine (B3.out.trans ((((Below.refl w2.drew.heap.size w2.drew).alloc (Nat.le_refl _) (.cells #[.int .i64 (y : Int)] 3))).mono (show base ≤ w2.heap.size by omega))).trans p4
          · exact (Below.heap_setCell _ _ _ k h3).trans ((p3.block k (by show k < (w2.alloc _).heap.size; simp; exact Nat.lt_succ_of_lt hk) (fun e => h5 e.symm)).trans (Below.heap_alloc w2 _ _ hk))
          · rcases p5 with e | e
            · exact .inl e
            · refine .inr ⟨_, e, ?_⟩
              show w2.heap.size ≤ (w2.alloc _).heap.size
              simp
          · have := p3.size
            show w2.heap.size ≤ _
            have e : (w2.alloc (.cells #[.int .i64 (y : Int)] 3)).drew.heap.size = w2.heap.size + 1 := by show (w2.alloc _).heap.size = _; simp
            simp at this ⊢
            omega
      case rest =>
        obtain ⟨v3, CAP4, HG4, TC4, B4, K4⟩ := hcut
        have K4' := hide (KK2.out.trans K4.out)
        have R4 := hide (R3.out.block HG4.out)
        have AS4 : Hid (Aside w wc g o m) := hide (AS3.out.trans (Aside.of_block HG4.out))
        have OW4 : Hid (v3.ownBlock ≠ some w.heap.size) := hide (fun e => by
          rcases K4.out.own with a | ⟨j, a, b⟩
          · exact NB.out _ (a ▸ e) rfl
          · rw [a] at e; injection e with e
            have b : w2.heap.size ≤ j := b
            omega)
        clear CAP3 R3 TC3 B3 AS3 KK2 HG4 K4 cy fy ck fk NB
        have lz4 : (zs ++ [(y : Int)]).length + hf ≤ 100 := by rw [List.length_append]; simp; omega
        have lmH : (m : Int) - 1 < 1000 := by omega
        have IH1 := hide (fun (W : World) (hb : Below wc.heap.size wc W) (hW : W.heap = wc.heap) => IH.out (!t) (S.take hf) (some ⟨g, o, none⟩) o hf c1 v3 (zs ++ [(y : Int)]) W (by rw [List.length_take]; have := H1.out; have := H2.out; have := SL.out; omega) (by rw [List.length_take]; have := SL.out; omega) lz4 (SN.out.sublist (List.take_sublist _ _)) (fun k hk => SMn.out k (List.mem_of_mem_take hk)) (by rw [hW]; exact Nat.le_trans hbase B4.out.size) (HP.out.below (B4.out.trans (hb.mono (Nat.le_trans hbase B4.out.size)))) (CAP4.out.later hb) (fun _ => ⟨rfl, by omega⟩) ((R4.out.take hf).block (by rw [hW])))
        have IH2 := hide (fun (A2 : Option Addr) (o2 m2 c2 : Nat) (v4 : Value) (zs2 : List Int) (W : World) (hm2 : m - (hf + 1) = m2) (hz : zs2.length + m2 ≤ 100) (hbW : base ≤ W.heap.size) (hpW : PtsAt W base A ps) (hc : CapK base lb ob fb g A n c W v4 zs2) hA hr => IH.out (!t) (S.drop (hf + 1)) A2 o2 m2 c2 v4 zs2 W (by rw [List.length_drop]; have := H1.out; have := H2.out; have := SL.out; omega) (by rw [List.length_drop]; have := SL.out; omega) hz (SN.out.sublist (List.drop_sublist _ _)) (fun k hk => SMn.out k (List.mem_of_mem_drop hk)) hbW hpW hc hA hr)
        have LT := hide (kdF_len ps f (!t) (S.take hf))
        have cf := heap_cell CAP4.out.f 0
        have ff := heap_frozen CAP4.out.f 0
        have ct := heap_cell TC4.out 0
        have ft := heap_frozen TC4.out 0
        simp at cf ct
        unfold kdFn at cf
        have z4 := B4.out.size
        have q5 : (hf : Int) ≤ (c1 : Int) := by omega
        have q6 : hf ≤ c1 := by omega
        have q7 : (hf : Int) ≤ (m : Int) := by omega
        clear IH SN SMn HK H1
        go_wp2_with fail
        go_still_tail 6, (by kernel_rfl)
        have hWd : wc.drew.heap = wc.heap := rfl
        have IHd := hide (IH1.out wc.drew (drawn_below wc) hWd)
        change wpList _ _ _ _ _ wc.drew
        clear IH1
        go_wp2_with fail
        refine IHd.out.mono ?_
        rintro e w5 ⟨v5, rfl, hcap5, hb5, has5, hk5⟩
        have CAP5 := hide hcap5
        have B5 := hide (B4.out.trans ((show Below base wc wc.drew from (drawn_below wc).mono (Nat.le_trans hbase B4.out.size)).trans hb5))
        have K5 := hide (K4'.out.trans ((KeptK.below (ob := ob) (g := g) (drawn_below wc) v3).trans hk5))
        have AS5 : Hid (Aside w w5 g o m) := hide (AS4.out.trans (Aside.wide (m' := m) (show Aside wc w5 g o hf from has5) (Nat.le_refl _) (by omega)))
        have R5 : Hid (RowI w5 g (o + (hf + 1)) (S.drop (hf + 1))) := hide ((R4.out.drop (hf + 1)).cells (fun i hi => has5 _ (.inr (by omega))))
        have TC5 : Hid (w5.heap[w.heap.size]? = some (.cells #[.bool t] 4 (0, 0))) := hide ((hk5.keep _ (by show w.heap.size < wc.heap.size; exact heap_lt TC4.out) (by omega) (by omega) OW4.out).trans TC4.out)
        clear hcap5 hb5 has5 hk5 IHd CAP4 R4 TC4 B4 AS4 K4' cf ff ct ft
        have cf := heap_cell CAP5.out.f 0
        have ff := heap_frozen CAP5.out.f 0
        have ct := heap_cell TC5.out 0
        have ft := heap_frozen TC5.out 0
        simp at cf ct
        unfold kdFn at cf
        have z5 := B5.out.size
        have lz5 : (zs ++ [(y : Int)] ++ zI (kdF ps f (!t) (S.take hf))).length + (m - (hf + 1)) ≤ 100 := by
          have := LT.out
          rw [List.length_take] at this
          rw [List.length_append, zI_len, List.length_append]; simp; omega
        have FIN : Hid (zs ++ [(y : Int)] ++ zI (kdF ps f (!t) (S.take hf)) ++ zI (kdF ps f (!t) (S.drop (hf + 1))) = zs ++ zI (kdF ps (f + 1) t l)) := hide (by rw [KD.out]; simp [zI, List.append_assoc])
        obtain ⟨h1, hh1⟩ : ∃ h1, h1 = hf + 1 := ⟨_, rfl⟩
        have ew : IntKind.i64.wrap ((hf : Int) + 1) = (h1 : Int) := by rw [wrap_small _ (by omega) (by omega)]; omega
        rw [← hh1] at lz5 R5 FIN IH2
        have q8 : (h1 : Int) ≤ (m : Int) := by omega
        have q9 : (m : Int) ≤ (c1 : Int) := by omega
        have q10 : (0 : Int) ≤ (h1 : Int) := by omega
        have q11 : (h1 : Int) ≤ (c1 : Int) := by omega
        have q12 : h1 ≤ m := by omega
        have q13 : hf < h1 := by omega
        clear hh1
        by_cases hcap : c1 = h1
        · have m0 : m - h1 = 0 := by omega
          have IHk := hide (fun (W : World) (hb : Below w5.heap.size w5 W) => IH2.out (some ⟨g, o, none⟩) o (m - h1) (c1 - h1) v5 _ W rfl lz5 (Nat.le_trans hbase (Nat.le_trans z5 hb.size)) (HP.out.below (B5.out.trans (hb.mono (Nat.le_trans hbase z5)))) (CAP5.out.later hb) (fun h => by omega) (fun i hi => by rw [List.length_drop, SL.out] at hi; omega))
          have hcT : (c1 = h1) = True := eq_true hcap
          clear IH2 hcap m0
          go_wp2_with fail
          go_still_tail 7, (by kernel_rfl)
          have IHd := hide (IHk.out w5.drew (drawn_below w5))
          change wpList _ _ _ _ _ w5.drew
          clear IHk
          go_wp2_with fail
          refine IHd.out.mono ?_
          rintro e w6 ⟨v6, rfl, hcap6, hb6, has6, hk6⟩
          have CAP6 : Hid (CapK base lb ob fb g A n c w6 v6 (zs ++ zI (kdF ps (f + 1) t l))) := hide (by rw [← FIN.out]; exact hcap6)
          have B6 := hide (B5.out.trans ((show Below base w5 w5.drew from (drawn_below w5).mono (Nat.le_trans hbase z5)).trans hb6))
          have K6 := hide (K5.out.trans ((KeptK.below (ob := ob) (g := g) (drawn_below w5) v5).trans hk6))
          have AS6 : Hid (Aside w w6 g o m) := hide (AS5.out.trans (Aside.wide (m' := m) (show Aside w5 w6 g o (m - h1) from has6) (Nat.le_refl _) (by omega)))
          clear hcap6 hb6 has6 hk6 IHd FIN
          go_wp2_with fail
          go_end0
          exact ⟨v6, rfl, CAP6.out, B6.out, AS6.out, K6.out⟩
        · have IHk := hide (fun (W : World) (hb : Below w5.heap.size w5 W) (hW : W.heap = w5.heap) => IH2.out (some ⟨g, o + (h1), none⟩) (o + (h1)) (m - (h1)) (c1 - (h1)) v5 _ W rfl lz5 (Nat.le_trans hbase (Nat.le_trans z5 hb.size)) (HP.out.below (B5.out.trans (hb.mono (Nat.le_trans hbase z5)))) (CAP5.out.later hb) (fun _ => ⟨rfl, by omega⟩) (R5.out.block (by rw [hW])))
          clear IH2
          go_wp2_with fail
          go_still_tail 7, (by kernel_rfl)
          have hWd : w5.drew.heap = w5.heap := rfl
          have IHd := hide (IHk.out w5.drew (drawn_below w5) hWd)
          change wpList _ _ _ _ _ w5.drew
          clear IHk
          go_wp2_with fail
          refine IHd.out.mono ?_
          rintro e w6 ⟨v6, rfl, hcap6, hb6, has6, hk6⟩
          have CAP6 : Hid (CapK base lb ob fb g A n c w6 v6 (zs ++ zI (kdF ps (f + 1) t l))) := hide (by rw [← FIN.out]; exact hcap6)
          have B6 := hide (B5.out.trans ((show Below base w5 w5.drew from (drawn_below w5).mono (Nat.le_trans hbase z5)).trans hb6))
          have K6 := hide (K5.out.trans ((KeptK.below (ob := ob) (g := g) (drawn_below w5) v5).trans hk6))
          have AS6 : Hid (Aside w w6 g o m) := hide (AS5.out.trans (Aside.wide (m' := m) (show Aside w5 w6 g (o + (h1)) (m - (h1)) from has6) (by omega) (by omega)))
          clear hcap6 hb6 has6 hk6 IHd FIN
          go_wp2_with fail
          go_end0
          exact ⟨v6, rfl, CAP6.out, B6.out, AS6.out, K6.out⟩
end Go.Proofs.YtnddfdhfefconaaGreatDoor
namespace Go.Proofs.YtnddfdhfefconaaGreatDoor
open Go.RowKit

set_option maxHeartbeats 400000 in
theorem kd2_any (x y : Int) (w : World) : Calls Tryz.prog 150 #[.agg #[.int .i64 x, .int .i64 y]] w fun e w' => e = .returned (.bool true) ∧ ∃ x, w' = ext w x := by
  go_enter Tryz.func150, Tryz.ntmps150
  go_wp2
  go_ret
  exact ⟨rfl, (ext_mk (by (repeat' (first | (with_reducible first | exact Below.refl _ _ | assumption | refine below_ext _ ?_ ?_ | refine Below.alloc ?_ ?_ _ | refine Below.drew ?_ | refine below_drewN ?_ _ | refine le_drewN _ ?_ | refine Below.setCell ?_ ?_ _ | exact Nat.le_refl _ | refine le_ext _ ?_ | refine le_alloc _ ?_ | refine le_setCell _ _ ?_ | refine le_drew ?_) | omega | (simp; done) | (simp; omega)))))⟩
set_option maxHeartbeats 2000000 in
theorem picked_any (ps : List Pt) (A : Option Addr) (n c : Nat) (w : World) (hn : ps.length = n) (h3 : n ≤ 100) (hs : PtsAt w w.heap.size A ps) :
    Calls Tryz.prog 149 #[.slice A n c, .func (.func 150) #[] #[]] w fun e w' => ∃ A' c', e = .returned (.slice A' n n) ∧ Own w' w.heap.size (.slice A' n c') (zI (List.range n)) ∧ ∃ x, w' = ext w x := by
  have HN := hide hn
  have HS := hide hs
  have NXT := hide zI_rng
  have eg := enters _ Tryz.func150 (by kernel_rfl) rfl
  have K2 := hide kd2_any
  obtain ⟨i0, hi0, hz0, hz1, hz2⟩ := info_parts intElt.inf
  have IP := hide (And.intro hi0 (And.intro hz0 (And.intro hz1 hz2)))
  clear hi0 hz0 hz1 hz2
  have mk1 : i0.bytes * n ≤ 281474976710656 := by rw [IP.out.2.2.2]; omega
  have mk2 : n ≤ maxLen := by unfold maxLen; omega
  clear hn hs
  go_enter Tryz.func149, Tryz.ntmps149
  go_wp2_with (refine wpList_make_own _ rfl (.const (.int .i64 0)) (.tmp 9) 63 rfl w.heap.size 3 i0 _ 1 intElt.und IP.out.1 IP.out.2.1 IP.out.2.2.1 .i64 .i64 _ n rfl rfl rfl mk1 mk2 (Nat.le_refl _) ?_; intro w1 hown1 hgr1; have O1 := hide (show Own w1 w.heap.size _ [] from hown1); have B1 := hide ((Below.refl _ _).grown hgr1 (Nat.le_refl _) (fun k hk => by cases hk)); clear hown1 hgr1)
  go_loopw [5, 13] (fun u5 u13 wr => ∃ (k : Nat), k ≤ n ∧ u13 = .int .i64 k ∧ Own wr w.heap.size u5 (zI (List.range k)) ∧ Below w.heap.size w wr) (fun _ u13 _ => n - (intOf u13).toNat)
  case atStart => exact ⟨0, Nat.zero_le _, rfl, O1.out.below (by (repeat' (first | (with_reducible first | exact Below.refl _ _ | assumption | refine below_ext _ ?_ ?_ | refine Below.alloc ?_ ?_ _ | refine Below.drew ?_ | refine below_drewN ?_ _ | refine le_drewN _ ?_ | refine Below.setCell ?_ ?_ _ | exact Nat.le_refl _ | refine le_ext _ ?_ | refine le_alloc _ ?_ | refine le_setCell _ _ ?_ | refine le_drew ?_) | omega | (simp; done) | (simp; omega)))), Below.trans B1.out (by (repeat' (first | (with_reducible first | exact Below.refl _ _ | assumption | refine below_ext _ ?_ ?_ | refine Below.alloc ?_ ?_ _ | refine Below.drew ?_ | refine below_drewN ?_ _ | refine le_drewN _ ?_ | refine Below.setCell ?_ ?_ _ | exact Nat.le_refl _ | refine le_ext _ ?_ | refine le_alloc _ ?_ | refine le_setCell _ _ ?_ | refine le_drew ?_) | omega | (simp; done) | (simp; omega))))⟩
  case round =>
    obtain ⟨k, hk, rfl, hown, hbel⟩ := hrel
    obtain ⟨A0, n0, c0, rfl⟩ := own_slice hown
    have hsz := hbel.size
    have OWN := hide hown
    clear hown O1 B1
    by_cases hlt : k < n
    · obtain ⟨b, o, rfl, hb, hcs⟩ := HS.out (by rw [HN.out]; omega)
      have gx := (hbel.cell (p := ⟨b, o + k * 2, none⟩) hb).trans (hcs k (by rw [HN.out]; omega)).1
      have gy := (hbel.cell (p := ⟨b, o + k * 2 + 1, none⟩) hb).trans (hcs k (by rw [HN.out]; omega)).2
      have NL : (zI (List.range k)).length ≤ 2000000 := by rw [zI_len, List.length_range]; omega
      have NX := hide (NXT.out k)
      have q1 : (0 : Int) ≤ (k : Int) := by omega
      have q2 : (k : Int) < (n : Int) := by omega
      clear hcs NXT
      generalize pX ps k = X at *
      generalize pY ps k = Y at *
      go_wp2_with fail
      refine (K2.out _ _ _).mono ?_
      rintro e w5 ⟨rfl, hx5⟩
      have B5 := hide (hbel.trans ((show Below wr.heap.size wr (wr.alloc (.cells #[.int .i64 X, .int .i64 Y] 41)) from (by (repeat' (first | (with_reducible first | exact Below.refl _ _ | assumption | refine below_ext _ ?_ ?_ | refine Below.alloc ?_ ?_ _ | refine Below.drew ?_ | refine below_drewN ?_ _ | refine le_drewN _ ?_ | refine Below.setCell ?_ ?_ _ | exact Nat.le_refl _ | refine le_ext _ ?_ | refine le_alloc _ ?_ | refine le_setCell _ _ ?_ | refine le_drew ?_) | omega | (simp; done) | (simp; omega))))).trans ((ext_bel hx5).mono (by simp))|>.mono hsz))
      have O5 := hide (OWN.out.below ((show Below wr.heap.size wr (wr.alloc (.cells #[.int .i64 X, .int .i64 Y] 41)) from (by (repeat' (first | (with_reducible first | exact Below.refl _ _ | assumption | refine below_ext _ ?_ ?_ | refine Below.alloc ?_ ?_ _ | refine Below.drew ?_ | refine below_drewN ?_ _ | refine le_drewN _ ?_ | refine Below.setCell ?_ ?_ _ | exact Nat.le_refl _ | refine le_ext _ ?_ | refine le_alloc _ ?_ | refine le_setCell _ _ ?_ | refine le_drew ?_) | omega | (simp; done) | (simp; omega))))).trans ((ext_bel hx5).mono (by simp))))
      have z5 := B5.out.size
      clear hx5 OWN
      go_wp2_with (at_builtin; refine app_one rfl _ _ rfl w.heap.size (.slice A0 n0 c0) _ rfl (O5.out.below (by (repeat' (first | (with_reducible first | exact Below.refl _ _ | assumption | refine below_ext _ ?_ ?_ | refine Below.alloc ?_ ?_ _ | refine Below.drew ?_ | refine below_drewN ?_ _ | refine le_drewN _ ?_ | refine Below.setCell ?_ ?_ _ | exact Nat.le_refl _ | refine le_ext _ ?_ | refine le_alloc _ ?_ | refine le_setCell _ _ ?_ | refine le_drew ?_) | omega | (simp; done) | (simp; omega))))) (k : Int) _ _ rfl (by simp [go_sem]) NL (by simp; omega) ?_; intro v7 w7 hown7 hb7 hat7 hgr7; obtain ⟨A7, n7, c7, rfl⟩ := own_slice hown7; have O7 := hide hown7; have B7 := hide hb7; clear hown7 hb7 hat7 hgr7)
      exact ⟨⟨k + 1, by omega, by go_num, by rw [NX.out]; exact O7.out, Below.trans (Below.trans B5.out (by (repeat' (first | (with_reducible first | exact Below.refl _ _ | assumption | refine below_ext _ ?_ ?_ | refine Below.alloc ?_ ?_ _ | refine Below.drew ?_ | refine below_drewN ?_ _ | refine le_drewN _ ?_ | refine Below.setCell ?_ ?_ _ | exact Nat.le_refl _ | refine le_ext _ ?_ | refine le_alloc _ ?_ | refine le_setCell _ _ ?_ | refine le_drew ?_) | omega | (simp; done) | (simp; omega))))) B7.out⟩, by simp [intOf]; omega⟩
    · have ek : k = n := by omega
      have O2 : Hid (Own wr w.heap.size (.slice A0 n0 c0) (zI (List.range n))) := hide (by rw [← ek]; exact OWN.out)
      obtain ⟨l0, nc0, mc0, _⟩ := O2.out.ints
      rw [zI_len, List.length_range] at l0
      have fm := O2.out.form.1
      subst l0
      clear ek OWN NXT
      unfold maxLen at mc0
      cases A0 with
      | none =>
        have e0 := fm rfl
        subst e0
        go_wp2_with fail
        go_ret
        first
          | exact ⟨none, c0, rfl, O2.out, ext_mk hbel⟩
          | exact ⟨none, rfl, ⟨c0, O2.out⟩, ext_mk hbel⟩
      | some a =>
        go_wp2_with fail
        go_ret
        exact ⟨some a, c0, rfl, O2.out, ext_mk hbel⟩
theorem own_rowI {w : World} {base : Nat} {A : Option Addr} {n c : Nat} {ks : List Nat} (h : Own w base (.slice A n c) (zI ks)) (h0 : 0 < n) : ∃ g, A = some ⟨g, 0, none⟩ ∧ base ≤ g ∧ g < w.heap.size ∧ RowI w g 0 ks := by
  have hl := h.ints.1
  rw [zI_len] at hl
  obtain ⟨gb, hA, h1, h2, hf, hc⟩ := h.head h0
  exact ⟨gb, hA, h1, h2, fun i hi => ⟨by rw [Nat.zero_add]; exact (hc i (by omega)).trans (by rw [zI_at hi]), hf _⟩⟩
set_option maxRecDepth 20000 in
set_option maxHeartbeats 4000000 in
theorem iKd_any (ps : List Pt) (A : Option Addr) (n c : Nat) (w : World) (hn : ps.length = n) (h0 : 0 < n) (hok : listOk ps = true) (hs : PtsAt w w.heap.size A ps) :
    Calls Tryz.prog 99 #[.slice A n c] w fun e w' => ∃ A' n' c', e = .returned (.slice A' n' c') ∧ (zI (kdL ps)).length = n' ∧ IntsAt w' w'.heap.size A' (zI (kdL ps)) ∧ ∃ x, w' = ext w x := by
  obtain ⟨h1, h2⟩ := listOk_1 hok
  have h20 : n ≤ 20 := by omega
  have LO := hide (fun (W : World) (hb : Below w.heap.size w W) => listOk_any ps A n c W hn (by omega) (hs.to hb))
  rw [hok] at LO
  have PK := hide (fun (W : World) (hb : Below w.heap.size w W) => picked_any ps A n c W hn (by omega) (hs.to hb))
  have KR := hide (fun (base lb ob fb g c1 : Nat) (v : Value) (W : World) hb (hp : PtsAt W base A ps) (hc : CapK base lb ob fb g A n c W v []) h3 hr => by
    have := kdr_any ps n c base lb ob fb g A hn n false (List.range n) (some ⟨g, 0, none⟩) 0 n c1 v [] W (by rw [List.length_range]; exact Nat.le_refl _) List.length_range (by simp; omega) List.nodup_range (fun k hk => List.mem_range.1 hk) hb hp hc h3 hr
    rw [List.nil_append, show kdF ps n false (List.range n) = kdL ps by unfold kdL; rw [hn]] at this
    exact this)
  have HS := hide hs
  obtain ⟨i0, hi0, hz0, hz1, hz2⟩ := info_parts intElt.inf
  have IP := hide (And.intro hi0 (And.intro hz0 (And.intro hz1 hz2)))
  clear hi0 hz0 hz1 hz2
  have mk1 : i0.bytes * n ≤ 281474976710656 := by rw [IP.out.2.2.2]; omega
  have mk2 : n ≤ maxLen := by unfold maxLen; omega
  clear hn hok hs h1 h2
  go_enter Tryz.func99, Tryz.ntmps99
  go_wp2_with fail
  refine (LO.out _ (by (repeat' (first | (with_reducible first | exact Below.refl _ _ | assumption | refine below_ext _ ?_ ?_ | refine Below.alloc ?_ ?_ _ | refine Below.drew ?_ | refine below_drewN ?_ _ | refine le_drewN _ ?_ | refine Below.setCell ?_ ?_ _ | exact Nat.le_refl _ | refine le_ext _ ?_ | refine le_alloc _ ?_ | refine le_setCell _ _ ?_ | refine le_drew ?_) | omega | (simp; done) | (simp; omega))))).mono ?_
  rintro e w1 ⟨rfl, hw1⟩
  have z1 : w.heap.size < w1.heap.size := by have := ext_sz hw1; simp at this; omega
  have B1 := hide ((show Below w.heap.size w (w.alloc (.cells #[.slice A n c] 23)) from (by (repeat' (first | (with_reducible first | exact Below.refl _ _ | assumption | refine below_ext _ ?_ ?_ | refine Below.alloc ?_ ?_ _ | refine Below.drew ?_ | refine below_drewN ?_ _ | refine le_drewN _ ?_ | refine Below.setCell ?_ ?_ _ | exact Nat.le_refl _ | refine le_ext _ ?_ | refine le_alloc _ ?_ | refine le_setCell _ _ ?_ | refine le_drew ?_) | omega | (simp; done) | (simp; omega))))).trans ((ext_bel hw1).mono (by simp)))
  have K1 := hide (((ext_bel hw1).block _ (by simp)).trans (heap_alloc_new w (.cells #[.slice A n c] 23)))
  have cl := heap_cell K1.out 0
  simp at cl
  clear hw1 LO
  go_wp2_with (refine wpList_make_own _ rfl (.const (.int .i64 0)) (.tmp 9) 63 rfl w1.heap.size 3 i0 _ 1 intElt.und IP.out.1 IP.out.2.1 IP.out.2.2.1 .i64 .i64 _ n rfl rfl rfl mk1 mk2 (Nat.le_refl _) ?_; intro w2 hown2 hgr2; have O2 := hide (show Own w2 w1.heap.size _ [] from hown2); have B2 := hide ((Below.refl _ _).grown hgr2 (Nat.le_refl _) (fun k hk => by cases hk)); clear hown2 hgr2)
  have z2 := B2.out.size
  have lt2 : w1.heap.size < w2.heap.size := O2.out.lt2 _ rfl
  obtain ⟨W3, hW3⟩ : ∃ W3, W3 = (w2.alloc (.cells #[.slice (some ⟨w1.heap.size, 0, none⟩) 0 n] 63)).alloc (.cells #[.func (.func 143) #[] #[.pointer (some ⟨w.heap.size, 0, none⟩), .pointer (some ⟨w2.heap.size, 0, none⟩), .pointer (some ⟨w2.heap.size + 1, 0, none⟩)]] 138) := ⟨_, rfl⟩
  have Z3 : W3.heap.size = w2.heap.size + 2 := by rw [hW3]; simp
  have BW3 : Below w2.heap.size w2 W3 := by rw [hW3]; exact (by (repeat' (first | (with_reducible first | exact Below.refl _ _ | assumption | refine below_ext _ ?_ ?_ | refine Below.alloc ?_ ?_ _ | refine Below.drew ?_ | refine below_drewN ?_ _ | refine le_drewN _ ?_ | refine Below.setCell ?_ ?_ _ | exact Nat.le_refl _ | refine le_ext _ ?_ | refine le_alloc _ ?_ | refine le_setCell _ _ ?_ | refine le_drew ?_) | omega | (simp; done) | (simp; omega))))
  have o3 : W3.heap[w2.heap.size]? = some (.cells #[.slice (some ⟨w1.heap.size, 0, none⟩) 0 n] 63 (0, 0)) := by
    rw [hW3]
    exact (Below.heap_alloc _ _ _ (by simp)).trans (heap_alloc_new w2 _)
  have f3 : W3.heap[w2.heap.size + 1]? = some (.cells #[kdFn w.heap.size w2.heap.size (w2.heap.size + 1)] 138 (0, 0)) := by
    rw [hW3]
    have := heap_alloc_new (w2.alloc (.cells #[.slice (some ⟨w1.heap.size, 0, none⟩) 0 n] 63)) (.cells #[kdFn w.heap.size w2.heap.size (w2.heap.size + 1)] 138)
    rw [size_alloc] at this
    exact this
  have l3 : W3.heap[w.heap.size]? = some (.cells #[.slice A n c] 23 (0, 0)) := (BW3.block _ (by omega)).trans ((B2.out.block _ z1).trans K1.out)
  have B3 : Hid (Below w.heap.size w W3) := hide (B1.out.trans ((B2.out.trans (BW3.mono z2)).mono (Nat.le_of_lt z1)))
  have OW3 := hide (O2.out.below BW3)
  have MAKE : Hid (∀ (W : World) (g : Nat), Below W3.heap.size W3 W → W3.heap.size ≤ g → g < W.heap.size → CapK w.heap.size w.heap.size w2.heap.size (w2.heap.size + 1) g A n c W (.slice (some ⟨w1.heap.size, 0, none⟩) 0 n) []) := hide (fun W g hb hg1 hg2 =>
    ⟨(hb.block _ (by omega)).trans o3, (hb.block _ (by omega)).trans l3, (hb.block _ (by omega)).trans f3, own_base (own_below OW3.out hb) (Nat.le_of_lt z1), ⟨by omega, by omega⟩, hg2, fun k hk => by
      have : k = w1.heap.size := (Option.some.inj hk).symm
      omega, by omega⟩)
  have cl3 := heap_cell l3 0
  have cf3 := heap_cell f3 0
  have fl3 := heap_frozen l3 0
  have ff3 := heap_frozen f3 0
  simp at cl3 cf3
  unfold kdFn at cf3
  have lw1 : w.heap.size < W3.heap.size := by omega
  have lw2 : w2.heap.size + 1 < W3.heap.size := by omega
  have KRK : Hid (∀ (W : World) (g : Nat), Below W3.heap.size W3 W → W3.heap.size ≤ g ∧ g < W.heap.size → RowI W g 0 (List.range n) → Calls Tryz.prog 143 #[.slice (some ⟨g, 0, none⟩) n n, .bool false, .pointer (some ⟨w.heap.size, 0, none⟩), .pointer (some ⟨w2.heap.size, 0, none⟩), .pointer (some ⟨w2.heap.size + 1, 0, none⟩)] W fun e w' => ∃ v', e = .returned (.tuple #[]) ∧ CapK w.heap.size w.heap.size w2.heap.size (w2.heap.size + 1) g A n c w' v' (zI (kdL ps)) ∧ Below w.heap.size W w') := hide (fun W g hb hg hr =>
    (KR.out w.heap.size w.heap.size w2.heap.size (w2.heap.size + 1) g n _ W (by have := hb.size; omega) (HS.out.below (B3.out.trans (hb.mono (Nat.le_of_lt lw1)))) (MAKE.out W g hb hg.1 hg.2) (fun _ => ⟨trivial, Nat.le_refl _⟩) hr).mono (fun e w' ⟨v', h1, h2, h3, _⟩ => ⟨v', h1, h2, h3⟩))
  rw [← hW3]
  clear hW3 o3 f3 l3 BW3 cl K1 O2 OW3 KR MAKE
  go_cut [] from 12 to 15 (fun wx => ∃ v' : Value, ∃ g : Nat, Hid (CapK w.heap.size w.heap.size w2.heap.size (w2.heap.size + 1) g A n c wx v' (zI (kdL ps))) ∧ Hid (Below w.heap.size w wx))
  case first =>
    go_region_with (first | (go_at_call 149; refine (PK.out _ (Below.trans B3.out (by (repeat' (first | (with_reducible first | exact Below.refl _ _ | assumption | refine below_ext _ ?_ ?_ | refine Below.alloc ?_ ?_ _ | refine Below.drew ?_ | refine below_drewN ?_ _ | refine le_drewN _ ?_ | refine Below.setCell ?_ ?_ _ | exact Nat.le_refl _ | refine le_ext _ ?_ | refine le_alloc _ ?_ | refine le_setCell _ _ ?_ | refine le_drew ?_) | omega | (simp; done) | (simp; omega)))))).mono ?_; rintro e w5 ⟨A5, c5, rfl, own5, hx5⟩; obtain ⟨g5, rfl, lg5, lg5', hr5⟩ := own_rowI own5 h0; have BX5 : Hid (Below W3.heap.size W3 w5) := hide ((drawn_below W3).trans (show Below W3.heap.size W3.drew w5 from ext_bel hx5)); have R5 := hide hr5; have LG5 : Hid (W3.heap.size ≤ g5 ∧ g5 < w5.heap.size) := hide ⟨lg5, lg5'⟩; have z5 := BX5.out.size; have KC := hide (KRK.out w5 g5 BX5.out LG5.out R5.out); have cf5 := (BX5.out.cell (p := ⟨w2.heap.size + 1, 0, none⟩) lw2).trans cf3; clear own5 hx5 hr5 lg5 lg5') | (go_at_call 143; refine (KC.out).mono ?_; rintro e w6 ⟨v6, rfl, hcap6, hb6⟩; have CAP6 := hide hcap6; have B6 := hide ((B3.out.trans (BX5.out.mono (Nat.le_of_lt lw1))).trans hb6); clear hcap6 hb6))
    all_goals
      go_wp2_with fail
      go_meet
      exact ⟨v6, g5, CAP6, B6⟩
  case rest =>
    obtain ⟨v', g, CAP, BW⟩ := hcut
    have ck := heap_cell CAP.out.k 0
    simp at ck
    obtain ⟨A6, n6, c6, rfl⟩ := own_slice CAP.out.own
    obtain ⟨l6, _, _, i6⟩ := CAP.out.own.ints
    have L6 := hide l6
    have I6 := hide i6
    clear l6 i6 KRK PK
    go_wp2_with fail
    go_ret
    exact ⟨A6, n6, c6, rfl, L6.out, I6.out, ext_mk BW.out⟩
set_option maxHeartbeats 1000000 in
theorem q7_any (ps : List Pt) (A : Option Addr) (n c : Nat) (w : World) (hn : ps.length = n) (h0 : ps ≠ []) (hok : listOk ps = true) (hs : PtsAt w w.heap.size A ps) (ht : Tab w) :
    Calls Tryz.prog 98 #[.slice A n c] w fun e w' => e = .returned (.string (bS (kdT ps))) ∧ ∃ x, w' = ext w x := by
  have hl : 0 < n := by rw [← hn]; exact List.length_pos_iff.2 h0
  have HH := hide (iKd_any ps A n c w hn hl hok hs)
  have h3 := (kdL_mem ps).1
  have h20 := (listOk_1 hok).1
  have TO := hide (fun (A' : Option Addr) (n' c' : Nat) (W : World) (hb : Below w.heap.size w W) (hl : (zI (kdL ps)).length = n') h2 => told_any (zI (kdL ps)) A' n' c' W hl (by rw [zI_len] at hl; omega) (kd_big ps h20) h2 (ht.to hb))
  unfold kdT
  clear hn hok hs ht h0
  generalize zI (kdL ps) = zs at *
  go_enter Tryz.func98, Tryz.ntmps98
  go_wp2_with fail
  refine HH.out.mono ?_
  rintro e w2 ⟨A2, n2, c2, rfl, l2, i2, hx⟩
  have B2 := hide (ext_bel hx)
  have TK := hide (TO.out A2 n2 c2 w2 B2.out l2 i2)
  clear hx TO i2 l2
  go_wp2_with fail
  refine TK.out.mono ?_
  rintro e w' ⟨rfl, hw'⟩; have hzy := ext_sz hw'; obtain ⟨y, rfl⟩ := hw'; (try simp at hzy)
  go_wp2_with fail
  go_ret
  exact ⟨rfl, ext_mk (B2.out.trans (Below.mono (show Below w2.heap.size w2 _ from (by (repeat' (first | (with_reducible first | exact Below.refl _ _ | assumption | refine below_ext _ ?_ ?_ | refine Below.alloc ?_ ?_ _ | refine Below.drew ?_ | refine below_drewN ?_ _ | refine le_drewN _ ?_ | refine Below.setCell ?_ ?_ _ | exact Nat.le_refl _ | refine le_ext _ ?_ | refine le_alloc _ ?_ | refine le_setCell _ _ ?_ | refine le_drew ?_) | omega | (simp; done) | (simp; omega))))) B2.out.size))⟩
end Go.Proofs.YtnddfdhfefconaaGreatDoor
