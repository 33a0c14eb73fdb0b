
import Derived.Test.YtnddfdhfefconaaGreatDoorApp
import Derived.Test.YtnddfdhfefconaaGreatDoorFunc
import Derived.BigRegion
import Derived.Deep.RegionHeld3
import Derived.Test.YtnddfdhfefconaaGreatDoorSorted
import Derived.Test.YtnddfdhfefconaaGreatDoorTri
import Derived.Test.YtnddfdhfefconaaGreatDoorHlp2
import Derived.Lib.SliceRun
/- Rows of pairs of ints (printed off XVals and XSHull by tools/genpair.py). -/
set_option linter.unusedVariables false
set_option linter.unusedSimpArgs false
namespace Go.Proofs.YtnddfdhfefconaaGreatDoor
open Go.RowKit
/-- The slice v is a row of points of the call's own, at block base or later. -/
def OwnR (w : World) (base : Nat) (v : Value) (ps : List Pt) : Prop := w.ownsRow base 120 2 v ps.length (ptVals ps)
theorem prElt : Elt 89 120 2 16 (.agg #[.int .i64 0, .int .i64 0]) := ⟨Tryz.underlying89, by kernel_rfl, rfl, by decide⟩
theorem OwnR.below {w W : World} {base : Nat} {v : Value} {ps : List Pt} (h : OwnR w base v ps) (hb : Below w.heap.size w W) : OwnR W base v ps := own_below h hb
theorem OwnR.base {w : World} {base base' : Nat} {v : Value} {ps : List Pt} (h : OwnR w base v ps) (hb : base' ≤ base) : OwnR w base' v ps := own_base h hb
theorem OwnR.lt {w : World} {base : Nat} {v : Value} {ps : List Pt} (h : OwnR w base v ps) : ∀ k, v.ownBlock = some k → base ≤ k := fun k hk => (World.ownsRow.lt h k hk).1
theorem OwnR.lt2 {w : World} {base : Nat} {v : Value} {ps : List Pt} (h : OwnR w base v ps) : ∀ k, v.ownBlock = some k → k < w.heap.size := fun k hk => (World.ownsRow.lt h k hk).2
theorem OwnR.nil (w : World) (base : Nat) : OwnR w base (.slice none 0 0) [] := World.ownsRow_nil w base _ 2
theorem OwnR.slice {w : World} {base : Nat} {v : Value} {ps : List Pt} (h : OwnR w base v ps) : ∃ A n c, v = .slice A n c := by
  unfold OwnR at h
  rcases h.2 with ⟨hv, _⟩ | ⟨g, cap, cur, hv, _⟩
  · exact ⟨_, _, _, hv⟩
  · exact ⟨_, _, _, hv⟩
/-- What such a row is known for, its block among it. -/
theorem OwnR.pts {w : World} {base : Nat} {A : Option Addr} {n c : Nat} {ps : List Pt} (h : OwnR w base (.slice A n c) ps) : ps.length = n ∧ n ≤ c ∧ c ≤ maxLen ∧ PtsAt w w.heap.size A ps := by
  unfold OwnR at h
  rcases h.2 with ⟨hv, h0⟩ | ⟨g, cap, cur, hv, hg, hgg, hnc, hcm, hsz, htk⟩
  · injection hv with h1 h2 h3
    subst h1 h2 h3
    exact ⟨h0, Nat.le_refl _, by simp [maxLen], fun hn => by omega⟩
  · injection hv with h1 h2 h3
    subst h1 h2 h3
    refine ⟨rfl, hnc, hcm, Src.pts (fun j u hu => ?_) (Array.getElem?_eq_some_iff.1 hgg).1⟩
    have hj : j < ps.length * 2 := by rw [← ptVals_len]; exact (List.getElem?_eq_some_iff.1 hu).1
    rw [← htk, List.getElem?_take, if_pos hj] at hu
    simp [World.cell?, hgg, ← Array.getElem?_toList, hu]
theorem OwnR.empty (w : World) (base c : Nat) (hb : base ≤ w.heap.size) (cur : Array Value) (hc : cur.size = c * 2) (hm : c ≤ maxLen) : OwnR (w.alloc (.cells cur 120)) base (.slice (some ⟨w.heap.size, 0, none⟩) 0 c) [] :=
  ⟨rfl, .inr ⟨w.heap.size, c, cur, rfl, hb, heap_alloc_new w _, Nat.zero_le _, hm, hc, by simp [ptVals]⟩⟩
/-- append(v, p), p stored in a block of its own. -/
theorem app_pr {ops : Array Oper} {rest : List Oper} {o : Oper} {a : Act} {Q : Exit → Act → World → Prop} {w : World} (hgd : o.guard = none) (s x : Operand)
    (ho : o.op = .call { callee := .builtin .append, args := #[s, x], argTypes := #[89, 89] })
    (base : Nat) (v : Value) (ps : List Pt) (hs : a.eval s = v) (hown : OwnR w base v ps) (p q : Int) (b c : Nat) (hx : a.eval x = .slice (some ⟨b, 0, none⟩) 1 c) (h0 : w.cell? ⟨b, 0, none⟩ = some (.int .i64 p)) (h1 : w.cell? ⟨b, 1, none⟩ = some (.int .i64 q))
    (hlen : ps.length ≤ 2000000) (hbase : base ≤ w.heap.size)
    (h : ∀ v' w', OwnR w' base v' (ps ++ [⟨p, q⟩]) → Below base w w' → (v'.ownBlock = v.ownBlock ∨ v'.ownBlock = some w.heap.size) → w.grownBy w' v.ownBlock → wpList Tryz.prog ops Q rest (a.put o.dst v') w') :
    wpList Tryz.prog ops Q (o :: rest) a w := by
  refine wpList_plain hgd fun K hK => ?_
  refine app_wp prElt s x ho base v ps.length _ hs hown (some ⟨b, 0, none⟩) 1 c (ptVals [⟨p, q⟩]) hx rfl (fun _ => ⟨b, 0, rfl, fun j u hu => ?_⟩) (fun h => by cases h) (fun b o s h => by injection h with h; injection h with _ _ h3; exact h3.symm) (ptVals_one _) (by unfold maxLen; omega) (by omega) hbase fun v' w' h2 h3 h4 => hK _ _ ?_
  · match j with
    | 0 => simp [ptVals] at hu; subst hu; simpa using h0
    | 1 => simp [ptVals] at hu; subst hu; simpa using h1
    | j + 2 => simp [ptVals] at hu
  · exact h v' w' (by unfold OwnR; rw [List.length_append, ptVals_app]; exact h2) ((Below.refl _ _).grown h3 hbase hown.lt) h4 h3
/-- v[:k]. -/
theorem OwnR.take {w : World} {base : Nat} {A : Option Addr} {n c : Nat} {ps : List Pt} (h : OwnR w base (.slice A n c) ps) {k : Nat} (hk : k ≤ n) (h0 : A = none → k = 0 ∧ c = 0) : OwnR w base (.slice A k c) (ps.take k) := by
  have hl := h.pts.1
  unfold OwnR at h ⊢
  rw [← ptVals_take]
  refine ⟨by rw [List.length_take, List.length_take, ptVals_len]; omega, ?_⟩
  rw [List.length_take, Nat.min_eq_left (by omega)]
  rcases h.2 with ⟨hv, h1⟩ | ⟨g, cap, cur, hv, hg, hgg, hnc, hcm, hsz, htk⟩
  · injection hv with e1 e2 e3
    subst e1 e2 e3
    exact .inl ⟨by rw [show k = 0 by omega], by omega⟩
  · injection hv with e1 e2 e3
    subst e1 e2 e3
    exact .inr ⟨g, c, cur, rfl, hg, hgg, by omega, hcm, hsz, by rw [← htk, List.take_take, Nat.min_eq_left (by omega)]⟩
/-- A point written at place i. -/
theorem OwnR.set {w : World} {base g : Nat} {n c : Nat} {ps : List Pt} (h : OwnR w base (.slice (some ⟨g, 0, none⟩) n c) ps) {i : Nat} (hi : i < n) (x y : Int) :
    OwnR ((w.setCell ⟨g, i * 2, none⟩ (.int .i64 x)).setCell ⟨g, i * 2 + 1, none⟩ (.int .i64 y)) base (.slice (some ⟨g, 0, none⟩) n c) (ps.set i ⟨x, y⟩) := by
  have hl := h.pts.1
  unfold OwnR at h ⊢
  rcases h.2 with ⟨hv, h1⟩ | ⟨g', cap, cur, hv, hg, hgg, hnc, hcm, hsz, htk⟩
  · cases hv
  · injection hv with e1 e2 e3
    injection e1 with e1
    injection e1 with e1
    subst e1 e3
    refine ⟨by rw [ptVals_len], .inr ⟨g, c, (cur.setIfInBounds (i * 2) (.int .i64 x)).setIfInBounds (i * 2 + 1) (.int .i64 y), by rw [List.length_set, hl], hg, by simp [World.setCell, Array.getElem?_modify, hgg], by rw [List.length_set]; omega, hcm, by simpa using hsz, ?_⟩⟩
    rw [List.length_set]
    apply List.ext_getElem?
    intro j
    have hat : ∀ j, j < ps.length * 2 → cur[j]? = (ptVals ps)[j]? := fun j hj => by
      rw [← htk, List.getElem?_take, if_pos hj, Array.getElem?_toList]
    rw [List.getElem?_take]
    split
    · rename_i hj
      rw [Array.getElem?_toList]
      obtain ⟨q1, q2⟩ := ptVals_at (ps.set i ⟨x, y⟩) (j / 2) (by rw [List.length_set]; omega)
      obtain ⟨r1, r2⟩ := ptVals_at ps (j / 2) (by omega)
      by_cases hji : j / 2 = i
      · have ex : pX (ps.set i ⟨x, y⟩) (j / 2) = x := by unfold pX gp; rw [List.getD_eq_getElem?_getD, hji, List.getElem?_set_self (by omega)]; rfl
        have ey : pY (ps.set i ⟨x, y⟩) (j / 2) = y := by unfold pY gp; rw [List.getD_eq_getElem?_getD, hji, List.getElem?_set_self (by omega)]; rfl
        rw [ex] at q1
        rw [ey] at q2
        rcases Nat.mod_two_eq_zero_or_one j with hm | hm
        · rw [show j / 2 * 2 = j from by omega] at q1
          rw [q1, Array.getElem?_setIfInBounds_ne (by omega), show i * 2 = j from by omega, Array.getElem?_setIfInBounds_self, if_pos (by omega)]
        · rw [show j / 2 * 2 + 1 = j from by omega] at q2
          rw [q2, show i * 2 + 1 = j from by omega, Array.getElem?_setIfInBounds_self, if_pos (by simp; omega)]
      · have ex : pX (ps.set i ⟨x, y⟩) (j / 2) = pX ps (j / 2) := by unfold pX gp; rw [List.getD_eq_getElem?_getD, List.getElem?_set_ne (by omega), ← List.getD_eq_getElem?_getD]
        have ey : pY (ps.set i ⟨x, y⟩) (j / 2) = pY ps (j / 2) := by unfold pY gp; rw [List.getD_eq_getElem?_getD, List.getElem?_set_ne (by omega), ← List.getD_eq_getElem?_getD]
        rw [Array.getElem?_setIfInBounds_ne (by omega), Array.getElem?_setIfInBounds_ne (by omega), hat j hj]
        rcases Nat.mod_two_eq_zero_or_one j with hm | hm
        · rw [show j / 2 * 2 = j from by omega] at q1 r1
          rw [q1, r1, ex]
        · rw [show j / 2 * 2 + 1 = j from by omega] at q2 r2
          rw [q2, r2, ey]
    · rename_i hj
      rw [List.getElem?_eq_none]
      rw [ptVals_len, List.length_set]; omega
theorem OwnR.head {w : World} {base : Nat} {A : Option Addr} {n c : Nat} {ps : List Pt} (h : OwnR w base (.slice A n c) ps) (hn : 0 < n) :
    ∃ gb, A = some ⟨gb, 0, none⟩ ∧ base ≤ gb ∧ gb < w.heap.size ∧ (∀ j, w.frozen? ⟨gb, j, none⟩ = false) ∧ ∀ i, i < n → w.cell? ⟨gb, i * 2, none⟩ = some (.int .i64 (pX ps i)) ∧ w.cell? ⟨gb, i * 2 + 1, none⟩ = some (.int .i64 (pY ps i)) := by
  have hp := h.pts
  unfold OwnR at h
  rcases h.2 with ⟨hv, h0⟩ | ⟨g, cap, cur, hv, hg, hgg, hnc, hcm, hsz, htk⟩
  · injection hv with h1 h2 h3
    omega
  · injection hv with h1 h2 h3
    subst h1
    obtain ⟨b, o, hA, _, hc⟩ := hp.2.2.2 (by omega)
    injection hA with hA; injection hA with e1 e2
    subst e1 e2
    refine ⟨g, rfl, hg, (Array.getElem?_eq_some_iff.1 hgg).1, fun j => heap_frozen hgg j, fun i hi => ?_⟩
    have := hc i (by omega)
    rwa [Nat.zero_add] at this
theorem OwnR.far {w : World} {base : Nat} {v : Value} {ps : List Pt} (h : OwnR w base v ps) {q : Addr} (hq : ∀ k, v.ownBlock = some k → k ≠ q.block) (u : Value) : OwnR (w.setCell q u) base v ps :=
  own_block h fun k hk => Below.heap_setCell w q u k (hq k hk)
end Go.Proofs.YtnddfdhfefconaaGreatDoor
/- Pairs: the program's list of all pairs, the library's DeleteFunc and Clip at pairs, equal lists of pairs. -/
set_option linter.unusedVariables false
set_option linter.unusedSimpArgs false
namespace Go.Proofs.YtnddfdhfefconaaGreatDoor
open Go.RowKit

theorem OwnR.form {w : World} {base : Nat} {A : Option Addr} {n c : Nat} {ps : List Pt} (h : OwnR w base (.slice A n c) ps) : Plain A n ∧ (A = none → c = 0) := by
  unfold OwnR at h
  rcases h.2 with ⟨hv, _⟩ | ⟨g, cap, cur, hv, _⟩
  · injection hv with e1 e2 e3
    subst e1 e2 e3
    exact ⟨Plain.none rfl, fun _ => rfl⟩
  · injection hv with e1 e2 e3
    subst e1
    exact ⟨Plain.some, (fun h => by cases h)⟩
theorem box_ext (w : World) (v : Value) (T : TypeId) (y : World) : (ext (w.alloc (.cells #[v] T)) y).cell? ⟨w.heap.size, 0, none⟩ = some v ∧ w.heap.size + 1 ≤ (ext (w.alloc (.cells #[v] T)) y).heap.size ∧ Below w.heap.size w (ext (w.alloc (.cells #[v] T)) y) := by
  have h1 : (w.alloc (.cells #[v] T)).heap.size = w.heap.size + 1 := by simp
  refine ⟨((ext_below (w.alloc (.cells #[v] T)) y).cell (p := ⟨w.heap.size, 0, none⟩) (show w.heap.size < (w.alloc (.cells #[v] T)).heap.size by omega)).trans ?_, by rw [← h1]; exact ext_size _ y, ?_⟩
  · simp
  · exact (by (repeat' (first | (with_reducible first | exact Below.refl _ _ | assumption | refine below_ext _ ?_ ?_ | refine Below.alloc ?_ ?_ _ | refine Below.drew ?_ | refine below_drewN ?_ _ | refine le_drewN _ ?_ | refine Below.setCell ?_ ?_ _ | exact Nat.le_refl _ | refine le_ext _ ?_ | refine le_alloc _ ?_ | refine le_setCell _ _ ?_ | refine le_drew ?_) | omega | (simp; done) | (simp; omega))))
set_option maxHeartbeats 400000 in
theorem clipR_any (A : Option Addr) (n c : Nat) (w : World) (hn : n ≤ c) (hc : c ≤ 9223372036854775807) (hA : Plain A n) :
    Calls Tryz.prog 158 #[.slice A n c] w fun e w' => e = .returned (.slice A n n) ∧ w = w' := by
  cases A with
  | none =>
    have := hA.1 rfl
    subst this
    go_enter Tryz.func158, Tryz.ntmps158
    go_wp2
    go_ret
    exact ⟨rfl, rfl⟩
  | some a =>
    go_enter Tryz.func158, Tryz.ntmps158
    go_wp2
    go_ret
    exact ⟨rfl, rfl⟩
/-! ### all pairs -/
def rowPr (a b : Nat) : List Pt := (List.range (b - (a + 1))).map fun t => ⟨(a : Int), ((a + 1 + t : Nat) : Int)⟩
def prsTo (n : Nat) : Nat → List Pt
  | 0 => []
  | a + 1 => prsTo n a ++ rowPr a n
def prL (n : Nat) : List Pt := prsTo n n
theorem rowPr_nil (a : Nat) : rowPr a (a + 1) = [] := by unfold rowPr; rw [Nat.sub_self]; rfl
theorem rowPr_succ {a b : Nat} (h : a + 1 ≤ b) : rowPr a (b + 1) = rowPr a b ++ [⟨(a : Int), (b : Int)⟩] := by
  unfold rowPr
  rw [show b + 1 - (a + 1) = b - (a + 1) + 1 by omega, List.range_succ, List.map_append, List.map_cons, List.map_nil, show a + 1 + (b - (a + 1)) = b by omega]
theorem rowPr_mem {a b : Nat} {d : Pt} : d ∈ rowPr a b ↔ ∃ k : Nat, a < k ∧ k < b ∧ d = ⟨(a : Int), (k : Int)⟩ := by
  unfold rowPr
  rw [List.mem_map]
  constructor
  · rintro ⟨t, ht, rfl⟩
    rw [List.mem_range] at ht
    exact ⟨a + 1 + t, by omega, by omega, rfl⟩
  · rintro ⟨k, h1, h2, rfl⟩
    exact ⟨k - (a + 1), List.mem_range.2 (by omega), by rw [show a + 1 + (k - (a + 1)) = k by omega]⟩
theorem prsTo_mem {n : Nat} {d : Pt} : ∀ {a : Nat}, d ∈ prsTo n a ↔ ∃ i k : Nat, i < a ∧ i < k ∧ k < n ∧ d = ⟨(i : Int), (k : Int)⟩
  | 0 => by
    constructor
    · intro h; cases h
    · rintro ⟨i, k, h, _⟩; omega
  | a + 1 => by
    unfold prsTo
    rw [List.mem_append, prsTo_mem, rowPr_mem]
    constructor
    · rintro (⟨i, k, h1, h2, h3, e⟩ | ⟨k, h1, h2, e⟩)
      · exact ⟨i, k, by omega, h2, h3, e⟩
      · exact ⟨a, k, by omega, h1, h2, e⟩
    · rintro ⟨i, k, h1, h2, h3, e⟩
      by_cases h : i = a
      · subst h; exact .inr ⟨k, h2, h3, e⟩
      · exact .inl ⟨i, k, by omega, h2, h3, e⟩
theorem rowPr_len (a b : Nat) : (rowPr a b).length = b - (a + 1) := by simp [rowPr]
theorem prsTo_len (n : Nat) : ∀ a, (prsTo n a).length ≤ a * n
  | 0 => by simp [prsTo]
  | a + 1 => by
    have := prsTo_len n a
    unfold prsTo
    rw [List.length_append, rowPr_len, Nat.succ_mul]; omega
set_option maxHeartbeats 1000000 in
theorem pairs_any (n : Nat) (w : World) (hm : n ≤ 1000) :
    Calls Tryz.prog 153 #[.int .i64 n] w fun e w' => ∃ v, e = .returned v ∧ OwnR w' w.heap.size v (prL n) ∧ ∃ x, w' = ext w x := by
  have NL := hide (prsTo_len n)
  have RL := hide rowPr_len
  have RS : Hid (∀ a b : Nat, a + 1 ≤ b → rowPr a (b + 1) = rowPr a b ++ [⟨(a : Int), (b : Int)⟩]) := hide (fun a b h => rowPr_succ h)
  have R0 := hide rowPr_nil
  have PS : Hid (∀ a, prsTo n (a + 1) = prsTo n a ++ rowPr a n) := hide (fun a => rfl)
  go_enter Tryz.func153, Tryz.ntmps153
  go_wp2_with fail
  go_loopw [3, 4, 8] (fun u3 _ u8 wr => ∃ a : Nat, a ≤ n ∧ u8 = .int .i64 a ∧ OwnR wr w.heap.size u3 (prsTo n a) ∧ Below w.heap.size w wr) (fun _ _ u8 _ => n - (intOf u8).toNat)
  case atStart => exact ⟨0, Nat.zero_le _, rfl, OwnR.empty w _ 0 (Nat.le_refl _) #[] rfl (by simp [maxLen]), (by (repeat' (first | (with_reducible first | exact Below.refl _ _ | assumption | refine below_ext _ ?_ ?_ | refine Below.alloc ?_ ?_ _ | refine Below.drew ?_ | refine below_drewN ?_ _ | refine le_drewN _ ?_ | refine Below.setCell ?_ ?_ _ | exact Nat.le_refl _ | refine le_ext _ ?_ | refine le_alloc _ ?_ | refine le_setCell _ _ ?_ | refine le_drew ?_) | omega | (simp; done) | (simp; omega))))⟩
  case round =>
    obtain ⟨a, ha, rfl, hown, hbel⟩ := hrel
    obtain ⟨Ak, nk, ck, rfl⟩ := hown.slice
    have hsz := hbel.size
    have OWN := hide hown
    clear hown
    obtain ⟨W0, hW0⟩ : ∃ W0, W0 = wr := ⟨_, rfl⟩
    subst hW0
    by_cases hlt : a < n
    · go_wp2_with fail
      go_loopw [3, 5] (fun u3 u5 wr => ∃ b : Nat, a + 1 ≤ b ∧ b ≤ n ∧ u5 = .int .i64 b ∧ OwnR wr w.heap.size u3 (prsTo n a ++ rowPr a b) ∧ Below w.heap.size w wr) (fun _ u5 _ => n - (intOf u5).toNat)
      case atStart => exact ⟨a + 1, Nat.le_refl _, by omega, by go_num, by rw [R0.out, List.append_nil]; exact OWN.out, hbel⟩
      case round =>
        obtain ⟨b, hb1, hb2, rfl, hown, hbel2⟩ := hrel
        obtain ⟨Bk, mk, dk, rfl⟩ := hown.slice
        have hsz2 := hbel2.size
        have OWN2 := hide hown
        clear hown
        have hal : (prsTo n a ++ rowPr a b).length ≤ 2000000 := by
          have h1 := NL.out a
          have h2 : a * n ≤ 1000 * 1000 := Nat.mul_le_mul (by omega) hm
          rw [List.length_append, RL.out]; omega
        by_cases hlt2 : b < n
        · have NX := hide (RS.out a b hb1)
          go_wp2_with (at_builtin; refine app_pr rfl _ _ rfl w.heap.size (.slice Bk mk dk) (prsTo n a ++ rowPr a b) rfl (OWN2.out.below (by (repeat' (first | (with_reducible first | exact Below.refl _ _ | assumption | refine below_ext _ ?_ ?_ | refine Below.alloc ?_ ?_ _ | refine Below.drew ?_ | refine below_drewN ?_ _ | refine le_drewN _ ?_ | refine Below.setCell ?_ ?_ _ | exact Nat.le_refl _ | refine le_ext _ ?_ | refine le_alloc _ ?_ | refine le_setCell _ _ ?_ | refine le_drew ?_) | omega | (simp; done) | (simp; omega))))) (a : Int) (b : Int) _ _ rfl (by simp [go_sem]) (by simp [go_sem]) hal (by simp; omega) ?_; intro v' w' hown' hb' hat hgr; obtain ⟨A', n', c', rfl⟩ := hown'.slice; have OWN' := hide hown'; clear hown' hat hgr)
          exact ⟨⟨b + 1, by omega, by omega, by go_num, by rw [NX.out, ← List.append_assoc]; exact OWN'.out, Below.trans (Below.trans hbel2 (by (repeat' (first | (with_reducible first | exact Below.refl _ _ | assumption | refine below_ext _ ?_ ?_ | refine Below.alloc ?_ ?_ _ | refine Below.drew ?_ | refine below_drewN ?_ _ | refine le_drewN _ ?_ | refine Below.setCell ?_ ?_ _ | exact Nat.le_refl _ | refine le_ext _ ?_ | refine le_alloc _ ?_ | refine le_setCell _ _ ?_ | refine le_drew ?_) | omega | (simp; done) | (simp; omega))))) hb'⟩, by simp [intOf]; omega⟩
        · have eb : b = n := by omega
          subst eb
          go_wp2_with fail
          exact ⟨⟨a + 1, by omega, by go_num, by rw [PS.out]; exact OWN2.out, hbel2⟩, by simp [intOf]; omega⟩
    · have ea : a = n := by omega
      subst ea
      go_wp2
      go_ret
      exact ⟨_, rfl, OWN.out, ext_mk hbel⟩
set_option maxHeartbeats 400000 in
theorem IndexFuncR_any (g : Nat) (lb : Array Value) (p : Nat → Bool) (ps : List Pt) (A : Option Addr) (n c : Nat) (w : World) (hn : ps.length = n) (hm : n ≤ 2000000) (eg : ∀ args w, (callFunc g args).run Tryz.prog w = .ok (.enter g args) w)
    (hs : PtsAt w w.heap.size A ps) (hg : ∀ (W : World) (i : Nat), Below w.heap.size w W → i < ps.length → Calls Tryz.prog g (#[.agg #[.int .i64 (pX ps i), .int .i64 (pY ps i)]] ++ lb) W fun e w' => e = .returned (.bool (p i)) ∧ ∃ m, w' = ext W m) :
    Calls Tryz.prog 233 #[.slice A n c, .func (.func g) #[] lb] w fun e w' => e = .returned (.int .i64 (firstIdx p n)) ∧ ∃ m, w' = ext w m := by
  have HG := hide hg
  clear hg
  go_enter Tryz.func233, Tryz.ntmps233
  go_wp2
  go_loopw [8] (fun v8 wr => ∃ k : Nat, k ≤ n ∧ v8 = .int .i64 k ∧ Hid (∀ j, j < k → p j = false) ∧ ∃ x, wr = ext w x) (fun v8 _ => n - (intOf v8).toNat)
  case atStart => exact ⟨0, Nat.zero_le _, rfl, fun j hj => by omega, ext_same w⟩
  case round =>
    obtain ⟨k, hk, rfl, hp, x, rfl⟩ := hrel
    by_cases hlt : k < n
    · obtain ⟨b, o, rfl, hb, hc⟩ := hs (by omega)
      have hck := hc k (by omega)
      clear hc
      obtain ⟨hx, hy⟩ := hck
      go_wp2_with (go_at_fn g; refine (HG.out _ k (ext_below w x) (by omega)).mono ?_; rintro e w' ⟨rfl, y, rfl⟩)
      case roundEnd =>
        have hpk : p k = false := by assumption
        exact ⟨⟨k + 1, by omega, by go_num, fun j hj => by rcases Nat.lt_succ_iff_lt_or_eq.1 hj with h | rfl; exact hp.out j h; exact hpk, (ext_mk (by (repeat' (first | (with_reducible first | exact Below.refl _ _ | assumption | refine below_ext _ ?_ ?_ | refine Below.alloc ?_ ?_ _ | refine Below.drew ?_ | refine below_drewN ?_ _ | refine le_drewN _ ?_ | refine Below.setCell ?_ ?_ _ | exact Nat.le_refl _ | refine le_ext _ ?_ | refine le_alloc _ ?_ | refine le_setCell _ _ ?_ | refine le_drew ?_) | omega | (simp; done) | (simp; omega)))))⟩, by simp [intOf]; omega⟩
      have hpk : p k = true := by assumption
      go_ret
      exact ⟨ret_int (firstIdx_at hlt hpk hp.out).symm, (ext_mk (by (repeat' (first | (with_reducible first | exact Below.refl _ _ | assumption | refine below_ext _ ?_ ?_ | refine Below.alloc ?_ ?_ _ | refine Below.drew ?_ | refine below_drewN ?_ _ | refine le_drewN _ ?_ | refine Below.setCell ?_ ?_ _ | exact Nat.le_refl _ | refine le_ext _ ?_ | refine le_alloc _ ?_ | refine le_setCell _ _ ?_ | refine le_drew ?_) | omega | (simp; done) | (simp; omega)))))⟩
    · have : k = n := by omega
      subst this
      go_wp2
      go_ret
      exact ⟨ret_int (firstIdx_none hp.out).symm, (ext_mk (by (repeat' (first | (with_reducible first | exact Below.refl _ _ | assumption | refine below_ext _ ?_ ?_ | refine Below.alloc ?_ ?_ _ | refine Below.drew ?_ | refine below_drewN ?_ _ | refine le_drewN _ ?_ | refine Below.setCell ?_ ?_ _ | exact Nat.le_refl _ | refine le_ext _ ?_ | refine le_alloc _ ?_ | refine le_setCell _ _ ?_ | refine le_drew ?_) | omega | (simp; done) | (simp; omega)))))⟩

/-! ### slices.DeleteFunc -/
theorem OwnR.past {w : World} {base g n c : Nat} {ds : List Pt} (h : OwnR w base (.slice (some ⟨g, 0, none⟩) n c) ds) {j : Nat} (hj : n * 2 ≤ j) (v : Value) : OwnR (w.setCell ⟨g, j, none⟩ v) base (.slice (some ⟨g, 0, none⟩) n c) ds := by
  have hl := h.pts.1
  unfold OwnR at h ⊢
  rcases h.2 with ⟨hv, h1⟩ | ⟨g', cap, cur, hv, hg, hgg, hnc, hcm, hsz, htk⟩
  · cases hv
  · injection hv with e1 e2 e3
    injection e1 with e1
    injection e1 with e1
    subst e1 e3
    refine ⟨by rw [ptVals_len], .inr ⟨g, c, cur.setIfInBounds j v, by rw [hl], hg, by simp [World.setCell, Array.getElem?_modify, hgg], by omega, hcm, by simpa using hsz, ?_⟩⟩
    rw [← htk]
    refine List.ext_getElem? fun k => ?_
    rw [List.getElem?_take, List.getElem?_take]
    split
    · rw [Array.getElem?_toList, Array.getElem?_toList, Array.getElem?_setIfInBounds_ne (by omega)]
    · rfl
/-- Where the deletion stands. -/
structure KeptR (p : Pt → Bool) (ds cur : List Pt) (i j : Nat) : Prop where
  lt : i < j
  le : j ≤ ds.length
  len : cur.length = ds.length
  done : cur.take i = (ds.take j).filter fun d => !p d
  high : ∀ t, j ≤ t → gp cur t = gp ds t
theorem filter_snoc (p : Pt → Bool) {ds : List Pt} {j : Nat} (hj : j < ds.length) : (ds.take (j + 1)).filter (fun d => !p d) = (ds.take j).filter (fun d => !p d) ++ if p (gp ds j) then [] else [gp ds j] := by
  rw [List.take_succ_eq_append_getElem hj, List.filter_append, ← gp_lt hj]
  congr 1
  cases h : p (gp ds j) <;> simp [h]
theorem KeptR.start {p : Pt → Bool} {ds : List Pt} {k : Nat} (hk : k < ds.length) (ht : p (gp ds k) = true) (hf : ∀ t, t < k → p (gp ds t) = false) : KeptR p ds ds k (k + 1) := by
  refine ⟨by omega, by omega, rfl, ?_, fun _ _ => rfl⟩
  rw [filter_snoc p hk, ht, if_pos rfl, List.append_nil]
  refine (List.filter_eq_self.2 fun d hd => ?_).symm
  obtain ⟨t, ht', rfl⟩ := gp_of_mem hd
  rw [List.length_take] at ht'
  have e : gp (ds.take k) t = gp ds t := by unfold gp; rw [List.getD_eq_getElem?_getD, List.getD_eq_getElem?_getD, List.getElem?_take, if_pos (by omega)]
  rw [e, hf t (by omega)]; rfl
theorem KeptR.skip {p : Pt → Bool} {ds cur : List Pt} {i j : Nat} (h : KeptR p ds cur i j) (hj : j < ds.length) (ht : p (gp ds j) = true) : KeptR p ds cur i (j + 1) :=
  ⟨by have := h.lt; omega, by omega, h.len, by rw [filter_snoc p hj, ht, if_pos rfl, List.append_nil]; exact h.done, fun t ht => h.high t (by omega)⟩
theorem KeptR.keep {p : Pt → Bool} {ds cur : List Pt} {i j : Nat} (h : KeptR p ds cur i j) (hj : j < ds.length) (ht : p (gp ds j) = false) : KeptR p ds (cur.set i (gp ds j)) (i + 1) (j + 1) := by
  have hl := h.lt
  have hlen := h.len
  refine ⟨by omega, by omega, by rw [List.length_set]; exact h.len, ?_, fun t ht => ?_⟩
  · rw [filter_snoc p hj, ht, if_neg (by simp), ← h.done]
    rw [List.take_succ_eq_append_getElem (by rw [List.length_set]; omega), List.getElem_set_self, List.take_set_of_le (Nat.le_refl _)]
  · rw [← h.high t (by omega)]
    unfold gp
    simp only [List.getD_eq_getElem?_getD]
    rw [List.getElem?_set_ne (by omega)]
end Go.Proofs.YtnddfdhfefconaaGreatDoor
