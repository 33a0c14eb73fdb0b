
/- impl.DecodePoints. -/
import Derived.RangeFuncNested
import Derived.RangeFuncBox
import Derived.Shelf.Abstract
import Derived.Shelf.RegionOpen
import Derived.OwnWalkIn
import Derived.Maps.OwnIn
import Derived.Maps.AppendAt
import Derived.TacticsInMore
import Derived.LoopNIn
import Derived.LoopIn
import Derived.Test.YtnddfdhfefconaaGreatDoorSeq
import Derived.Test.YtnddfdhfefconaaGreatDoorEncP
import Derived.Test.YtnddfdhfefconaaGreatDoorDecS
set_option linter.unusedVariables false
set_option linter.unusedSimpArgs false
namespace Go.Proofs.YtnddfdhfefconaaGreatDoor
open Go.RowKit Go.Shelf

set_option maxHeartbeats 1000000 in
theorem splitSeq_any (S T : ByteArray) (w : World) : Calls Tryz.prog 131 #[.string S, .string T, .int .i64 0] w fun e w' =>
    e = .returned (.func (.func 178) #[] #[.pointer (some ⟨w.heap.size + 1, 0, none⟩), .pointer (some ⟨w.heap.size, 0, none⟩), .pointer (some ⟨w.heap.size + 1 + 1, 0, none⟩)]) ∧
    w' = ((w.alloc (.cells #[.string S] 9)).alloc (.cells #[.string T] 9)).alloc (.cells #[.int .i64 0] 3) := by
  go_enter Tryz.func131, Tryz.ntmps131
  go_wp2
  go_ret
  exact ⟨by simp, rfl⟩
set_option maxHeartbeats 1000000 in
theorem seqOf_any (S T : ByteArray) (w : World) : Calls Tryz.prog 84 #[.string S, .string T] w fun e w' =>
    e = .returned (.func (.func 178) #[] #[.pointer (some ⟨w.heap.size + 1, 0, none⟩), .pointer (some ⟨w.heap.size, 0, none⟩), .pointer (some ⟨w.heap.size + 1 + 1, 0, none⟩)]) ∧
    w' = ((w.alloc (.cells #[.string S] 9)).alloc (.cells #[.string T] 9)).alloc (.cells #[.int .i64 0] 3) := by
  go_enter Tryz.func84, Tryz.ntmps84
  go_wp2_with (go_at_call 131; refine (splitSeq_any _ _ _).mono ?_; rintro e w' ⟨rfl, rfl⟩)
  go_ret
  exact ⟨rfl, rfl⟩
/-- What holds between two rounds of DecodePoints' loop. -/
def RI (w : World) (b : Nat) (pre : List (List UInt8)) (W : World) : Prop :=
  (∃ (out : List Pt) (v : Value), pre.map atO = out.map some ∧ Boxed W (b + 3) 23 v ∧ OwnP W b v out) ∧ (Boxed W b 23 (.slice none 0 0) ∧ Boxed W (b + 1) 4 (.bool false)) ∧
  ((∃ v, Boxed W (b + 4) 9 v) ∧ Boxed W (b + 5) 9 (.string ⟨#[44]⟩) ∧ Boxed W (b + 6) 3 (.int .i64 0)) ∧ Below b w W
def RX (w : World) (b : Nat) (l : List UInt8) (c : Code) (pre : List (List UInt8)) (W : World) : Prop :=
  c = .ret ∧ decL l = ([], false) ∧ (Boxed W b 23 (.slice none 0 0) ∧ Boxed W (b + 1) 4 (.bool false)) ∧ Below b w W
theorem ne_row {X : World} {row : Option Nat} {B : Nat} {t : TypeId} {u : Value} (h : Boxed X B t u) (hr : ∀ r, row = some r → ∃ o : Obj, X.heap[r]? = some o ∧ o.isCells = false) : some B ≠ row := fun e => by
  obtain ⟨o, ho, hc⟩ := hr B e.symm
  rw [show X.heap[B]? = _ from h] at ho
  injection ho with ho
  rw [← ho] at hc
  cases hc
theorem own_row {X : World} {row : Option Nat} {base : Nat} {v : Value} {ps : List Pt} (h : OwnP X base v ps) (hr : ∀ r, row = some r → ∃ o : Obj, X.heap[r]? = some o ∧ o.isCells = false) : v.ownBlock = none ∨ v.ownBlock ≠ row := by
  unfold OwnP at h
  rcases h.2 with ⟨rfl, _⟩ | ⟨g, cap, cur, rfl, _, hgb, _⟩
  · exact .inl rfl
  · refine .inr fun e' => ?_
    obtain ⟨o, ho, hc⟩ := hr g e'.symm
    rw [hgb] at ho
    injection ho with ho
    rw [← ho] at hc
    cases hc
theorem OwnP.kept {X Y : World} {row : Option Nat} {base : Nat} {v : Value} {ps : List Pt} (h : OwnP X base v ps) (hg : X.grownBy Y row) (hne : v.ownBlock = none ∨ v.ownBlock ≠ row) : OwnP Y base v ps := World.ownsRow.kept h hg hne
theorem RI.own {w : World} {b : Nat} (hb : w.heap.size = b) : OwnFrom (b + 7) (RI w b) := by
  rintro pre X Y row ⟨⟨out, v, ho, hv, hr⟩, ⟨h0, h1⟩, ⟨⟨v4, h4⟩, h5, h6⟩, hB⟩ hg hrow
  have hc := fun r e => (hrow r e).2
  refine ⟨⟨out, v, ho, hv.kept hg (ne_row hv hc), hr.kept hg (own_row hr hc)⟩, ⟨h0.kept hg (ne_row h0 hc), h1.kept hg (ne_row h1 hc)⟩, ⟨⟨v4, h4.kept hg (ne_row h4 hc)⟩, h5.kept hg (ne_row h5 hc), h6.kept hg (ne_row h6 hc)⟩, hB.grown hg (by have := hB.size; omega) (fun k e => by have := (hrow k e).1; omega)⟩
theorem RX.own {w : World} {b : Nat} {l : List UInt8} (hb : w.heap.size = b) (c : Code) : OwnFrom (b + 7) (RX w b l c) := by
  rintro pre X Y row ⟨hcc, hd, ⟨h0, h1⟩, hB⟩ hg hrow
  have hc := fun r e => (hrow r e).2
  exact ⟨hcc, hd, ⟨h0.kept hg (ne_row h0 hc), h1.kept hg (ne_row h1 hc)⟩, hB.grown hg (by have := hB.size; omega) (fun k e => by have := (hrow k e).1; omega)⟩
theorem RI.set {w : World} {b : Nat} (hb : w.heap.size = b) {pre : List (List UInt8)} {X : World} (h : RI w b pre X) (v' : Value) : RI w b pre (X.setCell ⟨b + 4, 0, none⟩ v') := by
  obtain ⟨⟨out, v, ho, hv, hr⟩, ⟨h0, h1⟩, ⟨⟨v4, h4⟩, h5, h6⟩, hB⟩ := h
  have hg := grownBy_setCell' X (b + 4) v'
  have ne : ∀ {B : Nat}, B ≠ b + 4 → some B ≠ some (b + 4) := fun h e => h (by injection e)
  exact ⟨⟨out, v, ho, hv.kept hg (ne (by omega)), hr.kept hg (.inr (h4.not_row (by decide) hr).symm)⟩, ⟨h0.kept hg (ne (by omega)), h1.kept hg (ne (by omega))⟩, ⟨⟨v', h4.set v'⟩, h5.kept hg (ne (by omega)), h6.kept hg (ne (by omega))⟩, hB.setCell (p := ⟨b + 4, 0, none⟩) (by simp) _⟩
theorem RI.start {w : World} {b : Nat} (hb : w.heap.size = b) (l : List UInt8) {W7 : World} (hW7 : (((((((w.alloc (.cells #[.slice none 0 0] 23)).alloc (.cells #[.bool false] 4)).alloc (.cells #[] 41)).alloc (.cells #[.slice (some ⟨b + 2, 0, none⟩) 0 0] 23)).alloc (.cells #[.string (bS l)] 9)).alloc (.cells #[.string ⟨#[44]⟩] 9)).alloc (.cells #[.int .i64 0] 3)) = W7) : RI w b [] W7 ∧ It3 (b + 5) (b + 4) (b + 6) l W7 ∧ W7.heap.size = b + 7 := by
  subst hb hW7
  generalize hW0 : (w.alloc (.cells #[.slice none 0 0] 23)).alloc (.cells #[.bool false] 4) = W0
  have z0 : W0.heap.size = w.heap.size + 2 := by rw [← hW0, size_alloc, size_alloc]
  have a0 : Boxed W0 w.heap.size 23 (.slice none 0 0) := by rw [← hW0]; exact (Boxed.new _ _ _).alloc _
  have a1 : Boxed W0 (w.heap.size + 1) 4 (.bool false) := by rw [← hW0]; have := Boxed.new (w.alloc (.cells #[.slice none 0 0] 23)) 4 (.bool false); rwa [size_alloc] at this
  have B0 : Below w.heap.size w W0 := by rw [← hW0]; exact (by (repeat' (first | (with_reducible first | exact Below.refl _ _ | assumption | refine below_ext _ ?_ ?_ | refine Below.alloc ?_ ?_ _ | refine Below.drew ?_ | refine below_drewN ?_ _ | refine le_drewN _ ?_ | refine Below.setCell ?_ ?_ _ | exact Nat.le_refl _ | refine le_ext _ ?_ | refine le_alloc _ ?_ | refine le_setCell _ _ ?_ | refine le_drew ?_) | omega | (simp; done) | (simp; omega))))
  clear hW0
  have e2 := OwnP.empty W0 w.heap.size 0 (by omega) #[] rfl (by simp [maxLen])
  rw [z0] at e2
  generalize hW1 : W0.alloc (.cells #[] 41) = W1 at *
  have z1 : W1.heap.size = w.heap.size + 3 := by rw [← hW1, size_alloc, z0]
  have B1 : Below w.heap.size w W1 := by rw [← hW1]; exact B0.alloc (by omega) _
  have b0 : Boxed W1 w.heap.size 23 (.slice none 0 0) := by rw [← hW1]; exact a0.alloc _
  have b1 : Boxed W1 (w.heap.size + 1) 4 (.bool false) := by rw [← hW1]; exact a1.alloc _
  clear a0 a1 hW1 B0
  have c3 := Boxed.new W1 23 (.slice (some ⟨w.heap.size + 2, 0, none⟩) 0 0)
  rw [z1] at c3
  generalize hW2 : W1.alloc (.cells #[.slice (some ⟨w.heap.size + 2, 0, none⟩) 0 0] 23) = W2 at *
  have z2 : W2.heap.size = w.heap.size + 4 := by rw [← hW2, size_alloc, z1]
  have bel2 : Below W1.heap.size W1 W2 := by rw [← hW2]; exact (by (repeat' (first | (with_reducible first | exact Below.refl _ _ | assumption | refine below_ext _ ?_ ?_ | refine Below.alloc ?_ ?_ _ | refine Below.drew ?_ | refine below_drewN ?_ _ | refine le_drewN _ ?_ | refine Below.setCell ?_ ?_ _ | exact Nat.le_refl _ | refine le_ext _ ?_ | refine le_alloc _ ?_ | refine le_setCell _ _ ?_ | refine le_drew ?_) | omega | (simp; done) | (simp; omega))))
  have d0 : Boxed W2 w.heap.size 23 (.slice none 0 0) := by rw [← hW2]; exact b0.alloc _
  have d1 : Boxed W2 (w.heap.size + 1) 4 (.bool false) := by rw [← hW2]; exact b1.alloc _
  have o2 := e2.below bel2
  have B2 := B1.trans (bel2.mono (by omega))
  clear hW2 b0 b1 e2 B1 bel2
  have f4 := Boxed.new W2 9 (.string (bS l))
  have f5 := Boxed.new (W2.alloc (.cells #[.string (bS l)] 9)) 9 (.string ⟨#[44]⟩)
  have f6 := Boxed.new ((W2.alloc (.cells #[.string (bS l)] 9)).alloc (.cells #[.string ⟨#[44]⟩] 9)) 3 (.int .i64 0)
  simp only [size_alloc, z2] at f4 f5 f6
  have bel3 : Below W2.heap.size W2 (((W2.alloc (.cells #[.string (bS l)] 9)).alloc (.cells #[.string ⟨#[44]⟩] 9)).alloc (.cells #[.int .i64 0] 3)) := (by (repeat' (first | (with_reducible first | exact Below.refl _ _ | assumption | refine below_ext _ ?_ ?_ | refine Below.alloc ?_ ?_ _ | refine Below.drew ?_ | refine below_drewN ?_ _ | refine le_drewN _ ?_ | refine Below.setCell ?_ ?_ _ | exact Nat.le_refl _ | refine le_ext _ ?_ | refine le_alloc _ ?_ | refine le_setCell _ _ ?_ | refine le_drew ?_) | omega | (simp; done) | (simp; omega))))
  exact ⟨⟨⟨[], _, rfl, ((c3.alloc _).alloc _).alloc _, o2.below bel3⟩, ⟨((d0.alloc _).alloc _).alloc _, ((d1.alloc _).alloc _).alloc _⟩, ⟨⟨_, (f4.alloc _).alloc _⟩, f5.alloc _, f6⟩, B2.trans (bel3.mono (by omega))⟩, ⟨⟨_, f5.alloc _⟩, ⟨_, (f4.alloc _).alloc _⟩, ⟨_, f6⟩⟩, by simp only [size_alloc, z2]⟩
theorem two_new (W : World) (x y : Value) (t : TypeId) : ∀ (j : Nat) (u : Value), [x, y][j]? = some u → (W.alloc (.cells #[x, y] t)).cell? (Addr.add ⟨W.heap.size, 0, none⟩ j) = some u := fun j u h => by
  rw [add_plain, Nat.zero_add, heap_cell (heap_alloc_new W _) j]
  match j, h with
  | 0, h => simpa using h
  | 1, h => simpa using h
  | j + 2, h => simp at h
theorem keeps_of_below {W W' : World} (h : Below W.heap.size W W') (B : Nat) : KeepsFrom B W W' :=
  ⟨h.size, fun k o _ hk _ => (h.block k (Array.getElem?_eq_some_iff.1 hk).1).trans hk⟩
theorem bx_bel {W W' : World} {B : Nat} {t : TypeId} {v : Value} (h : Boxed W B t v) (hb : Below W.heap.size W W') : Boxed W' B t v := (hb.block B h.lt).trans h
/-- What a round owes where it goes on. -/
theorem RI.step {w W w3 w1 : World} {b N : Nat} (hb : w.heap.size = b) {pre : List (List UInt8)} {x : List UInt8} {out : List Pt} {v v' : Value} {p q : Int} {v4 : Value} {tmp : Obj} (ho : pre.map atO = out.map some) (hp : atO x = some ⟨p, q⟩)
    (hv : Boxed W (b + 3) 23 v) (hr : OwnP W b v out) (h0 : Boxed W b 23 (.slice none 0 0)) (h1 : Boxed W (b + 1) 4 (.bool false)) (h4 : Boxed W (b + 4) 9 v4) (h5 : Boxed W (b + 5) 9 (.string ⟨#[44]⟩)) (h6 : Boxed W (b + 6) 3 (.int .i64 0)) (hB : Below b w W)
    (h3 : Below W.heap.size W w3) (hown' : w1.ownsRow b 41 2 v' (out.length + 1) (ptVals out ++ [.int .i64 p, .int .i64 q])) (hgrow : (w3.alloc tmp).grownBy w1 v.ownBlock) :
    KeepsFrom N W (w1.setCell ⟨b + 3, 0, none⟩ v') ∧ Kept3 (b + 5) (b + 4) (b + 6) W (w1.setCell ⟨b + 3, 0, none⟩ v') ∧ RI w b (pre ++ [x]) (w1.setCell ⟨b + 3, 0, none⟩ v') := by
  have sz := hB.size
  have sz3 := h3.size
  have hr3 := hr.below h3
  obtain ⟨hv1, hv2, hr2, hk2, hb2⟩ := (bx_bel hv h3).appended (by decide) (show w3.ownsRow b 41 2 v out.length (ptVals out) from hr3) (by omega) (by omega) hown' hgrow
  have go : ∀ {B : Nat} {t : TypeId} {u : Value}, Boxed W B t u → t ≠ 41 → B ≠ b + 3 → Boxed (w1.setCell ⟨b + 3, 0, none⟩ v') B t u := fun {B t u} h ht hne => by
    have h3' := bx_bel h h3
    refine ((h3'.alloc tmp).kept hgrow (h3'.not_row ht (show w3.ownsRow b 41 2 v out.length (ptVals out) from hr3))).kept (grownBy_setCell' w1 (b + 3) v') (fun e => hne (by injection e))
  have g0 := go h0 (by decide) (by omega)
  have g1 := go h1 (by decide) (by omega)
  have g4 := go h4 (by decide) (by omega)
  have g5 := go h5 (by decide) (by omega)
  have g6 := go h6 (by decide) (by omega)
  refine ⟨(keeps_of_below h3 _).trans (hk2.from _), ⟨Eq.trans g5 (Eq.symm h5), Eq.trans g4 (Eq.symm h4), Eq.trans g6 (Eq.symm h6)⟩, ⟨⟨out ++ [⟨p, q⟩], v', ?_, hv2, ?_⟩, ⟨g0, g1⟩, ⟨⟨v4, g4⟩, g5, g6⟩, (hB.trans (h3.mono (by omega))).trans hb2⟩⟩
  · rw [List.map_append, List.map_append, ho, List.map_cons, List.map_nil, hp]; rfl
  · unfold OwnP
    rw [List.length_append, ptVals_app]
    exact hr2
/-- What a round owes where it leaves. -/
theorem RX.stop {w W w3 : World} {b N : Nat} (hb : w.heap.size = b) {l x : List UInt8} {pre : List (List UInt8)} (hd : decL l = ([], false)) (h0 : Boxed W b 23 (.slice none 0 0)) (h1 : Boxed W (b + 1) 4 (.bool false)) (hB : Below b w W) (h3 : Below W.heap.size W w3) :
    KeepsFrom N W ((w3.setCell ⟨b, 0, none⟩ (.slice none 0 0)).setCell ⟨b + 1, 0, none⟩ (.bool false)) ∧ RX w b l .ret (pre ++ [x]) ((w3.setCell ⟨b, 0, none⟩ (.slice none 0 0)).setCell ⟨b + 1, 0, none⟩ (.bool false)) := by
  have sz := hB.size
  have g0 := (bx_bel h0 h3).set (.slice none 0 0)
  have g1 := (bx_bel h1 h3).kept (grownBy_setCell' w3 b (.slice none 0 0)) (fun e => by injection e with e; omega)
  refine ⟨((keeps_of_below h3 _).trans ((KeepsOthers.setCell _ _ _).from _)).trans ((KeepsOthers.setCell _ _ _).from _), rfl, hd, ⟨g0.kept (grownBy_setCell' _ (b + 1) _) (fun e => by injection e with e; omega), g1.set _⟩, ((hB.trans (h3.mono (by omega))).setCell (p := ⟨b, 0, none⟩) (Nat.le_refl _) _).setCell (p := ⟨b + 1, 0, none⟩) (by simp) _⟩
attribute [local go_sem] Oper.semAt_some
set_option maxRecDepth 100000 in
set_option maxHeartbeats 4000000 in
theorem iDecL_any (l : List UInt8) (w : World) (hl : l.length ≤ 1048576) (ht : Tab w) (hE : Errs w) (hM : MaxL w) :
    Calls Tryz.prog 50 #[.string (bS l)] w fun e w' => ∃ A' n' c', e = .returned (.tuple #[.slice A' n' c', .bool (decL l).2]) ∧ (decL l).1.length = n' ∧ n' ≤ c' ∧ c' ≤ 9223372036854775807 ∧ PRow w' w.heap.size A' (decL l).1 ∧ ∃ x, w' = ext w x := by
  refine (callsIn_wide (n := 6)).1 ?_
  refine callsIn_of_wp_marks Tryz.func50 rfl trivial ?_ rfl
  simp only [Tryz.ntmps50, List.size_toArray, List.length_cons, List.length_nil, Nat.reduceAdd, Nat.reduceSub, Array.replicate_succ, Array.replicate_zero, List.push_toArray, List.append_toArray, List.nil_append, List.cons_append]
  gi_wp2
  refine ⟨trivial, (callsIn_wide.2 (seqOf_any _ _ _)).mono ?_⟩
  rintro e w' ⟨rfl, rfl⟩
  gi_wp2
  simp only [Nat.add_assoc, Nat.reduceAdd]
  generalize hW7 : World.alloc _ (.cells #[.int .i64 0] 3) = W7
  obtain ⟨R0, I0, z7⟩ := RI.start rfl l hW7
  clear hW7
  refine range_cells (by omega) (gf := 178) (lb := #[.pointer (some ⟨w.heap.size + 5, 0, none⟩), .pointer (some ⟨w.heap.size + 4, 0, none⟩), .pointer (some ⟨w.heap.size + 6, 0, none⟩)]) rfl (enters_of Tryz.func178 (by kernel_rfl) rfl)
    (split_it l (w.heap.size + 5) (w.heap.size + 4) (w.heap.size + 6) 5 W7 (by omega) (by omega) (by omega) I0 (by omega) (by omega) (by omega)) (fun p hp => by subst hp; show w.heap.size + 4 < _; omega) (fun h k => h.t k)
    (fun W l' o' hle => ⟨World.putObj_heap_other (by omega), World.putObj_heap_other (by omega), World.putObj_heap_other (by omega)⟩) (fun _ => rfl) (RI w w.heap.size) (RX w w.heap.size l) (by rw [z7]; exact RI.own rfl) (fun c => by rw [z7]; exact RX.own rfl c) (fun pre X p v hp h => by subst hp; exact RI.set rfl h v) (fun pre X h => hM.to h.2.2.2) R0
    (fun x => { tmps := #[.string (bS l), undef, .pointer (some ⟨w.heap.size, 0, none⟩), .pointer (some ⟨w.heap.size + 1, 0, none⟩), .pointer (some ⟨w.heap.size + 3, 0, none⟩), .string (bS x), undef, undef, undef, undef, undef, undef, undef, .slice (some ⟨w.heap.size + 2, 0, none⟩) 0 0, .string (bS l), .func (.func 178) #[] #[.pointer (some ⟨w.heap.size + 5, 0, none⟩), .pointer (some ⟨w.heap.size + 4, 0, none⟩), .pointer (some ⟨w.heap.size + 6, 0, none⟩)], .string (bS x), undef, undef, undef, undef, undef, undef, undef, undef, undef, undef, undef, undef, undef, undef, undef, undef, undef, undef, undef, undef, undef, undef, undef, undef, undef, undef, undef, undef, undef, undef, undef, undef, undef, undef], defers := [] }) ?assign ?body ?done ?stop
  case assign =>
    intro l' x W K hK
    gi_wp2
    exact hK
  case body =>
    rintro lr pre x W ⟨⟨out, v, ho, hv, hr⟩, ⟨h0, h1⟩, ⟨⟨v4, h4⟩, h5, h6⟩, hB⟩ hok
    have z6 := h6.lt
    have hx := hok.subset (show x ∈ pre ++ [x] by simp)
    have hxl : x.length ≤ l.length := splN_mem l 44 _ x hx
    have hol : out.length ≤ 1100000 := by
      have e1 := congrArg List.length ho
      rw [List.length_map, List.length_map] at e1
      have e2 := hok.length_le
      have e3 := pcs_len l
      simp at e2
      omega
    have CU := hide (show Calls Tryz.prog 85 #[.string (bS x), .string ⟨#[32]⟩] W fun e w' => e = .returned (.tuple #[.string (bS (Lib.cut x [32]).1), .string (bS (Lib.cut x [32]).2.1), .bool (Lib.cut x [32]).2.2]) ∧ ∃ y, w' = ext W y from cut_any x 32 W (by omega) (hM.to hB))
    have OK := hide (fun (m : List UInt8) (v : Int) (W : World) (h : m.length ≤ l.length) (h2 : Lib.atoiAll m = .ok v) => atoi_ok W (by omega) h2)
    have BAD := hide (fun (m : List UInt8) (W' : World) (hb : Below W.heap.size W W') (h : m.length ≤ l.length) (h2 : ∀ v, Lib.atoiAll m ≠ .ok v) => atoi_bad W' (by omega) h2 (hE.to (hB.trans (hb.mono hB.size))))
    have lens := cut_len x 32
    have A1 := hide (fun p q => @atO_ok x p q)
    have A2 := hide (@atO_n1 x)
    have A3 := hide (@atO_n2 x)
    have HBAD := hide (fun (h : atO x = none) => dI_bad hx h)
    obtain ⟨i0, hi, hz0, hz1, hz2⟩ := info_parts ptElt.inf
    have cv := hv.cell
    have c0 := h0.cell
    have f0 := h0.frozen
    have c1 := h1.cell
    have f1 := h1.frozen
    clear hx hok
    gi_wp2
    refine ⟨trivial, (CallsIn.inRound lr (callsIn_wide.2 CU.out)).mono ?_⟩
    rintro e w1 ⟨rfl, hx1⟩
    have B1 := hide (ext_bel hx1)
    clear hx1 CU
    generalize (Lib.cut x [32]).1 = la at *
    generalize (Lib.cut x [32]).2.1 = lb at *
    generalize (Lib.cut x [32]).2.2 = pb at *
    by_cases ha : ∃ v, Lib.atoiAll la = .ok v
    · obtain ⟨X, ha⟩ := ha
      gi_wp2
      refine ⟨trivial, (CallsIn.inRound lr (callsIn_wide.2 (OK.out la X w1 (by omega) ha))).mono ?_⟩
      rintro e w2 ⟨rfl, hx2⟩
      have B2 := hide (B1.out.trans ((ext_bel hx2).mono B1.out.size))
      clear hx2
      by_cases hb : ∃ v, Lib.atoiAll lb = .ok v
      · obtain ⟨Y, hb⟩ := hb
        have HA := A1.out X Y ha hb
        gi_wp2
        refine ⟨trivial, (CallsIn.inRound lr (callsIn_wide.2 (OK.out lb Y w2 (by omega) hb))).mono ?_⟩
        rintro e w3 ⟨rfl, hx3⟩
        have B3 := B2.out.trans ((ext_bel hx3).mono B2.out.size)
        have cv3 := (bx_bel hv B3).cell
        have hr3 := hr.below B3
        have z3 := B3.size
        have zB := hB.size
        have e1 : (out.length + 1) ≤ maxLen := by unfold maxLen; omega
        have e2 : (out.length + 1) * 16 ≤ 140737488355328 := by omega
        have e3 : w.heap.size ≤ (w3.alloc (.cells #[.int .i64 X, .int .i64 Y] 41)).heap.size := by rw [size_alloc]; omega
        have HR3 := hide hr3
        have HV := hide hv
        have HR := hide hr
        clear hx3 B1 B2 OK BAD A1 A2 A3 HBAD cv c0 f0 c1 f1 ha hb hr3 hv hr lens hxl hol z3 zB
        obtain ⟨A0, n0, c0, rfl⟩ := HR.out.slice
        gi_wp2_with (gi_at_builtin; refine wpListIn_append_own_at _ rfl (.tmp 39) (.tmp 43) 23 rfl w.heap.size 41 i0 _ 2 16 ptElt.und hi hz0 hz1 hz2 rfl (by decide) (.slice A0 n0 c0) out.length (ptVals out) rfl (World.ownsRow.kept HR3.out (World.grownBy_alloc w3 _ none) (by cases A0 <;> simp [Value.ownBlock])) ⟨w3.heap.size, 0, none⟩ 1 1 [.int .i64 X, .int .i64 Y] rfl rfl (two_new w3 _ _ _) (by simp [Value.oneCell']) e1 e2 e3 ?_; intro v' w4 hown' hgrow hnil hat; have HOWN := hide hown'; have HGR := hide hgrow; have b4 := (Boxed.kept (Boxed.alloc (bx_bel HV.out B3) _) hgrow ((bx_bel HV.out B3).not_row (by decide) (show w3.ownsRow w.heap.size 41 2 _ out.length (ptVals out) from HR3.out))); have c4 := b4.cell; have f4 := b4.frozen; obtain ⟨g', cap', rfl⟩ := ownsRow_succ hown'; clear hown' hgrow hnil hat)
        exact RI.step rfl ho HA HV.out HR.out h0 h1 h4 h5 h6 hB B3 HOWN.out HGR.out
      · have hb : ∀ v, Lib.atoiAll lb ≠ .ok v := fun v hv => hb ⟨v, hv⟩
        have HD := HBAD.out (A3.out hb)
        gi_wp2
        refine ⟨trivial, (CallsIn.inRound lr (callsIn_wide.2 (BAD.out lb w2 B2.out (by omega) hb))).mono ?_⟩
        rintro e w3 ⟨vb, Tb, Nb, rfl, hx3⟩
        have B3 := B2.out.trans ((ext_bel hx3).mono B2.out.size)
        have g0 := (bx_bel h0 B3).cell
        have k0 := (bx_bel h0 B3).frozen
        have g1 := (bx_bel h1 B3).cell
        have k1 := (bx_bel h1 B3).frozen
        clear hx3 B1 B2 OK BAD A1 A2 A3 HBAD cv c0 f0 c1 f1 ha hb
        gi_wp2
        exact RX.stop rfl HD h0 h1 hB B3
    · have ha : ∀ v, Lib.atoiAll la ≠ .ok v := fun v hv => ha ⟨v, hv⟩
      have HD := HBAD.out (A2.out ha)
      gi_wp2
      refine ⟨trivial, (CallsIn.inRound lr (callsIn_wide.2 (BAD.out la w1 B1.out (by omega) ha))).mono ?_⟩
      rintro e w2 ⟨vb, Tb, Nb, rfl, hx2⟩
      have B2 := hide (B1.out.trans ((ext_bel hx2).mono B1.out.size))
      clear hx2
      by_cases hb : ∃ v, Lib.atoiAll lb = .ok v
      · obtain ⟨Y, hb⟩ := hb
        gi_wp2
        refine ⟨trivial, (CallsIn.inRound lr (callsIn_wide.2 (OK.out lb Y w2 (by omega) hb))).mono ?_⟩
        rintro e w3 ⟨rfl, hx3⟩
        have B3 := B2.out.trans ((ext_bel hx3).mono B2.out.size)
        have g0 := (bx_bel h0 B3).cell
        have k0 := (bx_bel h0 B3).frozen
        have g1 := (bx_bel h1 B3).cell
        have k1 := (bx_bel h1 B3).frozen
        clear hx3 B1 B2 OK BAD A1 A2 A3 HBAD cv c0 f0 c1 f1 ha hb
        gi_wp2
        exact RX.stop rfl HD h0 h1 hB B3
      · have hb : ∀ v, Lib.atoiAll lb ≠ .ok v := fun v hv => hb ⟨v, hv⟩
        gi_wp2
        refine ⟨trivial, (CallsIn.inRound lr (callsIn_wide.2 (BAD.out lb w2 B2.out (by omega) hb))).mono ?_⟩
        rintro e w3 ⟨vc, Tc, Nc, rfl, hx3⟩
        have B3 := B2.out.trans ((ext_bel hx3).mono B2.out.size)
        have g0 := (bx_bel h0 B3).cell
        have k0 := (bx_bel h0 B3).frozen
        have g1 := (bx_bel h1 B3).cell
        have k1 := (bx_bel h1 B3).frozen
        clear hx3 B1 B2 OK BAD A1 A2 A3 HBAD cv c0 f0 c1 f1 ha hb
        gi_wp2
        exact RX.stop rfl HD h0 h1 hB B3
  case done =>
    rintro D xs W2 hD rfl ⟨⟨out, v, ho, hv, hr⟩, ⟨h0, h1⟩, _, hB⟩ hK
    rw [z7] at hD
    obtain ⟨A0, n0, c0, rfl⟩ := hr.slice
    have HDe := dI_ok ho
    obtain ⟨hn0, hc0, hm0, hs0⟩ := hr.pts
    have l0 : n0 ≤ 1100000 := by
      have e1 := congrArg List.length ho
      rw [List.length_map, List.length_map] at e1
      have e3 := pcs_len l
      omega
    have IE := hide (iEncL_any out A0 n0 c0 W2 hn0 (by omega) hs0 (ht.to hB))
    have EQ := bS_ne (encE out) l
    have cv := hv.cell
    have lD := (Array.getElem?_eq_some_iff.1 hK).1
    by_cases he : encE out = l
    · rw [decide_eq_true he] at EQ
      rw [if_pos he] at HDe
      clear he ho
      generalize bS (encE out) = S at *
      gi_wp2
      refine ⟨trivial, (callsIn_wide.2 IE.out).mono ?_⟩
      rintro e w3 ⟨rfl, hx⟩
      have B3 := ext_bel hx
      have v3 := bx_bel hv B3
      have g0 := bx_bel h0 B3
      have g1 := bx_bel h1 B3
      have cv3 := v3.cell
      have k0 := g0.cell
      have k1 := g1.cell
      have j0 := g0.frozen
      have j1 := g1.frozen
      have hK3 := (B3.block D lD).trans hK
      have CL := hide (clipP_any A0 n0 c0 w3 hc0 (by unfold maxLen at hm0; omega) hr.form.1)
      clear hx cv
      gi_wp2
      refine ⟨trivial, (callsIn_wide.2 CL.out).mono ?_⟩
      rintro e w4 ⟨rfl, rfl⟩
      have n0' : ∀ B : Nat, B ≠ w.heap.size → some B ≠ some w.heap.size := fun B h e => h (by injection e)
      have n1' : ∀ B : Nat, B ≠ w.heap.size + 1 → some B ≠ some (w.heap.size + 1) := fun B h e => h (by injection e)
      have z0 := (g0.set (.slice A0 n0 n0)).kept (grownBy_setCell' _ (w.heap.size + 1) (.bool true)) (n1' _ (by omega))
      have z1 := (g1.kept (grownBy_setCell' _ w.heap.size (.slice A0 n0 n0)) (n0' _ (by omega))).set (.bool true)
      have hr3 := hr.below B3
      have hr4 := hr3.kept (grownBy_setCell' _ w.heap.size (.slice A0 n0 n0)) (.inr (g0.not_row (by decide) hr3).symm)
      have hr5 := hr4.kept (grownBy_setCell' _ (w.heap.size + 1) (.bool true)) (.inr ((g1.kept (grownBy_setCell' _ w.heap.size (.slice A0 n0 n0)) (n0' _ (by omega))).not_row (by decide) hr4).symm)
      have hK5 := ((Below.heap_setCell (w3.setCell ⟨w.heap.size, 0, none⟩ (.slice A0 n0 n0)) ⟨w.heap.size + 1, 0, none⟩ (.bool true) D (by show D ≠ w.heap.size + 1; omega)).trans (Below.heap_setCell w3 ⟨w.heap.size, 0, none⟩ (.slice A0 n0 n0) D (by show D ≠ w.heap.size; omega))).trans hK3
      have B5 := ((hB.trans (B3.mono hB.size)).setCell (p := ⟨w.heap.size, 0, none⟩) (Nat.le_refl _) (.slice A0 n0 n0)).setCell (p := ⟨w.heap.size + 1, 0, none⟩) (by simp) (.bool true)
      gi_wp2
      have nD : ∀ B : Nat, B ≠ D → some B ≠ some D := fun B h e => h (by injection e)
      have p0 := (z0.kept (grownBy_putObj' _ D (.deferred none)) (nD _ (by omega))).cell
      have p1 := (z1.kept (grownBy_putObj' _ D (.deferred none)) (nD _ (by omega))).cell
      have B6 := B5.grown (grownBy_putObj' _ D (.deferred none)) B5.size (fun k e => by injection e with e; omega)
      have r6 := hr5.kept (grownBy_putObj' _ D (.deferred none)) (own_row hr5 (fun r e => by injection e with e; subst e; exact ⟨_, hK5, rfl⟩))
      refine ⟨by simp, .inl ⟨_, _, rfl, run_takeDeferred hK5, ?_⟩⟩
      refine ⟨_, by simp [results, Tryz.results50, go_sem, p0, p1]; rfl, ?_⟩
      exact ⟨_, _, _, by rw [HDe], by rw [HDe]; exact hn0, Nat.le_refl _, by unfold maxLen at hm0; omega, by rw [HDe]; exact r6.prow.2, ext_mk B6⟩
    · rw [decide_eq_false he] at EQ
      rw [if_neg he] at HDe
      clear he ho
      generalize bS (encE out) = S at *
      gi_wp2
      refine ⟨trivial, (callsIn_wide.2 IE.out).mono ?_⟩
      rintro e w3 ⟨rfl, hx⟩
      have B3 := ext_bel hx
      have g0 := bx_bel h0 B3
      have g1 := bx_bel h1 B3
      have k0 := g0.cell
      have k1 := g1.cell
      have j0 := g0.frozen
      have j1 := g1.frozen
      have hK3 := (B3.block D lD).trans hK
      clear hx cv
      have n0' : ∀ B : Nat, B ≠ w.heap.size → some B ≠ some w.heap.size := fun B h e => h (by injection e)
      have n1' : ∀ B : Nat, B ≠ w.heap.size + 1 → some B ≠ some (w.heap.size + 1) := fun B h e => h (by injection e)
      have z0 := (g0.set (.slice none 0 0)).kept (grownBy_setCell' _ (w.heap.size + 1) (.bool false)) (n1' _ (by omega))
      have z1 := (g1.kept (grownBy_setCell' _ w.heap.size (.slice none 0 0)) (n0' _ (by omega))).set (.bool false)
      have hK5 := ((Below.heap_setCell (w3.setCell ⟨w.heap.size, 0, none⟩ (.slice none 0 0)) ⟨w.heap.size + 1, 0, none⟩ (.bool false) D (by show D ≠ w.heap.size + 1; omega)).trans (Below.heap_setCell w3 ⟨w.heap.size, 0, none⟩ (.slice none 0 0) D (by show D ≠ w.heap.size; omega))).trans hK3
      have B5 := ((hB.trans (B3.mono hB.size)).setCell (p := ⟨w.heap.size, 0, none⟩) (Nat.le_refl _) (.slice none 0 0)).setCell (p := ⟨w.heap.size + 1, 0, none⟩) (by simp) (.bool false)
      have hr5 := True.intro
      gi_wp2
      have nD : ∀ B : Nat, B ≠ D → some B ≠ some D := fun B h e => h (by injection e)
      have p0 := (z0.kept (grownBy_putObj' _ D (.deferred none)) (nD _ (by omega))).cell
      have p1 := (z1.kept (grownBy_putObj' _ D (.deferred none)) (nD _ (by omega))).cell
      have B6 := B5.grown (grownBy_putObj' _ D (.deferred none)) B5.size (fun k e => by injection e with e; omega)
      refine ⟨by simp, .inl ⟨_, _, rfl, run_takeDeferred hK5, ?_⟩⟩
      refine ⟨_, by simp [results, Tryz.results50, go_sem, p0, p1]; rfl, ?_⟩
      exact ⟨_, _, _, by rw [HDe], by rw [HDe]; rfl, Nat.le_refl _, by omega, by rw [HDe]; exact PRow.nil _ _ _, ext_mk B6⟩
  case stop =>
    rintro D c pre W2 hD _ ⟨rfl, HDe, ⟨z0, z1⟩, B5⟩ hK5
    rw [z7] at hD
    gi_wp2
    have nD : ∀ B : Nat, B ≠ D → some B ≠ some D := fun B h e => h (by injection e)
    have p0 := (z0.kept (grownBy_putObj' _ D (.deferred none)) (nD _ (by omega))).cell
    have p1 := (z1.kept (grownBy_putObj' _ D (.deferred none)) (nD _ (by omega))).cell
    have B6 := B5.grown (grownBy_putObj' _ D (.deferred none)) B5.size (fun k e => by injection e with e; omega)
    refine ⟨by simp, .inl ⟨_, _, rfl, run_takeDeferred hK5, ?_⟩⟩
    refine ⟨_, by simp [results, Tryz.results50, go_sem, p0, p1]; rfl, ?_⟩
    exact ⟨_, _, _, by rw [HDe], by rw [HDe]; rfl, Nat.le_refl _, by omega, by rw [HDe]; exact PRow.nil _ _ _, ext_mk B6⟩
end Go.Proofs.YtnddfdhfefconaaGreatDoor
