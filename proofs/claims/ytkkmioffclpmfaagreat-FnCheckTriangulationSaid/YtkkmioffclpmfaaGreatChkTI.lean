
import Derived.Test.YtkkmioffclpmfaaGreatLeaf
import Derived.WideKeyEntry
import Derived.WideKeyPair
import Derived.Carry
import Derived.Test.YtkkmioffclpmfaaGreatChkTC
import Derived.Test.YtkkmioffclpmfaaGreatCan
import Derived.BigRegion
/- A map that counts pairs of numbers: made by the call, looked up, counted up. -/
set_option linter.unusedVariables false
set_option linter.unusedSimpArgs false
namespace Go.Proofs.YtkkmioffclpmfaaGreat
open Go.RowKit Go.ChangeShapes Go.WideShapes Go.MapKept Go.ChangeMaps Go.WideElems

def kPair (i k : Int) : Value := .agg #[.int .i64 i, .int .i64 k]
def wfI (x : Int) : Prop := (Lit.int .i64 x).wf = true
theorem arr2 : Go.WideMaps.ArrKey Tryz.prog 104 3 2 := ⟨Tryz.underlying104, by kernel_rfl, by kernel_rfl, by kernel_rfl⟩
theorem zeroI (w : World) : (zeroValue 3).run Tryz.prog w = .ok (.int .i64 0) w := by kernel_rfl
theorem keyPair {i k : Int} (hi : wfI i) (hk : wfI k) : ∃ l, keyOf Tryz.prog 104 (kPair i k) = some l := ⟨_, Go.WideMaps.keyOf_pair arr2 Tryz.underlying3 ⟨_, rfl⟩ hi hk⟩
/-- Block B is a map that counts C at each pair. -/
def CMap (w : World) (B : Nat) (C : Int → Int → Int) : Prop :=
  ∃ (es : Array MapEntry) (clock : Nat), w.heap[B]? = some (.map es clock) ∧ (∀ e ∈ es.toList, e.born < clock) ∧ (es.toList.map (·.born)).Nodup ∧ (es.toList.map (·.key)).Nodup ∧ (∀ e ∈ es.toList, ∃ i k, wfI i ∧ wfI k ∧ e.key = kPair i k ∧ e.val = .int .i64 (C i k)) ∧ ∀ i k, (∀ e ∈ es.toList, e.key ≠ kPair i k) → C i k = 0
theorem kPair_inj {i k i' k' : Int} (h : kPair i k = kPair i' k') : i = i' ∧ k = k' := by
  unfold kPair at h
  injection h with h
  injection h with h
  injection h with h1 h2
  injection h2 with h2 _
  injection h1 with _ h1
  injection h2 with _ h2
  exact ⟨h1, h2⟩
theorem CMap.block {w W : World} {B : Nat} {C : Int → Int → Int} (h : CMap w B C) (hb : W.heap[B]? = w.heap[B]?) : CMap W B C := by
  obtain ⟨es, clock, h1, r⟩ := h
  exact ⟨es, clock, hb.trans h1, r⟩
theorem CMap.lt {w : World} {B : Nat} {C : Int → Int → Int} (h : CMap w B C) : B < w.heap.size := by
  obtain ⟨es, clock, h1, r⟩ := h
  exact heap_lt h1
theorem CMap.new {w : World} {B : Nat} (h : w.heap[B]? = some (.map #[] 0)) : CMap w B fun _ _ => 0 :=
  ⟨#[], 0, h, by simp, by simp, by simp, by simp, fun _ _ _ => rfl⟩
theorem CMap.find {w : World} {B : Nat} {C : Int → Int → Int} (h : CMap w B C) {i k : Int} (hi : wfI i) (hk : wfI k) :
    (Instr.lookup 102 (.map (some B)) (kPair i k) false).run Tryz.prog w = .ok (.int .i64 (C i k)) w := by
  obtain ⟨es, clock, hb, s1, s2, s3, hks, hz⟩ := h
  obtain ⟨l, hl⟩ := keyPair hi hk
  have hall : ∀ e ∈ es.toList, ∃ l, keyOf Tryz.prog 104 e.key = some l := fun e he => by
    obtain ⟨a, b, wa, wb, e1, _⟩ := hks e he
    rw [e1]; exact keyPair wa wb
  rcases arr2.law.find w hl es.toList hall with ⟨h1, h2⟩ | ⟨j, e, h1, h2, h3⟩
  · have := hz i k h2
    simp [Instr.lookup, run_underlying Tryz.underlying102, MapKept.run_getObj_map hb, arr2.law.check w _ hl, h1, zeroI, this, Result.andThen]
  · obtain ⟨a, b, wa, wb, e1, e2⟩ := hks e (List.mem_of_getElem? h2)
    rw [h3] at e1
    obtain ⟨rfl, rfl⟩ := kPair_inj e1
    simp [Instr.lookup, run_underlying Tryz.underlying102, MapKept.run_getObj_map hb, arr2.law.check w _ hl, h1, e2, Result.andThen]
theorem nd_at {l : List MapEntry} (h : (l.map (·.key)).Nodup) {a b : Nat} {x y : MapEntry} (hx : l[a]? = some x) (hy : l[b]? = some y) (hk : x.key = y.key) : a = b := by
  obtain ⟨la, ea⟩ := List.getElem?_eq_some_iff.1 hx
  obtain ⟨lb, eb⟩ := List.getElem?_eq_some_iff.1 hy
  have P := List.pairwise_iff_getElem.1 h
  rcases Nat.lt_trichotomy a b with hh | hh | hh
  · exact absurd (by rw [List.getElem_map, List.getElem_map, ea, eb, hk]) (P a b (by simpa using la) (by simpa using lb) hh)
  · exact hh
  · exact absurd (by rw [List.getElem_map, List.getElem_map, ea, eb, hk]) (P b a (by simpa using lb) (by simpa using la) hh)
def upd2 (C : Int → Int → Int) (i k v : Int) (a b : Int) : Int := if a = i ∧ b = k then v else C a b
theorem setB_heap {w : World} {B : Nat} {o o' : Obj} (h : w.heap[B]? = some o) : (setBlock w B o').heap[B]? = some o' := by
  have hl := heap_lt h
  simp [setBlock, hl]
theorem setB_but {w : World} {B : Nat} {o' : Obj} : But w (setBlock w B o') B :=
  ⟨rfl, rfl, rfl, by simp [setBlock], fun k hk => by
    simp only [setBlock]
    rw [Array.getElem?_setIfInBounds_ne (fun e => hk e.symm)]⟩
theorem CMap.put {w : World} {B : Nat} {C : Int → Int → Int} (h : CMap w B C) {i k : Int} (hi : wfI i) (hk : wfI k) :
    ∃ (st : Int) (w1 : World), (Instr.mapEntry 102 (.map (some B)) (kPair i k)).run Tryz.prog w = .ok (.tuple #[.int .i64 (C i k), .int .i64 st]) w1 ∧ CMap w1 B C ∧ But w w1 B ∧
      ∀ v : Int, ∃ w2, (Instr.entryStore 102 (.map (some B)) (.int .i64 st) (.int .i64 v)).run Tryz.prog w1 = .ok () w2 ∧ CMap w2 B (upd2 C i k v) ∧ But w w2 B := by
  obtain ⟨es, clock, hb, s1, s2, s3, hks, hz⟩ := h
  obtain ⟨l, hl⟩ := keyPair hi hk
  have hall : ∀ e ∈ es.toList, ∃ l, keyOf Tryz.prog 104 e.key = some l := fun e he => by
    obtain ⟨a, b, wa, wb, e1, _⟩ := hks e he
    rw [e1]; exact keyPair wa wb
  have hu := run_underlying Tryz.underlying102
  rcases arr2.law.find w hl es.toList hall with ⟨h1, h2⟩ | ⟨j, e0, h1, h2, h3⟩
  · have hC := hz i k h2
    refine ⟨clock, setBlock w B (.map (es.push ⟨kPair i k, .int .i64 0, clock⟩) (clock + 1)), ?_, ?_, setB_but, fun v => ?_⟩
    · simp [Instr.mapEntry, hu, MapKept.run_getObj_map hb, arr2.law.check w false hl, h1, zeroI, hC, MapKept.run_setObj_map _ hb, Result.andThen, setBlock, goInt]
    · refine ⟨es.push ⟨kPair i k, .int .i64 0, clock⟩, clock + 1, setB_heap hb, ?_, ?_, ?_, ?_, ?_⟩
      · intro e he
        simp only [Array.toList_push, List.mem_append, List.mem_singleton] at he
        rcases he with he | rfl
        · have := s1 e he; omega
        · exact Nat.lt_succ_self _
      · simp only [Array.toList_push, List.map_append, List.map_cons, List.map_nil]
        refine List.nodup_append.2 ⟨s2, by simp, fun a ha c hc e1 => ?_⟩
        simp only [List.mem_singleton] at hc
        obtain ⟨x, hx, rfl⟩ := List.mem_map.1 ha
        have := s1 x hx
        omega
      · simp only [Array.toList_push, List.map_append, List.map_cons, List.map_nil]
        refine List.nodup_append.2 ⟨s3, by simp, fun a ha c hc e1 => ?_⟩
        simp only [List.mem_singleton] at hc
        obtain ⟨x, hx, rfl⟩ := List.mem_map.1 ha
        exact h2 x hx (e1.trans hc)
      · intro e he
        simp only [Array.toList_push, List.mem_append, List.mem_singleton] at he
        rcases he with he | rfl
        · exact hks e he
        · exact ⟨i, k, hi, hk, rfl, by rw [hC]⟩
      · intro a b hab
        exact hz a b fun e he => hab e (by simp only [Array.toList_push, List.mem_append]; exact .inl he)
    · have hw1 := setB_heap (o' := .map (es.push ⟨kPair i k, .int .i64 0, clock⟩) (clock + 1)) hb
      have hidx : (es.push ⟨kPair i k, .int .i64 0, clock⟩).findIdx? (fun e => ((e.born : Nat) : Int) == ((clock : Nat) : Int)) = some es.size := by
        rw [findIdx_arr]
        exact findIdx_born (l := (es.push ⟨kPair i k, .int .i64 0, clock⟩).toList) (j := es.size) (e0 := ⟨kPair i k, .int .i64 0, clock⟩) (by
          simp only [Array.toList_push, List.map_append, List.map_cons, List.map_nil]
          refine List.nodup_append.2 ⟨s2, by simp, fun a ha c hc e1 => ?_⟩
          simp only [List.mem_singleton] at hc
          obtain ⟨x, hx, rfl⟩ := List.mem_map.1 ha
          have := s1 x hx
          omega) (by simp)
      have hmod : (es.push ⟨kPair i k, .int .i64 0, clock⟩).modify es.size (fun e => { e with val := .int .i64 v }) = es.push ⟨kPair i k, .int .i64 v, clock⟩ := by
        apply Array.ext'
        rw [Array.toList_modify, Array.toList_push, Array.toList_push, ← Array.length_toList, modify_last]
      refine ⟨setBlock (setBlock w B (.map (es.push ⟨kPair i k, .int .i64 0, clock⟩) (clock + 1))) B (.map (es.push ⟨kPair i k, .int .i64 v, clock⟩) (clock + 1)), ?_, ?_, ?_⟩
      · generalize hW1 : setBlock w B (.map (es.push ⟨kPair i k, .int .i64 0, clock⟩) (clock + 1)) = W1 at hw1 ⊢
        simp [Instr.entryStore, MapKept.run_getObj_map hw1, asInt, asIntOf, hidx, hmod, MapKept.run_setObj_map _ hw1, Result.andThen, setBlock]
      · refine ⟨es.push ⟨kPair i k, .int .i64 v, clock⟩, clock + 1, setB_heap hw1, ?_, ?_, ?_, ?_, ?_⟩
        · intro e he
          simp only [Array.toList_push, List.mem_append, List.mem_singleton] at he
          rcases he with he | rfl
          · have := s1 e he; omega
          · exact Nat.lt_succ_self _
        · simp only [Array.toList_push, List.map_append, List.map_cons, List.map_nil]
          refine List.nodup_append.2 ⟨s2, by simp, fun a ha c hc e1 => ?_⟩
          simp only [List.mem_singleton] at hc
          obtain ⟨x, hx, rfl⟩ := List.mem_map.1 ha
          have := s1 x hx
          omega
        · simp only [Array.toList_push, List.map_append, List.map_cons, List.map_nil]
          refine List.nodup_append.2 ⟨s3, by simp, fun a ha c hc e1 => ?_⟩
          simp only [List.mem_singleton] at hc
          obtain ⟨x, hx, rfl⟩ := List.mem_map.1 ha
          exact h2 x hx (e1.trans hc)
        · intro e he
          simp only [Array.toList_push, List.mem_append, List.mem_singleton] at he
          rcases he with he | rfl
          · obtain ⟨a, b, wa, wb, e1, e2⟩ := hks e he
            refine ⟨a, b, wa, wb, e1, ?_⟩
            unfold upd2
            rw [if_neg (fun hh => h2 e he (by rw [e1, hh.1, hh.2])), e2]
          · exact ⟨i, k, hi, hk, rfl, by unfold upd2; rw [if_pos ⟨rfl, rfl⟩]⟩
        · intro a b hab
          have hne := hab ⟨kPair i k, .int .i64 v, clock⟩ (by simp)
          unfold upd2
          rw [if_neg (fun hh => hne (by rw [hh.1, hh.2]))]
          exact hz a b fun e he => hab e (by simp only [Array.toList_push, List.mem_append]; exact .inl he)
      · have b1 : But w (setBlock w B (.map (es.push ⟨kPair i k, .int .i64 0, clock⟩) (clock + 1))) B := setB_but
        have b2 : But (setBlock w B (.map (es.push ⟨kPair i k, .int .i64 0, clock⟩) (clock + 1))) (setBlock (setBlock w B (.map (es.push ⟨kPair i k, .int .i64 0, clock⟩) (clock + 1))) B (.map (es.push ⟨kPair i k, .int .i64 v, clock⟩) (clock + 1))) B := setB_but
        exact ⟨b2.os.trans b1.os, b2.tape.trans b1.tape, b2.output.trans b1.output, b2.size.trans b1.size, fun g hg => (b2.block g hg).trans (b1.block g hg)⟩
  · have hj : es[j]? = some e0 := by simpa using h2
    obtain ⟨a, b, wa, wb, e1, e2⟩ := hks e0 (List.mem_of_getElem? h2)
    rw [h3] at e1
    obtain ⟨rfl, rfl⟩ := kPair_inj e1
    have hsame : es.modify j (fun e => { e with key := kPair i k }) = es := by
      apply Array.ext'
      rw [Array.toList_modify, modify_eq_set _ _ _ _ h2]
      have : ({ e0 with key := kPair i k } : MapEntry) = e0 := by rw [← h3]
      rw [this]
      exact set_self _ _ _ h2
    refine ⟨e0.born, setBlock w B (.map es clock), ?_, ⟨es, clock, setB_heap hb, s1, s2, s3, hks, hz⟩, setB_but, fun v => ?_⟩
    · simp [Instr.mapEntry, hu, MapKept.run_getObj_map hb, arr2.law.check w false hl, h1, hj, h3, arr2.law.stays w hl, hsame, e2, MapKept.run_setObj_map _ hb, Result.andThen, setBlock, goInt]
    · have hw1 := setB_heap (o' := .map es clock) hb
      have hidx : es.findIdx? (fun e => ((e.born : Nat) : Int) == ((e0.born : Nat) : Int)) = some j := by
        rw [findIdx_arr]
        exact findIdx_born s2 h2
      have hml : (es.modify j (fun e => { e with val := .int .i64 v })).toList = es.toList.set j { e0 with val := .int .i64 v } := by
        rw [Array.toList_modify, modify_eq_set _ _ _ _ h2]
      refine ⟨setBlock (setBlock w B (.map es clock)) B (.map (es.modify j (fun e => { e with val := .int .i64 v })) clock), ?_, ?_, ?_⟩
      · generalize hW1 : setBlock w B (.map es clock) = W1 at hw1 ⊢
        simp [Instr.entryStore, MapKept.run_getObj_map hw1, asInt, asIntOf, hidx, MapKept.run_setObj_map _ hw1, Result.andThen, setBlock]
      · have hborn : (es.toList.set j { e0 with val := .int .i64 v }).map (·.born) = es.toList.map (·.born) := by
          rw [List.map_set]
          exact set_self _ _ _ (by rw [List.getElem?_map, h2]; rfl)
        have hkeys : (es.toList.set j { e0 with val := .int .i64 v }).map (·.key) = es.toList.map (·.key) := by
          rw [List.map_set]
          exact set_self _ _ _ (by rw [List.getElem?_map, h2]; rfl)
        refine ⟨es.modify j (fun e => { e with val := .int .i64 v }), clock, setB_heap hw1, ?_, ?_, ?_, ?_, ?_⟩ <;> rw [hml]
        · intro e he
          have : e.born ∈ (es.toList.set j { e0 with val := .int .i64 v }).map (·.born) := List.mem_map.2 ⟨e, he, rfl⟩
          rw [hborn] at this
          obtain ⟨x, hx, hxe⟩ := List.mem_map.1 this
          have := s1 x hx
          omega
        · rw [hborn]; exact s2
        · rw [hkeys]; exact s3
        · intro e he
          obtain ⟨m, hm⟩ := List.getElem?_of_mem he
          by_cases hmj : m = j
          · subst hmj
            rw [List.getElem?_set_self (List.getElem?_eq_some_iff.1 h2).1] at hm
            injection hm with hm
            subst hm
            exact ⟨i, k, hi, hk, h3, by unfold upd2; rw [if_pos ⟨rfl, rfl⟩]⟩
          · rw [List.getElem?_set_ne (Ne.symm hmj)] at hm
            obtain ⟨a, b, wa, wb, e3, e4⟩ := hks e (List.mem_of_getElem? hm)
            refine ⟨a, b, wa, wb, e3, ?_⟩
            unfold upd2
            rw [if_neg (fun hh => hmj (nd_at s3 hm h2 (by rw [e3, h3, hh.1, hh.2]))), e4]
        · intro a b hab
          unfold upd2
          by_cases hh : a = i ∧ b = k
          · exfalso
            have hjl : j < es.toList.length := (List.getElem?_eq_some_iff.1 h2).1
            exact hab { e0 with val := .int .i64 v } (List.mem_set hjl _) (by rw [hh.1, hh.2]; exact h3)
          · rw [if_neg hh]
            refine hz a b fun e he hke => ?_
            by_cases hee : e.key = kPair i k
            · rw [hee] at hke
              obtain ⟨r1, r2⟩ := kPair_inj hke
              exact hh ⟨r1.symm, r2.symm⟩
            · obtain ⟨m, hm⟩ := List.getElem?_of_mem he
              have hmj : m ≠ j := fun e => by
                subst e
                rw [h2] at hm; injection hm with hm
                exact hee (by rw [← hm]; exact h3)
              refine hab e (List.mem_of_getElem? (i := m) ?_) hke
              rw [List.getElem?_set_ne (Ne.symm hmj)]; exact hm
      · have b1 : But w (setBlock w B (.map es clock)) B := setB_but
        have b2 : But (setBlock w B (.map es clock)) (setBlock (setBlock w B (.map es clock)) B (.map (es.modify j (fun e => { e with val := .int .i64 v })) clock)) B := setB_but
        exact ⟨b2.os.trans b1.os, b2.tape.trans b1.tape, b2.output.trans b1.output, b2.size.trans b1.size, fun g hg => (b2.block g hg).trans (b1.block g hg)⟩
end Go.Proofs.YtkkmioffclpmfaaGreat
/- CheckTriangulation of the program: corners, inIndex, the map of the sides, divides. -/
set_option linter.unusedVariables false
set_option linter.unusedSimpArgs false
namespace Go.Proofs.YtkkmioffclpmfaaGreat
open Go.RowKit

set_option maxHeartbeats 400000 in
theorem corners_any (a b c : Int) (w : World) : Calls Tryz.prog 76 #[.agg #[.int .i64 a, .int .i64 b, .int .i64 c]] w fun e w' => e = .returned (.agg #[.int .i64 a, .int .i64 b, .int .i64 c]) ∧ ∃ x, w' = ext w x := by
  go_enter Tryz.func76, Tryz.ntmps76
  go_wp2
  go_returns
  exact ⟨rfl, (ext_mk (by (repeat' (first | (with_reducible first | exact Below.refl _ _ | assumption | refine below_ext _ ?_ ?_ | refine Below.alloc ?_ ?_ _ | refine Below.drew ?_ | refine below_drewN ?_ _ | refine le_drewN _ ?_ | refine Below.setCell ?_ ?_ _ | exact Nat.le_refl _ | refine le_ext _ ?_ | refine le_alloc _ ?_ | refine le_setCell _ _ ?_ | refine le_drew ?_) | omega | (simp; done) | (simp; omega)))))⟩
set_option maxHeartbeats 400000 in
theorem inIndex_any (t : TI) (n : Nat) (w : World) (hn : n ≤ 1000000) : Calls Tryz.prog 108 #[.agg #[.int .i64 t.a, .int .i64 t.b, .int .i64 t.c], .int .i64 n] w fun e w' => e = .returned (.bool (tIn n t)) ∧ ∃ x, w' = ext w x := by
  obtain ⟨X, Y, V⟩ := t
  have IN : Hid (tIn n ⟨X, Y, V⟩ = (inB X 0 ((n : Int) - 1) && (inB Y 0 ((n : Int) - 1) && inB V 0 ((n : Int) - 1)))) := hide rfl
  rw [IN.out]
  have w1 : IntKind.i64.wrap ((n : Int) - 1) = (n : Int) - 1 := IntWalk.i64_in _ (by omega)
  cases i1 : inB X 0 ((n : Int) - 1)
  · go_enter Tryz.func108, Tryz.ntmps108
    go_wp2_with fail
    refine (within_any _ _ _ _).mono ?_
    rw [i1]
    rintro e w' ⟨rfl, rfl⟩
    go_wp2_with fail
    go_ret
    exact ⟨rfl, (ext_mk (by (repeat' (first | (with_reducible first | exact Below.refl _ _ | assumption | refine below_ext _ ?_ ?_ | refine Below.alloc ?_ ?_ _ | refine Below.drew ?_ | refine below_drewN ?_ _ | refine le_drewN _ ?_ | refine Below.setCell ?_ ?_ _ | exact Nat.le_refl _ | refine le_ext _ ?_ | refine le_alloc _ ?_ | refine le_setCell _ _ ?_ | refine le_drew ?_) | omega | (simp; done) | (simp; omega)))))⟩
  · cases i2 : inB Y 0 ((n : Int) - 1)
    · go_enter Tryz.func108, Tryz.ntmps108
      go_wp2_with fail
      refine (within_any _ _ _ _).mono ?_
      rw [i1]
      rintro e w' ⟨rfl, rfl⟩
      go_wp2_with fail
      refine (within_any _ _ _ _).mono ?_
      rw [i2]
      rintro e w' ⟨rfl, rfl⟩
      go_wp2_with fail
      go_ret
      exact ⟨rfl, (ext_mk (by (repeat' (first | (with_reducible first | exact Below.refl _ _ | assumption | refine below_ext _ ?_ ?_ | refine Below.alloc ?_ ?_ _ | refine Below.drew ?_ | refine below_drewN ?_ _ | refine le_drewN _ ?_ | refine Below.setCell ?_ ?_ _ | exact Nat.le_refl _ | refine le_ext _ ?_ | refine le_alloc _ ?_ | refine le_setCell _ _ ?_ | refine le_drew ?_) | omega | (simp; done) | (simp; omega)))))⟩
    · go_enter Tryz.func108, Tryz.ntmps108
      go_wp2_with fail
      refine (within_any _ _ _ _).mono ?_
      rw [i1]
      rintro e w' ⟨rfl, rfl⟩
      go_wp2_with fail
      refine (within_any _ _ _ _).mono ?_
      rw [i2]
      rintro e w' ⟨rfl, rfl⟩
      go_wp2_with fail
      refine (within_any _ _ _ _).mono ?_
      rintro e w' ⟨rfl, rfl⟩
      go_wp2_with fail
      go_ret
      exact ⟨rfl, (ext_mk (by (repeat' (first | (with_reducible first | exact Below.refl _ _ | assumption | refine below_ext _ ?_ ?_ | refine Below.alloc ?_ ?_ _ | refine Below.drew ?_ | refine below_drewN ?_ _ | refine le_drewN _ ?_ | refine Below.setCell ?_ ?_ _ | exact Nat.le_refl _ | refine le_ext _ ?_ | refine le_alloc _ ?_ | refine le_setCell _ _ ?_ | refine le_drew ?_) | omega | (simp; done) | (simp; omega)))))⟩
/-! ### the map of the sides -/
def l3 (t : TI) : List Int := [t.a, t.b, t.c]
def sd3 (t : TI) (q : Nat) (i k : Int) : Bool := gi (l3 t) q == i && gi (l3 t) ((q + 1) % 3) == k
/-- The sides from i to k among the first j triangles and s sides more. -/
def cS (ts : List TI) (j s : Nat) (i k : Int) : Int := ((cT ts j i k + (List.range s).countP fun q => sd3 (gt ts j) q i k : Nat) : Int)
theorem cS_zero (ts : List TI) (j : Nat) (i k : Int) : cS ts j 0 i k = (cT ts j i k : Int) := by simp [cS]
theorem cS_succ (ts : List TI) (j s : Nat) (i k : Int) : cS ts j (s + 1) i k = cS ts j s i k + if sd3 (gt ts j) s i k = true then 1 else 0 := by
  unfold cS
  rw [List.range_succ, List.countP_append, List.countP_cons, List.countP_nil]
  split <;> push_cast <;> omega
theorem cS_three {ts : List TI} {j : Nat} (hj : j < ts.length) (hd : (gt ts j).a ≠ (gt ts j).b ∧ (gt ts j).b ≠ (gt ts j).c ∧ (gt ts j).a ≠ (gt ts j).c) (i k : Int) : cS ts j 3 i k = (cT ts (j + 1) i k : Int) := by
  rw [cS_succ, cS_succ, cS_succ, cS_zero, cT_succ hj]
  have s0 : sd3 (gt ts j) 0 i k = ((gt ts j).a == i && (gt ts j).b == k) := rfl
  have s1 : sd3 (gt ts j) 1 i k = ((gt ts j).b == i && (gt ts j).c == k) := rfl
  have s2 : sd3 (gt ts j) 2 i k = ((gt ts j).c == i && (gt ts j).a == k) := rfl
  rw [s0, s1, s2]
  obtain ⟨d1, d2, d3⟩ := hd
  generalize (gt ts j).a = a at *
  generalize (gt ts j).b = b at *
  generalize (gt ts j).c = c at *
  simp only [Bool.or_eq_true, Bool.and_eq_true, beq_iff_eq]
  push_cast
  by_cases h0 : a = i ∧ b = k
  · rw [if_pos h0, if_neg (by omega), if_neg (by omega), if_pos (.inl (.inl h0))]; omega
  · rw [if_neg h0]
    by_cases h1 : b = i ∧ c = k
    · rw [if_pos h1, if_neg (by omega), if_pos (.inl (.inr h1))]; omega
    · rw [if_neg h1]
      by_cases h2 : c = i ∧ a = k
      · rw [if_pos h2, if_pos (.inr h2)]; omega
      · rw [if_neg h2, if_neg (by omega)]; omega
theorem CMap.congr {w : World} {B : Nat} {C C' : Int → Int → Int} (h : CMap w B C) (he : ∀ i k, C i k = C' i k) : CMap w B C' := by
  have : C = C' := funext fun i => funext fun k => he i k
  rwa [← this]
theorem wfI_of {x : Int} (h : 0 ≤ x ∧ x ≤ 1000000) : wfI x := WalkArith.wf_i64 (by omega)
set_option maxRecDepth 20000 in
set_option maxHeartbeats 2000000 in
theorem sidesOf_any (ts : List TI) (A : Option Addr) (m d : Nat) (w : World) (hm : ts.length = m) (hb : m ≤ 1000) (ht : ∀ t ∈ ts, (0 ≤ t.a ∧ t.a ≤ 1000) ∧ (0 ≤ t.b ∧ t.b ≤ 1000) ∧ (0 ≤ t.c ∧ t.c ≤ 1000) ∧ t.a ≠ t.b ∧ t.b ≠ t.c ∧ t.a ≠ t.c) (hs : TrisAt w w.heap.size A ts) :
    Calls Tryz.prog 110 #[.slice A m d] w fun e w' => ∃ B, e = .returned (.map (some B)) ∧ CMap w' B (fun i k => (cT ts m i k : Int)) ∧ ∃ x, w' = ext w x := by
  have HS := hide hs
  have HM := hide hm
  have HT : Hid (∀ j, j < m → (0 ≤ (gt ts j).a ∧ (gt ts j).a ≤ 1000) ∧ (0 ≤ (gt ts j).b ∧ (gt ts j).b ≤ 1000) ∧ (0 ≤ (gt ts j).c ∧ (gt ts j).c ≤ 1000) ∧ (gt ts j).a ≠ (gt ts j).b ∧ (gt ts j).b ≠ (gt ts j).c ∧ (gt ts j).a ≠ (gt ts j).c) := hide (fun j hj => ht _ (gt_mem (by omega)))
  have CL := hide (fun j i k => cT_le ts j i k)
  rw [hm] at CL
  have hmm := @run_makeMap Tryz.prog
  clear hs hm ht
  go_enter Tryz.func110, Tryz.ntmps110
  go_wp2_with fail
  go_loopw [5, 6, 7, 11, 17] (fun _ _ _ u11 _ wr => ∃ j : Nat, j ≤ m ∧ u11 = .int .i64 j ∧ CMap wr w.heap.size (fun i k => (cT ts j i k : Int)) ∧ Below w.heap.size w wr) (fun _ _ _ u11 _ _ => m - (intOf u11).toNat)
  case atStart => exact ⟨0, Nat.zero_le _, rfl, CMap.new (heap_alloc_new _ _), (by (repeat' (first | (with_reducible first | exact Below.refl _ _ | assumption | refine below_ext _ ?_ ?_ | refine Below.alloc ?_ ?_ _ | refine Below.drew ?_ | refine below_drewN ?_ _ | refine le_drewN _ ?_ | refine Below.setCell ?_ ?_ _ | exact Nat.le_refl _ | refine le_ext _ ?_ | refine le_alloc _ ?_ | refine le_setCell _ _ ?_ | refine le_drew ?_) | omega | (simp; done) | (simp; omega))))⟩
  case round =>
    obtain ⟨j, hj, rfl, hcm, hbel⟩ := hrel
    have hsz := hbel.size
    have CM := hide hcm
    clear hcm
    by_cases hlt : j < m
    · obtain ⟨b, o, rfl, hbl, hcs⟩ := HS.out (by rw [HM.out]; omega)
      obtain ⟨x0, y0, z0⟩ := hcs j (by rw [HM.out]; omega)
      have g1 := (hbel.cell (p := ⟨b, o + j * 3, none⟩) hbl).trans x0
      have g2 := (hbel.cell (p := ⟨b, o + j * 3 + 1, none⟩) hbl).trans y0
      have g3 := (hbel.cell (p := ⟨b, o + j * 3 + 2, none⟩) hbl).trans z0
      obtain ⟨t1, t2, t3, t4⟩ := HT.out j hlt
      have C0 : Hid (CMap wr w.heap.size (cS ts j 0)) := hide (CM.out.congr fun i k => (cS_zero ts j i k).symm)
      have C3 : Hid (∀ W, CMap W w.heap.size (cS ts j 3) → CMap W w.heap.size (fun i k => (cT ts (j + 1) i k : Int))) := hide (fun W h => h.congr fun i k => cS_three (by rw [HM.out]; omega) t4 i k)
      have SX := hide (fun s i k => cS_succ ts j s i k)
      have SB : Hid (∀ s i k, s ≤ 3 → 0 ≤ cS ts j s i k ∧ cS ts j s i k ≤ 2000) := hide (fun s i k hs => by
        unfold cS
        have h1 := CL.out j i k
        have h2 : (List.range s).countP (fun q => sd3 (gt ts j) q i k) ≤ s := by
          have := List.countP_le_length (p := fun q => sd3 (gt ts j) q i k) (l := List.range s)
          rwa [List.length_range] at this
        omega)
      have GI : Hid (∀ q, q < 3 → 0 ≤ gi (l3 (gt ts j)) q ∧ gi (l3 (gt ts j)) q ≤ 1000) := hide (fun q hq => by
        match q, hq with
        | 0, _ => exact t1
        | 1, _ => exact t2
        | 2, _ => exact t3)
      have LL : Hid (gi (l3 (gt ts j)) 0 = (gt ts j).a ∧ gi (l3 (gt ts j)) 1 = (gt ts j).b ∧ gi (l3 (gt ts j)) 2 = (gt ts j).c) := hide ⟨rfl, rfl, rfl⟩
      have SD : Hid (∀ q i k, sd3 (gt ts j) q i k = (gi (l3 (gt ts j)) q == i && gi (l3 (gt ts j)) ((q + 1) % 3) == k)) := hide (fun _ _ _ => rfl)
      have CR := hide (fun W => corners_any (gt ts j).a (gt ts j).b (gt ts j).c W)
      have q1 : (0 : Int) ≤ (j : Int) := by omega
      have q2 : (j : Int) < (m : Int) := by omega
      have lB := CM.out.lt
      clear hcs x0 y0 z0 t1 t2 t3 t4 CM
      generalize hl : l3 (gt ts j) = L at *
      clear hl
      go_wp2_with fail
      refine (CR.out _).mono ?_
      rintro e w' ⟨rfl, hw'⟩; have hzy1 := ext_sz hw'; obtain ⟨y1, rfl⟩ := hw'; (try simp at hzy1)
      have BV : Hid (Below wr.heap.size wr (ext (wr.alloc (.cells #[.int .i64 (gt ts j).a, .int .i64 (gt ts j).b, .int .i64 (gt ts j).c] 37)) y1)) := hide (by (repeat' (first | (with_reducible first | exact Below.refl _ _ | assumption | refine below_ext _ ?_ ?_ | refine Below.alloc ?_ ?_ _ | refine Below.drew ?_ | refine below_drewN ?_ _ | refine le_drewN _ ?_ | refine Below.setCell ?_ ?_ _ | exact Nat.le_refl _ | refine le_ext _ ?_ | refine le_alloc _ ?_ | refine le_setCell _ _ ?_ | refine le_drew ?_) | omega | (simp; done) | (simp; omega))))
      generalize ext (wr.alloc (.cells #[.int .i64 (gt ts j).a, .int .i64 (gt ts j).b, .int .i64 (gt ts j).c] 37)) y1 = V at *
      have sV := BV.out.size
      have CV := hide (C0.out.block (BV.out.block _ lB))
      go_wp2_with fail
      go_loopw [7, 17] (fun _ u17 W => ∃ s : Nat, s ≤ 3 ∧ u17 = .int .i64 s ∧ CMap W w.heap.size (cS ts j s) ∧ Hid (∀ q, q < 3 → W.cell? ⟨V.heap.size, q, none⟩ = some (.int .i64 (gi L q))) ∧ V.heap.size < W.heap.size ∧ Below w.heap.size w W) (fun _ u17 _ => 3 - (intOf u17).toNat)
      case atStart =>
        refine ⟨0, by omega, rfl, CV.out.block (Below.heap_alloc V _ _ (Nat.lt_of_lt_of_le lB sV)), hide (fun q hq => ?_), by simp, hbel.trans (Below.mono (BV.out.trans (show Below wr.heap.size V _ from (by (repeat' (first | (with_reducible first | exact Below.refl _ _ | assumption | refine below_ext _ ?_ ?_ | refine Below.alloc ?_ ?_ _ | refine Below.drew ?_ | refine below_drewN ?_ _ | refine le_drewN _ ?_ | refine Below.setCell ?_ ?_ _ | exact Nat.le_refl _ | refine le_ext _ ?_ | refine le_alloc _ ?_ | refine le_setCell _ _ ?_ | refine le_drew ?_) | omega | (simp; done) | (simp; omega)))))) hsz)⟩
        rw [heap_cell (heap_alloc_new V _)]
        obtain ⟨e1, e2, e3⟩ := LL.out
        match q, hq with
        | 0, _ => rw [e1]; rfl
        | 1, _ => rw [e2]; rfl
        | 2, _ => rw [e3]; rfl
      case round =>
        obtain ⟨s, hs3, rfl, cms, CEL, hVW, hbel2⟩ := hrel
        obtain ⟨W, hW⟩ : ∃ W, W = wr := ⟨_, rfl⟩
        subst hW
        have hsz2 := hbel2.size
        by_cases hslt : s < 3
        · obtain ⟨r, hr⟩ : ∃ r, r = (s + 1) % 3 := ⟨_, rfl⟩
          have hrl : r < 3 := by rw [hr]; exact Nat.mod_lt _ (by omega)
          have k1 := CEL.out s hslt
          have k2 := CEL.out r hrl
          have b1 := GI.out s hslt
          have b2 := GI.out r hrl
          have UPD : Hid (∀ i k, upd2 (cS ts j s) (gi L s) (gi L r) (cS ts j s (gi L s) (gi L r) + 1) i k = cS ts j (s + 1) i k) := hide (fun i k => by
            rw [SX.out, SD.out, ← hr]
            unfold upd2
            by_cases h : i = gi L s ∧ k = gi L r
            · rw [if_pos h, if_pos (by rw [h.1, h.2]; simp), h.1, h.2]
            · rw [if_neg h, if_neg (fun hh => h (by simp only [Bool.and_eq_true, beq_iff_eq] at hh; exact ⟨hh.1.symm, hh.2.symm⟩))]; omega)
          have e2 : Int.tmod ((s : Int) + 1) 3 = (r : Int) := by rw [hr]; exact (Int.ofNat_tmod (s + 1) 3).symm
          have sb := SB.out s (gi L s) (gi L r) hs3
          have wX := wfI_of (x := gi L s) (by omega)
          have wY := wfI_of (x := gi L r) (by omega)
          have cmd : CMap W.drew w.heap.size (cS ts j s) := cms.block rfl
          have FN0 := cmd.find wX wY
          obtain ⟨st, w1, M1, cm1, but1, M2⟩ := cmd.put wX wY
          have WC : IntKind.i64.wrap (cS ts j s (gi L s) (gi L r) + 1) = cS ts j s (gi L s) (gi L r) + 1 := IntWalk.i64_in _ (by omega)
          obtain ⟨w2, M3, cm2, but2⟩ := M2 (IntKind.i64.wrap (cS ts j s (gi L s) (gi L r) + 1))
          rw [WC] at cm2
          clear WC
          have FN1 := cm1.find wX wY
          have CM2 := hide (cm2.congr UPD.out)
          have BU := hide but2
          have q3 : (0 : Int) ≤ (s : Int) := by omega
          have q4 : (s : Int) < 3 := by omega
          have q5 : (0 : Int) ≤ (r : Int) := by omega
          have q6 : (r : Int) < 3 := by omega
          have w1' : IntKind.i64.wrap ((s : Int) + 1) = (s : Int) + 1 := IntWalk.i64_in _ (by omega)
          have w3 : IntKind.i64.wrap (r : Int) = (r : Int) := IntWalk.i64_in _ (by omega)
          unfold kPair at FN0 FN1 M1
          have NE : Hid (w.heap.size ≠ V.heap.size) := hide (by omega)
          have SC0 := hide (And.intro (show W.drew.cell? ⟨V.heap.size, s, none⟩ = _ from k1) (And.intro (show W.drew.cell? ⟨V.heap.size, r, none⟩ = _ from k2) FN0))
          have SC1 := hide (And.intro ((World.cell?_of_block (but1.block _ NE.out.symm)).trans SC0.out.1) (And.intro ((World.cell?_of_block (but1.block _ NE.out.symm)).trans SC0.out.2.1) FN1))
          clear hr UPD cms M2 cm2 but2 cm1 but1 cmd FN0 FN1 wX wY
          generalize cS ts j s (gi L s) (gi L r) = cc at *
          generalize gi L s = X at *
          generalize gi L r = Y at *
          go_wp2_with fail
          obtain ⟨r1, r2, r3⟩ := SC0.out
          obtain ⟨r4, r5, r6⟩ := SC1.out
          go_region
          all_goals
            first | go_wp2_with fail | skip
            refine ⟨⟨s + 1, by omega, by go_num, CM2.out, hide (fun q hq => ?_), ?_, ?_⟩, by simp [intOf]; omega⟩
            · exact (World.cell?_of_block (BU.out.block _ NE.out.symm)).trans (CEL.out q hq)
            · rw [BU.out.size]; exact hVW
            · exact hbel2.trans ((show Below w.heap.size W W.drew from ⟨rfl, rfl, rfl, Nat.le_refl _, fun _ _ => rfl⟩).trans (BU.out.below (Nat.le_refl _)))
        · have es : s = 3 := by omega
          subst es
          have C4 := hide (C3.out _ cms)
          clear cms
          go_wp2_with fail
          exact ⟨⟨j + 1, by omega, by go_num, C4.out, hbel2⟩, by simp [intOf]; omega⟩
    · have ej : j = m := by omega
      have C4 : Hid (CMap wr w.heap.size (fun i k => (cT ts m i k : Int))) := hide (by have := CM.out; rw [ej] at this; exact this)
      clear ej
      go_wp2_with fail
      go_ret
      exact ⟨_, rfl, C4.out, ext_mk hbel⟩
set_option maxRecDepth 20000 in
set_option maxHeartbeats 4000000 in
theorem iCheckT_any (ps : List Pt) (ts : List TI) (A Z : Option Addr) (n c m d : Nat) (w : World) (hn : ps.length = n) (hm : n ≤ 2000000) (hA : Plain A n) (ht : ts.length = m) (hm2 : m ≤ 2000000) (hs : PtsAt w w.heap.size A ps) (hz : TrisAt w w.heap.size Z ts) :
    Calls Tryz.prog 55 #[.slice A n c, .slice Z m d] w fun e w' => e = .returned (.bool (chkT ps ts)) ∧ ∃ x, w' = ext w x := by
  have HC := hide (clippable_any ps A n c w hn hm hA hs)
  by_cases hok : clipB ps = true
  · by_cases hlen : m + 2 = n
    · rw [hok] at HC
      have hsim := clipB_sim hok
      obtain ⟨hib, h3, h20, _, hnd⟩ := simB_parts hsim
      have CT := hide (fun (W : World) (hb : Below w.heap.size w W) => counter_any ps A n c W hn (by omega) (by omega) hib (hs.to hb))
      have DA := hide (fun (W : World) (hb : Below w.heap.size w W) => area_any ps A n c W hn (by omega) hib (hs.to hb))
      have TT := hide (fun (a b' c' : Nat) (la : a < n) (lb : b' < n) (lc : c' < n) (W : World) (hb : Below w.heap.size w W) => triTurn_any ps a b' c' A n c W hn la lb lc (by omega) hib (hs.to hb))
      have RL : Hid ((zI (rgN ps)).length = n) := hide (by rw [zI_len, rgN_len, hn])
      have NO3 : Hid (∀ j, j < m → tOk ps (gt ts j) = false → chkT ps ts = false) := hide (fun j hj h => chk_no fun hh => by have := hh.2.1 _ (gt_mem (show j < ts.length by omega)); rw [h] at this; cases this)
      have NO4 : Hid (sumA ps ts m ≠ absA ps → chkT ps ts = false) := hide (fun h => chk_no fun hh => h (by
        unfold sumA; rw [List.take_of_length_le (by omega)]; exact hh.2.2.1))
      have NO5 : Hid ((∀ j, j < m → tOk ps (gt ts j) = true) → ∀ x y, x < n → y < n → pairOk (rgN ps) (ts.map toN) (gn (rgN ps) x) (gn (rgN ps) y) = false → chkT ps ts = false) := hide (fun _ x y hx hy h => chk_no fun hh => by
        have := partsB_iff.1 hh.2.2.2 (gn (rgN ps) x) (gn (rgN ps) y) (rgN_lt (gn_mem (by rw [rgN_len]; omega))) (rgN_lt (gn_mem (by rw [rgN_len]; omega)))
        rw [h] at this; cases this)
      have YES : Hid ((∀ j, j < m → tOk ps (gt ts j) = true) → sumA ps ts m = absA ps → (∀ x y, x < n → y < n → pairOk (rgN ps) (ts.map toN) (gn (rgN ps) x) (gn (rgN ps) y) = true) → chkT ps ts = true) := hide (fun h3 h4 h5 => by
        have h3' : ∀ t ∈ ts, tOk ps t = true := fun t hht => by
          obtain ⟨j, hj, rfl⟩ := gt_of_mem hht
          exact h3 j (by omega)
        have hp : partsB ps.length (rgN ps) (ts.map toN) = true := (partsB_ring (fun i => ⟨fun hi => by
          have := gn_mem (rs := rgN ps) (k := rgI ps i) (by rw [rgN_len]; exact rgI_lt hi)
          rw [rgN_at (rgI_lt hi), rgI_inv hi] at this
          exact this, fun hi => rgN_lt hi⟩) (rgN_len ps)).2 (fun i k hi hk => h5 i k (by omega) (by omega))
        rw [chk_yes hok (by omega) h3' hp]
        refine decide_eq_true ?_
        unfold sumA at h4; rw [List.take_of_length_le (by omega)] at h4; exact h4)
      have CTA : Hid ((∀ j, j < m → tOk ps (gt ts j) = true) → ∀ i k : Nat, cT ts m i k = cntS (ts.map toN) i k) := hide (fun h3 i k => by
        rw [← ht]
        refine cT_all (n := ps.length) (fun t hht => ?_) i k
        obtain ⟨j, hj, rfl⟩ := gt_of_mem hht
        have := h3 j (by omega)
        unfold tOk at this
        rw [Bool.and_eq_true] at this
        exact this.1)
      have PP : Hid ((∀ j, j < m → tOk ps (gt ts j) = true) → ∀ i k : Nat, i < n → k < n → pairOk (rgN ps) (ts.map toN) (gn (rgN ps) i) (gn (rgN ps) k) = (if (k + n - i) % n = 0 ∨ (k + n - i) % n = n - 1 then true else if (k + n - i) % n = 1 then decide (cntS (ts.map toN) (gn (rgN ps) i) (gn (rgN ps) k) = 1) && decide (cntS (ts.map toN) (gn (rgN ps) k) (gn (rgN ps) i) = 0) else decide (cntS (ts.map toN) (gn (rgN ps) i) (gn (rgN ps) k) ≤ 1) && decide (cntS (ts.map toN) (gn (rgN ps) i) (gn (rgN ps) k) = cntS (ts.map toN) (gn (rgN ps) k) (gn (rgN ps) i)))) := hide (fun h3 i k hi hk => pair_pos (rgN_nodup ps) (by rw [rgN_len, hn]) (by omega) (fun t hht => by
        obtain ⟨s, hs, rfl⟩ := List.mem_map.1 hht
        obtain ⟨j, hj, rfl⟩ := gt_of_mem hs
        have := (tOk_at (h3 j (by omega))).1
        rw [hn] at this; exact this) hi hk)
      have TRI : Hid ((∀ j, j < m → tOk ps (gt ts j) = true) → ∀ t ∈ ts, (0 ≤ t.a ∧ t.a ≤ 1000) ∧ (0 ≤ t.b ∧ t.b ≤ 1000) ∧ (0 ≤ t.c ∧ t.c ≤ 1000) ∧ t.a ≠ t.b ∧ t.b ≠ t.c ∧ t.a ≠ t.c) := hide (fun h3 t hht => by
        obtain ⟨j, hj, rfl⟩ := gt_of_mem hht
        have h := h3 j (by omega)
        have h' := h
        unfold tOk at h
        rw [Bool.and_eq_true] at h
        obtain ⟨a, b, c, e, la, lb, lc⟩ := tIn_iff.1 h.1
        obtain ⟨_, _, _, d1, d2, d3⟩ := (tOk_at h').1
        rw [e] at d1 d2 d3 ⊢
        simp only [toN, Int.toNat_natCast] at d1 d2 d3
        simp only
        omega)
      have SD := hide (fun (h3 : ∀ t ∈ ts, (0 ≤ t.a ∧ t.a ≤ 1000) ∧ (0 ≤ t.b ∧ t.b ≤ 1000) ∧ (0 ≤ t.c ∧ t.c ≤ 1000) ∧ t.a ≠ t.b ∧ t.b ≠ t.c ∧ t.a ≠ t.c) (W : World) (hb : Below w.heap.size w W) => sidesOf_any ts Z m d W ht (by omega) h3 (hz.to hb))
      have SUM := hide (fun j (hj : j < m) => sumA_succ ps (ts := ts) (j := j) (by omega))
      have TOK : Hid (∀ j, j < m → tOk ps (gt ts j) = (tIn n (gt ts j) && decide (0 < trnT ps (toN (gt ts j))))) := hide (fun j hj => by unfold tOk; rw [hn])
      have TB : Hid (∀ a b c, a < n → b < n → c < n → -80000000000 ≤ trn (gp ps a) (gp ps b) (gp ps c) ∧ trn (gp ps a) (gp ps b) (gp ps c) ≤ 80000000000) := hide (fun a b c h1 h2 h3 => trn_b5 hib (by omega) (by omega) (by omega))
      have RNL : Hid (∀ i, i < n → gn (rgN ps) i < n) := hide (fun i hi => by rw [← hn]; exact rgN_lt (gn_mem (by rw [rgN_len]; omega)))
      have CBD : Hid (∀ i k : Nat, cntS (ts.map toN) i k ≤ m) := hide (fun i k => Nat.le_trans (List.countP_le_length ..) (by rw [List.length_map]; omega))
      have ABS := hide (absA_abs ps)
      have RGE : Hid (zI (rgN ps) = rgL ps) := hide (zI_rgN ps)
      have AB := areaTo_bd hib n (by omega)
      have AE : areaTo ps n = areaL ps := by unfold areaL; rw [hn]
      rw [AE] at AB
      have abl : -400000000000 ≤ areaL ps ∧ areaL ps ≤ 400000000000 := by omega
      have HZ := hide hz
      have HT := hide ht
      have k20 : n ≤ 20 := by omega
      have k3 : 3 ≤ n := by omega
      have D1 : ((m : Int) != (n : Int) - 2) = false := by simp; omega
      clear hok hn hs hib h3 h20 hnd hsim AB AE hz ht
      go_enter Tryz.func55, Tryz.ntmps55
      go_wp2_with fail
      refine HC.out.mono ?_
      rintro e w' ⟨rfl, hw'⟩; have hzy1 := ext_sz hw'; obtain ⟨y1, rfl⟩ := hw'; (try simp at hzy1)
      have B1 := ext_below w y1
      generalize hW1 : ext w y1 = W1 at *
      clear hW1
      go_wp2_with fail
      go_loopw [5, 7, 30] (fun u5 _ u30 wr => ∃ j : Nat, j ≤ m ∧ u30 = .int .i64 j ∧ u5 = .int .i64 (sumA ps ts j) ∧ -(j * 80000000000 : Int) ≤ sumA ps ts j ∧ sumA ps ts j ≤ j * 80000000000 ∧ Hid (∀ i, i < j → tOk ps (gt ts i) = true) ∧ Below w.heap.size w wr) (fun _ _ u30 _ => m - (intOf u30).toNat)
      case atStart => exact ⟨0, Nat.zero_le _, rfl, rfl, by simp [sumA, areaT], by simp [sumA, areaT], hide (fun i hi => by omega), B1⟩
      case round =>
        obtain ⟨j, hj, rfl, rfl, sb1, sb2, HP, hbel⟩ := hrel
        have hsz := hbel.size
        by_cases hlt : j < m
        · obtain ⟨b, o, rfl, hbl, hcs⟩ := HZ.out (by rw [HT.out]; omega)
          obtain ⟨x0, y0, z0⟩ := hcs j (by rw [HT.out]; omega)
          have g1 := (hbel.cell (p := ⟨b, o + j * 3, none⟩) hbl).trans x0
          have g2 := (hbel.cell (p := ⟨b, o + j * 3 + 1, none⟩) hbl).trans y0
          have g3 := (hbel.cell (p := ⟨b, o + j * 3 + 2, none⟩) hbl).trans z0
          have q1 : (0 : Int) ≤ (j : Int) := by omega
          have q2 : (j : Int) < (m : Int) := by omega
          have N3 := hide (NO3.out j hlt)
          have TK := hide (TOK.out j hlt)
          have SM := hide (SUM.out j hlt)
          have II := hide (fun W => inIndex_any (gt ts j) n W (by omega))
          clear hcs x0 y0 z0
          by_cases hin : tIn n (gt ts j) = true
          · obtain ⟨a, b', c', et, la, lb, lc⟩ := tIn_iff.1 hin
            have eN : toN (gt ts j) = ⟨a, b', c'⟩ := by rw [et]; simp [toN]
            have TK2 : Hid (tOk ps (gt ts j) = decide (0 < trn (gp ps a) (gp ps b') (gp ps c'))) := hide (by rw [TK.out, hin, eN]; rfl)
            have SM2 : Hid (sumA ps ts (j + 1) = sumA ps ts j + trn (gp ps a) (gp ps b') (gp ps c')) := hide (by rw [SM.out, eN]; rfl)
            rw [hin, et] at II
            rw [et] at g1 g2 g3
            have tb := TB.out a b' c' la lb lc
            have TTj := hide (TT.out a b' c' la lb lc)
            clear eN et hin TK SM
            generalize trn (gp ps a) (gp ps b') (gp ps c') = U at *
            by_cases hU : U ≤ 0
            · have dU : decide (U ≤ 0) = true := decide_eq_true hU
              have HV := hide (N3.out (by rw [TK2.out]; exact decide_eq_false (by omega)))
              clear hU TK2 SM2 N3
              go_wp2_with fail
              refine (II.out _).mono ?_
              rintro e w' ⟨rfl, hw'⟩; have hzz1 := ext_sz hw'; obtain ⟨z1, rfl⟩ := hw'; (try simp at hzz1)
              go_wp2_with fail
              refine (TTj.out _ (hbel.trans (by (repeat' (first | (with_reducible first | exact Below.refl _ _ | assumption | refine below_ext _ ?_ ?_ | refine Below.alloc ?_ ?_ _ | refine Below.drew ?_ | refine below_drewN ?_ _ | refine le_drewN _ ?_ | refine Below.setCell ?_ ?_ _ | exact Nat.le_refl _ | refine le_ext _ ?_ | refine le_alloc _ ?_ | refine le_setCell _ _ ?_ | refine le_drew ?_) | omega | (simp; done) | (simp; omega)))))).mono ?_
              rintro e w' ⟨rfl, hw'⟩; have hzz2 := ext_sz hw'; obtain ⟨z2, rfl⟩ := hw'; (try simp at hzz2)
              go_wp2_with fail
              go_ret
              exact ⟨ret_bool HV.out.symm, ext_mk (hbel.trans (by (repeat' (first | (with_reducible first | exact Below.refl _ _ | assumption | refine below_ext _ ?_ ?_ | refine Below.alloc ?_ ?_ _ | refine Below.drew ?_ | refine below_drewN ?_ _ | refine le_drewN _ ?_ | refine Below.setCell ?_ ?_ _ | exact Nat.le_refl _ | refine le_ext _ ?_ | refine le_alloc _ ?_ | refine le_setCell _ _ ?_ | refine le_drew ?_) | omega | (simp; done) | (simp; omega)))))⟩
            · have dU : decide (U ≤ 0) = false := decide_eq_false hU
              have TKY : Hid (tOk ps (gt ts j) = true) := hide (by rw [TK2.out]; exact decide_eq_true (by omega))
              clear hU TK2 N3
              go_wp2_with fail
              refine (II.out _).mono ?_
              rintro e w' ⟨rfl, hw'⟩; have hzz1 := ext_sz hw'; obtain ⟨z1, rfl⟩ := hw'; (try simp at hzz1)
              go_wp2_with fail
              refine (TTj.out _ (hbel.trans (by (repeat' (first | (with_reducible first | exact Below.refl _ _ | assumption | refine below_ext _ ?_ ?_ | refine Below.alloc ?_ ?_ _ | refine Below.drew ?_ | refine below_drewN ?_ _ | refine le_drewN _ ?_ | refine Below.setCell ?_ ?_ _ | exact Nat.le_refl _ | refine le_ext _ ?_ | refine le_alloc _ ?_ | refine le_setCell _ _ ?_ | refine le_drew ?_) | omega | (simp; done) | (simp; omega)))))).mono ?_
              rintro e w' ⟨rfl, hw'⟩; have hzz2 := ext_sz hw'; obtain ⟨z2, rfl⟩ := hw'; (try simp at hzz2)
              go_wp2_with fail
              refine (TTj.out _ (hbel.trans (by (repeat' (first | (with_reducible first | exact Below.refl _ _ | assumption | refine below_ext _ ?_ ?_ | refine Below.alloc ?_ ?_ _ | refine Below.drew ?_ | refine below_drewN ?_ _ | refine le_drewN _ ?_ | refine Below.setCell ?_ ?_ _ | exact Nat.le_refl _ | refine le_ext _ ?_ | refine le_alloc _ ?_ | refine le_setCell _ _ ?_ | refine le_drew ?_) | omega | (simp; done) | (simp; omega)))))).mono ?_
              rintro e w' ⟨rfl, hw'⟩; have hzz3 := ext_sz hw'; obtain ⟨z3, rfl⟩ := hw'; (try simp at hzz3)
              go_wp2_with fail
              exact ⟨⟨j + 1, by omega, by go_num, by rw [SM2.out], by rw [SM2.out]; push_cast; omega, by rw [SM2.out]; push_cast; omega, hide (fun i hi => by
                by_cases e : i = j
                · rw [e]; exact TKY.out
                · exact HP.out i (by omega)), hbel.trans (by (repeat' (first | (with_reducible first | exact Below.refl _ _ | assumption | refine below_ext _ ?_ ?_ | refine Below.alloc ?_ ?_ _ | refine Below.drew ?_ | refine below_drewN ?_ _ | refine le_drewN _ ?_ | refine Below.setCell ?_ ?_ _ | exact Nat.le_refl _ | refine le_ext _ ?_ | refine le_alloc _ ?_ | refine le_setCell _ _ ?_ | refine le_drew ?_) | omega | (simp; done) | (simp; omega))))⟩, by simp [intOf]; omega⟩
          · have hin := eq_false_of_ne_true hin
            have HV := hide (N3.out (by rw [TK.out, hin]; rfl))
            rw [hin] at II
            clear hin TK SM N3
            go_wp2_with fail
            refine (II.out _).mono ?_
            rintro e w' ⟨rfl, hw'⟩; have hzz1 := ext_sz hw'; obtain ⟨z1, rfl⟩ := hw'; (try simp at hzz1)
            go_wp2_with fail
            go_ret
            exact ⟨ret_bool HV.out.symm, ext_mk (hbel.trans (by (repeat' (first | (with_reducible first | exact Below.refl _ _ | assumption | refine below_ext _ ?_ ?_ | refine Below.alloc ?_ ?_ _ | refine Below.drew ?_ | refine below_drewN ?_ _ | refine le_drewN _ ?_ | refine Below.setCell ?_ ?_ _ | exact Nat.le_refl _ | refine le_ext _ ?_ | refine le_alloc _ ?_ | refine le_setCell _ _ ?_ | refine le_drew ?_) | omega | (simp; done) | (simp; omega)))))⟩
        · have ej : j = m := by omega
          have HALL : Hid (∀ i, i < m → tOk ps (gt ts i) = true) := hide (fun i hi => HP.out i (by omega))
          have CNT := hide (CTA.out HALL.out)
          have Y2 := hide (YES.out HALL.out)
          have N5 := hide (NO5.out HALL.out)
          have PO := hide (PP.out HALL.out)
          have SDW := hide (SD.out (TRI.out HALL.out))
          have SE : Hid (sumA ps ts j = sumA ps ts m) := hide (by rw [ej])
          rw [SE.out]
          have sbm : -(m * 80000000000 : Int) ≤ sumA ps ts m ∧ sumA ps ts m ≤ m * 80000000000 := by rw [← SE.out]; rw [ej] at sb1 sb2 ⊢; exact ⟨sb1, sb2⟩
          clear ej SUM TOK TB HZ HT CTA YES NO3 NO5 HP sb1 sb2 SE HALL PP SD TRI TT
          go_wp2_with fail
          refine (DA.out _ (hbel.trans (by (repeat' (first | (with_reducible first | exact Below.refl _ _ | assumption | refine below_ext _ ?_ ?_ | refine Below.alloc ?_ ?_ _ | refine Below.drew ?_ | refine below_drewN ?_ _ | refine le_drewN _ ?_ | refine Below.setCell ?_ ?_ _ | exact Nat.le_refl _ | refine le_ext _ ?_ | refine le_alloc _ ?_ | refine le_setCell _ _ ?_ | refine le_drew ?_) | omega | (simp; done) | (simp; omega)))))).mono ?_
          rintro e w' ⟨rfl, hw'⟩; have hzz1 := ext_sz hw'; obtain ⟨z1, rfl⟩ := hw'; (try simp at hzz1)
          go_wp2_with fail
          refine (iabs_any _ _ (by omega)).mono ?_
          rintro e w' ⟨rfl, rfl⟩
          rw [ABS.out]
          by_cases hsum : sumA ps ts m = absA ps
          · have d5 : (sumA ps ts m != absA ps) = false := by rw [hsum]; simp
            have Y3 := hide (Y2.out hsum)
            clear hsum Y2 NO4
            generalize sumA ps ts m = SS at *
            generalize absA ps = AA at *
            generalize ts.map toN = T at *
            generalize rgN ps = rs at *
            go_wp2_with fail
            refine (SDW.out _ (hbel.trans (by (repeat' (first | (with_reducible first | exact Below.refl _ _ | assumption | refine below_ext _ ?_ ?_ | refine Below.alloc ?_ ?_ _ | refine Below.drew ?_ | refine below_drewN ?_ _ | refine le_drewN _ ?_ | refine Below.setCell ?_ ?_ _ | exact Nat.le_refl _ | refine le_ext _ ?_ | refine le_alloc _ ?_ | refine le_setCell _ _ ?_ | refine le_drew ?_) | omega | (simp; done) | (simp; omega)))))).mono ?_
            rintro e w2 ⟨BM, rfl, cm2, hx2⟩
            have B2 := ext_bel hx2
            have CM2 := hide cm2
            have BB2 := hide (hbel.trans (Below.mono ((show Below wr.heap.size wr (ext wr z1) from (by (repeat' (first | (with_reducible first | exact Below.refl _ _ | assumption | refine below_ext _ ?_ ?_ | refine Below.alloc ?_ ?_ _ | refine Below.drew ?_ | refine below_drewN ?_ _ | refine le_drewN _ ?_ | refine Below.setCell ?_ ?_ _ | exact Nat.le_refl _ | refine le_ext _ ?_ | refine le_alloc _ ?_ | refine le_setCell _ _ ?_ | refine le_drew ?_) | omega | (simp; done) | (simp; omega))))).trans (B2.mono (le_ext _ (Nat.le_refl _)))) hsz))
            have s2 := BB2.out.size
            clear cm2 hx2 B2 SDW
            go_wp2_with fail
            refine (CT.out _ BB2.out).mono ?_
            rintro e w3 ⟨v3, rfl, own3, hx3⟩
            obtain ⟨A3, n3, c3, rfl⟩ := own_slice own3
            rw [← RGE.out] at own3
            obtain ⟨l3', q3, q3b, I3⟩ := own3.ints
            have B3 := ext_bel hx3
            have e3 : n3 = n := by rw [← l3']; exact RL.out
            subst e3
            have I3h := hide I3
            have lBM := CM2.out.lt
            have CM3 := hide (CM2.out.block (B3.block _ lBM))
            have BB3 := hide (BB2.out.trans (B3.mono s2))
            have s3 := BB3.out.size
            have lBM3 := CM3.out.lt
            have FND : Hid (∀ i k, i < n3 → k < n3 → ∀ W, Below w3.heap.size w3 W → (Instr.lookup 102 (.map (some BM)) (.agg #[.int .i64 (gn rs i), .int .i64 (gn rs k)]) false).run Tryz.prog W = .ok (.int .i64 (cntS T (gn rs i) (gn rs k) : Int)) W) := hide (fun i k hi hk W hb => by
              have h1 := RNL.out i hi
              have h2 := RNL.out k hk
              have := (CM3.out.block (hb.block _ lBM3)).find (wfI_of (x := (gn rs i : Int)) (by omega)) (wfI_of (x := (gn rs k : Int)) (by omega))
              simp only [CNT.out] at this
              exact this)
            obtain ⟨b3, o3, rfl, hb3, hc3⟩ := I3h.out (by rw [RL.out]; omega)
            have RC : Hid (∀ i, i < n3 → w3.cell? ⟨b3, o3 + i, none⟩ = some (.int .i64 (gn rs i))) := hide (fun i hi => by rw [← gi_zI]; exact hc3 i (by rw [RL.out]; omega))
            unfold maxLen at q3b
            clear own3 hx3 B3 I3 l3' RGE hc3 CM2 CM3 CNT I3h
            go_wp2_with fail
            go_loopw [11, 12, 13, 14, 15, 16, 64, 71] (fun _ _ _ _ _ _ u64 _ W => ∃ x : Nat, x ≤ n3 ∧ u64 = .int .i64 x ∧ Hid (∀ i k, i < x → k < n3 → pairOk rs T (gn rs i) (gn rs k) = true) ∧ Below w3.heap.size w3 W) (fun _ _ _ _ _ _ u64 _ _ => n3 - (intOf u64).toNat)
            case atStart => exact ⟨0, Nat.zero_le _, rfl, hide (fun i k hi hk => by omega), Below.refl _ _⟩
            case round =>
              obtain ⟨x, hx, rfl, HP, hbel2⟩ := hrel
              have hsz2 := hbel2.size
              by_cases hxl : x < n3
              · have a1 := (hbel2.cell (p := ⟨b3, o3 + x, none⟩) hb3).trans (RC.out x hxl)
                have q5 : (0 : Int) ≤ (x : Int) := by omega
                have q6 : (x : Int) < (n3 : Int) := by omega
                go_wp2_with fail
                go_loopw [13, 14, 15, 16, 71] (fun _ _ _ _ u71 W => ∃ y : Nat, y ≤ n3 ∧ u71 = .int .i64 y ∧ Hid (∀ k, k < y → pairOk rs T (gn rs x) (gn rs k) = true) ∧ Below w3.heap.size w3 W) (fun _ _ _ _ u71 _ => n3 - (intOf u71).toNat)
                case atStart => exact ⟨0, Nat.zero_le _, rfl, hide (fun k hk => by omega), hbel2⟩
                case round =>
                  obtain ⟨y, hy, rfl, HQ, hbel3⟩ := hrel
                  have hsz3 := hbel3.size
                  by_cases hyl : y < n3
                  · have a2 := (hbel3.cell (p := ⟨b3, o3 + y, none⟩) hb3).trans (RC.out y hyl)
                    have L1 := fun q => FND.out x y hxl hyl (ext wr q) (below_ext q hbel3 hsz3)
                    have L2 := fun q => FND.out y x hyl hxl (ext wr q) (below_ext q hbel3 hsz3)
                    have N5y := hide (N5.out x y hxl hyl)
                    have POy := hide (PO.out x y hxl hyl)
                    have NX : Hid (pairOk rs T (gn rs x) (gn rs y) = true → ∀ k, k < y + 1 → pairOk rs T (gn rs x) (gn rs k) = true) := hide (fun h k hk => by
                      by_cases e : k = y
                      · rw [e]; exact h
                      · exact HQ.out k (by omega))
                    rw [POy.out] at N5y NX
                    obtain ⟨D, hD⟩ : ∃ D, D = (y + n3 - x) % n3 := ⟨_, rfl⟩
                    have hDl : D < n3 := by rw [hD]; exact Nat.mod_lt _ (by omega)
                    rw [← hD] at N5y NX
                    have e1 : Int.tmod ((y : Int) - (x : Int) + (n3 : Int)) (n3 : Int) = (D : Int) := by
                      rw [hD, show ((y : Int) - (x : Int) + (n3 : Int)) = ((y + n3 - x : Nat) : Int) by omega]
                      exact (Int.ofNat_tmod (y + n3 - x) n3).symm
                    have q7 : (0 : Int) ≤ (y : Int) := by omega
                    have q8 : (y : Int) < (n3 : Int) := by omega
                    have q9 : ¬ n3 = 0 := by omega
                    have u1 : IntKind.i64.wrap ((y : Int) - (x : Int)) = (y : Int) - (x : Int) := IntWalk.i64_in _ (by omega)
                    have u2 : IntKind.i64.wrap ((y : Int) - (x : Int) + (n3 : Int)) = (y : Int) - (x : Int) + (n3 : Int) := IntWalk.i64_in _ (by omega)
                    have u3 : IntKind.i64.wrap (D : Int) = (D : Int) := IntWalk.i64_in _ (by omega)
                    clear POy hD
                    generalize cntS T (gn rs x) (gn rs y) = P at *
                    generalize cntS T (gn rs y) (gn rs x) = Q at *
                    by_cases h0 : D = 0
                    · have d0 : ((D : Int) == 0) = true := by rw [h0]; rfl
                      have NY := hide (NX.out (by rw [if_pos (.inl h0)]))
                      clear N5y NX h0
                      go_wp2_with fail
                      refine wp_region_ext (by kernel_rfl) (by kernel_rfl) ?_
                      repeat (go_big_quiet_step (fail))
                      refine wpQuiet_nil ?_
                      rintro _ hnq
                      have hzq := ext_sz hnq
                      obtain ⟨nq, rfl⟩ := hnq
                      (try simp at hzq)
                      go_wp2_with fail
                      exact ⟨⟨y + 1, by omega, by go_num, NY, hbel3.trans (by (repeat' (first | (with_reducible first | exact Below.refl _ _ | assumption | refine below_ext _ ?_ ?_ | refine Below.alloc ?_ ?_ _ | refine Below.drew ?_ | refine below_drewN ?_ _ | refine le_drewN _ ?_ | refine Below.setCell ?_ ?_ _ | exact Nat.le_refl _ | refine le_ext _ ?_ | refine le_alloc _ ?_ | refine le_setCell _ _ ?_ | refine le_drew ?_) | omega | (simp; done) | (simp; omega))))⟩, by simp [intOf]; omega⟩
                    · have d0 : ((D : Int) == 0) = false := by rw [beq_eq_false_iff_ne]; omega
                      by_cases h1 : D = n3 - 1
                      · have d1 : ((D : Int) == (n3 : Int) - 1) = true := by rw [beq_iff_eq]; omega
                        have NY := hide (NX.out (by rw [if_pos (.inr h1)]))
                        clear N5y NX h0 h1
                        go_wp2_with fail
                        refine wp_region_ext (by kernel_rfl) (by kernel_rfl) ?_
                        repeat (go_big_quiet_step (fail))
                        refine wpQuiet_nil ?_
                        rintro _ hnq
                        have hzq := ext_sz hnq
                        obtain ⟨nq, rfl⟩ := hnq
                        (try simp at hzq)
                        go_wp2_with fail
                        exact ⟨⟨y + 1, by omega, by go_num, NY, hbel3.trans (by (repeat' (first | (with_reducible first | exact Below.refl _ _ | assumption | refine below_ext _ ?_ ?_ | refine Below.alloc ?_ ?_ _ | refine Below.drew ?_ | refine below_drewN ?_ _ | refine le_drewN _ ?_ | refine Below.setCell ?_ ?_ _ | exact Nat.le_refl _ | refine le_ext _ ?_ | refine le_alloc _ ?_ | refine le_setCell _ _ ?_ | refine le_drew ?_) | omega | (simp; done) | (simp; omega))))⟩, by simp [intOf]; omega⟩
                      · have d1 : ((D : Int) == (n3 : Int) - 1) = false := by rw [beq_eq_false_iff_ne]; omega
                        rw [if_neg (by omega)] at N5y NX
                        by_cases h2 : D = 1
                        · have d2 : ((D : Int) == 1) = true := by rw [h2]; rfl
                          rw [if_pos h2] at N5y NX
                          by_cases h3 : P = 1
                          · have d3 : ((P : Int) != 1) = false := by rw [h3]; rfl
                            by_cases h4 : Q = 0
                            · have d4 : ((Q : Int) != 0) = false := by rw [h4]; rfl
                              have NY := hide (NX.out (by rw [decide_eq_true h3, decide_eq_true h4]; rfl))
                              clear N5y NX h0 h1 h2 h3 h4
                              go_wp2_with fail
                              refine wp_region_ext (by kernel_rfl) (by kernel_rfl) ?_
                              repeat (go_big_quiet_step (fail))
                              refine wpQuiet_nil ?_
                              rintro _ hnq
                              have hzq := ext_sz hnq
                              obtain ⟨nq, rfl⟩ := hnq
                              (try simp at hzq)
                              go_wp2_with fail
                              exact ⟨⟨y + 1, by omega, by go_num, NY, hbel3.trans (by (repeat' (first | (with_reducible first | exact Below.refl _ _ | assumption | refine below_ext _ ?_ ?_ | refine Below.alloc ?_ ?_ _ | refine Below.drew ?_ | refine below_drewN ?_ _ | refine le_drewN _ ?_ | refine Below.setCell ?_ ?_ _ | exact Nat.le_refl _ | refine le_ext _ ?_ | refine le_alloc _ ?_ | refine le_setCell _ _ ?_ | refine le_drew ?_) | omega | (simp; done) | (simp; omega))))⟩, by simp [intOf]; omega⟩
                            · have d4 : ((Q : Int) != 0) = true := by simp; omega
                              have HV := hide (N5y.out (by rw [decide_eq_false h4, Bool.and_false]))
                              clear N5y NX h0 h1 h2 h3 h4
                              go_wp2_with fail
                              refine wp_region_ext (by kernel_rfl) (by kernel_rfl) ?_
                              repeat (go_big_quiet_step (fail))
                              refine wpQuiet_nil ?_
                              rintro _ hnq
                              have hzq := ext_sz hnq
                              obtain ⟨nq, rfl⟩ := hnq
                              (try simp at hzq)
                              go_wp2_with fail
                              go_ret
                              exact ⟨ret_bool HV.out.symm, ext_mk (BB3.out.trans (Below.mono (hbel3.trans (by (repeat' (first | (with_reducible first | exact Below.refl _ _ | assumption | refine below_ext _ ?_ ?_ | refine Below.alloc ?_ ?_ _ | refine Below.drew ?_ | refine below_drewN ?_ _ | refine le_drewN _ ?_ | refine Below.setCell ?_ ?_ _ | exact Nat.le_refl _ | refine le_ext _ ?_ | refine le_alloc _ ?_ | refine le_setCell _ _ ?_ | refine le_drew ?_) | omega | (simp; done) | (simp; omega))))) s3))⟩
                          · have d3 : ((P : Int) != 1) = true := by simp; omega
                            have HV := hide (N5y.out (by rw [decide_eq_false h3]; rfl))
                            clear N5y NX h0 h1 h2 h3
                            go_wp2_with fail
                            refine wp_region_ext (by kernel_rfl) (by kernel_rfl) ?_
                            repeat (go_big_quiet_step (fail))
                            refine wpQuiet_nil ?_
                            rintro _ hnq
                            have hzq := ext_sz hnq
                            obtain ⟨nq, rfl⟩ := hnq
                            (try simp at hzq)
                            go_wp2_with fail
                            go_ret
                            exact ⟨ret_bool HV.out.symm, ext_mk (BB3.out.trans (Below.mono (hbel3.trans (by (repeat' (first | (with_reducible first | exact Below.refl _ _ | assumption | refine below_ext _ ?_ ?_ | refine Below.alloc ?_ ?_ _ | refine Below.drew ?_ | refine below_drewN ?_ _ | refine le_drewN _ ?_ | refine Below.setCell ?_ ?_ _ | exact Nat.le_refl _ | refine le_ext _ ?_ | refine le_alloc _ ?_ | refine le_setCell _ _ ?_ | refine le_drew ?_) | omega | (simp; done) | (simp; omega))))) s3))⟩
                        · have d2 : ((D : Int) == 1) = false := by rw [beq_eq_false_iff_ne]; omega
                          rw [if_neg h2] at N5y NX
                          by_cases h3 : 1 < P
                          · have d3 : decide ((1 : Int) < (P : Int)) = true := decide_eq_true (by omega)
                            have HV := hide (N5y.out (by rw [decide_eq_false (show ¬ P ≤ 1 by omega)]; rfl))
                            clear N5y NX h0 h1 h2 h3
                            go_wp2_with fail
                            refine wp_region_ext (by kernel_rfl) (by kernel_rfl) ?_
                            repeat (go_big_quiet_step (fail))
                            refine wpQuiet_nil ?_
                            rintro _ hnq
                            have hzq := ext_sz hnq
                            obtain ⟨nq, rfl⟩ := hnq
                            (try simp at hzq)
                            go_wp2_with fail
                            go_ret
                            exact ⟨ret_bool HV.out.symm, ext_mk (BB3.out.trans (Below.mono (hbel3.trans (by (repeat' (first | (with_reducible first | exact Below.refl _ _ | assumption | refine below_ext _ ?_ ?_ | refine Below.alloc ?_ ?_ _ | refine Below.drew ?_ | refine below_drewN ?_ _ | refine le_drewN _ ?_ | refine Below.setCell ?_ ?_ _ | exact Nat.le_refl _ | refine le_ext _ ?_ | refine le_alloc _ ?_ | refine le_setCell _ _ ?_ | refine le_drew ?_) | omega | (simp; done) | (simp; omega))))) s3))⟩
                          · have d3 : decide ((1 : Int) < (P : Int)) = false := decide_eq_false (by omega)
                            by_cases h4 : P = Q
                            · have d4 : ((P : Int) != (Q : Int)) = false := by rw [h4]; simp
                              have NY := hide (NX.out (by rw [decide_eq_true (show P ≤ 1 by omega), decide_eq_true h4]; rfl))
                              clear N5y NX h0 h1 h2 h3 h4
                              go_wp2_with fail
                              refine wp_region_ext (by kernel_rfl) (by kernel_rfl) ?_
                              repeat (go_big_quiet_step (fail))
                              refine wpQuiet_nil ?_
                              rintro _ hnq
                              have hzq := ext_sz hnq
                              obtain ⟨nq, rfl⟩ := hnq
                              (try simp at hzq)
                              go_wp2_with fail
                              exact ⟨⟨y + 1, by omega, by go_num, NY, hbel3.trans (by (repeat' (first | (with_reducible first | exact Below.refl _ _ | assumption | refine below_ext _ ?_ ?_ | refine Below.alloc ?_ ?_ _ | refine Below.drew ?_ | refine below_drewN ?_ _ | refine le_drewN _ ?_ | refine Below.setCell ?_ ?_ _ | exact Nat.le_refl _ | refine le_ext _ ?_ | refine le_alloc _ ?_ | refine le_setCell _ _ ?_ | refine le_drew ?_) | omega | (simp; done) | (simp; omega))))⟩, by simp [intOf]; omega⟩
                            · have d4 : ((P : Int) != (Q : Int)) = true := by simp; omega
                              have HV := hide (N5y.out (by rw [decide_eq_false h4, Bool.and_false]))
                              clear N5y NX h0 h1 h2 h3 h4
                              go_wp2_with fail
                              refine wp_region_ext (by kernel_rfl) (by kernel_rfl) ?_
                              repeat (go_big_quiet_step (fail))
                              refine wpQuiet_nil ?_
                              rintro _ hnq
                              have hzq := ext_sz hnq
                              obtain ⟨nq, rfl⟩ := hnq
                              (try simp at hzq)
                              go_wp2_with fail
                              go_ret
                              exact ⟨ret_bool HV.out.symm, ext_mk (BB3.out.trans (Below.mono (hbel3.trans (by (repeat' (first | (with_reducible first | exact Below.refl _ _ | assumption | refine below_ext _ ?_ ?_ | refine Below.alloc ?_ ?_ _ | refine Below.drew ?_ | refine below_drewN ?_ _ | refine le_drewN _ ?_ | refine Below.setCell ?_ ?_ _ | exact Nat.le_refl _ | refine le_ext _ ?_ | refine le_alloc _ ?_ | refine le_setCell _ _ ?_ | refine le_drew ?_) | omega | (simp; done) | (simp; omega))))) s3))⟩
                  · have ey : y = n3 := by omega
                    have HR : Hid (∀ i k, i < x + 1 → k < n3 → pairOk rs T (gn rs i) (gn rs k) = true) := hide (fun i k hi hk => by
                      by_cases e : i = x
                      · rw [e]; exact HQ.out k (by omega)
                      · exact HP.out i k (by omega) hk)
                    clear ey
                    go_wp2_with fail
                    exact ⟨⟨x + 1, by omega, by go_num, HR, hbel3⟩, by simp [intOf]; omega⟩
              · have ex : x = n3 := by omega
                have HV := hide (Y3.out (fun i k hi hk => HP.out i k (by omega) hk))
                clear ex Y3
                go_wp2_with fail
                go_ret
                exact ⟨ret_bool HV.out.symm, ext_mk (BB3.out.trans (hbel2.mono s3))⟩
          · have d5 : (sumA ps ts m != absA ps) = true := by simp; exact hsum
            have HV := hide (NO4.out hsum)
            clear hsum Y2 NO4
            generalize sumA ps ts m = SS at *
            generalize absA ps = AA at *
            go_wp2_with fail
            go_ret
            exact ⟨ret_bool HV.out.symm, ext_mk (hbel.trans (by (repeat' (first | (with_reducible first | exact Below.refl _ _ | assumption | refine below_ext _ ?_ ?_ | refine Below.alloc ?_ ?_ _ | refine Below.drew ?_ | refine below_drewN ?_ _ | refine le_drewN _ ?_ | refine Below.setCell ?_ ?_ _ | exact Nat.le_refl _ | refine le_ext _ ?_ | refine le_alloc _ ?_ | refine le_setCell _ _ ?_ | refine le_drew ?_) | omega | (simp; done) | (simp; omega)))))⟩
    · rw [hok] at HC
      have HV := hide (chk_no (ps := ps) (ts := ts) (fun hh => hlen (by omega)))
      have D1 : ((m : Int) != (n : Int) - 2) = true := by simp; omega
      clear hok hs hn ht hz
      go_enter Tryz.func55, Tryz.ntmps55
      go_wp2_with fail
      refine HC.out.mono ?_
      rintro e w' ⟨rfl, hw'⟩; have hzy1 := ext_sz hw'; obtain ⟨y1, rfl⟩ := hw'; (try simp at hzy1)
      go_wp2_with fail
      go_ret
      exact ⟨ret_bool HV.out.symm, (ext_mk (by (repeat' (first | (with_reducible first | exact Below.refl _ _ | assumption | refine below_ext _ ?_ ?_ | refine Below.alloc ?_ ?_ _ | refine Below.drew ?_ | refine below_drewN ?_ _ | refine le_drewN _ ?_ | refine Below.setCell ?_ ?_ _ | exact Nat.le_refl _ | refine le_ext _ ?_ | refine le_alloc _ ?_ | refine le_setCell _ _ ?_ | refine le_drew ?_) | omega | (simp; done) | (simp; omega)))))⟩
  · rw [eq_false_of_ne_true hok] at HC
    have HV := hide (chk_no1 (ts := ts) (eq_false_of_ne_true hok))
    clear hok hn hs
    go_enter Tryz.func55, Tryz.ntmps55
    go_wp2_with fail
    refine HC.out.mono ?_
    rintro e w' ⟨rfl, hw'⟩; have hzy1 := ext_sz hw'; obtain ⟨y1, rfl⟩ := hw'; (try simp at hzy1)
    go_wp2_with fail
    go_ret
    exact ⟨ret_bool HV.out.symm, (ext_mk (by (repeat' (first | (with_reducible first | exact Below.refl _ _ | assumption | refine below_ext _ ?_ ?_ | refine Below.alloc ?_ ?_ _ | refine Below.drew ?_ | refine below_drewN ?_ _ | refine le_drewN _ ?_ | refine Below.setCell ?_ ?_ _ | exact Nat.le_refl _ | refine le_ext _ ?_ | refine le_alloc _ ?_ | refine le_setCell _ _ ?_ | refine le_drew ?_) | omega | (simp; done) | (simp; omega)))))⟩
end Go.Proofs.YtkkmioffclpmfaaGreat
