
/- A map that counts pairs of numbers: made by the call, looked up, counted up. -/
import Derived.Test.YtelhidonhldjeaaGreatLeaf
import Derived.WideKeyEntry
import Derived.WideKeyPair
import Derived.Carry
set_option linter.unusedVariables false
set_option linter.unusedSimpArgs false
namespace Go.Proofs.YtelhidonhldjeaaGreat
open Go.RowKit Go.ChangeShapes Go.WideShapes Go.MapKept Go.ChangeMaps Go.WideElems

def kPair (i k : Int) : Value := .agg #[.int .i64 i, .int .i64 k]
def wfI (x : Int) : Prop := (Lit.int .i64 x).wf = true
theorem arr2 : Go.WideMaps.ArrKey Tryz.prog 86 3 2 := ⟨Tryz.underlying86, by kernel_rfl, by kernel_rfl, by kernel_rfl⟩
theorem zeroI (w : World) : (zeroValue 3).run Tryz.prog w = .ok (.int .i64 0) w := by kernel_rfl
theorem keyPair {i k : Int} (hi : wfI i) (hk : wfI k) : ∃ l, keyOf Tryz.prog 86 (kPair i k) = some l := ⟨_, Go.WideMaps.keyOf_pair arr2 Tryz.underlying3 ⟨_, rfl⟩ hi hk⟩
/-- Block B is a map that counts C at each pair. -/
def CMap (w : World) (B : Nat) (C : Int → Int → Int) : Prop :=
  ∃ (es : Array MapEntry) (clock : Nat), w.heap[B]? = some (.map es clock) ∧ (∀ e ∈ es.toList, e.born < clock) ∧ (es.toList.map (·.born)).Nodup ∧ (es.toList.map (·.key)).Nodup ∧ (∀ e ∈ es.toList, ∃ i k, wfI i ∧ wfI k ∧ e.key = kPair i k ∧ e.val = .int .i64 (C i k)) ∧ ∀ i k, (∀ e ∈ es.toList, e.key ≠ kPair i k) → C i k = 0
theorem kPair_inj {i k i' k' : Int} (h : kPair i k = kPair i' k') : i = i' ∧ k = k' := by
  unfold kPair at h
  injection h with h
  injection h with h
  injection h with h1 h2
  injection h2 with h2 _
  injection h1 with _ h1
  injection h2 with _ h2
  exact ⟨h1, h2⟩
theorem CMap.block {w W : World} {B : Nat} {C : Int → Int → Int} (h : CMap w B C) (hb : W.heap[B]? = w.heap[B]?) : CMap W B C := by
  obtain ⟨es, clock, h1, r⟩ := h
  exact ⟨es, clock, hb.trans h1, r⟩
theorem CMap.lt {w : World} {B : Nat} {C : Int → Int → Int} (h : CMap w B C) : B < w.heap.size := by
  obtain ⟨es, clock, h1, r⟩ := h
  exact heap_lt h1
theorem CMap.new {w : World} {B : Nat} (h : w.heap[B]? = some (.map #[] 0)) : CMap w B fun _ _ => 0 :=
  ⟨#[], 0, h, by simp, by simp, by simp, by simp, fun _ _ _ => rfl⟩
theorem CMap.find {w : World} {B : Nat} {C : Int → Int → Int} (h : CMap w B C) {i k : Int} (hi : wfI i) (hk : wfI k) :
    (Instr.lookup 84 (.map (some B)) (kPair i k) false).run Tryz.prog w = .ok (.int .i64 (C i k)) w := by
  obtain ⟨es, clock, hb, s1, s2, s3, hks, hz⟩ := h
  obtain ⟨l, hl⟩ := keyPair hi hk
  have hall : ∀ e ∈ es.toList, ∃ l, keyOf Tryz.prog 86 e.key = some l := fun e he => by
    obtain ⟨a, b, wa, wb, e1, _⟩ := hks e he
    rw [e1]; exact keyPair wa wb
  rcases arr2.law.find w hl es.toList hall with ⟨h1, h2⟩ | ⟨j, e, h1, h2, h3⟩
  · have := hz i k h2
    simp [Instr.lookup, run_underlying Tryz.underlying84, MapKept.run_getObj_map hb, arr2.law.check w _ hl, h1, zeroI, this, Result.andThen]
  · obtain ⟨a, b, wa, wb, e1, e2⟩ := hks e (List.mem_of_getElem? h2)
    rw [h3] at e1
    obtain ⟨rfl, rfl⟩ := kPair_inj e1
    simp [Instr.lookup, run_underlying Tryz.underlying84, MapKept.run_getObj_map hb, arr2.law.check w _ hl, h1, e2, Result.andThen]
theorem nd_at {l : List MapEntry} (h : (l.map (·.key)).Nodup) {a b : Nat} {x y : MapEntry} (hx : l[a]? = some x) (hy : l[b]? = some y) (hk : x.key = y.key) : a = b := by
  obtain ⟨la, ea⟩ := List.getElem?_eq_some_iff.1 hx
  obtain ⟨lb, eb⟩ := List.getElem?_eq_some_iff.1 hy
  have P := List.pairwise_iff_getElem.1 h
  rcases Nat.lt_trichotomy a b with hh | hh | hh
  · exact absurd (by rw [List.getElem_map, List.getElem_map, ea, eb, hk]) (P a b (by simpa using la) (by simpa using lb) hh)
  · exact hh
  · exact absurd (by rw [List.getElem_map, List.getElem_map, ea, eb, hk]) (P b a (by simpa using lb) (by simpa using la) hh)
def upd2 (C : Int → Int → Int) (i k v : Int) (a b : Int) : Int := if a = i ∧ b = k then v else C a b
theorem setB_heap {w : World} {B : Nat} {o o' : Obj} (h : w.heap[B]? = some o) : (setBlock w B o').heap[B]? = some o' := by
  have hl := heap_lt h
  simp [setBlock, hl]
theorem setB_but {w : World} {B : Nat} {o' : Obj} : But w (setBlock w B o') B :=
  ⟨rfl, rfl, rfl, by simp [setBlock], fun k hk => by
    simp only [setBlock]
    rw [Array.getElem?_setIfInBounds_ne (fun e => hk e.symm)]⟩
theorem CMap.put {w : World} {B : Nat} {C : Int → Int → Int} (h : CMap w B C) {i k : Int} (hi : wfI i) (hk : wfI k) :
    ∃ (st : Int) (w1 : World), (Instr.mapEntry 84 (.map (some B)) (kPair i k)).run Tryz.prog w = .ok (.tuple #[.int .i64 (C i k), .int .i64 st]) w1 ∧ CMap w1 B C ∧ But w w1 B ∧
      ∀ v : Int, ∃ w2, (Instr.entryStore 84 (.map (some B)) (.int .i64 st) (.int .i64 v)).run Tryz.prog w1 = .ok () w2 ∧ CMap w2 B (upd2 C i k v) ∧ But w w2 B := by
  obtain ⟨es, clock, hb, s1, s2, s3, hks, hz⟩ := h
  obtain ⟨l, hl⟩ := keyPair hi hk
  have hall : ∀ e ∈ es.toList, ∃ l, keyOf Tryz.prog 86 e.key = some l := fun e he => by
    obtain ⟨a, b, wa, wb, e1, _⟩ := hks e he
    rw [e1]; exact keyPair wa wb
  have hu := run_underlying Tryz.underlying84
  rcases arr2.law.find w hl es.toList hall with ⟨h1, h2⟩ | ⟨j, e0, h1, h2, h3⟩
  · have hC := hz i k h2
    refine ⟨clock, setBlock w B (.map (es.push ⟨kPair i k, .int .i64 0, clock⟩) (clock + 1)), ?_, ?_, setB_but, fun v => ?_⟩
    · simp [Instr.mapEntry, hu, MapKept.run_getObj_map hb, arr2.law.check w false hl, h1, zeroI, hC, MapKept.run_setObj_map _ hb, Result.andThen, setBlock, goInt]
    · refine ⟨es.push ⟨kPair i k, .int .i64 0, clock⟩, clock + 1, setB_heap hb, ?_, ?_, ?_, ?_, ?_⟩
      · intro e he
        simp only [Array.toList_push, List.mem_append, List.mem_singleton] at he
        rcases he with he | rfl
        · have := s1 e he; omega
        · exact Nat.lt_succ_self _
      · simp only [Array.toList_push, List.map_append, List.map_cons, List.map_nil]
        refine List.nodup_append.2 ⟨s2, by simp, fun a ha c hc e1 => ?_⟩
        simp only [List.mem_singleton] at hc
        obtain ⟨x, hx, rfl⟩ := List.mem_map.1 ha
        have := s1 x hx
        omega
      · simp only [Array.toList_push, List.map_append, List.map_cons, List.map_nil]
        refine List.nodup_append.2 ⟨s3, by simp, fun a ha c hc e1 => ?_⟩
        simp only [List.mem_singleton] at hc
        obtain ⟨x, hx, rfl⟩ := List.mem_map.1 ha
        exact h2 x hx (e1.trans hc)
      · intro e he
        simp only [Array.toList_push, List.mem_append, List.mem_singleton] at he
        rcases he with he | rfl
        · exact hks e he
        · exact ⟨i, k, hi, hk, rfl, by rw [hC]⟩
      · intro a b hab
        exact hz a b fun e he => hab e (by simp only [Array.toList_push, List.mem_append]; exact .inl he)
    · have hw1 := setB_heap (o' := .map (es.push ⟨kPair i k, .int .i64 0, clock⟩) (clock + 1)) hb
      have hidx : (es.push ⟨kPair i k, .int .i64 0, clock⟩).findIdx? (fun e => ((e.born : Nat) : Int) == ((clock : Nat) : Int)) = some es.size := by
        rw [findIdx_arr]
        exact findIdx_born (l := (es.push ⟨kPair i k, .int .i64 0, clock⟩).toList) (j := es.size) (e0 := ⟨kPair i k, .int .i64 0, clock⟩) (by
          simp only [Array.toList_push, List.map_append, List.map_cons, List.map_nil]
          refine List.nodup_append.2 ⟨s2, by simp, fun a ha c hc e1 => ?_⟩
          simp only [List.mem_singleton] at hc
          obtain ⟨x, hx, rfl⟩ := List.mem_map.1 ha
          have := s1 x hx
          omega) (by simp)
      have hmod : (es.push ⟨kPair i k, .int .i64 0, clock⟩).modify es.size (fun e => { e with val := .int .i64 v }) = es.push ⟨kPair i k, .int .i64 v, clock⟩ := by
        apply Array.ext'
        rw [Array.toList_modify, Array.toList_push, Array.toList_push, ← Array.length_toList, modify_last]
      refine ⟨setBlock (setBlock w B (.map (es.push ⟨kPair i k, .int .i64 0, clock⟩) (clock + 1))) B (.map (es.push ⟨kPair i k, .int .i64 v, clock⟩) (clock + 1)), ?_, ?_, ?_⟩
      · generalize hW1 : setBlock w B (.map (es.push ⟨kPair i k, .int .i64 0, clock⟩) (clock + 1)) = W1 at hw1 ⊢
        simp [Instr.entryStore, MapKept.run_getObj_map hw1, asInt, asIntOf, hidx, hmod, MapKept.run_setObj_map _ hw1, Result.andThen, setBlock]
      · refine ⟨es.push ⟨kPair i k, .int .i64 v, clock⟩, clock + 1, setB_heap hw1, ?_, ?_, ?_, ?_, ?_⟩
        · intro e he
          simp only [Array.toList_push, List.mem_append, List.mem_singleton] at he
          rcases he with he | rfl
          · have := s1 e he; omega
          · exact Nat.lt_succ_self _
        · simp only [Array.toList_push, List.map_append, List.map_cons, List.map_nil]
          refine List.nodup_append.2 ⟨s2, by simp, fun a ha c hc e1 => ?_⟩
          simp only [List.mem_singleton] at hc
          obtain ⟨x, hx, rfl⟩ := List.mem_map.1 ha
          have := s1 x hx
          omega
        · simp only [Array.toList_push, List.map_append, List.map_cons, List.map_nil]
          refine List.nodup_append.2 ⟨s3, by simp, fun a ha c hc e1 => ?_⟩
          simp only [List.mem_singleton] at hc
          obtain ⟨x, hx, rfl⟩ := List.mem_map.1 ha
          exact h2 x hx (e1.trans hc)
        · intro e he
          simp only [Array.toList_push, List.mem_append, List.mem_singleton] at he
          rcases he with he | rfl
          · obtain ⟨a, b, wa, wb, e1, e2⟩ := hks e he
            refine ⟨a, b, wa, wb, e1, ?_⟩
            unfold upd2
            rw [if_neg (fun hh => h2 e he (by rw [e1, hh.1, hh.2])), e2]
          · exact ⟨i, k, hi, hk, rfl, by unfold upd2; rw [if_pos ⟨rfl, rfl⟩]⟩
        · intro a b hab
          have hne := hab ⟨kPair i k, .int .i64 v, clock⟩ (by simp)
          unfold upd2
          rw [if_neg (fun hh => hne (by rw [hh.1, hh.2]))]
          exact hz a b fun e he => hab e (by simp only [Array.toList_push, List.mem_append]; exact .inl he)
      · have b1 : But w (setBlock w B (.map (es.push ⟨kPair i k, .int .i64 0, clock⟩) (clock + 1))) B := setB_but
        have b2 : But (setBlock w B (.map (es.push ⟨kPair i k, .int .i64 0, clock⟩) (clock + 1))) (setBlock (setBlock w B (.map (es.push ⟨kPair i k, .int .i64 0, clock⟩) (clock + 1))) B (.map (es.push ⟨kPair i k, .int .i64 v, clock⟩) (clock + 1))) B := setB_but
        exact ⟨b2.os.trans b1.os, b2.tape.trans b1.tape, b2.output.trans b1.output, b2.size.trans b1.size, fun g hg => (b2.block g hg).trans (b1.block g hg)⟩
  · have hj : es[j]? = some e0 := by simpa using h2
    obtain ⟨a, b, wa, wb, e1, e2⟩ := hks e0 (List.mem_of_getElem? h2)
    rw [h3] at e1
    obtain ⟨rfl, rfl⟩ := kPair_inj e1
    have hsame : es.modify j (fun e => { e with key := kPair i k }) = es := by
      apply Array.ext'
      rw [Array.toList_modify, modify_eq_set _ _ _ _ h2]
      have : ({ e0 with key := kPair i k } : MapEntry) = e0 := by rw [← h3]
      rw [this]
      exact set_self _ _ _ h2
    refine ⟨e0.born, setBlock w B (.map es clock), ?_, ⟨es, clock, setB_heap hb, s1, s2, s3, hks, hz⟩, setB_but, fun v => ?_⟩
    · simp [Instr.mapEntry, hu, MapKept.run_getObj_map hb, arr2.law.check w false hl, h1, hj, h3, arr2.law.stays w hl, hsame, e2, MapKept.run_setObj_map _ hb, Result.andThen, setBlock, goInt]
    · have hw1 := setB_heap (o' := .map es clock) hb
      have hidx : es.findIdx? (fun e => ((e.born : Nat) : Int) == ((e0.born : Nat) : Int)) = some j := by
        rw [findIdx_arr]
        exact findIdx_born s2 h2
      have hml : (es.modify j (fun e => { e with val := .int .i64 v })).toList = es.toList.set j { e0 with val := .int .i64 v } := by
        rw [Array.toList_modify, modify_eq_set _ _ _ _ h2]
      refine ⟨setBlock (setBlock w B (.map es clock)) B (.map (es.modify j (fun e => { e with val := .int .i64 v })) clock), ?_, ?_, ?_⟩
      · generalize hW1 : setBlock w B (.map es clock) = W1 at hw1 ⊢
        simp [Instr.entryStore, MapKept.run_getObj_map hw1, asInt, asIntOf, hidx, MapKept.run_setObj_map _ hw1, Result.andThen, setBlock]
      · have hborn : (es.toList.set j { e0 with val := .int .i64 v }).map (·.born) = es.toList.map (·.born) := by
          rw [List.map_set]
          exact set_self _ _ _ (by rw [List.getElem?_map, h2]; rfl)
        have hkeys : (es.toList.set j { e0 with val := .int .i64 v }).map (·.key) = es.toList.map (·.key) := by
          rw [List.map_set]
          exact set_self _ _ _ (by rw [List.getElem?_map, h2]; rfl)
        refine ⟨es.modify j (fun e => { e with val := .int .i64 v }), clock, setB_heap hw1, ?_, ?_, ?_, ?_, ?_⟩ <;> rw [hml]
        · intro e he
          have : e.born ∈ (es.toList.set j { e0 with val := .int .i64 v }).map (·.born) := List.mem_map.2 ⟨e, he, rfl⟩
          rw [hborn] at this
          obtain ⟨x, hx, hxe⟩ := List.mem_map.1 this
          have := s1 x hx
          omega
        · rw [hborn]; exact s2
        · rw [hkeys]; exact s3
        · intro e he
          obtain ⟨m, hm⟩ := List.getElem?_of_mem he
          by_cases hmj : m = j
          · subst hmj
            rw [List.getElem?_set_self (List.getElem?_eq_some_iff.1 h2).1] at hm
            injection hm with hm
            subst hm
            exact ⟨i, k, hi, hk, h3, by unfold upd2; rw [if_pos ⟨rfl, rfl⟩]⟩
          · rw [List.getElem?_set_ne (Ne.symm hmj)] at hm
            obtain ⟨a, b, wa, wb, e3, e4⟩ := hks e (List.mem_of_getElem? hm)
            refine ⟨a, b, wa, wb, e3, ?_⟩
            unfold upd2
            rw [if_neg (fun hh => hmj (nd_at s3 hm h2 (by rw [e3, h3, hh.1, hh.2]))), e4]
        · intro a b hab
          unfold upd2
          by_cases hh : a = i ∧ b = k
          · exfalso
            have hjl : j < es.toList.length := (List.getElem?_eq_some_iff.1 h2).1
            exact hab { e0 with val := .int .i64 v } (List.mem_set hjl _) (by rw [hh.1, hh.2]; exact h3)
          · rw [if_neg hh]
            refine hz a b fun e he hke => ?_
            by_cases hee : e.key = kPair i k
            · rw [hee] at hke
              obtain ⟨r1, r2⟩ := kPair_inj hke
              exact hh ⟨r1.symm, r2.symm⟩
            · obtain ⟨m, hm⟩ := List.getElem?_of_mem he
              have hmj : m ≠ j := fun e => by
                subst e
                rw [h2] at hm; injection hm with hm
                exact hee (by rw [← hm]; exact h3)
              refine hab e (List.mem_of_getElem? (i := m) ?_) hke
              rw [List.getElem?_set_ne (Ne.symm hmj)]; exact hm
      · have b1 : But w (setBlock w B (.map es clock)) B := setB_but
        have b2 : But (setBlock w B (.map es clock)) (setBlock (setBlock w B (.map es clock)) B (.map (es.modify j (fun e => { e with val := .int .i64 v })) clock)) B := setB_but
        exact ⟨b2.os.trans b1.os, b2.tape.trans b1.tape, b2.output.trans b1.output, b2.size.trans b1.size, fun g hg => (b2.block g hg).trans (b1.block g hg)⟩
end Go.Proofs.YtelhidonhldjeaaGreat
