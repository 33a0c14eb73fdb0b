
/- The library's Sort at numbers of the call's own. -/
import Derived.Test.YtkkmioffclpmfaaGreatAppI
import Derived.Test.YtkkmioffclpmfaaGreatSlayS
import Derived.Shelf.Sort.Plain
import Derived.Shelf.Slices.In.SortNone
set_option linter.unusedVariables false
set_option linter.unusedSimpArgs false
namespace Go.Proofs.YtkkmioffclpmfaaGreat
open Go.RowKit Go.Shelf Go.Sort Go.Lib

def srtI (zs : List Int) : List Int := zs.mergeSort fun x y => decide (x ≤ y)
theorem srtI_len (zs : List Int) : (srtI zs).length = zs.length := List.length_mergeSort _
theorem sorted_only : ∀ {l l' : List Int}, l.Pairwise (· < ·) → l'.Pairwise (· < ·) → (∀ q, q ∈ l ↔ q ∈ l') → l = l'
  | [], [], _, _, _ => rfl
  | [], b :: l', _, _, h => by have := (h b).2 (by simp); simp at this
  | a :: l, [], _, _, h => by have := (h a).1 (by simp); simp at this
  | a :: l, b :: l', h1, h2, h => by
    obtain ⟨a1, a2⟩ := List.pairwise_cons.1 h1
    obtain ⟨b1, b2⟩ := List.pairwise_cons.1 h2
    have e : a = b := by
      have ha := (h a).1 (by simp)
      have hb := (h b).2 (by simp)
      rcases List.mem_cons.1 ha with e | ha
      · exact e
      · rcases List.mem_cons.1 hb with e | hb
        · exact e.symm
        · have := b1 _ ha; have := a1 _ hb; omega
    subst e
    rw [sorted_only a2 b2 fun q => ?_]
    constructor
    · intro hq
      rcases List.mem_cons.1 ((h q).1 (List.mem_cons_of_mem _ hq)) with e | hh
      · subst e; have := a1 _ hq; omega
      · exact hh
    · intro hq
      rcases List.mem_cons.1 ((h q).2 (List.mem_cons_of_mem _ hq)) with e | hh
      · subst e; have := b1 _ hq; omega
      · exact hh
theorem srtI_is {zs ys : List Int} (hd : zs.Nodup) (hs : ys.Pairwise (· < ·)) (hm : ∀ q, q ∈ zs ↔ q ∈ ys) : srtI zs = ys := by
  have hp : (srtI zs).Perm zs := List.mergeSort_perm _ _
  have h1 : (srtI zs).Pairwise fun a b => decide (a ≤ b) = true := List.pairwise_mergeSort (fun a b c h1 h2 => by simp only [decide_eq_true_eq] at *; omega) (fun a b => by simp only [Bool.or_eq_true, decide_eq_true_eq]; omega) zs
  have h2 : (srtI zs).Nodup := hp.nodup_iff.2 hd
  refine sorted_only ?_ hs fun q => (hp.mem_iff).trans (hm q)
  refine (h1.and h2).imp fun {a b} h => ?_
  have := h.1
  simp only [decide_eq_true_eq] at this
  have := h.2
  omega
theorem sortN_any (zs : List Int) (base : Nat) (A : Option Addr) (n c : Nat) (w : World) (hm : n ≤ 1000000) (hown : Own w base (.slice A n c) zs) (hb : base ≤ w.heap.size) :
    Calls Tryz.prog 42 #[.slice A n c] w fun e w' => e = .returned (.tuple #[]) ∧ Own w' base (.slice A n c) (srtI zs) ∧ Below base w w' := by
  have hl := hown.ints.1
  have hown0 := hown
  unfold Own at hown
  obtain ⟨_, ⟨hv, h0⟩ | ⟨g, cap, cur, hv, hg, hgg, hnc, hcm, hsz, htk⟩⟩ := hown
  · injection hv with h1 h2 h3
    subst h1 h2 h3
    have hz : zs = [] := List.length_eq_zero_iff.1 hl
    subst hz
    refine (Any.slices_Sort_int_none Tryz.sortInt none 0 w).mono ?_
    rintro e w' ⟨rfl, rfl⟩
    refine ⟨rfl, ?_, Below.refl _ _⟩
    rw [show srtI [] = [] by simp [srtI]]
    exact Own.nil _ _
  · injection hv with h1 h2 h3
    subst h1 h2 h3
    rw [Nat.mul_one] at htk hsz
    have hcell : ∀ j, j < zs.length → cur[j]? = some (.int .i64 (zs[j]!)) := fun j hj => by
      have : (cur.toList.take zs.length)[j]? = some (.int .i64 (zs[j]!)) := by
        rw [htk, List.getElem?_map, List.getElem?_eq_getElem hj, getElem!_pos zs j hj]; rfl
      rw [List.getElem?_take, if_pos hj] at this
      rw [← Array.getElem?_toList]; exact this
    have hH : Holds (Value.int .i64) w g 0 zs.toArray := fun j hj => by
      have hj' : j < zs.length := by simpa using hj
      refine ⟨?_, heap_frozen hgg _⟩
      rw [Nat.zero_add, heap_cell hgg, hcell j hj']
      congr 2
      simp [hj']
    have hgl := heap_lt hgg
    have hcon := Any.slices_Sort_int Tryz.sortInt g 0 c zs w hH hgl (by omega)
    refine hcon.mono ?_
    rintro e w' ⟨rfl, q, os, rfl⟩
    have hp2 : (putRow (Value.int .i64) (Sort.ahead w q) g 0 (srtI zs).toArray).heap[g]? = some (.cells (putCells (Value.int .i64) 0 (srtI zs).toArray cur) 3 (0, 0)) := by
      show ((Sort.ahead w q).heap.modify g _)[g]? = _
      rw [Array.getElem?_modify, if_pos rfl]
      show Option.map _ (w.heap[g]?) = _
      rw [hgg]; rfl
    have hs : (putRow (Value.int .i64) (Sort.ahead w q) g 0 (srtI zs).toArray).heap.size = w.heap.size := by
      show ((Sort.ahead w q).heap.modify g _).size = _
      rw [Array.size_modify]; rfl
    have hc2 := (heap_grow_old _ os (show g < (putRow (Value.int .i64) (Sort.ahead w q) g 0 (srtI zs).toArray).heap.size by rw [hs]; exact hgl)).trans hp2
    have hoth : ∀ k, k < w.heap.size → k ≠ g → (Sort.grow (putRow (Value.int .i64) (Sort.ahead w q) g 0 (srtI zs).toArray) os).heap[k]? = w.heap[k]? := fun k hk hkg => by
      rw [heap_grow_old _ os (by rw [hs]; exact hk)]
      show ((Sort.ahead w q).heap.modify g _)[k]? = _
      rw [Array.getElem?_modify, if_neg (by omega)]; rfl
    have hsg : w.heap.size ≤ (Sort.grow (putRow (Value.int .i64) (Sort.ahead w q) g 0 (srtI zs).toArray) os).heap.size := by
      show w.heap.size ≤ ((putRow (Value.int .i64) (Sort.ahead w q) g 0 (srtI zs).toArray).heap ++ os).size
      rw [Array.size_append, hs]; omega
    refine ⟨rfl, ⟨by simp [srtI_len], .inr ⟨g, c, _, by simp [srtI_len], hg, hc2, by simp [srtI_len]; exact hnc, hcm, by simp [putCells, hsz], ?_⟩⟩, ⟨rfl, rfl, rfl, hsg, fun k hk => hoth k (by omega) (by omega)⟩⟩
    refine List.ext_getElem? fun k => ?_
    rw [srtI_len, Nat.mul_one, List.getElem?_take, List.getElem?_map]
    by_cases hk : k < zs.length
    · rw [if_pos hk]
      unfold putCells
      rw [Array.getElem?_toList, Array.getElem?_mapIdx, Array.getElem?_eq_getElem (show k < cur.size by omega)]
      have hk2 : k < (srtI zs).length := by rw [srtI_len]; exact hk
      simp [hk2, hk, srtI_len]
    · rw [if_neg hk, List.getElem?_eq_none (by rw [srtI_len]; omega)]; rfl
end Go.Proofs.YtkkmioffclpmfaaGreat
