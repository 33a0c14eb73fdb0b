
/- The library's Delete of one place at numbers of the call's own. -/
import Derived.Test.YtkkmioffclpmfaaAppI
import Derived.Test.YtkkmioffclpmfaaSlayD
import Derived.Shelf.SlicesG.Delete
set_option linter.unusedVariables false
set_option linter.unusedSimpArgs false
namespace Go.Proofs.Ytkkmioffclpmfaa
open Go.RowKit Go.Shelf Go.Sort Go.Lib

theorem erase_row (zs : List Int) (i : Nat) (hi : i < zs.length) : zs.take i ++ zs.drop (i + 1) ++ List.replicate (i + 1 - i) 0 = zs.eraseIdx i ++ [0] := by
  rw [List.eraseIdx_eq_take_drop_succ, show i + 1 - i = 1 by omega]; rfl
theorem delN_any (zs : List Int) (base i : Nat) (A : Option Addr) (n c : Nat) (w : World) (hi : i < n) (hown : Own w base (.slice A n c) zs) :
    Calls Try.prog 66 #[.slice A n c, .int .i64 i, .int .i64 ((i : Int) + 1)] w fun e w' => e = .returned (.slice A (n - 1) c) ∧ Own w' base (.slice A (n - 1) c) (zs.eraseIdx i) ∧ ∃ g, A = some ⟨g, 0, none⟩ ∧ But w w' g := by
  have hl := hown.ints.1
  unfold Own at hown
  obtain ⟨_, ⟨hv, h0⟩ | ⟨g, cap, cur, hv, hg, hgg, hnc, hcm, hsz, htk⟩⟩ := hown
  · injection hv with h1 h2 h3
    omega
  · injection hv with h1 h2 h3
    subst h1 h2 h3
    rw [Nat.mul_one] at htk hsz
    have hcell : ∀ j, j < zs.length → cur[j]? = some (.int .i64 (zs[j]!)) := fun j hj => by
      have : (cur.toList.take zs.length)[j]? = some (.int .i64 (zs[j]!)) := by
        rw [htk, List.getElem?_map, List.getElem?_eq_getElem hj, getElem!_pos zs j hj]; rfl
      rw [List.getElem?_take, if_pos hj] at this
      rw [← Array.getElem?_toList]; exact this
    have hH : Holds (Value.int .i64) w g 0 zs.toArray := fun j hj => by
      have hj' : j < zs.length := by simpa using hj
      refine ⟨?_, heap_frozen hgg _⟩
      rw [Nat.zero_add, heap_cell hgg, hcell j hj']
      congr 2
      simp [hj']
    have hcon := AnyG.slices_Delete_int Try.delI g 0 c i (i + 1) zs w hH (by omega) (by unfold maxLen at hcm; omega) (by omega) (by omega)
    rw [erase_row zs i hi, show i + 1 - i = 1 by omega] at hcon
    refine hcon.mono ?_
    rintro e w' ⟨rfl, q, rfl⟩
    have hel : (zs.eraseIdx i).length = zs.length - 1 := by rw [List.length_eraseIdx, if_pos hi]
    have hp2 : (putRow (Value.int .i64) (Sort.ahead w q) g 0 (zs.eraseIdx i ++ [0]).toArray).heap[g]? = some (.cells (putCells (Value.int .i64) 0 (zs.eraseIdx i ++ [0]).toArray cur) 3 (0, 0)) := by
      show ((Sort.ahead w q).heap.modify g _)[g]? = _
      rw [Array.getElem?_modify, if_pos rfl]
      show Option.map _ (w.heap[g]?) = _
      rw [hgg]; rfl
    have hs : (putRow (Value.int .i64) (Sort.ahead w q) g 0 (zs.eraseIdx i ++ [0]).toArray).heap.size = w.heap.size := by
      show ((Sort.ahead w q).heap.modify g _).size = _
      rw [Array.size_modify]; rfl
    refine ⟨rfl, ⟨by rw [hel]; simp [hel], .inr ⟨g, c, _, by rw [hel], hg, hp2, by omega, hcm, by simp [putCells, hsz], ?_⟩⟩, g, rfl, ⟨rfl, rfl, rfl, hs, fun k hk => ?_⟩⟩
    · refine List.ext_getElem? fun k => ?_
      rw [hel, Nat.mul_one, List.getElem?_take, List.getElem?_map]
      by_cases hk : k < zs.length - 1
      · rw [if_pos hk]
        unfold putCells
        rw [Array.getElem?_toList, Array.getElem?_mapIdx, Array.getElem?_eq_getElem (show k < cur.size by omega)]
        have hk2 : k < (zs.eraseIdx i).length := by rw [hel]; exact hk
        have hk3 : k < (zs.eraseIdx i ++ [0]).length := by rw [List.length_append]; omega
        rw [List.getElem?_eq_getElem hk2]
        simp only [Option.map_some, Nat.zero_le, Nat.sub_zero, Nat.zero_add, true_and, List.size_toArray, if_pos hk3]
        congr 2
        rw [getElem!_pos _ k (by simpa using hk3)]
        simp [List.getElem_append_left hk2]
      · rw [if_neg hk, List.getElem?_eq_none (by rw [hel]; omega)]; rfl
    · show ((Sort.ahead w q).heap.modify g _)[k]? = _
      rw [Array.getElem?_modify, if_neg (fun h => hk h.symm)]; rfl
end Go.Proofs.Ytkkmioffclpmfaa
