
/- Rows of points beside a reader. -/
import Derived.Test.YtelhidonhldjeaaDraw
import Derived.Test.YtelhidonhldjeaaVals
set_option linter.unusedVariables false
set_option linter.unusedSimpArgs false
namespace Go.Proofs.Ytelhidonhldjeaa
open Go.RowKit

theorem OwnP.drew {w w' : World} {base B nb c g p p' : Nat} {A : Option Addr} {v : Value} {ps : List Pt} (h : OwnP w base v ps) (hd : Drew w w' B A nb c g p p') (hg : g < base) : OwnP w' base v ps :=
  own_block h fun k hk => hd.block k (h.lt2 k hk) (by have := h.lt k hk; omega)
theorem Drew.grown {w w' w'' : World} {B nb c g p p' : Nat} {A : Option Addr} {row : Option Nat} (h : Drew w w' B A nb c g p p') (hgr : w'.grownBy w'' row) (hrow : ∀ k, row = some k → w.heap.size ≤ k) (hg : g < w.heap.size) : Drew w w'' B A nb c g p p' := by
  have hb : ∀ k, k < w.heap.size → w''.heap[k]? = w'.heap[k]? := fun k hk => hgr.block k (Nat.lt_of_lt_of_le hk h.size) (fun e => by have := hrow k e.symm; omega)
  have hB := h.rd.le
  exact ⟨h.rd.keep ⟨hgr.os, hgr.tape, hgr.output, hgr.size, fun k hk => hb k (by omega)⟩ (hb g hg), hgr.os.trans h.os, hgr.tape.trans h.tape, hgr.output.trans h.output, Nat.le_trans h.size hgr.size, fun k hk hkg => (hb k hk).trans (h.block k hk hkg)⟩
end Go.Proofs.Ytelhidonhldjeaa
