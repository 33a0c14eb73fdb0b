
/- From a row's reading of a point with fractions, of a string, to the walks' words. -/
import Derived.Test.YtlggmjofglmjcaaDoorRows
import Derived.Test.YtlggmjofglmjcaaDoorBase
import Derived.ProofKit
import Derived.Lib.SmallJoins
set_option linter.unusedVariables false
set_option linter.unusedSimpArgs false
namespace Go.Proofs.YtlggmjofglmjcaaDoor
open Go.ChangeShapes Go.WideShapes Go.ChangeAt Go.RowKit Go.Joins

section
variable {H : Type} {enc : TypeId × Value → H} {w : World} {base : Nat} {spare : Nat → Bool} {held : Bool}
theorem list4 {α : Type} {l : List α} (h : l.length = 4) : ∃ a b c d, l = [a, b, c, d] := by
  match l, h with
  | [a, b, c, d], _ => exact ⟨a, b, c, d, rfl⟩
theorem rat_cells {fuel : Nat} {u v : Value} {x : DataW H × List MemPlace} (h : DataW.trod enc Tryd.prog w base spare held fuel 23 [u, v] = some x) : ∃ n d : Int, u = .int .i64 n ∧ v = .int .i64 d := by
  obtain ⟨y0, y1, n, _, _, h0, h1⟩ := trod_struct2 Tryd.underlying23 h
  have c3 : Tryd.prog.cellsOf 3 = 1 := by kernel_rfl
  have h0 : DataW.trod enc Tryd.prog w base spare held n 3 (([u, v].drop 0).take (Tryd.prog.cellsOf 3)) = some y0 := h0
  have h1 : DataW.trod enc Tryd.prog w base spare held n 3 (([u, v].drop 1).take (Tryd.prog.cellsOf 3)) = some y1 := h1
  rw [c3] at h0 h1
  have h0 : DataW.trod enc Tryd.prog w base spare held n 3 [u] = some y0 := h0
  have h1 : DataW.trod enc Tryd.prog w base spare held n 3 [v] = some y1 := h1
  obtain ⟨a, e0, _⟩ := DataW.trod_int Tryd.underlying3 h0
  obtain ⟨b, e1, _⟩ := DataW.trod_int Tryd.underlying3 h1
  injection e0 with e0
  injection e1 with e1
  exact ⟨a, b, e0, e1⟩
set_option maxRecDepth 100000 in
theorem open_rp {r : Reach} {b0 : Nat} {v : Value} {d : DataW H} {p : List MemPlace} (hv : Value.okWide Tryd.prog w r b0 25 v) (h : DataW.Trod enc Tryd.prog w base spare held 25 v d p) :
    ∃ a b c e : Int, v = .agg #[.int .i64 a, .int .i64 b, .int .i64 c, .int .i64 e] := by
  obtain ⟨cs, rfl, hsz⟩ := okWide_struct Tryd.underlying25 hv
  obtain ⟨fuel, hf⟩ := h
  have c4 : Tryd.prog.cellsOf 25 = 4 := by kernel_rfl
  have c2 : Tryd.prog.cellsOf 23 = 2 := by kernel_rfl
  obtain ⟨y0, y1, n, _, _, h0, h1⟩ := trod_struct2 Tryd.underlying25 hf
  obtain ⟨l⟩ := cs
  obtain ⟨x0, x1, x2, x3, rfl⟩ := list4 (l := l) (by rw [← c4]; simpa using hsz)
  have h0 : DataW.trod enc Tryd.prog w base spare held n 23 (([x0, x1, x2, x3].drop 0).take (Tryd.prog.cellsOf 23)) = some y0 := h0
  have h1 : DataW.trod enc Tryd.prog w base spare held n 23 (([x0, x1, x2, x3].drop 2).take (Tryd.prog.cellsOf 23)) = some y1 := h1
  rw [c2] at h0 h1
  obtain ⟨a, b, e0, e1⟩ := rat_cells (show DataW.trod enc Tryd.prog w base spare held n 23 [x0, x1] = some y0 from h0)
  obtain ⟨c, e, e2, e3⟩ := rat_cells (show DataW.trod enc Tryd.prog w base spare held n 23 [x2, x3] = some y1 from h1)
  subst e0 e1 e2 e3
  exact ⟨a, b, c, e, rfl⟩
end
end Go.Proofs.YtlggmjofglmjcaaDoor
