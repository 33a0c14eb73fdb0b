/-
  Contracts of the library, laid at this program by the kit's own tool, in plain words: tables of numbers and one theorem each. No condition.
-/
import Derived.Shelf.SlGeneric
import Derived.Shelf.SlicesE.Reverse
import Derived.Ground.SlgnProg
import Derived.Test.YtkkmioffclpmfaaGreatProg
set_option linter.unusedVariables false
namespace Go.Proofs.YtkkmioffclpmfaaGreat
open Go.Proofs
open Go.Shelf
def Tryz.revInt_ren : Go.Shelf.Ren := ⟨fun | 35 => 83 | n => n, fun | 22 => 25 | 23 => 3 | 3 => 3 | 4 => 4 | 0 => 0 | n => n, fun | n => n⟩
theorem Tryz.revInt : Go.Proofs.SlLaysE.n35 Tryz.prog Tryz.revInt_ren := {
  mixed := by kernel_rfl
  f35 := ⟨Tryz.f83.name, by decide, Tryz.func83.trans (congrArg some (by kernel_rfl))⟩
  t0 := Tryz.underlying0
  a0 := Tryz.isAgg0
  z0 := Tryz.sizeOf0
  v0 := Tryz.zeroValue0
  t3 := Tryz.underlying3
  a3 := Tryz.isAgg3
  z3 := Tryz.sizeOf3
  v3 := Tryz.zeroValue3
  t4 := Tryz.underlying4
  a4 := Tryz.isAgg4
  z4 := Tryz.sizeOf4
  v4 := Tryz.zeroValue4
  t22 := Tryz.underlying25
  a22 := Tryz.isAgg25
  z22 := Tryz.sizeOf25
  v22 := Tryz.zeroValue25
  a23 := Tryz.isAgg3
  z23 := Tryz.sizeOf3 }
end Go.Proofs.YtkkmioffclpmfaaGreat
