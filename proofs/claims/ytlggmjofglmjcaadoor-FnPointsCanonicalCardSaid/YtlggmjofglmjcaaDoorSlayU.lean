/-
  Contracts of the library, laid at this program by the kit's own tool, in plain words: tables of numbers and one theorem each. No condition.
-/
import Derived.Shelf.SlGeneric
import Derived.Shelf.Strings.Search3
import Derived.Ground.NamesProg
import Derived.Test.YtlggmjofglmjcaaDoorProg
set_option linter.unusedVariables false
namespace Go.Proofs.YtlggmjofglmjcaaDoor
open Go.Proofs
open Go.Shelf
def Tryd.idxS_ren : Go.Shelf.Ren := ⟨fun | 143 => 92 | 219 => 88 | 217 => 106 | 225 => 107 | 224 => 108 | 267 => 109 | 266 => 119 | 314 => 120 | n => n, fun | 9 => 9 | 3 => 3 | 4 => 4 | 5 => 5 | 46 => 128 | 146 => 141 | 51 => 137 | n => n, fun | 1 => 0 | n => n⟩
theorem Tryd.idxS : Go.Proofs.Lays.n143 Tryd.prog Tryd.idxS_ren := {
  mixed := by kernel_rfl
  f143 := Tryd.func92.trans (congrArg some (by kernel_rfl))
  f217 := Tryd.func106.trans (congrArg some (by kernel_rfl))
  f219 := Tryd.func88.trans (congrArg some (by kernel_rfl))
  f224 := Tryd.func108.trans (congrArg some (by kernel_rfl))
  f225 := Tryd.func107.trans (congrArg some (by kernel_rfl))
  f266 := Tryd.func119.trans (congrArg some (by kernel_rfl))
  f267 := Tryd.func109.trans (congrArg some (by kernel_rfl))
  f314 := Tryd.func120.trans (congrArg some (by kernel_rfl))
  t3 := Tryd.underlying3
  a3 := Tryd.isAgg3
  z3 := Tryd.sizeOf3
  v3 := Tryd.zeroValue3
  t4 := Tryd.underlying4
  a4 := Tryd.isAgg4
  z4 := Tryd.sizeOf4
  v4 := Tryd.zeroValue4
  t5 := Tryd.underlying5
  a5 := Tryd.isAgg5
  z5 := Tryd.sizeOf5
  v5 := Tryd.zeroValue5
  t9 := Tryd.underlying9
  a9 := Tryd.isAgg9
  z9 := Tryd.sizeOf9
  v9 := Tryd.zeroValue9
  t46 := Tryd.underlying128
  a46 := Tryd.isAgg128
  z46 := Tryd.sizeOf128
  v46 := Tryd.zeroValue128
  t51 := Tryd.underlying137
  a51 := Tryd.isAgg137
  z51 := Tryd.sizeOf137
  v51 := Tryd.zeroValue137
  t146 := Tryd.underlying141
  a146 := Tryd.isAgg141
  z146 := Tryd.sizeOf141
  v146 := Tryd.zeroValue141
  g1 := by kernel_rfl }
end Go.Proofs.YtlggmjofglmjcaaDoor
