/-
  Contracts of the library, laid at this program by the kit's own tool, in plain words: tables of numbers and one theorem each. No condition.
-/
import Derived.Shelf.SlGeneric
import Derived.Shelf.Bits.Mul64
import Derived.Ground.NamesProg
import Derived.Test.YtkkmioffclpmfaaGreatProg
set_option linter.unusedVariables false
namespace Go.Proofs.YtkkmioffclpmfaaGreat
open Go.Proofs
open Go.Shelf
def Tryz.mulB_ren : Go.Shelf.Ren := ⟨fun | 212 => 150 | 263 => 164 | 264 => 165 | n => n, fun | 46 => 89 | 51 => 121 | 146 => 141 | 53 => 123 | 148 => 143 | n => n, fun | n => n⟩
theorem Tryz.mulB : Go.Proofs.Lays.n212 Tryz.prog Tryz.mulB_ren := {
  mixed := by kernel_rfl
  f212 := Tryz.func150.trans (congrArg some (by kernel_rfl))
  f263 := Tryz.func164.trans (congrArg some (by kernel_rfl))
  f264 := Tryz.func165.trans (congrArg some (by kernel_rfl))
  t46 := Tryz.underlying89
  a46 := Tryz.isAgg89
  z46 := Tryz.sizeOf89
  v46 := Tryz.zeroValue89
  t51 := Tryz.underlying121
  a51 := Tryz.isAgg121
  z51 := Tryz.sizeOf121
  v51 := Tryz.zeroValue121
  t53 := Tryz.underlying123
  a53 := Tryz.isAgg123
  z53 := Tryz.sizeOf123
  v53 := Tryz.zeroValue123
  t146 := Tryz.underlying141
  a146 := Tryz.isAgg141
  z146 := Tryz.sizeOf141
  v146 := Tryz.zeroValue141
  t148 := Tryz.underlying143
  a148 := Tryz.isAgg143
  z148 := Tryz.sizeOf143
  v148 := Tryz.zeroValue143 }
end Go.Proofs.YtkkmioffclpmfaaGreat
