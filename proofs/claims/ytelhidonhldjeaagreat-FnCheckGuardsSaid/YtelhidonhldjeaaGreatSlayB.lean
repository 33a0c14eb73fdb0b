/-
  Contracts of the library, laid at this program by the kit's own tool, in plain words: tables of numbers and one theorem each. No condition.
-/
import Derived.Shelf.SlGeneric
import Derived.Shelf.Bits.Mul64
import Derived.Ground.NamesProg
import Derived.Test.YtelhidonhldjeaaGreatProg
set_option linter.unusedVariables false
namespace Go.Proofs.YtelhidonhldjeaaGreat
open Go.Proofs
open Go.Shelf
def Tryz.mulB_ren : Go.Shelf.Ren := ⟨fun | 212 => 99 | 263 => 127 | 264 => 128 | n => n, fun | 46 => 96 | 51 => 124 | 146 => 129 | 53 => 126 | 148 => 131 | n => n, fun | n => n⟩
theorem Tryz.mulB : Go.Proofs.Lays.n212 Tryz.prog Tryz.mulB_ren := {
  mixed := by kernel_rfl
  f212 := Tryz.func99.trans (congrArg some (by kernel_rfl))
  f263 := Tryz.func127.trans (congrArg some (by kernel_rfl))
  f264 := Tryz.func128.trans (congrArg some (by kernel_rfl))
  t46 := Tryz.underlying96
  a46 := Tryz.isAgg96
  z46 := Tryz.sizeOf96
  v46 := Tryz.zeroValue96
  t51 := Tryz.underlying124
  a51 := Tryz.isAgg124
  z51 := Tryz.sizeOf124
  v51 := Tryz.zeroValue124
  t53 := Tryz.underlying126
  a53 := Tryz.isAgg126
  z53 := Tryz.sizeOf126
  v53 := Tryz.zeroValue126
  t146 := Tryz.underlying129
  a146 := Tryz.isAgg129
  z146 := Tryz.sizeOf129
  v146 := Tryz.zeroValue129
  t148 := Tryz.underlying131
  a148 := Tryz.isAgg131
  z148 := Tryz.sizeOf131
  v148 := Tryz.zeroValue131 }
end Go.Proofs.YtelhidonhldjeaaGreat
