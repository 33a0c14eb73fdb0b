
/- strings.Builder and strings.CutPrefix, as the walks want them. -/
import Derived.Test.YtnddfdhfefconaaGreatDoorSlayB2
import Derived.Test.YtnddfdhfefconaaGreatDoorEncP
import Derived.Shelf.Strings.BuilderK
import Derived.Shelf.Small.Wraps
set_option linter.unusedVariables false
set_option linter.unusedSimpArgs false
namespace Go.Proofs.YtnddfdhfefconaaGreatDoor
open Go.RowKit

def Tryz.bld_ren : Go.Shelf.Ren := ⟨fun | 166 => 27 | 167 => 29 | 169 => 30 | 240 => 48 | 276 => 82 | n => n, fun | 9 => 9 | 3 => 3 | 4 => 4 | 0 => 0 | 5 => 5 | 20 => 20 | 72 => 49 | 70 => 47 | 37 => 22 | 75 => 51 | 127 => 78 | 164 => 101 | 80 => 56 | n => n, fun | n => n⟩
theorem Tryz.bwsS : Go.Proofs.Lays.n166 Tryz.prog Tryz.bld_ren where
  mixed := by kernel_rfl
  f166 := Tryz.func27.trans (congrArg some (by kernel_rfl))
  f240 := Tryz.func48.trans (congrArg some (by kernel_rfl))
  f276 := Tryz.func82.trans (congrArg some (by kernel_rfl))
  t0 := Tryz.underlying0
  a0 := Tryz.isAgg0
  z0 := Tryz.sizeOf0
  v0 := Tryz.zeroValue0
  t3 := Tryz.underlying3
  a3 := Tryz.isAgg3
  z3 := Tryz.sizeOf3
  v3 := Tryz.zeroValue3
  t4 := Tryz.underlying4
  a4 := Tryz.isAgg4
  z4 := Tryz.sizeOf4
  v4 := Tryz.zeroValue4
  t9 := Tryz.underlying9
  a9 := Tryz.isAgg9
  z9 := Tryz.sizeOf9
  v9 := Tryz.zeroValue9
  t20 := Tryz.underlying20
  a20 := Tryz.isAgg20
  z20 := Tryz.sizeOf20
  v20 := Tryz.zeroValue20
  t37 := Tryz.underlying22
  a37 := Tryz.isAgg22
  z37 := Tryz.sizeOf22
  v37 := Tryz.zeroValue22
  t70 := Tryz.underlying47
  a70 := Tryz.isAgg47
  z70 := Tryz.sizeOf47
  v70 := Tryz.zeroValue47
  t72 := Tryz.underlying49
  a72 := Tryz.isAgg49
  z72 := Tryz.sizeOf49
  v72 := Tryz.zeroValue49
  t75 := Tryz.underlying51
  a75 := Tryz.isAgg51
  z75 := Tryz.sizeOf51
  v75 := Tryz.zeroValue51
  t164 := Tryz.underlying101
  a164 := Tryz.isAgg101
  z164 := Tryz.sizeOf101
  v164 := Tryz.zeroValue101
theorem Tryz.bwbS : Go.Proofs.Lays.n167 Tryz.prog Tryz.bld_ren := { Tryz.bwsS with
  f167 := Tryz.func29.trans (congrArg some (by kernel_rfl))
  t5 := Tryz.underlying5
  a5 := Tryz.isAgg5
  z5 := Tryz.sizeOf5
  v5 := Tryz.zeroValue5 }
theorem Tryz.bstrS : Go.Proofs.Lays.n169 Tryz.prog Tryz.bld_ren := { Tryz.bwsS with
  f169 := Tryz.func30.trans (congrArg some (by kernel_rfl))
  t127 := Tryz.underlying78
  a127 := Tryz.isAgg78
  z127 := Tryz.sizeOf78
  v127 := Tryz.zeroValue78 }
theorem bldX : Builder.Extra Tryz.prog Tryz.bld_ren where
  sizeBuilder := by kernel_rfl
  liesBuilder := by kernel_rfl
  t5 := Tryz.underlying5
  a5 := Tryz.isAgg5
  z5 := Tryz.sizeOf5
  v5 := Tryz.zeroValue5
  infoByte := by kernel_rfl
  cellsByte := by kernel_rfl
  sizeByte := by kernel_rfl
  neB5 := by decide
/-- The builder at block b holds these bytes; its blocks lie at B or later. -/
def Bld (B b : Nat) (l : List UInt8) (w : World) : Prop := Lib.IsBuilderF 49 5 B b (Lib.byteCells l) w
theorem cells_app (l m : List UInt8) : Lib.byteCells l ++ Lib.strCells (bS m) = Lib.byteCells (l ++ m) := by
  unfold Lib.strCells Lib.byteCells
  rw [List.map_append, bS_list]
theorem wstr_any (B b : Nat) (l m : List UInt8) (w : World) (h : Bld B b l w) (hl : l.length + m.length ≤ 2000000000) (hB : B ≤ w.heap.size) :
    Calls Tryz.prog 27 #[.pointer (some ⟨b, 0, none⟩), .string (bS m)] w fun e w' => e = .returned (.tuple #[.int .i64 (bS m).size, .nilIface]) ∧ Bld B b (l ++ m) w' ∧ Below B w w' ∧ Lib.OthersKept 5 (some b) w w' := by
  refine Calls.mono (Any.Builder_WriteString_k Tryz.bwsS bldX B b (Lib.byteCells l) (bS m) w h (by rw [bS_size]; unfold Lib.byteCells; rw [List.length_map]; omega) hB) fun e w' hh => ?_
  obtain ⟨h1, h2, h3, h4⟩ := hh
  exact ⟨h1, .inr (by rw [← cells_app]; exact h2), h3, h4⟩
theorem wbyte_any (B b : Nat) (l : List UInt8) (w : World) (h : Bld B b l w) (hl : l.length + 1 ≤ 2000000000) (hB : B ≤ w.heap.size) :
    Calls Tryz.prog 29 #[.pointer (some ⟨b, 0, none⟩), .int .u8 10] w fun e w' => e = .returned .nilIface ∧ Bld B b (l ++ [10]) w' ∧ Below B w w' ∧ Lib.OthersKept 5 (some b) w w' := by
  refine Calls.mono (Any.Builder_WriteByte_k Tryz.bwbS bldX B b (Lib.byteCells l) 10 w h (by unfold Lib.byteCells; rw [List.length_map]; omega) hB) fun e w' hh => ?_
  obtain ⟨h1, h2, h3, h4⟩ := hh
  exact ⟨h1, .inr (by rw [← cells_app]; exact h2), h3, h4⟩
theorem bstr_any (B b : Nat) (l : List UInt8) (w : World) (h : Bld B b l w) (hB : B ≤ w.heap.size) :
    Calls Tryz.prog 30 #[.pointer (some ⟨b, 0, none⟩)] w fun e w' => e = .returned (.string (bS l)) ∧ Below B w w' := by
  refine Calls.mono (Any.Builder_String_any_k Tryz.bstrS bldX B b l w h hB) fun e w' hh => ⟨hh.1, hh.2.2.1⟩
theorem cutp_any (l p : List UInt8) (w : World) :
    Calls Tryz.prog 49 #[.string (bS l), .string (bS p)] w fun e w' => e = .returned (.tuple #[.string (bS (Lib.trimPrefix l p)), .bool (Lib.hasPrefix l p)]) ∧ w = w' := by
  refine Calls.mono (Any.strings_CutPrefix Tryz.cutpS (bS l) (bS p) w) fun e w' hh => ⟨?_, hh.2.symm⟩
  have := hh.1
  rw [bS_list, bS_list] at this
  exact this
end Go.Proofs.YtnddfdhfefconaaGreatDoor
