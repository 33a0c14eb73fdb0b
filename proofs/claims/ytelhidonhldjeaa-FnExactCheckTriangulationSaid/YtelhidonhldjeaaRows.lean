/-
  No cell of these rows narrows 'for every input' (looked for: loops, veiled, ifaces, maps, wideKeys, modest, calm, conditions, laid).
  DERIVED. THE GIVEN ROWS OF THIS SEAT. 7 by the template 'for every input the law returns true; each argument reads behind the call as it read before'; 0 by the template 'total and deterministic' (their statements: YtelhidonhldjeaaTotals.lean).
  GIVEN WITH THE SEED: the statements are not yours to turn. If you find one false, say at which input.
  Laid BY PROGRAM, IN A SANDBOX (cutbox-rows.mjs): the forced cells as the released guide's own fill.sh prints them over the translation 661bb18746ce2bfb… (all of the seat's roots in one cut). By AI agents, Wed Nov 11 2026. No macro, syntax, notation, axiom, sorry.
-/
import Derived.Test.YtelhidonhldjeaaChecked
import GoSem.Claim
import GoSem.ClaimJoined
import GoSem.ClaimMapViews
import Derived.JoinedTies
import Derived.KernelRfl
namespace Go.Proofs.Ytelhidonhldjeaa
/- THE CELL 'sum', in the pinned program and in every row, IS THE sha256 OF THE DUMP (.gsa) THAT YtelhidonhldjeaaProg.lean LOADS. Nothing in Lean hashes anything: it is a label: what it is worth is what the hold of that sum in a sandbox is worth. -/
noncomputable def Try.pinned : Pinned := { name := "ytelhidonhldjeaa", sum := "661bb18746ce2bfbb8b723f7b54922b4a3c72dbd5a8ff36128453895663f7b57", checked := Try.checked }
namespace Rows
def none {H : Type} : Left H := { results := [], args := [] }

/-- 'laws.FnPick': WHATEVER THE INPUT: true; the input reads as it did. -/
def fnPickSpec : ChangeSpec := { name := "fnPick", fn := fun _ => fun
  | [d] => { results := [.lit (.bool true)], args := [d] }
  | _ => none }
def fnPickRow : OpenClaim := { program := "ytelhidonhldjeaa", sum := "661bb18746ce2bfbb8b723f7b54922b4a3c72dbd5a8ff36128453895663f7b57", func := "loop.example/planargeometry/laws.FnPick", spec := "fnPick", unfollowed := true, recurses := true, plainKeys := false, apart := false }
def FnPickSaid : Prop := fnPickRow.holds Try.pinned (OpenSpec.ofChange fnPickSpec)

/-- ITS FALSE NEIGHBOUR: 'it returns false'. Refute it at one input. -/
def fnPickWrong : ChangeSpec := { name := "fnPick", fn := fun _ => fun
  | [d] => { results := [.lit (.bool false)], args := [d] }
  | _ => none }
def FnPickWrongFalsely : Prop := fnPickRow.holds Try.pinned (OpenSpec.ofChange fnPickWrong)

/-- 'laws.FnMapArea': WHATEVER THE INPUT: true; the input reads as it did. -/
def fnMapAreaSpec : ChangeSpec := { name := "fnMapArea", fn := fun _ => fun
  | [d] => { results := [.lit (.bool true)], args := [d] }
  | _ => none }
def fnMapAreaRow : OpenClaim := { program := "ytelhidonhldjeaa", sum := "661bb18746ce2bfbb8b723f7b54922b4a3c72dbd5a8ff36128453895663f7b57", func := "loop.example/planargeometry/laws.FnMapArea", spec := "fnMapArea", unfollowed := true, recurses := true, plainKeys := false, apart := false }
def FnMapAreaSaid : Prop := fnMapAreaRow.holds Try.pinned (OpenSpec.ofChange fnMapAreaSpec)

/-- ITS FALSE NEIGHBOUR: 'it returns false'. Refute it at one input. -/
def fnMapAreaWrong : ChangeSpec := { name := "fnMapArea", fn := fun _ => fun
  | [d] => { results := [.lit (.bool false)], args := [d] }
  | _ => none }
def FnMapAreaWrongFalsely : Prop := fnMapAreaRow.holds Try.pinned (OpenSpec.ofChange fnMapAreaWrong)

/-- 'laws.FnMapInterior': WHATEVER THE INPUT: true; the input reads as it did. -/
def fnMapInteriorSpec : ChangeSpec := { name := "fnMapInterior", fn := fun _ => fun
  | [d] => { results := [.lit (.bool true)], args := [d] }
  | _ => none }
def fnMapInteriorRow : OpenClaim := { program := "ytelhidonhldjeaa", sum := "661bb18746ce2bfbb8b723f7b54922b4a3c72dbd5a8ff36128453895663f7b57", func := "loop.example/planargeometry/laws.FnMapInterior", spec := "fnMapInterior", unfollowed := true, recurses := true, plainKeys := false, apart := false }
def FnMapInteriorSaid : Prop := fnMapInteriorRow.holds Try.pinned (OpenSpec.ofChange fnMapInteriorSpec)

/-- ITS FALSE NEIGHBOUR: 'it returns false'. Refute it at one input. -/
def fnMapInteriorWrong : ChangeSpec := { name := "fnMapInterior", fn := fun _ => fun
  | [d] => { results := [.lit (.bool false)], args := [d] }
  | _ => none }
def FnMapInteriorWrongFalsely : Prop := fnMapInteriorRow.holds Try.pinned (OpenSpec.ofChange fnMapInteriorWrong)

/-- 'laws.FnCanonical': WHATEVER THE INPUT: true; the input reads as it did. -/
def fnCanonicalSpec : ChangeSpec := { name := "fnCanonical", fn := fun _ => fun
  | [d1, d2] => { results := [.lit (.bool true)], args := [d1, d2] }
  | _ => none }
def fnCanonicalRow : OpenClaim := { program := "ytelhidonhldjeaa", sum := "661bb18746ce2bfbb8b723f7b54922b4a3c72dbd5a8ff36128453895663f7b57", func := "loop.example/planargeometry/laws.FnCanonical", spec := "fnCanonical", unfollowed := true, recurses := true, plainKeys := false, apart := false }
def FnCanonicalSaid : Prop := fnCanonicalRow.holds Try.pinned (OpenSpec.ofChange fnCanonicalSpec)

/-- ITS FALSE NEIGHBOUR: 'it returns false'. Refute it at one input. -/
def fnCanonicalWrong : ChangeSpec := { name := "fnCanonical", fn := fun _ => fun
  | [d1, d2] => { results := [.lit (.bool false)], args := [d1, d2] }
  | _ => none }
def FnCanonicalWrongFalsely : Prop := fnCanonicalRow.holds Try.pinned (OpenSpec.ofChange fnCanonicalWrong)

/-- 'laws.FnHullWitness': WHATEVER THE INPUT: true; the input reads as it did. -/
def fnHullWitnessSpec : ChangeSpec := { name := "fnHullWitness", fn := fun _ => fun
  | [d] => { results := [.lit (.bool true)], args := [d] }
  | _ => none }
def fnHullWitnessRow : OpenClaim := { program := "ytelhidonhldjeaa", sum := "661bb18746ce2bfbb8b723f7b54922b4a3c72dbd5a8ff36128453895663f7b57", func := "loop.example/planargeometry/laws.FnHullWitness", spec := "fnHullWitness", unfollowed := true, recurses := true, plainKeys := false, apart := false }
def FnHullWitnessSaid : Prop := fnHullWitnessRow.holds Try.pinned (OpenSpec.ofChange fnHullWitnessSpec)

/-- ITS FALSE NEIGHBOUR: 'it returns false'. Refute it at one input. -/
def fnHullWitnessWrong : ChangeSpec := { name := "fnHullWitness", fn := fun _ => fun
  | [d] => { results := [.lit (.bool false)], args := [d] }
  | _ => none }
def FnHullWitnessWrongFalsely : Prop := fnHullWitnessRow.holds Try.pinned (OpenSpec.ofChange fnHullWitnessWrong)

/-- 'laws.FnCheckHull': WHATEVER THE INPUT: true; the input reads as it did. -/
def fnCheckHullSpec : ChangeSpec := { name := "fnCheckHull", fn := fun _ => fun
  | [d] => { results := [.lit (.bool true)], args := [d] }
  | _ => none }
def fnCheckHullRow : OpenClaim := { program := "ytelhidonhldjeaa", sum := "661bb18746ce2bfbb8b723f7b54922b4a3c72dbd5a8ff36128453895663f7b57", func := "loop.example/planargeometry/laws.FnCheckHull", spec := "fnCheckHull", unfollowed := true, recurses := true, plainKeys := false, apart := false }
def FnCheckHullSaid : Prop := fnCheckHullRow.holds Try.pinned (OpenSpec.ofChange fnCheckHullSpec)

/-- ITS FALSE NEIGHBOUR: 'it returns false'. Refute it at one input. -/
def fnCheckHullWrong : ChangeSpec := { name := "fnCheckHull", fn := fun _ => fun
  | [d] => { results := [.lit (.bool false)], args := [d] }
  | _ => none }
def FnCheckHullWrongFalsely : Prop := fnCheckHullRow.holds Try.pinned (OpenSpec.ofChange fnCheckHullWrong)

/-- 'laws.FnExactCheckTriangulation': WHATEVER THE INPUT: true; the input reads as it did. -/
def fnExactCheckTriangulationSpec : ChangeSpec := { name := "fnExactCheckTriangulation", fn := fun _ => fun
  | [d1, d2] => { results := [.lit (.bool true)], args := [d1, d2] }
  | _ => none }
def fnExactCheckTriangulationRow : OpenClaim := { program := "ytelhidonhldjeaa", sum := "661bb18746ce2bfbb8b723f7b54922b4a3c72dbd5a8ff36128453895663f7b57", func := "loop.example/planargeometry/laws.FnExactCheckTriangulation", spec := "fnExactCheckTriangulation", unfollowed := true, recurses := true, plainKeys := false, apart := false }
def FnExactCheckTriangulationSaid : Prop := fnExactCheckTriangulationRow.holds Try.pinned (OpenSpec.ofChange fnExactCheckTriangulationSpec)

/-- ITS FALSE NEIGHBOUR: 'it returns false'. Refute it at one input. -/
def fnExactCheckTriangulationWrong : ChangeSpec := { name := "fnExactCheckTriangulation", fn := fun _ => fun
  | [d1, d2] => { results := [.lit (.bool false)], args := [d1, d2] }
  | _ => none }
def FnExactCheckTriangulationWrongFalsely : Prop := fnExactCheckTriangulationRow.holds Try.pinned (OpenSpec.ofChange fnExactCheckTriangulationWrong)

/- THE SECOND FORM. 'bulk': how many values and letters a reading holds, each counted each time it is reached (what is shared counts as often as it is met; a slice's spare places count too). A statement '..UptoSaid' is the law's where the arguments, and the package variables that the reading takes, are together of bulk at most 1048576: NARROWER than '..Said'. Prove '..Said' where nothing that the law and all that it calls make is longer than what came in: it says more and counts as full. Else prove '..UptoSaid'. A law counts once. -/
mutual
def uptoBulk {H : Type} : DataW H → Nat
  | .lit (.string bytes) => bytes.length + 1
  | .lit _ => 1
  | .nil => 1
  | .ptr d => uptoBulk d + 1
  | .slice elems spare => uptoBulkAll elems + uptoBulkAll spare + 1
  | .agg parts => uptoBulkAll parts + 1
  | .iface _ d => uptoBulk d + 1
  | .map entries => uptoBulkEntries entries + 1
  | .held _ => 1
def uptoBulkAll {H : Type} : List (DataW H) → Nat
  | [] => 0
  | d :: r => uptoBulk d + uptoBulkAll r
def uptoBulkEntries {H : Type} : List (Lit × DataW H) → Nat
  | [] => 0
  | x :: r => uptoBulkEntry x + uptoBulkEntries r
def uptoBulkEntry {H : Type} : Lit × DataW H → Nat
  | (.string bytes, d) => bytes.length + uptoBulk d + 1
  | (_, d) => uptoBulk d + 1
 end
def uptoSmall : (H : Type) → List (DataW H) → Bool := fun _ ds => decide (uptoBulkAll ds ≤ 1048576)
def OpenSpec.upto (s : _root_.Go.ChangeSpec) : _root_.Go.OpenSpec := { _root_.Go.OpenSpec.ofChange s with cond := some uptoSmall }

/-- 'laws.FnPick', WHERE WHAT IT READS IS OF BULK AT MOST 1048576: true; the input reads as it did. -/
def fnPickUptoRow : OpenClaim := { program := "ytelhidonhldjeaa", sum := "661bb18746ce2bfbb8b723f7b54922b4a3c72dbd5a8ff36128453895663f7b57", func := "loop.example/planargeometry/laws.FnPick", spec := "fnPick", unfollowed := true, recurses := true, plainKeys := false, apart := false, narrowed := true }
def FnPickUptoSaid : Prop := fnPickUptoRow.holds Try.pinned (OpenSpec.upto fnPickSpec)

/-- 'laws.FnMapArea', WHERE WHAT IT READS IS OF BULK AT MOST 1048576: true; the input reads as it did. -/
def fnMapAreaUptoRow : OpenClaim := { program := "ytelhidonhldjeaa", sum := "661bb18746ce2bfbb8b723f7b54922b4a3c72dbd5a8ff36128453895663f7b57", func := "loop.example/planargeometry/laws.FnMapArea", spec := "fnMapArea", unfollowed := true, recurses := true, plainKeys := false, apart := false, narrowed := true }
def FnMapAreaUptoSaid : Prop := fnMapAreaUptoRow.holds Try.pinned (OpenSpec.upto fnMapAreaSpec)

/-- 'laws.FnMapInterior', WHERE WHAT IT READS IS OF BULK AT MOST 1048576: true; the input reads as it did. -/
def fnMapInteriorUptoRow : OpenClaim := { program := "ytelhidonhldjeaa", sum := "661bb18746ce2bfbb8b723f7b54922b4a3c72dbd5a8ff36128453895663f7b57", func := "loop.example/planargeometry/laws.FnMapInterior", spec := "fnMapInterior", unfollowed := true, recurses := true, plainKeys := false, apart := false, narrowed := true }
def FnMapInteriorUptoSaid : Prop := fnMapInteriorUptoRow.holds Try.pinned (OpenSpec.upto fnMapInteriorSpec)

/-- 'laws.FnCanonical', WHERE WHAT IT READS IS OF BULK AT MOST 1048576: true; the input reads as it did. -/
def fnCanonicalUptoRow : OpenClaim := { program := "ytelhidonhldjeaa", sum := "661bb18746ce2bfbb8b723f7b54922b4a3c72dbd5a8ff36128453895663f7b57", func := "loop.example/planargeometry/laws.FnCanonical", spec := "fnCanonical", unfollowed := true, recurses := true, plainKeys := false, apart := false, narrowed := true }
def FnCanonicalUptoSaid : Prop := fnCanonicalUptoRow.holds Try.pinned (OpenSpec.upto fnCanonicalSpec)

/-- 'laws.FnHullWitness', WHERE WHAT IT READS IS OF BULK AT MOST 1048576: true; the input reads as it did. -/
def fnHullWitnessUptoRow : OpenClaim := { program := "ytelhidonhldjeaa", sum := "661bb18746ce2bfbb8b723f7b54922b4a3c72dbd5a8ff36128453895663f7b57", func := "loop.example/planargeometry/laws.FnHullWitness", spec := "fnHullWitness", unfollowed := true, recurses := true, plainKeys := false, apart := false, narrowed := true }
def FnHullWitnessUptoSaid : Prop := fnHullWitnessUptoRow.holds Try.pinned (OpenSpec.upto fnHullWitnessSpec)

/-- 'laws.FnCheckHull', WHERE WHAT IT READS IS OF BULK AT MOST 1048576: true; the input reads as it did. -/
def fnCheckHullUptoRow : OpenClaim := { program := "ytelhidonhldjeaa", sum := "661bb18746ce2bfbb8b723f7b54922b4a3c72dbd5a8ff36128453895663f7b57", func := "loop.example/planargeometry/laws.FnCheckHull", spec := "fnCheckHull", unfollowed := true, recurses := true, plainKeys := false, apart := false, narrowed := true }
def FnCheckHullUptoSaid : Prop := fnCheckHullUptoRow.holds Try.pinned (OpenSpec.upto fnCheckHullSpec)

/-- 'laws.FnExactCheckTriangulation', WHERE WHAT IT READS IS OF BULK AT MOST 1048576: true; the input reads as it did. -/
def fnExactCheckTriangulationUptoRow : OpenClaim := { program := "ytelhidonhldjeaa", sum := "661bb18746ce2bfbb8b723f7b54922b4a3c72dbd5a8ff36128453895663f7b57", func := "loop.example/planargeometry/laws.FnExactCheckTriangulation", spec := "fnExactCheckTriangulation", unfollowed := true, recurses := true, plainKeys := false, apart := false, narrowed := true }
def FnExactCheckTriangulationUptoSaid : Prop := fnExactCheckTriangulationUptoRow.holds Try.pinned (OpenSpec.upto fnExactCheckTriangulationSpec)

end Rows
end Go.Proofs.Ytelhidonhldjeaa
