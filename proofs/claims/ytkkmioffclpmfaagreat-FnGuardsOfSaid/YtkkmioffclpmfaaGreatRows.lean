/-
  No cell of these rows narrows 'for every input' (looked for: loops, veiled, ifaces, maps, wideKeys, modest, calm, conditions, laid).
  DERIVED. THE GIVEN ROWS OF THIS SEAT. 7 by the template 'for every input the law returns true; each argument reads behind the call as it read before'; 0 by the template 'total and deterministic' (their statements: YtkkmioffclpmfaaGreatTotals.lean).
  GIVEN WITH THE SEED: the statements are not yours to turn. If you find one false, say at which input.
  Laid BY PROGRAM, IN A SANDBOX (cutbox-rows.mjs): the forced cells as the released guide's own fill.sh prints them over the translation 496f1a8860f1dc2d… (all of the seat's roots in one cut). By AI agents, Wed Nov 11 2026. No macro, syntax, notation, axiom, sorry.
-/
import Derived.Test.YtkkmioffclpmfaaGreatChecked
import GoSem.Claim
import GoSem.ClaimJoined
import GoSem.ClaimMapViews
import Derived.JoinedTies
import Derived.KernelRfl
namespace Go.Proofs.YtkkmioffclpmfaaGreat
/- THE CELL 'sum', in the pinned program and in every row, IS THE sha256 OF THE DUMP (.gsa) THAT YtkkmioffclpmfaaGreatProg.lean LOADS. Nothing in Lean hashes anything: it is a label: what it is worth is what the hold of that sum in a sandbox is worth. -/
noncomputable def Tryz.pinned : Pinned := { name := "ytkkmioffclpmfaagreat", sum := "496f1a8860f1dc2d0ee944c398b322be977a4d1a06fa09ed77a9dd804556e1be", checked := Tryz.checked }
namespace Rows
def none {H : Type} : Left H := { results := [], args := [] }

/-- 'laws.FnEarsOf': WHATEVER THE INPUT: true; the input reads as it did. -/
def fnEarsOfSpec : ChangeSpec := { name := "fnEarsOf", fn := fun _ => fun
  | [d] => { results := [.lit (.bool true)], args := [d] }
  | _ => none }
def fnEarsOfRow : OpenClaim := { program := "ytkkmioffclpmfaagreat", sum := "496f1a8860f1dc2d0ee944c398b322be977a4d1a06fa09ed77a9dd804556e1be", func := "loop.example/planargeometry/laws.FnEarsOf", spec := "fnEarsOf", unfollowed := true, recurses := true, plainKeys := false, apart := false }
def FnEarsOfSaid : Prop := fnEarsOfRow.holds Tryz.pinned (OpenSpec.ofChange fnEarsOfSpec)

/-- ITS FALSE NEIGHBOUR: 'it returns false'. Refute it at one input. -/
def fnEarsOfWrong : ChangeSpec := { name := "fnEarsOf", fn := fun _ => fun
  | [d] => { results := [.lit (.bool false)], args := [d] }
  | _ => none }
def FnEarsOfWrongFalsely : Prop := fnEarsOfRow.holds Tryz.pinned (OpenSpec.ofChange fnEarsOfWrong)

/-- 'laws.FnEarDiagonal': WHATEVER THE INPUT: true; the input reads as it did. -/
def fnEarDiagonalSpec : ChangeSpec := { name := "fnEarDiagonal", fn := fun _ => fun
  | [d] => { results := [.lit (.bool true)], args := [d] }
  | _ => none }
def fnEarDiagonalRow : OpenClaim := { program := "ytkkmioffclpmfaagreat", sum := "496f1a8860f1dc2d0ee944c398b322be977a4d1a06fa09ed77a9dd804556e1be", func := "loop.example/planargeometry/laws.FnEarDiagonal", spec := "fnEarDiagonal", unfollowed := true, recurses := true, plainKeys := false, apart := false }
def FnEarDiagonalSaid : Prop := fnEarDiagonalRow.holds Tryz.pinned (OpenSpec.ofChange fnEarDiagonalSpec)

/-- ITS FALSE NEIGHBOUR: 'it returns false'. Refute it at one input. -/
def fnEarDiagonalWrong : ChangeSpec := { name := "fnEarDiagonal", fn := fun _ => fun
  | [d] => { results := [.lit (.bool false)], args := [d] }
  | _ => none }
def FnEarDiagonalWrongFalsely : Prop := fnEarDiagonalRow.holds Tryz.pinned (OpenSpec.ofChange fnEarDiagonalWrong)

/-- 'laws.FnTriangulate': WHATEVER THE INPUT: true; the input reads as it did. -/
def fnTriangulateSpec : ChangeSpec := { name := "fnTriangulate", fn := fun _ => fun
  | [d] => { results := [.lit (.bool true)], args := [d] }
  | _ => none }
def fnTriangulateRow : OpenClaim := { program := "ytkkmioffclpmfaagreat", sum := "496f1a8860f1dc2d0ee944c398b322be977a4d1a06fa09ed77a9dd804556e1be", func := "loop.example/planargeometry/laws.FnTriangulate", spec := "fnTriangulate", unfollowed := true, recurses := true, plainKeys := false, apart := false }
def FnTriangulateSaid : Prop := fnTriangulateRow.holds Tryz.pinned (OpenSpec.ofChange fnTriangulateSpec)

/-- ITS FALSE NEIGHBOUR: 'it returns false'. Refute it at one input. -/
def fnTriangulateWrong : ChangeSpec := { name := "fnTriangulate", fn := fun _ => fun
  | [d] => { results := [.lit (.bool false)], args := [d] }
  | _ => none }
def FnTriangulateWrongFalsely : Prop := fnTriangulateRow.holds Tryz.pinned (OpenSpec.ofChange fnTriangulateWrong)

/-- 'laws.FnTriangleSides': WHATEVER THE INPUT: true; the input reads as it did. -/
def fnTriangleSidesSpec : ChangeSpec := { name := "fnTriangleSides", fn := fun _ => fun
  | [d] => { results := [.lit (.bool true)], args := [d] }
  | _ => none }
def fnTriangleSidesRow : OpenClaim := { program := "ytkkmioffclpmfaagreat", sum := "496f1a8860f1dc2d0ee944c398b322be977a4d1a06fa09ed77a9dd804556e1be", func := "loop.example/planargeometry/laws.FnTriangleSides", spec := "fnTriangleSides", unfollowed := true, recurses := true, plainKeys := false, apart := false }
def FnTriangleSidesSaid : Prop := fnTriangleSidesRow.holds Tryz.pinned (OpenSpec.ofChange fnTriangleSidesSpec)

/-- ITS FALSE NEIGHBOUR: 'it returns false'. Refute it at one input. -/
def fnTriangleSidesWrong : ChangeSpec := { name := "fnTriangleSides", fn := fun _ => fun
  | [d] => { results := [.lit (.bool false)], args := [d] }
  | _ => none }
def FnTriangleSidesWrongFalsely : Prop := fnTriangleSidesRow.holds Tryz.pinned (OpenSpec.ofChange fnTriangleSidesWrong)

/-- 'laws.FnCheckTriangulation': WHATEVER THE INPUT: true; the input reads as it did. -/
def fnCheckTriangulationSpec : ChangeSpec := { name := "fnCheckTriangulation", fn := fun _ => fun
  | [d] => { results := [.lit (.bool true)], args := [d] }
  | _ => none }
def fnCheckTriangulationRow : OpenClaim := { program := "ytkkmioffclpmfaagreat", sum := "496f1a8860f1dc2d0ee944c398b322be977a4d1a06fa09ed77a9dd804556e1be", func := "loop.example/planargeometry/laws.FnCheckTriangulation", spec := "fnCheckTriangulation", unfollowed := true, recurses := true, plainKeys := false, apart := false }
def FnCheckTriangulationSaid : Prop := fnCheckTriangulationRow.holds Tryz.pinned (OpenSpec.ofChange fnCheckTriangulationSpec)

/-- ITS FALSE NEIGHBOUR: 'it returns false'. Refute it at one input. -/
def fnCheckTriangulationWrong : ChangeSpec := { name := "fnCheckTriangulation", fn := fun _ => fun
  | [d] => { results := [.lit (.bool false)], args := [d] }
  | _ => none }
def FnCheckTriangulationWrongFalsely : Prop := fnCheckTriangulationRow.holds Tryz.pinned (OpenSpec.ofChange fnCheckTriangulationWrong)

/-- 'laws.FnExactGuardsOf': WHATEVER THE INPUT: true; the input reads as it did. -/
def fnExactGuardsOfSpec : ChangeSpec := { name := "fnExactGuardsOf", fn := fun _ => fun
  | [d] => { results := [.lit (.bool true)], args := [d] }
  | _ => none }
def fnExactGuardsOfRow : OpenClaim := { program := "ytkkmioffclpmfaagreat", sum := "496f1a8860f1dc2d0ee944c398b322be977a4d1a06fa09ed77a9dd804556e1be", func := "loop.example/planargeometry/laws.FnExactGuardsOf", spec := "fnExactGuardsOf", unfollowed := true, recurses := true, plainKeys := false, apart := false }
def FnExactGuardsOfSaid : Prop := fnExactGuardsOfRow.holds Tryz.pinned (OpenSpec.ofChange fnExactGuardsOfSpec)

/-- ITS FALSE NEIGHBOUR: 'it returns false'. Refute it at one input. -/
def fnExactGuardsOfWrong : ChangeSpec := { name := "fnExactGuardsOf", fn := fun _ => fun
  | [d] => { results := [.lit (.bool false)], args := [d] }
  | _ => none }
def FnExactGuardsOfWrongFalsely : Prop := fnExactGuardsOfRow.holds Tryz.pinned (OpenSpec.ofChange fnExactGuardsOfWrong)

/-- 'laws.FnGuardsOf': WHATEVER THE INPUT: true; the input reads as it did. -/
def fnGuardsOfSpec : ChangeSpec := { name := "fnGuardsOf", fn := fun _ => fun
  | [d] => { results := [.lit (.bool true)], args := [d] }
  | _ => none }
def fnGuardsOfRow : OpenClaim := { program := "ytkkmioffclpmfaagreat", sum := "496f1a8860f1dc2d0ee944c398b322be977a4d1a06fa09ed77a9dd804556e1be", func := "loop.example/planargeometry/laws.FnGuardsOf", spec := "fnGuardsOf", unfollowed := true, recurses := true, plainKeys := false, apart := false }
def FnGuardsOfSaid : Prop := fnGuardsOfRow.holds Tryz.pinned (OpenSpec.ofChange fnGuardsOfSpec)

/-- ITS FALSE NEIGHBOUR: 'it returns false'. Refute it at one input. -/
def fnGuardsOfWrong : ChangeSpec := { name := "fnGuardsOf", fn := fun _ => fun
  | [d] => { results := [.lit (.bool false)], args := [d] }
  | _ => none }
def FnGuardsOfWrongFalsely : Prop := fnGuardsOfRow.holds Tryz.pinned (OpenSpec.ofChange fnGuardsOfWrong)

/- THE SECOND FORM. 'bulk': how many values and letters a reading holds, each counted each time it is reached (what is shared counts as often as it is met; a slice's spare places count too). A statement '..UptoSaid' is the law's where the arguments, and the package variables that the reading takes, are together of bulk at most 1048576: NARROWER than '..Said'. Prove '..Said' where nothing that the law and all that it calls make is longer than what came in: it says more and counts as full. Else prove '..UptoSaid'. A law counts once. -/
mutual
def uptoBulk {H : Type} : DataW H → Nat
  | .lit (.string bytes) => bytes.length + 1
  | .lit _ => 1
  | .nil => 1
  | .ptr d => uptoBulk d + 1
  | .slice elems spare => uptoBulkAll elems + uptoBulkAll spare + 1
  | .agg parts => uptoBulkAll parts + 1
  | .iface _ d => uptoBulk d + 1
  | .map entries => uptoBulkEntries entries + 1
  | .held _ => 1
def uptoBulkAll {H : Type} : List (DataW H) → Nat
  | [] => 0
  | d :: r => uptoBulk d + uptoBulkAll r
def uptoBulkEntries {H : Type} : List (Lit × DataW H) → Nat
  | [] => 0
  | x :: r => uptoBulkEntry x + uptoBulkEntries r
def uptoBulkEntry {H : Type} : Lit × DataW H → Nat
  | (.string bytes, d) => bytes.length + uptoBulk d + 1
  | (_, d) => uptoBulk d + 1
 end
def uptoSmall : (H : Type) → List (DataW H) → Bool := fun _ ds => decide (uptoBulkAll ds ≤ 1048576)
def OpenSpec.upto (s : _root_.Go.ChangeSpec) : _root_.Go.OpenSpec := { _root_.Go.OpenSpec.ofChange s with cond := some uptoSmall }

/-- 'laws.FnEarsOf', WHERE WHAT IT READS IS OF BULK AT MOST 1048576: true; the input reads as it did. -/
def fnEarsOfUptoRow : OpenClaim := { program := "ytkkmioffclpmfaagreat", sum := "496f1a8860f1dc2d0ee944c398b322be977a4d1a06fa09ed77a9dd804556e1be", func := "loop.example/planargeometry/laws.FnEarsOf", spec := "fnEarsOf", unfollowed := true, recurses := true, plainKeys := false, apart := false, narrowed := true }
def FnEarsOfUptoSaid : Prop := fnEarsOfUptoRow.holds Tryz.pinned (OpenSpec.upto fnEarsOfSpec)

/-- 'laws.FnEarDiagonal', WHERE WHAT IT READS IS OF BULK AT MOST 1048576: true; the input reads as it did. -/
def fnEarDiagonalUptoRow : OpenClaim := { program := "ytkkmioffclpmfaagreat", sum := "496f1a8860f1dc2d0ee944c398b322be977a4d1a06fa09ed77a9dd804556e1be", func := "loop.example/planargeometry/laws.FnEarDiagonal", spec := "fnEarDiagonal", unfollowed := true, recurses := true, plainKeys := false, apart := false, narrowed := true }
def FnEarDiagonalUptoSaid : Prop := fnEarDiagonalUptoRow.holds Tryz.pinned (OpenSpec.upto fnEarDiagonalSpec)

/-- 'laws.FnTriangulate', WHERE WHAT IT READS IS OF BULK AT MOST 1048576: true; the input reads as it did. -/
def fnTriangulateUptoRow : OpenClaim := { program := "ytkkmioffclpmfaagreat", sum := "496f1a8860f1dc2d0ee944c398b322be977a4d1a06fa09ed77a9dd804556e1be", func := "loop.example/planargeometry/laws.FnTriangulate", spec := "fnTriangulate", unfollowed := true, recurses := true, plainKeys := false, apart := false, narrowed := true }
def FnTriangulateUptoSaid : Prop := fnTriangulateUptoRow.holds Tryz.pinned (OpenSpec.upto fnTriangulateSpec)

/-- 'laws.FnTriangleSides', WHERE WHAT IT READS IS OF BULK AT MOST 1048576: true; the input reads as it did. -/
def fnTriangleSidesUptoRow : OpenClaim := { program := "ytkkmioffclpmfaagreat", sum := "496f1a8860f1dc2d0ee944c398b322be977a4d1a06fa09ed77a9dd804556e1be", func := "loop.example/planargeometry/laws.FnTriangleSides", spec := "fnTriangleSides", unfollowed := true, recurses := true, plainKeys := false, apart := false, narrowed := true }
def FnTriangleSidesUptoSaid : Prop := fnTriangleSidesUptoRow.holds Tryz.pinned (OpenSpec.upto fnTriangleSidesSpec)

/-- 'laws.FnCheckTriangulation', WHERE WHAT IT READS IS OF BULK AT MOST 1048576: true; the input reads as it did. -/
def fnCheckTriangulationUptoRow : OpenClaim := { program := "ytkkmioffclpmfaagreat", sum := "496f1a8860f1dc2d0ee944c398b322be977a4d1a06fa09ed77a9dd804556e1be", func := "loop.example/planargeometry/laws.FnCheckTriangulation", spec := "fnCheckTriangulation", unfollowed := true, recurses := true, plainKeys := false, apart := false, narrowed := true }
def FnCheckTriangulationUptoSaid : Prop := fnCheckTriangulationUptoRow.holds Tryz.pinned (OpenSpec.upto fnCheckTriangulationSpec)

/-- 'laws.FnExactGuardsOf', WHERE WHAT IT READS IS OF BULK AT MOST 1048576: true; the input reads as it did. -/
def fnExactGuardsOfUptoRow : OpenClaim := { program := "ytkkmioffclpmfaagreat", sum := "496f1a8860f1dc2d0ee944c398b322be977a4d1a06fa09ed77a9dd804556e1be", func := "loop.example/planargeometry/laws.FnExactGuardsOf", spec := "fnExactGuardsOf", unfollowed := true, recurses := true, plainKeys := false, apart := false, narrowed := true }
def FnExactGuardsOfUptoSaid : Prop := fnExactGuardsOfUptoRow.holds Tryz.pinned (OpenSpec.upto fnExactGuardsOfSpec)

/-- 'laws.FnGuardsOf', WHERE WHAT IT READS IS OF BULK AT MOST 1048576: true; the input reads as it did. -/
def fnGuardsOfUptoRow : OpenClaim := { program := "ytkkmioffclpmfaagreat", sum := "496f1a8860f1dc2d0ee944c398b322be977a4d1a06fa09ed77a9dd804556e1be", func := "loop.example/planargeometry/laws.FnGuardsOf", spec := "fnGuardsOf", unfollowed := true, recurses := true, plainKeys := false, apart := false, narrowed := true }
def FnGuardsOfUptoSaid : Prop := fnGuardsOfUptoRow.holds Tryz.pinned (OpenSpec.upto fnGuardsOfSpec)

end Rows
end Go.Proofs.YtkkmioffclpmfaaGreat
