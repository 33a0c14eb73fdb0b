/-
  No cell of these rows narrows 'for every input' (looked for: loops, veiled, ifaces, maps, wideKeys, modest, calm, conditions, laid).
  DERIVED. THE GIVEN ROWS OF THIS SEAT. 5 by the template 'for every input the law returns true; each argument reads behind the call as it read before'; 0 by the template 'total and deterministic' (their statements: YtelhidonhldjeaaGreatTotals.lean).
  GIVEN WITH THE SEED: the statements are not yours to turn. If you find one false, say at which input.
  Laid BY PROGRAM, IN A SANDBOX (cutbox-rows.mjs): the forced cells as the released guide's own fill.sh prints them over the translation ba313113dbebeaba… (all of the seat's roots in one cut). By AI agents, Wed Nov 11 2026. No macro, syntax, notation, axiom, sorry.
-/
import Derived.Test.YtelhidonhldjeaaGreatChecked
import GoSem.Claim
import GoSem.ClaimJoined
import GoSem.ClaimMapViews
import Derived.JoinedTies
import Derived.KernelRfl
namespace Go.Proofs.YtelhidonhldjeaaGreat
/- THE CELL 'sum', in the pinned program and in every row, IS THE sha256 OF THE DUMP (.gsa) THAT YtelhidonhldjeaaGreatProg.lean LOADS. Nothing in Lean hashes anything: it is a label: what it is worth is what the hold of that sum in a sandbox is worth. -/
noncomputable def Tryz.pinned : Pinned := { name := "ytelhidonhldjeaagreat", sum := "ba313113dbebeabac5dc4284721fe8e3c5f3289be985ada278e6ea0a1877f1f6", checked := Tryz.checked }
namespace Rows
def none {H : Type} : Left H := { results := [], args := [] }

/-- 'laws.FnExactCheckGuards': WHATEVER THE INPUT: true; the input reads as it did. -/
def fnExactCheckGuardsSpec : ChangeSpec := { name := "fnExactCheckGuards", fn := fun _ => fun
  | [d1, d2, d3] => { results := [.lit (.bool true)], args := [d1, d2, d3] }
  | _ => none }
def fnExactCheckGuardsRow : OpenClaim := { program := "ytelhidonhldjeaagreat", sum := "ba313113dbebeabac5dc4284721fe8e3c5f3289be985ada278e6ea0a1877f1f6", func := "loop.example/planargeometry/laws.FnExactCheckGuards", spec := "fnExactCheckGuards", unfollowed := true, recurses := true, plainKeys := false, apart := false }
def FnExactCheckGuardsSaid : Prop := fnExactCheckGuardsRow.holds Tryz.pinned (OpenSpec.ofChange fnExactCheckGuardsSpec)

/-- ITS FALSE NEIGHBOUR: 'it returns false'. Refute it at one input. -/
def fnExactCheckGuardsWrong : ChangeSpec := { name := "fnExactCheckGuards", fn := fun _ => fun
  | [d1, d2, d3] => { results := [.lit (.bool false)], args := [d1, d2, d3] }
  | _ => none }
def FnExactCheckGuardsWrongFalsely : Prop := fnExactCheckGuardsRow.holds Tryz.pinned (OpenSpec.ofChange fnExactCheckGuardsWrong)

/-- 'laws.FnExactColorVertices': WHATEVER THE INPUT: true; the input reads as it did. -/
def fnExactColorVerticesSpec : ChangeSpec := { name := "fnExactColorVertices", fn := fun _ => fun
  | [d1, d2] => { results := [.lit (.bool true)], args := [d1, d2] }
  | _ => none }
def fnExactColorVerticesRow : OpenClaim := { program := "ytelhidonhldjeaagreat", sum := "ba313113dbebeabac5dc4284721fe8e3c5f3289be985ada278e6ea0a1877f1f6", func := "loop.example/planargeometry/laws.FnExactColorVertices", spec := "fnExactColorVertices", unfollowed := true, recurses := true, plainKeys := false, apart := false }
def FnExactColorVerticesSaid : Prop := fnExactColorVerticesRow.holds Tryz.pinned (OpenSpec.ofChange fnExactColorVerticesSpec)

/-- ITS FALSE NEIGHBOUR: 'it returns false'. Refute it at one input. -/
def fnExactColorVerticesWrong : ChangeSpec := { name := "fnExactColorVertices", fn := fun _ => fun
  | [d1, d2] => { results := [.lit (.bool false)], args := [d1, d2] }
  | _ => none }
def FnExactColorVerticesWrongFalsely : Prop := fnExactColorVerticesRow.holds Tryz.pinned (OpenSpec.ofChange fnExactColorVerticesWrong)

/-- 'laws.FnExactEarsOf': WHATEVER THE INPUT: true; the input reads as it did. -/
def fnExactEarsOfSpec : ChangeSpec := { name := "fnExactEarsOf", fn := fun _ => fun
  | [d] => { results := [.lit (.bool true)], args := [d] }
  | _ => none }
def fnExactEarsOfRow : OpenClaim := { program := "ytelhidonhldjeaagreat", sum := "ba313113dbebeabac5dc4284721fe8e3c5f3289be985ada278e6ea0a1877f1f6", func := "loop.example/planargeometry/laws.FnExactEarsOf", spec := "fnExactEarsOf", unfollowed := true, recurses := true, plainKeys := false, apart := false }
def FnExactEarsOfSaid : Prop := fnExactEarsOfRow.holds Tryz.pinned (OpenSpec.ofChange fnExactEarsOfSpec)

/-- ITS FALSE NEIGHBOUR: 'it returns false'. Refute it at one input. -/
def fnExactEarsOfWrong : ChangeSpec := { name := "fnExactEarsOf", fn := fun _ => fun
  | [d] => { results := [.lit (.bool false)], args := [d] }
  | _ => none }
def FnExactEarsOfWrongFalsely : Prop := fnExactEarsOfRow.holds Tryz.pinned (OpenSpec.ofChange fnExactEarsOfWrong)

/-- 'laws.FnCheckGuards': WHATEVER THE INPUT: true; the input reads as it did. -/
def fnCheckGuardsSpec : ChangeSpec := { name := "fnCheckGuards", fn := fun _ => fun
  | [d] => { results := [.lit (.bool true)], args := [d] }
  | _ => none }
def fnCheckGuardsRow : OpenClaim := { program := "ytelhidonhldjeaagreat", sum := "ba313113dbebeabac5dc4284721fe8e3c5f3289be985ada278e6ea0a1877f1f6", func := "loop.example/planargeometry/laws.FnCheckGuards", spec := "fnCheckGuards", unfollowed := true, recurses := true, plainKeys := false, apart := false }
def FnCheckGuardsSaid : Prop := fnCheckGuardsRow.holds Tryz.pinned (OpenSpec.ofChange fnCheckGuardsSpec)

/-- ITS FALSE NEIGHBOUR: 'it returns false'. Refute it at one input. -/
def fnCheckGuardsWrong : ChangeSpec := { name := "fnCheckGuards", fn := fun _ => fun
  | [d] => { results := [.lit (.bool false)], args := [d] }
  | _ => none }
def FnCheckGuardsWrongFalsely : Prop := fnCheckGuardsRow.holds Tryz.pinned (OpenSpec.ofChange fnCheckGuardsWrong)

/-- 'laws.FnColorVertices': WHATEVER THE INPUT: true; the input reads as it did. -/
def fnColorVerticesSpec : ChangeSpec := { name := "fnColorVertices", fn := fun _ => fun
  | [d] => { results := [.lit (.bool true)], args := [d] }
  | _ => none }
def fnColorVerticesRow : OpenClaim := { program := "ytelhidonhldjeaagreat", sum := "ba313113dbebeabac5dc4284721fe8e3c5f3289be985ada278e6ea0a1877f1f6", func := "loop.example/planargeometry/laws.FnColorVertices", spec := "fnColorVertices", unfollowed := true, recurses := true, plainKeys := false, apart := false }
def FnColorVerticesSaid : Prop := fnColorVerticesRow.holds Tryz.pinned (OpenSpec.ofChange fnColorVerticesSpec)

/-- ITS FALSE NEIGHBOUR: 'it returns false'. Refute it at one input. -/
def fnColorVerticesWrong : ChangeSpec := { name := "fnColorVertices", fn := fun _ => fun
  | [d] => { results := [.lit (.bool false)], args := [d] }
  | _ => none }
def FnColorVerticesWrongFalsely : Prop := fnColorVerticesRow.holds Tryz.pinned (OpenSpec.ofChange fnColorVerticesWrong)

/- THE SECOND FORM. 'bulk': how many values and letters a reading holds, each counted each time it is reached (what is shared counts as often as it is met; a slice's spare places count too). A statement '..UptoSaid' is the law's where the arguments, and the package variables that the reading takes, are together of bulk at most 1048576: NARROWER than '..Said'. Prove '..Said' where nothing that the law and all that it calls make is longer than what came in: it says more and counts as full. Else prove '..UptoSaid'. A law counts once. -/
mutual
def uptoBulk {H : Type} : DataW H → Nat
  | .lit (.string bytes) => bytes.length + 1
  | .lit _ => 1
  | .nil => 1
  | .ptr d => uptoBulk d + 1
  | .slice elems spare => uptoBulkAll elems + uptoBulkAll spare + 1
  | .agg parts => uptoBulkAll parts + 1
  | .iface _ d => uptoBulk d + 1
  | .map entries => uptoBulkEntries entries + 1
  | .held _ => 1
def uptoBulkAll {H : Type} : List (DataW H) → Nat
  | [] => 0
  | d :: r => uptoBulk d + uptoBulkAll r
def uptoBulkEntries {H : Type} : List (Lit × DataW H) → Nat
  | [] => 0
  | x :: r => uptoBulkEntry x + uptoBulkEntries r
def uptoBulkEntry {H : Type} : Lit × DataW H → Nat
  | (.string bytes, d) => bytes.length + uptoBulk d + 1
  | (_, d) => uptoBulk d + 1
 end
def uptoSmall : (H : Type) → List (DataW H) → Bool := fun _ ds => decide (uptoBulkAll ds ≤ 1048576)
def OpenSpec.upto (s : _root_.Go.ChangeSpec) : _root_.Go.OpenSpec := { _root_.Go.OpenSpec.ofChange s with cond := some uptoSmall }

/-- 'laws.FnExactCheckGuards', WHERE WHAT IT READS IS OF BULK AT MOST 1048576: true; the input reads as it did. -/
def fnExactCheckGuardsUptoRow : OpenClaim := { program := "ytelhidonhldjeaagreat", sum := "ba313113dbebeabac5dc4284721fe8e3c5f3289be985ada278e6ea0a1877f1f6", func := "loop.example/planargeometry/laws.FnExactCheckGuards", spec := "fnExactCheckGuards", unfollowed := true, recurses := true, plainKeys := false, apart := false, narrowed := true }
def FnExactCheckGuardsUptoSaid : Prop := fnExactCheckGuardsUptoRow.holds Tryz.pinned (OpenSpec.upto fnExactCheckGuardsSpec)

/-- 'laws.FnExactColorVertices', WHERE WHAT IT READS IS OF BULK AT MOST 1048576: true; the input reads as it did. -/
def fnExactColorVerticesUptoRow : OpenClaim := { program := "ytelhidonhldjeaagreat", sum := "ba313113dbebeabac5dc4284721fe8e3c5f3289be985ada278e6ea0a1877f1f6", func := "loop.example/planargeometry/laws.FnExactColorVertices", spec := "fnExactColorVertices", unfollowed := true, recurses := true, plainKeys := false, apart := false, narrowed := true }
def FnExactColorVerticesUptoSaid : Prop := fnExactColorVerticesUptoRow.holds Tryz.pinned (OpenSpec.upto fnExactColorVerticesSpec)

/-- 'laws.FnExactEarsOf', WHERE WHAT IT READS IS OF BULK AT MOST 1048576: true; the input reads as it did. -/
def fnExactEarsOfUptoRow : OpenClaim := { program := "ytelhidonhldjeaagreat", sum := "ba313113dbebeabac5dc4284721fe8e3c5f3289be985ada278e6ea0a1877f1f6", func := "loop.example/planargeometry/laws.FnExactEarsOf", spec := "fnExactEarsOf", unfollowed := true, recurses := true, plainKeys := false, apart := false, narrowed := true }
def FnExactEarsOfUptoSaid : Prop := fnExactEarsOfUptoRow.holds Tryz.pinned (OpenSpec.upto fnExactEarsOfSpec)

/-- 'laws.FnCheckGuards', WHERE WHAT IT READS IS OF BULK AT MOST 1048576: true; the input reads as it did. -/
def fnCheckGuardsUptoRow : OpenClaim := { program := "ytelhidonhldjeaagreat", sum := "ba313113dbebeabac5dc4284721fe8e3c5f3289be985ada278e6ea0a1877f1f6", func := "loop.example/planargeometry/laws.FnCheckGuards", spec := "fnCheckGuards", unfollowed := true, recurses := true, plainKeys := false, apart := false, narrowed := true }
def FnCheckGuardsUptoSaid : Prop := fnCheckGuardsUptoRow.holds Tryz.pinned (OpenSpec.upto fnCheckGuardsSpec)

/-- 'laws.FnColorVertices', WHERE WHAT IT READS IS OF BULK AT MOST 1048576: true; the input reads as it did. -/
def fnColorVerticesUptoRow : OpenClaim := { program := "ytelhidonhldjeaagreat", sum := "ba313113dbebeabac5dc4284721fe8e3c5f3289be985ada278e6ea0a1877f1f6", func := "loop.example/planargeometry/laws.FnColorVertices", spec := "fnColorVertices", unfollowed := true, recurses := true, plainKeys := false, apart := false, narrowed := true }
def FnColorVerticesUptoSaid : Prop := fnColorVerticesUptoRow.holds Tryz.pinned (OpenSpec.upto fnColorVerticesSpec)

end Rows
end Go.Proofs.YtelhidonhldjeaaGreat
