/-
  No cell of these rows narrows 'for every input' (looked for: loops, veiled, ifaces, maps, wideKeys, modest, calm, conditions, laid).
  DERIVED. THE GIVEN ROWS OF THIS SEAT. 7 by the template 'for every input the law returns true; each argument reads behind the call as it read before'; 0 by the template 'total and deterministic' (their statements: YtgeilljbmjajnaaTotals.lean).
  GIVEN WITH THE SEED: the statements are not yours to turn. If you find one false, say at which input.
  Laid BY PROGRAM, IN A SANDBOX (cutbox-rows.mjs): the forced cells as the released guide's own fill.sh prints them over the translation 56ce5046bbe601f5… (all of the seat's roots in one cut). By AI agents, Wed Nov 11 2026. No macro, syntax, notation, axiom, sorry.
-/
import Derived.Test.YtgeilljbmjajnaaChecked
import GoSem.Claim
import GoSem.ClaimJoined
import GoSem.ClaimMapViews
import Derived.JoinedTies
import Derived.KernelRfl
namespace Go.Proofs.Ytgeilljbmjajnaa
/- THE CELL 'sum', in the pinned program and in every row, IS THE sha256 OF THE DUMP (.gsa) THAT YtgeilljbmjajnaaProg.lean LOADS. Nothing in Lean hashes anything: it is a label: what it is worth is what the hold of that sum in a sandbox is worth. -/
noncomputable def Try.pinned : Pinned := { name := "ytgeilljbmjajnaa", sum := "56ce5046bbe601f5beef8d848a4935442c71cee10fc4413a2068aaae8c3a460b", checked := Try.checked }
namespace Rows
def none {H : Type} : Left H := { results := [], args := [] }

/-- 'laws.FnExactSupportValue': WHATEVER THE INPUT: true; the input reads as it did. -/
def fnExactSupportValueSpec : ChangeSpec := { name := "fnExactSupportValue", fn := fun _ => fun
  | [d1, d2] => { results := [.lit (.bool true)], args := [d1, d2] }
  | _ => none }
def fnExactSupportValueRow : OpenClaim := { program := "ytgeilljbmjajnaa", sum := "56ce5046bbe601f5beef8d848a4935442c71cee10fc4413a2068aaae8c3a460b", func := "loop.example/planargeometry/laws.FnExactSupportValue", spec := "fnExactSupportValue", unfollowed := true, recurses := true, apart := false }
def FnExactSupportValueSaid : Prop := fnExactSupportValueRow.holds Try.pinned (OpenSpec.ofChange fnExactSupportValueSpec)

/-- ITS FALSE NEIGHBOUR: 'it returns false'. Refute it at one input. -/
def fnExactSupportValueWrong : ChangeSpec := { name := "fnExactSupportValue", fn := fun _ => fun
  | [d1, d2] => { results := [.lit (.bool false)], args := [d1, d2] }
  | _ => none }
def FnExactSupportValueWrongFalsely : Prop := fnExactSupportValueRow.holds Try.pinned (OpenSpec.ofChange fnExactSupportValueWrong)

/-- 'laws.FnExactCheckSimplified': WHATEVER THE INPUT: true; the input reads as it did. -/
def fnExactCheckSimplifiedSpec : ChangeSpec := { name := "fnExactCheckSimplified", fn := fun _ => fun
  | [d1, d2, d3] => { results := [.lit (.bool true)], args := [d1, d2, d3] }
  | _ => none }
def fnExactCheckSimplifiedRow : OpenClaim := { program := "ytgeilljbmjajnaa", sum := "56ce5046bbe601f5beef8d848a4935442c71cee10fc4413a2068aaae8c3a460b", func := "loop.example/planargeometry/laws.FnExactCheckSimplified", spec := "fnExactCheckSimplified", unfollowed := true, recurses := true, apart := false }
def FnExactCheckSimplifiedSaid : Prop := fnExactCheckSimplifiedRow.holds Try.pinned (OpenSpec.ofChange fnExactCheckSimplifiedSpec)

/-- ITS FALSE NEIGHBOUR: 'it returns false'. Refute it at one input. -/
def fnExactCheckSimplifiedWrong : ChangeSpec := { name := "fnExactCheckSimplified", fn := fun _ => fun
  | [d1, d2, d3] => { results := [.lit (.bool false)], args := [d1, d2, d3] }
  | _ => none }
def FnExactCheckSimplifiedWrongFalsely : Prop := fnExactCheckSimplifiedRow.holds Try.pinned (OpenSpec.ofChange fnExactCheckSimplifiedWrong)

/-- 'laws.FnSimplifyAll': WHATEVER THE INPUT: true; the input reads as it did. -/
def fnSimplifyAllSpec : ChangeSpec := { name := "fnSimplifyAll", fn := fun _ => fun
  | [d] => { results := [.lit (.bool true)], args := [d] }
  | _ => none }
def fnSimplifyAllRow : OpenClaim := { program := "ytgeilljbmjajnaa", sum := "56ce5046bbe601f5beef8d848a4935442c71cee10fc4413a2068aaae8c3a460b", func := "loop.example/planargeometry/laws.FnSimplifyAll", spec := "fnSimplifyAll", unfollowed := true, recurses := true, apart := false }
def FnSimplifyAllSaid : Prop := fnSimplifyAllRow.holds Try.pinned (OpenSpec.ofChange fnSimplifyAllSpec)

/-- ITS FALSE NEIGHBOUR: 'it returns false'. Refute it at one input. -/
def fnSimplifyAllWrong : ChangeSpec := { name := "fnSimplifyAll", fn := fun _ => fun
  | [d] => { results := [.lit (.bool false)], args := [d] }
  | _ => none }
def FnSimplifyAllWrongFalsely : Prop := fnSimplifyAllRow.holds Try.pinned (OpenSpec.ofChange fnSimplifyAllWrong)

/-- 'laws.FnCheckSimplified': WHATEVER THE INPUT: true; the input reads as it did. -/
def fnCheckSimplifiedSpec : ChangeSpec := { name := "fnCheckSimplified", fn := fun _ => fun
  | [d1, d2] => { results := [.lit (.bool true)], args := [d1, d2] }
  | _ => none }
def fnCheckSimplifiedRow : OpenClaim := { program := "ytgeilljbmjajnaa", sum := "56ce5046bbe601f5beef8d848a4935442c71cee10fc4413a2068aaae8c3a460b", func := "loop.example/planargeometry/laws.FnCheckSimplified", spec := "fnCheckSimplified", unfollowed := true, recurses := true, apart := false }
def FnCheckSimplifiedSaid : Prop := fnCheckSimplifiedRow.holds Try.pinned (OpenSpec.ofChange fnCheckSimplifiedSpec)

/-- ITS FALSE NEIGHBOUR: 'it returns false'. Refute it at one input. -/
def fnCheckSimplifiedWrong : ChangeSpec := { name := "fnCheckSimplified", fn := fun _ => fun
  | [d1, d2] => { results := [.lit (.bool false)], args := [d1, d2] }
  | _ => none }
def FnCheckSimplifiedWrongFalsely : Prop := fnCheckSimplifiedRow.holds Try.pinned (OpenSpec.ofChange fnCheckSimplifiedWrong)

/-- 'laws.FnSimplifyExact': WHATEVER THE INPUT: true; the input reads as it did. -/
def fnSimplifyExactSpec : ChangeSpec := { name := "fnSimplifyExact", fn := fun _ => fun
  | [d] => { results := [.lit (.bool true)], args := [d] }
  | _ => none }
def fnSimplifyExactRow : OpenClaim := { program := "ytgeilljbmjajnaa", sum := "56ce5046bbe601f5beef8d848a4935442c71cee10fc4413a2068aaae8c3a460b", func := "loop.example/planargeometry/laws.FnSimplifyExact", spec := "fnSimplifyExact", unfollowed := true, recurses := true, apart := false }
def FnSimplifyExactSaid : Prop := fnSimplifyExactRow.holds Try.pinned (OpenSpec.ofChange fnSimplifyExactSpec)

/-- ITS FALSE NEIGHBOUR: 'it returns false'. Refute it at one input. -/
def fnSimplifyExactWrong : ChangeSpec := { name := "fnSimplifyExact", fn := fun _ => fun
  | [d] => { results := [.lit (.bool false)], args := [d] }
  | _ => none }
def FnSimplifyExactWrongFalsely : Prop := fnSimplifyExactRow.holds Try.pinned (OpenSpec.ofChange fnSimplifyExactWrong)

/-- 'laws.FnSimplifyPath': WHATEVER THE INPUT: true; the input reads as it did. -/
def fnSimplifyPathSpec : ChangeSpec := { name := "fnSimplifyPath", fn := fun _ => fun
  | [d] => { results := [.lit (.bool true)], args := [d] }
  | _ => none }
def fnSimplifyPathRow : OpenClaim := { program := "ytgeilljbmjajnaa", sum := "56ce5046bbe601f5beef8d848a4935442c71cee10fc4413a2068aaae8c3a460b", func := "loop.example/planargeometry/laws.FnSimplifyPath", spec := "fnSimplifyPath", unfollowed := true, recurses := true, apart := false }
def FnSimplifyPathSaid : Prop := fnSimplifyPathRow.holds Try.pinned (OpenSpec.ofChange fnSimplifyPathSpec)

/-- ITS FALSE NEIGHBOUR: 'it returns false'. Refute it at one input. -/
def fnSimplifyPathWrong : ChangeSpec := { name := "fnSimplifyPath", fn := fun _ => fun
  | [d] => { results := [.lit (.bool false)], args := [d] }
  | _ => none }
def FnSimplifyPathWrongFalsely : Prop := fnSimplifyPathRow.holds Try.pinned (OpenSpec.ofChange fnSimplifyPathWrong)

/-- 'laws.FnExactSimplifyPath': WHATEVER THE INPUT: true; the input reads as it did. -/
def fnExactSimplifyPathSpec : ChangeSpec := { name := "fnExactSimplifyPath", fn := fun _ => fun
  | [d1, d2] => { results := [.lit (.bool true)], args := [d1, d2] }
  | _ => none }
def fnExactSimplifyPathRow : OpenClaim := { program := "ytgeilljbmjajnaa", sum := "56ce5046bbe601f5beef8d848a4935442c71cee10fc4413a2068aaae8c3a460b", func := "loop.example/planargeometry/laws.FnExactSimplifyPath", spec := "fnExactSimplifyPath", unfollowed := true, recurses := true, apart := false }
def FnExactSimplifyPathSaid : Prop := fnExactSimplifyPathRow.holds Try.pinned (OpenSpec.ofChange fnExactSimplifyPathSpec)

/-- ITS FALSE NEIGHBOUR: 'it returns false'. Refute it at one input. -/
def fnExactSimplifyPathWrong : ChangeSpec := { name := "fnExactSimplifyPath", fn := fun _ => fun
  | [d1, d2] => { results := [.lit (.bool false)], args := [d1, d2] }
  | _ => none }
def FnExactSimplifyPathWrongFalsely : Prop := fnExactSimplifyPathRow.holds Try.pinned (OpenSpec.ofChange fnExactSimplifyPathWrong)

/- THE SECOND FORM. 'bulk': how many values and letters a reading holds, each counted each time it is reached (what is shared counts as often as it is met; a slice's spare places count too). A statement '..UptoSaid' is the law's where the arguments, and the package variables that the reading takes, are together of bulk at most 1048576: NARROWER than '..Said'. Prove '..Said' where nothing that the law and all that it calls make is longer than what came in: it says more and counts as full. Else prove '..UptoSaid'. A law counts once. -/
mutual
def uptoBulk {H : Type} : DataW H → Nat
  | .lit (.string bytes) => bytes.length + 1
  | .lit _ => 1
  | .nil => 1
  | .ptr d => uptoBulk d + 1
  | .slice elems spare => uptoBulkAll elems + uptoBulkAll spare + 1
  | .agg parts => uptoBulkAll parts + 1
  | .iface _ d => uptoBulk d + 1
  | .map entries => uptoBulkEntries entries + 1
  | .held _ => 1
def uptoBulkAll {H : Type} : List (DataW H) → Nat
  | [] => 0
  | d :: r => uptoBulk d + uptoBulkAll r
def uptoBulkEntries {H : Type} : List (Lit × DataW H) → Nat
  | [] => 0
  | x :: r => uptoBulkEntry x + uptoBulkEntries r
def uptoBulkEntry {H : Type} : Lit × DataW H → Nat
  | (.string bytes, d) => bytes.length + uptoBulk d + 1
  | (_, d) => uptoBulk d + 1
 end
def uptoSmall : (H : Type) → List (DataW H) → Bool := fun _ ds => decide (uptoBulkAll ds ≤ 1048576)
def OpenSpec.upto (s : _root_.Go.ChangeSpec) : _root_.Go.OpenSpec := { _root_.Go.OpenSpec.ofChange s with cond := some uptoSmall }

/-- 'laws.FnExactSupportValue', WHERE WHAT IT READS IS OF BULK AT MOST 1048576: true; the input reads as it did. -/
def fnExactSupportValueUptoRow : OpenClaim := { program := "ytgeilljbmjajnaa", sum := "56ce5046bbe601f5beef8d848a4935442c71cee10fc4413a2068aaae8c3a460b", func := "loop.example/planargeometry/laws.FnExactSupportValue", spec := "fnExactSupportValue", unfollowed := true, recurses := true, apart := false, narrowed := true }
def FnExactSupportValueUptoSaid : Prop := fnExactSupportValueUptoRow.holds Try.pinned (OpenSpec.upto fnExactSupportValueSpec)

/-- 'laws.FnExactCheckSimplified', WHERE WHAT IT READS IS OF BULK AT MOST 1048576: true; the input reads as it did. -/
def fnExactCheckSimplifiedUptoRow : OpenClaim := { program := "ytgeilljbmjajnaa", sum := "56ce5046bbe601f5beef8d848a4935442c71cee10fc4413a2068aaae8c3a460b", func := "loop.example/planargeometry/laws.FnExactCheckSimplified", spec := "fnExactCheckSimplified", unfollowed := true, recurses := true, apart := false, narrowed := true }
def FnExactCheckSimplifiedUptoSaid : Prop := fnExactCheckSimplifiedUptoRow.holds Try.pinned (OpenSpec.upto fnExactCheckSimplifiedSpec)

/-- 'laws.FnSimplifyAll', WHERE WHAT IT READS IS OF BULK AT MOST 1048576: true; the input reads as it did. -/
def fnSimplifyAllUptoRow : OpenClaim := { program := "ytgeilljbmjajnaa", sum := "56ce5046bbe601f5beef8d848a4935442c71cee10fc4413a2068aaae8c3a460b", func := "loop.example/planargeometry/laws.FnSimplifyAll", spec := "fnSimplifyAll", unfollowed := true, recurses := true, apart := false, narrowed := true }
def FnSimplifyAllUptoSaid : Prop := fnSimplifyAllUptoRow.holds Try.pinned (OpenSpec.upto fnSimplifyAllSpec)

/-- 'laws.FnCheckSimplified', WHERE WHAT IT READS IS OF BULK AT MOST 1048576: true; the input reads as it did. -/
def fnCheckSimplifiedUptoRow : OpenClaim := { program := "ytgeilljbmjajnaa", sum := "56ce5046bbe601f5beef8d848a4935442c71cee10fc4413a2068aaae8c3a460b", func := "loop.example/planargeometry/laws.FnCheckSimplified", spec := "fnCheckSimplified", unfollowed := true, recurses := true, apart := false, narrowed := true }
def FnCheckSimplifiedUptoSaid : Prop := fnCheckSimplifiedUptoRow.holds Try.pinned (OpenSpec.upto fnCheckSimplifiedSpec)

/-- 'laws.FnSimplifyExact', WHERE WHAT IT READS IS OF BULK AT MOST 1048576: true; the input reads as it did. -/
def fnSimplifyExactUptoRow : OpenClaim := { program := "ytgeilljbmjajnaa", sum := "56ce5046bbe601f5beef8d848a4935442c71cee10fc4413a2068aaae8c3a460b", func := "loop.example/planargeometry/laws.FnSimplifyExact", spec := "fnSimplifyExact", unfollowed := true, recurses := true, apart := false, narrowed := true }
def FnSimplifyExactUptoSaid : Prop := fnSimplifyExactUptoRow.holds Try.pinned (OpenSpec.upto fnSimplifyExactSpec)

/-- 'laws.FnSimplifyPath', WHERE WHAT IT READS IS OF BULK AT MOST 1048576: true; the input reads as it did. -/
def fnSimplifyPathUptoRow : OpenClaim := { program := "ytgeilljbmjajnaa", sum := "56ce5046bbe601f5beef8d848a4935442c71cee10fc4413a2068aaae8c3a460b", func := "loop.example/planargeometry/laws.FnSimplifyPath", spec := "fnSimplifyPath", unfollowed := true, recurses := true, apart := false, narrowed := true }
def FnSimplifyPathUptoSaid : Prop := fnSimplifyPathUptoRow.holds Try.pinned (OpenSpec.upto fnSimplifyPathSpec)

/-- 'laws.FnExactSimplifyPath', WHERE WHAT IT READS IS OF BULK AT MOST 1048576: true; the input reads as it did. -/
def fnExactSimplifyPathUptoRow : OpenClaim := { program := "ytgeilljbmjajnaa", sum := "56ce5046bbe601f5beef8d848a4935442c71cee10fc4413a2068aaae8c3a460b", func := "loop.example/planargeometry/laws.FnExactSimplifyPath", spec := "fnExactSimplifyPath", unfollowed := true, recurses := true, apart := false, narrowed := true }
def FnExactSimplifyPathUptoSaid : Prop := fnExactSimplifyPathUptoRow.holds Try.pinned (OpenSpec.upto fnExactSimplifyPathSpec)

end Rows
end Go.Proofs.Ytgeilljbmjajnaa
