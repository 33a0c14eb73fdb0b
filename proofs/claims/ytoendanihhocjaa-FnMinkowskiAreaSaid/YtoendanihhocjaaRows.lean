/-
  No cell of these rows narrows 'for every input' (looked for: loops, veiled, ifaces, maps, wideKeys, modest, calm, conditions, laid).
  DERIVED. THE GIVEN ROWS OF THIS SEAT. 11 by the template 'for every input the law returns true; each argument reads behind the call as it read before'; 0 by the template 'total and deterministic' (their statements: YtoendanihhocjaaTotals.lean).
  GIVEN WITH THE SEED: the statements are not yours to turn. If you find one false, say at which input.
  Laid BY PROGRAM, IN A SANDBOX (cutbox-rows.mjs): the forced cells as the released guide's own fill.sh prints them over the translation 01024ad0cb7d7eea… (all of the seat's roots in one cut). By AI agents, Wed Nov 11 2026. No macro, syntax, notation, axiom, sorry.
-/
import Derived.Test.YtoendanihhocjaaChecked
import GoSem.Claim
import GoSem.ClaimJoined
import GoSem.ClaimMapViews
import Derived.JoinedTies
import Derived.KernelRfl
namespace Go.Proofs.Ytoendanihhocjaa
/- THE CELL 'sum', in the pinned program and in every row, IS THE sha256 OF THE DUMP (.gsa) THAT YtoendanihhocjaaProg.lean LOADS. Nothing in Lean hashes anything: it is a label: what it is worth is what the hold of that sum in a sandbox is worth. -/
noncomputable def Try.pinned : Pinned := { name := "ytoendanihhocjaa", sum := "01024ad0cb7d7eeaf8630074a002654110641c7525c61dc931291da6f0ad2c86", checked := Try.checked }
namespace Rows
def none {H : Type} : Left H := { results := [], args := [] }

/-- 'laws.FnSupportValue': WHATEVER THE INPUT: true; the input reads as it did. -/
def fnSupportValueSpec : ChangeSpec := { name := "fnSupportValue", fn := fun _ => fun
  | [d] => { results := [.lit (.bool true)], args := [d] }
  | _ => none }
def fnSupportValueRow : OpenClaim := { program := "ytoendanihhocjaa", sum := "01024ad0cb7d7eeaf8630074a002654110641c7525c61dc931291da6f0ad2c86", func := "loop.example/planargeometry/laws.FnSupportValue", spec := "fnSupportValue", unfollowed := true, recurses := true, apart := false }
def FnSupportValueSaid : Prop := fnSupportValueRow.holds Try.pinned (OpenSpec.ofChange fnSupportValueSpec)

/-- ITS FALSE NEIGHBOUR: 'it returns false'. Refute it at one input. -/
def fnSupportValueWrong : ChangeSpec := { name := "fnSupportValue", fn := fun _ => fun
  | [d] => { results := [.lit (.bool false)], args := [d] }
  | _ => none }
def FnSupportValueWrongFalsely : Prop := fnSupportValueRow.holds Try.pinned (OpenSpec.ofChange fnSupportValueWrong)

/-- 'laws.FnExactMinkowskiSum': WHATEVER THE INPUT: true; the input reads as it did. -/
def fnExactMinkowskiSumSpec : ChangeSpec := { name := "fnExactMinkowskiSum", fn := fun _ => fun
  | [d1, d2] => { results := [.lit (.bool true)], args := [d1, d2] }
  | _ => none }
def fnExactMinkowskiSumRow : OpenClaim := { program := "ytoendanihhocjaa", sum := "01024ad0cb7d7eeaf8630074a002654110641c7525c61dc931291da6f0ad2c86", func := "loop.example/planargeometry/laws.FnExactMinkowskiSum", spec := "fnExactMinkowskiSum", unfollowed := true, recurses := true, apart := false }
def FnExactMinkowskiSumSaid : Prop := fnExactMinkowskiSumRow.holds Try.pinned (OpenSpec.ofChange fnExactMinkowskiSumSpec)

/-- ITS FALSE NEIGHBOUR: 'it returns false'. Refute it at one input. -/
def fnExactMinkowskiSumWrong : ChangeSpec := { name := "fnExactMinkowskiSum", fn := fun _ => fun
  | [d1, d2] => { results := [.lit (.bool false)], args := [d1, d2] }
  | _ => none }
def FnExactMinkowskiSumWrongFalsely : Prop := fnExactMinkowskiSumRow.holds Try.pinned (OpenSpec.ofChange fnExactMinkowskiSumWrong)

/-- 'laws.FnMinkowskiSum': WHATEVER THE INPUT: true; the input reads as it did. -/
def fnMinkowskiSumSpec : ChangeSpec := { name := "fnMinkowskiSum", fn := fun _ => fun
  | [d] => { results := [.lit (.bool true)], args := [d] }
  | _ => none }
def fnMinkowskiSumRow : OpenClaim := { program := "ytoendanihhocjaa", sum := "01024ad0cb7d7eeaf8630074a002654110641c7525c61dc931291da6f0ad2c86", func := "loop.example/planargeometry/laws.FnMinkowskiSum", spec := "fnMinkowskiSum", unfollowed := true, recurses := true, apart := false }
def FnMinkowskiSumSaid : Prop := fnMinkowskiSumRow.holds Try.pinned (OpenSpec.ofChange fnMinkowskiSumSpec)

/-- ITS FALSE NEIGHBOUR: 'it returns false'. Refute it at one input. -/
def fnMinkowskiSumWrong : ChangeSpec := { name := "fnMinkowskiSum", fn := fun _ => fun
  | [d] => { results := [.lit (.bool false)], args := [d] }
  | _ => none }
def FnMinkowskiSumWrongFalsely : Prop := fnMinkowskiSumRow.holds Try.pinned (OpenSpec.ofChange fnMinkowskiSumWrong)

/-- 'laws.FnExactHullsMeet': WHATEVER THE INPUT: true; the input reads as it did. -/
def fnExactHullsMeetSpec : ChangeSpec := { name := "fnExactHullsMeet", fn := fun _ => fun
  | [d1, d2] => { results := [.lit (.bool true)], args := [d1, d2] }
  | _ => none }
def fnExactHullsMeetRow : OpenClaim := { program := "ytoendanihhocjaa", sum := "01024ad0cb7d7eeaf8630074a002654110641c7525c61dc931291da6f0ad2c86", func := "loop.example/planargeometry/laws.FnExactHullsMeet", spec := "fnExactHullsMeet", unfollowed := true, recurses := true, apart := false }
def FnExactHullsMeetSaid : Prop := fnExactHullsMeetRow.holds Try.pinned (OpenSpec.ofChange fnExactHullsMeetSpec)

/-- ITS FALSE NEIGHBOUR: 'it returns false'. Refute it at one input. -/
def fnExactHullsMeetWrong : ChangeSpec := { name := "fnExactHullsMeet", fn := fun _ => fun
  | [d1, d2] => { results := [.lit (.bool false)], args := [d1, d2] }
  | _ => none }
def FnExactHullsMeetWrongFalsely : Prop := fnExactHullsMeetRow.holds Try.pinned (OpenSpec.ofChange fnExactHullsMeetWrong)

/-- 'laws.FnMinkowskiArea': WHATEVER THE INPUT: true; the input reads as it did. -/
def fnMinkowskiAreaSpec : ChangeSpec := { name := "fnMinkowskiArea", fn := fun _ => fun
  | [d] => { results := [.lit (.bool true)], args := [d] }
  | _ => none }
def fnMinkowskiAreaRow : OpenClaim := { program := "ytoendanihhocjaa", sum := "01024ad0cb7d7eeaf8630074a002654110641c7525c61dc931291da6f0ad2c86", func := "loop.example/planargeometry/laws.FnMinkowskiArea", spec := "fnMinkowskiArea", unfollowed := true, recurses := true, apart := false }
def FnMinkowskiAreaSaid : Prop := fnMinkowskiAreaRow.holds Try.pinned (OpenSpec.ofChange fnMinkowskiAreaSpec)

/-- ITS FALSE NEIGHBOUR: 'it returns false'. Refute it at one input. -/
def fnMinkowskiAreaWrong : ChangeSpec := { name := "fnMinkowskiArea", fn := fun _ => fun
  | [d] => { results := [.lit (.bool false)], args := [d] }
  | _ => none }
def FnMinkowskiAreaWrongFalsely : Prop := fnMinkowskiAreaRow.holds Try.pinned (OpenSpec.ofChange fnMinkowskiAreaWrong)

/-- 'laws.FnMinkowskiSelf': WHATEVER THE INPUT: true; the input reads as it did. -/
def fnMinkowskiSelfSpec : ChangeSpec := { name := "fnMinkowskiSelf", fn := fun _ => fun
  | [d] => { results := [.lit (.bool true)], args := [d] }
  | _ => none }
def fnMinkowskiSelfRow : OpenClaim := { program := "ytoendanihhocjaa", sum := "01024ad0cb7d7eeaf8630074a002654110641c7525c61dc931291da6f0ad2c86", func := "loop.example/planargeometry/laws.FnMinkowskiSelf", spec := "fnMinkowskiSelf", unfollowed := true, recurses := true, apart := false }
def FnMinkowskiSelfSaid : Prop := fnMinkowskiSelfRow.holds Try.pinned (OpenSpec.ofChange fnMinkowskiSelfSpec)

/-- ITS FALSE NEIGHBOUR: 'it returns false'. Refute it at one input. -/
def fnMinkowskiSelfWrong : ChangeSpec := { name := "fnMinkowskiSelf", fn := fun _ => fun
  | [d] => { results := [.lit (.bool false)], args := [d] }
  | _ => none }
def FnMinkowskiSelfWrongFalsely : Prop := fnMinkowskiSelfRow.holds Try.pinned (OpenSpec.ofChange fnMinkowskiSelfWrong)

/-- 'laws.FnMinkowskiPoint': WHATEVER THE INPUT: true; the input reads as it did. -/
def fnMinkowskiPointSpec : ChangeSpec := { name := "fnMinkowskiPoint", fn := fun _ => fun
  | [d] => { results := [.lit (.bool true)], args := [d] }
  | _ => none }
def fnMinkowskiPointRow : OpenClaim := { program := "ytoendanihhocjaa", sum := "01024ad0cb7d7eeaf8630074a002654110641c7525c61dc931291da6f0ad2c86", func := "loop.example/planargeometry/laws.FnMinkowskiPoint", spec := "fnMinkowskiPoint", unfollowed := true, recurses := true, apart := false }
def FnMinkowskiPointSaid : Prop := fnMinkowskiPointRow.holds Try.pinned (OpenSpec.ofChange fnMinkowskiPointSpec)

/-- ITS FALSE NEIGHBOUR: 'it returns false'. Refute it at one input. -/
def fnMinkowskiPointWrong : ChangeSpec := { name := "fnMinkowskiPoint", fn := fun _ => fun
  | [d] => { results := [.lit (.bool false)], args := [d] }
  | _ => none }
def FnMinkowskiPointWrongFalsely : Prop := fnMinkowskiPointRow.holds Try.pinned (OpenSpec.ofChange fnMinkowskiPointWrong)

/-- 'laws.FnMinkowskiSupport': WHATEVER THE INPUT: true; the input reads as it did. -/
def fnMinkowskiSupportSpec : ChangeSpec := { name := "fnMinkowskiSupport", fn := fun _ => fun
  | [d1, d2] => { results := [.lit (.bool true)], args := [d1, d2] }
  | _ => none }
def fnMinkowskiSupportRow : OpenClaim := { program := "ytoendanihhocjaa", sum := "01024ad0cb7d7eeaf8630074a002654110641c7525c61dc931291da6f0ad2c86", func := "loop.example/planargeometry/laws.FnMinkowskiSupport", spec := "fnMinkowskiSupport", unfollowed := true, recurses := true, apart := false }
def FnMinkowskiSupportSaid : Prop := fnMinkowskiSupportRow.holds Try.pinned (OpenSpec.ofChange fnMinkowskiSupportSpec)

/-- ITS FALSE NEIGHBOUR: 'it returns false'. Refute it at one input. -/
def fnMinkowskiSupportWrong : ChangeSpec := { name := "fnMinkowskiSupport", fn := fun _ => fun
  | [d1, d2] => { results := [.lit (.bool false)], args := [d1, d2] }
  | _ => none }
def FnMinkowskiSupportWrongFalsely : Prop := fnMinkowskiSupportRow.holds Try.pinned (OpenSpec.ofChange fnMinkowskiSupportWrong)

/-- 'laws.FnHullsMeet': WHATEVER THE INPUT: true; the input reads as it did. -/
def fnHullsMeetSpec : ChangeSpec := { name := "fnHullsMeet", fn := fun _ => fun
  | [d] => { results := [.lit (.bool true)], args := [d] }
  | _ => none }
def fnHullsMeetRow : OpenClaim := { program := "ytoendanihhocjaa", sum := "01024ad0cb7d7eeaf8630074a002654110641c7525c61dc931291da6f0ad2c86", func := "loop.example/planargeometry/laws.FnHullsMeet", spec := "fnHullsMeet", unfollowed := true, recurses := true, apart := false }
def FnHullsMeetSaid : Prop := fnHullsMeetRow.holds Try.pinned (OpenSpec.ofChange fnHullsMeetSpec)

/-- ITS FALSE NEIGHBOUR: 'it returns false'. Refute it at one input. -/
def fnHullsMeetWrong : ChangeSpec := { name := "fnHullsMeet", fn := fun _ => fun
  | [d] => { results := [.lit (.bool false)], args := [d] }
  | _ => none }
def FnHullsMeetWrongFalsely : Prop := fnHullsMeetRow.holds Try.pinned (OpenSpec.ofChange fnHullsMeetWrong)

/-- 'laws.FnHullsSupport': WHATEVER THE INPUT: true; the input reads as it did. -/
def fnHullsSupportSpec : ChangeSpec := { name := "fnHullsSupport", fn := fun _ => fun
  | [d] => { results := [.lit (.bool true)], args := [d] }
  | _ => none }
def fnHullsSupportRow : OpenClaim := { program := "ytoendanihhocjaa", sum := "01024ad0cb7d7eeaf8630074a002654110641c7525c61dc931291da6f0ad2c86", func := "loop.example/planargeometry/laws.FnHullsSupport", spec := "fnHullsSupport", unfollowed := true, recurses := true, apart := false }
def FnHullsSupportSaid : Prop := fnHullsSupportRow.holds Try.pinned (OpenSpec.ofChange fnHullsSupportSpec)

/-- ITS FALSE NEIGHBOUR: 'it returns false'. Refute it at one input. -/
def fnHullsSupportWrong : ChangeSpec := { name := "fnHullsSupport", fn := fun _ => fun
  | [d] => { results := [.lit (.bool false)], args := [d] }
  | _ => none }
def FnHullsSupportWrongFalsely : Prop := fnHullsSupportRow.holds Try.pinned (OpenSpec.ofChange fnHullsSupportWrong)

/-- 'laws.FnHullsApart': WHATEVER THE INPUT: true; the input reads as it did. -/
def fnHullsApartSpec : ChangeSpec := { name := "fnHullsApart", fn := fun _ => fun
  | [d] => { results := [.lit (.bool true)], args := [d] }
  | _ => none }
def fnHullsApartRow : OpenClaim := { program := "ytoendanihhocjaa", sum := "01024ad0cb7d7eeaf8630074a002654110641c7525c61dc931291da6f0ad2c86", func := "loop.example/planargeometry/laws.FnHullsApart", spec := "fnHullsApart", unfollowed := true, recurses := true, apart := false }
def FnHullsApartSaid : Prop := fnHullsApartRow.holds Try.pinned (OpenSpec.ofChange fnHullsApartSpec)

/-- ITS FALSE NEIGHBOUR: 'it returns false'. Refute it at one input. -/
def fnHullsApartWrong : ChangeSpec := { name := "fnHullsApart", fn := fun _ => fun
  | [d] => { results := [.lit (.bool false)], args := [d] }
  | _ => none }
def FnHullsApartWrongFalsely : Prop := fnHullsApartRow.holds Try.pinned (OpenSpec.ofChange fnHullsApartWrong)

/- THE SECOND FORM. 'bulk': how many values and letters a reading holds, each counted each time it is reached (what is shared counts as often as it is met; a slice's spare places count too). A statement '..UptoSaid' is the law's where the arguments, and the package variables that the reading takes, are together of bulk at most 1048576: NARROWER than '..Said'. Prove '..Said' where nothing that the law and all that it calls make is longer than what came in: it says more and counts as full. Else prove '..UptoSaid'. A law counts once. -/
mutual
def uptoBulk {H : Type} : DataW H → Nat
  | .lit (.string bytes) => bytes.length + 1
  | .lit _ => 1
  | .nil => 1
  | .ptr d => uptoBulk d + 1
  | .slice elems spare => uptoBulkAll elems + uptoBulkAll spare + 1
  | .agg parts => uptoBulkAll parts + 1
  | .iface _ d => uptoBulk d + 1
  | .map entries => uptoBulkEntries entries + 1
  | .held _ => 1
def uptoBulkAll {H : Type} : List (DataW H) → Nat
  | [] => 0
  | d :: r => uptoBulk d + uptoBulkAll r
def uptoBulkEntries {H : Type} : List (Lit × DataW H) → Nat
  | [] => 0
  | x :: r => uptoBulkEntry x + uptoBulkEntries r
def uptoBulkEntry {H : Type} : Lit × DataW H → Nat
  | (.string bytes, d) => bytes.length + uptoBulk d + 1
  | (_, d) => uptoBulk d + 1
 end
def uptoSmall : (H : Type) → List (DataW H) → Bool := fun _ ds => decide (uptoBulkAll ds ≤ 1048576)
def OpenSpec.upto (s : _root_.Go.ChangeSpec) : _root_.Go.OpenSpec := { _root_.Go.OpenSpec.ofChange s with cond := some uptoSmall }

/-- 'laws.FnSupportValue', WHERE WHAT IT READS IS OF BULK AT MOST 1048576: true; the input reads as it did. -/
def fnSupportValueUptoRow : OpenClaim := { program := "ytoendanihhocjaa", sum := "01024ad0cb7d7eeaf8630074a002654110641c7525c61dc931291da6f0ad2c86", func := "loop.example/planargeometry/laws.FnSupportValue", spec := "fnSupportValue", unfollowed := true, recurses := true, apart := false, narrowed := true }
def FnSupportValueUptoSaid : Prop := fnSupportValueUptoRow.holds Try.pinned (OpenSpec.upto fnSupportValueSpec)

/-- 'laws.FnExactMinkowskiSum', WHERE WHAT IT READS IS OF BULK AT MOST 1048576: true; the input reads as it did. -/
def fnExactMinkowskiSumUptoRow : OpenClaim := { program := "ytoendanihhocjaa", sum := "01024ad0cb7d7eeaf8630074a002654110641c7525c61dc931291da6f0ad2c86", func := "loop.example/planargeometry/laws.FnExactMinkowskiSum", spec := "fnExactMinkowskiSum", unfollowed := true, recurses := true, apart := false, narrowed := true }
def FnExactMinkowskiSumUptoSaid : Prop := fnExactMinkowskiSumUptoRow.holds Try.pinned (OpenSpec.upto fnExactMinkowskiSumSpec)

/-- 'laws.FnMinkowskiSum', WHERE WHAT IT READS IS OF BULK AT MOST 1048576: true; the input reads as it did. -/
def fnMinkowskiSumUptoRow : OpenClaim := { program := "ytoendanihhocjaa", sum := "01024ad0cb7d7eeaf8630074a002654110641c7525c61dc931291da6f0ad2c86", func := "loop.example/planargeometry/laws.FnMinkowskiSum", spec := "fnMinkowskiSum", unfollowed := true, recurses := true, apart := false, narrowed := true }
def FnMinkowskiSumUptoSaid : Prop := fnMinkowskiSumUptoRow.holds Try.pinned (OpenSpec.upto fnMinkowskiSumSpec)

/-- 'laws.FnExactHullsMeet', WHERE WHAT IT READS IS OF BULK AT MOST 1048576: true; the input reads as it did. -/
def fnExactHullsMeetUptoRow : OpenClaim := { program := "ytoendanihhocjaa", sum := "01024ad0cb7d7eeaf8630074a002654110641c7525c61dc931291da6f0ad2c86", func := "loop.example/planargeometry/laws.FnExactHullsMeet", spec := "fnExactHullsMeet", unfollowed := true, recurses := true, apart := false, narrowed := true }
def FnExactHullsMeetUptoSaid : Prop := fnExactHullsMeetUptoRow.holds Try.pinned (OpenSpec.upto fnExactHullsMeetSpec)

/-- 'laws.FnMinkowskiArea', WHERE WHAT IT READS IS OF BULK AT MOST 1048576: true; the input reads as it did. -/
def fnMinkowskiAreaUptoRow : OpenClaim := { program := "ytoendanihhocjaa", sum := "01024ad0cb7d7eeaf8630074a002654110641c7525c61dc931291da6f0ad2c86", func := "loop.example/planargeometry/laws.FnMinkowskiArea", spec := "fnMinkowskiArea", unfollowed := true, recurses := true, apart := false, narrowed := true }
def FnMinkowskiAreaUptoSaid : Prop := fnMinkowskiAreaUptoRow.holds Try.pinned (OpenSpec.upto fnMinkowskiAreaSpec)

/-- 'laws.FnMinkowskiSelf', WHERE WHAT IT READS IS OF BULK AT MOST 1048576: true; the input reads as it did. -/
def fnMinkowskiSelfUptoRow : OpenClaim := { program := "ytoendanihhocjaa", sum := "01024ad0cb7d7eeaf8630074a002654110641c7525c61dc931291da6f0ad2c86", func := "loop.example/planargeometry/laws.FnMinkowskiSelf", spec := "fnMinkowskiSelf", unfollowed := true, recurses := true, apart := false, narrowed := true }
def FnMinkowskiSelfUptoSaid : Prop := fnMinkowskiSelfUptoRow.holds Try.pinned (OpenSpec.upto fnMinkowskiSelfSpec)

/-- 'laws.FnMinkowskiPoint', WHERE WHAT IT READS IS OF BULK AT MOST 1048576: true; the input reads as it did. -/
def fnMinkowskiPointUptoRow : OpenClaim := { program := "ytoendanihhocjaa", sum := "01024ad0cb7d7eeaf8630074a002654110641c7525c61dc931291da6f0ad2c86", func := "loop.example/planargeometry/laws.FnMinkowskiPoint", spec := "fnMinkowskiPoint", unfollowed := true, recurses := true, apart := false, narrowed := true }
def FnMinkowskiPointUptoSaid : Prop := fnMinkowskiPointUptoRow.holds Try.pinned (OpenSpec.upto fnMinkowskiPointSpec)

/-- 'laws.FnMinkowskiSupport', WHERE WHAT IT READS IS OF BULK AT MOST 1048576: true; the input reads as it did. -/
def fnMinkowskiSupportUptoRow : OpenClaim := { program := "ytoendanihhocjaa", sum := "01024ad0cb7d7eeaf8630074a002654110641c7525c61dc931291da6f0ad2c86", func := "loop.example/planargeometry/laws.FnMinkowskiSupport", spec := "fnMinkowskiSupport", unfollowed := true, recurses := true, apart := false, narrowed := true }
def FnMinkowskiSupportUptoSaid : Prop := fnMinkowskiSupportUptoRow.holds Try.pinned (OpenSpec.upto fnMinkowskiSupportSpec)

/-- 'laws.FnHullsMeet', WHERE WHAT IT READS IS OF BULK AT MOST 1048576: true; the input reads as it did. -/
def fnHullsMeetUptoRow : OpenClaim := { program := "ytoendanihhocjaa", sum := "01024ad0cb7d7eeaf8630074a002654110641c7525c61dc931291da6f0ad2c86", func := "loop.example/planargeometry/laws.FnHullsMeet", spec := "fnHullsMeet", unfollowed := true, recurses := true, apart := false, narrowed := true }
def FnHullsMeetUptoSaid : Prop := fnHullsMeetUptoRow.holds Try.pinned (OpenSpec.upto fnHullsMeetSpec)

/-- 'laws.FnHullsSupport', WHERE WHAT IT READS IS OF BULK AT MOST 1048576: true; the input reads as it did. -/
def fnHullsSupportUptoRow : OpenClaim := { program := "ytoendanihhocjaa", sum := "01024ad0cb7d7eeaf8630074a002654110641c7525c61dc931291da6f0ad2c86", func := "loop.example/planargeometry/laws.FnHullsSupport", spec := "fnHullsSupport", unfollowed := true, recurses := true, apart := false, narrowed := true }
def FnHullsSupportUptoSaid : Prop := fnHullsSupportUptoRow.holds Try.pinned (OpenSpec.upto fnHullsSupportSpec)

/-- 'laws.FnHullsApart', WHERE WHAT IT READS IS OF BULK AT MOST 1048576: true; the input reads as it did. -/
def fnHullsApartUptoRow : OpenClaim := { program := "ytoendanihhocjaa", sum := "01024ad0cb7d7eeaf8630074a002654110641c7525c61dc931291da6f0ad2c86", func := "loop.example/planargeometry/laws.FnHullsApart", spec := "fnHullsApart", unfollowed := true, recurses := true, apart := false, narrowed := true }
def FnHullsApartUptoSaid : Prop := fnHullsApartUptoRow.holds Try.pinned (OpenSpec.upto fnHullsApartSpec)

end Rows
end Go.Proofs.Ytoendanihhocjaa
