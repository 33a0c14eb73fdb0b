/-
  No cell of these rows narrows 'for every input' (looked for: loops, veiled, ifaces, maps, wideKeys, modest, calm, conditions, laid).
  DERIVED. THE GIVEN ROWS OF THIS SEAT. 3 by the template 'for every input the law returns true; each argument reads behind the call as it read before'; 0 by the template 'total and deterministic' (their statements: YtcebmcbglhkkfaaTotals.lean).
  GIVEN WITH THE SEED: the statements are not yours to turn. If you find one false, say at which input.
  Laid BY PROGRAM, IN A SANDBOX (cutbox-rows.mjs): the forced cells as the released guide's own fill.sh prints them over the translation f2c0a073b397b715… (all of the seat's roots in one cut). By AI agents, Wed Nov 11 2026. No macro, syntax, notation, axiom, sorry.
-/
import Derived.Test.YtcebmcbglhkkfaaChecked
import GoSem.Claim
import GoSem.ClaimJoined
import GoSem.ClaimMapViews
import Derived.JoinedTies
import Derived.KernelRfl
namespace Go.Proofs.Ytcebmcbglhkkfaa
/- THE CELL 'sum', in the pinned program and in every row, IS THE sha256 OF THE DUMP (.gsa) THAT YtcebmcbglhkkfaaProg.lean LOADS. Nothing in Lean hashes anything: it is a label: what it is worth is what the hold of that sum in a sandbox is worth. -/
noncomputable def Try.pinned : Pinned := { name := "ytcebmcbglhkkfaa", sum := "f2c0a073b397b715f12b09991dfa0a98461a6eb529a2bc7597bd67a905d8d625", checked := Try.checked }
namespace Rows
def none {H : Type} : Left H := { results := [], args := [] }

/-- 'laws.FnSweepCount': WHATEVER THE INPUT: true; the input reads as it did. -/
def fnSweepCountSpec : ChangeSpec := { name := "fnSweepCount", fn := fun _ => fun
  | [d] => { results := [.lit (.bool true)], args := [d] }
  | _ => none }
def fnSweepCountRow : OpenClaim := { program := "ytcebmcbglhkkfaa", sum := "f2c0a073b397b715f12b09991dfa0a98461a6eb529a2bc7597bd67a905d8d625", func := "loop.example/planargeometry/laws.FnSweepCount", spec := "fnSweepCount", unfollowed := true, recurses := true, apart := false }
def FnSweepCountSaid : Prop := fnSweepCountRow.holds Try.pinned (OpenSpec.ofChange fnSweepCountSpec)

/-- ITS FALSE NEIGHBOUR: 'it returns false'. Refute it at one input. -/
def fnSweepCountWrong : ChangeSpec := { name := "fnSweepCount", fn := fun _ => fun
  | [d] => { results := [.lit (.bool false)], args := [d] }
  | _ => none }
def FnSweepCountWrongFalsely : Prop := fnSweepCountRow.holds Try.pinned (OpenSpec.ofChange fnSweepCountWrong)

/-- 'laws.FnLatticeInside': WHATEVER THE INPUT: true; the input reads as it did. -/
def fnLatticeInsideSpec : ChangeSpec := { name := "fnLatticeInside", fn := fun _ => fun
  | [d] => { results := [.lit (.bool true)], args := [d] }
  | _ => none }
def fnLatticeInsideRow : OpenClaim := { program := "ytcebmcbglhkkfaa", sum := "f2c0a073b397b715f12b09991dfa0a98461a6eb529a2bc7597bd67a905d8d625", func := "loop.example/planargeometry/laws.FnLatticeInside", spec := "fnLatticeInside", unfollowed := true, recurses := true, apart := false }
def FnLatticeInsideSaid : Prop := fnLatticeInsideRow.holds Try.pinned (OpenSpec.ofChange fnLatticeInsideSpec)

/-- ITS FALSE NEIGHBOUR: 'it returns false'. Refute it at one input. -/
def fnLatticeInsideWrong : ChangeSpec := { name := "fnLatticeInside", fn := fun _ => fun
  | [d] => { results := [.lit (.bool false)], args := [d] }
  | _ => none }
def FnLatticeInsideWrongFalsely : Prop := fnLatticeInsideRow.holds Try.pinned (OpenSpec.ofChange fnLatticeInsideWrong)

/-- 'laws.FnDelaunay': WHATEVER THE INPUT: true; the input reads as it did. -/
def fnDelaunaySpec : ChangeSpec := { name := "fnDelaunay", fn := fun _ => fun
  | [d] => { results := [.lit (.bool true)], args := [d] }
  | _ => none }
def fnDelaunayRow : OpenClaim := { program := "ytcebmcbglhkkfaa", sum := "f2c0a073b397b715f12b09991dfa0a98461a6eb529a2bc7597bd67a905d8d625", func := "loop.example/planargeometry/laws.FnDelaunay", spec := "fnDelaunay", unfollowed := true, recurses := true, apart := false }
def FnDelaunaySaid : Prop := fnDelaunayRow.holds Try.pinned (OpenSpec.ofChange fnDelaunaySpec)

/-- ITS FALSE NEIGHBOUR: 'it returns false'. Refute it at one input. -/
def fnDelaunayWrong : ChangeSpec := { name := "fnDelaunay", fn := fun _ => fun
  | [d] => { results := [.lit (.bool false)], args := [d] }
  | _ => none }
def FnDelaunayWrongFalsely : Prop := fnDelaunayRow.holds Try.pinned (OpenSpec.ofChange fnDelaunayWrong)

/- THE SECOND FORM. 'bulk': how many values and letters a reading holds, each counted each time it is reached (what is shared counts as often as it is met; a slice's spare places count too). A statement '..UptoSaid' is the law's where the arguments, and the package variables that the reading takes, are together of bulk at most 1048576: NARROWER than '..Said'. Prove '..Said' where nothing that the law and all that it calls make is longer than what came in: it says more and counts as full. Else prove '..UptoSaid'. A law counts once. -/
mutual
def uptoBulk {H : Type} : DataW H → Nat
  | .lit (.string bytes) => bytes.length + 1
  | .lit _ => 1
  | .nil => 1
  | .ptr d => uptoBulk d + 1
  | .slice elems spare => uptoBulkAll elems + uptoBulkAll spare + 1
  | .agg parts => uptoBulkAll parts + 1
  | .iface _ d => uptoBulk d + 1
  | .map entries => uptoBulkEntries entries + 1
  | .held _ => 1
def uptoBulkAll {H : Type} : List (DataW H) → Nat
  | [] => 0
  | d :: r => uptoBulk d + uptoBulkAll r
def uptoBulkEntries {H : Type} : List (Lit × DataW H) → Nat
  | [] => 0
  | x :: r => uptoBulkEntry x + uptoBulkEntries r
def uptoBulkEntry {H : Type} : Lit × DataW H → Nat
  | (.string bytes, d) => bytes.length + uptoBulk d + 1
  | (_, d) => uptoBulk d + 1
 end
def uptoSmall : (H : Type) → List (DataW H) → Bool := fun _ ds => decide (uptoBulkAll ds ≤ 1048576)
def OpenSpec.upto (s : _root_.Go.ChangeSpec) : _root_.Go.OpenSpec := { _root_.Go.OpenSpec.ofChange s with cond := some uptoSmall }

/-- 'laws.FnSweepCount', WHERE WHAT IT READS IS OF BULK AT MOST 1048576: true; the input reads as it did. -/
def fnSweepCountUptoRow : OpenClaim := { program := "ytcebmcbglhkkfaa", sum := "f2c0a073b397b715f12b09991dfa0a98461a6eb529a2bc7597bd67a905d8d625", func := "loop.example/planargeometry/laws.FnSweepCount", spec := "fnSweepCount", unfollowed := true, recurses := true, apart := false, narrowed := true }
def FnSweepCountUptoSaid : Prop := fnSweepCountUptoRow.holds Try.pinned (OpenSpec.upto fnSweepCountSpec)

/-- 'laws.FnLatticeInside', WHERE WHAT IT READS IS OF BULK AT MOST 1048576: true; the input reads as it did. -/
def fnLatticeInsideUptoRow : OpenClaim := { program := "ytcebmcbglhkkfaa", sum := "f2c0a073b397b715f12b09991dfa0a98461a6eb529a2bc7597bd67a905d8d625", func := "loop.example/planargeometry/laws.FnLatticeInside", spec := "fnLatticeInside", unfollowed := true, recurses := true, apart := false, narrowed := true }
def FnLatticeInsideUptoSaid : Prop := fnLatticeInsideUptoRow.holds Try.pinned (OpenSpec.upto fnLatticeInsideSpec)

/-- 'laws.FnDelaunay', WHERE WHAT IT READS IS OF BULK AT MOST 1048576: true; the input reads as it did. -/
def fnDelaunayUptoRow : OpenClaim := { program := "ytcebmcbglhkkfaa", sum := "f2c0a073b397b715f12b09991dfa0a98461a6eb529a2bc7597bd67a905d8d625", func := "loop.example/planargeometry/laws.FnDelaunay", spec := "fnDelaunay", unfollowed := true, recurses := true, apart := false, narrowed := true }
def FnDelaunayUptoSaid : Prop := fnDelaunayUptoRow.holds Try.pinned (OpenSpec.upto fnDelaunaySpec)

end Rows
end Go.Proofs.Ytcebmcbglhkkfaa
