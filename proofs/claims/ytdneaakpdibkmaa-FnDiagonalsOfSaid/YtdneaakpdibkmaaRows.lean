/-
  No cell of these rows narrows 'for every input' (looked for: loops, veiled, ifaces, maps, wideKeys, modest, calm, conditions, laid).
  DERIVED. THE GIVEN ROWS OF THIS SEAT. 9 by the template 'for every input the law returns true; each argument reads behind the call as it read before'; 0 by the template 'total and deterministic' (their statements: YtdneaakpdibkmaaTotals.lean).
  GIVEN WITH THE SEED: the statements are not yours to turn. If you find one false, say at which input.
  Laid BY PROGRAM, IN A SANDBOX (cutbox-rows.mjs): the forced cells as the released guide's own fill.sh prints them over the translation a28810d0e48cf66f… (all of the seat's roots in one cut). By AI agents, Wed Nov 11 2026. No macro, syntax, notation, axiom, sorry.
-/
import Derived.Test.YtdneaakpdibkmaaChecked
import GoSem.Claim
import GoSem.ClaimJoined
import GoSem.ClaimMapViews
import Derived.JoinedTies
import Derived.KernelRfl
namespace Go.Proofs.Ytdneaakpdibkmaa
/- THE CELL 'sum', in the pinned program and in every row, IS THE sha256 OF THE DUMP (.gsa) THAT YtdneaakpdibkmaaProg.lean LOADS. Nothing in Lean hashes anything: it is a label: what it is worth is what the hold of that sum in a sandbox is worth. -/
noncomputable def Try.pinned : Pinned := { name := "ytdneaakpdibkmaa", sum := "a28810d0e48cf66f60ab1fc5bc24df40371616762fa36384ded472c2f4ca18ae", checked := Try.checked }
namespace Rows
def none {H : Type} : Left H := { results := [], args := [] }

/-- 'laws.FnLocateConvex': WHATEVER THE INPUT: true; the input reads as it did. -/
def fnLocateConvexSpec : ChangeSpec := { name := "fnLocateConvex", fn := fun _ => fun
  | [d] => { results := [.lit (.bool true)], args := [d] }
  | _ => none }
def fnLocateConvexRow : OpenClaim := { program := "ytdneaakpdibkmaa", sum := "a28810d0e48cf66f60ab1fc5bc24df40371616762fa36384ded472c2f4ca18ae", func := "loop.example/planargeometry/laws.FnLocateConvex", spec := "fnLocateConvex", unfollowed := true, recurses := true, apart := false }
def FnLocateConvexSaid : Prop := fnLocateConvexRow.holds Try.pinned (OpenSpec.ofChange fnLocateConvexSpec)

/-- ITS FALSE NEIGHBOUR: 'it returns false'. Refute it at one input. -/
def fnLocateConvexWrong : ChangeSpec := { name := "fnLocateConvex", fn := fun _ => fun
  | [d] => { results := [.lit (.bool false)], args := [d] }
  | _ => none }
def FnLocateConvexWrongFalsely : Prop := fnLocateConvexRow.holds Try.pinned (OpenSpec.ofChange fnLocateConvexWrong)

/-- 'laws.FnExactSplitPolygon': WHATEVER THE INPUT: true; the input reads as it did. -/
def fnExactSplitPolygonSpec : ChangeSpec := { name := "fnExactSplitPolygon", fn := fun _ => fun
  | [d1, d2, d3] => { results := [.lit (.bool true)], args := [d1, d2, d3] }
  | _ => none }
def fnExactSplitPolygonRow : OpenClaim := { program := "ytdneaakpdibkmaa", sum := "a28810d0e48cf66f60ab1fc5bc24df40371616762fa36384ded472c2f4ca18ae", func := "loop.example/planargeometry/laws.FnExactSplitPolygon", spec := "fnExactSplitPolygon", unfollowed := true, recurses := true, apart := false }
def FnExactSplitPolygonSaid : Prop := fnExactSplitPolygonRow.holds Try.pinned (OpenSpec.ofChange fnExactSplitPolygonSpec)

/-- ITS FALSE NEIGHBOUR: 'it returns false'. Refute it at one input. -/
def fnExactSplitPolygonWrong : ChangeSpec := { name := "fnExactSplitPolygon", fn := fun _ => fun
  | [d1, d2, d3] => { results := [.lit (.bool false)], args := [d1, d2, d3] }
  | _ => none }
def FnExactSplitPolygonWrongFalsely : Prop := fnExactSplitPolygonRow.holds Try.pinned (OpenSpec.ofChange fnExactSplitPolygonWrong)

/-- 'laws.FnConvexDiagonals': WHATEVER THE INPUT: true; the input reads as it did. -/
def fnConvexDiagonalsSpec : ChangeSpec := { name := "fnConvexDiagonals", fn := fun _ => fun
  | [d] => { results := [.lit (.bool true)], args := [d] }
  | _ => none }
def fnConvexDiagonalsRow : OpenClaim := { program := "ytdneaakpdibkmaa", sum := "a28810d0e48cf66f60ab1fc5bc24df40371616762fa36384ded472c2f4ca18ae", func := "loop.example/planargeometry/laws.FnConvexDiagonals", spec := "fnConvexDiagonals", unfollowed := true, recurses := true, apart := false }
def FnConvexDiagonalsSaid : Prop := fnConvexDiagonalsRow.holds Try.pinned (OpenSpec.ofChange fnConvexDiagonalsSpec)

/-- ITS FALSE NEIGHBOUR: 'it returns false'. Refute it at one input. -/
def fnConvexDiagonalsWrong : ChangeSpec := { name := "fnConvexDiagonals", fn := fun _ => fun
  | [d] => { results := [.lit (.bool false)], args := [d] }
  | _ => none }
def FnConvexDiagonalsWrongFalsely : Prop := fnConvexDiagonalsRow.holds Try.pinned (OpenSpec.ofChange fnConvexDiagonalsWrong)

/-- 'laws.FnIsDiagonal': WHATEVER THE INPUT: true; the input reads as it did. -/
def fnIsDiagonalSpec : ChangeSpec := { name := "fnIsDiagonal", fn := fun _ => fun
  | [d] => { results := [.lit (.bool true)], args := [d] }
  | _ => none }
def fnIsDiagonalRow : OpenClaim := { program := "ytdneaakpdibkmaa", sum := "a28810d0e48cf66f60ab1fc5bc24df40371616762fa36384ded472c2f4ca18ae", func := "loop.example/planargeometry/laws.FnIsDiagonal", spec := "fnIsDiagonal", unfollowed := true, recurses := true, apart := false }
def FnIsDiagonalSaid : Prop := fnIsDiagonalRow.holds Try.pinned (OpenSpec.ofChange fnIsDiagonalSpec)

/-- ITS FALSE NEIGHBOUR: 'it returns false'. Refute it at one input. -/
def fnIsDiagonalWrong : ChangeSpec := { name := "fnIsDiagonal", fn := fun _ => fun
  | [d] => { results := [.lit (.bool false)], args := [d] }
  | _ => none }
def FnIsDiagonalWrongFalsely : Prop := fnIsDiagonalRow.holds Try.pinned (OpenSpec.ofChange fnIsDiagonalWrong)

/-- 'laws.FnDiagonalInside': WHATEVER THE INPUT: true; the input reads as it did. -/
def fnDiagonalInsideSpec : ChangeSpec := { name := "fnDiagonalInside", fn := fun _ => fun
  | [d] => { results := [.lit (.bool true)], args := [d] }
  | _ => none }
def fnDiagonalInsideRow : OpenClaim := { program := "ytdneaakpdibkmaa", sum := "a28810d0e48cf66f60ab1fc5bc24df40371616762fa36384ded472c2f4ca18ae", func := "loop.example/planargeometry/laws.FnDiagonalInside", spec := "fnDiagonalInside", unfollowed := true, recurses := true, apart := false }
def FnDiagonalInsideSaid : Prop := fnDiagonalInsideRow.holds Try.pinned (OpenSpec.ofChange fnDiagonalInsideSpec)

/-- ITS FALSE NEIGHBOUR: 'it returns false'. Refute it at one input. -/
def fnDiagonalInsideWrong : ChangeSpec := { name := "fnDiagonalInside", fn := fun _ => fun
  | [d] => { results := [.lit (.bool false)], args := [d] }
  | _ => none }
def FnDiagonalInsideWrongFalsely : Prop := fnDiagonalInsideRow.holds Try.pinned (OpenSpec.ofChange fnDiagonalInsideWrong)

/-- 'laws.FnExactDiagonalsOf': WHATEVER THE INPUT: true; the input reads as it did. -/
def fnExactDiagonalsOfSpec : ChangeSpec := { name := "fnExactDiagonalsOf", fn := fun _ => fun
  | [d] => { results := [.lit (.bool true)], args := [d] }
  | _ => none }
def fnExactDiagonalsOfRow : OpenClaim := { program := "ytdneaakpdibkmaa", sum := "a28810d0e48cf66f60ab1fc5bc24df40371616762fa36384ded472c2f4ca18ae", func := "loop.example/planargeometry/laws.FnExactDiagonalsOf", spec := "fnExactDiagonalsOf", unfollowed := true, recurses := true, apart := false }
def FnExactDiagonalsOfSaid : Prop := fnExactDiagonalsOfRow.holds Try.pinned (OpenSpec.ofChange fnExactDiagonalsOfSpec)

/-- ITS FALSE NEIGHBOUR: 'it returns false'. Refute it at one input. -/
def fnExactDiagonalsOfWrong : ChangeSpec := { name := "fnExactDiagonalsOf", fn := fun _ => fun
  | [d] => { results := [.lit (.bool false)], args := [d] }
  | _ => none }
def FnExactDiagonalsOfWrongFalsely : Prop := fnExactDiagonalsOfRow.holds Try.pinned (OpenSpec.ofChange fnExactDiagonalsOfWrong)

/-- 'laws.FnIsConvex': WHATEVER THE INPUT: true; the input reads as it did. -/
def fnIsConvexSpec : ChangeSpec := { name := "fnIsConvex", fn := fun _ => fun
  | [d] => { results := [.lit (.bool true)], args := [d] }
  | _ => none }
def fnIsConvexRow : OpenClaim := { program := "ytdneaakpdibkmaa", sum := "a28810d0e48cf66f60ab1fc5bc24df40371616762fa36384ded472c2f4ca18ae", func := "loop.example/planargeometry/laws.FnIsConvex", spec := "fnIsConvex", unfollowed := true, recurses := true, apart := false }
def FnIsConvexSaid : Prop := fnIsConvexRow.holds Try.pinned (OpenSpec.ofChange fnIsConvexSpec)

/-- ITS FALSE NEIGHBOUR: 'it returns false'. Refute it at one input. -/
def fnIsConvexWrong : ChangeSpec := { name := "fnIsConvex", fn := fun _ => fun
  | [d] => { results := [.lit (.bool false)], args := [d] }
  | _ => none }
def FnIsConvexWrongFalsely : Prop := fnIsConvexRow.holds Try.pinned (OpenSpec.ofChange fnIsConvexWrong)

/-- 'laws.FnDiagonalsOf': WHATEVER THE INPUT: true; the input reads as it did. -/
def fnDiagonalsOfSpec : ChangeSpec := { name := "fnDiagonalsOf", fn := fun _ => fun
  | [d] => { results := [.lit (.bool true)], args := [d] }
  | _ => none }
def fnDiagonalsOfRow : OpenClaim := { program := "ytdneaakpdibkmaa", sum := "a28810d0e48cf66f60ab1fc5bc24df40371616762fa36384ded472c2f4ca18ae", func := "loop.example/planargeometry/laws.FnDiagonalsOf", spec := "fnDiagonalsOf", unfollowed := true, recurses := true, apart := false }
def FnDiagonalsOfSaid : Prop := fnDiagonalsOfRow.holds Try.pinned (OpenSpec.ofChange fnDiagonalsOfSpec)

/-- ITS FALSE NEIGHBOUR: 'it returns false'. Refute it at one input. -/
def fnDiagonalsOfWrong : ChangeSpec := { name := "fnDiagonalsOf", fn := fun _ => fun
  | [d] => { results := [.lit (.bool false)], args := [d] }
  | _ => none }
def FnDiagonalsOfWrongFalsely : Prop := fnDiagonalsOfRow.holds Try.pinned (OpenSpec.ofChange fnDiagonalsOfWrong)

/-- 'laws.FnSplitPolygon': WHATEVER THE INPUT: true; the input reads as it did. -/
def fnSplitPolygonSpec : ChangeSpec := { name := "fnSplitPolygon", fn := fun _ => fun
  | [d] => { results := [.lit (.bool true)], args := [d] }
  | _ => none }
def fnSplitPolygonRow : OpenClaim := { program := "ytdneaakpdibkmaa", sum := "a28810d0e48cf66f60ab1fc5bc24df40371616762fa36384ded472c2f4ca18ae", func := "loop.example/planargeometry/laws.FnSplitPolygon", spec := "fnSplitPolygon", unfollowed := true, recurses := true, apart := false }
def FnSplitPolygonSaid : Prop := fnSplitPolygonRow.holds Try.pinned (OpenSpec.ofChange fnSplitPolygonSpec)

/-- ITS FALSE NEIGHBOUR: 'it returns false'. Refute it at one input. -/
def fnSplitPolygonWrong : ChangeSpec := { name := "fnSplitPolygon", fn := fun _ => fun
  | [d] => { results := [.lit (.bool false)], args := [d] }
  | _ => none }
def FnSplitPolygonWrongFalsely : Prop := fnSplitPolygonRow.holds Try.pinned (OpenSpec.ofChange fnSplitPolygonWrong)

/- THE SECOND FORM. 'bulk': how many values and letters a reading holds, each counted each time it is reached (what is shared counts as often as it is met; a slice's spare places count too). A statement '..UptoSaid' is the law's where the arguments, and the package variables that the reading takes, are together of bulk at most 1048576: NARROWER than '..Said'. Prove '..Said' where nothing that the law and all that it calls make is longer than what came in: it says more and counts as full. Else prove '..UptoSaid'. A law counts once. -/
mutual
def uptoBulk {H : Type} : DataW H → Nat
  | .lit (.string bytes) => bytes.length + 1
  | .lit _ => 1
  | .nil => 1
  | .ptr d => uptoBulk d + 1
  | .slice elems spare => uptoBulkAll elems + uptoBulkAll spare + 1
  | .agg parts => uptoBulkAll parts + 1
  | .iface _ d => uptoBulk d + 1
  | .map entries => uptoBulkEntries entries + 1
  | .held _ => 1
def uptoBulkAll {H : Type} : List (DataW H) → Nat
  | [] => 0
  | d :: r => uptoBulk d + uptoBulkAll r
def uptoBulkEntries {H : Type} : List (Lit × DataW H) → Nat
  | [] => 0
  | x :: r => uptoBulkEntry x + uptoBulkEntries r
def uptoBulkEntry {H : Type} : Lit × DataW H → Nat
  | (.string bytes, d) => bytes.length + uptoBulk d + 1
  | (_, d) => uptoBulk d + 1
 end
def uptoSmall : (H : Type) → List (DataW H) → Bool := fun _ ds => decide (uptoBulkAll ds ≤ 1048576)
def OpenSpec.upto (s : _root_.Go.ChangeSpec) : _root_.Go.OpenSpec := { _root_.Go.OpenSpec.ofChange s with cond := some uptoSmall }

/-- 'laws.FnLocateConvex', WHERE WHAT IT READS IS OF BULK AT MOST 1048576: true; the input reads as it did. -/
def fnLocateConvexUptoRow : OpenClaim := { program := "ytdneaakpdibkmaa", sum := "a28810d0e48cf66f60ab1fc5bc24df40371616762fa36384ded472c2f4ca18ae", func := "loop.example/planargeometry/laws.FnLocateConvex", spec := "fnLocateConvex", unfollowed := true, recurses := true, apart := false, narrowed := true }
def FnLocateConvexUptoSaid : Prop := fnLocateConvexUptoRow.holds Try.pinned (OpenSpec.upto fnLocateConvexSpec)

/-- 'laws.FnExactSplitPolygon', WHERE WHAT IT READS IS OF BULK AT MOST 1048576: true; the input reads as it did. -/
def fnExactSplitPolygonUptoRow : OpenClaim := { program := "ytdneaakpdibkmaa", sum := "a28810d0e48cf66f60ab1fc5bc24df40371616762fa36384ded472c2f4ca18ae", func := "loop.example/planargeometry/laws.FnExactSplitPolygon", spec := "fnExactSplitPolygon", unfollowed := true, recurses := true, apart := false, narrowed := true }
def FnExactSplitPolygonUptoSaid : Prop := fnExactSplitPolygonUptoRow.holds Try.pinned (OpenSpec.upto fnExactSplitPolygonSpec)

/-- 'laws.FnConvexDiagonals', WHERE WHAT IT READS IS OF BULK AT MOST 1048576: true; the input reads as it did. -/
def fnConvexDiagonalsUptoRow : OpenClaim := { program := "ytdneaakpdibkmaa", sum := "a28810d0e48cf66f60ab1fc5bc24df40371616762fa36384ded472c2f4ca18ae", func := "loop.example/planargeometry/laws.FnConvexDiagonals", spec := "fnConvexDiagonals", unfollowed := true, recurses := true, apart := false, narrowed := true }
def FnConvexDiagonalsUptoSaid : Prop := fnConvexDiagonalsUptoRow.holds Try.pinned (OpenSpec.upto fnConvexDiagonalsSpec)

/-- 'laws.FnIsDiagonal', WHERE WHAT IT READS IS OF BULK AT MOST 1048576: true; the input reads as it did. -/
def fnIsDiagonalUptoRow : OpenClaim := { program := "ytdneaakpdibkmaa", sum := "a28810d0e48cf66f60ab1fc5bc24df40371616762fa36384ded472c2f4ca18ae", func := "loop.example/planargeometry/laws.FnIsDiagonal", spec := "fnIsDiagonal", unfollowed := true, recurses := true, apart := false, narrowed := true }
def FnIsDiagonalUptoSaid : Prop := fnIsDiagonalUptoRow.holds Try.pinned (OpenSpec.upto fnIsDiagonalSpec)

/-- 'laws.FnDiagonalInside', WHERE WHAT IT READS IS OF BULK AT MOST 1048576: true; the input reads as it did. -/
def fnDiagonalInsideUptoRow : OpenClaim := { program := "ytdneaakpdibkmaa", sum := "a28810d0e48cf66f60ab1fc5bc24df40371616762fa36384ded472c2f4ca18ae", func := "loop.example/planargeometry/laws.FnDiagonalInside", spec := "fnDiagonalInside", unfollowed := true, recurses := true, apart := false, narrowed := true }
def FnDiagonalInsideUptoSaid : Prop := fnDiagonalInsideUptoRow.holds Try.pinned (OpenSpec.upto fnDiagonalInsideSpec)

/-- 'laws.FnExactDiagonalsOf', WHERE WHAT IT READS IS OF BULK AT MOST 1048576: true; the input reads as it did. -/
def fnExactDiagonalsOfUptoRow : OpenClaim := { program := "ytdneaakpdibkmaa", sum := "a28810d0e48cf66f60ab1fc5bc24df40371616762fa36384ded472c2f4ca18ae", func := "loop.example/planargeometry/laws.FnExactDiagonalsOf", spec := "fnExactDiagonalsOf", unfollowed := true, recurses := true, apart := false, narrowed := true }
def FnExactDiagonalsOfUptoSaid : Prop := fnExactDiagonalsOfUptoRow.holds Try.pinned (OpenSpec.upto fnExactDiagonalsOfSpec)

/-- 'laws.FnIsConvex', WHERE WHAT IT READS IS OF BULK AT MOST 1048576: true; the input reads as it did. -/
def fnIsConvexUptoRow : OpenClaim := { program := "ytdneaakpdibkmaa", sum := "a28810d0e48cf66f60ab1fc5bc24df40371616762fa36384ded472c2f4ca18ae", func := "loop.example/planargeometry/laws.FnIsConvex", spec := "fnIsConvex", unfollowed := true, recurses := true, apart := false, narrowed := true }
def FnIsConvexUptoSaid : Prop := fnIsConvexUptoRow.holds Try.pinned (OpenSpec.upto fnIsConvexSpec)

/-- 'laws.FnDiagonalsOf', WHERE WHAT IT READS IS OF BULK AT MOST 1048576: true; the input reads as it did. -/
def fnDiagonalsOfUptoRow : OpenClaim := { program := "ytdneaakpdibkmaa", sum := "a28810d0e48cf66f60ab1fc5bc24df40371616762fa36384ded472c2f4ca18ae", func := "loop.example/planargeometry/laws.FnDiagonalsOf", spec := "fnDiagonalsOf", unfollowed := true, recurses := true, apart := false, narrowed := true }
def FnDiagonalsOfUptoSaid : Prop := fnDiagonalsOfUptoRow.holds Try.pinned (OpenSpec.upto fnDiagonalsOfSpec)

/-- 'laws.FnSplitPolygon', WHERE WHAT IT READS IS OF BULK AT MOST 1048576: true; the input reads as it did. -/
def fnSplitPolygonUptoRow : OpenClaim := { program := "ytdneaakpdibkmaa", sum := "a28810d0e48cf66f60ab1fc5bc24df40371616762fa36384ded472c2f4ca18ae", func := "loop.example/planargeometry/laws.FnSplitPolygon", spec := "fnSplitPolygon", unfollowed := true, recurses := true, apart := false, narrowed := true }
def FnSplitPolygonUptoSaid : Prop := fnSplitPolygonUptoRow.holds Try.pinned (OpenSpec.upto fnSplitPolygonSpec)

end Rows
end Go.Proofs.Ytdneaakpdibkmaa
