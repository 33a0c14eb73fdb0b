/-
  No contract of the library is needed here: nothing is stated. No condition.
-/
import Derived.Shelf.SlSortCmp.NoneTotal
import Derived.Shelf.SlicesQ.Reverse
import Derived.Shelf.SlicesE.Clone
import Derived.Test.YtlggmjofglmjcaaDoorProg
namespace Go.Proofs.YtlggmjofglmjcaaDoor
end Go.Proofs.YtlggmjofglmjcaaDoor
