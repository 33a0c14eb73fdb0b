

/- Comparing numbers and points. -/
import Derived.Test.YtlggmjofglmjcaaDoorLeaf
import Derived.Outline
import Derived.Deep.RegionHeld3
set_option linter.unusedVariables false
set_option linter.unusedSimpArgs false
namespace Go.Proofs.YtlggmjofglmjcaaDoor
open Go.RowKit

def orI (a b : Int) : Int := if a = 0 then b else a
end Go.Proofs.YtlggmjofglmjcaaDoor
