
/- The program's 'has': a point on a segment, whose ends may be equal. -/
import Derived.Test.YtlggmjofglmjcaaDoorLeaf
set_option linter.unusedVariables false
set_option linter.unusedSimpArgs false
namespace Go.Proofs.YtlggmjofglmjcaaDoor
open Go.RowKit

end Go.Proofs.YtlggmjofglmjcaaDoor
