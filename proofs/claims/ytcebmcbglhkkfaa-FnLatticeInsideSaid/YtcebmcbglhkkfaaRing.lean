
/- The reference's ring of a polygon's vertices, places in it, and the angle of a vertex. -/
import Derived.Test.YtcebmcbglhkkfaaPoly
import Derived.Test.YtcebmcbglhkkfaaApp
import Derived.Test.YtcebmcbglhkkfaaCanM
import Derived.Test.YtcebmcbglhkkfaaEarM
set_option linter.unusedVariables false
set_option linter.unusedSimpArgs false
namespace Go.Proofs.Ytcebmcbglhkkfaa
open Go.RowKit

end Go.Proofs.Ytcebmcbglhkkfaa
