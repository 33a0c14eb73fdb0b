
/- More of the statements' own helpers on points. -/
import Derived.Test.YtnddfdhfefconaaGreatDoorHelp
import Derived.Test.YtnddfdhfefconaaGreatDoorSHull
import Derived.Test.YtnddfdhfefconaaGreatDoorTri
set_option linter.unusedVariables false
set_option linter.unusedSimpArgs false
namespace Go.Proofs.YtnddfdhfefconaaGreatDoor
open Go.RowKit

end Go.Proofs.YtnddfdhfefconaaGreatDoor
