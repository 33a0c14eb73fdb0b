
/- A world in which the listed variables hold what the program's text lays: the witness. -/
import Derived.Test.YtnddfdhfefconaaGreatDoorRows
import Derived.LaidMore
import Derived.LaidHandle
import Derived.ProofKit
set_option linter.unusedVariables false
set_option linter.unusedSimpArgs false
namespace Go.Proofs.YtnddfdhfefconaaGreatDoor
open Go.RowKit
/-- The settled world, its heap the one that the door's run leaves. -/
noncomputable def witW (os : Os) : World := World.doorLaid Tryz.prog 4000 os
end Go.Proofs.YtnddfdhfefconaaGreatDoor
