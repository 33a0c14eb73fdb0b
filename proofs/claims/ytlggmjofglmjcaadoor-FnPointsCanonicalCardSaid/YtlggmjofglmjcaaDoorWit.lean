
/- A world in which the listed variables hold what the program's text lays: the witness. -/
import Derived.Test.YtlggmjofglmjcaaDoorRows
import Derived.LaidMore
import Derived.LaidHandle
import Derived.ProofKit
set_option linter.unusedVariables false
set_option linter.unusedSimpArgs false
namespace Go.Proofs.YtlggmjofglmjcaaDoor
open Go.RowKit
/-- The settled world, its heap the one that the door's run leaves. -/
noncomputable def witW (os : Os) : World := World.doorLaid Tryd.prog 4000 os
end Go.Proofs.YtlggmjofglmjcaaDoor
