/-
  No contract of the library is needed here: nothing is stated. No condition.
-/
import Derived.Test.YtelhidonhldjeaaGreatProg
namespace Go.Proofs.YtelhidonhldjeaaGreat
end Go.Proofs.YtelhidonhldjeaaGreat
