/-
  No contract of the library is needed here: nothing is stated. No condition.
-/
import Derived.Test.YtcebmcbglhkkfaaProg
namespace Go.Proofs.Ytcebmcbglhkkfaa
end Go.Proofs.Ytcebmcbglhkkfaa
