/-
  DepthOf of the program and of the reference.
-/
import Derived.Test.YtcegbilfcblhfaaDepthS
import Derived.Test.YtcegbilfcblhfaaDepthI
namespace Go.Proofs.Ytcegbilfcblhfaa

end Go.Proofs.Ytcegbilfcblhfaa
