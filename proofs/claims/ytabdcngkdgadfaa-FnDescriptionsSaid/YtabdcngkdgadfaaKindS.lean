/-
  l4Kind of the reference: a theorem for each kind.
-/
import Derived.Test.YtabdcngkdgadfaaGC
import Derived.Test.YtabdcngkdgadfaaGA
namespace Go.Proofs.Ytabdcngkdgadfaa
open Go.RowKit
set_option linter.unusedVariables false

end Go.Proofs.Ytabdcngkdgadfaa
