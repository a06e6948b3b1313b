/-
  The reference's EqualBytes: two slices are compared, element by element.
-/
import Derived.Test.YtabdcngkdgadfaaProg
import Derived.Test.YtabdcngkdgadfaaGA
import Derived.WalkKit
import Derived.WalkSpells
import Derived.WalkLawsBesides
import Derived.Lib.Hide
import Derived.Deep.QuietTactic
import Derived.BigQuiet
namespace Go.Proofs.Ytabdcngkdgadfaa
open Go.RowKit

end Go.Proofs.Ytabdcngkdgadfaa
