/-
  The reference's EqualBytes: two slices are compared, element by element.
-/
import Derived.Test.YtkjjgpkegihmhaaGreatDoorProg
import Derived.Test.YtkjjgpkegihmhaaGreatDoorGA
import Derived.WalkKit
import Derived.WalkSpells
import Derived.WalkLawsBesides
import Derived.Lib.Hide
import Derived.Deep.QuietTactic
import Derived.BigQuiet
namespace Go.Proofs.YtkjjgpkegihmhaaGreatDoor
open Go.RowKit

end Go.Proofs.YtkjjgpkegihmhaaGreatDoor
