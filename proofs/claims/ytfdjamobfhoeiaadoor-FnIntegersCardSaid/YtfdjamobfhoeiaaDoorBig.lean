/-
  big: is the code too long?
-/
import Derived.Test.YtfdjamobfhoeiaaDoorProg
import Derived.Test.YtfdjamobfhoeiaaDoorBase
import Derived.Test.YtfdjamobfhoeiaaDoorRep
import Derived.WalkKit
import Derived.WalkSpells
import Derived.WalkLawsBesides
namespace Go.Proofs.YtfdjamobfhoeiaaDoor
open Go.RowKit

set_option maxHeartbeats 1000000 in
theorem l_big (v : Value) (l : List UInt8) (w : World) (hr : Rd w v 1 l.length (cB l)) :
    Calls Tryd.prog 7 #[v] w fun e w' => e = .returned (.bool (decide ((1048576 : Int) < l.length))) ∧ w = w' := by
  obtain ⟨_, A, c, rfl, hnc, hcm, hcell⟩ := hr
  clear hcell
  go_enter Tryd.func7, Tryd.ntmps7
  go_wp2_with fail
  go_ret
  exact ⟨rfl, rfl⟩

end Go.Proofs.YtfdjamobfhoeiaaDoor
