/-
  big: is the code too long?
-/
import Derived.Test.YtfdjamobfhoeiaaProg
import Derived.Test.YtfdjamobfhoeiaaBase
import Derived.Test.YtfdjamobfhoeiaaRep
import Derived.WalkKit
import Derived.WalkSpells
import Derived.WalkLawsBesides
namespace Go.Proofs.Ytfdjamobfhoeiaa
open Go.RowKit

set_option maxHeartbeats 1000000 in
theorem l_big (v : Value) (l : List UInt8) (w : World) (hr : Rd w v 1 l.length (cB l)) :
    Calls Try.prog 27 #[v] w fun e w' => e = .returned (.bool (decide ((1048576 : Int) < l.length))) ∧ w = w' := by
  obtain ⟨_, A, c, rfl, hnc, hcm, hcell⟩ := hr
  clear hcell
  go_enter Try.func27, Try.ntmps27
  go_wp2_with fail
  go_ret
  exact ⟨rfl, rfl⟩

end Go.Proofs.Ytfdjamobfhoeiaa
