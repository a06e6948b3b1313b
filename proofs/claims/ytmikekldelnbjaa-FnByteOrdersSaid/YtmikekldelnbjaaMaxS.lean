/-
  Max of the reference.
-/
import Derived.Test.YtmikekldelnbjaaProg
import Derived.Test.YtmikekldelnbjaaBase
import Derived.WalkKit
import Derived.WalkSpells
import Derived.WalkLawsBesides
namespace Go.Proofs.Ytmikekldelnbjaa
open Go.RowKit

set_option maxHeartbeats 400000 in
theorem s_Max2 (a b : Int) (w : World) :
    Calls Try.prog 38 #[.int .i64 a, .int .i64 b] w fun e w' => e = .returned (.int .i64 (max a b)) ∧ w = w' := by
  go_enter Try.func38, Try.ntmps38
  go_wp2
  all_goals (go_ret; exact ⟨ret_int (by omega), rfl⟩)

end Go.Proofs.Ytmikekldelnbjaa
