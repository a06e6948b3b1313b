/-
  Contracts of the functions on plain integers: each returns what its text says, and leaves the world alone.
-/
import Derived.Test.YtabdcngkdgadfaaProg
import Derived.Test.YtabdcngkdgadfaaGA
import Derived.WalkKit
import Derived.WalkSpells
import Derived.WalkLawsBesides
namespace Go.Proofs.Ytabdcngkdgadfaa
open Go.RowKit

set_option maxHeartbeats 400000 in
theorem i_InRange (n a b : Int) (w : World) :
    Calls Try.prog 20 #[.int .i64 n, .int .i64 a, .int .i64 b] w fun e w' => e = .returned (.bool (decide (a ≤ n) && decide (n ≤ b))) ∧ w = w' := by
  go_enter Try.func20, Try.ntmps20
  go_wp2
  all_goals (go_ret; exact ⟨by simp; omega, rfl⟩)

def ceilDiv (a b : Int) : Int := if 0 ≤ a ∧ a ≤ 1000000000000 ∧ 1 ≤ b ∧ b ≤ 1000000000000 then (a + b - 1) / b else 0

def mod (p q : Int) : Int := if 1 ≤ q ∧ q ≤ 1000000000000 then p % q else 0

end Go.Proofs.Ytabdcngkdgadfaa
