/-
  Contracts of the functions on plain integers: each returns what its text says, and leaves the world alone.
-/
import Derived.Test.YtkjjgpkegihmhaaDoorProg
import Derived.Test.YtkjjgpkegihmhaaDoorGA
import Derived.WalkKit
import Derived.WalkSpells
import Derived.WalkLawsBesides
namespace Go.Proofs.YtkjjgpkegihmhaaDoor
open Go.RowKit

set_option maxHeartbeats 400000 in
theorem i_InRange (n a b : Int) (w : World) :
    Calls Tryd.prog 66 #[.int .i64 n, .int .i64 a, .int .i64 b] w fun e w' => e = .returned (.bool (decide (a ≤ n) && decide (n ≤ b))) ∧ w = w' := by
  go_enter Tryd.func66, Tryd.ntmps66
  go_wp2
  all_goals (go_ret; exact ⟨by simp; omega, rfl⟩)

set_option maxHeartbeats 400000 in
theorem s_l1In (n a b : Int) (w : World) :
    Calls Tryd.prog 53 #[.int .i64 n, .int .i64 a, .int .i64 b] w fun e w' => e = .returned (.bool (decide (a ≤ n) && decide (n ≤ b))) ∧ w = w' := by
  go_enter Tryd.func53, Tryd.ntmps53
  go_wp2
  all_goals (go_ret; exact ⟨by simp; omega, rfl⟩)

def ceilDiv (a b : Int) : Int := if 0 ≤ a ∧ a ≤ 1000000000000 ∧ 1 ≤ b ∧ b ≤ 1000000000000 then (a + b - 1) / b else 0

def mod (p q : Int) : Int := if 1 ≤ q ∧ q ≤ 1000000000000 then p % q else 0

set_option maxHeartbeats 400000 in
theorem s_Max (a b : Int) (w : World) :
    Calls Tryd.prog 46 #[.int .i64 a, .int .i64 b] w fun e w' => e = .returned (.int .i64 (max a b)) ∧ w = w' := by
  go_enter Tryd.func46, Tryd.ntmps46
  go_wp2
  all_goals (go_ret; exact ⟨ret_int (by omega), rfl⟩)

set_option maxHeartbeats 1000000 in
theorem i_Max (a b : Int) (w : World) :
    Calls Tryd.prog 47 #[.int .i64 a, .int .i64 b] w fun e w' => e = .returned (.int .i64 (max a b)) ∧ Below w.heap.size w w' := by
  go_enter Tryd.func47, Tryd.ntmps47
  go_wp2
  refine wp_loop_rounds 2 ?_
  rw [rounds_succ]
  go_wp2
  all_goals
    rw [rounds_succ]
    go_wp2
    go_ret
    exact ⟨ret_int (by omega), (Below.refl _ _).alloc (Nat.le_refl _) _⟩

end Go.Proofs.YtkjjgpkegihmhaaDoor
