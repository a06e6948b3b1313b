/-
  Contracts of the functions on plain integers: each returns what its text says, and leaves the world alone.
-/
import Derived.Test.YtfdjamobfhoeiaaDoorProg
import Derived.Test.YtfdjamobfhoeiaaDoorBase
import Derived.WalkKit
import Derived.WalkSpells
import Derived.WalkLawsBesides
namespace Go.Proofs.YtfdjamobfhoeiaaDoor
open Go.RowKit

set_option maxHeartbeats 400000 in
theorem i_InRange (n a b : Int) (w : World) :
    Calls Tryd.prog 20 #[.int .i64 n, .int .i64 a, .int .i64 b] w fun e w' => e = .returned (.bool (decide (a ≤ n) && decide (n ≤ b))) ∧ w = w' := by
  go_enter Tryd.func20, Tryd.ntmps20
  go_wp2
  all_goals (go_ret; exact ⟨by simp; omega, rfl⟩)

def ceilDiv (a b : Int) : Int := if 0 ≤ a ∧ a ≤ 1000000000000 ∧ 1 ≤ b ∧ b ≤ 1000000000000 then (a + b - 1) / b else 0

set_option maxHeartbeats 400000 in
theorem i_CeilDiv (a b : Int) (w : World) :
    Calls Tryd.prog 12 #[.int .i64 a, .int .i64 b] w fun e w' => e = .returned (.int .i64 (ceilDiv a b)) ∧ w = w' := by
  by_cases h1 : 0 ≤ a <;> by_cases h2 : a ≤ 1000000000000 <;> by_cases h3 : 1 ≤ b <;> by_cases h4 : b ≤ 1000000000000
  all_goals
    go_enter Tryd.func12, Tryd.ntmps12
    go_wp2
    all_goals (go_ret; exact ⟨ret_int (by unfold ceilDiv; first | (exfalso; omega) | rw [if_pos (by omega)] | rw [if_neg (by omega)]), rfl⟩)

def mod (p q : Int) : Int := if 1 ≤ q ∧ q ≤ 1000000000000 then p % q else 0

set_option maxHeartbeats 400000 in
theorem i_Mod (a b : Int) (w : World) :
    Calls Tryd.prog 13 #[.int .i64 a, .int .i64 b] w fun e w' => e = .returned (.int .i64 (mod a b)) ∧ w = w' := by
  by_cases h3 : 1 ≤ b <;> by_cases h4 : b ≤ 1000000000000
  · obtain ⟨_, h1, h2⟩ := tmod_cases a b (by omega)
    by_cases h0 : a.tmod b < 0
    · have hf : Hid (a.tmod b + b = a % b) := tmod_neg a b (by omega) h0
      go_enter Tryd.func13, Tryd.ntmps13
      go_wp2
      go_ret
      exact ⟨ret_int (by unfold mod; rw [if_pos (by omega)]; exact hf.out), rfl⟩
    · have hf : Hid (a.tmod b = a % b) := tmod_pos a b (by omega) (by omega)
      go_enter Tryd.func13, Tryd.ntmps13
      go_wp2
      go_ret
      exact ⟨ret_int (by unfold mod; rw [if_pos (by omega)]; exact hf.out), rfl⟩
  all_goals
    go_enter Tryd.func13, Tryd.ntmps13
    go_wp2
    go_ret
    exact ⟨ret_int (by unfold mod; first | (exfalso; omega) | rw [if_neg (by omega)]), rfl⟩

end Go.Proofs.YtfdjamobfhoeiaaDoor
