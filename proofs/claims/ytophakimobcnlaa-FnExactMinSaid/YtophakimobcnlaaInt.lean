/-
  Contracts of the functions on plain integers: each returns what its text says, and leaves the world alone.
-/
import Derived.Test.YtophakimobcnlaaProg
import Derived.Test.YtophakimobcnlaaBase
import Derived.WalkKit
import Derived.WalkSpells
import Derived.WalkLawsBesides
namespace Go.Proofs.Ytophakimobcnlaa
open Go.RowKit

set_option maxHeartbeats 400000 in
theorem i_InRange (n a b : Int) (w : World) :
    Calls Try.prog 16 #[.int .i64 n, .int .i64 a, .int .i64 b] w fun e w' => e = .returned (.bool (decide (a ≤ n) && decide (n ≤ b))) ∧ w = w' := by
  go_enter Try.func16, Try.ntmps16
  go_wp2
  all_goals (go_ret; exact ⟨by simp; omega, rfl⟩)

set_option maxHeartbeats 400000 in
theorem s_InRange (n a b : Int) (w : World) :
    Calls Try.prog 15 #[.int .i64 n, .int .i64 a, .int .i64 b] w fun e w' => e = .returned (.bool (decide (a ≤ n) && decide (n ≤ b))) ∧ w = w' := by
  go_enter Try.func15, Try.ntmps15
  go_wp2
  all_goals (go_ret; exact ⟨by simp; omega, rfl⟩)

set_option maxHeartbeats 400000 in
theorem s_l1In (n a b : Int) (w : World) :
    Calls Try.prog 40 #[.int .i64 n, .int .i64 a, .int .i64 b] w fun e w' => e = .returned (.bool (decide (a ≤ n) && decide (n ≤ b))) ∧ w = w' := by
  go_enter Try.func40, Try.ntmps40
  go_wp2
  all_goals (go_ret; exact ⟨by simp; omega, rfl⟩)

def ceilDiv (a b : Int) : Int := if 0 ≤ a ∧ a ≤ 1000000000000 ∧ 1 ≤ b ∧ b ≤ 1000000000000 then (a + b - 1) / b else 0

set_option maxHeartbeats 400000 in
theorem s_CeilDiv (a b : Int) (w : World) :
    Calls Try.prog 17 #[.int .i64 a, .int .i64 b] w fun e w' => e = .returned (.int .i64 (ceilDiv a b)) ∧ w = w' := by
  by_cases h1 : 0 ≤ a <;> by_cases h2 : a ≤ 1000000000000 <;> by_cases h3 : 1 ≤ b <;> by_cases h4 : b ≤ 1000000000000
  all_goals
    go_enter Try.func17, Try.ntmps17
    go_wp2
    all_goals (go_ret; exact ⟨ret_int (by unfold ceilDiv; first | (exfalso; omega) | rw [if_pos (by omega)] | rw [if_neg (by omega)]), rfl⟩)

set_option maxHeartbeats 400000 in
theorem i_CeilDiv (a b : Int) (w : World) :
    Calls Try.prog 18 #[.int .i64 a, .int .i64 b] w fun e w' => e = .returned (.int .i64 (ceilDiv a b)) ∧ w = w' := by
  by_cases h1 : 0 ≤ a <;> by_cases h2 : a ≤ 1000000000000 <;> by_cases h3 : 1 ≤ b <;> by_cases h4 : b ≤ 1000000000000
  all_goals
    go_enter Try.func18, Try.ntmps18
    go_wp2
    all_goals (go_ret; exact ⟨ret_int (by unfold ceilDiv; first | (exfalso; omega) | rw [if_pos (by omega)] | rw [if_neg (by omega)]), rfl⟩)

def mod (p q : Int) : Int := if 1 ≤ q ∧ q ≤ 1000000000000 then p % q else 0

set_option maxHeartbeats 400000 in
theorem s_Mod (a b : Int) (w : World) :
    Calls Try.prog 25 #[.int .i64 a, .int .i64 b] w fun e w' => e = .returned (.int .i64 (mod a b)) ∧ w = w' := by
  by_cases h3 : 1 ≤ b <;> by_cases h4 : b ≤ 1000000000000
  · obtain ⟨_, h1, h2⟩ := tmod_cases a b (by omega)
    have hf : Hid ((a.tmod b + b) % b = a % b) := tmod_fix' a b (by omega)
    go_enter Try.func25, Try.ntmps25
    go_wp2
    go_ret
    exact ⟨ret_int (by unfold mod; rw [if_pos (by omega)]; exact hf.out), rfl⟩
  all_goals
    go_enter Try.func25, Try.ntmps25
    go_wp2
    go_ret
    exact ⟨ret_int (by unfold mod; first | (exfalso; omega) | rw [if_neg (by omega)]), rfl⟩

set_option maxHeartbeats 400000 in
theorem i_Mod (a b : Int) (w : World) :
    Calls Try.prog 26 #[.int .i64 a, .int .i64 b] w fun e w' => e = .returned (.int .i64 (mod a b)) ∧ w = w' := by
  by_cases h3 : 1 ≤ b <;> by_cases h4 : b ≤ 1000000000000
  · obtain ⟨_, h1, h2⟩ := tmod_cases a b (by omega)
    by_cases h0 : a.tmod b < 0
    · have hf : Hid (a.tmod b + b = a % b) := tmod_neg a b (by omega) h0
      go_enter Try.func26, Try.ntmps26
      go_wp2
      go_ret
      exact ⟨ret_int (by unfold mod; rw [if_pos (by omega)]; exact hf.out), rfl⟩
    · have hf : Hid (a.tmod b = a % b) := tmod_pos a b (by omega) (by omega)
      go_enter Try.func26, Try.ntmps26
      go_wp2
      go_ret
      exact ⟨ret_int (by unfold mod; rw [if_pos (by omega)]; exact hf.out), rfl⟩
  all_goals
    go_enter Try.func26, Try.ntmps26
    go_wp2
    go_ret
    exact ⟨ret_int (by unfold mod; first | (exfalso; omega) | rw [if_neg (by omega)]), rfl⟩

set_option maxHeartbeats 400000 in
theorem s_Max (a b : Int) (w : World) :
    Calls Try.prog 21 #[.int .i64 a, .int .i64 b] w fun e w' => e = .returned (.int .i64 (max a b)) ∧ w = w' := by
  go_enter Try.func21, Try.ntmps21
  go_wp2
  all_goals (go_ret; exact ⟨ret_int (by omega), rfl⟩)

set_option maxHeartbeats 400000 in
theorem s_Min (a b : Int) (w : World) :
    Calls Try.prog 23 #[.int .i64 a, .int .i64 b] w fun e w' => e = .returned (.int .i64 (min a b)) ∧ w = w' := by
  go_enter Try.func23, Try.ntmps23
  go_wp2
  all_goals (go_ret; exact ⟨ret_int (by omega), rfl⟩)

set_option maxHeartbeats 1000000 in
theorem i_Max (a b : Int) (w : World) :
    Calls Try.prog 22 #[.int .i64 a, .int .i64 b] w fun e w' => e = .returned (.int .i64 (max a b)) ∧ Below w.heap.size w w' := by
  go_enter Try.func22, Try.ntmps22
  go_wp2
  refine wp_loop_rounds 2 ?_
  rw [rounds_succ]
  go_wp2
  all_goals
    rw [rounds_succ]
    go_wp2
    go_ret
    exact ⟨ret_int (by omega), (Below.refl _ _).alloc (Nat.le_refl _) _⟩

set_option maxHeartbeats 1000000 in
theorem i_Min (a b : Int) (w : World) :
    Calls Try.prog 24 #[.int .i64 a, .int .i64 b] w fun e w' => e = .returned (.int .i64 (min a b)) ∧ Below w.heap.size w w' := by
  go_enter Try.func24, Try.ntmps24
  go_wp2
  refine wp_loop_rounds 2 ?_
  rw [rounds_succ]
  go_wp2
  all_goals
    rw [rounds_succ]
    go_wp2
    go_ret
    exact ⟨ret_int (by omega), (Below.refl _ _).alloc (Nat.le_refl _) _⟩

end Go.Proofs.Ytophakimobcnlaa
