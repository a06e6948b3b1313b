/-
  The laws of IsComment and CountRuleLines, from the contracts.
-/
import Derived.Test.YtfdjamobfhoeiaaWords
namespace Go.Proofs.Ytfdjamobfhoeiaa
open Go.RowKit

set_option maxHeartbeats 1000000 in
theorem law_FnExactIsComment (s : ByteArray) (w : World) (_ : s.size ≤ maxLen) :
    Calls Try.prog 3 #[.string s] w fun e w' => e = .returned (.bool true) ∧ Below w.heap.size w w' := by
  by_cases hb : (1048576 : Int) < (s.size : Int)
  · go_enter Try.func3, Try.ntmps3
    go_wp2_with fail
    go_ret
    exact ⟨rfl, Below.refl _ _⟩
  · have hd : decide ((1048576 : Int) < (s.size : Int)) = false := by simpa using hb
    go_enter Try.func3, Try.ntmps3
    go_wp2_with fail
    refine (s_IsComment s (by omega) _).mono ?_
    rintro e w1 ⟨rfl, hb1⟩
    go_wp2_with fail
    refine (i_IsComment s (by omega) _).mono ?_
    rintro e w2 ⟨rfl, hb2⟩
    go_wp2_with fail
    all_goals (go_ret; exact ⟨rfl, Below.then_ hb1 hb2 (Nat.le_refl _)⟩)

set_option maxHeartbeats 1000000 in
theorem law_FnExactCountRuleLines (s : ByteArray) (w : World) (_ : s.size ≤ maxLen) :
    Calls Try.prog 7 #[.string s] w fun e w' => e = .returned (.bool true) ∧ Below w.heap.size w w' := by
  by_cases hb : (1048576 : Int) < (s.size : Int)
  · go_enter Try.func7, Try.ntmps7
    go_wp2_with fail
    go_ret
    exact ⟨rfl, Below.refl _ _⟩
  · have hd : decide ((1048576 : Int) < (s.size : Int)) = false := by simpa using hb
    go_enter Try.func7, Try.ntmps7
    go_wp2_with fail
    refine (s_CountRuleLines s (by omega) _).mono ?_
    rintro e w1 ⟨rfl, hb1⟩
    go_wp2_with fail
    refine (i_CountRuleLines s (by omega) _).mono ?_
    rintro e w2 ⟨rfl, hb2⟩
    go_wp2_with fail
    all_goals (go_ret; exact ⟨rfl, Below.then_ hb1 hb2 (Nat.le_refl _)⟩)

end Go.Proofs.Ytfdjamobfhoeiaa
