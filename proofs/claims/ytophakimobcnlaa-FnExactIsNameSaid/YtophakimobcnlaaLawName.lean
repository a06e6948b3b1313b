/-
  The law of IsName, from the two contracts.
-/
import Derived.Test.YtophakimobcnlaaName
namespace Go.Proofs.Ytophakimobcnlaa
open Go.RowKit

set_option maxHeartbeats 400000 in
theorem law_FnExactIsName (s : ByteArray) (w : World) (hs : s.size ≤ maxLen) :
    Calls Try.prog 11 #[.string s] w fun e w' => e = .returned (.bool true) ∧ Below w.heap.size w w' := by
  by_cases hb : (1048576 : Int) < (s.size : Int)
  · go_enter Try.func11, Try.ntmps11
    go_wp2_with fail
    go_ret
    exact ⟨rfl, Below.refl _ _⟩
  · go_enter Try.func11, Try.ntmps11
    go_wp2_with fail
    refine (s_IsName s hs _).mono ?_
    rintro e w1 ⟨rfl, rfl⟩
    go_wp2_with fail
    refine (i_IsName s _).mono ?_
    rintro e w2 ⟨rfl, hb2⟩
    go_wp2_with fail
    all_goals (go_ret; exact ⟨rfl, hb2⟩)

end Go.Proofs.Ytophakimobcnlaa
