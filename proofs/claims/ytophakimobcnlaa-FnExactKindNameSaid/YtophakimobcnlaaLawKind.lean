/-
  The law of KindName, from the two contracts.
-/
import Derived.Test.YtophakimobcnlaaKind
namespace Go.Proofs.Ytophakimobcnlaa
open Go.RowKit

set_option maxHeartbeats 400000 in
theorem law_FnExactKindName (k : Int) (w : World) (_ : (Lit.int .i64 k).wf = true) :
    Calls Try.prog 6 #[.int .i64 k] w fun e w' => e = .returned (.bool true) ∧ Below w.heap.size w w' := by
  go_enter Try.func6, Try.ntmps6
  go_wp2_with (first | (go_at_call 19; refine (s_KindName _ _).mono ?_; rintro e w1 ⟨rfl, hb1⟩) | (go_at_call 20; refine (i_KindName _ _).mono ?_; rintro e w2 ⟨rfl, hb2⟩))
  all_goals (go_ret; exact ⟨rfl, hb1.trans (hb2.mono hb1.size)⟩)

end Go.Proofs.Ytophakimobcnlaa
