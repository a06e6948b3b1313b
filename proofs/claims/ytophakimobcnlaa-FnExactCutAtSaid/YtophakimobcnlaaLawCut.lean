/-
  The law of CutAt, from the two contracts.
-/
import Derived.Test.YtophakimobcnlaaCut
namespace Go.Proofs.Ytophakimobcnlaa
open Go.RowKit

set_option maxHeartbeats 400000 in
theorem law_FnExactCutAt (s : ByteArray) (c : Int) (w : World) (hs : s.size ≤ maxLen) (hc : (Lit.int .u8 c).wf = true) :
    Calls Try.prog 10 #[.string s, .int .u8 c] w fun e w' => e = .returned (.bool true) ∧ Below w.heap.size w w' := by
  have hc' := wf_u8 hc
  by_cases hb : (1048576 : Int) < (s.size : Int)
  · go_enter Try.func10, Try.ntmps10
    go_wp2_with fail
    go_ret
    exact ⟨rfl, Below.refl _ _⟩
  · go_enter Try.func10, Try.ntmps10
    go_wp2_with fail
    refine (s_CutAt s c hc' hs _).mono ?_
    rintro e w1 ⟨rfl, hb1⟩
    go_wp2_with fail
    refine (i_CutAt s c hs _).mono ?_
    rintro e w2 ⟨rfl, hb2⟩
    go_wp2_with fail
    all_goals (go_ret; exact ⟨rfl, hb1.trans (hb2.mono hb1.size)⟩)

end Go.Proofs.Ytophakimobcnlaa
