/-
  The law FnExactFormatInt.
-/
import Derived.Test.YtfdjamobfhoeiaaDoorTab
import Derived.Test.YtfdjamobfhoeiaaDoorFmtInt
namespace Go.Proofs.YtfdjamobfhoeiaaDoor
open Go.RowKit
set_option linter.unusedVariables false

set_option maxHeartbeats 1000000 in
theorem law_FnExactFormatInt (n : Int) (w : World) (hn : (Lit.int .i64 n).wf = true) (ht : Tab w) :
    Calls Tryd.prog 3 #[.int .i64 n] w fun e w' => e = .returned (.bool true) ∧ Below w.heap.size w w' := by
  have SF := Lib.hid (fun w => s_FormatInt n (wf_int hn) w)
  have IF := Lib.hid (fun w h => i_FormatInt n (wf_int hn) w h)
  have HT := Lib.hid ht
  obtain ⟨s, hs⟩ : ∃ s, s = mkS (fmtInt n) := ⟨_, rfl⟩
  rw [← hs] at SF IF
  have hq : (s.toList == s.toList) = true := by simp
  clear ht hn hs
  go_enter Tryd.func3, Tryd.ntmps3
  go_wp2_with fail
  refine (SF.out _).mono ?_
  rintro e w1 ⟨rfl, hb1⟩
  have B1 := Lib.hid hb1
  clear hb1
  go_wp2_with fail
  refine (IF.out _ (HT.out.below B1.out)).mono ?_
  rintro e w2 ⟨rfl, hb2⟩
  have B2 := Lib.hid (Below.then_ B1.out hb2 (Nat.le_refl _))
  clear hb2
  go_wp2_with fail
  go_ret
  exact ⟨rfl, B2.out⟩

end Go.Proofs.YtfdjamobfhoeiaaDoor
