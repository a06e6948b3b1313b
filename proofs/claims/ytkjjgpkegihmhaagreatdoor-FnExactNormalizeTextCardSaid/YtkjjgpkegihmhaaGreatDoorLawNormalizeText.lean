/-
  The law FnExactNormalizeText, from the contracts.
-/
import Derived.Test.YtkjjgpkegihmhaaGreatDoorNormI
import Derived.Test.YtkjjgpkegihmhaaGreatDoorNormS
namespace Go.Proofs.YtkjjgpkegihmhaaGreatDoor
open Go.RowKit
set_option linter.unusedVariables false

set_option maxHeartbeats 4000000 in
theorem law_FnExactNormalizeText (s : ByteArray) (w : World) (hs : s.size ≤ maxLen) (ht : Tab w) :
    Calls Tryz.prog 6 #[.string s] w fun e w' => e = .returned (.bool true) ∧ Below w.heap.size w w' := by
  unfold maxLen at hs
  have HT := Lib.hid ht
  clear ht
  by_cases hb : s.size ≤ 1048576
  · have SN := Lib.hid (fun w ht => s_NormalizeText s hb w ht)
    have IN := Lib.hid (fun w ht => i_NormalizeText s hb w ht)
    obtain ⟨R, hR⟩ : ∃ R, R = mkS (normT s.data.toList) := ⟨_, rfl⟩
    have d1 : decide ((1048576 : Int) < (s.size : Int)) = false := by simp; omega
    rw [← hR] at SN IN
    clear hR
    go_enter Tryz.func6, Tryz.ntmps6
    go_wp2_with fail
    refine (SN.out _ HT.out).mono ?_
    rintro e w1 ⟨rfl, hb1⟩
    have B1 := Lib.hid hb1
    clear hb1
    go_wp2_with fail
    refine (IN.out _ (HT.out.below B1.out)).mono ?_
    rintro e w2 ⟨rfl, hb2⟩
    have B2 := Lib.hid (Below.then_ B1.out hb2 (Nat.le_refl _))
    clear hb2
    go_wp2_with fail
    go_ret
    exact ⟨rfl, B2.out⟩
  · have d1 : decide ((1048576 : Int) < (s.size : Int)) = true := by simp; omega
    go_enter Tryz.func6, Tryz.ntmps6
    go_wp2_with fail
    go_ret
    exact ⟨rfl, Below.refl _ _⟩

end Go.Proofs.YtkjjgpkegihmhaaGreatDoor
