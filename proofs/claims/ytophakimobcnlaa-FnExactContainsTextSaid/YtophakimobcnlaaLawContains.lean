/-
  The law of ContainsText, from the contracts.
-/
import Derived.Test.YtophakimobcnlaaContains
import Derived.Test.YtophakimobcnlaaSzString
import Derived.Test.YtophakimobcnlaaToString
import Derived.Test.YtophakimobcnlaaEqString
namespace Go.Proofs.Ytophakimobcnlaa
open Go.RowKit
set_option linter.unusedVariables false

theorem szS_neg {l : List ByteArray} {left : Int} (h : ¬ (l.length : Int) + total l ≤ left) : szS l left = -1 := by unfold szS; rw [if_neg h]

set_option maxHeartbeats 1000000 in
theorem law_FnExactContainsText (v : Value) (l : List ByteArray) (s : ByteArray) (w : World) (hl : Rd w v 1 l.length (cS l) ∧ ∀ x ∈ l, x.size ≤ maxLen) (hs : s.size ≤ maxLen) :
    Calls Try.prog 12 #[v, .string s] w fun e w' => e = .returned (.bool true) ∧ Below w.heap.size w w' := by
  obtain ⟨hr, hx⟩ := hl
  by_cases hb : (1048576 : Int) < (s.size : Int)
  · go_enter Try.func12, Try.ntmps12
    go_wp2_with fail
    go_ret
    exact ⟨rfl, Below.refl _ _⟩
  · by_cases hz : (l.length : Int) + total l ≤ 1048576
    · have h1 : (0 : Int) ≤ szS l 1048576 := by unfold szS; rw [if_pos hz]; omega
      have hn : l.length ≤ 1048576 := by omega
      go_enter Try.func12, Try.ntmps12
      go_wp2_with fail
      refine (l_szStringS v l _ (by omega) (by omega) hx _ hr).mono ?_
      rintro e w1 ⟨rfl, rfl⟩
      go_wp2_with fail
      refine (l_toStringS v l hn _ hr).mono ?_
      rintro e w1 ⟨v1, rfl, ho1, hb1⟩
      go_wp2_with fail
      refine (s_ContainsText v1 l s _ (Rd.of_own ho1)).mono ?_
      rintro e w2 ⟨rfl, rfl⟩
      go_wp2_with fail
      refine (l_toStringS v l hn _ (hr.below hb1)).mono ?_
      rintro e w2 ⟨v2, rfl, ho2, hb2⟩
      go_wp2_with fail
      refine (i_ContainsText v2 l s _ (Rd.of_own ho2)).mono ?_
      rintro e w3 ⟨rfl, rfl⟩
      go_wp2_with fail
      have hb12 := Below.then_ hb1 hb2 (Nat.le_refl _)
      refine (l_toStringS v l hn _ (hr.below hb12)).mono ?_
      rintro e w3 ⟨v3, rfl, ho3, hb3⟩
      have hb13 := Below.then_ hb12 hb3 (Nat.le_refl _)
      go_wp2_with fail
      refine (l_eqStringS v2 v3 l l _ ((Rd.of_own ho2).below hb3) (Rd.of_own ho3)).mono ?_
      rintro e w4 ⟨rfl, hb4⟩
      have hb14 := Below.then_ hb13 hb4 (Nat.le_refl _)
      go_wp2_with fail
      go_ret
      exact ⟨rfl, hb14⟩
    · have h1 := Lib.hid (szS_neg hz)
      go_enter Try.func12, Try.ntmps12
      go_wp2_with fail
      refine (l_szStringS v l _ (by omega) (by omega) hx _ hr).mono ?_
      rw [h1.out]
      rintro e w1 ⟨rfl, rfl⟩
      go_wp2_with fail
      go_ret
      exact ⟨rfl, Below.refl _ _⟩

end Go.Proofs.Ytophakimobcnlaa
