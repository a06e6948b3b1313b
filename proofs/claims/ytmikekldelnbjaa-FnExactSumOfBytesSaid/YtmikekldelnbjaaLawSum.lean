/-
  The law of SumOfBytes, from the contracts.
-/
import Derived.Test.YtmikekldelnbjaaSum
import Derived.Test.YtmikekldelnbjaaToByte
import Derived.Test.YtmikekldelnbjaaEqByte
namespace Go.Proofs.Ytmikekldelnbjaa
open Go.RowKit
set_option linter.unusedVariables false

theorem rd_len {w : World} {v : Value} {xs : List Value} {n : Nat} (h : Rd w v 1 n xs) : ∃ A c, v = .slice A n c := by
  obtain ⟨_, A, c, rfl, _⟩ := h
  exact ⟨A, c, rfl⟩

set_option maxHeartbeats 1000000 in
theorem law_FnExactSumOfBytes (v : Value) (l : List UInt8) (w : World) (hr : Rd w v 1 l.length (cB l)) :
    Calls Try.prog 3 #[v] w fun e w' => e = .returned (.bool true) ∧ Below w.heap.size w w' := by
  obtain ⟨A, c, rfl⟩ := rd_len hr
  by_cases hb : (1048576 : Int) < (l.length : Int)
  · clear hr
    go_enter Try.func3, Try.ntmps3
    go_wp2_with fail
    go_ret
    exact ⟨rfl, Below.refl _ _⟩
  · have hn : l.length ≤ 1048576 := by omega
    go_enter Try.func3, Try.ntmps3
    go_wp2_with fail
    refine (l_toByteS _ l hn _ hr).mono ?_
    rintro e w1 ⟨v1, rfl, ho1, hb1⟩
    go_wp2_with fail
    refine (s_SumOfBytes v1 l (by omega) _ (Rd.of_own ho1)).mono ?_
    rintro e w2 ⟨rfl, rfl⟩
    go_wp2_with fail
    refine (l_toByteS _ l hn _ (hr.below hb1)).mono ?_
    rintro e w2 ⟨v2, rfl, ho2, hb2⟩
    have hb12 := Below.then_ hb1 hb2 (Nat.le_refl _)
    go_wp2_with fail
    refine (i_SumOfBytes v2 l (by omega) _ (Rd.of_own ho2)).mono ?_
    rintro e w3 ⟨rfl, rfl⟩
    go_wp2_with fail
    refine (l_toByteS _ l hn _ (hr.below hb12)).mono ?_
    rintro e w3 ⟨v3, rfl, ho3, hb3⟩
    have hb13 := Below.then_ hb12 hb3 (Nat.le_refl _)
    go_wp2_with fail
    refine (l_eqByteS v2 v3 l l _ ((Rd.of_own ho2).below hb3) (Rd.of_own ho3)).mono ?_
    rintro e w4 ⟨rfl, hb4⟩
    go_wp2_with fail
    go_ret
    exact ⟨rfl, Below.then_ hb13 hb4 (Nat.le_refl _)⟩

end Go.Proofs.Ytmikekldelnbjaa
