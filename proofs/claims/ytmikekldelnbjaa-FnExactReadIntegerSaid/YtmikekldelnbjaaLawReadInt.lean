/-
  The law of ReadInteger, from the contracts.
-/
import Derived.Test.YtmikekldelnbjaaReadInt
import Derived.Test.YtmikekldelnbjaaToByte
import Derived.Test.YtmikekldelnbjaaEqByte
namespace Go.Proofs.Ytmikekldelnbjaa
open Go.RowKit
set_option linter.unusedVariables false

set_option maxHeartbeats 1000000 in
theorem law_FnExactReadInteger (v : Value) (l : List UInt8) (little : Bool) (w : World) (hr : Rd w v 1 l.length (cB l)) :
    Calls Try.prog 6 #[v, .bool little] w fun e w' => e = .returned (.bool true) ∧ Below w.heap.size w w' := by
  obtain ⟨A, c, rfl⟩ : ∃ A c, v = .slice A l.length c := by
    obtain ⟨_, A, c, rfl, _⟩ := hr
    exact ⟨A, c, rfl⟩
  by_cases hb : (1048576 : Int) < (l.length : Int)
  · clear hr
    go_enter Try.func6, Try.ntmps6
    go_wp2_with fail
    go_ret
    exact ⟨rfl, Below.refl _ _⟩
  · have hn : l.length ≤ 1048576 := by omega
    go_enter Try.func6, Try.ntmps6
    go_wp2_with fail
    refine (l_toByteS _ l hn _ hr).mono ?_
    rintro e w1 ⟨v1, rfl, ho1, hb1⟩
    go_wp2_with fail
    refine (s_ReadInteger v1 l little _ (Rd.of_own ho1)).mono ?_
    rintro e w2 ⟨rfl, hs⟩
    have hb2 : Below w.heap.size w w2 := hs ▸ hb1
    clear hs
    go_wp2_with fail
    refine (l_toByteS _ l hn _ (hr.below hb2)).mono ?_
    rintro e w3 ⟨v2, rfl, ho2, hb23⟩
    have hb3 := Below.then_ hb2 hb23 (Nat.le_refl _)
    go_wp2_with fail
    refine (i_ReadInteger v2 l little _ (Rd.of_own ho2)).mono ?_
    rintro e w4 ⟨rfl, hs⟩
    have hb34 : Below w3.heap.size w3 w4 := hs ▸ Below.refl _ _
    have hb4 := Below.then_ hb3 hb34 (Nat.le_refl _)
    clear hs
    go_wp2_with fail
    refine (l_toByteS _ l hn _ (hr.below hb4)).mono ?_
    rintro e w5 ⟨v3, rfl, ho3, hb45⟩
    have hb5 := Below.then_ hb4 hb45 (Nat.le_refl _)
    go_wp2_with fail
    refine (l_eqByteS v2 v3 l l _ (((Rd.of_own ho2).below hb34).below hb45) (Rd.of_own ho3)).mono ?_
    rintro e w6 ⟨rfl, hb56⟩
    go_wp2_with fail
    go_ret
    exact ⟨rfl, Below.then_ hb5 hb56 (Nat.le_refl _)⟩

end Go.Proofs.Ytmikekldelnbjaa
