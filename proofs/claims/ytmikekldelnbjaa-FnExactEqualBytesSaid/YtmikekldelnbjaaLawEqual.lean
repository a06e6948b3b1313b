/-
  The law of EqualBytes, from the contracts.
-/
import Derived.Test.YtmikekldelnbjaaEqual
import Derived.Test.YtmikekldelnbjaaSpecEqual
import Derived.Test.YtmikekldelnbjaaToByte
import Derived.Test.YtmikekldelnbjaaEqByte
namespace Go.Proofs.Ytmikekldelnbjaa
open Go.RowKit
set_option linter.unusedVariables false

set_option maxHeartbeats 1000000 in
theorem law_FnExactEqualBytes (v : Value) (l : List UInt8) (u : Value) (m : List UInt8) (w : World) (hr : Rd w v 1 l.length (cB l)) (hq : Rd w u 1 m.length (cB m)) :
    Calls Try.prog 4 #[v, u] w fun e w' => e = .returned (.bool true) ∧ Below w.heap.size w w' := by
  obtain ⟨A, c, rfl⟩ : ∃ A c, v = .slice A l.length c := by
    obtain ⟨_, A, c, rfl, _⟩ := hr
    exact ⟨A, c, rfl⟩
  obtain ⟨A', c', rfl⟩ : ∃ A c, u = .slice A m.length c := by
    obtain ⟨_, A, c, rfl, _⟩ := hq
    exact ⟨A, c, rfl⟩
  by_cases hb : (1048576 : Int) < (l.length : Int)
  · clear hr hq
    go_enter Try.func4, Try.ntmps4
    go_wp2_with fail
    go_ret
    exact ⟨rfl, Below.refl _ _⟩
  · by_cases hb' : (1048576 : Int) < (m.length : Int)
    · clear hr hq
      go_enter Try.func4, Try.ntmps4
      go_wp2_with fail
      go_ret
      exact ⟨rfl, Below.refl _ _⟩
    · have hn : l.length ≤ 1048576 := by omega
      have hm : m.length ≤ 1048576 := by omega
      go_enter Try.func4, Try.ntmps4
      go_wp2_with fail
      refine (l_toByteS _ l hn _ hr).mono ?_
      rintro e w1 ⟨v1, rfl, ho1, hb1⟩
      go_wp2_with fail
      refine (l_toByteS _ m hm _ (hq.below hb1)).mono ?_
      rintro e w2 ⟨u1, rfl, hp1, hb12⟩
      have hb2 := Below.then_ hb1 hb12 (Nat.le_refl _)
      go_wp2_with fail
      refine (s_EqualBytes v1 u1 l m _ ((Rd.of_own ho1).below hb12) (Rd.of_own hp1)).mono ?_
      rintro e w3 ⟨rfl, hb23⟩
      have hb3 := Below.then_ hb2 hb23 (Nat.le_refl _)
      go_wp2_with fail
      refine (l_toByteS _ l hn _ (hr.below hb3)).mono ?_
      rintro e w4 ⟨v2, rfl, ho2, hb34⟩
      have hb4 := Below.then_ hb3 hb34 (Nat.le_refl _)
      go_wp2_with fail
      refine (l_toByteS _ m hm _ (hq.below hb4)).mono ?_
      rintro e w5 ⟨u2, rfl, hp2, hb45⟩
      have hb5 := Below.then_ hb4 hb45 (Nat.le_refl _)
      go_wp2_with fail
      refine (i_EqualBytes v2 u2 l m _ _ _ ((Rd.of_own ho2).below hb45) (Rd.of_own hp2)).mono ?_
      rintro e w6 ⟨rfl, rfl⟩
      go_wp2_with fail
      refine (l_toByteS _ l hn _ (hr.below hb5)).mono ?_
      rintro e w6 ⟨v3, rfl, ho3, hb56⟩
      have hb6 := Below.then_ hb5 hb56 (Nat.le_refl _)
      go_wp2_with fail
      refine (l_eqByteS v2 v3 l l _ (((Rd.of_own ho2).below hb45).below hb56) (Rd.of_own ho3)).mono ?_
      rintro e w7 ⟨rfl, hb67⟩
      have hb7 := Below.then_ hb6 hb67 (Nat.le_refl _)
      go_wp2_with fail
      refine (l_toByteS _ m hm _ (hq.below hb7)).mono ?_
      rintro e w8 ⟨u3, rfl, hp3, hb78⟩
      have hb8 := Below.then_ hb7 hb78 (Nat.le_refl _)
      go_wp2_with fail
      refine (l_eqByteS u2 u3 m m _ ((((Rd.of_own hp2).below hb56).below hb67).below hb78) (Rd.of_own hp3)).mono ?_
      rintro e w9 ⟨rfl, hb89⟩
      go_wp2_with fail
      go_ret
      exact ⟨rfl, Below.then_ hb8 hb89 (Nat.le_refl _)⟩

end Go.Proofs.Ytmikekldelnbjaa
