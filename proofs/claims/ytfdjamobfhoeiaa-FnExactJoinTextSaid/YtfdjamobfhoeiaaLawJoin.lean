/-
  The law of JoinText, from the contracts.
-/
import Derived.Test.YtfdjamobfhoeiaaJoin
import Derived.Test.YtfdjamobfhoeiaaSzString
import Derived.Test.YtfdjamobfhoeiaaToString
import Derived.Test.YtfdjamobfhoeiaaEqString
namespace Go.Proofs.Ytfdjamobfhoeiaa
open Go.RowKit
set_option linter.unusedVariables false

theorem szS_neg {l : List ByteArray} {left : Int} (h : ¬ (l.length : Int) + total l ≤ left) : szS l left = -1 := by unfold szS; rw [if_neg h]
theorem lens_total (l : List ByteArray) : Lib.lens (l.map (·.data.toList)) = total l := by
  simp only [Lib.lens, total, List.map_map]
  congr 1

set_option maxHeartbeats 1000000 in
theorem law_FnExactJoinText (v : Value) (l : List ByteArray) (s : ByteArray) (w : World) (hl : Rd w v 1 l.length (cS l) ∧ ∀ x ∈ l, x.size ≤ maxLen) (hs : s.size ≤ maxLen) :
    Calls Try.prog 8 #[v, .string s] w fun e w' => e = .returned (.bool true) ∧ Below w.heap.size w w' := by
  obtain ⟨hr, hx⟩ := hl
  by_cases hb : (1048576 : Int) < (s.size : Int)
  · go_enter Try.func8, Try.ntmps8
    go_wp2_with fail
    go_ret
    exact ⟨rfl, Below.refl _ _⟩
  · have hd : decide ((1048576 : Int) < (s.size : Int)) = false := by simpa using hb
    by_cases hz : (l.length : Int) + total l ≤ 1048576
    · have h1 : (0 : Int) ≤ szS l 1048576 := by unfold szS; rw [if_pos hz]; omega
      have hn : l.length ≤ 1048576 := by omega
      have hbd : Lib.lens (l.map (·.data.toList)) + s.data.toList.length * (l.map (·.data.toList)).length ≤ 35184372088832 := by
        rw [lens_total, List.length_map, len_of]
        have := Nat.mul_le_mul (show s.size ≤ 1048576 by omega) hn
        omega
      have S := fun v w h => s_JoinText v (l.map (·.data.toList)) s.data.toList (by rw [List.length_map]; omega) hbd w h
      have I := fun v w h => i_JoinText v (l.map (·.data.toList)) s.data.toList (by rw [List.length_map]; omega) hbd w h
      rw [tS_of, List.length_map, mkS_of] at S I
      generalize mkS (Lib.join (l.map (·.data.toList)) s.data.toList) = J at *
      have HS := Lib.hid S
      have HI := Lib.hid I
      clear S I hbd
      go_enter Try.func8, Try.ntmps8
      go_wp2_with fail
      refine (l_szStringS v l _ (by omega) (by omega) hx _ hr).mono ?_
      rintro e w1 ⟨rfl, rfl⟩
      go_wp2_with fail
      refine (l_toStringS v l hn _ hr).mono ?_
      rintro e w1 ⟨v1, rfl, ho1, hb1⟩
      go_wp2_with fail
      refine (HS.out v1 _ (Rd.of_own ho1)).mono ?_
      rintro e w2 ⟨rfl, rfl⟩
      go_wp2_with fail
      refine (l_toStringS v l hn _ (hr.below hb1)).mono ?_
      rintro e w2 ⟨v2, rfl, ho2, hb2⟩
      have hb12 := Below.then_ hb1 hb2 (Nat.le_refl _)
      go_wp2_with fail
      refine (HI.out v2 _ (Rd.of_own ho2)).mono ?_
      rintro e w3 ⟨rfl, hb23⟩
      have hb13 := Below.then_ hb12 hb23 (Nat.le_refl _)
      go_wp2_with fail
      refine (l_toStringS v l hn _ (hr.below hb13)).mono ?_
      rintro e w4 ⟨v3, rfl, ho3, hb3⟩
      have hb14 := Below.then_ hb13 hb3 (Nat.le_refl _)
      go_wp2_with fail
      refine (l_eqStringS v2 v3 l l _ (((Rd.of_own ho2).below hb23).below hb3) (Rd.of_own ho3)).mono ?_
      rintro e w5 ⟨rfl, hb4⟩
      have hb15 := Below.then_ hb14 hb4 (Nat.le_refl _)
      go_wp2_with fail
      go_ret
      exact ⟨rfl, hb15⟩
    · have h1 := Lib.hid (szS_neg hz)
      go_enter Try.func8, Try.ntmps8
      go_wp2_with fail
      refine (l_szStringS v l _ (by omega) (by omega) hx _ hr).mono ?_
      rw [h1.out]
      rintro e w1 ⟨rfl, rfl⟩
      go_wp2_with fail
      go_ret
      exact ⟨rfl, Below.refl _ _⟩

end Go.Proofs.Ytfdjamobfhoeiaa
