/-
  The law of Words, from the contracts.
-/
import Derived.Test.YtfdjamobfhoeiaaWords
import Derived.Test.YtfdjamobfhoeiaaEqString
import Derived.Test.YtfdjamobfhoeiaaMarkString
namespace Go.Proofs.Ytfdjamobfhoeiaa
open Go.RowKit
set_option linter.unusedVariables false

set_option maxHeartbeats 2000000 in
theorem law_FnExactWords (s : ByteArray) (w : World) (hs : s.size ≤ maxLen) :
    Calls Try.prog 6 #[.string s] w fun e w' => e = .returned (.bool true) ∧ Below w.heap.size w w' := by
  by_cases hb : (1048576 : Int) < (s.size : Int)
  · go_enter Try.func6, Try.ntmps6
    go_wp2_with fail
    go_ret
    exact ⟨rfl, Below.refl _ _⟩
  · have hd : decide ((1048576 : Int) < (s.size : Int)) = false := by simpa using hb
    skip
    have hlen : (wordsL s.data.toList).length ≤ 1048577 := by
      have h := wordsL_len s.data.toList
      rw [len_of] at h
      omega
    have S := s_Words s  (by omega)
    have I := i_Words s  (by omega)
    generalize wordsL s.data.toList = ps at *
    have hl2 := tS_len ps
    obtain ⟨n, hn⟩ : ∃ n, n = (tS ps).length := ⟨_, rfl⟩
    rw [← hn] at S I
    have HN := Lib.hid hn
    have hnb : n ≤ 1048577 := by omega
    have HS := Lib.hid S
    have HI := Lib.hid I
    clear hn hl2 S I
    go_enter Try.func6, Try.ntmps6
    go_wp2_with fail
    refine (HS.out _).mono ?_
    rintro e w1 ⟨v0, rfl, ho0, hb1⟩
    go_wp2_with fail
    refine (HI.out _).mono ?_
    rintro e w2 ⟨g0, rfl, hg0, hb12⟩
    have hb2 := Below.then_ hb1 hb12 (Nat.le_refl _)
    have ho0' := own_below ho0 hb12
    have R : ∀ (w : World) (base : Nat) (v : Value), w.ownsRow base 9 1 v n (cS (tS ps)) → Rd w v 1 (tS ps).length (cS (tS ps)) := fun _ _ _ h => by rw [← HN.out]; exact Rd.of_own h
    have HR := Lib.hid R
    clear R
    go_wp2_with fail
    refine (l_eqStringS g0 v0 (tS ps) (tS ps) _ (HR.out _ _ _ hg0) (HR.out _ _ _ ho0')).mono ?_
    rintro e w3 ⟨rfl, hb23⟩
    have hb3 := Below.then_ hb2 hb23 (Nat.le_refl _)
    have hg0' := own_below hg0 hb23
    have ho0'' := own_below ho0' hb23
    rw [decide_eq_true rfl]
    go_wp2_with fail
    refine (l_markStringS g0 _ 1 n _ (by omega) _ hg0').mono ?_
    rintro e w4 ⟨rfl, hm4, hk4⟩
    have ho4 := own_apart ho0'' hk4 (fun k hk => (ho0.lt k hk).2) (fun k hk => (hg0.lt k hk).1)
    have hb4 := own_grown_below hb3 hg0' hk4 hb3.size hb1.size
    go_wp2_with fail
    refine (l_heldStringS g0 1 n (by omega) _ (Rd.of_own hm4)).mono ?_
    rintro e w5 ⟨rfl, hb45⟩
    have hb5 := Below.then_ hb4 hb45 (Nat.le_refl _)
    have ho5 := own_below ho4 hb45
    have hm5 := own_below hm4 hb45
    go_wp2_with fail
    refine (HI.out _).mono ?_
    rintro e w6 ⟨h0, rfl, hh0, hb56⟩
    have hb6 := Below.then_ hb5 hb56 (Nat.le_refl _)
    have ho6 := own_below ho5 hb56
    have hm6 := own_below hm5 hb56
    go_wp2_with fail
    refine (l_eqStringS h0 v0 (tS ps) (tS ps) _ (HR.out _ _ _ hh0) (HR.out _ _ _ ho6)).mono ?_
    rintro e w7 ⟨rfl, hb67⟩
    have hb7 := Below.then_ hb6 hb67 (Nat.le_refl _)
    have hm7 := own_below hm6 hb67
    rw [decide_eq_true rfl]
    go_wp2_with fail
    refine (l_heldStringS g0 1 n (by omega) _ (Rd.of_own hm7)).mono ?_
    rintro e w8 ⟨rfl, hb78⟩
    go_wp2_with fail
    go_ret
    exact ⟨rfl, Below.then_ hb7 hb78 (Nat.le_refl _)⟩

end Go.Proofs.Ytfdjamobfhoeiaa
