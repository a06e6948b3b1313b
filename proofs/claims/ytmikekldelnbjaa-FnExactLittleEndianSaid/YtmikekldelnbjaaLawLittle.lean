/-
  The law of LittleEndian, from the contracts.
-/
import Derived.Test.YtmikekldelnbjaaLittleEndian
import Derived.Test.YtmikekldelnbjaaEqByte
import Derived.Test.YtmikekldelnbjaaMarkByte
namespace Go.Proofs.Ytmikekldelnbjaa
open Go.RowKit
set_option linter.unusedVariables false

set_option maxHeartbeats 2000000 in
theorem law_FnExactLittleEndian (n size : Int) (w : World) (hn : (Lit.int .i64 n).wf = true) (_ : (Lit.int .i64 size).wf = true) :
    Calls Try.prog 9 #[.int .i64 n, .int .i64 size] w fun e w' => e = .returned (.bool true) ∧ Below w.heap.size w w' := by
  have hn' := wf_int hn
  have hpl : ((bigE n size).reverse).length ≤ 4 := by rw [List.length_reverse]; exact bigE_len n size
  go_enter Try.func9, Try.ntmps9
  go_wp2_with fail
  refine (s_LittleEndian n size hn' _).mono ?_
  rintro e w1 ⟨v0, rfl, ho0, hb1⟩
  go_wp2_with fail
  refine (i_LittleEndian n size hn' _).mono ?_
  rintro e w2 ⟨g0, rfl, hg0, hb12⟩
  have hb2 := Below.then_ hb1 hb12 (Nat.le_refl _)
  have ho0' := own_below ho0 hb12
  go_wp2_with fail
  refine (l_eqByteS g0 v0 _ _ _ (Rd.of_own hg0) (Rd.of_own ho0')).mono ?_
  rintro e w3 ⟨rfl, hb23⟩
  have hb3 := Below.then_ hb2 hb23 (Nat.le_refl _)
  have hg0' := own_below hg0 hb23
  have ho0'' := own_below ho0' hb23
  go_wp2_with fail
  refine (l_markByteS g0 _ 1 _ _ (by omega) _ hg0').mono ?_
  rintro e w4 ⟨rfl, hm4, hk4⟩
  have ho4 := own_apart ho0'' hk4 (fun k hk => (ho0.lt k hk).2) (fun k hk => (hg0.lt k hk).1)
  have hb4 := own_grown_below hb3 hg0' hk4 hb3.size hb1.size
  go_wp2_with fail
  refine (l_heldByteS g0 1 _ (by omega) _ (Rd.of_own hm4)).mono ?_
  rintro e w5 ⟨rfl, rfl⟩
  go_wp2_with fail
  refine (i_LittleEndian n size hn' _).mono ?_
  rintro e w5 ⟨h0, rfl, hh0, hb45⟩
  have hb5 := Below.then_ hb4 hb45 (Nat.le_refl _)
  have ho5 := own_below ho4 hb45
  have hm5 := own_below hm4 hb45
  go_wp2_with fail
  refine (l_eqByteS h0 v0 _ _ _ (Rd.of_own hh0) (Rd.of_own ho5)).mono ?_
  rintro e w6 ⟨rfl, hb56⟩
  have hb6 := Below.then_ hb5 hb56 (Nat.le_refl _)
  have hm6 := own_below hm5 hb56
  go_wp2_with fail
  refine (l_heldByteS g0 1 _ (by omega) _ (Rd.of_own hm6)).mono ?_
  rintro e w7 ⟨rfl, rfl⟩
  go_wp2_with fail
  go_ret
  exact ⟨rfl, hb6⟩

end Go.Proofs.Ytmikekldelnbjaa
