/-
  The program's EqualBytes: by bytes.Equal.
-/
import Derived.Test.YtcegbilfcblhfaaProg
import Derived.Test.YtcegbilfcblhfaaBase
import Derived.Test.YtcegbilfcblhfaaConv
import Derived.Test.YtcegbilfcblhfaaShelf
import Derived.WalkSpells
import Derived.WalkLawsBesides
import Derived.Lib.Hide
namespace Go.Proofs.Ytcegbilfcblhfaa
open Go.RowKit

theorem mkS_beq (a b : List UInt8) : ((mkS a).toList == (mkS b).toList) = decide (a = b) := by
  rw [Lib.toList_data, Lib.toList_data]
  simp only [mkS_list]
  rw [Bool.eq_iff_iff]
  simp

set_option maxHeartbeats 1000000 in
theorem i_EqualBytes (va vb : Value) (xs ys : List UInt8) (n m : Nat) (w : World) (ha : Rd w va 1 n (cB xs)) (hb : Rd w vb 1 m (cB ys)) :
    Calls Try.prog 79 #[va, vb] w fun e w' => e = .returned (.bool (decide (xs = ys))) ∧ w = w' := by
  have h1 := Lib.hid (conv_rd ha)
  have h2 := Lib.hid (conv_rd hb)
  clear ha hb
  go_enter Try.func79, Try.ntmps79
  go_wp2_with fail
  refine (Try.bytes_Equal_strs _ _ _ _ _ h1.out h2.out).mono ?_
  rw [mkS_beq]
  rintro e w' ⟨rfl, rfl⟩
  go_wp2_with fail
  go_ret
  exact ⟨rfl, rfl⟩

end Go.Proofs.Ytcegbilfcblhfaa
