/-
  The program's EqualBytes: by bytes.Equal.
-/
import Derived.Test.YtmikekldelnbjaaProg
import Derived.Test.YtmikekldelnbjaaBase
import Derived.Test.YtmikekldelnbjaaConv
import Derived.Test.YtmikekldelnbjaaShelf
import Derived.WalkSpells
import Derived.WalkLawsBesides
import Derived.Lib.Hide
namespace Go.Proofs.Ytmikekldelnbjaa
open Go.RowKit

theorem mkS_beq (a b : List UInt8) : ((mkS a).toList == (mkS b).toList) = decide (a = b) := by
  rw [Lib.toList_data, Lib.toList_data]
  simp only [mkS_list]
  rw [Bool.eq_iff_iff]
  simp

set_option maxHeartbeats 1000000 in
theorem i_EqualBytes (va vb : Value) (xs ys : List UInt8) (n m : Nat) (w : World) (ha : Rd w va 1 n (cB xs)) (hb : Rd w vb 1 m (cB ys)) :
    Calls Try.prog 19 #[va, vb] w fun e w' => e = .returned (.bool (decide (xs = ys))) ∧ w = w' := by
  have h1 := Lib.hid (conv_rd ha)
  have h2 := Lib.hid (conv_rd hb)
  clear ha hb
  go_enter Try.func19, Try.ntmps19
  go_wp2_with fail
  refine (Try.bytes_Equal_strs _ _ _ _ _ h1.out h2.out).mono ?_
  rw [mkS_beq]
  rintro e w' ⟨rfl, rfl⟩
  go_wp2_with fail
  go_ret
  exact ⟨rfl, rfl⟩

end Go.Proofs.Ytmikekldelnbjaa
