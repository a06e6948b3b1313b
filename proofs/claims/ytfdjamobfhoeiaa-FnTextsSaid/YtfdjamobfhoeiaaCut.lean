/-
  CutAt: the program's by strings.IndexByte, the reference's by a loop.
-/
import Derived.Test.YtfdjamobfhoeiaaProg
import Derived.Test.YtfdjamobfhoeiaaBase
import Derived.Test.YtfdjamobfhoeiaaText
import Derived.Test.YtfdjamobfhoeiaaShelf
import Derived.WalkKit
import Derived.WalkSpells
import Derived.WalkLawsBesides
import Derived.Lib.Hide
import Derived.Deep.QuietTactic
import Derived.BigQuiet
namespace Go.Proofs.Ytfdjamobfhoeiaa
open Go.RowKit

set_option maxHeartbeats 400000 in
theorem i_CutAt (s : ByteArray) (c : Int) (hs : s.size ≤ maxLen) (w : World) :
    Calls Try.prog 29 #[.string s, .int .u8 c] w fun e w' =>
      e = .returned (.tuple #[.string (mkS (cutLeft s.data.toList c.toNat.toUInt8)), .string (mkS (cutRight s.data.toList c.toNat.toUInt8)), .bool (cutOk s.data.toList c.toNat.toUInt8)]) ∧ Below w.heap.size w w' := by
  unfold maxLen at hs
  cases hc : cutIdx s.data.toList c.toNat.toUInt8 with
  | none =>
    have hi : Hid (Lib.indexByte s.data.toList c.toNat.toUInt8 = -1) := by show _ = _; rw [indexByte_cut, hc]
    have H := Lib.hid hc; clear hc
    go_enter Try.func29, Try.ntmps29
    go_wp2_with (go_at_call 36; refine (Try.strings_IndexByte _ _ _).mono ?_; rintro e w' ⟨rfl, rfl⟩; rw [hi.out])
    go_ret3
    exact ⟨by simp [cutLeft, cutRight, cutOk, H.out, mkS_of]; rfl, Below.refl _ _⟩
  | some k =>
    have hi : Hid (Lib.indexByte s.data.toList c.toNat.toUInt8 = (k : Int)) := by show _ = _; rw [indexByte_cut, hc]
    have hk : k < s.size := by have := (cutIdx_lt hc).1; rw [len_of] at this; exact this
    have H := Lib.hid hc; clear hc
    go_enter Try.func29, Try.ntmps29
    go_wp2_with (go_at_call 36; refine (Try.strings_IndexByte _ _ _).mono ?_; rintro e w' ⟨rfl, rfl⟩; rw [hi.out])
    go_quiet (fail)
    go_wp2
    go_ret3
    exact ⟨by simp [cutLeft, cutRight, cutOk, H.out, extract_end, extract_front], below_drewN (Below.refl _ _) _⟩


end Go.Proofs.Ytfdjamobfhoeiaa
