/-
  CutAt: the program's by strings.IndexByte, the reference's by a loop.
-/
import Derived.Test.YtophakimobcnlaaProg
import Derived.Test.YtophakimobcnlaaBase
import Derived.Test.YtophakimobcnlaaText
import Derived.Test.YtophakimobcnlaaShelf
import Derived.WalkKit
import Derived.WalkSpells
import Derived.WalkLawsBesides
import Derived.Lib.Hide
import Derived.Deep.QuietTactic
import Derived.BigQuiet
namespace Go.Proofs.Ytophakimobcnlaa
open Go.RowKit

set_option maxHeartbeats 400000 in
theorem i_CutAt (s : ByteArray) (c : Int) (hs : s.size ≤ maxLen) (w : World) :
    Calls Try.prog 28 #[.string s, .int .u8 c] w fun e w' =>
      e = .returned (.tuple #[.string (mkS (cutLeft s.data.toList c.toNat.toUInt8)), .string (mkS (cutRight s.data.toList c.toNat.toUInt8)), .bool (cutOk s.data.toList c.toNat.toUInt8)]) ∧ Below w.heap.size w w' := by
  unfold maxLen at hs
  cases hc : cutIdx s.data.toList c.toNat.toUInt8 with
  | none =>
    have hi : Hid (Lib.indexByte s.data.toList c.toNat.toUInt8 = -1) := by show _ = _; rw [indexByte_cut, hc]
    have H := Lib.hid hc; clear hc
    go_enter Try.func28, Try.ntmps28
    go_wp2_with (go_at_call 44; refine (Try.strings_IndexByte _ _ _).mono ?_; rintro e w' ⟨rfl, rfl⟩; rw [hi.out])
    go_ret3
    exact ⟨by simp [cutLeft, cutRight, cutOk, H.out, mkS_of]; rfl, Below.refl _ _⟩
  | some k =>
    have hi : Hid (Lib.indexByte s.data.toList c.toNat.toUInt8 = (k : Int)) := by show _ = _; rw [indexByte_cut, hc]
    have hk : k < s.size := by have := (cutIdx_lt hc).1; rw [len_of] at this; exact this
    have H := Lib.hid hc; clear hc
    go_enter Try.func28, Try.ntmps28
    go_wp2_with (go_at_call 44; refine (Try.strings_IndexByte _ _ _).mono ?_; rintro e w' ⟨rfl, rfl⟩; rw [hi.out])
    go_quiet (fail)
    go_wp2
    go_ret3
    exact ⟨by simp [cutLeft, cutRight, cutOk, H.out, extract_end, extract_front], below_drewN (Below.refl _ _) _⟩

set_option maxHeartbeats 1000000 in
theorem s_CutAt (s : ByteArray) (c : Int) (hc : 0 ≤ c ∧ c ≤ 255) (hs : s.size ≤ maxLen) (w : World) :
    Calls Try.prog 27 #[.string s, .int .u8 c] w fun e w' =>
      e = .returned (.tuple #[.string (mkS (cutLeft s.data.toList c.toNat.toUInt8)), .string (mkS (cutRight s.data.toList c.toNat.toUInt8)), .bool (cutOk s.data.toList c.toNat.toUInt8)]) ∧ Below w.heap.size w w' := by
  unfold maxLen at hs
  go_enter Try.func27, Try.ntmps27
  go_wp2_with fail
  go_loop [7] (fun i => ∃ k : Nat, k ≤ s.size ∧ i = .int .i64 k ∧ ∀ j : Nat, j < k → s.data.toList[j]? ≠ some c.toNat.toUInt8) (fun i => s.size - (intOf i).toNat)
  case atStart => exact ⟨0, Nat.zero_le _, rfl, fun j h => absurd h (Nat.not_lt_zero _)⟩
  case round =>
    obtain ⟨k, hk, rfl, hno⟩ := hrel
    have Hno := Lib.hid hno; clear hno
    by_cases hlt : k < s.size
    · have hg := get_list s k hlt
      have he := u8_eq_iff s[k] c hc
      have Hg := Lib.hid hg; clear hg
      by_cases hx : s[k] = c.toNat.toUInt8
      · have ht : (((s[k].toNat : Nat) : Int) == c) = true := by rw [he]; simpa using hx
        have hfin : Hid (cutIdx s.data.toList c.toNat.toUInt8 = some k) := cutIdx_of (by rw [Hg.out, hx]) Hno.out
        clear he hx
        go_wp2_with fail
        go_quiet (fail)
        go_wp2_with fail
        go_ret3
        exact ⟨by simp [cutLeft, cutRight, cutOk, hfin.out, extract_end, extract_front], below_drewN (Below.refl _ _) _⟩
      · have ht : (((s[k].toNat : Nat) : Int) == c) = false := by rw [he]; simpa using hx
        have Hx := Lib.hid hx
        clear he hx
        go_wp2_with fail
        go_round
        case rel =>
          refine ⟨k + 1, by omega, by go_num, ?_⟩
          intro j hj
          rcases Nat.lt_or_ge j k with h | h
          · exact Hno.out j h
          · obtain rfl : j = k := by omega
            rw [Hg.out]; simpa using Hx.out
        case measure => simp [intOf]; omega
    · have hfin : Hid (cutIdx s.data.toList c.toNat.toUInt8 = none) := cutIdx_of_none fun j hj => Hno.out j (by rw [len_of] at hj; omega)
      go_wp2_with fail
      go_ret3
      exact ⟨by simp [cutLeft, cutRight, cutOk, hfin.out, mkS_of]; rfl, Below.refl _ _⟩

end Go.Proofs.Ytophakimobcnlaa
