/-
  Hexadecimal digits. No program in sight.
-/
import Derived.Test.YtmikekldelnbjaaText
namespace Go.Proofs.Ytmikekldelnbjaa
open Go.RowKit

def hexD (n : Nat) : UInt8 := if n < 10 then (48 + n).toUInt8 else (87 + n).toUInt8
def hexS : ByteArray := ⟨#[48, 49, 50, 51, 52, 53, 54, 55, 56, 57, 97, 98, 99, 100, 101, 102]⟩
theorem hexS_size : hexS.size = 16 := rfl
theorem hexS_at {n : Nat} (h : n < 16) : hexS.data.toList[n]? = some (hexD n) := by
  have hd : ∀ n < 16, hexS.data.toList[n]? = some (hexD n) := by decide
  exact hd n h
theorem hexS_get {n : Nat} (h : n < hexS.size) : hexS[n] = hexD n := by
  have h1 := get_list hexS n h
  rw [hexS_at (by rwa [hexS_size] at h)] at h1
  exact (Option.some.inj h1).symm
def hexPair (b : UInt8) : List UInt8 := [hexD (b.toNat / 16), hexD (b.toNat % 16)]
def hexL (l : List UInt8) : List UInt8 := l.flatMap hexPair
theorem hexL_snoc (l : List UInt8) (b : UInt8) : hexL (l ++ [b]) = hexL l ++ hexPair b := by simp [hexL]
theorem hexL_len (l : List UInt8) : (hexL l).length = 2 * l.length := by
  induction l with
  | nil => rfl
  | cons x r ih => simp [hexL, hexPair] at ih ⊢; omega
theorem hexL_step {l : List UInt8} {k : Nat} (h : k < l.length) : hexL (l.take (k + 1)) = hexL (l.take k) ++ hexPair l[k] := by
  rw [List.take_succ_eq_append_getElem h, hexL_snoc]

/-- A digit's value, or none. -/
def unhex (x : UInt8) : Option Nat := if 48 ≤ x.toNat ∧ x.toNat ≤ 57 then some (x.toNat - 48) else if 97 ≤ x.toNat ∧ x.toNat ≤ 102 then some (x.toNat - 87) else none
def unhexI (x : UInt8) : Int := match unhex x with | some n => n | none => -1
/-- The bytes of pairs of digits, as far as these are digits. -/
def parseHex : List UInt8 → Option (List UInt8)
  | [] => some []
  | [_] => none
  | a :: b :: r => match unhex a, unhex b, parseHex r with
    | some x, some y, some t => some ((x * 16 + y).toUInt8 :: t)
    | _, _, _ => none

end Go.Proofs.Ytmikekldelnbjaa
