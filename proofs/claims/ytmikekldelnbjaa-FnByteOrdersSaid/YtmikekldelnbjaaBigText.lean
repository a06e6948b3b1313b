/-
  The bytes of a number, the most significant one first. No program in sight.
-/
import Derived.Test.YtmikekldelnbjaaText
import Derived.Test.YtmikekldelnbjaaRep
namespace Go.Proofs.Ytmikekldelnbjaa
open Go.RowKit

def posB (n j : Nat) : UInt8 := (n / 256 ^ j % 256).toUInt8
theorem posB_toNat (n j : Nat) : (posB n j).toNat = n / 256 ^ j % 256 := by
  simp [posB, Nat.toUInt8, UInt8.toNat_ofNat']
def bigL (n : Nat) : Nat → List UInt8
  | 0 => []
  | k + 1 => posB n k :: bigL n k
theorem bigL_len (n k : Nat) : (bigL n k).length = k := by induction k with | zero => rfl | succ k ih => simp [bigL, ih]
theorem cB_cons (x : UInt8) (l : List UInt8) : cB (x :: l) = .int .u8 (x.toNat : Int) :: cB l := rfl
/-- May this number be written so? -/
def bigOk (n size : Int) : Bool := decide (1 ≤ size) && decide (size ≤ 4) && decide (0 ≤ n) && decide (n < 256 ^ size.toNat)
def bigE (n size : Int) : List UInt8 := if bigOk n size then bigL n.toNat size.toNat else []
theorem bigE_len (n size : Int) : (bigE n size).length ≤ 4 := by
  unfold bigE
  split
  · rename_i h
    simp [bigOk] at h
    rw [bigL_len]; omega
  · simp
theorem bigE_of {n size : Int} (h1 : 1 ≤ size) (h2 : size ≤ 4) (h3 : 0 ≤ n) (h4 : n < 256 ^ size.toNat) : bigE n size = bigL n.toNat size.toNat := by
  unfold bigE
  rw [if_pos (by simp [bigOk, h1, h2, h3, h4])]
theorem bigE_not {n size : Int} (h : size < 1 ∨ 4 < size ∨ n < 0 ∨ 256 ^ size.toNat ≤ n) : bigE n size = [] := by
  unfold bigE
  rw [if_neg]
  simp only [bigOk, Bool.and_eq_true, decide_eq_true_eq]
  rintro ⟨⟨⟨h1, h2⟩, h3⟩, h4⟩
  rcases h with h | h | h | h <;> omega

end Go.Proofs.Ytmikekldelnbjaa
