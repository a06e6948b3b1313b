/-
  Bytes and their hexadecimal texts, plain.
-/
import Derived.Test.YtkjjgpkegihmhaaDoorGA
namespace Go.Proofs.YtkjjgpkegihmhaaDoor
open Go.RowKit
set_option linter.unusedVariables false

theorem unhex_hex {n : Nat} (h : n < 16) : unhex (hexD n) = some n := by
  have hd : ∀ n < 16, unhex (hexD n) = some n := by decide
  exact hd n h
theorem hex_unhex {x : UInt8} {n : Nat} (h : unhex x = some n) : hexD n = x := by
  unfold unhex at h
  split at h
  · rename_i hx
    injection h with h
    unfold hexD
    rw [if_pos (by omega)]
    apply UInt8.toNat_inj.1
    simp [Nat.toUInt8, UInt8.toNat_ofNat']
    omega
  · split at h
    · rename_i hx
      injection h with h
      unfold hexD
      rw [if_neg (by omega)]
      apply UInt8.toNat_inj.1
      simp [Nat.toUInt8, UInt8.toNat_ofNat']
      omega
    · cases h
theorem byteOf_halves (x : UInt8) : byteOf (x.toNat / 16) (x.toNat % 16) = x := by
  apply UInt8.toNat_inj.1
  have := x.toNat_lt
  simp [byteOf, Nat.toUInt8, UInt8.toNat_ofNat']
  omega
theorem hexPair_byteOf {a b : Nat} (ha : a < 16) (hb : b < 16) : hexPair (byteOf a b) = [hexD a, hexD b] := by
  have e : (byteOf a b).toNat = a * 16 + b := by simp [byteOf, Nat.toUInt8, UInt8.toNat_ofNat']; omega
  unfold hexPair
  rw [e, show (a * 16 + b) / 16 = a by omega, show (a * 16 + b) % 16 = b by omega]
theorem parse_hex (l : List UInt8) : parseHex (hexL l) = some l := by
  induction l with
  | nil => rfl
  | cons x r ih =>
    have hx := x.toNat_lt
    show parseHex (hexD (x.toNat / 16) :: hexD (x.toNat % 16) :: hexL r) = _
    simp only [parseHex, unhex_hex (show x.toNat / 16 < 16 by omega), unhex_hex (show x.toNat % 16 < 16 by omega), ih, byteOf_halves]
theorem hex_parse : ∀ (n : Nat) (l t : List UInt8), l.length ≤ n → parseHex l = some t → hexL t = l := by
  intro n
  induction n with
  | zero => intro l t h ht; have : l = [] := List.eq_nil_of_length_eq_zero (by omega)
            subst this; simp [parseHex] at ht; subst ht; rfl
  | succ n ih =>
    intro l t h ht
    match l, h, ht with
    | [], _, ht => simp [parseHex] at ht; subst ht; rfl
    | [_], _, ht => simp [parseHex] at ht
    | a :: b :: r, h, ht =>
      simp only [parseHex] at ht
      cases ea : unhex a with
      | none => simp [ea] at ht
      | some p =>
        cases eb : unhex b with
        | none => simp [ea, eb] at ht
        | some q =>
          cases er : parseHex r with
          | none => simp [ea, eb, er] at ht
          | some u =>
            simp [ea, eb, er] at ht
            subst ht
            show hexPair (byteOf p q) ++ hexL u = _
            rw [hexPair_byteOf (unhex_lt ea) (unhex_lt eb), ih r u (by simp at h; omega) er, hex_unhex ea, hex_unhex eb]
            rfl

end Go.Proofs.YtkjjgpkegihmhaaDoor
