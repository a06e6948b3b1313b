/-
  Hexadecimal digits. No program in sight.
-/
import Derived.Test.YtmikekldelnbjaaText
namespace Go.Proofs.Ytmikekldelnbjaa
open Go.RowKit

def hexD (n : Nat) : UInt8 := if n < 10 then (48 + n).toUInt8 else (87 + n).toUInt8
def hexS : ByteArray := ⟨#[48, 49, 50, 51, 52, 53, 54, 55, 56, 57, 97, 98, 99, 100, 101, 102]⟩
theorem hexS_size : hexS.size = 16 := rfl
theorem hexS_at {n : Nat} (h : n < 16) : hexS.data.toList[n]? = some (hexD n) := by
  have hd : ∀ n < 16, hexS.data.toList[n]? = some (hexD n) := by decide
  exact hd n h
theorem hexS_get {n : Nat} (h : n < hexS.size) : hexS[n] = hexD n := by
  have h1 := get_list hexS n h
  rw [hexS_at (by rwa [hexS_size] at h)] at h1
  exact (Option.some.inj h1).symm
def hexPair (b : UInt8) : List UInt8 := [hexD (b.toNat / 16), hexD (b.toNat % 16)]
def hexL (l : List UInt8) : List UInt8 := l.flatMap hexPair
theorem hexL_snoc (l : List UInt8) (b : UInt8) : hexL (l ++ [b]) = hexL l ++ hexPair b := by simp [hexL]
theorem hexL_len (l : List UInt8) : (hexL l).length = 2 * l.length := by
  induction l with
  | nil => rfl
  | cons x r ih => simp [hexL, hexPair] at ih ⊢; omega
theorem hexL_step {l : List UInt8} {k : Nat} (h : k < l.length) : hexL (l.take (k + 1)) = hexL (l.take k) ++ hexPair l[k] := by
  rw [List.take_succ_eq_append_getElem h, hexL_snoc]

/-- A digit's value, or none. -/
def unhex (x : UInt8) : Option Nat := if 48 ≤ x.toNat ∧ x.toNat ≤ 57 then some (x.toNat - 48) else if 97 ≤ x.toNat ∧ x.toNat ≤ 102 then some (x.toNat - 87) else none
def unhexI (x : UInt8) : Int := match unhex x with | some n => n | none => -1
def byteOf (a b : Nat) : UInt8 := (a * 16 + b).toUInt8
/-- The bytes of pairs of digits, as far as these are digits. -/
def parseHex : List UInt8 → Option (List UInt8)
  | [] => some []
  | [_] => none
  | a :: b :: r => match unhex a, unhex b, parseHex r with
    | some x, some y, some t => some (byteOf x y :: t)
    | _, _, _ => none

theorem parse_append (n : Nat) : ∀ (a b : List UInt8), a.length = 2 * n → parseHex (a ++ b) = (parseHex a).bind fun s => (parseHex b).map (s ++ ·) := by
  induction n with
  | zero => intro a b h; have : a = [] := List.eq_nil_of_length_eq_zero (by simpa using h)
            subst this; simp [parseHex]
  | succ n ih =>
    intro a b h
    match a, h with
    | x :: y :: r, h =>
      have hr : r.length = 2 * n := by simp at h; omega
      simp only [List.cons_append, parseHex, ih r b hr]
      cases unhex x <;> cases unhex y <;> cases parseHex r <;> cases parseHex b <;> simp
    | [_], h => simp at h; omega
    | [], h => simp at h
theorem parse_odd : ∀ (n : Nat) (a : List UInt8), a.length = 2 * n + 1 → parseHex a = none := by
  intro n
  induction n with
  | zero => intro a h; match a, h with
            | [_], _ => rfl
  | succ n ih =>
    intro a h
    match a, h with
    | x :: y :: r, h =>
      have := ih r (by simp at h; omega)
      simp only [parseHex, this]
      cases unhex x <;> cases unhex y <;> rfl
theorem drop_two {l : List UInt8} {k : Nat} {x y : UInt8} (hx : l[k]? = some x) (hy : l[k + 1]? = some y) : l = l.take k ++ (x :: y :: l.drop (k + 2)) := by
  have h1 : k < l.length := (List.getElem?_eq_some_iff.1 hx).1
  have h2 : k + 1 < l.length := (List.getElem?_eq_some_iff.1 hy).1
  have e1 : l.drop k = x :: l.drop (k + 1) := by
    rw [List.drop_eq_getElem_cons h1]; rw [List.getElem?_eq_getElem h1] at hx; rw [Option.some.inj hx]
  have e2 : l.drop (k + 1) = y :: l.drop (k + 2) := by
    rw [List.drop_eq_getElem_cons h2]; rw [List.getElem?_eq_getElem h2] at hy; rw [Option.some.inj hy]
  rw [← e2, ← e1, List.take_append_drop]
theorem parse_bad {l : List UInt8} {k : Nat} {x y : UInt8} (hk : k ≤ l.length) (he : k % 2 = 0) (hx : l[k]? = some x) (hy : l[k + 1]? = some y) (h : unhex x = none ∨ unhex y = none) : parseHex l = none := by
  rw [drop_two hx hy, parse_append (k / 2) _ _ (by rw [List.length_take]; omega)]
  have : parseHex (x :: y :: l.drop (k + 2)) = none := by
    simp only [parseHex]
    rcases h with h | h
    · rw [h]
    · rw [h]; cases unhex x <;> rfl
  rw [this]
  cases parseHex (l.take k) <;> rfl
theorem take_one {l : List UInt8} {k : Nat} {x : UInt8} (hx : l[k]? = some x) : l.take (k + 1) = l.take k ++ [x] := by
  rw [List.take_add_one, hx]; rfl
theorem take_two {l : List UInt8} {k : Nat} {x y : UInt8} (hx : l[k]? = some x) (hy : l[k + 1]? = some y) : l.take (k + 2) = l.take k ++ [x, y] := by
  rw [show k + 2 = (k + 1) + 1 from rfl, take_one hy, take_one hx]; simp
theorem parse_good {l t : List UInt8} {k : Nat} {x y : UInt8} {a b : Nat} (he : k % 2 = 0) (hx : l[k]? = some x) (hy : l[k + 1]? = some y) (ha : unhex x = some a) (hb : unhex y = some b) (ht : parseHex (l.take k) = some t) :
    parseHex (l.take (k + 2)) = some (t ++ [byteOf a b]) := by
  have hk : k < l.length := (List.getElem?_eq_some_iff.1 hx).1
  rw [take_two hx hy, parse_append (k / 2) _ _ (by rw [List.length_take]; omega), ht]
  simp [parseHex, ha, hb]
theorem unhex_lt {x : UInt8} {a : Nat} (h : unhex x = some a) : a < 16 := by
  unfold unhex at h
  split at h
  · injection h; omega
  · split at h
    · injection h; omega
    · cases h
def parseB (l : List UInt8) : List UInt8 := (parseHex l).getD []
def parseBOk (l : List UInt8) : Bool := (parseHex l).isSome
theorem parse_len : ∀ (n : Nat) (l t : List UInt8), l.length = 2 * n → parseHex l = some t → t.length = n := by
  intro n
  induction n with
  | zero => intro l t h ht; have : l = [] := List.eq_nil_of_length_eq_zero (by simpa using h)
            subst this; simp [parseHex] at ht; subst ht; rfl
  | succ n ih =>
    intro l t h ht
    match l, h with
    | x :: y :: r, h =>
      simp only [parseHex] at ht
      cases hx : unhex x <;> cases hy : unhex y <;> cases hr : parseHex r <;> simp [hx, hy, hr] at ht
      subst ht
      simp [ih r _ (by simp at h; omega) hr]

end Go.Proofs.Ytmikekldelnbjaa
