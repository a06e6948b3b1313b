/-
  Plain functions on lists of bytes: what the texts of the program and of the reference compute. No program in sight.
-/
import Derived.Below
import Derived.Lib.IndexLaws
import Derived.Lib.IndexBytes
namespace Go.Proofs.Ytfdjamobfhoeiaa
open Go.RowKit

/-- A string out of its bytes. -/
def mkS (l : List UInt8) : ByteArray := ⟨l.toArray⟩
theorem mkS_list (l : List UInt8) : (mkS l).data.toList = l := rfl
theorem mkS_size (l : List UInt8) : (mkS l).size = l.length := rfl
theorem mkS_append (a b : List UInt8) : mkS a ++ mkS b = mkS (a ++ b) := by
  apply ByteArray.ext; simp [mkS, ByteArray.data_append]
theorem mkS_inj {a b : List UInt8} (h : mkS a = mkS b) : a = b := by
  have := congrArg (fun s : ByteArray => s.data.toList) h
  simpa [mkS] using this
theorem mkS_of (s : ByteArray) : mkS s.data.toList = s := by cases s; simp [mkS]
theorem len_of (s : ByteArray) : s.data.toList.length = s.size := by cases s; simp [ByteArray.size]
theorem bytes_ext {s t : ByteArray} (h : s.data.toList = t.data.toList) : s = t := by rw [← mkS_of s, ← mkS_of t, h]
theorem extract_mk (s : ByteArray) (a b : Nat) : s.extract a b = mkS ((s.data.toList.drop a).take (b - a)) := Lib.extract_eq s a b
theorem extract_end (s : ByteArray) (a : Nat) : s.extract a s.size = mkS (s.data.toList.drop a) := by
  apply bytes_ext; rw [Lib.extract_to_end]; rfl
theorem extract_front (s : ByteArray) (b : Nat) : s.extract 0 b = mkS (s.data.toList.take b) := by
  rw [extract_mk]; simp
theorem get_list (s : ByteArray) (k : Nat) (h : k < s.size) : s.data.toList[k]? = some s[k] := by
  have : k < s.data.toList.length := by rw [len_of]; exact h
  rw [List.getElem?_eq_getElem this]; rfl

/-- The number of a byte. -/
theorem u8_toNat (c : Int) (h : 0 ≤ c ∧ c ≤ 255) : (c.toNat.toUInt8.toNat : Int) = c := by
  have : c.toNat < 256 := by omega
  simp [Nat.toUInt8, UInt8.toNat_ofNat', Nat.mod_eq_of_lt this]; omega
theorem u8_eq_iff (x : UInt8) (c : Int) (h : 0 ≤ c ∧ c ≤ 255) : ((x.toNat : Int) == c) = (x == c.toNat.toUInt8) := by
  rw [Bool.eq_iff_iff, beq_iff_eq, beq_iff_eq]
  constructor
  · intro e
    apply UInt8.toNat_inj.1
    have := u8_toNat c h
    omega
  · intro e
    rw [e]; exact u8_toNat c h

/-- The first place of a byte. -/
def cutIdx : List UInt8 → UInt8 → Option Nat
  | [], _ => none
  | x :: r, c => if x = c then some 0 else (cutIdx r c).map (· + 1)

theorem indexByte_cut (l : List UInt8) (c : UInt8) : Lib.indexByte l c = match cutIdx l c with | some k => (k : Int) | none => -1 := by
  induction l with
  | nil => rfl
  | cons x r ih =>
    unfold Lib.indexByte cutIdx
    by_cases h : x = c
    · simp [h]
    · rw [ih]
      cases cutIdx r c with
      | none => simp [h]
      | some k => simp [h]

theorem cutIdx_lt {l : List UInt8} {c : UInt8} {k : Nat} (h : cutIdx l c = some k) : k < l.length ∧ l[k]? = some c ∧ ∀ j : Nat, j < k → l[j]? ≠ some c := by
  induction l generalizing k with
  | nil => simp [cutIdx] at h
  | cons x r ih =>
    unfold cutIdx at h
    by_cases hx : x = c
    · simp [hx] at h; subst h; simp [hx]
    · simp [hx] at h
      obtain ⟨j, hj, rfl⟩ := h
      obtain ⟨h1, h2, h3⟩ := ih hj
      refine ⟨by simp; omega, by simpa using h2, ?_⟩
      intro i hi
      cases i with
      | zero => simpa using hx
      | succ i => simpa using h3 i (by omega)

theorem cutIdx_none {l : List UInt8} {c : UInt8} (h : cutIdx l c = none) : ∀ j : Nat, l[j]? ≠ some c := by
  induction l with
  | nil => simp
  | cons x r ih =>
    unfold cutIdx at h
    by_cases hx : x = c
    · simp [hx] at h
    · simp [hx] at h
      intro j
      cases j with
      | zero => simpa using hx
      | succ j => simpa using ih h j

theorem cutIdx_of {l : List UInt8} {c : UInt8} {k : Nat} (h : l[k]? = some c) (hn : ∀ j : Nat, j < k → l[j]? ≠ some c) : cutIdx l c = some k := by
  cases e : cutIdx l c with
  | none => exact absurd h (cutIdx_none e k)
  | some j =>
    obtain ⟨h1, h2, h3⟩ := cutIdx_lt e
    rcases Nat.lt_trichotomy j k with hj | hj | hj
    · exact absurd h2 (hn j hj)
    · rw [hj]
    · exact absurd h (h3 k hj)

theorem cutIdx_of_none {l : List UInt8} {c : UInt8} (hn : ∀ j : Nat, j < l.length → l[j]? ≠ some c) : cutIdx l c = none := by
  cases e : cutIdx l c with
  | none => rfl
  | some j => obtain ⟨h1, h2, _⟩ := cutIdx_lt e; exact absurd h2 (hn j h1)

def cutLeft (l : List UInt8) (c : UInt8) : List UInt8 := match cutIdx l c with | some k => l.take k | none => l
def cutRight (l : List UInt8) (c : UInt8) : List UInt8 := match cutIdx l c with | some k => l.drop (k + 1) | none => []
def cutOk (l : List UInt8) (c : UInt8) : Bool := (cutIdx l c).isSome

end Go.Proofs.Ytfdjamobfhoeiaa
