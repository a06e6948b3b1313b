/-
  Small lemmas for the ends of walks: equal numbers, equal truth values, as endings and as values.
-/
import Derived.Below
import Derived.WalkKit
import Derived.Lib.Strings
namespace Go.Proofs.Ytfdjamobfhoeiaa
open Go.RowKit

theorem ret_int {k : IntKind} {a b : Int} (h : a = b) : Ending.returned (.int k a) = .returned (.int k b) := by rw [h]
theorem ret_bool {a b : Bool} (h : a = b) : Ending.returned (.bool a) = .returned (.bool b) := by rw [h]
theorem ret_str {a b : ByteArray} (h : a = b) : Ending.returned (.string a) = .returned (.string b) := by rw [h]
theorem val_int {k : IntKind} {a b : Int} (h : a = b) : Value.int k a = .int k b := by rw [h]

theorem bytes_toList {s t : ByteArray} (h : s.toList = t.toList) : s = t := by
  rw [Lib.toList_data, Lib.toList_data] at h
  cases s; cases t; simpa using h

theorem str_ne {s t : ByteArray} (h : s ≠ t) : (s.toList == t.toList) = false := by
  rw [beq_eq_false_iff_ne]
  exact fun e => h (bytes_toList e)

/-- The bounds of a number that fits int. -/
theorem wf_int {a : Int} (h : (Lit.int .i64 a).wf = true) : -9223372036854775808 ≤ a ∧ a ≤ 9223372036854775807 := by
  simpa [Lit.wf, IntKind.min, IntKind.max, IntKind.signed, IntKind.bits] using h
theorem wf_u8 {a : Int} (h : (Lit.int .u8 a).wf = true) : 0 ≤ a ∧ a ≤ 255 := by
  simpa [Lit.wf, IntKind.min, IntKind.max, IntKind.signed, IntKind.bits] using h

/-- Go's remainder, made not negative in two ways. -/
theorem tmod_cases (a b : Int) (hb : 0 < b) : (a.tmod b = a % b ∨ a.tmod b = a % b - b) ∧ -b < a.tmod b ∧ a.tmod b < b := by
  have h1 := Int.tmod_lt_of_pos a hb
  have h2 := Int.lt_tmod_of_pos a hb
  refine ⟨?_, h2, h1⟩
  rw [Int.tmod_eq_emod]
  split
  · left; omega
  · right; omega
theorem tmod_fix (a b : Int) (hb : 0 < b) : (a.tmod b + b).tmod b = a % b := by
  obtain ⟨h, h1, h2⟩ := tmod_cases a b hb
  have h3 := Int.emod_lt_of_pos a hb
  have h4 := Int.emod_nonneg a (by omega : b ≠ 0)
  rw [Int.tmod_eq_emod_of_nonneg (by omega)]
  rcases h with h | h
  · rw [h, Int.add_emod_right, Int.emod_emod_of_dvd _ (Int.dvd_refl b)]
  · rw [h, show a % b - b + b = a % b from by omega, Int.emod_emod_of_dvd _ (Int.dvd_refl b)]
theorem tmod_fix' (a b : Int) (hb : 0 < b) : (a.tmod b + b) % b = a % b := by
  obtain ⟨h, h1, h2⟩ := tmod_cases a b hb
  have h' := tmod_fix a b hb
  rw [Int.tmod_eq_emod_of_nonneg (by omega)] at h'
  exact h'
theorem tmod_neg (a b : Int) (hb : 0 < b) (h : a.tmod b < 0) : a.tmod b + b = a % b := by
  obtain ⟨h', h1, h2⟩ := tmod_cases a b hb
  have h4 := Int.emod_nonneg a (by omega : b ≠ 0)
  omega
theorem tmod_pos (a b : Int) (hb : 0 < b) (h : 0 ≤ a.tmod b) : a.tmod b = a % b := by
  obtain ⟨h', h1, h2⟩ := tmod_cases a b hb
  have h4 := Int.emod_lt_of_pos a hb
  omega

end Go.Proofs.Ytfdjamobfhoeiaa
