/-
  Numbers and their decimal texts; quotients. Plain Lean.
-/
import Derived.Test.YtkjjgpkegihmhaaDoorGA
import Derived.Test.YtkjjgpkegihmhaaDoorInt
namespace Go.Proofs.YtkjjgpkegihmhaaDoor
open Go.RowKit

theorem isDigit_digit {d : Nat} (h : d < 10) : isDigit (digit d) = true := by
  have := digit_toNat h
  simp [isDigit, this]; omega
theorem dec_digits (k : Nat) : ∀ n, n < 10 ^ k → (dec n).all isDigit = true ∧ val (dec n) = n := by
  induction k with
  | zero =>
    intro n h
    have : n = 0 := by simpa using h
    subst this
    simp [dec_zero, val]
  | succ k ih =>
    intro n h
    by_cases h0 : n = 0
    · subst h0; simp [dec_zero, val]
    · obtain ⟨h1, h2⟩ := ih (n / 10) (by rw [Nat.pow_succ] at h; omega)
      have hd : n % 10 < 10 := Nat.mod_lt _ (by omega)
      rw [dec_pos h0, val_snoc, h2, digit_toNat hd]
      refine ⟨?_, by omega⟩
      rw [List.all_append, h1]
      simp [isDigit_digit hd]
theorem dec_head (k : Nat) : ∀ n, n < 10 ^ k → n ≠ 0 → 1 ≤ (dec n).length ∧ (dec n)[0]? ≠ some 48 := by
  induction k with
  | zero => intro n h h0; exact absurd (by simpa using h) h0
  | succ k ih =>
    intro n h h0
    rw [dec_pos h0]
    by_cases h10 : n / 10 = 0
    · rw [h10, dec_zero]
      refine ⟨by simp, ?_⟩
      have hd : n % 10 < 10 := Nat.mod_lt _ (by omega)
      have h1 := digit_toNat hd
      intro e
      have e2 : digit (n % 10) = 48 := by simpa using e
      rw [e2] at h1
      have : (48 : UInt8).toNat = 48 := rfl
      omega
    · obtain ⟨h1, h2⟩ := ih (n / 10) (by rw [Nat.pow_succ] at h; omega) h10
      refine ⟨by simp, ?_⟩
      rw [List.getElem?_append_left (by omega)]
      exact h2
theorem parse_fmt_yes {m : Int} (h0 : 0 ≤ m) (h1 : m ≤ 1000000000000) : parseOk (fmtInt m) = true ∧ parseNum (fmtInt m) = m := by
  by_cases hz : m = 0
  · subst hz
    exact ⟨by decide, by decide⟩
  · have e : fmtInt m = dec m.natAbs := by unfold fmtInt; rw [if_neg hz, if_neg (by omega)]
    have h13 : m.natAbs < 10 ^ 13 := by omega
    obtain ⟨d1, d2⟩ := dec_digits 13 _ h13
    obtain ⟨d3, d4⟩ := dec_head 13 _ h13 (by omega)
    have hok : parseOk (fmtInt m) = true := by rw [e]; exact parseOk_of d3 (dec_len 13 _ h13) d1 (by rw [d2]; omega) (.inr d4)
    refine ⟨hok, ?_⟩
    unfold parseNum
    rw [hok, if_pos rfl, e, d2]
    omega
theorem parse_fmt_no {m : Int} (hf : -9223372036854775808 ≤ m ∧ m ≤ 9223372036854775807) (h : m < 0 ∨ 1000000000000 < m) : parseOk (fmtInt m) = false := by
  rcases h with h | h
  · have e : fmtInt m = 45 :: dec m.natAbs := by unfold fmtInt; rw [if_neg (by omega), if_pos h]
    rw [e]
    apply parseOk_not
    exact .inr (.inr (.inl (by simp [isDigit])))
  · have e : fmtInt m = dec m.natAbs := by unfold fmtInt; rw [if_neg (by omega), if_neg (by omega)]
    rw [e]
    apply parseOk_not
    have := (dec_digits 19 m.natAbs (by omega)).2
    exact .inr (.inr (.inr (.inl (by rw [this]; omega))))
theorem fmt_parse {l : List UInt8} (h : parseOk l = true) : fmtInt (parseNum l) = l := by
  have e := h
  unfold parseNum
  rw [h, if_pos rfl]
  unfold parseOk at e
  simp only [Bool.and_eq_true, decide_eq_true_eq, Bool.or_eq_true] at e
  obtain ⟨⟨⟨⟨h1, h2⟩, hd⟩, hv⟩, h0⟩ := e
  exact (fmt_val h1 hd).2 h0
theorem parseNum_range (l : List UInt8) : 0 ≤ parseNum l ∧ parseNum l ≤ 1000000000000 := by
  unfold parseNum
  by_cases h : parseOk l = true
  · rw [if_pos h]
    unfold parseOk at h
    simp only [Bool.and_eq_true, decide_eq_true_eq] at h
    omega
  · rw [if_neg h]; omega
theorem mod_diff {a b : Int} (hb : 1 ≤ b) : (a.tmod b - a % b).tmod b = 0 := by
  obtain ⟨h, _, _⟩ := tmod_cases a b (by omega)
  rcases h with h | h
  · rw [h]; simp
  · rw [h, show a % b - b - a % b = -b by omega]; simp
theorem ceil_mul {a b : Int} (hb : 1 ≤ b) : a ≤ (a + b - 1) / b * b ∧ (a + b - 1) / b * b - a < b := by
  have h1 := Int.emod_add_mul_ediv (a + b - 1) b
  have h2 := Int.emod_nonneg (a + b - 1) (by omega : b ≠ 0)
  have h3 := Int.emod_lt_of_pos (a + b - 1) (by omega : 0 < b)
  rw [Int.mul_comm b] at h1
  omega

end Go.Proofs.YtkjjgpkegihmhaaDoor
