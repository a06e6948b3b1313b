/-
  Decimal digits. No program in sight.
-/
import Derived.Test.YtfdjamobfhoeiaaDoorText
namespace Go.Proofs.YtfdjamobfhoeiaaDoor
open Go.RowKit

def digit (d : Nat) : UInt8 := (48 + d).toUInt8
theorem digit_toNat {d : Nat} (h : d < 10) : (digit d).toNat = 48 + d := by
  unfold digit
  simp [Nat.toUInt8, UInt8.toNat_ofNat']
  omega

/-- The decimal digits of n, none for 0. -/
def dec (n : Nat) : List UInt8 := if n = 0 then [] else dec (n / 10) ++ [digit (n % 10)]
termination_by n
decreasing_by omega

theorem dec_zero : dec 0 = [] := by rw [dec, if_pos rfl]
theorem dec_pos {n : Nat} (h : n ≠ 0) : dec n = dec (n / 10) ++ [digit (n % 10)] := by rw [dec, if_neg h]

theorem dec_len (k : Nat) : ∀ n, n < 10 ^ k → (dec n).length ≤ k := by
  induction k with
  | zero => intro n h; have : n = 0 := by simpa using h
            subst this; simp [dec_zero]
  | succ k ih =>
    intro n h
    by_cases h0 : n = 0
    · subst h0; simp [dec_zero]
    · rw [dec_pos h0, List.length_append]
      have := ih (n / 10) (by rw [Nat.pow_succ] at h; omega)
      simp; omega

/-- The decimal text of an int. -/
def fmtInt (n : Int) : List UInt8 := if n = 0 then [48] else if n < 0 then 45 :: dec n.natAbs else dec n.natAbs

theorem fmtInt_len {n : Int} (h : -9223372036854775808 ≤ n ∧ n ≤ 9223372036854775807) : (fmtInt n).length ≤ 20 := by
  have : (dec n.natAbs).length ≤ 19 := dec_len 19 _ (by omega)
  unfold fmtInt
  split
  · simp
  · split <;> simp <;> omega

/-- What stands before the loop's next digit. -/
theorem dec_step {x : Int} (h : x ≠ 0) (t : List UInt8) : dec x.natAbs ++ t = dec (x.tdiv 10).natAbs ++ (digit (x.natAbs % 10) :: t) := by
  have e : (x.tdiv 10).natAbs = x.natAbs / 10 := by rw [Int.natAbs_tdiv]; rfl
  rw [dec_pos (by omega : x.natAbs ≠ 0), e]
  simp

theorem digit_of (d : Int) (k : Nat) (h : d = 48 + (k : Int)) : UInt8.ofNat d.toNat = digit k := by
  subst h
  unfold digit Nat.toUInt8
  congr 1
theorem tmod_ten_neg {q : Int} (h : q < 0) : q.tmod 10 = -((q.natAbs % 10 : Nat) : Int) ∧ q.tdiv 10 = -((q.natAbs / 10 : Nat) : Int) := by
  obtain ⟨m, rfl⟩ : ∃ m : Nat, q = -(m : Int) := ⟨q.natAbs, by omega⟩
  rw [Int.neg_tmod, Int.neg_tdiv, Int.natAbs_neg, Int.natAbs_natCast]
  constructor
  · rw [Int.tmod_eq_emod_of_nonneg (by omega)]; simp
  · rw [Int.tdiv_eq_ediv_of_nonneg (by omega)]; simp

/-- Are these all digits? Their number, read from the left. -/
def isDigit (x : UInt8) : Bool := decide (48 ≤ x.toNat) && decide (x.toNat ≤ 57)
def val (l : List UInt8) : Nat := l.foldl (fun n x => 10 * n + (x.toNat - 48)) 0

theorem val_snoc (l : List UInt8) (x : UInt8) : val (l ++ [x]) = 10 * val l + (x.toNat - 48) := by simp [val]
theorem fold_lt (l : List UInt8) (h : l.all isDigit = true) : ∀ a, l.foldl (fun n x => 10 * n + (x.toNat - 48)) a < (a + 1) * 10 ^ l.length := by
  induction l with
  | nil => intro a; simp
  | cons x r ih =>
    intro a
    simp only [List.all_cons, Bool.and_eq_true] at h
    have hx : x.toNat - 48 ≤ 9 := by have := h.1; simp [isDigit] at this; omega
    have := ih h.2 (10 * a + (x.toNat - 48))
    simp only [List.foldl_cons, List.length_cons]
    refine Nat.lt_of_lt_of_le this ?_
    rw [Nat.pow_succ, ← Nat.mul_assoc, Nat.mul_right_comm]
    exact Nat.mul_le_mul_right _ (by omega)
theorem val_lt {l : List UInt8} (h : l.all isDigit = true) : val l < 10 ^ l.length := by
  have := fold_lt l h 0
  simpa [val] using this

theorem digit_val {x : UInt8} (h : isDigit x = true) : digit (x.toNat - 48) = x := by
  simp [isDigit] at h
  apply UInt8.toNat_inj.1
  rw [digit_toNat (by omega)]
  omega

theorem val_pos {l : List UInt8} (hd : l.all isDigit = true) {x : UInt8} (hx : l[0]? = some x) (h : x ≠ 48) : 0 < val l := by
  induction hn : l.length generalizing l with
  | zero => have : l = [] := List.eq_nil_of_length_eq_zero hn
            subst this; simp at hx
  | succ n ih =>
    rcases List.eq_nil_or_concat l with rfl | ⟨r, y, rfl⟩
    · simp at hx
    · rw [List.concat_eq_append] at *
      rw [val_snoc]
      simp only [List.all_append, Bool.and_eq_true, List.all_cons, List.all_nil, Bool.and_true] at hd
      cases r with
      | nil =>
        simp at hx
        subst hx
        have h1 := hd.2
        simp [isDigit] at h1
        have : y.toNat ≠ 48 := fun e => h (UInt8.toNat_inj.1 e)
        omega
      | cons z r' =>
        have := ih (l := z :: r') hd.1 (by simpa using hx) (by simpa using hn)
        omega

theorem dec_val {l : List UInt8} (hd : l.all isDigit = true) (h : ∀ x, l[0]? = some x → x ≠ 48) : dec (val l) = l := by
  induction hn : l.length generalizing l with
  | zero => have : l = [] := List.eq_nil_of_length_eq_zero hn
            subst this; simp [val, dec_zero]
  | succ n ih =>
    rcases List.eq_nil_or_concat l with rfl | ⟨r, y, rfl⟩
    · simp at hn
    · rw [List.concat_eq_append] at *
      have hpos : 0 < val (r ++ [y]) := by
        cases r with
        | nil => exact val_pos hd (x := y) (by simp) (h y (by simp))
        | cons z r' => exact val_pos hd (x := z) (by simp) (h z (by simp))
      rw [dec_pos (by omega), val_snoc]
      simp only [List.all_append, Bool.and_eq_true, List.all_cons, List.all_nil, Bool.and_true] at hd
      have hy := hd.2
      have hdv := digit_val hy
      simp [isDigit] at hy
      rw [show (10 * val r + (y.toNat - 48)) / 10 = val r from by omega, show (10 * val r + (y.toNat - 48)) % 10 = y.toNat - 48 from by omega, hdv]
      rw [ih hd.1 (by
        intro x hx
        cases r with
        | nil => simp at hx
        | cons z r' => exact h x (by simpa using hx)) (by simpa using hn)]

/-- The decimal text of a number from 0 to 10^12, read. -/
def parseOk (l : List UInt8) : Bool := decide (1 ≤ l.length) && decide (l.length ≤ 13) && l.all isDigit && decide (val l ≤ 1000000000000) && (decide (l.length = 1) || decide (l[0]? ≠ some 48))
def parseNum (l : List UInt8) : Int := if parseOk l then val l else 0

theorem val_zero_head {r : List UInt8} : val (48 :: r) = val r := by
  simp [val]

theorem fmt_val {l : List UInt8} (h1 : 1 ≤ l.length) (hd : l.all isDigit = true) : fmtInt (val l) = l ↔ (l.length = 1 ∨ l[0]? ≠ some 48) := by
  have hnn : ¬ ((val l : Nat) : Int) < 0 := by omega
  constructor
  · intro h
    rcases Nat.lt_or_ge 1 l.length with hl | hl
    · right
      intro h0
      cases l with
      | nil => simp at h1
      | cons x r =>
        simp at h0
        subst h0
        simp only [List.all_cons, Bool.and_eq_true] at hd
        rw [val_zero_head] at h
        have hv := val_lt hd.2
        have hlen := congrArg List.length h
        unfold fmtInt at hlen
        split at hlen
        · simp only [List.length_cons, List.length_nil] at hlen hl; omega
        · rw [if_neg (show ¬ ((val r : Nat) : Int) < 0 by omega)] at hlen
          have := dec_len r.length (val r) hv
          simp at hlen
          omega
    · left; omega
  · intro h
    unfold fmtInt
    rw [if_neg hnn, Int.natAbs_natCast]
    by_cases h0 : val l = 0
    · rw [if_pos (by omega)]
      rcases h with h | h
      · match l, h with
        | [x], _ =>
          simp [isDigit] at hd
          simp [val] at h0
          have : x.toNat = 48 := by omega
          rw [show x = 48 from UInt8.toNat_inj.1 this]
      · cases l with
        | nil => simp at h1
        | cons x r =>
          have := val_pos hd (x := x) (by simp) (by simpa using h)
          omega
    · rw [if_neg (by omega)]
      refine dec_val hd fun x hx hx48 => ?_
      subst hx48
      rcases h with h | h
      · match l, h with
        | [y], _ => simp at hx; subst hx; simp [val] at h0
      · exact h hx

theorem parseOk_of {l : List UInt8} (h1 : 1 ≤ l.length) (h2 : l.length ≤ 13) (hd : l.all isDigit = true) (hv : val l ≤ 1000000000000) (h : l.length = 1 ∨ l[0]? ≠ some 48) : parseOk l = true := by
  unfold parseOk
  simp only [Bool.and_eq_true, decide_eq_true_eq, Bool.or_eq_true]
  exact ⟨⟨⟨⟨h1, h2⟩, hd⟩, hv⟩, h⟩
theorem parseOk_not {l : List UInt8} (h : l.length < 1 ∨ 13 < l.length ∨ l.all isDigit = false ∨ 1000000000000 < val l ∨ (1 < l.length ∧ l[0]? = some 48)) : parseOk l = false := by
  cases e : parseOk l with
  | false => rfl
  | true =>
    unfold parseOk at e
    simp only [Bool.and_eq_true, decide_eq_true_eq, Bool.or_eq_true] at e
    obtain ⟨⟨⟨⟨h1, h2⟩, hd⟩, hv⟩, h0⟩ := e
    rcases h with h | h | h | h | ⟨h, h'⟩
    · omega
    · omega
    · rw [hd] at h; cases h
    · omega
    · rcases h0 with h0 | h0
      · omega
      · exact absurd h' h0
theorem all_bad {l : List UInt8} {k : Nat} {x : UInt8} (hx : l[k]? = some x) (h : isDigit x = false) : l.all isDigit = false := by
  cases e : l.all isDigit with
  | false => rfl
  | true =>
    have := List.all_eq_true.1 e x (List.mem_of_getElem? hx)
    rw [h] at this; cases this
theorem take_step {l : List UInt8} {k : Nat} {x : UInt8} (hx : l[k]? = some x) : l.take (k + 1) = l.take k ++ [x] := by
  rw [List.take_add_one, hx]; rfl

end Go.Proofs.YtfdjamobfhoeiaaDoor
