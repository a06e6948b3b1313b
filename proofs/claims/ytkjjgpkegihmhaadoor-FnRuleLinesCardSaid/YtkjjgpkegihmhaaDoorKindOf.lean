/-
  The kind with a name, plain; the names of kinds.
-/
import Derived.Test.YtkjjgpkegihmhaaDoorGA
namespace Go.Proofs.YtkjjgpkegihmhaaDoor
open Go.RowKit
set_option linter.unusedVariables false

theorem kindNat_inj : ∀ i : Fin 10, ∀ j : Fin 10, kindNat (i.val + 1) = kindNat (j.val + 1) → i = j := by decide
/-- The kind among the first k whose name this is, or 0. -/
def kindUpto (s : ByteArray) (k : Nat) : Int := (List.range k).foldl (fun a (j : Nat) => if kindNat (j + 1) = s then (j : Int) + 1 else a) 0
def kindOf (s : ByteArray) : Int := kindUpto s 10
theorem kindUpto_step (s : ByteArray) (k : Nat) : kindUpto s (k + 1) = if kindNat (k + 1) = s then (k : Int) + 1 else kindUpto s k := by
  unfold kindUpto
  rw [List.range_succ, List.foldl_append]
  rfl
theorem kindUpto_none {s : ByteArray} {k : Nat} (h : ∀ j, j < k → kindNat (j + 1) ≠ s) : kindUpto s k = 0 := by
  induction k with
  | zero => rfl
  | succ k ih => rw [kindUpto_step, if_neg (h k (by omega)), ih fun j hj => h j (by omega)]
theorem kindUpto_at {s : ByteArray} {k j : Nat} (hk : k ≤ 10) (hj : j < k) (h : kindNat (j + 1) = s) : kindUpto s k = (j : Int) + 1 := by
  induction k with
  | zero => omega
  | succ k ih =>
    rw [kindUpto_step]
    by_cases e : j = k
    · subst e; rw [if_pos h]
    · have hne : kindNat (k + 1) ≠ s := by
        intro h2
        have := kindNat_inj ⟨j, by omega⟩ ⟨k, by omega⟩ (h.trans h2.symm)
        exact e (by simpa using congrArg Fin.val this)
      rw [if_neg hne]
      exact ih (by omega) (by omega)
theorem kindUpto_range (s : ByteArray) (k : Nat) : 0 ≤ kindUpto s k ∧ kindUpto s k ≤ (k : Int) := by
  induction k with
  | zero => exact ⟨Int.le_refl _, Int.le_refl _⟩
  | succ k ih => rw [kindUpto_step]; split <;> omega
theorem kindOf_range (s : ByteArray) : 0 ≤ kindOf s ∧ kindOf s ≤ 10 := kindUpto_range s 10
theorem kindName_nat (k : Nat) : kindName ((k : Int) + 1) = kindNat (k + 1) := by
  unfold kindName
  congr 1
theorem kindOf_name {s : ByteArray} (h : kindOf s ≠ 0) : kindName (kindOf s) = s := by
  by_cases hx : ∃ j, j < 10 ∧ kindNat (j + 1) = s
  · obtain ⟨j, hj, e⟩ := hx
    have : kindOf s = (j : Int) + 1 := kindUpto_at (Nat.le_refl _) hj e
    rw [this, kindName_nat, e]
  · exact absurd (kindUpto_none fun j hj e => hx ⟨j, hj, e⟩) h

theorem kind_ne {j k : Int} (h1 : 1 ≤ j) (h2 : j < k) (h3 : k ≤ 10) : ((kindName j).toList == (kindName k).toList) = false := by
  refine str_ne ?_
  unfold kindName
  intro e
  have hd : ∀ a < 11, ∀ b < a, 1 ≤ b → (kindNat b).data ≠ (kindNat a).data := by decide
  exact hd k.toNat (by omega) j.toNat (by omega) (by omega) (by rw [e])
theorem kind_isName {k : Int} (h1 : 1 ≤ k) (h3 : k ≤ 10) : isName (kindName k).data.toList = true := by
  unfold kindName
  have hd : ∀ a < 11, 1 ≤ a → isName (kindNat a).data.toList = true := by decide
  exact hd k.toNat (by omega) (by omega)

end Go.Proofs.YtkjjgpkegihmhaaDoor
