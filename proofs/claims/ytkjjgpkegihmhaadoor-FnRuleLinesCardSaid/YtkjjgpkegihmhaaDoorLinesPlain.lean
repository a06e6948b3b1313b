/-
  The lines of a description, the text of all, the longest line: plain Lean.
-/
import Derived.Test.YtkjjgpkegihmhaaDoorGD
namespace Go.Proofs.YtkjjgpkegihmhaaDoor
open Go.RowKit
set_option linter.unusedVariables false

def linesT (l : List RuleD) (k : Nat) : List UInt8 := (List.range k).flatMap fun j : Nat => lineL l (j : Int) ++ [10]
def descT (l : List RuleD) : List UInt8 := if validD l = true then linesT l l.length else []
def longL (l : List RuleD) (k : Nat) : Int := (List.range k).foldl (fun n (j : Nat) => max n ((lineL l (j : Int)).length : Int)) 0
theorem linesT_step (l : List RuleD) (k : Nat) : linesT l (k + 1) = linesT l k ++ (lineL l (k : Int) ++ [10]) := by
  unfold linesT
  rw [List.range_succ, List.flatMap_append]
  simp
theorem longL_step (l : List RuleD) (k : Nat) : longL l (k + 1) = max (longL l k) ((lineL l (k : Int)).length : Int) := by
  unfold longL
  rw [List.range_succ, List.foldl_append]
  rfl
theorem linesT_len {l : List RuleD} (hn : NamesFit l) (k : Nat) : (linesT l k).length ≤ k * 12000001 := by
  induction k with
  | zero => simp [linesT]
  | succ k ih =>
    have := lineL_len hn (k : Int)
    rw [linesT_step, List.length_append, List.length_append]
    simp only [List.length_cons, List.length_nil]
    omega
theorem longL_range {l : List RuleD} (hn : NamesFit l) (k : Nat) : 0 ≤ longL l k ∧ longL l k ≤ 12000000 := by
  induction k with
  | zero => simp [longL]
  | succ k ih =>
    have := lineL_len hn (k : Int)
    rw [longL_step]
    omega

end Go.Proofs.YtkjjgpkegihmhaaDoor
