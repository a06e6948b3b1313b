/-
  What l6Args leaves: a rule of the call's own, with a yes or no; where it says no the rule is whatever.
-/
import Derived.Test.YtkjjgpkegihmhaaGreatDoorGE
import Derived.Test.YtkjjgpkegihmhaaGreatDoorFieldsI
import Derived.Test.YtkjjgpkegihmhaaGreatDoorSpecKids
import Derived.Test.YtkjjgpkegihmhaaGreatDoorGF
namespace Go.Proofs.YtkjjgpkegihmhaaGreatDoor
open Go.RowKit
set_option linter.unusedVariables false

def GoodX (m : Nat) (x : RuleD) : Prop := Fit x ∧ x.bytes.length ≤ 1048576 ∧ x.names.length ≤ m ∧ x.tags.length ≤ m ∧ x.kids.length ≤ m
def MadeA (m : Nat) (o : Option RuleD) (w : World) (e : Ending) (w' : World) : Prop :=
  ∃ x vb vn vt vk, e = .returned (.tuple #[.agg (rCells x vb vn vt vk), .bool o.isSome]) ∧ Rows4 w' w.heap.size x vb vn vt vk ∧ Below w.heap.size w w' ∧ (∀ y, o = some y → x = y ∧ GoodX m x)
theorem MadeA.mk_ {m : Nat} {o : Option RuleD} {x : RuleD} {b : Bool} {w w' : World} {vb vn vt vk : Value} (hb : b = o.isSome) (h4 : Rows4 w' w.heap.size x vb vn vt vk) (hbe : Below w.heap.size w w') (hx : ∀ y, o = some y → x = y ∧ GoodX m x) :
    MadeA m o w (.returned (.tuple #[.agg (rCells x vb vn vt vk), .bool b])) w' := by
  subst hb; exact ⟨x, vb, vn, vt, vk, rfl, h4, hbe, hx⟩
theorem parseB_le (x : List UInt8) : (parseB x).length ≤ x.length := by
  by_cases h : parseBOk x = true
  · have := parseB_len h; omega
  · unfold parseBOk at h
    unfold parseB
    cases hp : parseHex x with
    | none => simp
    | some t => rw [hp] at h; simp at h
theorem own_later {w w' : World} {lo : Nat} {e e' : TypeId} {size size' n n' : Nat} {v v' : Value} {zs zs' : List Value} (h : w.ownsRow lo e size v n zs) (h' : w'.ownsRow w.heap.size e' size' v' n' zs') : v'.ownBlock = none ∨ v'.ownBlock ≠ v.ownBlock := by
  cases hv : v'.ownBlock with
  | none => exact .inl rfl
  | some g =>
    refine .inr fun e => ?_
    have h1 := (h'.lt g hv).1
    have h2 := (h.lt g e.symm).2
    omega
end Go.Proofs.YtkjjgpkegihmhaaGreatDoor