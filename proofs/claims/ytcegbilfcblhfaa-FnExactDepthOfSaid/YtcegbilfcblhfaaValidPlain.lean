/-
  IsValidRule, in plain Lean.
-/
import Derived.Test.YtcegbilfcblhfaaKinds
import Derived.Test.YtcegbilfcblhfaaToDesc
namespace Go.Proofs.Ytcegbilfcblhfaa
open Go.RowKit

def nameNew (l : List RuleD) (m : Nat) : Bool := (l.take m).all fun o => decide (o.name ≠ (ruleAt l m).name)
def kidsUnder (r : RuleD) (m : Int) : Bool := r.kids.all fun k => inR k 0 (m - 1)
def validR (l : List RuleD) (i : Int) : Bool := hasL l i && (isName (ruleAt l i).name.data.toList && (littleOk (ruleAt l i) && (nameNew l i.toNat && (kidsUnder (ruleAt l i) i && kindL l (ruleAt l i)))))
theorem nameNew_all {l : List RuleD} {m : Nat} {r : RuleD} (hr : r = ruleAt l m) (h : ∀ j (h : j < l.length), j < m → l[j].name ≠ r.name) : nameNew l m = true := by
  unfold nameNew
  rw [List.all_eq_true]
  intro o ho
  obtain ⟨j, hj, rfl⟩ := List.getElem_of_mem ho
  rw [List.length_take] at hj
  rw [List.getElem_take, ← hr]
  simpa using h j (by omega) (by omega)
theorem nameNew_bad {l : List RuleD} {m k : Nat} {r : RuleD} (hr : r = ruleAt l m) (hk : k < l.length) (hkm : k < m) (h : l[k].name = r.name) : nameNew l m = false := by
  unfold nameNew
  rw [List.all_eq_false]
  refine ⟨l[k], ?_, by rw [← hr]; simp [h]⟩
  rw [List.mem_take_iff_getElem]
  exact ⟨k, by omega, rfl⟩
theorem kidsUnder_all {r : RuleD} {m : Int} (h : ∀ j (h : j < r.kids.length), inR r.kids[j] 0 (m - 1) = true) : kidsUnder r m = true := by
  unfold kidsUnder
  rw [List.all_eq_true]
  intro o ho
  obtain ⟨j, hj, rfl⟩ := List.getElem_of_mem ho
  exact h j hj
theorem kidsUnder_bad {r : RuleD} {m : Int} {k : Nat} (hk : k < r.kids.length) (h : inR r.kids[k] 0 (m - 1) = false) : kidsUnder r m = false := by
  unfold kidsUnder
  rw [List.all_eq_false]
  exact ⟨_, List.getElem_mem hk, by simp [h]⟩
theorem hasL_nat {l : List RuleD} {i : Int} (h : hasL l i = true) : ∃ m : Nat, i = m ∧ m < l.length := by
  simp only [hasL, Bool.and_eq_true, decide_eq_true_eq] at h
  exact ⟨i.toNat, by omega, by omega⟩
theorem ruleAt_mem {l : List RuleD} {m : Nat} (h : m < l.length) : ruleAt l m ∈ l := by
  rw [ruleAt_eq h]; exact List.getElem_mem h
theorem kids_at {w : World} {A : Option Addr} {n c : Nat} {l : List Int} (h : Rd w (.slice A n c) 1 l.length (cI l)) (hp : 0 < l.length) :
    ∃ b off, A = some ⟨b, off, none⟩ ∧ ∀ j (h : j < l.length), w.cell? ⟨b, off + j, none⟩ = some (.int .i64 l[j]) := by
  obtain ⟨_, A', c', e, _, _, hc⟩ := h
  injection e with e _ _
  obtain ⟨b, off, hA, hcell⟩ := hc (by rw [cI_len]; omega)
  exact ⟨b, off, by rw [e, hA], fun j hj => hcell j _ (cI_at hj)⟩

end Go.Proofs.Ytcegbilfcblhfaa
