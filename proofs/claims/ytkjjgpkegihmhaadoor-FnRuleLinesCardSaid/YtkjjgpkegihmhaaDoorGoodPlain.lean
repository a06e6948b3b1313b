/-
  What a valid rule's parts are bounded by. Plain Lean.
-/
import Derived.Test.YtkjjgpkegihmhaaDoorRoundPlain
namespace Go.Proofs.YtkjjgpkegihmhaaDoor
open Go.RowKit
set_option linter.unusedVariables false

theorem name_fit {s : ByteArray} (h : isName s.data.toList = true) : s.size ≤ 12 := by
  have := isName_len h
  rw [len_of] at this
  omega
theorem valid_fits {l : List RuleD} {i : Nat} (hl : l.length ≤ 1048576) (h : validR l (i : Int) = true) : RuleFits (ruleAt l (i : Int)) ∧ RuleSmall (ruleAt l (i : Int)) ∧ (ruleAt l (i : Int)).name.size ≤ 12 := by
  have hs := shape_of (validR_kind h)
  have hn := name_fit (validR_name h)
  have hk := validR_kids h
  obtain ⟨m, hm, hml⟩ := hasL_nat (validR_has h)
  have hlim := limitL_range l ((ruleAt l (i : Int)).kids.getD 0 0)
  have hkf : ∀ x ∈ (ruleAt l (i : Int)).kids, fits x := by
    intro x hx
    unfold kidsUnder at hk
    have := List.all_eq_true.1 hk x hx
    rw [inR_iff] at this
    unfold fits
    omega
  revert hs hn hkf hlim
  generalize ruleAt l (i : Int) = r
  intro hs hn hlim hkf
  have mk : (∀ x ∈ r.names, x.size ≤ 12) → (0 ≤ r.size ∧ r.size ≤ 64) → (∀ x ∈ r.tags, fits x) → r.bytes.length ≤ 16 → r.names.length ≤ 8 → r.tags.length ≤ 8 → r.kids.length ≤ 9 → RuleFits r ∧ RuleSmall r ∧ r.name.size ≤ 12 := by
    intro h1 h2 h3 h4 h5 h6 h7
    have hkd := shape_kind hs
    refine ⟨⟨by unfold maxLen; omega, fun x hx => by have := h1 x hx; unfold maxLen; omega, by unfold fits; omega, by unfold fits; omega, h3, hkf⟩, ⟨by omega, by omega, by omega, by omega⟩, hn⟩
  have n0 : ∀ {α : Type} {l : List α}, l = [] → l.length = 0 := fun h => by rw [h]; rfl
  have m0 : ∀ {α : Type} {l : List α} {p : α → Prop}, l = [] → ∀ x ∈ l, p x := fun h x hx => by rw [h] at hx; cases hx
  rcases hs with h | h | h | h | h | h | h | h | h | h
  · exact mk (m0 h.2.2.1) (by omega) (m0 h.2.2.2.1) (by rw [h.2.1]; simp) (by rw [h.2.2.1]; simp) (by rw [h.2.2.2.1]; simp) (by rw [h.2.2.2.2.1]; simp)
  · exact mk (m0 h.2.2.1) (by omega) (m0 h.2.2.2.1) (by omega) (by rw [h.2.2.1]; simp) (by rw [h.2.2.2.1]; simp) (by rw [h.2.2.2.2.1]; simp)
  · exact mk (m0 h.2.2.1) (by omega) (m0 h.2.2.2.1) (by rw [h.2.1]; simp) (by rw [h.2.2.1]; simp) (by rw [h.2.2.2.1]; simp) (by rw [h.2.2.2.2.1]; simp)
  · exact mk (m0 h.2.2.2.1) (by omega) (m0 h.2.2.2.2.1) (by rw [h.2.2.1]; simp) (by rw [h.2.2.2.1]; simp) (by rw [h.2.2.2.2.1]; simp) (by omega)
  · exact mk (m0 h.2.2.2.1) (by omega) (m0 h.2.2.2.2.1) (by rw [h.2.2.1]; simp) (by rw [h.2.2.2.1]; simp) (by rw [h.2.2.2.2.1]; simp) (by omega)
  · refine mk (fun x hx => ?_) (by omega) (m0 h.2.2.2.1) (by rw [h.2.2.1]; simp) (by omega) (by rw [h.2.2.2.1]; simp) (by omega)
    obtain ⟨j, hj, rfl⟩ := List.getElem_of_mem hx
    exact name_fit (namesGood_at h.2.2.2.2.2.2.2 hj).1
  · refine mk (m0 h.2.2.2.1) (by omega) (fun x hx => ?_) (by rw [h.2.2.1]; simp) (by rw [h.2.2.2.1]; simp) (by omega) (by omega)
    obtain ⟨j, hj, rfl⟩ := List.getElem_of_mem hx
    have := tagsGood_at h.2.2.2.2.2.2.2.1 hj
    unfold fits
    omega
  · exact mk (m0 h.2.2.2.1) (by omega) (m0 h.2.2.2.2.1) (by rw [h.2.2.1]; simp) (by rw [h.2.2.2.1]; simp) (by rw [h.2.2.2.2.1]; simp) (by omega)
  · exact mk (m0 h.2.2.2.1) (by omega) (m0 h.2.2.2.2.1) (by rw [h.2.2.1]; simp) (by rw [h.2.2.2.1]; simp) (by rw [h.2.2.2.2.1]; simp) (by omega)
  · exact mk (m0 h.2.2.1) (by omega) (m0 h.2.2.2.1) (by omega) (by rw [h.2.2.1]; simp) (by rw [h.2.2.2.1]; simp) (by rw [h.2.2.2.2.1]; simp)
theorem good_all {l : List RuleD} (hl : l.length ≤ 1048576) (h : rulesGood l = true) : ∀ r ∈ l, RuleFits r ∧ RuleSmall r ∧ r.name.size ≤ 12 := by
  intro r hr
  obtain ⟨i, hi, rfl⟩ := List.getElem_of_mem hr
  rw [← ruleAt_eq hi]
  exact valid_fits hl (rulesGood_at h hi)
theorem good_fits {l : List RuleD} (hl : l.length ≤ 1048576) (h : rulesGood l = true) : ∀ r ∈ l, RuleFits r := fun r hr => (good_all hl h r hr).1
theorem good_small {l : List RuleD} (hl : l.length ≤ 1048576) (h : rulesGood l = true) : ∀ r ∈ l, RuleSmall r := fun r hr => (good_all hl h r hr).2.1
theorem good_names {l : List RuleD} (hl : l.length ≤ 1048576) (h : rulesGood l = true) : NamesFit l := fun r hr => by have := (good_all hl h r hr).2.2; omega

end Go.Proofs.YtkjjgpkegihmhaaDoor
