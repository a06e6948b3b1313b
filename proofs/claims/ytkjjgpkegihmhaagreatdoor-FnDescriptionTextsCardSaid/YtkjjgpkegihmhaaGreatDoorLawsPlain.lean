/-
  What the laws of descriptions' texts say of lines and words, in plain Lean.
-/
import Derived.Test.YtkjjgpkegihmhaaGreatDoorDrawPlain
import Derived.Test.YtkjjgpkegihmhaaGreatDoorGH
import Derived.Test.YtkjjgpkegihmhaaGreatDoorGF
namespace Go.Proofs.YtkjjgpkegihmhaaGreatDoor
open Go.RowKit
set_option linter.unusedVariables false

theorem kidB_small {l : List RuleD} (h : rulesGood l = true) (hl : l.length ≤ 1048576) (i k : Int) : (kidB l i k).length ≤ 12 := by
  unfold kidB
  rw [len_of]
  unfold kidL
  split
  · rename_i hk
    obtain ⟨m, hm, hml⟩ := hasL_nat hk.2.2.2
    rw [hm]
    exact (good_all hl h _ (ruleAt_mem hml)).2.2
  · exact Nat.zero_le _
theorem words_small {l : List RuleD} (h : rulesGood l = true) (hl : l.length ≤ 1048576) {i : Nat} (hi : i < l.length) :
    (∀ p ∈ wordsR l (i : Int) (ruleAt l (i : Int)), p.length ≤ 36) ∧ (wordsR l (i : Int) (ruleAt l (i : Int))).length ≤ 11 := by
  have hv := rulesGood_at h hi
  have h1 := isName_len (validR_name hv)
  have hs := shape_of (validR_kind hv)
  have h2 := kindName_len (ruleAt l (i : Int)).kind
  have hlen := (wordsR_fit hv (good_names hl h)).2
  refine ⟨?_, hlen⟩
  have hlim := limitL_range l ((ruleAt l (i : Int)).kids.getD 0 0)
  have hkid : ∀ k, (kidB l (i : Int) k).length ≤ 12 := fun k => kidB_small h hl _ k
  have hnum : ∀ n : Int, 0 ≤ n → n ≤ 4294967295 → (fmtInt n).length ≤ 20 := fun n h0 h3 => fmtInt_len ⟨by omega, by omega⟩
  revert h1 hs h2 hlim
  generalize ruleAt l (i : Int) = r
  intro h1 hs h2 hlim
  have kidsCase : (r.kind = 4 ∨ r.kind = 5 ∨ r.kind = 8 ∨ r.kind = 9) → ∀ p ∈ argsL l (i : Int) r, p.length ≤ 36 := by
    intro hk p hp
    rw [args_k hk] at hp
    obtain ⟨j, hj, rfl⟩ := List.mem_map.1 hp
    have := hkid (j : Int)
    omega
  have key : ∀ p ∈ argsL l (i : Int) r, p.length ≤ 36 := by
    rcases hs with h | h | h | h | h | h | h | h | h | h
    · rw [args_1 h.1]
      intro p hp
      rw [List.mem_cons] at hp
      rcases hp with rfl | hp
      · have := hnum r.size (by omega) (by omega); omega
      · split at hp
        · have : p = littleB := by simpa using hp
          rw [this]; decide
        · cases hp
    · rw [args_2 (.inl h.1)]
      intro p hp
      have : p = hexL r.bytes := by simpa using hp
      rw [this, hexL_len]; omega
    · rw [args_3 h.1]
      intro p hp
      have : p = fmtInt r.size := by simpa using hp
      have h3 := hnum r.size (by omega) (by omega)
      rw [this]; omega
    · exact kidsCase (by omega)
    · exact kidsCase (by omega)
    · rw [args_6 h.1]
      intro p hp
      obtain ⟨j, hj, rfl⟩ := List.mem_map.1 hp
      have hj' : j < r.names.length := by have := List.mem_range.1 hj; omega
      have h3 := isName_len (namesGood_at h.2.2.2.2.2.2.2 hj').1
      have := hkid (j : Int)
      unfold seqW
      rw [getD_at hj', List.length_append, List.length_cons]
      omega
    · rw [args_7 h.1]
      intro p hp
      rw [List.mem_cons] at hp
      rcases hp with rfl | hp
      · have := hkid 0; omega
      · obtain ⟨j, hj, rfl⟩ := List.mem_map.1 hp
        have hj' := List.mem_range.1 hj
        have h3 := tagsGood_at h.2.2.2.2.2.2.2.1 hj'
        have h4 := hnum _ h3.1 (by omega)
        have := hkid ((j : Int) + 1)
        unfold choW
        rw [getD_at hj', List.length_append, List.length_cons]
        omega
    · exact kidsCase (by omega)
    · exact kidsCase (by omega)
    · rw [args_2 (.inr h.1)]
      intro p hp
      have : p = hexL r.bytes := by simpa using hp
      rw [this, hexL_len]; omega
  unfold wordsR
  intro p hp
  rw [List.mem_cons, List.mem_cons] at hp
  rcases hp with rfl | rfl | hp
  · omega
  · omega
  · exact key p hp
theorem lineL_small {l : List RuleD} (h : rulesGood l = true) (hl : l.length ≤ 1048576) {i : Nat} (hi : i < l.length) : (lineL l (i : Int)).length ≤ 410 := by
  obtain ⟨h1, h2⟩ := words_small h hl hi
  rw [lineL_good h hi]
  have h3 := lens_le h1
  have h4 := join_len_le (wordsR l (i : Int) (ruleAt l (i : Int))) [32]
  simp only [List.length_cons, List.length_nil] at h4
  omega
theorem linesT_small {l : List RuleD} (h : rulesGood l = true) (hl : l.length ≤ 1048576) (k : Nat) (hk : k ≤ l.length) : (linesT l k).length ≤ k * 411 := by
  induction k with
  | zero => simp [linesT]
  | succ k ih =>
    have h1 := lineL_small h hl (show k < l.length by omega)
    have h2 := ih (by omega)
    rw [linesT_step, List.length_append, List.length_append]
    simp only [List.length_cons, List.length_nil]
    omega
theorem descT_small {l : List RuleD} (hv : validD l = true) : (descT l).length ≤ 10000 := by
  obtain ⟨hg, h1, h24⟩ := validD_good hv
  unfold descT
  rw [if_pos hv]
  have := linesT_small hg (by omega) l.length (Nat.le_refl _)
  omega
theorem normT_small (t : List UInt8) : (normT t).length ≤ 10000 := by
  unfold normT
  split
  · rename_i h
    exact descT_small (descP_valid h)
  · simp

/-! What is drawn. -/
theorem Drawn.valid {l : List RuleD} (h : Drawn l) (h1 : 1 ≤ l.length) (h6 : l.length ≤ 6) : validD l = true := validD_of h.good h1 (by omega)
end Go.Proofs.YtkjjgpkegihmhaaGreatDoor