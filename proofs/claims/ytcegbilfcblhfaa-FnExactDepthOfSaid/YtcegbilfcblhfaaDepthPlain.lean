/-
  DepthOf, in plain Lean.
-/
import Derived.Test.YtcegbilfcblhfaaValid
namespace Go.Proofs.Ytcegbilfcblhfaa
open Go.RowKit

/-- The greatest depth among some kids, given the depths of the rules ahead. -/
def depthPart (acc : List Int) (ks : List Int) : Int := ks.foldl (fun n k => max n (acc.getD k.toNat 0)) 0
def depthGo (acc : List Int) (l : List RuleD) : List Int := l.foldl (fun a r => a ++ [depthPart a r.kids + 1]) acc
def depths (l : List RuleD) : List Int := depthGo [] l
def depthL (l : List RuleD) (i : Int) : Int := if (hasL l i && validD l) = true then (depths l).getD i.toNat 0 else 0

theorem depthGo_pre (acc : List Int) (l : List RuleD) : ∃ t, depthGo acc l = acc ++ t ∧ t.length = l.length := by
  induction l generalizing acc with
  | nil => exact ⟨[], by simp [depthGo], rfl⟩
  | cons r l ih =>
    obtain ⟨t, ht, hl⟩ := ih (acc ++ [depthPart acc r.kids + 1])
    refine ⟨(depthPart acc r.kids + 1) :: t, ?_, by simp [hl]⟩
    show depthGo (acc ++ [depthPart acc r.kids + 1]) l = _
    rw [ht, List.append_assoc]; rfl
theorem depths_len (l : List RuleD) : (depths l).length = l.length := by
  obtain ⟨t, ht, hl⟩ := depthGo_pre [] l
  unfold depths
  rw [ht]; simpa using hl
theorem depths_take_len {l : List RuleD} {k : Nat} (h : k ≤ l.length) : (depths (l.take k)).length = k := by rw [depths_len, List.length_take]; omega
theorem depths_step {l : List RuleD} {k : Nat} (h : k < l.length) : depths (l.take (k + 1)) = depths (l.take k) ++ [depthPart (depths (l.take k)) l[k].kids + 1] := by
  unfold depths depthGo
  rw [List.take_succ_eq_append_getElem h, List.foldl_append]
  rfl
theorem depths_prefix {l : List RuleD} {k j : Nat} (h : k ≤ l.length) (hj : j < k) : (depths (l.take k)).getD j 0 = (depths l).getD j 0 := by
  have e : depths l = depthGo (depths (l.take k)) (l.drop k) := by
    unfold depths depthGo
    rw [← List.foldl_append, List.take_append_drop]
  obtain ⟨t, ht, _⟩ := depthGo_pre (depths (l.take k)) (l.drop k)
  rw [e, ht, List.getD_eq_getElem?_getD, List.getD_eq_getElem?_getD, List.getElem?_append_left (by rw [depths_take_len h]; exact hj)]
theorem depthPart_step {acc ks : List Int} {j : Nat} (h : j < ks.length) : depthPart acc (ks.take (j + 1)) = max (depthPart acc (ks.take j)) (acc.getD ks[j].toNat 0) := by
  unfold depthPart
  rw [List.take_succ_eq_append_getElem h, List.foldl_append]
  rfl
theorem getD_range {acc : List Int} {B : Int} (h : ∀ x ∈ acc, 0 ≤ x ∧ x ≤ B) (hB : 0 ≤ B) (j : Nat) : 0 ≤ acc.getD j 0 ∧ acc.getD j 0 ≤ B := by
  rw [List.getD_eq_getElem?_getD]
  rcases Nat.lt_or_ge j acc.length with hj | hj
  · rw [List.getElem?_eq_getElem hj]
    exact h _ (List.getElem_mem hj)
  · rw [List.getElem?_eq_none hj]
    exact ⟨Int.le_refl _, hB⟩
theorem depthPart_range {acc : List Int} {B : Int} (h : ∀ x ∈ acc, 0 ≤ x ∧ x ≤ B) (hB : 0 ≤ B) (ks : List Int) : 0 ≤ depthPart acc ks ∧ depthPart acc ks ≤ B := by
  unfold depthPart
  suffices ∀ n : Int, 0 ≤ n ∧ n ≤ B → 0 ≤ ks.foldl (fun n k => max n (acc.getD k.toNat 0)) n ∧ ks.foldl (fun n k => max n (acc.getD k.toNat 0)) n ≤ B from this 0 ⟨Int.le_refl _, hB⟩
  induction ks with
  | nil => intro n hn; exact hn
  | cons k ks ih =>
    intro n hn
    have := getD_range h hB k.toNat
    have h2 : 0 ≤ max n (acc.getD k.toNat 0) ∧ max n (acc.getD k.toNat 0) ≤ B := ⟨by omega, by omega⟩
    exact ih _ h2
theorem depths_range (l : List RuleD) : ∀ x ∈ depths l, 0 ≤ x ∧ x ≤ (l.length : Int) := by
  suffices ∀ k, k ≤ l.length → ∀ x ∈ depths (l.take k), 0 ≤ x ∧ x ≤ (k : Int) by simpa using this l.length (Nat.le_refl _)
  intro k
  induction k with
  | zero => intro _ x hx; simp [depths, depthGo] at hx
  | succ k ih =>
    intro hk x hx
    have hk' : k < l.length := by omega
    rw [depths_step hk', List.mem_append] at hx
    have ih' := ih (by omega)
    rcases hx with hx | hx
    · have := ih' x hx; omega
    · have e : x = depthPart (depths (l.take k)) l[k].kids + 1 := by simpa using hx
      have := depthPart_range ih' (by omega) l[k].kids
      omega
theorem depths_take_range {l : List RuleD} {k : Nat} (h : k ≤ l.length) : ∀ x ∈ depths (l.take k), 0 ≤ x ∧ x ≤ (k : Int) := by
  have := depths_range (l.take k)
  rw [List.length_take, Nat.min_eq_left h] at this
  exact this
theorem valid_len {l : List RuleD} (h : validD l = true) : 1 ≤ l.length ∧ l.length ≤ 24 := by
  unfold validD at h
  simp only [Bool.and_eq_true, inR, decide_eq_true_eq] at h
  omega
theorem valid_at {l : List RuleD} (h : validD l = true) {i : Nat} (hi : i < l.length) : validR l (i : Int) = true := by
  unfold validD rulesGood at h
  simp only [Bool.and_eq_true, List.all_eq_true] at h
  exact h.2 i (List.mem_range.2 hi)
theorem valid_kids {l : List RuleD} (h : validD l = true) {i : Nat} (hi : i < l.length) {j : Nat} (hj : j < l[i].kids.length) : ∃ n : Nat, l[i].kids[j] = (n : Int) ∧ n < i := by
  have h1 := valid_at h hi
  unfold validR at h1
  simp only [Bool.and_eq_true] at h1
  have h2 := h1.2.2.2.2.1
  unfold kidsUnder at h2
  rw [ruleAt_eq hi, List.all_eq_true] at h2
  have h3 := inR_iff.1 (h2 _ (List.getElem_mem hj))
  exact ⟨l[i].kids[j].toNat, by omega, by omega⟩

end Go.Proofs.Ytcegbilfcblhfaa
