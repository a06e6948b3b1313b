/-
  The rules that a rule uses, in plain Lean.
-/
import Derived.Test.YtabdcngkdgadfaaGD
namespace Go.Proofs.Ytabdcngkdgadfaa
open Go.RowKit
set_option linter.unusedVariables false

def markKids (B : List Bool) (ks : List Int) : List Bool := ks.foldl (fun B k => B.set k.toNat true) B
def usedGo (l : List RuleD) : Nat → List Bool → List Bool
  | 0, B => B
  | m + 1, B => usedGo l m (if B.getD m false = true then markKids B (ruleAt l (m : Int)).kids else B)
def usedB (l : List RuleD) (root : Nat) : List Bool := usedGo l (root + 1) ((List.replicate 24 false).set root true)

theorem markKids_len (ks : List Int) : ∀ B, (markKids B ks).length = B.length := by
  induction ks with
  | nil => intro B; rfl
  | cons k t ih => intro B; show (markKids (B.set k.toNat true) t).length = _; rw [ih]; simp
theorem markKids_step {B : List Bool} {ks : List Int} {q : Nat} (h : q < ks.length) : markKids B (ks.take (q + 1)) = (markKids B (ks.take q)).set ks[q].toNat true := by
  unfold markKids
  rw [List.take_succ_eq_append_getElem h, List.foldl_append]; rfl
theorem getD_set {B : List Bool} {k : Nat} {x : Bool} (j : Nat) (hk : k < B.length) : (B.set k x).getD j false = if j = k then x else B.getD j false := by
  rw [List.getD_eq_getElem?_getD, List.getD_eq_getElem?_getD]
  by_cases h : j = k
  · subst h; rw [List.getElem?_set_self hk, if_pos rfl]; rfl
  · rw [List.getElem?_set_ne (by omega), if_neg h]
theorem markKids_mono (ks : List Int) : ∀ (B : List Bool) (j : Nat), (∀ k ∈ ks, k.toNat < B.length) → B.getD j false = true → (markKids B ks).getD j false = true := by
  induction ks with
  | nil => intro B j _ h; exact h
  | cons k t ih =>
    intro B j hk h
    refine ih (B.set k.toNat true) j (fun x hx => by rw [List.length_set]; exact hk x (List.mem_cons_of_mem _ hx)) ?_
    rw [getD_set j (hk k List.mem_cons_self)]
    split
    · rfl
    · exact h
theorem markKids_mem (ks : List Int) : ∀ (B : List Bool), (∀ k ∈ ks, k.toNat < B.length) → ∀ k ∈ ks, (markKids B ks).getD k.toNat false = true := by
  induction ks with
  | nil => intro B _ k h; cases h
  | cons x t ih =>
    intro B hk k h
    have hk2 : ∀ y ∈ t, y.toNat < (B.set x.toNat true).length := fun y hy => by rw [List.length_set]; exact hk y (List.mem_cons_of_mem _ hy)
    rcases List.mem_cons.1 h with rfl | h
    · refine markKids_mono t (B.set k.toNat true) _ hk2 ?_
      rw [getD_set _ (hk k List.mem_cons_self), if_pos rfl]
    · exact ih (B.set x.toNat true) hk2 k h
theorem markKids_far (ks : List Int) (m : Nat) : ∀ (B : List Bool), (∀ k ∈ ks, k.toNat < m ∧ k.toNat < B.length) → ∀ j, m ≤ j → (markKids B ks).getD j false = B.getD j false := by
  induction ks with
  | nil => intro B _ j _; rfl
  | cons x t ih =>
    intro B hk j hj
    have hx := hk x List.mem_cons_self
    show (markKids (B.set x.toNat true) t).getD j false = _
    rw [ih (B.set x.toNat true) (fun y hy => by rw [List.length_set]; exact hk y (List.mem_cons_of_mem _ hy)) j hj, getD_set j hx.2, if_neg (by omega)]
section
variable {l : List RuleD}
/-- Kids of rule i lie ahead of it. -/
def KidsAhead (l : List RuleD) (m : Nat) : Prop := ∀ i, i < m → ∀ k ∈ (ruleAt l (i : Int)).kids, 0 ≤ k ∧ k.toNat < i
theorem usedGo_len : ∀ m B, (usedGo l m B).length = B.length := by
  intro m
  induction m with
  | zero => intro B; rfl
  | succ m ih =>
    intro B
    show (usedGo l m _).length = _
    rw [ih]
    split
    · exact markKids_len _ _
    · rfl
theorem usedGo_facts : ∀ m, KidsAhead l m → ∀ B : List Bool, m ≤ B.length →
    (∀ j, B.getD j false = true → (usedGo l m B).getD j false = true) ∧ (∀ j, m ≤ j → (usedGo l m B).getD j false = B.getD j false) ∧
    (∀ i, i < m → (usedGo l m B).getD i false = true → ∀ k ∈ (ruleAt l (i : Int)).kids, (usedGo l m B).getD k.toNat false = true) := by
  intro m
  induction m with
  | zero => intro _ B _; exact ⟨fun j h => h, fun j _ => rfl, fun i h => absurd h (Nat.not_lt_zero _)⟩
  | succ m ih =>
    intro ha B hB
    have ha' : KidsAhead l m := fun i hi => ha i (by omega)
    have hkm := ha m (by omega)
    have hkB : ∀ k ∈ (ruleAt l (m : Int)).kids, k.toNat < B.length := fun k hk => by have := hkm k hk; omega
    have hlt : ∀ k ∈ (ruleAt l (m : Int)).kids, k.toNat < m ∧ k.toNat < B.length := fun k hk => ⟨(hkm k hk).2, hkB k hk⟩
    obtain ⟨B', hB'⟩ : ∃ B', B' = (if B.getD m false = true then markKids B (ruleAt l (m : Int)).kids else B) := ⟨_, rfl⟩
    have e : usedGo l (m + 1) B = usedGo l m B' := by rw [hB']; rfl
    have hl' : B'.length = B.length := by
      rw [hB']; split
      · exact markKids_len _ _
      · rfl
    have hm' : ∀ j, B.getD j false = true → B'.getD j false = true := by
      intro j hj
      rw [hB']; split
      · exact markKids_mono _ _ _ hkB hj
      · exact hj
    have hf' : ∀ j, m ≤ j → B'.getD j false = B.getD j false := by
      intro j hj
      rw [hB']; split
      · exact markKids_far _ m _ hlt j hj
      · rfl
    obtain ⟨i1, i2, i3⟩ := ih ha' B' (by omega)
    rw [e]
    refine ⟨fun j hj => i1 j (hm' j hj), fun j hj => by rw [i2 j (by omega), hf' j (by omega)], fun i hi hu k hk => ?_⟩
    by_cases him : i < m
    · exact i3 i him hu k hk
    · obtain rfl : i = m := by omega
      rw [i2 i (Nat.le_refl _), hf' i (Nat.le_refl _)] at hu
      refine i1 _ ?_
      rw [hB', if_pos hu]
      exact markKids_mem _ _ hkB k hk
theorem kidsAhead_of (h : validD l = true) : KidsAhead l l.length := by
  intro i hi k hk
  rw [ruleAt_eq hi] at hk
  obtain ⟨j, hj, rfl⟩ := List.getElem_of_mem hk
  obtain ⟨n, hn, hlt⟩ := valid_kids h hi hj
  rw [hn]
  omega
theorem usedB_len (root : Nat) : (usedB l root).length = 24 := by unfold usedB; rw [usedGo_len]; simp
theorem usedB_root (h : validD l = true) {root : Nat} (hr : root < l.length) : (usedB l root).getD root false = true := by
  have h24 := (valid_len h).2
  refine (usedGo_facts (l := l) (root + 1) (fun i hi => kidsAhead_of h i (by omega)) ((List.replicate 24 false).set root true) (by simp; omega)).1 root ?_
  rw [getD_set _ (by simp; omega), if_pos rfl]
theorem usedB_closed (h : validD l = true) {root : Nat} (hr : root < l.length) {i : Nat} (hi : i ≤ root) (hu : (usedB l root).getD i false = true) : ∀ k ∈ (ruleAt l (i : Int)).kids, (usedB l root).getD k.toNat false = true := by
  have h24 := (valid_len h).2
  exact (usedGo_facts (l := l) (root + 1) (fun i hi => kidsAhead_of h i (by omega)) ((List.replicate 24 false).set root true) (by simp; omega)).2.2 i (by omega) hu
end
/-- The places of marks that are b. -/
def pickL (B : List Bool) (b : Bool) (n : Nat) : List Int := ((List.range n).filter fun i => B.getD i false == b).map fun i : Nat => (i : Int)
theorem pickL_zero (B : List Bool) (b : Bool) : pickL B b 0 = [] := rfl
theorem pickL_yes {B : List Bool} {b : Bool} {n : Nat} (h : B.getD n false = b) : pickL B b (n + 1) = pickL B b n ++ [(n : Int)] := by
  unfold pickL
  rw [List.range_succ, List.filter_append, List.map_append]
  simp only [List.filter_cons, List.filter_nil]
  rw [if_pos (by simpa using h)]
  rfl
theorem pickL_no {B : List Bool} {b : Bool} {n : Nat} (h : B.getD n false ≠ b) : pickL B b (n + 1) = pickL B b n := by
  unfold pickL
  rw [List.range_succ, List.filter_append, List.map_append]
  simp only [List.filter_cons, List.filter_nil]
  rw [if_neg (by simpa using h)]
  simp
theorem pickL_len (B : List Bool) (n : Nat) : (pickL B true n).length + (pickL B false n).length = n := by
  induction n with
  | zero => rfl
  | succ n ih =>
    cases h : B.getD n false with
    | true => rw [pickL_yes h, pickL_no (b := false) (by rw [h]; decide), List.length_append]; simp; omega
    | false => rw [pickL_yes h, pickL_no (b := true) (by rw [h]; decide), List.length_append]; simp; omega
theorem pickL_le (B : List Bool) (b : Bool) (n : Nat) : (pickL B b n).length ≤ n := by
  have := pickL_len B n
  cases b <;> omega
theorem pickL_mem {B : List Bool} {b : Bool} {n : Nat} {x : Int} : x ∈ pickL B b n ↔ 0 ≤ x ∧ x < n ∧ B.getD x.toNat false = b := by
  unfold pickL
  simp only [List.mem_map, List.mem_filter, List.mem_range, beq_iff_eq]
  constructor
  · rintro ⟨i, ⟨h1, h2⟩, rfl⟩
    exact ⟨by omega, by omega, by rw [Int.toNat_natCast]; exact h2⟩
  · rintro ⟨h0, h1, h2⟩
    exact ⟨x.toNat, ⟨by omega, h2⟩, by omega⟩
/-- The rules that are used, and those that are not. -/
def usedL (l : List RuleD) (root : Nat) : List Int := pickL (usedB l root) true l.length
def restL (l : List RuleD) (root : Nat) : List Int := pickL (usedB l root) false l.length
/-- No used rule is terminated. -/
def notTen (l : List RuleD) (us : List Int) : Bool := us.all fun u => decide ((ruleAt l u).kind ≠ 10)
theorem notTen_step {l : List RuleD} {us : List Int} {q : Nat} (h : q < us.length) : notTen l (us.take (q + 1)) = (notTen l (us.take q) && decide ((ruleAt l us[q]).kind ≠ 10)) := by
  unfold notTen
  rw [List.take_succ_eq_append_getElem h, List.all_append]
  simp
theorem notTen_bad {l : List RuleD} {us : List Int} {q : Nat} (h : q < us.length) (e : (ruleAt l us[q]).kind = 10) : notTen l us = false := by
  unfold notTen
  rw [List.all_eq_false]
  exact ⟨_, List.getElem_mem h, by simp [e]⟩

end Go.Proofs.Ytabdcngkdgadfaa
