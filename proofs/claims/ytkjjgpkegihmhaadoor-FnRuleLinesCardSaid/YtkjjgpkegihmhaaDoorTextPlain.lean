/-
  A description out of its text, in plain Lean; the text of a description, read back. No function of the program in sight.
-/
import Derived.Test.YtkjjgpkegihmhaaDoorRoundPlain
import Derived.Test.YtkjjgpkegihmhaaDoorLinesPlain
import Derived.Test.YtkjjgpkegihmhaaDoorWords
namespace Go.Proofs.YtkjjgpkegihmhaaDoor
open Go.RowKit
set_option linter.unusedVariables false

/-- One more rule, out of its line. -/
def addL (l : List RuleD) (s : List UInt8) : Option (List RuleD) := (parseI l s).bind fun r => if l.length < 24 then some (l ++ [r]) else none
def descGo : List RuleD → Nat → List (List UInt8) → List RuleD × Nat
  | l, i, [] => if l = [] then ([], i + 1) else (l, 0)
  | l, i, s :: ss => if isCommentL s = true then descGo l (i + 1) ss else match addL l s with | some l' => descGo l' (i + 1) ss | none => ([], i + 1)
/-- The description of a text, and the number of the first line that is none (0: there is no such line). -/
def descP (t : List UInt8) : List RuleD × Nat := descGo [] 0 (linesL t)
def normT (t : List UInt8) : List UInt8 := if (descP t).2 = 0 then descT (descP t).1 else []

theorem partP_name {l : List RuleD} {r r' : RuleD} {s : ByteArray} (h : partP l r s = some r') : r'.name = r.name := by
  unfold partP at h
  split at h
  · split at h
    · injection h with h; subst h; rfl
    · split at h
      · injection h with h; subst h; rfl
      · cases h
  · cases h
theorem partsP_name {l : List RuleD} {ws : List ByteArray} : ∀ {r r' : RuleD}, partsP l r ws = some r' → r'.name = r.name := by
  induction ws with
  | nil => intro r r' h; injection h with h; subst h; rfl
  | cons s ws ih =>
    intro r r' h
    simp only [partsP] at h
    obtain ⟨x, hx, h⟩ := Option.bind_eq_some_iff.1 h
    rw [ih h, partP_name hx]
theorem kidsP_name {l : List RuleD} {ws : List ByteArray} {r r' : RuleD} (h : kidsP l r ws = some r') : r'.name = r.name := by
  unfold kidsP at h
  obtain ⟨x, hx, rfl⟩ := Option.map_eq_some_iff.1 h
  rfl
theorem fieldsP_name {l : List RuleD} {ws : List ByteArray} {r r' : RuleD} (h : fieldsP l r ws = some r') : r'.name = r.name := by
  unfold fieldsP at h
  split at h
  · cases ws with
    | nil => cases h
    | cons x t =>
      simp only [numP] at h
      split at h
      · injection h with h; subst h; rfl
      · cases h
  · split at h
    · cases ws with
      | nil => cases h
      | cons x t =>
        simp only [hexP] at h
        split at h
        · injection h with h; subst h; rfl
        · cases h
    · split at h
      · exact kidsP_name h
      · split at h
        · exact partsP_name h
        · split at h
          · unfold choiceP at h
            split at h
            · cases h
            · obtain ⟨x, hx, h⟩ := Option.bind_eq_some_iff.1 h
              rw [partsP_name h, kidsP_name hx]
          · cases h
/-- What is parsed is a valid rule, of that name. -/
theorem parse_sound {l : List RuleD} {s : List UInt8} {r : RuleD} (h : parseI l s = some r) : validR (l ++ [r]) (l.length : Int) = true ∧ r.name = mkS ((wordsL s).getD 0 []) := by
  unfold parseI at h
  split at h
  · cases h
  · rename_i h2
    obtain ⟨q, hq, hl⟩ := Option.bind_eq_some_iff.1 h
    unfold lineOk at hl
    split at hl
    · rename_i hl'
      injection hl with hl
      subst hl
      have hne : wordsL s ≠ [] := by intro e; rw [e] at h2; simp at h2
      refine ⟨(line_of hne (fun p hp => (wordsL_mem hp).2.2) hl').1, ?_⟩
      rw [fieldsP_name hq]; rfl
    · cases hl
theorem addL_some {l l' : List RuleD} {s : List UInt8} (h : addL l s = some l') : ∃ r, parseI l s = some r ∧ l.length < 24 ∧ l' = l ++ [r] := by
  unfold addL at h
  obtain ⟨r, hr, h⟩ := Option.bind_eq_some_iff.1 h
  split at h
  · rename_i hlt
    injection h with h
    exact ⟨r, hr, hlt, h.symm⟩
  · cases h
theorem addL_good {l l' : List RuleD} {s : List UInt8} (hg : rulesGood l = true) (h : addL l s = some l') : rulesGood l' = true ∧ l'.length ≤ 24 := by
  obtain ⟨r, hr, hlt, rfl⟩ := addL_some h
  exact ⟨rulesGood_push hg (parse_sound hr).1, by simp; omega⟩
theorem descGo_good : ∀ (ss : List (List UInt8)) (l : List RuleD) (i : Nat), rulesGood l = true → l.length ≤ 24 → (descGo l i ss).2 = 0 → rulesGood (descGo l i ss).1 = true ∧ 1 ≤ (descGo l i ss).1.length ∧ (descGo l i ss).1.length ≤ 24 := by
  intro ss
  induction ss with
  | nil =>
    intro l i hg hl h0
    unfold descGo at h0 ⊢
    by_cases hn : l = []
    · rw [if_pos hn] at h0; exact absurd h0 (by simp)
    · rw [if_neg hn]
      exact ⟨hg, by have := List.length_pos_iff.2 hn; show 1 ≤ l.length; omega, hl⟩
  | cons s ss ih =>
    intro l i hg hl h0
    unfold descGo at h0 ⊢
    by_cases hc : isCommentL s = true
    · rw [if_pos hc] at h0 ⊢
      exact ih l (i + 1) hg hl h0
    · rw [if_neg hc] at h0 ⊢
      cases ha : addL l s with
      | none => rw [ha] at h0; exact absurd h0 (by simp)
      | some l' =>
        rw [ha] at h0
        obtain ⟨h1, h2⟩ := addL_good hg ha
        exact ih l' (i + 1) h1 h2 h0
theorem rulesGood_nil : rulesGood [] = true := rulesGood_all fun j h => absurd h (by simp)
theorem validD_of {l : List RuleD} (h : rulesGood l = true) (h1 : 1 ≤ l.length) (h2 : l.length ≤ 24) : validD l = true := by
  unfold validD
  rw [h, Bool.and_true]
  exact inR_iff.2 ⟨by omega, by omega⟩
theorem validD_good {l : List RuleD} (h : validD l = true) : rulesGood l = true ∧ 1 ≤ l.length ∧ l.length ≤ 24 := by
  unfold validD at h
  rw [Bool.and_eq_true, inR_iff] at h
  exact ⟨h.2, by omega, by omega⟩
theorem descP_valid {t : List UInt8} (h : (descP t).2 = 0) : validD (descP t).1 = true := by
  obtain ⟨h1, h2, h3⟩ := descGo_good (linesL t) [] 0 rulesGood_nil (by simp) h
  exact validD_of h1 h2 h3

/-! The lines of the text. -/
theorem splitL_text {c : UInt8} : ∀ (ls : List (List UInt8)), (∀ p ∈ ls, c ∉ p) → splitL (ls.flatMap fun p => p ++ [c]) c = ls ++ [[]] := by
  intro ls
  induction ls with
  | nil => intro _; rfl
  | cons x t ih =>
    intro h
    rw [List.flatMap_cons, List.append_assoc]
    show splitL (x ++ (c :: t.flatMap fun p => p ++ [c])) c = _
    unfold splitL
    rw [splitA_app c _ x [] (h x (by simp))]
    have := ih fun p hp => h p (by simp [hp])
    unfold splitL at this
    rw [this]; rfl
theorem linesL_text {ls : List (List UInt8)} (h : ∀ p ∈ ls, (10 : UInt8) ∉ p) : linesL (ls.flatMap fun p => p ++ [10]) = ls := by
  unfold linesL
  rw [splitL_text ls h]
  simp
def allLines (l : List RuleD) : List (List UInt8) := (List.range l.length).map fun j : Nat => lineL l (j : Int)
theorem linesT_all (l : List RuleD) : linesT l l.length = (allLines l).flatMap fun p => p ++ [10] := by
  unfold linesT allLines
  rw [List.flatMap_map]
theorem join_mem {ws : List (List UInt8)} {c : UInt8} : ∀ x ∈ Lib.join ws [c], x = c ∨ ∃ p ∈ ws, x ∈ p := by
  induction ws with
  | nil => intro x hx; simp [Lib.join_nil] at hx
  | cons a t ih =>
    intro x hx
    cases t with
    | nil => rw [Lib.join_one] at hx; exact .inr ⟨a, by simp, hx⟩
    | cons b t =>
      rw [join_cons2, List.mem_append, List.mem_append] at hx
      rcases hx with (hx | hx) | hx
      · exact .inr ⟨a, by simp, hx⟩
      · exact .inl (by simpa using hx)
      · rcases ih x hx with e | ⟨p, hp, hxp⟩
        · exact .inl e
        · exact .inr ⟨p, by simp at hp ⊢; exact .inr hp, hxp⟩
theorem line_10 {l : List RuleD} (h : rulesGood l = true) {i : Nat} (hi : i < l.length) : (10 : UInt8) ∉ lineL l (i : Int) := by
  rw [lineL_good h hi]
  intro hm
  rcases join_mem _ hm with e | ⟨p, hp, hx⟩
  · exact absurd e (by decide)
  · exact (wordsR_plain h hi p hp).not10 hx
theorem line_comment {l : List RuleD} (h : rulesGood l = true) {i : Nat} (hi : i < l.length) {s : List UInt8} (hs : wordsL s = wordsL (lineL l (i : Int))) : isCommentL s = false := by
  rw [line_words h hi] at hs
  unfold wordsR at hs
  rw [isComment_cons hs]
  simp only [decide_eq_false_iff_not]
  intro e
  exact (name_mem (rule_name h hi) _ (List.mem_of_getElem? e)).2.2.1 rfl
theorem allLines_10 {l : List RuleD} (h : rulesGood l = true) : ∀ p ∈ allLines l, (10 : UInt8) ∉ p := by
  intro p hp
  obtain ⟨j, hj, rfl⟩ := List.mem_map.1 hp
  exact line_10 h (List.mem_range.1 hj)
theorem descT_lines {l : List RuleD} (h : validD l = true) : linesL (descT l) = allLines l := by
  unfold descT
  rw [if_pos h, linesT_all]
  exact linesL_text (allLines_10 (validD_good h).1)
theorem allLines_len (l : List RuleD) : (allLines l).length = l.length := by simp [allLines]
theorem allLines_drop {l : List RuleD} {i : Nat} (hi : i < l.length) : (allLines l).drop i = lineL l (i : Int) :: (allLines l).drop (i + 1) := by
  rw [List.drop_eq_getElem_cons (by rw [allLines_len]; exact hi)]
  congr 1
  simp [allLines]
theorem add_line {l : List RuleD} (h : rulesGood l = true) {i : Nat} (hi : i < l.length) (h24 : l.length ≤ 24) {s : List UInt8} (hs : wordsL s = wordsL (lineL l (i : Int))) : addL (l.take i) s = some (l.take (i + 1)) := by
  unfold addL
  rw [parse_line h hi hs, Option.bind_some, if_pos (by rw [List.length_take]; omega), ruleAt_eq hi, List.take_succ_eq_append_getElem hi]
theorem desc_go_back {l : List RuleD} (h : validD l = true) : ∀ (n i j : Nat), i + n = l.length → descGo (l.take i) j ((allLines l).drop i) = (l, 0) := by
  obtain ⟨hg, h1, h24⟩ := validD_good h
  intro n
  induction n with
  | zero =>
    intro i j hi
    rw [List.drop_of_length_le (by rw [allLines_len]; omega), List.take_of_length_le (by omega)]
    unfold descGo
    rw [if_neg (by rintro rfl; simp at h1)]
  | succ n ih =>
    intro i j hi
    rw [allLines_drop (by omega)]
    unfold descGo
    rw [line_comment hg (by omega) rfl, if_neg (by simp), add_line hg (by omega) h24 rfl]
    exact ih (i + 1) (j + 1) (by omega)
/-- The text of a valid description is parsed to the description. -/
theorem desc_back {l : List RuleD} (h : validD l = true) : descP (descT l) = (l, 0) := by
  unfold descP
  rw [descT_lines h]
  have := desc_go_back h l.length 0 0 (by omega)
  simpa using this
theorem norm_back {l : List RuleD} (h : validD l = true) : normT (descT l) = descT l := by
  unfold normT
  rw [desc_back h, if_pos rfl]
theorem norm_none : normT [] = [] := by
  unfold normT
  rw [if_neg]
  intro h
  have := descP_valid h
  have e : descP [] = ([], 1) := by
    unfold descP linesL
    rw [splitL_nil]
    rfl
  rw [e] at h
  cases h
theorem norm_norm (t : List UInt8) : normT (normT t) = normT t := by
  by_cases h : (descP t).2 = 0
  · have e : normT t = descT (descP t).1 := by unfold normT; rw [if_pos h]
    rw [e]
    exact norm_back (descP_valid h)
  · have e : normT t = [] := by unfold normT; rw [if_neg h]
    rw [e]
    exact norm_none
theorem descT_ne {l : List RuleD} (h : validD l = true) : descT l ≠ [] := by
  intro e
  have h1 := descT_lines h
  rw [e] at h1
  have h2 := congrArg List.length h1
  rw [allLines_len] at h2
  have := (validD_good h).2.1
  have h3 : (linesL []).length = 0 := by rfl
  omega
theorem norm_ne (t : List UInt8) : (descP t).2 = 0 ↔ normT t ≠ [] := by
  constructor
  · intro h
    unfold normT
    rw [if_pos h]
    exact descT_ne (descP_valid h)
  · intro h
    by_cases h0 : (descP t).2 = 0
    · exact h0
    · exact absurd (by unfold normT; rw [if_neg h0]) h
theorem count_back {l : List RuleD} (h : validD l = true) : countLn (descT l) = l.length := by
  unfold countLn
  rw [descT_lines h, List.filter_eq_self.2, allLines_len]
  intro p hp
  obtain ⟨j, hj, rfl⟩ := List.mem_map.1 hp
  rw [line_comment (validD_good h).1 (List.mem_range.1 hj) rfl]
  rfl

end Go.Proofs.YtkjjgpkegihmhaaDoor
