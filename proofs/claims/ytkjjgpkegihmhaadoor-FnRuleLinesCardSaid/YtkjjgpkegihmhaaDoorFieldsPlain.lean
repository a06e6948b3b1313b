/-
  What the words of a rule's line tell, in plain Lean: kids, parts, fields. No function of the program in sight.
-/
import Derived.Test.YtkjjgpkegihmhaaDoorGA
namespace Go.Proofs.YtkjjgpkegihmhaaDoor
open Go.RowKit
set_option linter.unusedVariables false

/-- The kids that these names refer to. -/
def kidsL (l : List RuleD) : List ByteArray → Option (List Int)
  | [] => some []
  | w :: ws => if 0 ≤ findL l w then (kidsL l ws).map (findL l w :: ·) else none
theorem kidsL_append (l : List RuleD) (a b : List ByteArray) : kidsL l (a ++ b) = (kidsL l a).bind fun x => (kidsL l b).map (x ++ ·) := by
  induction a with
  | nil => simp [kidsL]
  | cons w a ih =>
    simp only [List.cons_append, kidsL]
    split
    · rw [ih]
      cases kidsL l a with
      | none => rfl
      | some x =>
        cases kidsL l b with
        | none => rfl
        | some y => rfl
    · rfl
theorem kidsL_step {l : List RuleD} {ws : List ByteArray} {q : Nat} {ks : List Int} (h : q < ws.length) (hk : kidsL l (ws.take q) = some ks) (h0 : 0 ≤ findL l ws[q]) : kidsL l (ws.take (q + 1)) = some (ks ++ [findL l ws[q]]) := by
  rw [List.take_succ_eq_append_getElem h, kidsL_append, hk]
  simp [kidsL, h0]
theorem kidsL_bad {l : List RuleD} {ws : List ByteArray} {q : Nat} {ks : List Int} (h : q < ws.length) (hk : kidsL l (ws.take q) = some ks) (h0 : ¬ 0 ≤ findL l ws[q]) : kidsL l ws = none := by
  rw [← List.take_append_drop q ws, kidsL_append, hk, List.drop_eq_getElem_cons h]
  simp [kidsL, h0]
theorem kidsL_len {l : List RuleD} {ws : List ByteArray} {ks : List Int} (h : kidsL l ws = some ks) : ks.length = ws.length := by
  induction ws generalizing ks with
  | nil => simp [kidsL] at h; simp [← h]
  | cons w ws ih =>
    simp only [kidsL] at h
    split at h
    · obtain ⟨x, hx, rfl⟩ := Option.map_eq_some_iff.1 h
      simp [ih hx]
    · cases h
def kidsP (l : List RuleD) (r : RuleD) (ws : List ByteArray) : Option RuleD := (kidsL l ws).map fun ks => { r with kids := r.kids ++ ks }

/-- What a word of a sequence or a choice adds. -/
def partP (l : List RuleD) (r : RuleD) (s : ByteArray) : Option RuleD :=
  if cutOk s.data.toList 58 = true ∧ 0 ≤ findL l (mkS (cutRight s.data.toList 58)) then
    if r.kind = 6 then some { r with kids := r.kids ++ [findL l (mkS (cutRight s.data.toList 58))], names := r.names ++ [mkS (cutLeft s.data.toList 58)] } else
    if parseOk (cutLeft s.data.toList 58) = true then some { r with kids := r.kids ++ [findL l (mkS (cutRight s.data.toList 58))], tags := r.tags ++ [parseNum (cutLeft s.data.toList 58)] } else none
  else none

/-- What the words of a sequence or a choice add. -/
def partsP (l : List RuleD) : RuleD → List ByteArray → Option RuleD
  | r, [] => some r
  | r, s :: ws => (partP l r s).bind fun r' => partsP l r' ws
theorem partsP_append (l : List RuleD) (a b : List ByteArray) : ∀ r, partsP l r (a ++ b) = (partsP l r a).bind fun r' => partsP l r' b := by
  induction a with
  | nil => intro r; rfl
  | cons s a ih =>
    intro r
    simp only [List.cons_append, partsP]
    cases partP l r s with
    | none => rfl
    | some r' => exact ih r'
theorem partP_len {l : List RuleD} {r r' : RuleD} {s : ByteArray} (h : partP l r s = some r') : r'.kids.length ≤ r.kids.length + 1 ∧ r'.names.length ≤ r.names.length + 1 ∧ r'.tags.length ≤ r.tags.length + 1 := by
  unfold partP at h
  split at h
  · split at h
    · injection h with h; subst h; simp
    · split at h
      · injection h with h; subst h; simp
      · cases h
  · cases h
theorem partsP_len {l : List RuleD} {ws : List ByteArray} : ∀ {r r' : RuleD}, partsP l r ws = some r' → r'.kids.length ≤ r.kids.length + ws.length ∧ r'.names.length ≤ r.names.length + ws.length ∧ r'.tags.length ≤ r.tags.length + ws.length := by
  induction ws with
  | nil => intro r r' h; injection h with h; subst h; simp
  | cons s ws ih =>
    intro r r' h
    simp only [partsP] at h
    obtain ⟨x, hx, h⟩ := Option.bind_eq_some_iff.1 h
    have h1 := partP_len hx
    have h2 := ih h
    simp only [List.length_cons]
    omega
theorem partsP_step {l : List RuleD} {r r1 r2 : RuleD} {ws : List ByteArray} {q : Nat} (h : q < ws.length) (h1 : partsP l r (ws.take q) = some r1) (h2 : partP l r1 ws[q] = some r2) : partsP l r (ws.take (q + 1)) = some r2 := by
  rw [List.take_succ_eq_append_getElem h, partsP_append, h1]
  simp [partsP, h2]
theorem partsP_bad {l : List RuleD} {r r1 : RuleD} {ws : List ByteArray} {q : Nat} (h : q < ws.length) (h1 : partsP l r (ws.take q) = some r1) (h2 : partP l r1 ws[q] = none) : partsP l r ws = none := by
  rw [← List.take_append_drop q ws, partsP_append, h1, List.drop_eq_getElem_cons h]
  simp [partsP, h2]

def littleS : ByteArray := ⟨#[108, 105, 116, 116, 108, 101]⟩
def numP (r : RuleD) : List ByteArray → Option RuleD
  | [] => none
  | x :: ws => if parseOk x.data.toList = true then some { r with size := parseNum x.data.toList, little := decide (ws.head? = some littleS) } else none
def hexP (r : RuleD) : List ByteArray → Option RuleD
  | [] => none
  | x :: _ => if parseBOk x.data.toList = true then some { r with bytes := parseB x.data.toList } else none
def choiceP (l : List RuleD) (r : RuleD) (ws : List ByteArray) : Option RuleD := if ws = [] then none else (kidsP l r (ws.take 1)).bind fun r' => partsP l r' (ws.drop 1)
/-- What the words behind the kind tell. -/
def fieldsP (l : List RuleD) (r : RuleD) (ws : List ByteArray) : Option RuleD :=
  if r.kind = 1 ∨ r.kind = 3 then numP r ws else
  if r.kind = 2 ∨ r.kind = 10 then hexP r ws else
  if r.kind = 4 ∨ r.kind = 5 ∨ r.kind = 8 ∨ r.kind = 9 then kidsP l r ws else
  if r.kind = 6 then partsP l r ws else
  if r.kind = 7 then choiceP l r ws else none
theorem fields_num {l : List RuleD} {r : RuleD} {ws : List ByteArray} (h : r.kind = 1 ∨ r.kind = 3) : fieldsP l r ws = numP r ws := by unfold fieldsP; rw [if_pos h]
theorem fields_hex {l : List RuleD} {r : RuleD} {ws : List ByteArray} (h : r.kind = 2 ∨ r.kind = 10) : fieldsP l r ws = hexP r ws := by unfold fieldsP; rw [if_neg (by omega), if_pos h]
theorem fields_kids {l : List RuleD} {r : RuleD} {ws : List ByteArray} (h : r.kind = 4 ∨ r.kind = 5 ∨ r.kind = 8 ∨ r.kind = 9) : fieldsP l r ws = kidsP l r ws := by unfold fieldsP; rw [if_neg (by omega), if_neg (by omega), if_pos h]
theorem fields_parts {l : List RuleD} {r : RuleD} {ws : List ByteArray} (h : r.kind = 6) : fieldsP l r ws = partsP l r ws := by unfold fieldsP; rw [if_neg (by omega), if_neg (by omega), if_neg (by omega), if_pos h]
theorem fields_choice {l : List RuleD} {r : RuleD} {ws : List ByteArray} (h : r.kind = 7) : fieldsP l r ws = choiceP l r ws := by unfold fieldsP; rw [if_neg (by omega), if_neg (by omega), if_neg (by omega), if_neg (by omega), if_pos h]
theorem fields_no {l : List RuleD} {r : RuleD} {ws : List ByteArray} (h : ¬ (1 ≤ r.kind ∧ r.kind ≤ 10)) : fieldsP l r ws = none := by unfold fieldsP; rw [if_neg (by omega), if_neg (by omega), if_neg (by omega), if_neg (by omega), if_neg (by omega)]

end Go.Proofs.YtkjjgpkegihmhaaDoor
