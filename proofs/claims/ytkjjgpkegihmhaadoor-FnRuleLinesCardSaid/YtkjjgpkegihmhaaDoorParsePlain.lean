/-
  A rule out of its line, in plain Lean: the program's way and the reference's way agree. No function of the program in sight.
-/
import Derived.Test.YtkjjgpkegihmhaaDoorFieldsPlain
import Derived.Test.YtkjjgpkegihmhaaDoorKindOf
import Derived.Test.YtkjjgpkegihmhaaDoorGD
import Derived.Test.YtkjjgpkegihmhaaDoorIntPlain
namespace Go.Proofs.YtkjjgpkegihmhaaDoor
open Go.RowKit
set_option linter.unusedVariables false

/-- A rule of whom only name and kind are known. -/
def rule0 (ws : List (List UInt8)) : RuleD := ⟨mkS (ws.getD 0 []), kindOf (mkS (ws.getD 1 [])), 0, false, [], [], [], []⟩
/-- Does the line of the new rule say the same words? -/
def lineOk (l : List RuleD) (ws : List (List UInt8)) (r : RuleD) : Option RuleD := if lineL (l ++ [r]) (l.length : Int) = Lib.join ws [32] then some r else none
/-- The program's way. -/
def parseI (l : List RuleD) (s : List UInt8) : Option RuleD := if (wordsL s).length < 2 then none else (fieldsP l (rule0 (wordsL s)) (tS ((wordsL s).drop 2))).bind (lineOk l (wordsL s))

/-- The reference's ways of the kinds. -/
def sOk (s : ByteArray) : Bool := cutOk s.data.toList 58
def sLeft (s : ByteArray) : ByteArray := mkS (cutLeft s.data.toList 58)
def sRight (s : ByteArray) : ByteArray := mkS (cutRight s.data.toList 58)
def seqS (l : List RuleD) (r : RuleD) (ws : List ByteArray) : Option RuleD := if ws.all sOk = true then (kidsL l (ws.map sRight)).map fun ks => { r with names := ws.map sLeft, kids := ks } else none
def tagOk (s : ByteArray) : Bool := parseOk s.data.toList
def tagNum (s : ByteArray) : Int := parseNum s.data.toList
def choS (l : List RuleD) (r : RuleD) : List ByteArray → Option RuleD
  | [] => none
  | x :: t => if t.all sOk = true ∧ (t.map sLeft).all tagOk = true then (kidsL l (x :: t.map sRight)).map fun ks => { r with tags := (t.map sLeft).map tagNum, kids := ks } else none
def numS (r : RuleD) : List ByteArray → Option RuleD
  | [] => none
  | x :: t => if parseOk x.data.toList = true then some { r with size := parseNum x.data.toList, little := decide (t = [littleS]) } else none
def argsS (l : List RuleD) (r : RuleD) (ws : List ByteArray) : Option RuleD :=
  if r.kind = 1 ∨ r.kind = 3 then numS r ws else
  if r.kind = 2 ∨ r.kind = 10 then hexP r ws else
  if r.kind = 6 then seqS l r ws else
  if r.kind = 7 then choS l r ws else (kidsL l ws).map fun ks => { r with kids := ks }
/-- The reference's way. -/
def parseS (l : List RuleD) (s : List UInt8) : Option RuleD := if (wordsL s).length < 3 then none else (argsS l (rule0 (wordsL s)) (tS ((wordsL s).drop 2))).bind (lineOk l (wordsL s))

theorem splitA_app (c : UInt8) (r : List UInt8) : ∀ (x acc : List UInt8), c ∉ x → splitA c acc (x ++ c :: r) = (acc ++ x) :: splitA c [] r := by
  intro x
  induction x with
  | nil => intro acc _; simp [splitA]
  | cons y x ih =>
    intro acc h
    simp only [List.mem_cons, not_or] at h
    rw [List.cons_append, splitA, if_neg (fun e => h.1 e.symm), ih _ h.2]
    simp
theorem split_join {c : UInt8} : ∀ {ws : List (List UInt8)}, ws ≠ [] → (∀ p ∈ ws, c ∉ p) → splitL (Lib.join ws [c]) c = ws := by
  intro ws
  induction ws with
  | nil => intro h; exact absurd rfl h
  | cons x t ih =>
    intro _ h
    cases t with
    | nil => rw [Lib.join_one]; exact split_none (h x (by simp))
    | cons y t =>
      rw [join_cons2, List.append_assoc]
      show splitL (x ++ (c :: Lib.join (y :: t) [c])) c = _
      unfold splitL
      rw [splitA_app c _ x [] (h x (by simp))]
      have := ih (by simp) (fun p hp => h p (by simp [hp]))
      unfold splitL at this
      rw [this]; rfl
theorem join_inj {c : UInt8} {a b : List (List UInt8)} (ha : a ≠ []) (hb : b ≠ []) (h1 : ∀ p ∈ a, c ∉ p) (h2 : ∀ p ∈ b, c ∉ p) (h : Lib.join a [c] = Lib.join b [c]) : a = b := by
  rw [← split_join ha h1, ← split_join hb h2, h]

theorem ruleAt_new (l : List RuleD) (r : RuleD) : ruleAt (l ++ [r]) (l.length : Int) = r := by
  rw [ruleAt_eq (by simp)]; simp
theorem join_ne {ws : List (List UInt8)} (h : ws ≠ []) (hp : ∀ p ∈ ws, p ≠ []) : Lib.join ws [32] ≠ [] := by
  cases ws with
  | nil => exact absurd rfl h
  | cons x t =>
    rw [Lib.join_cons]
    have := hp x (by simp)
    cases x with
    | nil => exact absurd rfl this
    | cons _ _ => simp
/-- Where the lines agree the rule is valid, and the words joined are the same. -/
theorem line_of {l : List RuleD} {ws : List (List UInt8)} {r : RuleD} (h : ws ≠ []) (hp : ∀ p ∈ ws, p ≠ []) (hl : lineL (l ++ [r]) (l.length : Int) = Lib.join ws [32]) :
    validR (l ++ [r]) (l.length : Int) = true ∧ Lib.join (wordsR (l ++ [r]) (l.length : Int) r) [32] = Lib.join ws [32] := by
  unfold lineL at hl
  split at hl
  · rename_i hv
    rw [ruleAt_new] at hl
    exact ⟨hv, hl⟩
  · exact absurd hl.symm (join_ne h hp)
theorem lineOk_bad {l : List RuleD} {ws : List (List UInt8)} {r : RuleD} (h : ws ≠ []) (hp : ∀ p ∈ ws, p ≠ []) (hs : ¬ Shape (l ++ [r]) r) : lineOk l ws r = none := by
  unfold lineOk
  rw [if_neg]
  intro hl
  obtain ⟨hv, _⟩ := line_of h hp hl
  have := shape_of (validR_kind hv)
  rw [ruleAt_new] at this
  exact hs this

theorem kindName_32 (k : Int) : (32 : UInt8) ∉ (kindName k).data.toList := by
  unfold kindName kindNat
  split <;> decide
theorem digits_32 {l : List UInt8} (h : l.all isDigit = true) : (32 : UInt8) ∉ l := by
  intro hm
  have := List.all_eq_true.1 h _ hm
  exact absurd this (by decide)
theorem fmt_digits {m : Int} (h0 : 0 ≤ m) (h1 : m ≤ 1000000000000) : (fmtInt m).all isDigit = true := by
  have h := (parse_fmt_yes h0 h1).1
  unfold parseOk at h
  simp only [Bool.and_eq_true] at h
  exact h.1.1.2
/-- Four words or more behind name and kind: no number's line. -/
theorem lineOk_long {l : List RuleD} {ws : List (List UInt8)} {r : RuleD} (h5 : 5 ≤ ws.length) (hp : ∀ p ∈ ws, (32 : UInt8) ∉ p ∧ p ≠ []) (hn : r.name = mkS (ws.getD 0 [])) (hk : r.kind = 1 ∨ r.kind = 3) : lineOk l ws r = none := by
  unfold lineOk
  rw [if_neg]
  intro hl
  have hne : ws ≠ [] := by rintro rfl; simp at h5
  obtain ⟨hv, hj⟩ := line_of hne (fun p hm => (hp p hm).2) hl
  have hs := shape_of (validR_kind hv)
  rw [ruleAt_new] at hs
  have h0 : (32 : UInt8) ∉ r.name.data.toList := by
    rw [hn, mkS_list]
    have : ws.getD 0 [] ∈ ws := by
      cases ws with
      | nil => exact absurd rfl hne
      | cons x t => simp
    exact (hp _ this).1
  have hlen : (wordsR (l ++ [r]) (l.length : Int) r).length ≤ 4 ∧ ∀ p ∈ wordsR (l ++ [r]) (l.length : Int) r, (32 : UInt8) ∉ p := by
    rcases hk with hk | hk
    · have hsz : 1 ≤ r.size ∧ r.size ≤ 4 := by
        rcases hs with h | h | h | h | h | h | h | h | h | h
        · exact ⟨h.2.2.2.2.2.1, h.2.2.2.2.2.2.1⟩
        all_goals (have := h.1; omega)
      have hd := digits_32 (fmt_digits (m := r.size) (by omega) (by omega))
      unfold wordsR
      rw [args_1 hk]
      refine ⟨by split <;> simp, fun p hm => ?_⟩
      simp only [List.mem_cons] at hm
      rcases hm with rfl | rfl | rfl | hm
      · exact h0
      · exact kindName_32 _
      · exact hd
      · split at hm
        · have : p = littleB := by simpa using hm
          rw [this]; decide
        · cases hm
    · have hsz : 1 ≤ r.size ∧ r.size ≤ 64 := by
        rcases hs with h | h | h | h | h | h | h | h | h | h
        · have := h.1; omega
        · have := h.1; omega
        · exact ⟨h.2.2.2.2.2.1, h.2.2.2.2.2.2⟩
        all_goals (have := h.1; omega)
      have hd := digits_32 (fmt_digits (m := r.size) (by omega) (by omega))
      unfold wordsR
      rw [args_3 hk]
      refine ⟨by simp, fun p hm => ?_⟩
      simp only [List.mem_cons, List.not_mem_nil, or_false] at hm
      rcases hm with rfl | rfl | rfl
      · exact h0
      · exact kindName_32 _
      · exact hd
  have := join_inj (by unfold wordsR; simp) hne hlen.2 (fun p hm => (hp p hm).1) hj
  rw [this] at hlen
  omega

theorem parts_seq {l : List RuleD} : ∀ {ws : List ByteArray} {r : RuleD}, r.kind = 6 → partsP l r ws = if ws.all sOk = true then (kidsL l (ws.map sRight)).map fun ks => { r with names := r.names ++ ws.map sLeft, kids := r.kids ++ ks } else none := by
  intro ws
  induction ws with
  | nil => intro r _; simp [partsP, kidsL]
  | cons s ws ih =>
    intro r hk
    simp only [partsP, List.all_cons, Bool.and_eq_true, List.map_cons, kidsL]
    by_cases h1 : sOk s = true
    · by_cases h2 : 0 ≤ findL l (sRight s)
      · have hp : partP l r s = some { r with kids := r.kids ++ [findL l (sRight s)], names := r.names ++ [sLeft s] } := by
          unfold partP; rw [if_pos ⟨h1, h2⟩, if_pos hk]; rfl
        rw [hp, Option.bind_some, ih (by exact hk), if_pos h2]
        by_cases h3 : ws.all sOk = true
        · rw [if_pos h3, if_pos ⟨h1, h3⟩]
          cases kidsL l (ws.map sRight) with
          | none => rfl
          | some ks => simp
        · rw [if_neg h3, if_neg (fun h => h3 h.2)]
      · have hp : partP l r s = none := by unfold partP; rw [if_neg (fun h => h2 h.2)]
        rw [hp, if_neg h2]
        simp
    · have hp : partP l r s = none := by unfold partP; rw [if_neg (fun h => h1 h.1)]
      rw [hp, if_neg (fun h => h1 h.1)]
      rfl
theorem parts_cho {l : List RuleD} : ∀ {ws : List ByteArray} {r : RuleD}, r.kind = 7 → partsP l r ws = if ws.all sOk = true ∧ (ws.map sLeft).all tagOk = true then (kidsL l (ws.map sRight)).map fun ks => { r with tags := r.tags ++ (ws.map sLeft).map tagNum, kids := r.kids ++ ks } else none := by
  intro ws
  induction ws with
  | nil => intro r _; simp [partsP, kidsL]
  | cons s ws ih =>
    intro r hk
    simp only [partsP, List.all_cons, Bool.and_eq_true, List.map_cons, kidsL]
    have hkn : r.kind ≠ 6 := by omega
    by_cases h1 : sOk s = true
    · by_cases h2 : 0 ≤ findL l (sRight s)
      · by_cases h4 : tagOk (sLeft s) = true
        · have hp : partP l r s = some { r with kids := r.kids ++ [findL l (sRight s)], tags := r.tags ++ [tagNum (sLeft s)] } := by
            unfold partP
            have h4' : parseOk (cutLeft s.data.toList 58) = true := by have h := h4; unfold tagOk sLeft at h; rwa [mkS_list] at h
            have hnum : parseNum (cutLeft s.data.toList 58) = tagNum (sLeft s) := by unfold tagNum sLeft; rw [mkS_list]
            rw [if_pos ⟨h1, h2⟩, if_neg hkn, if_pos h4', hnum]; rfl
          rw [hp, Option.bind_some, ih (by exact hk), if_pos h2]
          by_cases h3 : ws.all sOk = true ∧ (ws.map sLeft).all tagOk = true
          · rw [if_pos h3, if_pos ⟨⟨h1, h3.1⟩, h4, h3.2⟩]
            cases kidsL l (ws.map sRight) with
            | none => rfl
            | some ks => simp
          · rw [if_neg h3, if_neg (fun h => h3 ⟨h.1.2, h.2.2⟩)]
        · have hp : partP l r s = none := by
            unfold partP
            have h4' : ¬ parseOk (cutLeft s.data.toList 58) = true := by have h := h4; unfold tagOk sLeft at h; rwa [mkS_list] at h
            rw [if_pos ⟨h1, h2⟩, if_neg hkn, if_neg h4']
          rw [hp, if_neg (fun h => h4 h.2.1)]
          rfl
      · have hp : partP l r s = none := by unfold partP; rw [if_neg (fun h => h2 h.2)]
        rw [hp, if_neg h2]
        simp
    · have hp : partP l r s = none := by unfold partP; rw [if_neg (fun h => h1 h.1)]
      rw [hp, if_neg (fun h => h1 h.1.1)]
      rfl

theorem shape_ne0 {ll : List RuleD} {r : RuleD} (h : ¬ (1 ≤ r.kind ∧ r.kind ≤ 10)) : ¬ Shape ll r := by
  intro hs
  rcases hs with h' | h' | h' | h' | h' | h' | h' | h' | h' | h' <;> (have := h'.1; omega)
theorem shape_kids0 {ll : List RuleD} {r : RuleD} (h : 4 ≤ r.kind ∧ r.kind ≤ 9) (h0 : r.kids = []) : ¬ Shape ll r := by
  intro hs
  have hz : r.kids.length = 0 := by rw [h0]; rfl
  rcases hs with h' | h' | h' | h' | h' | h' | h' | h' | h' | h'
  · have := h'.1; omega
  · have := h'.1; omega
  · have := h'.1; omega
  · have := h'.2.2.2.2.2.1; omega
  · have := h'.2.2.2.2.2.1; omega
  · have := h'.2.2.2.2.2.1; omega
  · have := h'.2.2.2.2.1; omega
  · have := h'.2.2.2.2.2; omega
  · have := h'.2.2.2.2.2; omega
  · have := h'.1; omega

theorem parse_same (l : List RuleD) (s : List UInt8) : parseS l s = parseI l s := by
  have hw : ∀ p ∈ wordsL s, (32 : UInt8) ∉ p ∧ p ≠ [] := fun p hp => (wordsL_mem hp).2
  unfold parseS parseI
  generalize wordsL s = ws at *
  by_cases h2 : ws.length < 2
  · rw [if_pos h2, if_pos (by omega)]
  rw [if_neg h2]
  have hne : ws ≠ [] := by rintro rfl; simp at h2
  have hp2 := fun p hm => (hw p hm).2
  have hkr := kindOf_range (mkS (ws.getD 1 []))
  have hkd : (rule0 ws).kind = kindOf (mkS (ws.getD 1 [])) := rfl
  rw [← hkd] at hkr
  by_cases h3 : ws.length < 3
  · rw [if_pos h3]
    have hd : ws.drop 2 = [] := List.drop_eq_nil_of_le (by omega)
    rw [hd]
    show _ = (fieldsP l (rule0 ws) []).bind _
    unfold fieldsP
    split
    · rfl
    · split
      · rfl
      · split
        · rename_i hk
          simp only [kidsP, kidsL, Option.map_some, Option.bind_some]
          exact (lineOk_bad hne hp2 (shape_kids0 (by show 4 ≤ (rule0 ws).kind ∧ (rule0 ws).kind ≤ 9; omega) rfl)).symm
        · split
          · simp only [partsP, Option.bind_some]
            exact (lineOk_bad hne hp2 (shape_kids0 (by omega) rfl)).symm
          · split
            · simp [choiceP]
            · rfl
  · rw [if_neg h3]
    have hlen : (tS (ws.drop 2)).length = ws.length - 2 := by rw [tS_len, List.length_drop]
    have h1 : 1 ≤ (tS (ws.drop 2)).length := by omega
    generalize tS (ws.drop 2) = av at *
    unfold fieldsP argsS
    split
    · rename_i hk
      cases av with
      | nil => rfl
      | cons x t =>
        simp only [numS, numP]
        split
        · simp only [Option.bind_some]
          by_cases ht : t.length ≤ 1
          · have : decide (t = [littleS]) = decide (t.head? = some littleS) := by
              cases t with
              | nil => simp
              | cons y t2 =>
                have : t2 = [] := List.eq_nil_of_length_eq_zero (by rw [List.length_cons] at ht; omega)
                subst this
                simp
            rw [this]
          · have h5 : 5 ≤ ws.length := by simp at hlen; omega
            rw [lineOk_long h5 hw rfl (by exact hk), lineOk_long h5 hw rfl (by exact hk)]
        · rfl
    · split
      · rfl
      · rename_i k1 k2
        by_cases h4 : (rule0 ws).kind = 4 ∨ (rule0 ws).kind = 5 ∨ (rule0 ws).kind = 8 ∨ (rule0 ws).kind = 9
        · rw [if_neg (by omega), if_neg (by omega), if_pos h4]
          simp [kidsP, rule0]
        · rw [if_neg h4]
          by_cases h6 : (rule0 ws).kind = 6
          · rw [if_pos h6, if_pos h6, parts_seq h6]
            simp [seqS, rule0]
          · rw [if_neg h6, if_neg h6]
            by_cases h7 : (rule0 ws).kind = 7
            · rw [if_pos h7, if_pos h7]
              cases av with
              | nil => rfl
              | cons x t =>
                have hxt : ¬ (x :: t = ([] : List ByteArray)) := by simp
                simp only [choS, choiceP]
                rw [if_neg hxt]
                simp only [List.take_succ_cons, List.take_zero, List.drop_succ_cons, List.drop_zero, kidsP, kidsL]
                by_cases hx : 0 ≤ findL l x
                · rw [if_pos hx, if_pos hx]
                  simp only [Option.map_some, Option.bind_some]
                  rw [parts_cho (by exact h7)]
                  by_cases hc : t.all sOk = true ∧ (t.map sLeft).all tagOk = true
                  · rw [if_pos hc, if_pos hc]
                    cases kidsL l (t.map sRight) with
                    | none => rfl
                    | some ks => simp [rule0]
                  · rw [if_neg hc, if_neg hc]
                · rw [if_neg hx, if_neg hx]
                  simp
            · rw [if_neg h7, if_neg h7]
              cases kidsL l av with
              | none => rfl
              | some ks =>
                simp only [Option.map_some, Option.bind_some]
                rw [lineOk_bad hne hp2 (shape_ne0 (by show ¬ (1 ≤ (rule0 ws).kind ∧ (rule0 ws).kind ≤ 10); omega))]
                rfl

end Go.Proofs.YtkjjgpkegihmhaaDoor
