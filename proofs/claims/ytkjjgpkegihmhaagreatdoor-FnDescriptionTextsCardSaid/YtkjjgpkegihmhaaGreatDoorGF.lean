/-
  Several texts in one: Int, IntPlain, ParsePlain, HexPlain, RoundPlain, LinesPlain, GoodPlain, FitPlain.
-/
import Derived.Test.YtkjjgpkegihmhaaGreatDoorProg
import Derived.Test.YtkjjgpkegihmhaaGreatDoorGA
import Derived.WalkKit
import Derived.WalkSpells
import Derived.WalkLawsBesides
import Derived.Test.YtkjjgpkegihmhaaGreatDoorGE
import Derived.Test.YtkjjgpkegihmhaaGreatDoorGD
namespace Go.Proofs.YtkjjgpkegihmhaaGreatDoor
open Go.RowKit

end Go.Proofs.YtkjjgpkegihmhaaGreatDoor
namespace Go.Proofs.YtkjjgpkegihmhaaGreatDoor
open Go.RowKit
theorem isDigit_digit {d : Nat} (h : d < 10) : isDigit (digit d) = true := by
  have := digit_toNat h
  simp [isDigit, this]; omega
theorem dec_digits (k : Nat) : ∀ n, n < 10 ^ k → (dec n).all isDigit = true ∧ val (dec n) = n := by
  induction k with
  | zero =>
    intro n h
    have : n = 0 := by simpa using h
    subst this
    simp [dec_zero, val]
  | succ k ih =>
    intro n h
    by_cases h0 : n = 0
    · subst h0; simp [dec_zero, val]
    · obtain ⟨h1, h2⟩ := ih (n / 10) (by rw [Nat.pow_succ] at h; omega)
      have hd : n % 10 < 10 := Nat.mod_lt _ (by omega)
      rw [dec_pos h0, val_snoc, h2, digit_toNat hd]
      refine ⟨?_, by omega⟩
      rw [List.all_append, h1]
      simp [isDigit_digit hd]
theorem dec_head (k : Nat) : ∀ n, n < 10 ^ k → n ≠ 0 → 1 ≤ (dec n).length ∧ (dec n)[0]? ≠ some 48 := by
  induction k with
  | zero => intro n h h0; exact absurd (by simpa using h) h0
  | succ k ih =>
    intro n h h0
    rw [dec_pos h0]
    by_cases h10 : n / 10 = 0
    · rw [h10, dec_zero]
      refine ⟨by simp, ?_⟩
      have hd : n % 10 < 10 := Nat.mod_lt _ (by omega)
      have h1 := digit_toNat hd
      intro e
      have e2 : digit (n % 10) = 48 := by simpa using e
      rw [e2] at h1
      have : (48 : UInt8).toNat = 48 := rfl
      omega
    · obtain ⟨h1, h2⟩ := ih (n / 10) (by rw [Nat.pow_succ] at h; omega) h10
      refine ⟨by simp, ?_⟩
      rw [List.getElem?_append_left (by omega)]
      exact h2
theorem parse_fmt_yes {m : Int} (h0 : 0 ≤ m) (h1 : m ≤ 1000000000000) : parseOk (fmtInt m) = true ∧ parseNum (fmtInt m) = m := by
  by_cases hz : m = 0
  · subst hz
    exact ⟨by decide, by decide⟩
  · have e : fmtInt m = dec m.natAbs := by unfold fmtInt; rw [if_neg hz, if_neg (by omega)]
    have h13 : m.natAbs < 10 ^ 13 := by omega
    obtain ⟨d1, d2⟩ := dec_digits 13 _ h13
    obtain ⟨d3, d4⟩ := dec_head 13 _ h13 (by omega)
    have hok : parseOk (fmtInt m) = true := by rw [e]; exact parseOk_of d3 (dec_len 13 _ h13) d1 (by rw [d2]; omega) (.inr d4)
    refine ⟨hok, ?_⟩
    unfold parseNum
    rw [hok, if_pos rfl, e, d2]
    omega
theorem parseNum_range (l : List UInt8) : 0 ≤ parseNum l ∧ parseNum l ≤ 1000000000000 := by
  unfold parseNum
  by_cases h : parseOk l = true
  · rw [if_pos h]
    unfold parseOk at h
    simp only [Bool.and_eq_true, decide_eq_true_eq] at h
    omega
  · rw [if_neg h]; omega
end Go.Proofs.YtkjjgpkegihmhaaGreatDoor
namespace Go.Proofs.YtkjjgpkegihmhaaGreatDoor
open Go.RowKit
set_option linter.unusedVariables false
def rule0 (ws : List (List UInt8)) : RuleD := ⟨mkS (ws.getD 0 []), kindOf (mkS (ws.getD 1 [])), 0, false, [], [], [], []⟩
def lineOk (l : List RuleD) (ws : List (List UInt8)) (r : RuleD) : Option RuleD := if lineL (l ++ [r]) (l.length : Int) = Lib.join ws [32] then some r else none
def parseI (l : List RuleD) (s : List UInt8) : Option RuleD := if (wordsL s).length < 2 then none else (fieldsP l (rule0 (wordsL s)) (tS ((wordsL s).drop 2))).bind (lineOk l (wordsL s))

def sOk (s : ByteArray) : Bool := cutOk s.data.toList 58
def sLeft (s : ByteArray) : ByteArray := mkS (cutLeft s.data.toList 58)
def sRight (s : ByteArray) : ByteArray := mkS (cutRight s.data.toList 58)
def seqS (l : List RuleD) (r : RuleD) (ws : List ByteArray) : Option RuleD := if ws.all sOk = true then (kidsL l (ws.map sRight)).map fun ks => { r with names := ws.map sLeft, kids := ks } else none
def tagOk (s : ByteArray) : Bool := parseOk s.data.toList
def tagNum (s : ByteArray) : Int := parseNum s.data.toList
def choS (l : List RuleD) (r : RuleD) : List ByteArray → Option RuleD
  | [] => none
  | x :: t => if t.all sOk = true ∧ (t.map sLeft).all tagOk = true then (kidsL l (x :: t.map sRight)).map fun ks => { r with tags := (t.map sLeft).map tagNum, kids := ks } else none
def numS (r : RuleD) : List ByteArray → Option RuleD
  | [] => none
  | x :: t => if parseOk x.data.toList = true then some { r with size := parseNum x.data.toList, little := decide (t = [littleS]) } else none
def argsS (l : List RuleD) (r : RuleD) (ws : List ByteArray) : Option RuleD :=
  if r.kind = 1 ∨ r.kind = 3 then numS r ws else
  if r.kind = 2 ∨ r.kind = 10 then hexP r ws else
  if r.kind = 6 then seqS l r ws else
  if r.kind = 7 then choS l r ws else (kidsL l ws).map fun ks => { r with kids := ks }
def parseS (l : List RuleD) (s : List UInt8) : Option RuleD := if (wordsL s).length < 3 then none else (argsS l (rule0 (wordsL s)) (tS ((wordsL s).drop 2))).bind (lineOk l (wordsL s))

theorem splitA_app (c : UInt8) (r : List UInt8) : ∀ (x acc : List UInt8), c ∉ x → splitA c acc (x ++ c :: r) = (acc ++ x) :: splitA c [] r := by
  intro x
  induction x with
  | nil => intro acc _; simp [splitA]
  | cons y x ih =>
    intro acc h
    simp only [List.mem_cons, not_or] at h
    rw [List.cons_append, splitA, if_neg (fun e => h.1 e.symm), ih _ h.2]
    simp
theorem split_join {c : UInt8} : ∀ {ws : List (List UInt8)}, ws ≠ [] → (∀ p ∈ ws, c ∉ p) → splitL (Lib.join ws [c]) c = ws := by
  intro ws
  induction ws with
  | nil => intro h; exact absurd rfl h
  | cons x t ih =>
    intro _ h
    cases t with
    | nil => rw [Lib.join_one]; exact split_none (h x (by simp))
    | cons y t =>
      rw [join_cons2, List.append_assoc]
      show splitL (x ++ (c :: Lib.join (y :: t) [c])) c = _
      unfold splitL
      rw [splitA_app c _ x [] (h x (by simp))]
      have := ih (by simp) (fun p hp => h p (by simp [hp]))
      unfold splitL at this
      rw [this]; rfl
theorem join_inj {c : UInt8} {a b : List (List UInt8)} (ha : a ≠ []) (hb : b ≠ []) (h1 : ∀ p ∈ a, c ∉ p) (h2 : ∀ p ∈ b, c ∉ p) (h : Lib.join a [c] = Lib.join b [c]) : a = b := by
  rw [← split_join ha h1, ← split_join hb h2, h]

theorem ruleAt_new (l : List RuleD) (r : RuleD) : ruleAt (l ++ [r]) (l.length : Int) = r := by
  rw [ruleAt_eq (by simp)]; simp
theorem join_ne {ws : List (List UInt8)} (h : ws ≠ []) (hp : ∀ p ∈ ws, p ≠ []) : Lib.join ws [32] ≠ [] := by
  cases ws with
  | nil => exact absurd rfl h
  | cons x t =>
    rw [Lib.join_cons]
    have := hp x (by simp)
    cases x with
    | nil => exact absurd rfl this
    | cons _ _ => simp
theorem line_of {l : List RuleD} {ws : List (List UInt8)} {r : RuleD} (h : ws ≠ []) (hp : ∀ p ∈ ws, p ≠ []) (hl : lineL (l ++ [r]) (l.length : Int) = Lib.join ws [32]) :
    validR (l ++ [r]) (l.length : Int) = true ∧ Lib.join (wordsR (l ++ [r]) (l.length : Int) r) [32] = Lib.join ws [32] := by
  unfold lineL at hl
  split at hl
  · rename_i hv
    rw [ruleAt_new] at hl
    exact ⟨hv, hl⟩
  · exact absurd hl.symm (join_ne h hp)
theorem lineOk_bad {l : List RuleD} {ws : List (List UInt8)} {r : RuleD} (h : ws ≠ []) (hp : ∀ p ∈ ws, p ≠ []) (hs : ¬ Shape (l ++ [r]) r) : lineOk l ws r = none := by
  unfold lineOk
  rw [if_neg]
  intro hl
  obtain ⟨hv, _⟩ := line_of h hp hl
  have := shape_of (validR_kind hv)
  rw [ruleAt_new] at this
  exact hs this

theorem kindName_32 (k : Int) : (32 : UInt8) ∉ (kindName k).data.toList := by
  unfold kindName kindNat
  split <;> decide
theorem digits_32 {l : List UInt8} (h : l.all isDigit = true) : (32 : UInt8) ∉ l := by
  intro hm
  have := List.all_eq_true.1 h _ hm
  exact absurd this (by decide)
theorem fmt_digits {m : Int} (h0 : 0 ≤ m) (h1 : m ≤ 1000000000000) : (fmtInt m).all isDigit = true := by
  have h := (parse_fmt_yes h0 h1).1
  unfold parseOk at h
  simp only [Bool.and_eq_true] at h
  exact h.1.1.2
theorem lineOk_long {l : List RuleD} {ws : List (List UInt8)} {r : RuleD} (h5 : 5 ≤ ws.length) (hp : ∀ p ∈ ws, (32 : UInt8) ∉ p ∧ p ≠ []) (hn : r.name = mkS (ws.getD 0 [])) (hk : r.kind = 1 ∨ r.kind = 3) : lineOk l ws r = none := by
  unfold lineOk
  rw [if_neg]
  intro hl
  have hne : ws ≠ [] := by rintro rfl; simp at h5
  obtain ⟨hv, hj⟩ := line_of hne (fun p hm => (hp p hm).2) hl
  have hs := shape_of (validR_kind hv)
  rw [ruleAt_new] at hs
  have h0 : (32 : UInt8) ∉ r.name.data.toList := by
    rw [hn, mkS_list]
    have : ws.getD 0 [] ∈ ws := by
      cases ws with
      | nil => exact absurd rfl hne
      | cons x t => simp
    exact (hp _ this).1
  have hlen : (wordsR (l ++ [r]) (l.length : Int) r).length ≤ 4 ∧ ∀ p ∈ wordsR (l ++ [r]) (l.length : Int) r, (32 : UInt8) ∉ p := by
    rcases hk with hk | hk
    · have hsz : 1 ≤ r.size ∧ r.size ≤ 4 := by
        rcases hs with h | h | h | h | h | h | h | h | h | h
        · exact ⟨h.2.2.2.2.2.1, h.2.2.2.2.2.2.1⟩
        all_goals (have := h.1; omega)
      have hd := digits_32 (fmt_digits (m := r.size) (by omega) (by omega))
      unfold wordsR
      rw [args_1 hk]
      refine ⟨by split <;> simp, fun p hm => ?_⟩
      simp only [List.mem_cons] at hm
      rcases hm with rfl | rfl | rfl | hm
      · exact h0
      · exact kindName_32 _
      · exact hd
      · split at hm
        · have : p = littleB := by simpa using hm
          rw [this]; decide
        · cases hm
    · have hsz : 1 ≤ r.size ∧ r.size ≤ 64 := by
        rcases hs with h | h | h | h | h | h | h | h | h | h
        · have := h.1; omega
        · have := h.1; omega
        · exact ⟨h.2.2.2.2.2.1, h.2.2.2.2.2.2⟩
        all_goals (have := h.1; omega)
      have hd := digits_32 (fmt_digits (m := r.size) (by omega) (by omega))
      unfold wordsR
      rw [args_3 hk]
      refine ⟨by simp, fun p hm => ?_⟩
      simp only [List.mem_cons, List.not_mem_nil, or_false] at hm
      rcases hm with rfl | rfl | rfl
      · exact h0
      · exact kindName_32 _
      · exact hd
  have := join_inj (by unfold wordsR; simp) hne hlen.2 (fun p hm => (hp p hm).1) hj
  rw [this] at hlen
  omega

theorem parts_seq {l : List RuleD} : ∀ {ws : List ByteArray} {r : RuleD}, r.kind = 6 → partsP l r ws = if ws.all sOk = true then (kidsL l (ws.map sRight)).map fun ks => { r with names := r.names ++ ws.map sLeft, kids := r.kids ++ ks } else none := by
  intro ws
  induction ws with
  | nil => intro r _; simp [partsP, kidsL]
  | cons s ws ih =>
    intro r hk
    simp only [partsP, List.all_cons, Bool.and_eq_true, List.map_cons, kidsL]
    by_cases h1 : sOk s = true
    · by_cases h2 : 0 ≤ findL l (sRight s)
      · have hp : partP l r s = some { r with kids := r.kids ++ [findL l (sRight s)], names := r.names ++ [sLeft s] } := by
          unfold partP; rw [if_pos ⟨h1, h2⟩, if_pos hk]; rfl
        rw [hp, Option.bind_some, ih (by exact hk), if_pos h2]
        by_cases h3 : ws.all sOk = true
        · rw [if_pos h3, if_pos ⟨h1, h3⟩]
          cases kidsL l (ws.map sRight) with
          | none => rfl
          | some ks => simp
        · rw [if_neg h3, if_neg (fun h => h3 h.2)]
      · have hp : partP l r s = none := by unfold partP; rw [if_neg (fun h => h2 h.2)]
        rw [hp, if_neg h2]
        simp
    · have hp : partP l r s = none := by unfold partP; rw [if_neg (fun h => h1 h.1)]
      rw [hp, if_neg (fun h => h1 h.1)]
      rfl
theorem parts_cho {l : List RuleD} : ∀ {ws : List ByteArray} {r : RuleD}, r.kind = 7 → partsP l r ws = if ws.all sOk = true ∧ (ws.map sLeft).all tagOk = true then (kidsL l (ws.map sRight)).map fun ks => { r with tags := r.tags ++ (ws.map sLeft).map tagNum, kids := r.kids ++ ks } else none := by
  intro ws
  induction ws with
  | nil => intro r _; simp [partsP, kidsL]
  | cons s ws ih =>
    intro r hk
    simp only [partsP, List.all_cons, Bool.and_eq_true, List.map_cons, kidsL]
    have hkn : r.kind ≠ 6 := by omega
    by_cases h1 : sOk s = true
    · by_cases h2 : 0 ≤ findL l (sRight s)
      · by_cases h4 : tagOk (sLeft s) = true
        · have hp : partP l r s = some { r with kids := r.kids ++ [findL l (sRight s)], tags := r.tags ++ [tagNum (sLeft s)] } := by
            unfold partP
            have h4' : parseOk (cutLeft s.data.toList 58) = true := by have h := h4; unfold tagOk sLeft at h; rwa [mkS_list] at h
            have hnum : parseNum (cutLeft s.data.toList 58) = tagNum (sLeft s) := by unfold tagNum sLeft; rw [mkS_list]
            rw [if_pos ⟨h1, h2⟩, if_neg hkn, if_pos h4', hnum]; rfl
          rw [hp, Option.bind_some, ih (by exact hk), if_pos h2]
          by_cases h3 : ws.all sOk = true ∧ (ws.map sLeft).all tagOk = true
          · rw [if_pos h3, if_pos ⟨⟨h1, h3.1⟩, h4, h3.2⟩]
            cases kidsL l (ws.map sRight) with
            | none => rfl
            | some ks => simp
          · rw [if_neg h3, if_neg (fun h => h3 ⟨h.1.2, h.2.2⟩)]
        · have hp : partP l r s = none := by
            unfold partP
            have h4' : ¬ parseOk (cutLeft s.data.toList 58) = true := by have h := h4; unfold tagOk sLeft at h; rwa [mkS_list] at h
            rw [if_pos ⟨h1, h2⟩, if_neg hkn, if_neg h4']
          rw [hp, if_neg (fun h => h4 h.2.1)]
          rfl
      · have hp : partP l r s = none := by unfold partP; rw [if_neg (fun h => h2 h.2)]
        rw [hp, if_neg h2]
        simp
    · have hp : partP l r s = none := by unfold partP; rw [if_neg (fun h => h1 h.1)]
      rw [hp, if_neg (fun h => h1 h.1.1)]
      rfl

theorem shape_ne0 {ll : List RuleD} {r : RuleD} (h : ¬ (1 ≤ r.kind ∧ r.kind ≤ 10)) : ¬ Shape ll r := by
  intro hs
  rcases hs with h' | h' | h' | h' | h' | h' | h' | h' | h' | h' <;> (have := h'.1; omega)
theorem shape_kids0 {ll : List RuleD} {r : RuleD} (h : 4 ≤ r.kind ∧ r.kind ≤ 9) (h0 : r.kids = []) : ¬ Shape ll r := by
  intro hs
  have hz : r.kids.length = 0 := by rw [h0]; rfl
  rcases hs with h' | h' | h' | h' | h' | h' | h' | h' | h' | h'
  · have := h'.1; omega
  · have := h'.1; omega
  · have := h'.1; omega
  · have := h'.2.2.2.2.2.1; omega
  · have := h'.2.2.2.2.2.1; omega
  · have := h'.2.2.2.2.2.1; omega
  · have := h'.2.2.2.2.1; omega
  · have := h'.2.2.2.2.2; omega
  · have := h'.2.2.2.2.2; omega
  · have := h'.1; omega

theorem parse_same (l : List RuleD) (s : List UInt8) : parseS l s = parseI l s := by
  have hw : ∀ p ∈ wordsL s, (32 : UInt8) ∉ p ∧ p ≠ [] := fun p hp => (wordsL_mem hp).2
  unfold parseS parseI
  generalize wordsL s = ws at *
  by_cases h2 : ws.length < 2
  · rw [if_pos h2, if_pos (by omega)]
  rw [if_neg h2]
  have hne : ws ≠ [] := by rintro rfl; simp at h2
  have hp2 := fun p hm => (hw p hm).2
  have hkr := kindOf_range (mkS (ws.getD 1 []))
  have hkd : (rule0 ws).kind = kindOf (mkS (ws.getD 1 [])) := rfl
  rw [← hkd] at hkr
  by_cases h3 : ws.length < 3
  · rw [if_pos h3]
    have hd : ws.drop 2 = [] := List.drop_eq_nil_of_le (by omega)
    rw [hd]
    show _ = (fieldsP l (rule0 ws) []).bind _
    unfold fieldsP
    split
    · rfl
    · split
      · rfl
      · split
        · rename_i hk
          simp only [kidsP, kidsL, Option.map_some, Option.bind_some]
          exact (lineOk_bad hne hp2 (shape_kids0 (by show 4 ≤ (rule0 ws).kind ∧ (rule0 ws).kind ≤ 9; omega) rfl)).symm
        · split
          · simp only [partsP, Option.bind_some]
            exact (lineOk_bad hne hp2 (shape_kids0 (by omega) rfl)).symm
          · split
            · simp [choiceP]
            · rfl
  · rw [if_neg h3]
    have hlen : (tS (ws.drop 2)).length = ws.length - 2 := by rw [tS_len, List.length_drop]
    have h1 : 1 ≤ (tS (ws.drop 2)).length := by omega
    generalize tS (ws.drop 2) = av at *
    unfold fieldsP argsS
    split
    · rename_i hk
      cases av with
      | nil => rfl
      | cons x t =>
        simp only [numS, numP]
        split
        · simp only [Option.bind_some]
          by_cases ht : t.length ≤ 1
          · have : decide (t = [littleS]) = decide (t.head? = some littleS) := by
              cases t with
              | nil => simp
              | cons y t2 =>
                have : t2 = [] := List.eq_nil_of_length_eq_zero (by rw [List.length_cons] at ht; omega)
                subst this
                simp
            rw [this]
          · have h5 : 5 ≤ ws.length := by simp at hlen; omega
            rw [lineOk_long h5 hw rfl (by exact hk), lineOk_long h5 hw rfl (by exact hk)]
        · rfl
    · split
      · rfl
      · rename_i k1 k2
        by_cases h4 : (rule0 ws).kind = 4 ∨ (rule0 ws).kind = 5 ∨ (rule0 ws).kind = 8 ∨ (rule0 ws).kind = 9
        · rw [if_neg (by omega), if_neg (by omega), if_pos h4]
          simp [kidsP, rule0]
        · rw [if_neg h4]
          by_cases h6 : (rule0 ws).kind = 6
          · rw [if_pos h6, if_pos h6, parts_seq h6]
            simp [seqS, rule0]
          · rw [if_neg h6, if_neg h6]
            by_cases h7 : (rule0 ws).kind = 7
            · rw [if_pos h7, if_pos h7]
              cases av with
              | nil => rfl
              | cons x t =>
                have hxt : ¬ (x :: t = ([] : List ByteArray)) := by simp
                simp only [choS, choiceP]
                rw [if_neg hxt]
                simp only [List.take_succ_cons, List.take_zero, List.drop_succ_cons, List.drop_zero, kidsP, kidsL]
                by_cases hx : 0 ≤ findL l x
                · rw [if_pos hx, if_pos hx]
                  simp only [Option.map_some, Option.bind_some]
                  rw [parts_cho (by exact h7)]
                  by_cases hc : t.all sOk = true ∧ (t.map sLeft).all tagOk = true
                  · rw [if_pos hc, if_pos hc]
                    cases kidsL l (t.map sRight) with
                    | none => rfl
                    | some ks => simp [rule0]
                  · rw [if_neg hc, if_neg hc]
                · rw [if_neg hx, if_neg hx]
                  simp
            · rw [if_neg h7, if_neg h7]
              cases kidsL l av with
              | none => rfl
              | some ks =>
                simp only [Option.map_some, Option.bind_some]
                rw [lineOk_bad hne hp2 (shape_ne0 (by show ¬ (1 ≤ (rule0 ws).kind ∧ (rule0 ws).kind ≤ 10); omega))]
                rfl

end Go.Proofs.YtkjjgpkegihmhaaGreatDoor

namespace Go.Proofs.YtkjjgpkegihmhaaGreatDoor
open Go.RowKit
set_option linter.unusedVariables false

theorem unhex_hex {n : Nat} (h : n < 16) : unhex (hexD n) = some n := by
  have hd : ∀ n < 16, unhex (hexD n) = some n := by decide
  exact hd n h
theorem hex_unhex {x : UInt8} {n : Nat} (h : unhex x = some n) : hexD n = x := by
  unfold unhex at h
  split at h
  · rename_i hx
    injection h with h
    unfold hexD
    rw [if_pos (by omega)]
    apply UInt8.toNat_inj.1
    simp [Nat.toUInt8, UInt8.toNat_ofNat']
    omega
  · split at h
    · rename_i hx
      injection h with h
      unfold hexD
      rw [if_neg (by omega)]
      apply UInt8.toNat_inj.1
      simp [Nat.toUInt8, UInt8.toNat_ofNat']
      omega
    · cases h
theorem byteOf_halves (x : UInt8) : byteOf (x.toNat / 16) (x.toNat % 16) = x := by
  apply UInt8.toNat_inj.1
  have := x.toNat_lt
  simp [byteOf, Nat.toUInt8, UInt8.toNat_ofNat']
  omega
theorem hexPair_byteOf {a b : Nat} (ha : a < 16) (hb : b < 16) : hexPair (byteOf a b) = [hexD a, hexD b] := by
  have e : (byteOf a b).toNat = a * 16 + b := by simp [byteOf, Nat.toUInt8, UInt8.toNat_ofNat']; omega
  unfold hexPair
  rw [e, show (a * 16 + b) / 16 = a by omega, show (a * 16 + b) % 16 = b by omega]
theorem parse_hex (l : List UInt8) : parseHex (hexL l) = some l := by
  induction l with
  | nil => rfl
  | cons x r ih =>
    have hx := x.toNat_lt
    show parseHex (hexD (x.toNat / 16) :: hexD (x.toNat % 16) :: hexL r) = _
    simp only [parseHex, unhex_hex (show x.toNat / 16 < 16 by omega), unhex_hex (show x.toNat % 16 < 16 by omega), ih, byteOf_halves]
theorem hex_parse : ∀ (n : Nat) (l t : List UInt8), l.length ≤ n → parseHex l = some t → hexL t = l := by
  intro n
  induction n with
  | zero => intro l t h ht; have : l = [] := List.eq_nil_of_length_eq_zero (by omega)
            subst this; simp [parseHex] at ht; subst ht; rfl
  | succ n ih =>
    intro l t h ht
    match l, h, ht with
    | [], _, ht => simp [parseHex] at ht; subst ht; rfl
    | [_], _, ht => simp [parseHex] at ht
    | a :: b :: r, h, ht =>
      simp only [parseHex] at ht
      cases ea : unhex a with
      | none => simp [ea] at ht
      | some p =>
        cases eb : unhex b with
        | none => simp [ea, eb] at ht
        | some q =>
          cases er : parseHex r with
          | none => simp [ea, eb, er] at ht
          | some u =>
            simp [ea, eb, er] at ht
            subst ht
            show hexPair (byteOf p q) ++ hexL u = _
            rw [hexPair_byteOf (unhex_lt ea) (unhex_lt eb), ih r u (by simp at h; omega) er, hex_unhex ea, hex_unhex eb]
            rfl

end Go.Proofs.YtkjjgpkegihmhaaGreatDoor

namespace Go.Proofs.YtkjjgpkegihmhaaGreatDoor
open Go.RowKit
set_option linter.unusedVariables false

/-! Beginnings of a description. -/
theorem ruleAt_take {l : List RuleD} {m : Nat} {k : Int} (h0 : 0 < m) (hk : k < m) : ruleAt (l.take m) k = ruleAt l k := by
  unfold ruleAt
  rw [List.getElem?_take, if_pos (by omega)]
theorem hasL_take {l : List RuleD} {m : Nat} (hm : m ≤ l.length) {k : Int} (hk : k < m) : hasL (l.take m) k = hasL l k := by
  unfold hasL
  have h1 : decide (k < ((l.take m).length : Int)) = true := by rw [List.length_take]; simp; omega
  have h2 : decide (k < (l.length : Int)) = true := by simp; omega
  rw [h1, h2]
theorem limitL_take {l : List RuleD} {m : Nat} (h0 : 0 < m) (hm : m ≤ l.length) {k : Int} (hk : k < m) : limitL (l.take m) k = limitL l k := by
  unfold limitL
  rw [hasL_take hm hk, ruleAt_take h0 hk]
theorem kindL_take {l : List RuleD} {m : Nat} (h0 : 0 < m) (hm : m ≤ l.length) {r : RuleD} (hk : r.kids.getD 0 0 < m) : kindL (l.take m) r = kindL l r := by
  unfold kindL
  rw [limitL_take h0 hm hk]
theorem kids_first {r : RuleD} {m : Int} (h : kidsUnder r m = true) (hm : 0 ≤ m) : r.kids.getD 0 0 < m + 1 := by
  unfold kidsUnder at h
  cases hk : r.kids with
  | nil => simp; omega
  | cons k ks =>
    rw [hk, List.all_cons, Bool.and_eq_true, inR_iff] at h
    simp; omega
theorem validR_take {l : List RuleD} {m : Nat} (hm : m ≤ l.length) {i : Nat} (hi : i < m) : validR (l.take m) (i : Int) = validR l (i : Int) := by
  unfold validR
  have e1 : ruleAt (l.take m) (i : Int) = ruleAt l (i : Int) := ruleAt_take (by omega) (by omega)
  have e2 : hasL (l.take m) (i : Int) = hasL l (i : Int) := hasL_take hm (by omega)
  have e3 : nameNew (l.take m) (i : Int).toNat = nameNew l (i : Int).toNat := by
    unfold nameNew
    have : ((i : Int).toNat : Nat) = i := by omega
    rw [this, e1, List.take_take, Nat.min_eq_left (by omega)]
  rw [e1, e2, e3]
  by_cases hk : kidsUnder (ruleAt l (i : Int)) (i : Int) = true
  · rw [kindL_take (by omega) hm (by have := kids_first hk (by omega); omega)]
  · have : kidsUnder (ruleAt l (i : Int)) (i : Int) = false := by simpa using hk
    rw [this]; simp
theorem kidL_take {l : List RuleD} {m : Nat} (hm : m ≤ l.length) {i : Nat} (hi : i < m) (hk : kidsUnder (ruleAt l (i : Int)) (i : Int) = true) (j : Int) : kidL (l.take m) (i : Int) j = kidL l (i : Int) j := by
  unfold kidL
  rw [hasL_take hm (by omega), ruleAt_take (by omega) (by omega)]
  have hlt : (ruleAt l (i : Int)).kids.getD j.toNat 0 < m := by
    rw [List.getD_eq_getElem?_getD]
    cases hg : (ruleAt l (i : Int)).kids[j.toNat]? with
    | none => simp; omega
    | some x =>
      unfold kidsUnder at hk
      have := List.all_eq_true.1 hk x (List.mem_of_getElem? hg)
      rw [inR_iff] at this
      simp; omega
  rw [hasL_take hm hlt, ruleAt_take (by omega) hlt]
theorem wordsR_take {l : List RuleD} {m : Nat} (hm : m ≤ l.length) {i : Nat} (hi : i < m) (hk : kidsUnder (ruleAt l (i : Int)) (i : Int) = true) (r : RuleD) : wordsR (l.take m) (i : Int) r = wordsR l (i : Int) r := by
  have e : ∀ j, kidB (l.take m) (i : Int) j = kidB l (i : Int) j := fun j => by unfold kidB; rw [kidL_take hm hi hk]
  unfold wordsR argsL
  congr 2
  simp only [e]
  have e6 : seqW (l.take m) (i : Int) r = seqW l (i : Int) r := by funext j; unfold seqW; rw [e]
  have e7 : choW (l.take m) (i : Int) r = choW l (i : Int) r := by funext j; unfold choW; rw [e]
  rw [e6, e7]
theorem lineL_take {l : List RuleD} {m : Nat} (hm : m ≤ l.length) {i : Nat} (hi : i < m) : lineL (l.take m) (i : Int) = lineL l (i : Int) := by
  unfold lineL
  rw [validR_take hm hi, ruleAt_take (by omega) (by omega)]
  by_cases h : validR l (i : Int) = true
  · rw [if_pos h, if_pos h, wordsR_take hm hi (validR_kids h)]
  · rw [if_neg h, if_neg h]
theorem rulesGood_at {l : List RuleD} (h : rulesGood l = true) {i : Nat} (hi : i < l.length) : validR l (i : Int) = true := by
  unfold rulesGood at h
  exact List.all_eq_true.1 h i (List.mem_range.2 hi)
theorem rulesGood_push {l : List RuleD} {r : RuleD} (h : rulesGood l = true) (hr : validR (l ++ [r]) (l.length : Int) = true) : rulesGood (l ++ [r]) = true := by
  refine rulesGood_all fun j hj => ?_
  by_cases hjl : j < l.length
  · have e : (l ++ [r]).take l.length = l := by simp
    rw [← validR_take (m := l.length) (by simp) hjl, e]
    exact rulesGood_at h hjl
  · have : j = l.length := by simp at hj; omega
    subst this
    exact hr

/-! Names. -/
theorem okAt_not {x : UInt8} {k : Nat} (h : okAt x k = true) : x ≠ 10 ∧ x ≠ 32 ∧ x ≠ 35 ∧ x ≠ 58 := by
  unfold okAt at h
  refine ⟨?_, ?_, ?_, ?_⟩ <;> (rintro rfl; simp at h)
theorem name_mem {l : List UInt8} (h : isName l = true) : ∀ x ∈ l, x ≠ 10 ∧ x ≠ 32 ∧ x ≠ 35 ∧ x ≠ 58 := by
  unfold isName at h
  simp only [Bool.and_eq_true] at h
  intro x hx
  obtain ⟨j, hj, rfl⟩ := List.getElem_of_mem hx
  exact okAt_not ((nameFrom_iff l 0).1 h.2 j _ (List.getElem?_eq_getElem hj))
theorem name_ne {l : List UInt8} (h : isName l = true) : l ≠ [] := by
  rintro rfl
  exact absurd h (by decide)
def Plainly (p : List UInt8) : Prop := p ≠ [] ∧ ∀ x ∈ p, x ≠ 10 ∧ x ≠ 32
theorem Plainly.name {l : List UInt8} (h : isName l = true) : Plainly l := ⟨name_ne h, fun x hx => ⟨(name_mem h x hx).1, (name_mem h x hx).2.1⟩⟩
theorem digits_not {l : List UInt8} (h : l.all isDigit = true) : ∀ x ∈ l, x ≠ 10 ∧ x ≠ 32 ∧ x ≠ 35 ∧ x ≠ 58 := by
  intro x hx
  have := List.all_eq_true.1 h x hx
  refine ⟨?_, ?_, ?_, ?_⟩ <;> (rintro rfl; exact absurd this (by decide))
theorem parseOk_ne {l : List UInt8} (h : parseOk l = true) : l ≠ [] := by
  rintro rfl
  exact absurd h (by decide)
theorem fmt_not {m : Int} (h0 : 0 ≤ m) (h1 : m ≤ 1000000000000) : ∀ x ∈ fmtInt m, x ≠ 10 ∧ x ≠ 32 ∧ x ≠ 35 ∧ x ≠ 58 := digits_not (fmt_digits h0 h1)
theorem Plainly.fmt {m : Int} (h0 : 0 ≤ m) (h1 : m ≤ 1000000000000) : Plainly (fmtInt m) :=
  ⟨parseOk_ne (parse_fmt_yes h0 h1).1, fun x hx => ⟨(fmt_not h0 h1 x hx).1, (fmt_not h0 h1 x hx).2.1⟩⟩
theorem hexD_not {n : Nat} (h : n < 16) : hexD n ≠ 10 ∧ hexD n ≠ 32 := by
  have : ∀ k < 16, hexD k ≠ 10 ∧ hexD k ≠ 32 := by decide
  exact this n h
theorem Plainly.hex {l : List UInt8} (h : l ≠ []) : Plainly (hexL l) := by
  refine ⟨?_, ?_⟩
  · intro e
    have := hexL_len l
    rw [e] at this
    cases l with
    | nil => exact h rfl
    | cons _ _ => simp at this
  · intro x hx
    unfold hexL at hx
    obtain ⟨b, _, hb⟩ := List.mem_flatMap.1 hx
    simp only [hexPair, List.mem_cons, List.not_mem_nil, or_false] at hb
    have hbl := b.toNat_lt
    rcases hb with rfl | rfl
    · exact hexD_not (by omega)
    · exact hexD_not (by omega)
theorem Plainly.pair {a b : List UInt8} (ha : ∀ x ∈ a, x ≠ 10 ∧ x ≠ 32) (hb : ∀ x ∈ b, x ≠ 10 ∧ x ≠ 32) : Plainly (a ++ (58 :: b)) := by
  refine ⟨by simp, fun x hx => ?_⟩
  rw [List.mem_append, List.mem_cons] at hx
  rcases hx with hx | rfl | hx
  · exact ha x hx
  · decide
  · exact hb x hx

/-! Kids' names in a description whose rules are valid. -/
theorem kid_under {l : List RuleD} {i : Nat} (hv : validR l (i : Int) = true) {j : Nat} (hj : j < (ruleAt l (i : Int)).kids.length) :
    ∃ k : Nat, (ruleAt l (i : Int)).kids[j] = (k : Int) ∧ k < i ∧ i < l.length ∧ kidL l (i : Int) (j : Int) = (ruleAt l (k : Int)).name := by
  have hk := validR_kids hv
  unfold kidsUnder at hk
  have h1 := List.all_eq_true.1 hk _ (List.getElem_mem hj)
  rw [inR_iff] at h1
  obtain ⟨m, hm, hml⟩ := hasL_nat (validR_has hv)
  refine ⟨(ruleAt l (i : Int)).kids[j].toNat, by omega, by omega, by omega, ?_⟩
  have e : (ruleAt l (i : Int)).kids.getD (j : Int).toNat 0 = (ruleAt l (i : Int)).kids[j] := getD_at (by simpa using hj)
  unfold kidL
  rw [e, if_pos ⟨validR_has hv, by omega, by omega, hasL_yes (by omega) (by omega)⟩]
  congr 2
  omega
theorem rule_name {l : List RuleD} (h : rulesGood l = true) {k : Nat} (hk : k < l.length) : isName (ruleAt l (k : Int)).name.data.toList = true := validR_name (rulesGood_at h hk)
theorem names_apart {l : List RuleD} (h : rulesGood l = true) {j k : Nat} (hj : j < k) (hk : k < l.length) : (ruleAt l (j : Int)).name ≠ (ruleAt l (k : Int)).name := by
  have hn := validR_new (rulesGood_at h hk)
  unfold nameNew at hn
  have := List.all_eq_true.1 hn (l[j]'(by omega)) (by rw [List.mem_take_iff_getElem]; exact ⟨j, by omega, rfl⟩)
  rw [ruleAt_eq (by omega : j < l.length)]
  simpa using this
theorem find_name {l : List RuleD} (h : rulesGood l = true) {k m : Nat} (hk : k < m) (hm : m ≤ l.length) : findL (l.take m) (ruleAt l (k : Int)).name = (k : Int) := by
  have hkl : k < (l.take m).length := by rw [List.length_take]; omega
  refine findL_at hkl (fun j hj hjk => ?_) ?_
  · rw [List.getElem_take, ← ruleAt_eq (by omega : j < l.length)]
    exact names_apart h hjk (by omega)
  · rw [List.getElem_take, ← ruleAt_eq (by omega : k < l.length)]
theorem kid_name {l : List RuleD} (h : rulesGood l = true) {i : Nat} (hi : i < l.length) {j : Nat} (hj : j < (ruleAt l (i : Int)).kids.length) : isName (kidB l (i : Int) (j : Int)) = true := by
  obtain ⟨k, _, h2, _, h4⟩ := kid_under (rulesGood_at h hi) hj
  unfold kidB
  rw [h4]
  exact rule_name h (by omega)
theorem kids_back {l : List RuleD} (h : rulesGood l = true) {i : Nat} (hi : i < l.length) {m : Nat} (hm : i ≤ m) (hml : m ≤ l.length) : ∀ n, n ≤ (ruleAt l (i : Int)).kids.length → kidsL (l.take m) ((List.range n).map fun j : Nat => kidL l (i : Int) (j : Int)) = some ((ruleAt l (i : Int)).kids.take n) := by
  intro n
  induction n with
  | zero => intro _; simp [kidsL]
  | succ n ih =>
    intro hn
    rw [List.range_succ, List.map_append, kidsL_append, ih (by omega)]
    obtain ⟨k, h1, h2, h3, h4⟩ := kid_under (rulesGood_at h hi) (show n < _ by omega)
    have hf : findL (l.take m) (kidL l (i : Int) (n : Int)) = (k : Int) := by rw [h4]; exact find_name h (by omega) hml
    simp only [List.map_cons, List.map_nil, kidsL, hf]
    rw [if_pos (by omega)]
    simp only [Option.map_some, Option.bind_some]
    rw [List.take_succ_eq_append_getElem (by omega), h1]

/-! The words of a line. -/
theorem args_plain {l : List RuleD} (h : rulesGood l = true) {i : Nat} (hi : i < l.length) : argsL l (i : Int) (ruleAt l (i : Int)) ≠ [] ∧ ∀ p ∈ argsL l (i : Int) (ruleAt l (i : Int)), Plainly p := by
  have hv := rulesGood_at h hi
  have hs := shape_of (validR_kind hv)
  have hkid := fun {j : Nat} => kid_name h hi (j := j)
  have hlim := limitL_range l ((ruleAt l (i : Int)).kids.getD 0 0)
  revert hs hkid hlim
  generalize ruleAt l (i : Int) = r
  intro hs hkid hlim
  have kidsCase : (r.kind = 4 ∨ r.kind = 5 ∨ r.kind = 8 ∨ r.kind = 9) → 1 ≤ r.kids.length → argsL l (i : Int) r ≠ [] ∧ ∀ p ∈ argsL l (i : Int) r, Plainly p := by
    intro hk hn
    rw [args_k hk]
    refine ⟨by simp; intro e; rw [e] at hn; simp at hn, fun p hp => ?_⟩
    obtain ⟨j, hj, rfl⟩ := List.mem_map.1 hp
    exact Plainly.name (hkid (List.mem_range.1 hj))
  rcases hs with h | h | h | h | h | h | h | h | h | h
  · rw [args_1 h.1]
    refine ⟨by simp, fun p hp => ?_⟩
    rw [List.mem_cons] at hp
    rcases hp with rfl | hp
    · exact Plainly.fmt (by omega) (by omega)
    · split at hp
      · have : p = littleB := by simpa using hp
        rw [this]; exact Plainly.name (by decide)
      · cases hp
  · rw [args_2 (.inl h.1)]
    refine ⟨by simp, fun p hp => ?_⟩
    have : p = hexL r.bytes := by simpa using hp
    rw [this]; exact Plainly.hex (by rintro e; rw [e] at h; simp at h)
  · rw [args_3 h.1]
    refine ⟨by simp, fun p hp => ?_⟩
    have : p = fmtInt r.size := by simpa using hp
    rw [this]; exact Plainly.fmt (by omega) (by omega)
  · exact kidsCase (by omega) (by omega)
  · exact kidsCase (by omega) (by omega)
  · rw [args_6 h.1]
    refine ⟨by simp; intro e; rw [e] at h; simp at h, fun p hp => ?_⟩
    obtain ⟨j, hj, rfl⟩ := List.mem_map.1 hp
    have hj' := List.mem_range.1 hj
    have hjn : j < r.names.length := by omega
    have h3 := (namesGood_at h.2.2.2.2.2.2.2 hjn).1
    unfold seqW
    rw [getD_at hjn]
    exact Plainly.pair (Plainly.name h3).2 (Plainly.name (hkid hj')).2
  · rw [args_7 h.1]
    refine ⟨by simp, fun p hp => ?_⟩
    rw [List.mem_cons] at hp
    rcases hp with rfl | hp
    · exact Plainly.name (hkid (j := 0) (by omega))
    · obtain ⟨j, hj, rfl⟩ := List.mem_map.1 hp
      have hj' := List.mem_range.1 hj
      have h3 := tagsGood_at h.2.2.2.2.2.2.2.1 hj'
      unfold choW
      rw [getD_at hj']
      have hk := (Plainly.name (hkid (j := j + 1) (by omega))).2
      exact Plainly.pair (Plainly.fmt (by omega) (by omega)).2 hk
  · exact kidsCase (by omega) (by omega)
  · exact kidsCase (by omega) (by omega)
  · rw [args_2 (.inr h.1)]
    refine ⟨by simp, fun p hp => ?_⟩
    have : p = hexL r.bytes := by simpa using hp
    rw [this]; exact Plainly.hex (by rintro e; rw [e] at h; simp at h)
theorem shape_kind {ll : List RuleD} {r : RuleD} (h : Shape ll r) : 1 ≤ r.kind ∧ r.kind ≤ 10 := by
  rcases h with h | h | h | h | h | h | h | h | h | h <;> (have := h.1; omega)
theorem wordsR_plain {l : List RuleD} (h : rulesGood l = true) {i : Nat} (hi : i < l.length) : ∀ p ∈ wordsR l (i : Int) (ruleAt l (i : Int)), Plainly p := by
  have hk := shape_kind (shape_of (validR_kind (rulesGood_at h hi)))
  intro p hp
  unfold wordsR at hp
  rw [List.mem_cons, List.mem_cons] at hp
  rcases hp with rfl | rfl | hp
  · exact Plainly.name (rule_name h hi)
  · exact Plainly.name (kind_isName hk.1 hk.2)
  · exact (args_plain h hi).2 p hp
theorem words_join {ws : List (List UInt8)} (hne : ws ≠ []) (h : ∀ p ∈ ws, (32 : UInt8) ∉ p ∧ p ≠ []) : wordsL (Lib.join ws [32]) = ws := by
  unfold wordsL
  rw [split_join hne (fun p hp => (h p hp).1)]
  rw [List.filter_eq_self]
  intro p hp
  have := (h p hp).2
  simpa using this
theorem Plainly.not32 {p : List UInt8} (h : Plainly p) : (32 : UInt8) ∉ p := fun hm => (h.2 _ hm).2 rfl
theorem Plainly.not10 {p : List UInt8} (h : Plainly p) : (10 : UInt8) ∉ p := fun hm => (h.2 _ hm).1 rfl
theorem lineL_good {l : List RuleD} (h : rulesGood l = true) {i : Nat} (hi : i < l.length) : lineL l (i : Int) = Lib.join (wordsR l (i : Int) (ruleAt l (i : Int))) [32] := by
  unfold lineL
  rw [if_pos (rulesGood_at h hi)]
theorem line_words {l : List RuleD} (h : rulesGood l = true) {i : Nat} (hi : i < l.length) : wordsL (lineL l (i : Int)) = wordsR l (i : Int) (ruleAt l (i : Int)) := by
  rw [lineL_good h hi]
  exact words_join (by unfold wordsR; simp) fun p hp => ⟨(wordsR_plain h hi p hp).not32, (wordsR_plain h hi p hp).1⟩

/-! The fields, read back. -/
theorem kindOf_kindName {k : Int} (h : 1 ≤ k ∧ k ≤ 10) : kindOf (kindName k) = k := by
  obtain ⟨j, hj⟩ : ∃ j : Nat, k = (j : Int) + 1 := ⟨(k - 1).toNat, by omega⟩
  subst hj
  rw [kindName_nat]
  exact kindUpto_at (Nat.le_refl _) (by omega) rfl
theorem cut_at {a b : List UInt8} {c : UInt8} (h : c ∉ a) : cutOk (a ++ (c :: b)) c = true ∧ cutLeft (a ++ (c :: b)) c = a ∧ cutRight (a ++ (c :: b)) c = b := by
  induction a with
  | nil => rw [List.nil_append, cutOk_cons, cutLeft_cons, cutRight_cons]; simp
  | cons x a ih =>
    simp only [List.mem_cons, not_or] at h
    obtain ⟨h1, h2, h3⟩ := ih h.2
    have hx : x ≠ c := fun e => h.1 e.symm
    rw [List.cons_append, cutOk_cons, cutLeft_cons, cutRight_cons, h1, h2, h3, if_neg hx, if_neg hx]
    simp
theorem pair_cut {a b : List UInt8} (h : (58 : UInt8) ∉ a) : sOk (mkS (a ++ (58 :: b))) = true ∧ sLeft (mkS (a ++ (58 :: b))) = mkS a ∧ sRight (mkS (a ++ (58 :: b))) = mkS b := by
  obtain ⟨h1, h2, h3⟩ := cut_at (b := b) h
  unfold sOk sLeft sRight
  rw [mkS_list, h1, h2, h3]
  exact ⟨rfl, rfl, rfl⟩
theorem name_58 {l : List UInt8} (h : isName l = true) : (58 : UInt8) ∉ l := fun hm => (name_mem h _ hm).2.2.2 rfl
theorem range_getD (l : List ByteArray) (d : ByteArray) : (List.range l.length).map (fun j => l.getD j d) = l := by
  apply List.ext_getElem
  · simp
  · intro j h1 h2
    rw [List.getElem_map, List.getElem_range, getD_at h2]
theorem range_getDi (l : List Int) (d : Int) : (List.range l.length).map (fun j => l.getD j d) = l := by
  apply List.ext_getElem
  · simp
  · intro j h1 h2
    rw [List.getElem_map, List.getElem_range, getD_at h2]
theorem rule_eq8 {r q : RuleD} (h1 : q.name = r.name) (h2 : q.kind = r.kind) (h3 : q.size = r.size) (h4 : q.little = r.little) (h5 : q.bytes = r.bytes) (h6 : q.names = r.names) (h7 : q.tags = r.tags) (h8 : q.kids = r.kids) : q = r := by
  cases q; cases r; simp_all

theorem little_mk : mkS littleB = littleS := rfl
theorem tS_kids (l : List RuleD) (i : Int) (n : Nat) : tS ((List.range n).map fun j : Nat => kidB l i (j : Int)) = (List.range n).map fun j : Nat => kidL l i (j : Int) := by
  unfold tS
  rw [List.map_map]
  apply List.map_congr_left
  intro j _
  show mkS (kidB l i (j : Int)) = kidL l i (j : Int)
  unfold kidB
  exact mkS_of _
theorem fields_back {l : List RuleD} (h : rulesGood l = true) {i : Nat} (hi : i < l.length) {m : Nat} (hm : i ≤ m) (hml : m ≤ l.length) (q : RuleD) (hq : q = ⟨(ruleAt l (i : Int)).name, (ruleAt l (i : Int)).kind, 0, false, [], [], [], []⟩) :
    fieldsP (l.take m) q (tS (argsL l (i : Int) (ruleAt l (i : Int)))) = some (ruleAt l (i : Int)) := by
  have hv := rulesGood_at h hi
  have hs := shape_of (validR_kind hv)
  have hlit : littleOk (ruleAt l (i : Int)) = true := validR_little hv
  have hkid := fun {j : Nat} => kid_name h hi (j := j)
  have hback := kids_back h hi hm hml
  have hlim := limitL_range l ((ruleAt l (i : Int)).kids.getD 0 0)
  revert hs hlit hkid hback hlim hq
  generalize ruleAt l (i : Int) = r
  intro hq hs hlit hkid hback hlim
  have hqk : q.kind = r.kind := by rw [hq]
  have hl0 : r.kind ≠ 1 → r.little = false := by
    intro hne
    unfold littleOk at hlit
    simp only [decide_eq_true_eq] at hlit
    cases hb : r.little with
    | false => rfl
    | true => exact absurd (hlit hb) hne
  have kidsCase : (r.kind = 4 ∨ r.kind = 5 ∨ r.kind = 8 ∨ r.kind = 9) → r.size = 0 → r.bytes = [] → r.names = [] → r.tags = [] → fieldsP (l.take m) q (tS (argsL l (i : Int) r)) = some r := by
    intro hk hz hb hn ht
    rw [fields_kids (by omega), args_k hk, tS_kids]
    unfold kidsP
    rw [hback _ (Nat.le_refl _), List.take_length]
    simp only [Option.map_some]
    congr 1
    subst hq
    exact rule_eq8 rfl rfl hz.symm (hl0 (by omega)).symm hb.symm hn.symm ht.symm rfl
  rcases hs with h | h | h | h | h | h | h | h | h | h
  · rw [fields_num (by omega), args_1 h.1]
    obtain ⟨p1, p2⟩ := parse_fmt_yes (m := r.size) (by omega) (by omega)
    show numP q (mkS (fmtInt r.size) :: tS (if r.little = true then [littleB] else [])) = some r
    refine Eq.trans (if_pos p1) ?_
    congr 1
    subst hq
    refine rule_eq8 rfl rfl p2 ?_ h.2.1.symm h.2.2.1.symm h.2.2.2.1.symm h.2.2.2.2.1.symm
    show decide ((tS (if r.little = true then [littleB] else [])).head? = some littleS) = r.little
    cases hb : r.little with
    | true => rw [if_pos rfl]; simp [tS, little_mk]
    | false => simp [tS]
  · rw [fields_hex (by omega), args_2 (.inl h.1)]
    show hexP q [mkS (hexL r.bytes)] = some r
    have e1 : parseBOk (hexL r.bytes) = true := by unfold parseBOk; rw [parse_hex]; rfl
    have e2 : parseB (hexL r.bytes) = r.bytes := by unfold parseB; rw [parse_hex]; rfl
    refine Eq.trans (if_pos e1) ?_
    congr 1
    subst hq
    exact rule_eq8 rfl rfl h.2.1.symm (hl0 (by omega)).symm e2 h.2.2.1.symm h.2.2.2.1.symm h.2.2.2.2.1.symm
  · rw [fields_num (by omega), args_3 h.1]
    obtain ⟨p1, p2⟩ := parse_fmt_yes (m := r.size) (by omega) (by omega)
    show numP q [mkS (fmtInt r.size)] = some r
    refine Eq.trans (if_pos p1) ?_
    congr 1
    subst hq
    refine rule_eq8 rfl rfl p2 ?_ h.2.1.symm h.2.2.1.symm h.2.2.2.1.symm h.2.2.2.2.1.symm
    rw [hl0 (by omega)]; rfl
  · exact kidsCase (by omega) h.2.1 h.2.2.1 h.2.2.2.1 h.2.2.2.2.1
  · exact kidsCase (by omega) h.2.1 h.2.2.1 h.2.2.2.1 h.2.2.2.2.1
  · rw [fields_parts (by omega), parts_seq (by omega), args_6 h.1]
    have hc : ∀ j, j < r.kids.length → sOk (mkS (seqW l (i : Int) r j)) = true ∧ sLeft (mkS (seqW l (i : Int) r j)) = r.names.getD j ⟨#[]⟩ ∧ sRight (mkS (seqW l (i : Int) r j)) = kidL l (i : Int) (j : Int) := by
      intro j hj
      have hjn : j < r.names.length := by omega
      have h3 := (namesGood_at h.2.2.2.2.2.2.2 hjn).1
      unfold seqW
      rw [getD_at hjn]
      obtain ⟨c1, c2, c3⟩ := pair_cut (b := kidB l (i : Int) (j : Int)) (name_58 h3)
      refine ⟨c1, by rw [c2, mkS_of], ?_⟩
      rw [c3]; unfold kidB; rw [mkS_of]
    have e0 : tS ((List.range r.kids.length).map (seqW l (i : Int) r)) = (List.range r.kids.length).map fun j => mkS (seqW l (i : Int) r j) := by unfold tS; rw [List.map_map]; rfl
    rw [e0]
    have a1 : ((List.range r.kids.length).map fun j => mkS (seqW l (i : Int) r j)).all sOk = true := by
      rw [List.all_eq_true]
      intro p hp
      obtain ⟨j, hj, rfl⟩ := List.mem_map.1 hp
      exact (hc j (List.mem_range.1 hj)).1
    have a2 : ((List.range r.kids.length).map fun j => mkS (seqW l (i : Int) r j)).map sLeft = r.names := by
      rw [List.map_map]
      refine Eq.trans ?_ (range_getD r.names ⟨#[]⟩)
      rw [← h.2.2.2.2.1]
      apply List.map_congr_left
      intro j hj
      have := (hc j (List.mem_range.1 hj)).2.1
      exact this
    have a3 : ((List.range r.kids.length).map fun j => mkS (seqW l (i : Int) r j)).map sRight = (List.range r.kids.length).map fun j : Nat => kidL l (i : Int) (j : Int) := by
      rw [List.map_map]
      apply List.map_congr_left
      intro j hj
      exact (hc j (List.mem_range.1 hj)).2.2
    rw [if_pos a1, a2, a3, hback _ (Nat.le_refl _), List.take_length]
    simp only [Option.map_some]
    congr 1
    subst hq
    exact rule_eq8 rfl rfl h.2.1.symm (hl0 (by omega)).symm h.2.2.1.symm rfl h.2.2.2.1.symm rfl
  · rw [fields_choice (by omega), args_7 h.1]
    have hkl : r.kids.length = r.tags.length + 1 := h.2.2.2.2.1
    have hc : ∀ j, j < r.tags.length → sOk (mkS (choW l (i : Int) r j)) = true ∧ sLeft (mkS (choW l (i : Int) r j)) = mkS (fmtInt (r.tags.getD j 0)) ∧ sRight (mkS (choW l (i : Int) r j)) = kidL l (i : Int) ((j : Int) + 1) := by
      intro j hj
      have h3 := tagsGood_at h.2.2.2.2.2.2.2.1 hj
      unfold choW
      rw [getD_at hj]
      obtain ⟨c1, c2, c3⟩ := pair_cut (a := fmtInt r.tags[j]) (b := kidB l (i : Int) ((j : Int) + 1)) (fun hm => (fmt_not (by omega) (by omega) _ hm).2.2.2 rfl)
      refine ⟨c1, c2, ?_⟩
      rw [c3]; unfold kidB; rw [mkS_of]
    have e0 : tS (kidB l (i : Int) 0 :: (List.range r.tags.length).map (choW l (i : Int) r)) = kidL l (i : Int) 0 :: (List.range r.tags.length).map fun j => mkS (choW l (i : Int) r j) := by
      unfold tS; rw [List.map_cons, List.map_map]
      congr 1
    rw [e0]
    unfold choiceP
    rw [if_neg (by simp)]
    simp only [List.take_succ_cons, List.take_zero, List.drop_succ_cons, List.drop_zero]
    have hb1 := hback 1 (by omega)
    have hr1 : ((List.range 1).map fun j : Nat => kidL l (i : Int) (j : Int)) = [kidL l (i : Int) 0] := rfl
    rw [hr1] at hb1
    unfold kidsP
    rw [hb1]
    simp only [Option.map_some, Option.bind_some]
    rw [parts_cho (by show q.kind = 7; omega)]
    have a1 : ((List.range r.tags.length).map fun j => mkS (choW l (i : Int) r j)).all sOk = true := by
      rw [List.all_eq_true]
      intro p hp
      obtain ⟨j, hj, rfl⟩ := List.mem_map.1 hp
      exact (hc j (List.mem_range.1 hj)).1
    have a2 : ((List.range r.tags.length).map fun j => mkS (choW l (i : Int) r j)).map sLeft = (List.range r.tags.length).map fun j => mkS (fmtInt (r.tags.getD j 0)) := by
      rw [List.map_map]
      apply List.map_congr_left
      intro j hj
      exact (hc j (List.mem_range.1 hj)).2.1
    have a3 : ((List.range r.tags.length).map fun j => mkS (choW l (i : Int) r j)).map sRight = (List.range r.tags.length).map fun j : Nat => kidL l (i : Int) ((j : Int) + 1) := by
      rw [List.map_map]
      apply List.map_congr_left
      intro j hj
      exact (hc j (List.mem_range.1 hj)).2.2
    have hnum : ∀ j, j < r.tags.length → tagOk (mkS (fmtInt (r.tags.getD j 0))) = true ∧ tagNum (mkS (fmtInt (r.tags.getD j 0))) = r.tags.getD j 0 := by
      intro j hj
      have h3 := tagsGood_at h.2.2.2.2.2.2.2.1 hj
      rw [getD_at hj]
      unfold tagOk tagNum
      rw [mkS_list]
      exact parse_fmt_yes (by omega) (by omega)
    have a4 : ((List.range r.tags.length).map fun j => mkS (fmtInt (r.tags.getD j 0))).all tagOk = true := by
      rw [List.all_eq_true]
      intro p hp
      obtain ⟨j, hj, rfl⟩ := List.mem_map.1 hp
      exact (hnum j (List.mem_range.1 hj)).1
    have a5 : ((List.range r.tags.length).map fun j => mkS (fmtInt (r.tags.getD j 0))).map tagNum = r.tags := by
      rw [List.map_map]
      refine Eq.trans ?_ (range_getDi r.tags 0)
      apply List.map_congr_left
      intro j hj
      exact (hnum j (List.mem_range.1 hj)).2
    have a6 : kidsL (l.take m) ((List.range r.tags.length).map fun j : Nat => kidL l (i : Int) ((j : Int) + 1)) = some (r.kids.drop 1) := by
      have hall := hback _ (Nat.le_refl _)
      rw [List.take_length, hkl, List.range_succ_eq_map, List.map_cons, List.map_map] at hall
      have e : (((fun j : Nat => kidL l (i : Int) (j : Int)) ∘ Nat.succ) : Nat → ByteArray) = fun j : Nat => kidL l (i : Int) ((j : Int) + 1) := by
        funext j
        show kidL l (i : Int) ((j.succ : Nat) : Int) = _
        congr 1
      rw [e] at hall
      simp only [kidsL] at hall
      split at hall
      · obtain ⟨x, hx, he⟩ := Option.map_eq_some_iff.1 hall
        rw [hx, ← he]; rfl
      · cases hall
    rw [a2, a3, a5, a6, if_pos ⟨a1, a4⟩]
    simp only [Option.map_some]
    congr 1
    subst hq
    refine rule_eq8 rfl rfl h.2.1.symm (hl0 (by omega)).symm h.2.2.1.symm h.2.2.2.1.symm rfl ?_
    show [] ++ r.kids.take 1 ++ r.kids.drop 1 = r.kids
    rw [List.nil_append, List.take_append_drop]
  · exact kidsCase (by omega) h.2.1 h.2.2.1 h.2.2.2.1 h.2.2.2.2.1
  · exact kidsCase (by omega) h.2.1 h.2.2.1 h.2.2.2.1 h.2.2.2.2.1
  · rw [fields_hex (by omega), args_2 (.inr h.1)]
    show hexP q [mkS (hexL r.bytes)] = some r
    have e1 : parseBOk (hexL r.bytes) = true := by unfold parseBOk; rw [parse_hex]; rfl
    have e2 : parseB (hexL r.bytes) = r.bytes := by unfold parseB; rw [parse_hex]; rfl
    refine Eq.trans (if_pos e1) ?_
    congr 1
    subst hq
    exact rule_eq8 rfl rfl h.2.1.symm (hl0 (by omega)).symm e2 h.2.2.1.symm h.2.2.2.1.symm h.2.2.2.2.1.symm

theorem rule0_of (l : List RuleD) (i : Int) (r : RuleD) (hk : 1 ≤ r.kind ∧ r.kind ≤ 10) : rule0 (wordsR l i r) = ⟨r.name, r.kind, 0, false, [], [], [], []⟩ := by
  unfold rule0 wordsR
  simp only [List.getD_cons_zero, List.getD_cons_succ]
  rw [mkS_of, mkS_of, kindOf_kindName hk]
theorem words_more {l : List RuleD} (h : rulesGood l = true) {i : Nat} (hi : i < l.length) : 3 ≤ (wordsR l (i : Int) (ruleAt l (i : Int))).length := by
  have := (args_plain h hi).1
  unfold wordsR
  cases ha : argsL l (i : Int) (ruleAt l (i : Int)) with
  | nil => exact absurd ha this
  | cons _ _ => simp
theorem parse_line {l : List RuleD} (h : rulesGood l = true) {i : Nat} (hi : i < l.length) {s : List UInt8} (hs : wordsL s = wordsL (lineL l (i : Int))) : parseI (l.take i) s = some (ruleAt l (i : Int)) := by
  have hk := shape_kind (shape_of (validR_kind (rulesGood_at h hi)))
  have h3 := words_more h hi
  unfold parseI
  rw [hs, line_words h hi, if_neg (by omega), rule0_of _ _ _ hk]
  have hd : (wordsR l (i : Int) (ruleAt l (i : Int))).drop 2 = argsL l (i : Int) (ruleAt l (i : Int)) := rfl
  rw [hd, fields_back h hi (Nat.le_refl i) (by omega) _ rfl, Option.bind_some]
  unfold lineOk
  have ht : l.take i ++ [ruleAt l (i : Int)] = l.take (i + 1) := by rw [ruleAt_eq hi, List.take_succ_eq_append_getElem hi]
  have hlen : (l.take i).length = i := by rw [List.length_take]; omega
  rw [ht, hlen, lineL_take (by omega) (by omega), lineL_good h hi, if_pos rfl]

end Go.Proofs.YtkjjgpkegihmhaaGreatDoor

namespace Go.Proofs.YtkjjgpkegihmhaaGreatDoor
open Go.RowKit
set_option linter.unusedVariables false

def linesT (l : List RuleD) (k : Nat) : List UInt8 := (List.range k).flatMap fun j : Nat => lineL l (j : Int) ++ [10]
def descT (l : List RuleD) : List UInt8 := if validD l = true then linesT l l.length else []
theorem linesT_step (l : List RuleD) (k : Nat) : linesT l (k + 1) = linesT l k ++ (lineL l (k : Int) ++ [10]) := by
  unfold linesT
  rw [List.range_succ, List.flatMap_append]
  simp
theorem linesT_len {l : List RuleD} (hn : NamesFit l) (k : Nat) : (linesT l k).length ≤ k * 12000001 := by
  induction k with
  | zero => simp [linesT]
  | succ k ih =>
    have := lineL_len hn (k : Int)
    rw [linesT_step, List.length_append, List.length_append]
    simp only [List.length_cons, List.length_nil]
    omega
end Go.Proofs.YtkjjgpkegihmhaaGreatDoor
namespace Go.Proofs.YtkjjgpkegihmhaaGreatDoor
open Go.RowKit
set_option linter.unusedVariables false
theorem name_fit {s : ByteArray} (h : isName s.data.toList = true) : s.size ≤ 12 := by
  have := isName_len h
  rw [len_of] at this
  omega
theorem valid_fits {l : List RuleD} {i : Nat} (hl : l.length ≤ 1048576) (h : validR l (i : Int) = true) : RuleFits (ruleAt l (i : Int)) ∧ RuleSmall (ruleAt l (i : Int)) ∧ (ruleAt l (i : Int)).name.size ≤ 12 := by
  have hs := shape_of (validR_kind h)
  have hn := name_fit (validR_name h)
  have hk := validR_kids h
  obtain ⟨m, hm, hml⟩ := hasL_nat (validR_has h)
  have hlim := limitL_range l ((ruleAt l (i : Int)).kids.getD 0 0)
  have hkf : ∀ x ∈ (ruleAt l (i : Int)).kids, fits x := by
    intro x hx
    unfold kidsUnder at hk
    have := List.all_eq_true.1 hk x hx
    rw [inR_iff] at this
    unfold fits
    omega
  revert hs hn hkf hlim
  generalize ruleAt l (i : Int) = r
  intro hs hn hlim hkf
  have mk : (∀ x ∈ r.names, x.size ≤ 12) → (0 ≤ r.size ∧ r.size ≤ 64) → (∀ x ∈ r.tags, fits x) → r.bytes.length ≤ 16 → r.names.length ≤ 8 → r.tags.length ≤ 8 → r.kids.length ≤ 9 → RuleFits r ∧ RuleSmall r ∧ r.name.size ≤ 12 := by
    intro h1 h2 h3 h4 h5 h6 h7
    have hkd := shape_kind hs
    refine ⟨⟨by unfold maxLen; omega, fun x hx => by have := h1 x hx; unfold maxLen; omega, by unfold fits; omega, by unfold fits; omega, h3, hkf⟩, ⟨by omega, by omega, by omega, by omega⟩, hn⟩
  have n0 : ∀ {α : Type} {l : List α}, l = [] → l.length = 0 := fun h => by rw [h]; rfl
  have m0 : ∀ {α : Type} {l : List α} {p : α → Prop}, l = [] → ∀ x ∈ l, p x := fun h x hx => by rw [h] at hx; cases hx
  rcases hs with h | h | h | h | h | h | h | h | h | h
  · exact mk (m0 h.2.2.1) (by omega) (m0 h.2.2.2.1) (by rw [h.2.1]; simp) (by rw [h.2.2.1]; simp) (by rw [h.2.2.2.1]; simp) (by rw [h.2.2.2.2.1]; simp)
  · exact mk (m0 h.2.2.1) (by omega) (m0 h.2.2.2.1) (by omega) (by rw [h.2.2.1]; simp) (by rw [h.2.2.2.1]; simp) (by rw [h.2.2.2.2.1]; simp)
  · exact mk (m0 h.2.2.1) (by omega) (m0 h.2.2.2.1) (by rw [h.2.1]; simp) (by rw [h.2.2.1]; simp) (by rw [h.2.2.2.1]; simp) (by rw [h.2.2.2.2.1]; simp)
  · exact mk (m0 h.2.2.2.1) (by omega) (m0 h.2.2.2.2.1) (by rw [h.2.2.1]; simp) (by rw [h.2.2.2.1]; simp) (by rw [h.2.2.2.2.1]; simp) (by omega)
  · exact mk (m0 h.2.2.2.1) (by omega) (m0 h.2.2.2.2.1) (by rw [h.2.2.1]; simp) (by rw [h.2.2.2.1]; simp) (by rw [h.2.2.2.2.1]; simp) (by omega)
  · refine mk (fun x hx => ?_) (by omega) (m0 h.2.2.2.1) (by rw [h.2.2.1]; simp) (by omega) (by rw [h.2.2.2.1]; simp) (by omega)
    obtain ⟨j, hj, rfl⟩ := List.getElem_of_mem hx
    exact name_fit (namesGood_at h.2.2.2.2.2.2.2 hj).1
  · refine mk (m0 h.2.2.2.1) (by omega) (fun x hx => ?_) (by rw [h.2.2.1]; simp) (by rw [h.2.2.2.1]; simp) (by omega) (by omega)
    obtain ⟨j, hj, rfl⟩ := List.getElem_of_mem hx
    have := tagsGood_at h.2.2.2.2.2.2.2.1 hj
    unfold fits
    omega
  · exact mk (m0 h.2.2.2.1) (by omega) (m0 h.2.2.2.2.1) (by rw [h.2.2.1]; simp) (by rw [h.2.2.2.1]; simp) (by rw [h.2.2.2.2.1]; simp) (by omega)
  · exact mk (m0 h.2.2.2.1) (by omega) (m0 h.2.2.2.2.1) (by rw [h.2.2.1]; simp) (by rw [h.2.2.2.1]; simp) (by rw [h.2.2.2.2.1]; simp) (by omega)
  · exact mk (m0 h.2.2.1) (by omega) (m0 h.2.2.2.1) (by omega) (by rw [h.2.2.1]; simp) (by rw [h.2.2.2.1]; simp) (by rw [h.2.2.2.2.1]; simp)
theorem good_all {l : List RuleD} (hl : l.length ≤ 1048576) (h : rulesGood l = true) : ∀ r ∈ l, RuleFits r ∧ RuleSmall r ∧ r.name.size ≤ 12 := by
  intro r hr
  obtain ⟨i, hi, rfl⟩ := List.getElem_of_mem hr
  rw [← ruleAt_eq hi]
  exact valid_fits hl (rulesGood_at h hi)
theorem good_fits {l : List RuleD} (hl : l.length ≤ 1048576) (h : rulesGood l = true) : ∀ r ∈ l, RuleFits r := fun r hr => (good_all hl h r hr).1
theorem good_small {l : List RuleD} (hl : l.length ≤ 1048576) (h : rulesGood l = true) : ∀ r ∈ l, RuleSmall r := fun r hr => (good_all hl h r hr).2.1
theorem good_names {l : List RuleD} (hl : l.length ≤ 1048576) (h : rulesGood l = true) : NamesFit l := fun r hr => by have := (good_all hl h r hr).2.2; omega

end Go.Proofs.YtkjjgpkegihmhaaGreatDoor

namespace Go.Proofs.YtkjjgpkegihmhaaGreatDoor
open Go.RowKit
set_option linter.unusedVariables false

structure Fit (r : RuleD) : Prop where
  name : r.name.size ≤ 1048576
  names : ∀ x ∈ r.names, x.size ≤ 1048576
  kind : 0 ≤ r.kind ∧ r.kind ≤ 10
  size : 0 ≤ r.size ∧ r.size ≤ 1000000000000
  tags : ∀ x ∈ r.tags, 0 ≤ x ∧ x ≤ 1000000000000
  kids : ∀ x ∈ r.kids, 0 ≤ x ∧ x ≤ 1048576
theorem Fit.fits {r : RuleD} (h : Fit r) : RuleFits r :=
  ⟨by have := h.name; unfold maxLen; omega, fun x hx => by have := h.names x hx; unfold maxLen; omega, by have := h.kind; unfold Go.Proofs.YtkjjgpkegihmhaaGreatDoor.fits; omega, by have := h.size; unfold Go.Proofs.YtkjjgpkegihmhaaGreatDoor.fits; omega,
    fun x hx => by have := h.tags x hx; unfold Go.Proofs.YtkjjgpkegihmhaaGreatDoor.fits; omega, fun x hx => by have := h.kids x hx; unfold Go.Proofs.YtkjjgpkegihmhaaGreatDoor.fits; omega⟩

theorem cutL_le (l : List UInt8) (c : UInt8) : (cutLeft l c).length ≤ l.length := by
  induction l with
  | nil => simp [cutLeft, cutIdx]
  | cons x r ih =>
    rw [cutLeft_cons]
    split <;> simp
    exact ih
theorem sLeft_le {s : ByteArray} {n : Nat} (h : s.size ≤ n) : (sLeft s).size ≤ n := by
  unfold sLeft
  rw [mkS_size]
  have := cutL_le s.data.toList 58
  rw [len_of] at this
  omega
theorem kidsL_mem {l : List RuleD} {ws : List ByteArray} {ks : List Int} (h : kidsL l ws = some ks) : ∀ k ∈ ks, 0 ≤ k ∧ k < l.length := by
  induction ws generalizing ks with
  | nil => simp [kidsL] at h; intro k hk; rw [h] at hk; cases hk
  | cons w ws ih =>
    simp only [kidsL] at h
    split at h
    · rename_i h0
      obtain ⟨x, hx, rfl⟩ := Option.map_eq_some_iff.1 h
      intro k hk
      rcases List.mem_cons.1 hk with rfl | hk
      · exact ⟨h0, (findL_range l w).2⟩
      · exact ih hx k hk
    · cases h
theorem kidsP_fit {l : List RuleD} (hl : l.length ≤ 1048576) {ws : List ByteArray} {r r' : RuleD} (hf : Fit r) (h : kidsP l r ws = some r') : Fit r' := by
  unfold kidsP at h
  obtain ⟨x, hx, rfl⟩ := Option.map_eq_some_iff.1 h
  refine ⟨hf.name, hf.names, hf.kind, hf.size, hf.tags, fun k hk => ?_⟩
  rcases List.mem_append.1 hk with hk | hk
  · exact hf.kids k hk
  · have := kidsL_mem hx k hk
    omega
theorem partP_fit {l : List RuleD} (hl : l.length ≤ 1048576) {s : ByteArray} (hs : s.size ≤ 1048576) {r r' : RuleD} (hf : Fit r) (h : partP l r s = some r') : Fit r' := by
  have hk : 0 ≤ findL l (mkS (cutRight s.data.toList 58)) → ∀ k ∈ r.kids ++ [findL l (mkS (cutRight s.data.toList 58))], 0 ≤ k ∧ k ≤ 1048576 := by
    intro h0 k hk
    rcases List.mem_append.1 hk with hk | hk
    · exact hf.kids k hk
    · have h1 := (findL_range l (mkS (cutRight s.data.toList 58))).2
      have : k = findL l (mkS (cutRight s.data.toList 58)) := by simpa using hk
      omega
  unfold partP at h
  split at h
  · rename_i hc
    split at h
    · injection h with h; subst h
      refine ⟨hf.name, fun x hx => ?_, hf.kind, hf.size, hf.tags, hk hc.2⟩
      rcases List.mem_append.1 hx with hx | hx
      · exact hf.names x hx
      · have : x = mkS (cutLeft s.data.toList 58) := by simpa using hx
        rw [this]
        exact sLeft_le hs
    · split at h
      · injection h with h; subst h
        refine ⟨hf.name, hf.names, hf.kind, hf.size, fun x hx => ?_, hk hc.2⟩
        rcases List.mem_append.1 hx with hx | hx
        · exact hf.tags x hx
        · have : x = parseNum (cutLeft s.data.toList 58) := by simpa using hx
          rw [this]
          exact parseNum_range _
      · cases h
  · cases h
theorem partsP_fit {l : List RuleD} (hl : l.length ≤ 1048576) {ws : List ByteArray} (hs : ∀ s ∈ ws, s.size ≤ 1048576) : ∀ {r r' : RuleD}, Fit r → partsP l r ws = some r' → Fit r' := by
  induction ws with
  | nil => intro r r' hf h; injection h with h; subst h; exact hf
  | cons s ws ih =>
    intro r r' hf h
    simp only [partsP] at h
    obtain ⟨x, hx, h⟩ := Option.bind_eq_some_iff.1 h
    exact ih (fun s hm => hs s (List.mem_cons_of_mem _ hm)) (partP_fit hl (hs s List.mem_cons_self) hf hx) h
theorem fieldsP_fit {l : List RuleD} (hl : l.length ≤ 1048576) {ws : List ByteArray} (hs : ∀ s ∈ ws, s.size ≤ 1048576) {r r' : RuleD} (hf : Fit r) (h : fieldsP l r ws = some r') : Fit r' := by
  unfold fieldsP at h
  split at h
  · cases ws with
    | nil => cases h
    | cons x t =>
      simp only [numP] at h
      split at h
      · injection h with h; subst h
        exact ⟨hf.name, hf.names, hf.kind, parseNum_range _, hf.tags, hf.kids⟩
      · cases h
  · split at h
    · cases ws with
      | nil => cases h
      | cons x t =>
        simp only [hexP] at h
        split at h
        · injection h with h; subst h
          exact ⟨hf.name, hf.names, hf.kind, hf.size, hf.tags, hf.kids⟩
        · cases h
    · split at h
      · exact kidsP_fit hl hf h
      · split at h
        · exact partsP_fit hl hs hf h
        · split at h
          · unfold choiceP at h
            split at h
            · cases h
            · obtain ⟨x, hx, h⟩ := Option.bind_eq_some_iff.1 h
              exact partsP_fit hl (fun s hm => hs s (List.drop_subset _ _ hm)) (kidsP_fit hl hf hx) h
          · cases h
theorem parseB_len {x : List UInt8} (h : parseBOk x = true) : 2 * (parseB x).length = x.length := by
  unfold parseBOk at h
  unfold parseB
  obtain ⟨t, ht⟩ := Option.isSome_iff_exists.1 h
  rw [ht]
  have h1 := hex_parse x.length x t (Nat.le_refl _) ht
  have h2 := hexL_len t
  rw [h1] at h2
  show 2 * t.length = x.length
  omega
theorem fieldsP_len {l : List RuleD} {ws : List ByteArray} (hs : ∀ s ∈ ws, s.size ≤ 1048576) {r r' : RuleD} (h : fieldsP l r ws = some r') (hb : r.bytes.length ≤ 1048576) :
    r'.kids.length ≤ r.kids.length + ws.length ∧ r'.names.length ≤ r.names.length + ws.length ∧ r'.tags.length ≤ r.tags.length + ws.length ∧ r'.bytes.length ≤ 1048576 := by
  have bp : ∀ {ws : List ByteArray} {r r' : RuleD}, partsP l r ws = some r' → r'.bytes = r.bytes := by
    intro ws
    induction ws with
    | nil => intro r r' h; injection h with h; subst h; rfl
    | cons s ws ih =>
      intro r r' h
      simp only [partsP] at h
      obtain ⟨x, hx, h⟩ := Option.bind_eq_some_iff.1 h
      rw [ih h]
      unfold partP at hx
      split at hx
      · split at hx
        · injection hx with hx; subst hx; rfl
        · split at hx
          · injection hx with hx; subst hx; rfl
          · cases hx
      · cases hx
  have kp : ∀ {ws : List ByteArray} {r r' : RuleD}, kidsP l r ws = some r' → r'.kids.length ≤ r.kids.length + ws.length ∧ r'.names.length ≤ r.names.length + ws.length ∧ r'.tags.length ≤ r.tags.length + ws.length ∧ r'.bytes = r.bytes := by
    intro ws r r' h
    unfold kidsP at h
    obtain ⟨x, hx, rfl⟩ := Option.map_eq_some_iff.1 h
    have := kidsL_len hx
    refine ⟨by simp; omega, by simp, by simp, rfl⟩
  unfold fieldsP at h
  split at h
  · cases ws with
    | nil => cases h
    | cons x t =>
      simp only [numP] at h
      split at h
      · injection h with h; subst h
        exact ⟨by simp, by simp, by simp, hb⟩
      · cases h
  · split at h
    · cases ws with
      | nil => cases h
      | cons x t =>
        simp only [hexP] at h
        split at h
        · rename_i hx
          injection h with h; subst h
          refine ⟨by simp, by simp, by simp, ?_⟩
          have h1 := parseB_len hx
          have h2 := hs x List.mem_cons_self
          rw [len_of] at h1
          show (parseB x.data.toList).length ≤ 1048576
          omega
        · cases h
    · split at h
      · have := kp h
        exact ⟨this.1, this.2.1, this.2.2.1, by rw [this.2.2.2]; exact hb⟩
      · split at h
        · have := partsP_len h
          exact ⟨this.1, this.2.1, this.2.2, by rw [bp h]; exact hb⟩
        · split at h
          · unfold choiceP at h
            split at h
            · cases h
            · obtain ⟨x, hx, h⟩ := Option.bind_eq_some_iff.1 h
              have h1 := kp hx
              have h2 := partsP_len h
              have h3 : (ws.take 1).length + (ws.drop 1).length = ws.length := by rw [List.length_take, List.length_drop]; omega
              exact ⟨by omega, by omega, by omega, by rw [bp h, h1.2.2.2]; exact hb⟩
          · cases h

theorem words_sizes {s : ByteArray} (h : s.size ≤ 1048576) : ∀ p ∈ tS ((wordsL s.data.toList).drop 2), p.size ≤ 1048576 := by
  intro p hp
  unfold tS at hp
  obtain ⟨q, hq, rfl⟩ := List.mem_map.1 hp
  rw [mkS_size]
  have := (wordsL_mem (List.drop_subset _ _ hq)).1
  rw [len_of] at this
  omega
theorem word_size {s : ByteArray} (h : s.size ≤ 1048576) (j : Nat) : (mkS ((wordsL s.data.toList).getD j [])).size ≤ 1048576 := by
  rw [mkS_size, List.getD_eq_getElem?_getD]
  cases hj : (wordsL s.data.toList)[j]? with
  | none => simp
  | some p =>
    have := (wordsL_mem (List.mem_of_getElem? hj)).1
    rw [len_of] at this
    show p.length ≤ _
    omega
theorem words_fit {s : ByteArray} (h : s.size ≤ 1048576) : Lib.lens (wordsL s.data.toList) + ([32] : List UInt8).length * (wordsL s.data.toList).length ≤ 35184372088832 := by
  have h1 := wordsL_len s.data.toList
  rw [len_of] at h1
  have h2 : Lib.lens (wordsL s.data.toList) ≤ 1048576 * (wordsL s.data.toList).length := lens_le fun p hp => by
    have := (wordsL_mem hp).1
    rw [len_of] at this
    omega
  have h3 : 1048576 * (wordsL s.data.toList).length ≤ 1048576 * 1048577 := Nat.mul_le_mul_left _ (by omega)
  simp only [List.length_cons, List.length_nil]
  omega
theorem rule0_fit {s : ByteArray} (h : s.size ≤ 1048576) : Fit (rule0 (wordsL s.data.toList)) :=
  ⟨word_size h 0, fun x hx => (by cases hx), kindOf_range _, ⟨Int.le_refl _, by show (0 : Int) ≤ _; omega⟩, fun x hx => (by cases hx), fun x hx => (by cases hx)⟩


end Go.Proofs.YtkjjgpkegihmhaaGreatDoor
