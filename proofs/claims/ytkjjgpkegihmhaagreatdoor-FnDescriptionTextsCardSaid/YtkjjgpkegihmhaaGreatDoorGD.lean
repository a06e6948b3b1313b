/-
  Several texts in one: Kinds, ValidPlain, ValidI, ValidS, Valid, FmtPlain, Join, FmtFit, FmtLaw, DepthPlain, FormatHex, FmtInt, Tab, Add, Push.
-/
import Derived.Test.YtkjjgpkegihmhaaGreatDoorKindI
import Derived.Test.YtkjjgpkegihmhaaGreatDoorKindS
import Derived.Test.YtkjjgpkegihmhaaGreatDoorGB
import Derived.Test.YtkjjgpkegihmhaaGreatDoorGA
import Derived.Test.YtkjjgpkegihmhaaGreatDoorProg
import Derived.Test.YtkjjgpkegihmhaaGreatDoorShelf
import Derived.WalkKit
import Derived.WalkSpells
import Derived.WalkLawsBesides
import Derived.Lib.Hide
import Derived.Laws.BitsAllLaws
import Derived.Laws.BytesArg
import Derived.Deep.RegionHeld3
import Derived.Deep.QuietTactic
import Derived.BigQuiet
import Derived.Lib.LaidTab
import Derived.Lib.ItoaNum
import Derived.KernelRfl
import Derived.WalkSmall
import Derived.Lib.AppendIntMem
import Derived.OwnWalk
namespace Go.Proofs.YtkjjgpkegihmhaaGreatDoor
open Go.RowKit
set_option linter.unusedVariables false

def kindL (ll : List RuleD) (r : RuleD) : Bool :=
  if r.kind = 1 then decide (r.bytes.length = 0 ∧ r.names.length = 0 ∧ r.tags.length = 0 ∧ (r.kids.length : Int) = 0) && (inR r.size 1 4 && (!r.little || decide (1 < r.size))) else
  if r.kind = 2 then decide (r.size = 0 ∧ r.names.length = 0 ∧ r.tags.length = 0 ∧ (r.kids.length : Int) = 0) && (inR r.bytes.length 1 16) else
  if r.kind = 3 then decide (r.bytes.length = 0 ∧ r.names.length = 0 ∧ r.tags.length = 0 ∧ (r.kids.length : Int) = 0) && (inR r.size 1 64) else
  if r.kind = 4 then decide (r.size = 0 ∧ r.bytes.length = 0 ∧ r.names.length = 0 ∧ r.tags.length = 0 ∧ (r.kids.length : Int) = 1) && (decide (0 < limitL ll (r.kids.getD 0 0))) else
  if r.kind = 5 then decide (r.size = 0 ∧ r.bytes.length = 0 ∧ r.names.length = 0 ∧ r.tags.length = 0 ∧ (r.kids.length : Int) = 2) && (decide (0 < limitL ll (r.kids.getD 0 0))) else
  if r.kind = 6 then decide (r.size = 0 ∧ r.bytes.length = 0 ∧ r.tags.length = 0) && (decide (r.kids.length = r.names.length) && (inR r.kids.length 1 8 && namesGood r.names)) else
  if r.kind = 7 then decide (r.size = 0 ∧ r.bytes.length = 0 ∧ r.names.length = 0 ∧ (r.kids.length : Int) = (r.tags.length : Int) + 1) && (inR r.tags.length 1 8 && (tagsGood r.tags (limitL ll (r.kids.getD 0 0)) && decide (0 < limitL ll (r.kids.getD 0 0)))) else
  if r.kind = 8 then decide (r.size = 0 ∧ r.bytes.length = 0 ∧ r.names.length = 0 ∧ r.tags.length = 0 ∧ (r.kids.length : Int) = 1) else
  if r.kind = 9 then decide (r.size = 0 ∧ r.bytes.length = 0 ∧ r.names.length = 0 ∧ r.tags.length = 0 ∧ (r.kids.length : Int) = 1) else
  if r.kind = 10 then decide (r.size = 0 ∧ r.names.length = 0 ∧ r.tags.length = 0 ∧ (r.kids.length : Int) = 0) && (decide (r.bytes.length = 1) && !decide (r.bytes.getD 0 0 = 92)) else
  false
theorem kindL_1 {ll : List RuleD} {r : RuleD} (h : r.kind = 1) : kindL ll r = (decide (r.bytes.length = 0 ∧ r.names.length = 0 ∧ r.tags.length = 0 ∧ (r.kids.length : Int) = 0) && (inR r.size 1 4 && (!r.little || decide (1 < r.size)))) := by
  unfold kindL
  rw [if_pos h]
theorem kindL_2 {ll : List RuleD} {r : RuleD} (h : r.kind = 2) : kindL ll r = (decide (r.size = 0 ∧ r.names.length = 0 ∧ r.tags.length = 0 ∧ (r.kids.length : Int) = 0) && (inR r.bytes.length 1 16)) := by
  unfold kindL
  rw [if_neg (show ¬ r.kind = 1 by omega)]
  rw [if_pos h]
theorem kindL_3 {ll : List RuleD} {r : RuleD} (h : r.kind = 3) : kindL ll r = (decide (r.bytes.length = 0 ∧ r.names.length = 0 ∧ r.tags.length = 0 ∧ (r.kids.length : Int) = 0) && (inR r.size 1 64)) := by
  unfold kindL
  rw [if_neg (show ¬ r.kind = 1 by omega)]
  rw [if_neg (show ¬ r.kind = 2 by omega)]
  rw [if_pos h]
theorem kindL_4 {ll : List RuleD} {r : RuleD} (h : r.kind = 4) : kindL ll r = (decide (r.size = 0 ∧ r.bytes.length = 0 ∧ r.names.length = 0 ∧ r.tags.length = 0 ∧ (r.kids.length : Int) = 1) && (decide (0 < limitL ll (r.kids.getD 0 0)))) := by
  unfold kindL
  rw [if_neg (show ¬ r.kind = 1 by omega)]
  rw [if_neg (show ¬ r.kind = 2 by omega)]
  rw [if_neg (show ¬ r.kind = 3 by omega)]
  rw [if_pos h]
theorem kindL_5 {ll : List RuleD} {r : RuleD} (h : r.kind = 5) : kindL ll r = (decide (r.size = 0 ∧ r.bytes.length = 0 ∧ r.names.length = 0 ∧ r.tags.length = 0 ∧ (r.kids.length : Int) = 2) && (decide (0 < limitL ll (r.kids.getD 0 0)))) := by
  unfold kindL
  rw [if_neg (show ¬ r.kind = 1 by omega)]
  rw [if_neg (show ¬ r.kind = 2 by omega)]
  rw [if_neg (show ¬ r.kind = 3 by omega)]
  rw [if_neg (show ¬ r.kind = 4 by omega)]
  rw [if_pos h]
theorem kindL_6 {ll : List RuleD} {r : RuleD} (h : r.kind = 6) : kindL ll r = (decide (r.size = 0 ∧ r.bytes.length = 0 ∧ r.tags.length = 0) && (decide (r.kids.length = r.names.length) && (inR r.kids.length 1 8 && namesGood r.names))) := by
  unfold kindL
  rw [if_neg (show ¬ r.kind = 1 by omega)]
  rw [if_neg (show ¬ r.kind = 2 by omega)]
  rw [if_neg (show ¬ r.kind = 3 by omega)]
  rw [if_neg (show ¬ r.kind = 4 by omega)]
  rw [if_neg (show ¬ r.kind = 5 by omega)]
  rw [if_pos h]
theorem kindL_7 {ll : List RuleD} {r : RuleD} (h : r.kind = 7) : kindL ll r = (decide (r.size = 0 ∧ r.bytes.length = 0 ∧ r.names.length = 0 ∧ (r.kids.length : Int) = (r.tags.length : Int) + 1) && (inR r.tags.length 1 8 && (tagsGood r.tags (limitL ll (r.kids.getD 0 0)) && decide (0 < limitL ll (r.kids.getD 0 0))))) := by
  unfold kindL
  rw [if_neg (show ¬ r.kind = 1 by omega)]
  rw [if_neg (show ¬ r.kind = 2 by omega)]
  rw [if_neg (show ¬ r.kind = 3 by omega)]
  rw [if_neg (show ¬ r.kind = 4 by omega)]
  rw [if_neg (show ¬ r.kind = 5 by omega)]
  rw [if_neg (show ¬ r.kind = 6 by omega)]
  rw [if_pos h]
theorem kindL_8 {ll : List RuleD} {r : RuleD} (h : r.kind = 8) : kindL ll r = (decide (r.size = 0 ∧ r.bytes.length = 0 ∧ r.names.length = 0 ∧ r.tags.length = 0 ∧ (r.kids.length : Int) = 1)) := by
  unfold kindL
  rw [if_neg (show ¬ r.kind = 1 by omega)]
  rw [if_neg (show ¬ r.kind = 2 by omega)]
  rw [if_neg (show ¬ r.kind = 3 by omega)]
  rw [if_neg (show ¬ r.kind = 4 by omega)]
  rw [if_neg (show ¬ r.kind = 5 by omega)]
  rw [if_neg (show ¬ r.kind = 6 by omega)]
  rw [if_neg (show ¬ r.kind = 7 by omega)]
  rw [if_pos h]
theorem kindL_9 {ll : List RuleD} {r : RuleD} (h : r.kind = 9) : kindL ll r = (decide (r.size = 0 ∧ r.bytes.length = 0 ∧ r.names.length = 0 ∧ r.tags.length = 0 ∧ (r.kids.length : Int) = 1)) := by
  unfold kindL
  rw [if_neg (show ¬ r.kind = 1 by omega)]
  rw [if_neg (show ¬ r.kind = 2 by omega)]
  rw [if_neg (show ¬ r.kind = 3 by omega)]
  rw [if_neg (show ¬ r.kind = 4 by omega)]
  rw [if_neg (show ¬ r.kind = 5 by omega)]
  rw [if_neg (show ¬ r.kind = 6 by omega)]
  rw [if_neg (show ¬ r.kind = 7 by omega)]
  rw [if_neg (show ¬ r.kind = 8 by omega)]
  rw [if_pos h]
theorem kindL_10 {ll : List RuleD} {r : RuleD} (h : r.kind = 10) : kindL ll r = (decide (r.size = 0 ∧ r.names.length = 0 ∧ r.tags.length = 0 ∧ (r.kids.length : Int) = 0) && (decide (r.bytes.length = 1) && !decide (r.bytes.getD 0 0 = 92))) := by
  unfold kindL
  rw [if_neg (show ¬ r.kind = 1 by omega)]
  rw [if_neg (show ¬ r.kind = 2 by omega)]
  rw [if_neg (show ¬ r.kind = 3 by omega)]
  rw [if_neg (show ¬ r.kind = 4 by omega)]
  rw [if_neg (show ¬ r.kind = 5 by omega)]
  rw [if_neg (show ¬ r.kind = 6 by omega)]
  rw [if_neg (show ¬ r.kind = 7 by omega)]
  rw [if_neg (show ¬ r.kind = 8 by omega)]
  rw [if_neg (show ¬ r.kind = 9 by omega)]
  rw [if_pos h]
theorem kindL_no {ll : List RuleD} {r : RuleD} (h : ¬ (1 ≤ r.kind ∧ r.kind ≤ 10)) : kindL ll r = false := by
  unfold kindL
  rw [if_neg (show ¬ r.kind = 1 by omega)]
  rw [if_neg (show ¬ r.kind = 2 by omega)]
  rw [if_neg (show ¬ r.kind = 3 by omega)]
  rw [if_neg (show ¬ r.kind = 4 by omega)]
  rw [if_neg (show ¬ r.kind = 5 by omega)]
  rw [if_neg (show ¬ r.kind = 6 by omega)]
  rw [if_neg (show ¬ r.kind = 7 by omega)]
  rw [if_neg (show ¬ r.kind = 8 by omega)]
  rw [if_neg (show ¬ r.kind = 9 by omega)]
  rw [if_neg (show ¬ r.kind = 10 by omega)]

def littleOk (r : RuleD) : Bool := decide (r.little = true → r.kind = 1)
theorem limitL_pos {ll : List RuleD} {k : Int} (h : 0 ≤ limitL ll k) : 0 < limitL ll k := by
  revert h
  unfold limitL limitOf
  repeat' split
  all_goals omega
theorem tags_limit {l : List Int} {ll : List RuleD} {k : Int} (hl : 1 ≤ l.length) (h : tagsGood l (limitL ll k) = true) : 0 < limitL ll k := by
  apply limitL_pos
  unfold tagsGood at h
  rw [List.all_eq_true] at h
  have h0 := h 0 (List.mem_range.2 (by omega))
  rw [tagGood_at (by omega)] at h0
  simp only [inR, Bool.and_eq_true, decide_eq_true_eq] at h0
  omega

theorem sk_1 {ll : List RuleD} {r : RuleD} (h : r.kind = 1) : (decide (r.bytes.length = 0 ∧ r.names.length = 0 ∧ r.tags.length = 0 ∧ (r.kids.length : Int) = 0 ∧ (r.little = true → r.kind = 1)) && (inR r.size 1 4 && (!r.little || decide (1 < r.size)))) = (littleOk r && kindL ll r) := by
  rw [kindL_1 h]
  unfold littleOk
  rw [Bool.eq_iff_iff]
  simp only [Bool.and_eq_true, decide_eq_true_eq, and_assoc]
  constructor
  · rintro ⟨a0, a1, a2, a3, e, z⟩
    exact ⟨e, a0, a1, a2, a3, z⟩
  · rintro ⟨e, a0, a1, a2, a3, z⟩
    exact ⟨a0, a1, a2, a3, e, z⟩
theorem sk_2 {ll : List RuleD} {r : RuleD} (h : r.kind = 2) : (decide (r.size = 0 ∧ r.names.length = 0 ∧ r.tags.length = 0 ∧ (r.kids.length : Int) = 0 ∧ (r.little = true → r.kind = 1)) && (inR r.bytes.length 1 16)) = (littleOk r && kindL ll r) := by
  rw [kindL_2 h]
  unfold littleOk
  rw [Bool.eq_iff_iff]
  simp only [Bool.and_eq_true, decide_eq_true_eq, and_assoc]
  constructor
  · rintro ⟨a0, a1, a2, a3, e, z⟩
    exact ⟨e, a0, a1, a2, a3, z⟩
  · rintro ⟨e, a0, a1, a2, a3, z⟩
    exact ⟨a0, a1, a2, a3, e, z⟩
theorem sk_3 {ll : List RuleD} {r : RuleD} (h : r.kind = 3) : (decide (r.bytes.length = 0 ∧ r.names.length = 0 ∧ r.tags.length = 0 ∧ (r.kids.length : Int) = 0 ∧ (r.little = true → r.kind = 1)) && (inR r.size 1 64)) = (littleOk r && kindL ll r) := by
  rw [kindL_3 h]
  unfold littleOk
  rw [Bool.eq_iff_iff]
  simp only [Bool.and_eq_true, decide_eq_true_eq, and_assoc]
  constructor
  · rintro ⟨a0, a1, a2, a3, e, z⟩
    exact ⟨e, a0, a1, a2, a3, z⟩
  · rintro ⟨e, a0, a1, a2, a3, z⟩
    exact ⟨a0, a1, a2, a3, e, z⟩
theorem sk_4 {ll : List RuleD} {r : RuleD} (h : r.kind = 4) : (decide (r.size = 0 ∧ r.bytes.length = 0 ∧ r.names.length = 0 ∧ r.tags.length = 0 ∧ (r.kids.length : Int) = 1 ∧ (r.little = true → r.kind = 1)) && (decide (0 < limitL ll (r.kids.getD 0 0)))) = (littleOk r && kindL ll r) := by
  rw [kindL_4 h]
  unfold littleOk
  rw [Bool.eq_iff_iff]
  simp only [Bool.and_eq_true, decide_eq_true_eq, and_assoc]
  constructor
  · rintro ⟨a0, a1, a2, a3, a4, e, z⟩
    exact ⟨e, a0, a1, a2, a3, a4, z⟩
  · rintro ⟨e, a0, a1, a2, a3, a4, z⟩
    exact ⟨a0, a1, a2, a3, a4, e, z⟩
theorem sk_5 {ll : List RuleD} {r : RuleD} (h : r.kind = 5) : (decide (r.size = 0 ∧ r.bytes.length = 0 ∧ r.names.length = 0 ∧ r.tags.length = 0 ∧ (r.kids.length : Int) = 2 ∧ (r.little = true → r.kind = 1)) && (decide (0 < limitL ll (r.kids.getD 0 0)))) = (littleOk r && kindL ll r) := by
  rw [kindL_5 h]
  unfold littleOk
  rw [Bool.eq_iff_iff]
  simp only [Bool.and_eq_true, decide_eq_true_eq, and_assoc]
  constructor
  · rintro ⟨a0, a1, a2, a3, a4, e, z⟩
    exact ⟨e, a0, a1, a2, a3, a4, z⟩
  · rintro ⟨e, a0, a1, a2, a3, a4, z⟩
    exact ⟨a0, a1, a2, a3, a4, e, z⟩
theorem sk_6 {ll : List RuleD} {r : RuleD} (h : r.kind = 6) : (decide (r.size = 0 ∧ r.bytes.length = 0 ∧ r.tags.length = 0 ∧ (r.kids.length : Int) = (r.names.length : Int) ∧ (r.little = true → r.kind = 1)) && (namesGood r.names && inR r.names.length 1 8)) = (littleOk r && kindL ll r) := by
  rw [kindL_6 h]
  unfold littleOk
  rw [Bool.eq_iff_iff]
  simp only [Bool.and_eq_true, decide_eq_true_eq]
  constructor
  · rintro ⟨⟨a, b, c, d, e⟩, f, g⟩
    have : r.kids.length = r.names.length := by omega
    rw [this]
    exact ⟨e, ⟨a, b, c⟩, rfl, g, f⟩
  · rintro ⟨e, ⟨a, b, c⟩, d, g, f⟩
    rw [d] at g
    exact ⟨⟨a, b, c, by omega, e⟩, f, g⟩
theorem sk_7 {ll : List RuleD} {r : RuleD} (h : r.kind = 7) : (decide (r.size = 0 ∧ r.bytes.length = 0 ∧ r.names.length = 0 ∧ (r.little = true → r.kind = 1)) && (decide (r.kids.length = r.tags.length + 1) && (inR r.tags.length 1 8 && tagsGood r.tags (limitL ll (r.kids.getD 0 0))))) = (littleOk r && kindL ll r) := by
  rw [kindL_7 h]
  unfold littleOk
  rw [Bool.eq_iff_iff]
  simp only [Bool.and_eq_true, decide_eq_true_eq]
  constructor
  · rintro ⟨⟨a, b, c, e⟩, d, g, f⟩
    refine ⟨e, ⟨a, b, c, by omega⟩, g, f, tags_limit ?_ f⟩
    simp only [inR, Bool.and_eq_true, decide_eq_true_eq] at g
    omega
  · rintro ⟨e, ⟨a, b, c, d⟩, g, f, _⟩
    exact ⟨⟨a, b, c, e⟩, by omega, g, f⟩
theorem sk_8 {ll : List RuleD} {r : RuleD} (h : r.kind = 8) : (decide (r.size = 0 ∧ r.bytes.length = 0 ∧ r.names.length = 0 ∧ r.tags.length = 0 ∧ (r.kids.length : Int) = 1 ∧ (r.little = true → r.kind = 1))) = (littleOk r && kindL ll r) := by
  rw [kindL_8 h]
  unfold littleOk
  rw [Bool.eq_iff_iff]
  simp only [Bool.and_eq_true, decide_eq_true_eq]
  constructor
  · rintro ⟨a0, a1, a2, a3, a4, e⟩
    exact ⟨e, a0, a1, a2, a3, a4⟩
  · rintro ⟨e, a0, a1, a2, a3, a4⟩
    exact ⟨a0, a1, a2, a3, a4, e⟩
theorem sk_9 {ll : List RuleD} {r : RuleD} (h : r.kind = 9) : (decide (r.size = 0 ∧ r.bytes.length = 0 ∧ r.names.length = 0 ∧ r.tags.length = 0 ∧ (r.kids.length : Int) = 1 ∧ (r.little = true → r.kind = 1))) = (littleOk r && kindL ll r) := by
  rw [kindL_9 h]
  unfold littleOk
  rw [Bool.eq_iff_iff]
  simp only [Bool.and_eq_true, decide_eq_true_eq]
  constructor
  · rintro ⟨a0, a1, a2, a3, a4, e⟩
    exact ⟨e, a0, a1, a2, a3, a4⟩
  · rintro ⟨e, a0, a1, a2, a3, a4⟩
    exact ⟨a0, a1, a2, a3, a4, e⟩
theorem sk_10 {ll : List RuleD} {r : RuleD} (h : r.kind = 10) : (decide (r.size = 0 ∧ r.names.length = 0 ∧ r.tags.length = 0 ∧ (r.kids.length : Int) = 0 ∧ (r.little = true → r.kind = 1)) && (decide (r.bytes.length = 1) && !decide (r.bytes.getD 0 0 = 92))) = (littleOk r && kindL ll r) := by
  rw [kindL_10 h]
  unfold littleOk
  rw [Bool.eq_iff_iff]
  simp only [Bool.and_eq_true, decide_eq_true_eq, and_assoc]
  constructor
  · rintro ⟨a0, a1, a2, a3, e, z⟩
    exact ⟨e, a0, a1, a2, a3, z⟩
  · rintro ⟨e, a0, a1, a2, a3, z⟩
    exact ⟨a0, a1, a2, a3, e, z⟩

theorem i_validKind (d : Value) (ll : List RuleD) (r : RuleD) (vb vn vt vk : Value) (hf : ∀ x ∈ r.kids, fits x) (hts : r.tags.length ≤ 1048576) (hnm : ∀ x ∈ r.names, x.size ≤ maxLen) (w : World) (hd : RdDesc w d ll) (h : RdRule w (ruleCells r vb vn vt vk) r) :
    Calls Tryz.prog 119 #[d, .agg #[.string r.name, .int .i64 r.kind, .int .i64 r.size, .bool r.little, vb, vn, vt, vk]] w
      fun e w' => e = .returned (.bool (kindL ll r)) ∧ Below w.heap.size w w' := by
  by_cases hk : 1 ≤ r.kind ∧ r.kind ≤ 10
  · have : r.kind = 1 ∨ r.kind = 2 ∨ r.kind = 3 ∨ r.kind = 4 ∨ r.kind = 5 ∨ r.kind = 6 ∨ r.kind = 7 ∨ r.kind = 8 ∨ r.kind = 9 ∨ r.kind = 10 := by omega
    rcases this with h1 | h1 | h1 | h1 | h1 | h1 | h1 | h1 | h1 | h1
    · refine (i_kind1 d ll r vb vn vt vk h1 hf hts hnm w hd h).mono ?_
      rintro e w' ⟨rfl, hb⟩
      exact ⟨by rw [(kindL_1 h1).symm], hb⟩
    · refine (i_kind2 d ll r vb vn vt vk h1 hf hts hnm w hd h).mono ?_
      rintro e w' ⟨rfl, hb⟩
      exact ⟨by rw [(kindL_2 h1).symm], hb⟩
    · refine (i_kind3 d ll r vb vn vt vk h1 hf hts hnm w hd h).mono ?_
      rintro e w' ⟨rfl, hb⟩
      exact ⟨by rw [(kindL_3 h1).symm], hb⟩
    · refine (i_kind4 d ll r vb vn vt vk h1 hf hts hnm w hd h).mono ?_
      rintro e w' ⟨rfl, hb⟩
      exact ⟨by rw [(kindL_4 h1).symm], hb⟩
    · refine (i_kind5 d ll r vb vn vt vk h1 hf hts hnm w hd h).mono ?_
      rintro e w' ⟨rfl, hb⟩
      exact ⟨by rw [(kindL_5 h1).symm], hb⟩
    · refine (i_kind6 d ll r vb vn vt vk h1 hf hts hnm w hd h).mono ?_
      rintro e w' ⟨rfl, hb⟩
      exact ⟨by rw [(kindL_6 h1).symm], hb⟩
    · refine (i_kind7 d ll r vb vn vt vk h1 hf hts hnm w hd h).mono ?_
      rintro e w' ⟨rfl, hb⟩
      exact ⟨by rw [(kindL_7 h1).symm], hb⟩
    · refine (i_kind8 d ll r vb vn vt vk h1 hf hts hnm w hd h).mono ?_
      rintro e w' ⟨rfl, hb⟩
      exact ⟨by rw [(kindL_8 h1).symm], hb⟩
    · refine (i_kind9 d ll r vb vn vt vk h1 hf hts hnm w hd h).mono ?_
      rintro e w' ⟨rfl, hb⟩
      exact ⟨by rw [(kindL_9 h1).symm], hb⟩
    · refine (i_kind10 d ll r vb vn vt vk h1 hf hts hnm w hd h).mono ?_
      rintro e w' ⟨rfl, hb⟩
      exact ⟨by rw [(kindL_10 h1).symm], hb⟩
  · obtain ⟨v, rfl, _⟩ := hd
    refine (i_kindNo v r vb vn vt vk hk w).mono ?_
    rintro e w' ⟨rfl, hb⟩
    exact ⟨by rw [kindL_no hk], hb⟩

theorem s_l4Kind (d : Value) (ll : List RuleD) (r : RuleD) (vb vn vt vk : Value) (hf : ∀ x ∈ r.kids, fits x) (hts : r.tags.length ≤ 1048576) (hnm : ∀ x ∈ r.names, x.size ≤ maxLen) (w : World) (hd : RdDesc w d ll) (h : RdRule w (ruleCells r vb vn vt vk) r) :
    Calls Tryz.prog 110 #[d, .agg #[.string r.name, .int .i64 r.kind, .int .i64 r.size, .bool r.little, vb, vn, vt, vk]] w
      fun e w' => e = .returned (.bool (littleOk r && kindL ll r)) ∧ Below w.heap.size w w' := by
  by_cases hk : 1 ≤ r.kind ∧ r.kind ≤ 10
  · have : r.kind = 1 ∨ r.kind = 2 ∨ r.kind = 3 ∨ r.kind = 4 ∨ r.kind = 5 ∨ r.kind = 6 ∨ r.kind = 7 ∨ r.kind = 8 ∨ r.kind = 9 ∨ r.kind = 10 := by omega
    rcases this with h1 | h1 | h1 | h1 | h1 | h1 | h1 | h1 | h1 | h1
    · refine (s_kind1 d ll r vb vn vt vk h1 hf hts hnm w hd h).mono ?_
      rintro e w' ⟨rfl, hb⟩
      exact ⟨by rw [sk_1 h1], hb⟩
    · refine (s_kind2 d ll r vb vn vt vk h1 hf hts hnm w hd h).mono ?_
      rintro e w' ⟨rfl, hb⟩
      exact ⟨by rw [sk_2 h1], hb⟩
    · refine (s_kind3 d ll r vb vn vt vk h1 hf hts hnm w hd h).mono ?_
      rintro e w' ⟨rfl, hb⟩
      exact ⟨by rw [sk_3 h1], hb⟩
    · refine (s_kind4 d ll r vb vn vt vk h1 hf hts hnm w hd h).mono ?_
      rintro e w' ⟨rfl, hb⟩
      exact ⟨by rw [sk_4 h1], hb⟩
    · refine (s_kind5 d ll r vb vn vt vk h1 hf hts hnm w hd h).mono ?_
      rintro e w' ⟨rfl, hb⟩
      exact ⟨by rw [sk_5 h1], hb⟩
    · refine (s_kind6 d ll r vb vn vt vk h1 hf hts hnm w hd h).mono ?_
      rintro e w' ⟨rfl, hb⟩
      exact ⟨by rw [sk_6 h1], hb⟩
    · refine (s_kind7 d ll r vb vn vt vk h1 hf hts hnm w hd h).mono ?_
      rintro e w' ⟨rfl, hb⟩
      exact ⟨by rw [sk_7 h1], hb⟩
    · refine (s_kind8 d ll r vb vn vt vk h1 hf hts hnm w hd h).mono ?_
      rintro e w' ⟨rfl, hb⟩
      exact ⟨by rw [sk_8 h1], hb⟩
    · refine (s_kind9 d ll r vb vn vt vk h1 hf hts hnm w hd h).mono ?_
      rintro e w' ⟨rfl, hb⟩
      exact ⟨by rw [sk_9 h1], hb⟩
    · refine (s_kind10 d ll r vb vn vt vk h1 hf hts hnm w hd h).mono ?_
      rintro e w' ⟨rfl, hb⟩
      exact ⟨by rw [sk_10 h1], hb⟩
  · obtain ⟨v, rfl, _⟩ := hd
    refine (s_kindNo v r vb vn vt vk hk w).mono ?_
    rintro e w' ⟨rfl, hb⟩
    exact ⟨by rw [kindL_no hk]; simp, hb⟩

end Go.Proofs.YtkjjgpkegihmhaaGreatDoor

namespace Go.Proofs.YtkjjgpkegihmhaaGreatDoor
open Go.RowKit

def nameNew (l : List RuleD) (m : Nat) : Bool := (l.take m).all fun o => decide (o.name ≠ (ruleAt l m).name)
def kidsUnder (r : RuleD) (m : Int) : Bool := r.kids.all fun k => inR k 0 (m - 1)
def validR (l : List RuleD) (i : Int) : Bool := hasL l i && (isName (ruleAt l i).name.data.toList && (littleOk (ruleAt l i) && (nameNew l i.toNat && (kidsUnder (ruleAt l i) i && kindL l (ruleAt l i)))))
theorem nameNew_all {l : List RuleD} {m : Nat} {r : RuleD} (hr : r = ruleAt l m) (h : ∀ j (h : j < l.length), j < m → l[j].name ≠ r.name) : nameNew l m = true := by
  unfold nameNew
  rw [List.all_eq_true]
  intro o ho
  obtain ⟨j, hj, rfl⟩ := List.getElem_of_mem ho
  rw [List.length_take] at hj
  rw [List.getElem_take, ← hr]
  simpa using h j (by omega) (by omega)
theorem nameNew_bad {l : List RuleD} {m k : Nat} {r : RuleD} (hr : r = ruleAt l m) (hk : k < l.length) (hkm : k < m) (h : l[k].name = r.name) : nameNew l m = false := by
  unfold nameNew
  rw [List.all_eq_false]
  refine ⟨l[k], ?_, by rw [← hr]; simp [h]⟩
  rw [List.mem_take_iff_getElem]
  exact ⟨k, by omega, rfl⟩
theorem kidsUnder_all {r : RuleD} {m : Int} (h : ∀ j (h : j < r.kids.length), inR r.kids[j] 0 (m - 1) = true) : kidsUnder r m = true := by
  unfold kidsUnder
  rw [List.all_eq_true]
  intro o ho
  obtain ⟨j, hj, rfl⟩ := List.getElem_of_mem ho
  exact h j hj
theorem kidsUnder_bad {r : RuleD} {m : Int} {k : Nat} (hk : k < r.kids.length) (h : inR r.kids[k] 0 (m - 1) = false) : kidsUnder r m = false := by
  unfold kidsUnder
  rw [List.all_eq_false]
  exact ⟨_, List.getElem_mem hk, by simp [h]⟩
theorem hasL_nat {l : List RuleD} {i : Int} (h : hasL l i = true) : ∃ m : Nat, i = m ∧ m < l.length := by
  simp only [hasL, Bool.and_eq_true, decide_eq_true_eq] at h
  exact ⟨i.toNat, by omega, by omega⟩
theorem ruleAt_mem {l : List RuleD} {m : Nat} (h : m < l.length) : ruleAt l m ∈ l := by
  rw [ruleAt_eq h]; exact List.getElem_mem h
theorem kids_at {w : World} {A : Option Addr} {n c : Nat} {l : List Int} (h : Rd w (.slice A n c) 1 l.length (cI l)) (hp : 0 < l.length) :
    ∃ b off, A = some ⟨b, off, none⟩ ∧ ∀ j (h : j < l.length), w.cell? ⟨b, off + j, none⟩ = some (.int .i64 l[j]) := by
  obtain ⟨_, A', c', e, _, _, hc⟩ := h
  injection e with e _ _
  obtain ⟨b, off, hA, hcell⟩ := hc (by rw [cI_len]; omega)
  exact ⟨b, off, by rw [e, hA], fun j hj => hcell j _ (cI_at hj)⟩

end Go.Proofs.YtkjjgpkegihmhaaGreatDoor

namespace Go.Proofs.YtkjjgpkegihmhaaGreatDoor
open Go.RowKit
set_option linter.unusedVariables false

set_option maxRecDepth 100000 in
set_option maxHeartbeats 8000000 in
theorem i_IsValidRule (d : Value) (l : List RuleD) (i : Int) (hi : -9223372036854775808 ≤ i ∧ i ≤ 9223372036854775807) (hfit : ∀ r ∈ l, RuleFits r) (hsm : ∀ r ∈ l, RuleSmall r) (w : World) (hd : RdDesc w d l) :
    Calls Tryz.prog 86 #[d, .int .i64 i] w fun e w' => e = .returned (.bool (validR l i)) ∧ Below w.heap.size w w' := by
  obtain ⟨v, rfl, hv⟩ := hd
  obtain ⟨A, c, rfl, hnc, hcm, hcell⟩ := hv.all
  unfold maxLen at hcm
  obtain ⟨F, hF⟩ : ∃ F, F = validR l i := ⟨_, rfl⟩
  rw [← hF]
  obtain ⟨w0, hw0⟩ : ∃ w0, w0 = w.alloc (.cells #[.slice A l.length c] 35) := ⟨_, rfl⟩
  have b0 : Below w.heap.size w w0 := by rw [hw0]; exact below_box
  have HC := Lib.hid hcell
  have HV := Lib.hid hv
  have x0 : Box w0 w.heap.size 35 #[.slice A l.length c] := by rw [hw0]; exact Box.new w _ _
  have B0 := Lib.hid b0
  have X0 := Lib.hid x0
  have W0 := Lib.hid hw0
  have HF := Lib.hid hF
  have HFIT := Lib.hid hfit
  have HSM := Lib.hid hsm
  obtain ⟨H, hH⟩ : ∃ H, H = hasL l i := ⟨_, rfl⟩
  have HH := Lib.hid hH
  clear hcell hv x0 b0 hw0 hF hfit hsm
  have hr := fun w h => i_hasRule (.agg #[.slice A l.length c]) l i w h
  rw [← hH] at hr
  have L1 := Lib.hid hr
  clear hr hH
  go_enter Tryz.func86, Tryz.ntmps86
  go_wp2_with fail
  rw [← W0.out]
  refine (L1.out _ ⟨_, rfl, HV.out.below B0.out⟩).mono ?_
  rintro e w1 ⟨rfl, hb1⟩
  have B1 := Lib.hid (Below.then_ B0.out hb1 (Nat.le_refl _))
  have X1 := Lib.hid (X0.out.below hb1)
  have x1 := X1.out.cell 0
  clear hb1
  cases H
  · have hfin : Hid (false = F) := by show _ = _; rw [HF.out]; unfold validR; rw [← HH.out]; rfl
    go_wp2_with fail
    go_ret
    exact ⟨ret_bool hfin.out, B1.out⟩
  · obtain ⟨m, rfl, hml⟩ := hasL_nat HH.out.symm
    have hmi : (m : Int) < (l.length : Int) := by omega
    have hm0 : (0 : Int) ≤ (m : Int) := by omega
    have hmc : (m : Int) ≤ (c : Int) := by omega
    obtain ⟨b, off, rfl, hcs⟩ := HC.out (by omega)
    obtain ⟨vb, vn, vt, vk, hr⟩ := hcs m hml
    rw [← ruleAt_eq hml] at hr
    obtain ⟨r, hr0⟩ : ∃ r, r = ruleAt l m := ⟨_, rfl⟩
    rw [← hr0] at hr
    have hmem : r ∈ l := by rw [hr0]; exact ruleAt_mem hml
    obtain ⟨⟨Ab, cb, rfl⟩, ⟨An, cn, rfl⟩, ⟨At, ct, rfl⟩, ⟨Ak, ck, rfl⟩⟩ := hr.slices
    obtain ⟨D0, D1, D2, D3, D4, D5, D6, D7⟩ := (hr.below B1.out).eight
    have HRD := Lib.hid hr.rd
    have HR0 := Lib.hid hr0
    have HRF := Lib.hid (HFIT.out r hmem)
    have HRS := Lib.hid (HSM.out r hmem)
    have HCS := Lib.hid hcs
    clear hr hcs hmem
    obtain ⟨I, hI⟩ : ∃ I, I = isName r.name.data.toList := ⟨_, rfl⟩
    have isn := fun w => i_IsName r.name w
    rw [← hI] at isn
    have ISN := Lib.hid isn
    have HI := Lib.hid hI
    obtain ⟨w2, hw2⟩ : ∃ w2, w2 = w1.alloc (.cells #[.string r.name, .int .i64 r.kind, .int .i64 r.size, .bool r.little, .slice Ab r.bytes.length cb, .slice An r.names.length cn, .slice At r.tags.length ct, .slice Ak r.kids.length ck] 30) := ⟨_, rfl⟩
    have Y2 := Lib.hid (show Box w2 w1.heap.size 30 #[.string r.name, .int .i64 r.kind, .int .i64 r.size, .bool r.little, .slice Ab r.bytes.length cb, .slice An r.names.length cn, .slice At r.tags.length ct, .slice Ak r.kids.length ck] by rw [hw2]; exact Box.new _ _ _)
    have X2 := Lib.hid (show Box w2 w.heap.size 35 #[.slice (some ⟨b, off, none⟩) l.length c] by rw [hw2]; exact X1.out.alloc _)
    have B2 := Lib.hid (show Below w.heap.size w w2 by rw [hw2]; exact B1.out.alloc B1.out.size _)
    have W2 := Lib.hid hw2
    have HF2 : Hid (F = (I && (littleOk r && (nameNew l m && (kidsUnder r m && kindL l r))))) := by
      show _ = _
      rw [HF.out, HI.out]; unfold validR; rw [← HH.out, ← HR0.out, Int.toNat_natCast]; rfl
    clear isn hI hw2 hr0
    go_wp2_with fail
    rw [← W2.out]
    refine (ISN.out _).mono ?_
    rintro e w3 ⟨rfl, hb3⟩
    have Y3 := Lib.hid (Y2.out.below hb3)
    have X3 := Lib.hid (X2.out.below hb3)
    have B3 := Lib.hid (Below.then_ B2.out hb3 (Nat.le_refl _))
    clear hb3 D0 D1 D2 D3 D4 D5 D6 D7 x1
    have e0 := Y3.out.cell 0
    have e1 := Y3.out.cell 1
    have e2 := Y3.out.cell 2
    have e3 := Y3.out.cell 3
    have e4 := Y3.out.cell 4
    have e5 := Y3.out.cell 5
    have e6 := Y3.out.cell 6
    have e7 := Y3.out.cell 7
    have x3 := X3.out.cell 0
    cases I
    · have hfin : Hid (false = F) := by show _ = _; rw [HF2.out]; rfl
      go_wp2_with fail
      go_ret
      exact ⟨ret_bool hfin.out, B3.out⟩
    · obtain ⟨lit, hlit⟩ : ∃ lit, lit = r.little := ⟨_, rfl⟩
      rw [← hlit] at e3
      have HLIT := Lib.hid hlit
      clear hlit
      cases lit
      · have hlk : Hid (littleOk r = true) := by show _ = _; unfold littleOk; rw [← HLIT.out]; simp
        go_wp2_with fail
        go_loopw [37] (fun i wr => ∃ k : Nat, k ≤ m ∧ i = .int .i64 k ∧ (∀ j (h : j < l.length), j < k → l[j].name ≠ r.name) ∧ Below w3.heap.size w3 wr) (fun i _ => m - (intOf i).toNat)
        case atStart => exact ⟨0, Nat.zero_le _, rfl, fun j _ h => absurd h (by omega), Below.refl _ _⟩
        case round =>
          obtain ⟨k, hk, rfl, hno, hbr⟩ := hrel
          have HO := Lib.hid hno
          clear hno e0 e1 e2 e3 e4 e5 e6 e7 x3
          have HBR := Lib.hid hbr
          have Y4 := Lib.hid (Y3.out.below hbr)
          have X4 := Lib.hid (X3.out.below hbr)
          have B4 := Lib.hid (Below.then_ B3.out hbr (Nat.le_refl _))
          by_cases hlt : k < m
          · have hkl : k < l.length := by omega
            obtain ⟨ub, un, ut, uk, hq⟩ := HCS.out k hkl
            obtain ⟨⟨Eb, fb, rfl⟩, ⟨En, fn, rfl⟩, ⟨Et, ft, rfl⟩, ⟨Ek, fk, rfl⟩⟩ := hq.slices
            obtain ⟨D0, D1, D2, D3, D4, D5, D6, D7⟩ := (hq.below B4.out).eight
            obtain ⟨q, hq0⟩ : ∃ q, q = l[k] := ⟨_, rfl⟩
            rw [← hq0] at D0 D1 D2 D3 D4 D5 D6 D7
            have HQ := Lib.hid hq0
            obtain ⟨w5, hw5⟩ : ∃ w5, w5 = wr.alloc (.cells #[.string q.name, .int .i64 q.kind, .int .i64 q.size, .bool q.little, .slice Eb q.bytes.length fb, .slice En q.names.length fn, .slice Et q.tags.length ft, .slice Ek q.kids.length fk] 30) := ⟨_, rfl⟩
            have y5 : (wr.alloc (.cells #[.string q.name, .int .i64 q.kind, .int .i64 q.size, .bool q.little, .slice Eb q.bytes.length fb, .slice En q.names.length fn, .slice Et q.tags.length ft, .slice Ek q.kids.length fk] 30)).cell? ⟨w1.heap.size, 0, none⟩ = some (.string r.name) := (Y4.out.alloc _).cell 0
            clear hq hbr hq0 hw5
            by_cases he : q.name = r.name
            · have hqs := str_eqs he
              have hfin : Hid (false = F) := by show _ = _; rw [HF2.out, nameNew_bad HR0.out hkl hlt (by rw [← HQ.out]; exact he), hlk.out]; rfl
              clear he
              go_wp2_with fail
              go_ret
              exact ⟨ret_bool hfin.out, B4.out.alloc B4.out.size _⟩
            · have hqs := str_ne he
              have hall : Hid (∀ j (h : j < l.length), j < k + 1 → l[j].name ≠ r.name) := by
                intro j hj hjk
                rcases Nat.lt_or_ge j k with h1 | h1
                · exact HO.out j hj h1
                · obtain rfl : j = k := by omega
                  rw [← HQ.out]; exact he
              clear he
              go_wp2_with fail
              go_roundw
              case rel => exact ⟨k + 1, by omega, by go_num, hall.out, HBR.out.alloc HBR.out.size _⟩
              case measure => simp [intOf]; omega
          · obtain rfl : k = m := by omega
            have hnn : Hid (nameNew l k = true) := nameNew_all HR0.out HO.out
            have HF3 : Hid (F = (kidsUnder r k && kindL l r)) := by show _ = _; rw [HF2.out, hnn.out, hlk.out]; rfl
            have e0 := Y4.out.cell 0
            have e1 := Y4.out.cell 1
            have e2 := Y4.out.cell 2
            have e3 := Y4.out.cell 3
            have e4 := Y4.out.cell 4
            have e5 := Y4.out.cell 5
            have e6 := Y4.out.cell 6
            have e7 := Y4.out.cell 7
            have x4 := X4.out.cell 0
            have HRK := Lib.hid ((rdRule_parts HRD.out).2.2.2.below B4.out)
            obtain ⟨p, hp⟩ : ∃ p, p = r.kids.length := ⟨_, rfl⟩
            have HP := Lib.hid hp
            have hpb : p ≤ 1048576 := by rw [hp]; exact HRS.out.2.2.2
            rw [← hp] at e7
            have HE7 := Lib.hid e7
            clear hp hbr
            go_wp2_with fail
            go_loopw [50] (fun i w6 => ∃ j : Nat, j ≤ p ∧ i = .int .i64 j ∧ (∀ t (h : t < r.kids.length), t < j → inR r.kids[t] 0 ((k : Int) - 1) = true) ∧ w6 = wr) (fun i _ => p - (intOf i).toNat)
            case atStart => exact ⟨0, Nat.zero_le _, rfl, fun j _ h => absurd h (by omega), rfl⟩
            case round =>
              obtain ⟨j, hj, rfl, hno, rfl⟩ := hrel
              have HO2 := Lib.hid hno
              clear hno
              by_cases hlt2 : j < p
              · have hjl : j < r.kids.length := by rw [← HP.out]; exact hlt2
                obtain ⟨bk, ok, rfl, hkc⟩ := kids_at HRK.out (by omega)
                have hx := hkc j hjl
                obtain ⟨kid, hkid⟩ : ∃ kid, kid = r.kids[j] := ⟨_, rfl⟩
                rw [← hkid] at hx
                have HKID := Lib.hid hkid
                clear hkc hkid
                by_cases hb : inR kid 0 ((k : Int) - 1) = true
                · have hb2 : 0 ≤ kid ∧ kid ≤ (k : Int) - 1 := by simpa [inR] using hb
                  have d1 : decide (kid < 0) = false := by simp; omega
                  have d2 : decide ((k : Int) ≤ kid) = false := by simp; omega
                  have hall : Hid (∀ t (h : t < r.kids.length), t < j + 1 → inR r.kids[t] 0 ((k : Int) - 1) = true) := by
                    intro t ht htj
                    rcases Nat.lt_or_ge t j with h1 | h1
                    · exact HO2.out t ht h1
                    · obtain rfl : t = j := by omega
                      rw [← HKID.out]; exact hb
                  clear hb hb2
                  go_wp2_with fail
                  go_roundw
                  case rel => exact ⟨j + 1, by omega, by go_num, hall.out, by first | rfl | trivial⟩
                  case measure => simp [intOf]; omega
                · have hb1 : inR kid 0 ((k : Int) - 1) = false := by simpa using hb
                  have hfin : Hid (false = F) := by show _ = _; rw [HF3.out, kidsUnder_bad hjl (by rw [← HKID.out]; exact hb1)]; rfl
                  by_cases hneg : kid < 0
                  · have d1 : decide (kid < 0) = true := by simpa using hneg
                    clear hb hb1 hneg
                    go_wp2_with fail
                    go_ret
                    exact ⟨ret_bool hfin.out, B4.out⟩
                  · have d1 : decide (kid < 0) = false := by simpa using hneg
                    have d2 : decide ((k : Int) ≤ kid) = true := by simp [inR] at hb; simp; omega
                    clear hb hb1 hneg
                    go_wp2_with fail
                    go_ret
                    exact ⟨ret_bool hfin.out, B4.out⟩
              · obtain rfl : j = p := by omega
                have hku : Hid (kidsUnder r k = true) := kidsUnder_all fun t ht => HO2.out t ht (by rw [HP.out]; exact ht)
                have vk := i_validKind (.agg #[.slice (some ⟨b, off, none⟩) l.length c]) l r _ _ _ _ HRF.out.2.2.2.2.2 HRS.out.2.2.1 HRF.out.2.1 _ ⟨_, rfl, HV.out.below B4.out⟩ (HRD.out.below B4.out)
                have VK := Lib.hid vk
                have hfin : Hid (kindL l r = F) := by show _ = _; rw [HF3.out, hku.out]; rfl
                have hpj : j = r.kids.length := HP.out
                rw [hpj] at e7
                clear vk hpj
                go_wp2_with fail
                refine VK.out.mono ?_
                rintro e w7 ⟨rfl, hb7⟩
                have B7 := Lib.hid (Below.then_ B4.out hb7 (Nat.le_refl _))
                clear hb7
                go_wp2_with fail
                go_ret
                exact ⟨ret_bool hfin.out, B7.out⟩
      · by_cases hk1 : r.kind = 1
        · have hn1 : (r.kind != 1) = false := by simp [hk1]
          have hn2 : (r.kind == 1) = true := by simp [hk1]
          have hlk : Hid (littleOk r = true) := by show _ = _; unfold littleOk; simp [hk1]
          clear hk1
          go_wp2_with fail
          go_loopw [37] (fun i wr => ∃ k : Nat, k ≤ m ∧ i = .int .i64 k ∧ (∀ j (h : j < l.length), j < k → l[j].name ≠ r.name) ∧ Below w3.heap.size w3 wr) (fun i _ => m - (intOf i).toNat)
          case atStart => exact ⟨0, Nat.zero_le _, rfl, fun j _ h => absurd h (by omega), Below.refl _ _⟩
          case round =>
            obtain ⟨k, hk, rfl, hno, hbr⟩ := hrel
            have HO := Lib.hid hno
            clear hno e0 e1 e2 e3 e4 e5 e6 e7 x3
            have HBR := Lib.hid hbr
            have Y4 := Lib.hid (Y3.out.below hbr)
            have X4 := Lib.hid (X3.out.below hbr)
            have B4 := Lib.hid (Below.then_ B3.out hbr (Nat.le_refl _))
            by_cases hlt : k < m
            · have hkl : k < l.length := by omega
              obtain ⟨ub, un, ut, uk, hq⟩ := HCS.out k hkl
              obtain ⟨⟨Eb, fb, rfl⟩, ⟨En, fn, rfl⟩, ⟨Et, ft, rfl⟩, ⟨Ek, fk, rfl⟩⟩ := hq.slices
              obtain ⟨D0, D1, D2, D3, D4, D5, D6, D7⟩ := (hq.below B4.out).eight
              obtain ⟨q, hq0⟩ : ∃ q, q = l[k] := ⟨_, rfl⟩
              rw [← hq0] at D0 D1 D2 D3 D4 D5 D6 D7
              have HQ := Lib.hid hq0
              obtain ⟨w5, hw5⟩ : ∃ w5, w5 = wr.alloc (.cells #[.string q.name, .int .i64 q.kind, .int .i64 q.size, .bool q.little, .slice Eb q.bytes.length fb, .slice En q.names.length fn, .slice Et q.tags.length ft, .slice Ek q.kids.length fk] 30) := ⟨_, rfl⟩
              have y5 : (wr.alloc (.cells #[.string q.name, .int .i64 q.kind, .int .i64 q.size, .bool q.little, .slice Eb q.bytes.length fb, .slice En q.names.length fn, .slice Et q.tags.length ft, .slice Ek q.kids.length fk] 30)).cell? ⟨w1.heap.size, 0, none⟩ = some (.string r.name) := (Y4.out.alloc _).cell 0
              clear hq hbr hq0 hw5
              by_cases he : q.name = r.name
              · have hqs := str_eqs he
                have hfin : Hid (false = F) := by show _ = _; rw [HF2.out, nameNew_bad HR0.out hkl hlt (by rw [← HQ.out]; exact he), hlk.out]; rfl
                clear he
                go_wp2_with fail
                go_ret
                exact ⟨ret_bool hfin.out, B4.out.alloc B4.out.size _⟩
              · have hqs := str_ne he
                have hall : Hid (∀ j (h : j < l.length), j < k + 1 → l[j].name ≠ r.name) := by
                  intro j hj hjk
                  rcases Nat.lt_or_ge j k with h1 | h1
                  · exact HO.out j hj h1
                  · obtain rfl : j = k := by omega
                    rw [← HQ.out]; exact he
                clear he
                go_wp2_with fail
                go_roundw
                case rel => exact ⟨k + 1, by omega, by go_num, hall.out, HBR.out.alloc HBR.out.size _⟩
                case measure => simp [intOf]; omega
            · obtain rfl : k = m := by omega
              have hnn : Hid (nameNew l k = true) := nameNew_all HR0.out HO.out
              have HF3 : Hid (F = (kidsUnder r k && kindL l r)) := by show _ = _; rw [HF2.out, hnn.out, hlk.out]; rfl
              have e0 := Y4.out.cell 0
              have e1 := Y4.out.cell 1
              have e2 := Y4.out.cell 2
              have e3 := Y4.out.cell 3
              have e4 := Y4.out.cell 4
              have e5 := Y4.out.cell 5
              have e6 := Y4.out.cell 6
              have e7 := Y4.out.cell 7
              have x4 := X4.out.cell 0
              have HRK := Lib.hid ((rdRule_parts HRD.out).2.2.2.below B4.out)
              obtain ⟨p, hp⟩ : ∃ p, p = r.kids.length := ⟨_, rfl⟩
              have HP := Lib.hid hp
              have hpb : p ≤ 1048576 := by rw [hp]; exact HRS.out.2.2.2
              rw [← hp] at e7
              have HE7 := Lib.hid e7
              clear hp hbr
              go_wp2_with fail
              go_loopw [50] (fun i w6 => ∃ j : Nat, j ≤ p ∧ i = .int .i64 j ∧ (∀ t (h : t < r.kids.length), t < j → inR r.kids[t] 0 ((k : Int) - 1) = true) ∧ w6 = wr) (fun i _ => p - (intOf i).toNat)
              case atStart => exact ⟨0, Nat.zero_le _, rfl, fun j _ h => absurd h (by omega), rfl⟩
              case round =>
                obtain ⟨j, hj, rfl, hno, rfl⟩ := hrel
                have HO2 := Lib.hid hno
                clear hno
                by_cases hlt2 : j < p
                · have hjl : j < r.kids.length := by rw [← HP.out]; exact hlt2
                  obtain ⟨bk, ok, rfl, hkc⟩ := kids_at HRK.out (by omega)
                  have hx := hkc j hjl
                  obtain ⟨kid, hkid⟩ : ∃ kid, kid = r.kids[j] := ⟨_, rfl⟩
                  rw [← hkid] at hx
                  have HKID := Lib.hid hkid
                  clear hkc hkid
                  by_cases hb : inR kid 0 ((k : Int) - 1) = true
                  · have hb2 : 0 ≤ kid ∧ kid ≤ (k : Int) - 1 := by simpa [inR] using hb
                    have d1 : decide (kid < 0) = false := by simp; omega
                    have d2 : decide ((k : Int) ≤ kid) = false := by simp; omega
                    have hall : Hid (∀ t (h : t < r.kids.length), t < j + 1 → inR r.kids[t] 0 ((k : Int) - 1) = true) := by
                      intro t ht htj
                      rcases Nat.lt_or_ge t j with h1 | h1
                      · exact HO2.out t ht h1
                      · obtain rfl : t = j := by omega
                        rw [← HKID.out]; exact hb
                    clear hb hb2
                    go_wp2_with fail
                    go_roundw
                    case rel => exact ⟨j + 1, by omega, by go_num, hall.out, by first | rfl | trivial⟩
                    case measure => simp [intOf]; omega
                  · have hb1 : inR kid 0 ((k : Int) - 1) = false := by simpa using hb
                    have hfin : Hid (false = F) := by show _ = _; rw [HF3.out, kidsUnder_bad hjl (by rw [← HKID.out]; exact hb1)]; rfl
                    by_cases hneg : kid < 0
                    · have d1 : decide (kid < 0) = true := by simpa using hneg
                      clear hb hb1 hneg
                      go_wp2_with fail
                      go_ret
                      exact ⟨ret_bool hfin.out, B4.out⟩
                    · have d1 : decide (kid < 0) = false := by simpa using hneg
                      have d2 : decide ((k : Int) ≤ kid) = true := by simp [inR] at hb; simp; omega
                      clear hb hb1 hneg
                      go_wp2_with fail
                      go_ret
                      exact ⟨ret_bool hfin.out, B4.out⟩
                · obtain rfl : j = p := by omega
                  have hku : Hid (kidsUnder r k = true) := kidsUnder_all fun t ht => HO2.out t ht (by rw [HP.out]; exact ht)
                  have vk := i_validKind (.agg #[.slice (some ⟨b, off, none⟩) l.length c]) l r _ _ _ _ HRF.out.2.2.2.2.2 HRS.out.2.2.1 HRF.out.2.1 _ ⟨_, rfl, HV.out.below B4.out⟩ (HRD.out.below B4.out)
                  have VK := Lib.hid vk
                  have hfin : Hid (kindL l r = F) := by show _ = _; rw [HF3.out, hku.out]; rfl
                  have hpj : j = r.kids.length := HP.out
                  rw [hpj] at e7
                  clear vk hpj
                  go_wp2_with fail
                  refine VK.out.mono ?_
                  rintro e w7 ⟨rfl, hb7⟩
                  have B7 := Lib.hid (Below.then_ B4.out hb7 (Nat.le_refl _))
                  clear hb7
                  go_wp2_with fail
                  go_ret
                  exact ⟨ret_bool hfin.out, B7.out⟩
        · have hn1 : (r.kind != 1) = true := by simp [hk1]
          have hn2 : (r.kind == 1) = false := by simp [hk1]
          have hn3 : decide (r.kind = 1) = false := by simp [hk1]
          have hlk : Hid (littleOk r = false) := by show _ = _; unfold littleOk; rw [← HLIT.out]; simp [hk1]
          have hfin : Hid (false = F) := by show _ = _; rw [HF2.out, hlk.out]; rfl
          clear hk1
          go_wp2_with fail
          go_ret
          exact ⟨ret_bool hfin.out, B3.out⟩

end Go.Proofs.YtkjjgpkegihmhaaGreatDoor

namespace Go.Proofs.YtkjjgpkegihmhaaGreatDoor
open Go.RowKit
set_option linter.unusedVariables false

set_option maxRecDepth 100000 in
set_option maxHeartbeats 8000000 in
theorem s_IsValidRule (d : Value) (l : List RuleD) (i : Int) (hi : -9223372036854775808 ≤ i ∧ i ≤ 9223372036854775807) (hfit : ∀ r ∈ l, RuleFits r) (hsm : ∀ r ∈ l, RuleSmall r) (w : World) (hd : RdDesc w d l) :
    Calls Tryz.prog 75 #[d, .int .i64 i] w fun e w' => e = .returned (.bool (validR l i)) ∧ Below w.heap.size w w' := by
  obtain ⟨v, rfl, hv⟩ := hd
  obtain ⟨A, c, rfl, hnc, hcm, hcell⟩ := hv.all
  unfold maxLen at hcm
  obtain ⟨F, hF⟩ : ∃ F, F = validR l i := ⟨_, rfl⟩
  rw [← hF]
  obtain ⟨w0, hw0⟩ : ∃ w0, w0 = w.alloc (.cells #[.slice A l.length c] 35) := ⟨_, rfl⟩
  have b0 : Below w.heap.size w w0 := by rw [hw0]; exact below_box
  have HC := Lib.hid hcell
  have HV := Lib.hid hv
  have x0 : Box w0 w.heap.size 35 #[.slice A l.length c] := by rw [hw0]; exact Box.new w _ _
  have B0 := Lib.hid b0
  have X0 := Lib.hid x0
  have W0 := Lib.hid hw0
  have HF := Lib.hid hF
  have HFIT := Lib.hid hfit
  have HSM := Lib.hid hsm
  obtain ⟨H, hH⟩ : ∃ H, H = hasL l i := ⟨_, rfl⟩
  have HH := Lib.hid hH
  clear hcell hv x0 b0 hw0 hF hfit hsm
  have hr := fun w => s_In i 0 ((l.length : Int) - 1) w
  rw [show inR i 0 ((l.length : Int) - 1) = H from (in_hasL l i).trans hH.symm] at hr
  have L1 := Lib.hid hr
  clear hr hH
  go_enter Tryz.func75, Tryz.ntmps75
  go_wp2_with fail
  rw [← W0.out]
  refine (L1.out _).mono ?_
  rintro e w1 ⟨rfl, hww⟩
  subst hww
  have x1 := X0.out.cell 0
  cases H
  · have hfin : Hid (false = F) := by show _ = _; rw [HF.out]; unfold validR; rw [← HH.out]; rfl
    go_wp2_with fail
    go_ret
    exact ⟨ret_bool hfin.out, B0.out⟩
  · obtain ⟨m, rfl, hml⟩ := hasL_nat HH.out.symm
    have hmi : (m : Int) < (l.length : Int) := by omega
    have hm0 : (0 : Int) ≤ (m : Int) := by omega
    obtain ⟨b, off, rfl, hcs⟩ := HC.out (by omega)
    obtain ⟨vb, vn, vt, vk, hr⟩ := hcs m hml
    rw [← ruleAt_eq hml] at hr
    obtain ⟨r, hr0⟩ : ∃ r, r = ruleAt l m := ⟨_, rfl⟩
    rw [← hr0] at hr
    have hmem : r ∈ l := by rw [hr0]; exact ruleAt_mem hml
    obtain ⟨⟨Ab, cb, rfl⟩, ⟨An, cn, rfl⟩, ⟨At, ct, rfl⟩, ⟨Ak, ck, rfl⟩⟩ := hr.slices
    obtain ⟨D0, D1, D2, D3, D4, D5, D6, D7⟩ := (hr.below B0.out).eight
    have HRD := Lib.hid hr.rd
    have HR0 := Lib.hid hr0
    have HRF := Lib.hid (HFIT.out r hmem)
    have HRS := Lib.hid (HSM.out r hmem)
    have HCS := Lib.hid hcs
    clear hr hcs hmem
    obtain ⟨I, hI⟩ : ∃ I, I = isName r.name.data.toList := ⟨_, rfl⟩
    have isn := fun w => s_IsName r.name HRF.out.1 w
    rw [← hI] at isn
    have ISN := Lib.hid isn
    have HI := Lib.hid hI
    obtain ⟨w2, hw2⟩ : ∃ w2, w2 = w0.alloc (.cells #[.string r.name, .int .i64 r.kind, .int .i64 r.size, .bool r.little, .slice Ab r.bytes.length cb, .slice An r.names.length cn, .slice At r.tags.length ct, .slice Ak r.kids.length ck] 30) := ⟨_, rfl⟩
    have Y2 := Lib.hid (show Box w2 w0.heap.size 30 #[.string r.name, .int .i64 r.kind, .int .i64 r.size, .bool r.little, .slice Ab r.bytes.length cb, .slice An r.names.length cn, .slice At r.tags.length ct, .slice Ak r.kids.length ck] by rw [hw2]; exact Box.new _ _ _)
    have X2 := Lib.hid (show Box w2 w.heap.size 35 #[.slice (some ⟨b, off, none⟩) l.length c] by rw [hw2]; exact X0.out.alloc _)
    have B2 := Lib.hid (show Below w.heap.size w w2 by rw [hw2]; exact B0.out.alloc B0.out.size _)
    have W2 := Lib.hid hw2
    have HF2 : Hid (F = (I && (littleOk r && (nameNew l m && (kidsUnder r m && kindL l r))))) := by
      show _ = _
      rw [HF.out, HI.out]; unfold validR; rw [← HH.out, ← HR0.out, Int.toNat_natCast]; rfl
    clear isn hI hw2 hr0
    go_wp2_with fail
    rw [← W2.out]
    clear D0 D1 D2 D3 D4 D5 D6 D7 x1
    go_loopw [6] (fun i wr => ∃ k : Nat, k ≤ m ∧ i = .int .i64 k ∧ (∀ j (h : j < l.length), j < k → l[j].name ≠ r.name) ∧ Below w2.heap.size w2 wr) (fun i _ => m - (intOf i).toNat)
    case atStart => exact ⟨0, Nat.zero_le _, rfl, fun j _ h => absurd h (by omega), Below.refl _ _⟩
    case round =>
      obtain ⟨k, hk, rfl, hno, hbr⟩ := hrel
      have HO := Lib.hid hno
      clear hno
      have HBR := Lib.hid hbr
      have Y4 := Lib.hid (Y2.out.below hbr)
      have X4 := Lib.hid (X2.out.below hbr)
      have B4 := Lib.hid (Below.then_ B2.out hbr (Nat.le_refl _))
      by_cases hlt : k < m
      · have hkl : k < l.length := by omega
        obtain ⟨ub, un, ut, uk, hq⟩ := HCS.out k hkl
        have D0 := (hq.below B4.out).c0
        obtain ⟨q, hq0⟩ : ∃ q, q = l[k] := ⟨_, rfl⟩
        rw [← hq0] at D0
        have HQ := Lib.hid hq0
        have x4 := X4.out.cell 0
        have y4 := Y4.out.cell 0
        have hki : (k : Int) < (l.length : Int) := by omega
        have hk0 : (0 : Int) ≤ (k : Int) := by omega
        have la := later_cell D0
        have lb := later_cell x4
        have lc := later_cell y4
        clear hq hbr hq0
        by_cases he : q.name = r.name
        · have hqs := str_eqs he
          have hfin : Hid (false = F) := by show _ = _; rw [HF2.out, nameNew_bad HR0.out hkl hlt (by rw [← HQ.out]; exact he)]; simp
          clear he
          go_wp2_with fail
          refine wp_region_later (by kernel_rfl) (by kernel_rfl) ?_
          repeat (go_big_quiet_step (fail))
          refine wpQuiet_nil ?_
          intro w5 hb5
          have B5 := Lib.hid (Below.then_ B4.out hb5 (Nat.le_refl _))
          clear la lb lc hb5
          go_wp2_with fail
          go_ret
          exact ⟨ret_bool hfin.out, B5.out⟩
        · have hqs := str_ne he
          have hall : Hid (∀ j (h : j < l.length), j < k + 1 → l[j].name ≠ r.name) := by
            intro j hj hjk
            rcases Nat.lt_or_ge j k with h1 | h1
            · exact HO.out j hj h1
            · obtain rfl : j = k := by omega
              rw [← HQ.out]; exact he
          clear he
          go_wp2_with fail
          refine wp_region_later (by kernel_rfl) (by kernel_rfl) ?_
          repeat (go_big_quiet_step (fail))
          refine wpQuiet_nil ?_
          intro w5 hb5
          have B5 := Lib.hid (Below.then_ HBR.out hb5 (Nat.le_refl _))
          clear la lb lc hb5
          go_wp2_with fail
          go_roundw
          case rel => exact ⟨k + 1, by omega, by go_num, hall.out, B5.out⟩
          case measure => simp [intOf]; omega
      · obtain rfl : k = m := by omega
        have hnn : Hid (nameNew l k = true) := nameNew_all HR0.out HO.out
        have HF3 : Hid (F = (I && (littleOk r && (kidsUnder r k && kindL l r)))) := by show _ = _; rw [HF2.out, hnn.out]; rfl
        have e7 := Y4.out.cell 7
        have HRK := Lib.hid ((rdRule_parts HRD.out).2.2.2.below B4.out)
        obtain ⟨p, hp⟩ : ∃ p, p = r.kids.length := ⟨_, rfl⟩
        have HP := Lib.hid hp
        have hpb : p ≤ 1048576 := by rw [hp]; exact HRS.out.2.2.2
        clear hp hbr
        go_wp2_with fail
        clear e7
        go_loopw [7] (fun i w6 => ∃ j : Nat, j ≤ p ∧ i = .int .i64 j ∧ (∀ t (h : t < r.kids.length), t < j → inR r.kids[t] 0 ((k : Int) - 1) = true) ∧ w6 = wr) (fun i _ => p - (intOf i).toNat)
        case atStart => exact ⟨0, Nat.zero_le _, rfl, fun j _ h => absurd h (by omega), rfl⟩
        case round =>
          obtain ⟨j, hj, rfl, hno, rfl⟩ := hrel
          have HO2 := Lib.hid hno
          clear hno
          by_cases hlt2 : j < p
          · have e7 := Y4.out.cell 7
            rw [← HP.out] at e7
            have hjl : j < r.kids.length := by rw [← HP.out]; exact hlt2
            obtain ⟨bk, ok, rfl, hkc⟩ := kids_at HRK.out (by omega)
            have hx := hkc j hjl
            obtain ⟨kid, hkid⟩ : ∃ kid, kid = r.kids[j] := ⟨_, rfl⟩
            rw [← hkid] at hx
            have HKID := Lib.hid hkid
            have s1 := fun w => s_In kid 0 ((k : Int) - 1) w
            obtain ⟨J, hJ⟩ : ∃ J, J = inR kid 0 ((k : Int) - 1) := ⟨_, rfl⟩
            rw [← hJ] at s1
            have S1 := Lib.hid s1
            have HJ := Lib.hid hJ
            clear hkc hkid s1 hJ
            go_wp2_with fail
            refine (S1.out _).mono ?_
            rintro e w7 ⟨rfl, hww⟩
            subst hww
            cases J
            · have hfin : Hid (false = F) := by show _ = _; rw [HF3.out, kidsUnder_bad hjl (by rw [← HKID.out]; exact HJ.out.symm)]; simp
              go_wp2_with fail
              go_ret
              exact ⟨ret_bool hfin.out, B4.out⟩
            · have hall : Hid (∀ t (h : t < r.kids.length), t < j + 1 → inR r.kids[t] 0 ((k : Int) - 1) = true) := by
                intro t ht htj
                rcases Nat.lt_or_ge t j with h1 | h1
                · exact HO2.out t ht h1
                · obtain rfl : t = j := by omega
                  rw [← HKID.out]; exact HJ.out.symm
              go_wp2_with fail
              go_roundw
              case rel => exact ⟨j + 1, by omega, by go_num, hall.out, by first | rfl | trivial⟩
              case measure => simp [intOf]; omega
          · obtain rfl : j = p := by omega
            have hku : Hid (kidsUnder r k = true) := kidsUnder_all fun t ht => HO2.out t ht (by rw [HP.out]; exact ht)
            have vk := s_l4Kind (.agg #[.slice (some ⟨b, off, none⟩) l.length c]) l r _ _ _ _ HRF.out.2.2.2.2.2 HRS.out.2.2.1 HRF.out.2.1 _ ⟨_, rfl, HV.out.below B4.out⟩ (HRD.out.below B4.out)
            have VK := Lib.hid vk
            have hfin : Hid ((I && (littleOk r && kindL l r)) = F) := by show _ = _; rw [HF3.out, hku.out]; rfl
            have e0 := Y4.out.cell 0
            have e1 := Y4.out.cell 1
            have e2 := Y4.out.cell 2
            have e3 := Y4.out.cell 3
            have e4 := Y4.out.cell 4
            have e5 := Y4.out.cell 5
            have e6 := Y4.out.cell 6
            have e7 := Y4.out.cell 7
            have x4 := X4.out.cell 0
            have e8 := e7
            rw [← HP.out] at e8
            have E7 := Lib.hid e7
            clear vk e7
            go_wp2_with fail
            refine (ISN.out _).mono ?_
            rintro e w7 ⟨rfl, hww⟩
            subst hww
            have e7 := E7.out
            clear e8
            cases I
            · go_wp2_with fail
              go_ret
              exact ⟨ret_bool hfin.out, B4.out⟩
            · go_wp2_with fail
              refine VK.out.mono ?_
              rintro e w7 ⟨rfl, hb7⟩
              have B7 := Lib.hid (Below.then_ B4.out hb7 (Nat.le_refl _))
              clear hb7
              go_wp2_with fail
              go_ret
              exact ⟨ret_bool hfin.out, B7.out⟩

end Go.Proofs.YtkjjgpkegihmhaaGreatDoor

namespace Go.Proofs.YtkjjgpkegihmhaaGreatDoor
open Go.RowKit
set_option linter.unusedVariables false

def rulesGood (l : List RuleD) : Bool := (List.range l.length).all fun i => validR l (i : Int)
def validD (l : List RuleD) : Bool := inR l.length 1 24 && rulesGood l
theorem rulesGood_all {l : List RuleD} (h : ∀ j, j < l.length → validR l (j : Int) = true) : rulesGood l = true := by
  unfold rulesGood
  rw [List.all_eq_true]
  intro i hi
  exact h i (List.mem_range.1 hi)
theorem rulesGood_bad {l : List RuleD} {k : Nat} (hk : k < l.length) (h : validR l (k : Int) = false) : rulesGood l = false := by
  unfold rulesGood
  rw [List.all_eq_false]
  exact ⟨k, List.mem_range.2 hk, by simp [h]⟩

set_option maxRecDepth 100000 in
set_option maxHeartbeats 4000000 in
theorem i_IsValidDescription (d : Value) (l : List RuleD) (hfit : ∀ r ∈ l, RuleFits r) (hsm : ∀ r ∈ l, RuleSmall r) (w : World) (hd : RdDesc w d l) :
    Calls Tryz.prog 63 #[d] w fun e w' => e = .returned (.bool (validD l)) ∧ Below w.heap.size w w' := by
  obtain ⟨v, rfl, hv⟩ := hd
  obtain ⟨A, c, rfl, hnc, hcm, _⟩ := hv.all
  unfold maxLen at hcm
  obtain ⟨F, hF⟩ : ∃ F, F = validD l := ⟨_, rfl⟩
  rw [← hF]
  have x0 : Box (w.alloc (.cells #[.slice A l.length c] 35)) w.heap.size 35 #[.slice A l.length c] := Box.new w _ _
  have X0 := Lib.hid x0
  have HV := Lib.hid hv
  have HF := Lib.hid hF
  obtain ⟨H, hH⟩ : ∃ H, H = inR l.length 1 24 := ⟨_, rfl⟩
  have IV := Lib.hid (fun i hi w h => i_IsValidRule (.agg #[.slice A l.length c]) l i hi hfit hsm w h)
  have hr := fun w => i_In (l.length : Int) 1 24 w
  rw [← hH] at hr
  have L1 := Lib.hid hr
  have HH := Lib.hid hH
  obtain ⟨n, hn⟩ : ∃ n, n = l.length := ⟨_, rfl⟩
  have HN := Lib.hid hn
  rw [← hn] at hnc L1 IV X0 ⊢
  clear hr hH hF hv x0 hn hfit hsm
  go_enter Tryz.func63, Tryz.ntmps63
  go_wp2_with fail
  refine (L1.out _).mono ?_
  rintro e w1 ⟨rfl, hww⟩
  subst hww
  have x1 := X0.out.cell 0
  cases H
  · have hfin : Hid (false = F) := by show _ = _; rw [HF.out]; unfold validD; rw [← HH.out]; rfl
    go_wp2_with fail
    go_ret
    exact ⟨ret_bool hfin.out, below_box⟩
  · go_wp2_with fail
    clear x1
    go_loopw [12] (fun i wr => ∃ k : Nat, k ≤ n ∧ i = .int .i64 k ∧ (∀ j, j < k → validR l (j : Int) = true) ∧ Below w.heap.size w wr ∧ Box wr w.heap.size 35 #[.slice A n c]) (fun i _ => n - (intOf i).toNat)
    case atStart => exact ⟨0, Nat.zero_le _, rfl, fun j h => absurd h (by omega), below_box, X0.out⟩
    case round =>
      obtain ⟨k, hk, rfl, hno, hbr, hb2⟩ := hrel
      have HO := Lib.hid hno
      have HBR := Lib.hid hbr
      have x4 := hb2.cell 0
      have HB2 := Lib.hid hb2
      clear hno hbr hb2
      by_cases hlt : k < n
      · have hkl : k < l.length := by rw [← HN.out]; exact hlt
        obtain ⟨V, hV⟩ : ∃ V, V = validR l (k : Int) := ⟨_, rfl⟩
        have iv := fun w h => IV.out (k : Int) (by omega) w h
        rw [← hV] at iv
        have HVV := Lib.hid hV
        have I1 := Lib.hid iv
        clear iv hV
        go_wp2_with fail
        refine (I1.out _ ⟨_, rfl, by rw [HN.out]; exact HV.out.below HBR.out⟩).mono ?_
        rintro e w5 ⟨rfl, hb5⟩
        have B5 := Lib.hid (Below.then_ HBR.out hb5 (Nat.le_refl _))
        have C5 := Lib.hid (HB2.out.below hb5)
        have x5 := C5.out.cell 0
        clear hb5 x4
        cases V
        · have hfin : Hid (false = F) := by show _ = _; rw [HF.out]; unfold validD; rw [rulesGood_bad hkl HVV.out.symm]; simp
          go_wp2_with fail
          go_ret
          exact ⟨ret_bool hfin.out, B5.out⟩
        · have hall : Hid (∀ j, j < k + 1 → validR l (j : Int) = true) := by
            intro j hjk
            rcases Nat.lt_or_ge j k with h1 | h1
            · exact HO.out j h1
            · obtain rfl : j = k := by omega
              exact HVV.out.symm
          go_wp2_with fail
          go_roundw
          case rel => exact ⟨k + 1, by omega, by go_num, hall.out, B5.out, C5.out⟩
          case measure => simp [intOf]; omega
      · obtain rfl : k = n := by omega
        have hgood : Hid (rulesGood l = true) := rulesGood_all fun j hj => HO.out j (by rw [HN.out]; exact hj)
        have hfin : Hid (true = F) := by show _ = _; rw [HF.out]; unfold validD; rw [← HH.out, hgood.out]; rfl
        go_wp2_with fail
        go_ret
        exact ⟨ret_bool hfin.out, HBR.out⟩

set_option maxRecDepth 100000 in
set_option maxHeartbeats 4000000 in
theorem s_IsValidDescription (d : Value) (l : List RuleD) (hfit : ∀ r ∈ l, RuleFits r) (hsm : ∀ r ∈ l, RuleSmall r) (w : World) (hd : RdDesc w d l) :
    Calls Tryz.prog 94 #[d] w fun e w' => e = .returned (.bool (validD l)) ∧ Below w.heap.size w w' := by
  obtain ⟨v, rfl, hv⟩ := hd
  obtain ⟨A, c, rfl, hnc, hcm, _⟩ := hv.all
  unfold maxLen at hcm
  obtain ⟨F, hF⟩ : ∃ F, F = validD l := ⟨_, rfl⟩
  rw [← hF]
  have x0 : Box (w.alloc (.cells #[.slice A l.length c] 35)) w.heap.size 35 #[.slice A l.length c] := Box.new w _ _
  have X0 := Lib.hid x0
  have HV := Lib.hid hv
  have HF := Lib.hid hF
  obtain ⟨H, hH⟩ : ∃ H, H = inR l.length 1 24 := ⟨_, rfl⟩
  have IV := Lib.hid (fun i hi w h => s_IsValidRule (.agg #[.slice A l.length c]) l i hi hfit hsm w h)
  have hr := fun w => s_In (l.length : Int) 1 24 w
  rw [← hH] at hr
  have L1 := Lib.hid hr
  have HH := Lib.hid hH
  obtain ⟨n, hn⟩ : ∃ n, n = l.length := ⟨_, rfl⟩
  have HN := Lib.hid hn
  rw [← hn] at hnc L1 IV X0 ⊢
  clear hr hH hF hv x0 hn hfit hsm
  go_enter Tryz.func94, Tryz.ntmps94
  go_wp2_with fail
  go_loopw [3] (fun i wr => ∃ k : Nat, k ≤ n ∧ i = .int .i64 k ∧ (∀ j, j < k → validR l (j : Int) = true) ∧ Below w.heap.size w wr ∧ Box wr w.heap.size 35 #[.slice A n c]) (fun i _ => n - (intOf i).toNat)
  case atStart => exact ⟨0, Nat.zero_le _, rfl, fun j h => absurd h (by omega), below_box, X0.out⟩
  case round =>
    obtain ⟨k, hk, rfl, hno, hbr, hb2⟩ := hrel
    have HO := Lib.hid hno
    have HBR := Lib.hid hbr
    have x4 := hb2.cell 0
    have HB2 := Lib.hid hb2
    clear hno hbr hb2
    by_cases hlt : k < n
    · have hkl : k < l.length := by rw [← HN.out]; exact hlt
      obtain ⟨V, hV⟩ : ∃ V, V = validR l (k : Int) := ⟨_, rfl⟩
      have iv := fun w h => IV.out (k : Int) (by omega) w h
      rw [← hV] at iv
      have HVV := Lib.hid hV
      have I1 := Lib.hid iv
      clear iv hV
      go_wp2_with fail
      refine (I1.out _ ⟨_, rfl, by rw [HN.out]; exact HV.out.below HBR.out⟩).mono ?_
      rintro e w5 ⟨rfl, hb5⟩
      have B5 := Lib.hid (Below.then_ HBR.out hb5 (Nat.le_refl _))
      have C5 := Lib.hid (HB2.out.below hb5)
      have x5 := C5.out.cell 0
      clear hb5 x4
      cases V
      · have hfin : Hid (false = F) := by show _ = _; rw [HF.out]; unfold validD; rw [rulesGood_bad hkl HVV.out.symm]; simp
        go_wp2_with fail
        go_ret
        exact ⟨ret_bool hfin.out, B5.out⟩
      · have hall : Hid (∀ j, j < k + 1 → validR l (j : Int) = true) := by
          intro j hjk
          rcases Nat.lt_or_ge j k with h1 | h1
          · exact HO.out j h1
          · obtain rfl : j = k := by omega
            exact HVV.out.symm
        go_wp2_with fail
        go_roundw
        case rel => exact ⟨k + 1, by omega, by go_num, hall.out, B5.out, C5.out⟩
        case measure => simp [intOf]; omega
    · obtain rfl : k = n := by omega
      have hgood : Hid (rulesGood l = true) := rulesGood_all fun j hj => HO.out j (by rw [HN.out]; exact hj)
      have hfin : Hid (H = F) := by show _ = _; rw [HF.out]; unfold validD; rw [← HH.out, hgood.out]; simp
      go_wp2_with fail
      refine (L1.out _).mono ?_
      rintro e w1 ⟨rfl, hww⟩
      subst hww
      go_wp2_with fail
      go_ret
      exact ⟨ret_bool hfin.out, HBR.out⟩

end Go.Proofs.YtkjjgpkegihmhaaGreatDoor

namespace Go.Proofs.YtkjjgpkegihmhaaGreatDoor
open Go.RowKit

def kidB (l : List RuleD) (i k : Int) : List UInt8 := (kidL l i k).data.toList
def littleB : List UInt8 := [108, 105, 116, 116, 108, 101]
def seqW (l : List RuleD) (i : Int) (r : RuleD) (j : Nat) : List UInt8 := (r.names.getD j ⟨#[]⟩).data.toList ++ (58 :: kidB l i (j : Int))
def choW (l : List RuleD) (i : Int) (r : RuleD) (j : Nat) : List UInt8 := fmtInt (r.tags.getD j 0) ++ (58 :: kidB l i ((j : Int) + 1))
def argsL (l : List RuleD) (i : Int) (r : RuleD) : List (List UInt8) :=
  if r.kind = 1 then fmtInt r.size :: (if r.little = true then [littleB] else []) else
  if r.kind = 2 ∨ r.kind = 10 then [hexL r.bytes] else
  if r.kind = 3 then [fmtInt r.size] else
  if r.kind = 6 then (List.range r.kids.length).map (seqW l i r) else
  if r.kind = 7 then kidB l i 0 :: (List.range r.tags.length).map (choW l i r) else
  (List.range r.kids.length).map fun j : Nat => kidB l i (j : Int)
def wordsR (l : List RuleD) (i : Int) (r : RuleD) : List (List UInt8) := r.name.data.toList :: (kindName r.kind).data.toList :: argsL l i r
def lineL (l : List RuleD) (i : Int) : List UInt8 := if validR l i = true then Lib.join (wordsR l i (ruleAt l i)) [32] else []

def NamesFit (l : List RuleD) : Prop := ∀ r ∈ l, r.name.size ≤ 1048576
theorem kidL_len {l : List RuleD} (h : NamesFit l) (i k : Int) : (kidL l i k).size ≤ 1048576 := by
  unfold kidL
  split
  · rename_i hk
    obtain ⟨m, hm, hml⟩ := hasL_nat hk.2.2.2
    rw [hm]
    exact h _ (ruleAt_mem hml)
  · exact Nat.zero_le _
theorem kidB_len {l : List RuleD} (h : NamesFit l) (i k : Int) : (kidB l i k).length ≤ 1048576 := by
  unfold kidB
  rw [len_of]
  exact kidL_len h i k
theorem isName_len {l : List UInt8} (h : isName l = true) : 1 ≤ l.length ∧ l.length ≤ 12 := by
  unfold isName at h
  simp only [Bool.and_eq_true, decide_eq_true_eq] at h
  exact h.1
theorem kindName_len (k : Int) : (kindName k).data.toList.length ≤ 10 := by
  unfold kindName kindNat
  split <;> decide

theorem validR_has {l : List RuleD} {i : Int} (h : validR l i = true) : hasL l i = true := by
  unfold validR at h; simp only [Bool.and_eq_true] at h; exact h.1
theorem validR_name {l : List RuleD} {i : Int} (h : validR l i = true) : isName (ruleAt l i).name.data.toList = true := by
  unfold validR at h; simp only [Bool.and_eq_true] at h; exact h.2.1
theorem validR_little {l : List RuleD} {i : Int} (h : validR l i = true) : littleOk (ruleAt l i) = true := by
  unfold validR at h; simp only [Bool.and_eq_true] at h; exact h.2.2.1
theorem validR_new {l : List RuleD} {i : Int} (h : validR l i = true) : nameNew l i.toNat = true := by
  unfold validR at h; simp only [Bool.and_eq_true] at h; exact h.2.2.2.1
theorem validR_kids {l : List RuleD} {i : Int} (h : validR l i = true) : kidsUnder (ruleAt l i) i = true := by
  unfold validR at h; simp only [Bool.and_eq_true] at h; exact h.2.2.2.2.1
theorem validR_kind {l : List RuleD} {i : Int} (h : validR l i = true) : kindL l (ruleAt l i) = true := by
  unfold validR at h; simp only [Bool.and_eq_true] at h; exact h.2.2.2.2.2

def Shape (ll : List RuleD) (r : RuleD) : Prop :=
  (r.kind = 1 ∧ r.bytes = [] ∧ r.names = [] ∧ r.tags = [] ∧ r.kids = [] ∧ 1 ≤ r.size ∧ r.size ≤ 4 ∧ (r.little = true → 1 < r.size)) ∨
  (r.kind = 2 ∧ r.size = 0 ∧ r.names = [] ∧ r.tags = [] ∧ r.kids = [] ∧ 1 ≤ r.bytes.length ∧ r.bytes.length ≤ 16) ∨
  (r.kind = 3 ∧ r.bytes = [] ∧ r.names = [] ∧ r.tags = [] ∧ r.kids = [] ∧ 1 ≤ r.size ∧ r.size ≤ 64) ∨
  (r.kind = 4 ∧ r.size = 0 ∧ r.bytes = [] ∧ r.names = [] ∧ r.tags = [] ∧ r.kids.length = 1 ∧ 0 < limitL ll (r.kids.getD 0 0)) ∨
  (r.kind = 5 ∧ r.size = 0 ∧ r.bytes = [] ∧ r.names = [] ∧ r.tags = [] ∧ r.kids.length = 2 ∧ 0 < limitL ll (r.kids.getD 0 0)) ∨
  (r.kind = 6 ∧ r.size = 0 ∧ r.bytes = [] ∧ r.tags = [] ∧ r.kids.length = r.names.length ∧ 1 ≤ r.kids.length ∧ r.kids.length ≤ 8 ∧ namesGood r.names = true) ∨
  (r.kind = 7 ∧ r.size = 0 ∧ r.bytes = [] ∧ r.names = [] ∧ r.kids.length = r.tags.length + 1 ∧ 1 ≤ r.tags.length ∧ r.tags.length ≤ 8 ∧ tagsGood r.tags (limitL ll (r.kids.getD 0 0)) = true ∧ 0 < limitL ll (r.kids.getD 0 0)) ∨
  (r.kind = 8 ∧ r.size = 0 ∧ r.bytes = [] ∧ r.names = [] ∧ r.tags = [] ∧ r.kids.length = 1) ∨
  (r.kind = 9 ∧ r.size = 0 ∧ r.bytes = [] ∧ r.names = [] ∧ r.tags = [] ∧ r.kids.length = 1) ∨
  (r.kind = 10 ∧ r.size = 0 ∧ r.names = [] ∧ r.tags = [] ∧ r.kids = [] ∧ r.bytes.length = 1 ∧ r.bytes.getD 0 0 ≠ 92)

theorem len0 {α : Type} {l : List α} (h : l.length = 0) : l = [] := List.eq_nil_of_length_eq_zero h
theorem len0i {α : Type} {l : List α} (h : (l.length : Int) = 0) : l = [] := List.eq_nil_of_length_eq_zero (by omega)
theorem shape_of {ll : List RuleD} {r : RuleD} (h : kindL ll r = true) : Shape ll r := by
  by_cases hk : 1 ≤ r.kind ∧ r.kind ≤ 10
  · have : r.kind = 1 ∨ r.kind = 2 ∨ r.kind = 3 ∨ r.kind = 4 ∨ r.kind = 5 ∨ r.kind = 6 ∨ r.kind = 7 ∨ r.kind = 8 ∨ r.kind = 9 ∨ r.kind = 10 := by omega
    unfold Shape
    rcases this with h1 | h1 | h1 | h1 | h1 | h1 | h1 | h1 | h1 | h1
    · rw [kindL_1 h1] at h
      simp only [Bool.and_eq_true, decide_eq_true_eq, inR_iff, Bool.or_eq_true, Bool.not_eq_true'] at h
      obtain ⟨⟨a, b, c, d⟩, ⟨e, f⟩, g⟩ := h
      refine .inl ⟨h1, len0 a, len0 b, len0 c, len0i d, e, f, fun hl => ?_⟩
      rcases g with g | g
      · rw [hl] at g; cases g
      · exact g
    · rw [kindL_2 h1] at h
      simp only [Bool.and_eq_true, decide_eq_true_eq, inR_iff] at h
      obtain ⟨⟨a, b, c, d⟩, e, f⟩ := h
      exact .inr (.inl ⟨h1, a, len0 b, len0 c, len0i d, by omega, by omega⟩)
    · rw [kindL_3 h1] at h
      simp only [Bool.and_eq_true, decide_eq_true_eq, inR_iff] at h
      obtain ⟨⟨a, b, c, d⟩, e, f⟩ := h
      exact .inr (.inr (.inl ⟨h1, len0 a, len0 b, len0 c, len0i d, e, f⟩))
    · rw [kindL_4 h1] at h
      simp only [Bool.and_eq_true, decide_eq_true_eq] at h
      obtain ⟨⟨a, b, c, d, e⟩, f⟩ := h
      exact .inr (.inr (.inr (.inl ⟨h1, a, len0 b, len0 c, len0 d, by omega, f⟩)))
    · rw [kindL_5 h1] at h
      simp only [Bool.and_eq_true, decide_eq_true_eq] at h
      obtain ⟨⟨a, b, c, d, e⟩, f⟩ := h
      exact .inr (.inr (.inr (.inr (.inl ⟨h1, a, len0 b, len0 c, len0 d, by omega, f⟩))))
    · rw [kindL_6 h1] at h
      simp only [Bool.and_eq_true, decide_eq_true_eq, inR_iff] at h
      obtain ⟨⟨a, b, c⟩, d, ⟨e, f⟩, g⟩ := h
      exact .inr (.inr (.inr (.inr (.inr (.inl ⟨h1, a, len0 b, len0 c, d, by omega, by omega, g⟩)))))
    · rw [kindL_7 h1] at h
      simp only [Bool.and_eq_true, decide_eq_true_eq, inR_iff] at h
      obtain ⟨⟨a, b, c, d⟩, ⟨e, f⟩, g, k⟩ := h
      exact .inr (.inr (.inr (.inr (.inr (.inr (.inl ⟨h1, a, len0 b, len0 c, by omega, by omega, by omega, g, k⟩))))))
    · rw [kindL_8 h1] at h
      simp only [decide_eq_true_eq] at h
      obtain ⟨a, b, c, d, e⟩ := h
      exact .inr (.inr (.inr (.inr (.inr (.inr (.inr (.inl ⟨h1, a, len0 b, len0 c, len0 d, by omega⟩)))))))
    · rw [kindL_9 h1] at h
      simp only [decide_eq_true_eq] at h
      obtain ⟨a, b, c, d, e⟩ := h
      exact .inr (.inr (.inr (.inr (.inr (.inr (.inr (.inr (.inl ⟨h1, a, len0 b, len0 c, len0 d, by omega⟩))))))))
    · rw [kindL_10 h1] at h
      simp only [Bool.and_eq_true, decide_eq_true_eq, Bool.not_eq_true', decide_eq_false_iff_not] at h
      obtain ⟨⟨a, b, c, d⟩, e, f⟩ := h
      exact .inr (.inr (.inr (.inr (.inr (.inr (.inr (.inr (.inr ⟨h1, a, len0 b, len0 c, len0i d, e, f⟩))))))))
  · rw [kindL_no hk] at h; cases h

end Go.Proofs.YtkjjgpkegihmhaaGreatDoor

namespace Go.Proofs.YtkjjgpkegihmhaaGreatDoor
open Go.RowKit
attribute [local go_sem] mkS_append mkS_size

theorem joinTail_len (sep : List UInt8) (r : List (List UInt8)) : (Lib.joinTail sep r).length = sep.length * r.length + Lib.lens r := Lib.joinTail_length sep r
theorem join_len_le (ps : List (List UInt8)) (sep : List UInt8) : (Lib.join ps sep).length ≤ Lib.lens ps + sep.length * ps.length := by
  cases ps with
  | nil => simp [Lib.join_nil]
  | cons x r =>
    rw [Lib.join_cons, List.length_append, joinTail_len]
    simp only [Lib.lens, List.map_cons, List.sum_cons, List.length_cons, Nat.mul_succ]
    omega
theorem join_take_succ (ps : List (List UInt8)) (sep : List UInt8) {k : Nat} (h : k < ps.length) (h0 : 0 < k) : Lib.join (ps.take (k + 1)) sep = Lib.join (ps.take k) sep ++ sep ++ ps[k] := by
  have hne : ps.take k ≠ [] := by
    intro e
    have := congrArg List.length e
    rw [List.length_take, List.length_nil] at this; omega
  rw [List.take_succ_eq_append_getElem h, join_snoc _ _ _ hne]
theorem join_take_one (ps : List (List UInt8)) (sep : List UInt8) (h : 0 < ps.length) : Lib.join (ps.take 1) sep = ps[0] := by
  have := List.take_succ_eq_append_getElem (l := ps) (i := 0) h
  rw [this]; simp [Lib.join_one]
theorem join_take_le (ps : List (List UInt8)) (sep : List UInt8) (k : Nat) : (Lib.join (ps.take k) sep).length ≤ Lib.lens ps + sep.length * ps.length := by
  refine Nat.le_trans (join_len_le _ _) ?_
  have h1 := Lib.lens_take_le ps k
  have h2 : (ps.take k).length ≤ ps.length := by rw [List.length_take]; omega
  have := Nat.mul_le_mul_left sep.length h2
  omega

set_option maxHeartbeats 1000000 in
theorem s_JoinText (v : Value) (ps : List (List UInt8)) (sep : List UInt8) (hn : ps.length ≤ 4194304) (hb : Lib.lens ps + sep.length * ps.length ≤ 35184372088832) (w : World) (h : Rd w v 1 ps.length (cS (tS ps))) :
    Calls Tryz.prog 36 #[v, .string (mkS sep)] w fun e w' => e = .returned (.string (mkS (Lib.join ps sep))) ∧ w = w' := by
  obtain ⟨_, A, c, rfl, hnc, hcm, hcell⟩ := h
  unfold maxLen at hcm
  have HC := Lib.hid hcell; clear hcell
  obtain ⟨n, hN⟩ : ∃ n, n = ps.length := ⟨_, rfl⟩
  rw [← hN] at hnc hn
  have hb' : ∀ k, (Lib.join (ps.take k) sep).length ≤ 35184372088832 := fun k => Nat.le_trans (join_take_le ps sep k) hb
  have HBD := Lib.hid hb'
  have HN := Lib.hid hN
  rw [← hN]
  clear hb hb' hN
  go_enter Tryz.func36, Tryz.ntmps36
  go_wp2_with fail
  go_loop [5, 6] (fun o i => ∃ k : Nat, k ≤ n ∧ i = .int .i64 k ∧ o = .string (mkS (Lib.join (ps.take k) sep))) (fun _ i => n - (intOf i).toNat)
  case atStart => exact ⟨0, Nat.zero_le _, rfl, rfl⟩
  case round =>
    obtain ⟨k, hk, rfl, rfl⟩ := hrel
    by_cases hlt : k < n
    · have hkp : k < ps.length := by rw [← HN.out]; exact hlt
      obtain ⟨b, off, rfl, hc⟩ := HC.out (by rw [cS_len, tS_len, ← HN.out]; omega)
      have hcl := hc k _ (tS_at hkp)
      obtain ⟨t, ht⟩ : ∃ t, t = ps[k] := ⟨_, rfl⟩
      rw [← ht] at hcl
      have hsz := HBD.out k
      obtain ⟨J, hJ⟩ : ∃ J, J = Lib.join (ps.take k) sep := ⟨_, rfl⟩
      rw [← hJ] at hsz ⊢
      have HJ := Lib.hid hJ
      have hsz2 := HBD.out (k + 1)
      rcases Nat.lt_or_ge k 1 with h0 | h0
      · have HF := Lib.hid (show Lib.join (ps.take (k + 1)) sep = J ++ t by
          obtain rfl : k = 0 := by omega
          rw [hJ, ht]; exact (join_take_one ps sep hkp).trans (by simp [Lib.join_nil]))
        rw [HF.out] at hsz2
        simp only [List.length_append] at hsz2
        have hd : decide ((0 : Int) < (k : Int)) = false := by simp; omega
        clear hc ht hJ
        go_wp2_with fail
        go_round
        case rel => exact ⟨k + 1, by omega, by go_num, by rw [HF.out]⟩
        case measure => simp [intOf]; omega
      · have HF := Lib.hid (show Lib.join (ps.take (k + 1)) sep = J ++ (sep ++ t) by rw [hJ, ht, ← List.append_assoc]; exact join_take_succ ps sep hkp h0)
        rw [HF.out] at hsz2
        simp only [List.length_append] at hsz2
        have hd : decide ((0 : Int) < (k : Int)) = true := by simp; omega
        clear hc ht hJ
        go_wp2_with fail
        go_round
        case rel => exact ⟨k + 1, by omega, by go_num, by rw [HF.out]⟩
        case measure => simp [intOf]; omega
    · obtain rfl : k = n := by omega
      have HF := Lib.hid (show ps.take k = ps from List.take_of_length_le (by rw [← HN.out]; exact Nat.le_refl _))
      go_wp2_with fail
      go_ret
      exact ⟨ret_str (by rw [HF.out]), rfl⟩

set_option maxHeartbeats 1000000 in
theorem i_JoinText (v : Value) (ps : List (List UInt8)) (sep : List UInt8) (hn : ps.length ≤ 4194304) (hb : Lib.lens ps + sep.length * ps.length ≤ 35184372088832) (w : World) (h : Rd w v 1 ps.length (cS (tS ps))) :
    Calls Tryz.prog 42 #[v, .string (mkS sep)] w fun e w' => e = .returned (.string (mkS (Lib.join ps sep))) ∧ Below w.heap.size w w' := by
  obtain ⟨_, A, c, rfl, hnc, hcm, hcell⟩ := h
  unfold maxLen at hcm
  have hle := Nat.le_trans (join_len_le ps sep) hb
  rcases Nat.eq_zero_or_pos ps.length with h0 | h0
  · have e0 : ps = [] := List.eq_nil_of_length_eq_zero h0
    subst e0
    clear hcell hb hle
    go_enter Tryz.func42, Tryz.ntmps42
    go_wp2_with fail
    refine (Tryz.strings_Join_none _ _ _ _).mono ?_
    rintro e w1 ⟨rfl, rfl⟩
    go_wp2_with fail
    go_ret
    exact ⟨rfl, Below.refl _ _⟩
  · obtain ⟨b, off, rfl, hc⟩ := hcell (by rw [cS_len, tS_len]; exact h0)
    have hJ := Tryz.strings_Join b off c (tS ps) (mkS sep) w (fun j x hx => by
      rw [hc j (.string x) (by simp [cS, hx])]) (by
      have h1 := hc 0 _ (tS_at h0)
      exact World.block_lt_of_cell? w _ h1) (by rw [tS_len]; omega) (by rw [tS_len]; exact hnc) (by rw [tS_data, mkS_list]; omega)
    rw [tS_data, mkS_list, tS_len] at hJ
    have HJ := Lib.hid hJ
    clear hcell hc hJ
    go_enter Tryz.func42, Tryz.ntmps42
    go_wp2_with fail
    refine HJ.out.mono ?_
    rintro e w1 ⟨rfl, hb1⟩
    go_wp2_with fail
    go_ret
    exact ⟨rfl, hb1⟩

end Go.Proofs.YtkjjgpkegihmhaaGreatDoor

namespace Go.Proofs.YtkjjgpkegihmhaaGreatDoor
open Go.RowKit

theorem args_1 {l : List RuleD} {i : Int} {r : RuleD} (h : r.kind = 1) : argsL l i r = fmtInt r.size :: (if r.little = true then [littleB] else []) := by
  unfold argsL; rw [if_pos h]
theorem args_2 {l : List RuleD} {i : Int} {r : RuleD} (h : r.kind = 2 ∨ r.kind = 10) : argsL l i r = [hexL r.bytes] := by
  unfold argsL; rw [if_neg (by omega), if_pos h]
theorem args_3 {l : List RuleD} {i : Int} {r : RuleD} (h : r.kind = 3) : argsL l i r = [fmtInt r.size] := by
  unfold argsL; rw [if_neg (by omega), if_neg (by omega), if_pos h]
theorem args_6 {l : List RuleD} {i : Int} {r : RuleD} (h : r.kind = 6) : argsL l i r = (List.range r.kids.length).map (seqW l i r) := by
  unfold argsL; rw [if_neg (by omega), if_neg (by omega), if_neg (by omega), if_pos h]
theorem args_7 {l : List RuleD} {i : Int} {r : RuleD} (h : r.kind = 7) : argsL l i r = kidB l i 0 :: (List.range r.tags.length).map (choW l i r) := by
  unfold argsL; rw [if_neg (by omega), if_neg (by omega), if_neg (by omega), if_neg (by omega), if_pos h]
theorem args_k {l : List RuleD} {i : Int} {r : RuleD} (h : r.kind = 4 ∨ r.kind = 5 ∨ r.kind = 8 ∨ r.kind = 9) : argsL l i r = (List.range r.kids.length).map fun j : Nat => kidB l i (j : Int) := by
  unfold argsL; rw [if_neg (by omega), if_neg (by omega), if_neg (by omega), if_neg (by omega), if_neg (by omega)]
theorem args_k1 {l : List RuleD} {i : Int} {r : RuleD} (h : r.kind = 4 ∨ r.kind = 8 ∨ r.kind = 9) (hk : r.kids.length = 1) : argsL l i r = [kidB l i 0] := by
  rw [args_k (by omega), hk]; rfl
theorem args_k2 {l : List RuleD} {i : Int} {r : RuleD} (h : r.kind = 5) (hk : r.kids.length = 2) : argsL l i r = [kidB l i 0, kidB l i 1] := by
  rw [args_k (by omega), hk]; rfl

theorem lens_le {M : Nat} {ps : List (List UInt8)} (h : ∀ p ∈ ps, p.length ≤ M) : Lib.lens ps ≤ M * ps.length := by
  induction ps with
  | nil => simp [Lib.lens]
  | cons p ps ih =>
    have h1 := h p List.mem_cons_self
    have h2 := ih fun q hq => h q (List.mem_cons_of_mem _ hq)
    simp only [Lib.lens, List.map_cons, List.sum_cons, List.length_cons, Nat.mul_succ] at h2 ⊢
    omega
theorem namesGood_at {l : List ByteArray} (h : namesGood l = true) {j : Nat} (hj : j < l.length) : isName l[j].data.toList = true ∧ l[j] ∉ l.take j := by
  unfold namesGood at h
  rw [List.all_eq_true] at h
  have h1 := h j (List.mem_range.2 hj)
  rw [nameGood_at hj] at h1
  simp only [Bool.and_eq_true, Bool.not_eq_true'] at h1
  exact ⟨h1.1, fun hm => by rw [hasText_iff.2 hm] at h1; exact absurd h1.2 (by simp)⟩
theorem tagsGood_at {l : List Int} {lim : Int} (h : tagsGood l lim = true) {j : Nat} (hj : j < l.length) : 0 ≤ l[j] ∧ l[j] ≤ lim := by
  unfold tagsGood at h
  rw [List.all_eq_true] at h
  have h1 := h j (List.mem_range.2 hj)
  rw [tagGood_at hj] at h1
  simp only [Bool.and_eq_true, inR_iff] at h1
  exact h1.1
theorem getD_at {α : Type} {l : List α} {d : α} {j : Nat} (h : j < l.length) : l.getD j d = l[j] := by
  rw [List.getD_eq_getElem?_getD, List.getElem?_eq_getElem h]; rfl

theorem wordsR_fit {l : List RuleD} {i : Int} (hv : validR l i = true) (hn : NamesFit l) :
    (∀ p ∈ wordsR l i (ruleAt l i), p.length ≤ 1048600) ∧ (wordsR l i (ruleAt l i)).length ≤ 11 := by
  have h1 := isName_len (validR_name hv)
  have hs := shape_of (validR_kind hv)
  have h2 := kindName_len (ruleAt l i).kind
  revert h1 hs h2
  generalize ruleAt l i = r
  intro h1 hs h2
  have key : (∀ p ∈ argsL l i r, p.length ≤ 1048600) ∧ (argsL l i r).length ≤ 9 := by
    have hkid : ∀ k, (kidB l i k).length ≤ 1048576 := fun k => kidB_len hn i k
    have hnum : ∀ n : Int, 0 ≤ n → n ≤ 4294967295 → (fmtInt n).length ≤ 20 := fun n h0 h3 => fmtInt_len ⟨by omega, by omega⟩
    have hlim := limitL_range l (r.kids.getD 0 0)
    rcases hs with h | h | h | h | h | h | h | h | h | h
    · rw [args_1 h.1]
      refine ⟨fun p hp => ?_, by split <;> simp⟩
      have h3 := hnum r.size (by omega) (by omega)
      rw [List.mem_cons] at hp
      rcases hp with rfl | hp
      · omega
      · split at hp
        · have : p = littleB := by simpa using hp
          rw [this]; decide
        · cases hp
    · rw [args_2 (.inl h.1)]
      refine ⟨fun p hp => ?_, by simp⟩
      have : p = hexL r.bytes := by simpa using hp
      rw [this, hexL_len]; omega
    · rw [args_3 h.1]
      refine ⟨fun p hp => ?_, by simp⟩
      have : p = fmtInt r.size := by simpa using hp
      have h3 := hnum r.size (by omega) (by omega)
      rw [this]; omega
    · rw [args_k1 (.inl h.1) h.2.2.2.2.2.1]
      refine ⟨fun p hp => ?_, by simp⟩
      have e : p = kidB l i 0 := by simpa using hp
      have := hkid 0
      rw [e]; omega
    · rw [args_k2 h.1 h.2.2.2.2.2.1]
      refine ⟨fun p hp => ?_, by simp⟩
      have e : p = kidB l i 0 ∨ p = kidB l i 1 := by simpa using hp
      have := hkid 0
      have := hkid 1
      rcases e with e | e <;> rw [e] <;> omega
    · rw [args_6 h.1]
      refine ⟨fun p hp => ?_, by simp; omega⟩
      obtain ⟨j, hj, rfl⟩ := List.mem_map.1 hp
      have hj' : j < r.names.length := by have := List.mem_range.1 hj; omega
      have h3 := isName_len (namesGood_at h.2.2.2.2.2.2.2 hj').1
      have := hkid (j : Int)
      unfold seqW
      rw [getD_at hj', List.length_append, List.length_cons]
      omega
    · rw [args_7 h.1]
      refine ⟨fun p hp => ?_, by simp; omega⟩
      rw [List.mem_cons] at hp
      rcases hp with rfl | hp
      · have := hkid 0; omega
      · obtain ⟨j, hj, rfl⟩ := List.mem_map.1 hp
        have hj' := List.mem_range.1 hj
        have h3 := tagsGood_at h.2.2.2.2.2.2.2.1 hj'
        have h4 := hnum _ h3.1 (by omega)
        have := hkid ((j : Int) + 1)
        unfold choW
        rw [getD_at hj', List.length_append, List.length_cons]
        omega
    · rw [args_k1 (.inr (.inl h.1)) h.2.2.2.2.2]
      refine ⟨fun p hp => ?_, by simp⟩
      have e : p = kidB l i 0 := by simpa using hp
      have := hkid 0
      rw [e]; omega
    · rw [args_k1 (.inr (.inr h.1)) h.2.2.2.2.2]
      refine ⟨fun p hp => ?_, by simp⟩
      have e : p = kidB l i 0 := by simpa using hp
      have := hkid 0
      rw [e]; omega
    · rw [args_2 (.inr h.1)]
      refine ⟨fun p hp => ?_, by simp⟩
      have : p = hexL r.bytes := by simpa using hp
      rw [this, hexL_len]; omega
  unfold wordsR
  refine ⟨fun p hp => ?_, by simp only [List.length_cons]; omega⟩
  rw [List.mem_cons, List.mem_cons] at hp
  rcases hp with rfl | rfl | hp
  · omega
  · omega
  · exact key.1 p hp
theorem wordsR_join {l : List RuleD} {i : Int} (hv : validR l i = true) (hn : NamesFit l) :
    (wordsR l i (ruleAt l i)).length ≤ 4194304 ∧ Lib.lens (wordsR l i (ruleAt l i)) + 1 * (wordsR l i (ruleAt l i)).length ≤ 35184372088832 := by
  obtain ⟨h1, h2⟩ := wordsR_fit hv hn
  have h3 := lens_le h1
  omega
theorem lineL_len {l : List RuleD} (hn : NamesFit l) (i : Int) : (lineL l i).length ≤ 12000000 := by
  unfold lineL
  split
  · rename_i hv
    obtain ⟨h1, h2⟩ := wordsR_fit hv hn
    have h3 := lens_le h1
    have h4 := join_len_le (wordsR l i (ruleAt l i)) [32]
    simp only [List.length_cons, List.length_nil] at h4
    omega
  · simp

end Go.Proofs.YtkjjgpkegihmhaaGreatDoor

namespace Go.Proofs.YtkjjgpkegihmhaaGreatDoor
open Go.RowKit

end Go.Proofs.YtkjjgpkegihmhaaGreatDoor
namespace Go.Proofs.YtkjjgpkegihmhaaGreatDoor
open Go.RowKit
theorem valid_len {l : List RuleD} (h : validD l = true) : 1 ≤ l.length ∧ l.length ≤ 24 := by
  unfold validD at h
  simp only [Bool.and_eq_true, inR, decide_eq_true_eq] at h
  omega
end Go.Proofs.YtkjjgpkegihmhaaGreatDoor
namespace Go.Proofs.YtkjjgpkegihmhaaGreatDoor
open Go.RowKit
attribute [local go_sem] mkS_append mkS_size
theorem u8_and_15 (c : Nat) (h : c < 256) : bits .and .u8 (c : Int) 15 = ((c % 16 : Nat) : Int) := by
  have hd : ∀ c < 256, bits .and .u8 ((c : Nat) : Int) 15 = ((c % 16 : Nat) : Int) := by decide +kernel
  exact hd c h

theorem hex_index (n : Nat) (i : Int) (hi : i = n) (hn : n < 16) (w : World) :
    (Instr.index 9 (.string ⟨#[48, 49, 50, 51, 52, 53, 54, 55, 56, 57, 97, 98, 99, 100, 101, 102]⟩) (.int .u8 i)).run Tryz.prog w = .ok (.int .u8 ((hexD n).toNat : Int)) w := by
  subst hi
  rw [run_index_string w 9 _ _ _ Tryz.underlying9, dif_pos ⟨by omega, by rw [show (ByteArray.size ⟨#[48, 49, 50, 51, 52, 53, 54, 55, 56, 57, 97, 98, 99, 100, 101, 102]⟩) = 16 from rfl]; omega⟩]
  have h := hexS_get (n := n) (by rw [hexS_size]; exact hn)
  simp only [Int.toNat_natCast]
  rw [← h]
  rfl

set_option maxHeartbeats 2000000 in
theorem i_FormatHex (v : Value) (l : List UInt8) (hn : l.length ≤ 1048576) (w : World) (h : Rd w v 1 l.length (cB l)) :
    Calls Tryz.prog 89 #[v] w fun e w' => e = .returned (.string (mkS (hexL l))) ∧ Below w.heap.size w w' := by
  obtain ⟨_, A, c, rfl, hnc, hcm, hcell⟩ := h
  unfold maxLen at hcm
  have HC := Lib.hid hcell; clear hcell
  obtain ⟨i0, hi, hz0, hz1, hz2⟩ := info_parts info_Byte
  go_enter Tryz.func89, Tryz.ntmps89
  go_wp2_with (at_make; refine wpList_make_own _ rfl (.const (.int .i64 0)) (.tmp 8) 26 rfl w.heap.size 5 i0 (.int .u8 0) 1 Tryz.underlying26 hi hz0 hz1 .i64 .i64 _ (2 * l.length) rfl rfl (by omega) (by rw [hz2]; omega) (by unfold maxLen; omega) (Nat.le_refl _) ?_)
  intro w1 hown hgrow
  have hb1 : Below w.heap.size w w1 := (Below.refl _ _).grown hgrow (Nat.le_refl _) (fun k hk => by cases hk)
  clear hgrow
  go_wp2_with fail
  go_loopw [3, 12] (fun o i wr => ∃ (k : Nat), k ≤ l.length ∧ i = .int .i64 k ∧ wr.ownsRow w.heap.size 5 1 o (2 * k) (cB (hexL (l.take k))) ∧ Below w.heap.size w wr)
    (fun _ i _ => l.length - (intOf i).toNat)
  case atStart => exact ⟨0, Nat.zero_le _, rfl, by simpa [hexL, cB] using hown, hb1⟩
  case round =>
    obtain ⟨k, hk, rfl, hownr, hbr⟩ := hrel
    clear hown hb1
    by_cases hlt : k < l.length
    · obtain ⟨b, off, rfl, hc⟩ := HC.out (by rw [cB_len]; omega)
      have hcl : w.cell? ⟨b, off + k, none⟩ = some (.int .u8 (l[k].toNat : Int)) := hc k _ (cB_at hlt)
      have hck : wr.cell? ⟨b, off + k, none⟩ = some (.int .u8 (l[k].toNat : Int)) := by rw [hbr.cell (World.block_lt_of_cell? w _ hcl)]; exact hcl
      have hub : l[k].toNat < 256 := UInt8.toNat_lt _
      have hx1 := hex_index (l[k].toNat / 16) (((l[k].toNat : Nat) : Int) / 16) (by omega) (by omega)
      have hx2 := hex_index (l[k].toNat % 16) (bits .and .u8 ((l[k].toNat : Nat) : Int) 15) (u8_and_15 _ hub) (by omega)
      clear hc hcl
      go_wp2_with fail
      have hlit := Rd.lit wr (cB (hexPair l[k])) 5 2 rfl (by unfold maxLen; omega)
      have HO := Lib.hid hownr
      have HB := Lib.hid hbr
      have HLIT := Lib.hid hlit
      clear hownr hbr hlit
      go_region_held3 (fun _ => True) (trivial) ((refine step_append_rd _ (by rfl) (.tmp 16) (.tmp 23) 26 (by rfl) w.heap.size 5 i0 (.int .u8 0) 1 1 Tryz.underlying26 hi hz0 hz1 hz2 (by rfl) (by decide) u3 (2 * k) (cB (hexL (l.take k))) (by rfl) (HO.out.alloc _) _ 2 (cB (hexPair l[k])) (by rfl) HLIT.out (cB_one _) (by unfold maxLen; omega) (by omega) (by have := HB.out.size; simp; omega) ?_; intro v' w' hown' hgrow' _))
      all_goals
        have HB' : Hid (Below w.heap.size w w') := own_grown_below (HB.out.alloc HB.out.size _).drew ((HO.out.alloc _).drew) hgrow' (by have := HB.out.size; simp; omega) (Nat.le_refl _)
        have HO' := Lib.hid hown'
        clear hgrow' hown'
        go_wp2_with fail
        go_roundw
        case rel => exact ⟨k + 1, by omega, by go_num, by rw [hexL_step hlt, cB_append]; exact HO'.out, HB'.out⟩
        case measure => simp [intOf]; omega
    · obtain rfl : k = l.length := by omega
      rw [List.take_length] at hownr
      have hcv := conv_own hownr
      have HB := Lib.hid hbr
      clear hownr hbr
      go_wp2_with fail
      go_ret
      exact ⟨rfl, HB.out⟩

theorem hex_piece {n : Nat} (h : n < 16) : (⟨#[48, 49, 50, 51, 52, 53, 54, 55, 56, 57, 97, 98, 99, 100, 101, 102]⟩ : ByteArray).extract n (n + 1) = mkS [hexD n] := by
  have hd : ∀ n < 16, (hexS.data.toList.drop n).take (n + 1 - n) = [hexD n] := by decide
  have e := extract_mk hexS n (n + 1)
  rw [hd n h] at e
  exact e

set_option maxHeartbeats 2000000 in
theorem s_FormatHex (v : Value) (l : List UInt8) (hn : l.length ≤ 1048576) (w : World) (h : Rd w v 1 l.length (cB l)) :
    Calls Tryz.prog 77 #[v] w fun e w' => e = .returned (.string (mkS (hexL l))) ∧ Below w.heap.size w w' := by
  obtain ⟨_, A, c, rfl, hnc, hcm, hcell⟩ := h
  unfold maxLen at hcm
  have HC := Lib.hid hcell; clear hcell
  go_enter Tryz.func77, Tryz.ntmps77
  go_wp2_with fail
  go_loopw [4, 5, 6, 7] (fun o i _ _ wr => ∃ (k : Nat), k ≤ l.length ∧ i = .int .i64 k ∧ o = .string (mkS (hexL (l.take k))) ∧ Below w.heap.size w wr)
    (fun _ i _ _ _ => l.length - (intOf i).toNat)
  case atStart => exact ⟨0, Nat.zero_le _, rfl, rfl, Below.refl _ _⟩
  case round =>
    obtain ⟨k, hk, rfl, rfl, hbr⟩ := hrel
    by_cases hlt : k < l.length
    · obtain ⟨b, off, rfl, hc⟩ := HC.out (by rw [cB_len]; omega)
      have hcl : w.cell? ⟨b, off + k, none⟩ = some (.int .u8 (l[k].toNat : Int)) := hc k _ (cB_at hlt)
      have hck : wr.cell? ⟨b, off + k, none⟩ = some (.int .u8 (l[k].toNat : Int)) := by rw [hbr.cell (World.block_lt_of_cell? w _ hcl)]; exact hcl
      have hub : l[k].toNat < 256 := UInt8.toNat_lt _
      have he1 := hex_piece (n := l[k].toNat / 16) (by omega)
      have he2 := hex_piece (n := l[k].toNat % 16) (by omega)
      have hlen : (hexL (l.take k)).length ≤ 2097152 := by rw [hexL_len, List.length_take]; omega
      have HB := Lib.hid hbr
      clear hc hcl hbr
      go_wp2_with fail
      go_quiet (fail)
      go_wp2_with fail
      go_roundw
      case rel => exact ⟨k + 1, by omega, by go_num, by rw [hexL_step hlt]; simp [hexPair], below_drewN HB.out _⟩
      case measure => simp [intOf]; omega
    · obtain rfl : k = l.length := by omega
      rw [List.take_length]
      go_wp2_with fail
      go_ret
      exact ⟨rfl, hbr⟩

end Go.Proofs.YtkjjgpkegihmhaaGreatDoor

namespace Go.Proofs.YtkjjgpkegihmhaaGreatDoor
open Go.RowKit
attribute [local go_sem] mkS_append mkS_size

set_option maxHeartbeats 1000000 in
theorem s_FormatInt (n : Int) (hn : -9223372036854775808 ≤ n ∧ n ≤ 9223372036854775807) (w : World) :
    Calls Tryz.prog 76 #[.int .i64 n] w fun e w' => e = .returned (.string (mkS (fmtInt n))) ∧ Below w.heap.size w w' := by
  obtain ⟨hlo, hhi⟩ := hn
  by_cases h0 : n = 0
  · subst h0
    go_enter Tryz.func76, Tryz.ntmps76
    go_wp2_with fail
    go_ret
    exact ⟨ret_str (by simp [fmtInt, mkS]), Below.refl _ _⟩
  · have hz : (n == 0) = false := by simpa using h0
    have H0 := Lib.hid h0; clear h0
    have hlen : (dec n.natAbs).length ≤ 19 := dec_len 19 _ (by omega)
    go_enter Tryz.func76, Tryz.ntmps76
    go_wp2_with fail
    go_loopw [3, 4] (fun s x wr => ∃ (q : Int) (t : List UInt8), x = .int .i64 q ∧ s = .string (mkS t) ∧ -9223372036854775808 ≤ q ∧ q ≤ 9223372036854775807 ∧ (0 ≤ n → 0 ≤ q) ∧ (n < 0 → q ≤ 0) ∧ dec n.natAbs = dec q.natAbs ++ t ∧ Below w.heap.size w wr)
      (fun _ x _ => (intOf x).natAbs)
    case atStart => exact ⟨n, [], rfl, rfl, hlo, hhi, id, by omega, by simp, Below.refl _ _⟩
    case round =>
      obtain ⟨q, t, rfl, rfl, hq1, hq2, hq3, hq4, hqt, hbr⟩ := hrel
      have hlt : t.length ≤ 19 := by rw [hqt] at hlen; simp at hlen; omega
      have hcv := conv_one wr
      have HT := Lib.hid hqt
      have HB := Lib.hid hbr
      clear hqt hbr
      rcases Int.lt_trichotomy q 0 with hq | hq | hq
      · have hne : (q != 0) = true := by rw [bne_iff_ne]; omega
        obtain ⟨hm, hd⟩ := tmod_ten_neg hq
        have hm1 : -10 < q.tmod 10 := by omega
        have hm2 : q.tmod 10 ≤ 0 := by omega
        have HM := Lib.hid hm
        have HN := Lib.hid (show (q.tdiv 10).natAbs < q.natAbs by omega)
        have HD := Lib.hid hd
        have HS := Lib.hid (dec_step (show q ≠ 0 by omega) t)
        clear hm hd
        go_wp2_with fail
        all_goals
          go_roundw
          case rel =>
            refine ⟨_, digit (q.natAbs % 10) :: t, rfl, ?_, ?_, ?_, ?_, ?_, ?_, (HB.out.alloc HB.out.size _)⟩
            · rw [digit_of _ (q.natAbs % 10) (by have := HM.out; omega)]
            · have := HD.out; omega
            · have := HD.out; omega
            · intro h; have := hq3 h; omega
            · have := HD.out; omega
            · rw [HT.out, HS.out]
          case measure => show (q.tdiv 10).natAbs < q.natAbs; exact HN.out
      · subst hq
        have hfin : Hid (t = dec n.natAbs) := by show _ = _; rw [HT.out, show (0 : Int).natAbs = 0 from rfl, dec_zero, List.nil_append]
        by_cases hn : n < 0
        · go_wp2_with fail
          go_ret
          exact ⟨ret_str (by rw [hfin.out]; unfold fmtInt; rw [if_neg H0.out, if_pos hn]; rfl), HB.out⟩
        · go_wp2_with fail
          go_ret
          exact ⟨ret_str (by rw [hfin.out]; unfold fmtInt; rw [if_neg H0.out, if_neg (by omega)]), HB.out⟩
      · have hne : (q != 0) = true := by rw [bne_iff_ne]; omega
        have HS := Lib.hid (dec_step (show q ≠ 0 by omega) t)
        have HD := Lib.hid (show q.tdiv 10 = q / 10 from Int.tdiv_eq_ediv_of_nonneg (by omega))
        go_wp2_with fail
        go_roundw
        case rel =>
          refine ⟨_, digit (q.natAbs % 10) :: t, rfl, ?_, ?_, ?_, ?_, ?_, ?_, (HB.out.alloc HB.out.size _)⟩
          · rw [digit_of _ (q.natAbs % 10) (by omega)]
          · omega
          · omega
          · intro h; omega
          · intro h; have := hq4 h; omega
          · rw [HT.out, HS.out, HD.out]
        case measure => simp [intOf]; omega

end Go.Proofs.YtkjjgpkegihmhaaGreatDoor

namespace Go.Proofs.YtkjjgpkegihmhaaGreatDoor
open Go.RowKit

def Tab (w : World) : Prop := Lib.TabIs Tryz.prog w "internal/strconv.uint64pow10" .u64 Lib.pow10Tab
theorem tabG : Tryz.prog.globalNamed "internal/strconv.uint64pow10" = some 1 := by kernel_rfl
theorem tabT : (Tryz.prog.globals[1]?).map (·.type) = some 145 := by kernel_rfl
theorem tab_of_head {W : World} {rest : List (String × DataW Unit)} (h : laidMet Tryz.prog (("internal/strconv.uint64pow10", Lib.tabData .u64 Lib.pow10Tab) :: rest) W) : Tab W :=
  Lib.tabIs_of_head tabG tabT Tryz.underlying145 Tryz.underlying139 (by kernel_rfl) (by kernel_rfl) h
theorem Tab.lt {w : World} (h : Tab w) : 1 < w.heap.size := by
  have h1 := Lib.TabIs.cell h tabG 0 (by rw [Lib.pow10Tab_length]; omega)
  exact World.block_lt_of_cell? w _ h1
theorem Tab.below {w w' : World} (h : Tab w) (hb : Below w.heap.size w w') : Tab w' := var?_below hb tabG h.lt h

theorem dec_decDigits (k : Nat) : ∀ n, n < 10 ^ k → n ≠ 0 → Lib.decDigits n = dec n := by
  induction k with
  | zero => intro n h h0; have : n = 0 := by simpa using h
            exact absurd this h0
  | succ k ih =>
    intro n h h0
    rw [dec_pos h0, Lib.decDigits]
    by_cases h10 : n < 10
    · rw [dif_pos h10, show n / 10 = 0 by omega, dec_zero, Nat.mod_eq_of_lt h10]
      rfl
    · rw [dif_neg h10, ih (n / 10) (by rw [Nat.pow_succ] at h; omega) (by omega)]
      rfl
theorem itoa_fmtInt {n : Int} (h : -9223372036854775808 ≤ n ∧ n ≤ 9223372036854775807) : Lib.itoa n = fmtInt n := by
  unfold Lib.itoa fmtInt
  by_cases h0 : n = 0
  · subst h0
    rw [if_neg (by omega), if_pos rfl, Lib.decDigits]
    rfl
  · rw [if_neg h0]
    have e := dec_decDigits 19 n.natAbs (by omega) (by omega)
    by_cases hn : n < 0
    · rw [if_pos hn, if_pos hn, e]
    · rw [if_neg hn, if_neg hn, ← e]
      congr 1
      omega

set_option maxHeartbeats 1000000 in
theorem i_FormatInt (n : Int) (hn : -9223372036854775808 ≤ n ∧ n ≤ 9223372036854775807) (w : World) (ht : Tab w) :
    Calls Tryz.prog 88 #[.int .i64 n] w fun e w' => e = .returned (.string (mkS (fmtInt n))) ∧ Below w.heap.size w w' := by
  have C1 := Lib.hid (Tryz.strconv_Itoa n hn.1 hn.2 w ht)
  have E1 := Lib.hid (itoa_fmtInt hn)
  clear ht
  go_enter Tryz.func88, Tryz.ntmps88
  go_wp2_with fail
  refine C1.out.mono ?_
  rintro e w' ⟨rfl, k, os, rfl⟩
  go_wp2_with fail
  go_ret
  exact ⟨ret_str (by rw [E1.out]; rfl), Lib.below_grow w.heap.size w (Nat.le_refl _) k os⟩

end Go.Proofs.YtkjjgpkegihmhaaGreatDoor

namespace Go.Proofs.YtkjjgpkegihmhaaGreatDoor
open Go.RowKit
set_option linter.unusedVariables false

def WordsAt (w : World) (B g : Nat) (l : List (List UInt8)) : Prop := ∃ v, Box w g 27 #[v] ∧ w.ownsRow B 9 1 v l.length (cS (tS l))
theorem WordsAt.below {w w' : World} {B g : Nat} {l : List (List UInt8)} (h : WordsAt w B g l) (hb : Below w.heap.size w w') : WordsAt w' B g l := by
  obtain ⟨v, h1, h2⟩ := h
  exact ⟨v, h1.below hb, own_below h2 hb⟩
def Added (B g : Nat) (l : List (List UInt8)) (w : World) (e : Ending) (w' : World) : Prop := e = .returned (.tuple #[]) ∧ WordsAt w' B g l ∧ Below B w w'

theorem own_set_other {w : World} {base g : Nat} {e e' : TypeId} {size n : Nat} {v u : Value} {xs : List Value} {cs : Array Value} (h : w.ownsRow base e size v n xs) (hb : Box w g e' cs) (hne : e ≠ e') : (w.setCell ⟨g, 0, none⟩ u).ownsRow base e size v n xs := by
  have hk : w.grownBy (w.setCell ⟨g, 0, none⟩ u) (some g) := by
    refine ⟨rfl, rfl, rfl, by simp [World.setCell], fun i hi hne => ?_⟩
    exact heap_setCell_other w ⟨g, 0, none⟩ i u (fun e => hne (by rw [e]))
  exact h.kept hk (.inr (own_type h hb hne))

set_option maxRecDepth 100000 in
set_option maxHeartbeats 2000000 in
theorem i_add (B g : Nat) (l : List (List UInt8)) (s : ByteArray) (hg : B ≤ g) (hl : l.length ≤ 1000) (w : World) (h : WordsAt w B g l) :
    Calls Tryz.prog 87 #[.string s, .pointer (some ⟨g, 0, none⟩)] w (Added B g (l ++ [s.data.toList]) w) := by
  obtain ⟨v, hbx, hown⟩ := h
  have hlt := hbx.lt
  have c0 := hbx.cell 0
  have f0 := hbx.frozen 0
  have HBX := Lib.hid hbx
  have HO := Lib.hid hown
  have HLIT := Lib.hid (Rd.lit w (cS [s]) 9 1 rfl (by unfold maxLen; omega))
  obtain ⟨i0, hif, hz0, hz1, hz2⟩ := info_parts info_String
  clear hbx hown
  go_enter Tryz.func87, Tryz.ntmps87
  go_wp2_with (at_builtin; refine wpList_append_rd _ rfl (.tmp 3) (.tmp 5) 27 rfl B 9 i0 (.string ⟨#[]⟩) 1 16 Tryz.underlying27 hif hz0 hz1 hz2 rfl (by decide) _ l.length (cS (tS l)) rfl (HO.out.alloc _) _ 1 (cS [s]) rfl ?c1 (cS_one _) (by unfold maxLen; omega) (by omega) (by simp; omega) ?_)
  case c1 => exact HLIT.out
  intro v' w' hown' hgrow' _
  have hb' : Below B w w' := own_grown_below ((Below.refl B w).alloc (by omega) _) (HO.out.alloc _) hgrow' (by simp; omega) (Nat.le_refl _)
  have hbx' : Box w' g 27 #[v] := (HBX.out.alloc _).grown hgrow' (fun e => own_type (HO.out.alloc (.cells #[.string s] 9)) (HBX.out.alloc (.cells #[.string s] 9)) (by decide) e.symm)
  obtain ⟨_, A', c', rfl, _, _, _⟩ := Rd.of_own hown'
  have HB' := Lib.hid hb'
  have HX' := Lib.hid hbx'
  have HO' := Lib.hid hown'
  have c1 := hbx'.cell 0
  have f1 := hbx'.frozen 0
  clear hgrow' hown' hb' hbx'
  go_wp2_with fail
  go_end0
  exact ⟨rfl, ⟨_, HX'.out.set 0 _, by
    have h := own_set_other (u := (.slice A' (l.length + 1) c' : Value)) HO'.out HX'.out (by decide)
    simpa [tS, cS, mkS_of] using h⟩, below_set HB'.out hg _⟩

structure St (w2 : World) (g : Nat) (ws : List (List UInt8)) (w' : World) : Prop where
  wa : WordsAt w' w2.heap.size g ws
  ge : w2.heap.size ≤ g
  be : Below w2.heap.size w2 w'
section
variable {w2 w' w'' : World} {g : Nat} {ws : List (List UInt8)}
theorem St.step (h : St w2 g ws w') (hb : Below w'.heap.size w' w'') : St w2 g ws w'' := ⟨h.wa.below hb, h.ge, h.be.trans (hb.mono h.be.size)⟩
theorem St.drew (h : St w2 g ws w') : St w2 g ws w'.drew := ⟨h.wa.below ((Below.refl _ _).drew), h.ge, h.be.drew⟩
theorem St.box {k : Nat} {t : TypeId} {cs : Array Value} (h : St w2 g ws w') (hb : Box w2 k t cs) : Box w' k t cs := hb.below h.be
theorem St.from (h : St w2 g ws w') {w : World} (hw : Below w.heap.size w w2) : Below w.heap.size w w' := Below.then_ hw h.be (Nat.le_refl _)
theorem St.to (h : St w2 g ws w') {ws' : List (List UInt8)} (e : ws = ws') : St w2 g ws' w' := e ▸ h
end
theorem i_addSt (w2 : World) (g : Nat) (ws : List (List UInt8)) (s : ByteArray) (hl : ws.length ≤ 1000) (w : World) (h : St w2 g ws w) :
    Calls Tryz.prog 87 #[.string s, .pointer (some ⟨g, 0, none⟩)] w fun e w' => e = .returned (.tuple #[]) ∧ St w2 g (ws ++ [s.data.toList]) w' :=
  (i_add w2.heap.size g ws s h.ge hl w h.wa).mono fun _ _ ⟨he, hw, hb⟩ => ⟨he, hw, h.ge, h.be.trans hb⟩

end Go.Proofs.YtkjjgpkegihmhaaGreatDoor

namespace Go.Proofs.YtkjjgpkegihmhaaGreatDoor
open Go.RowKit
set_option linter.unusedVariables false

structure OSt (w2 : World) (o : Value) (ws : List (List UInt8)) (w' : World) : Prop where
  own : w'.ownsRow w2.heap.size 9 1 o ws.length (cS (tS ws))
  be : Below w2.heap.size w2 w'
section
variable {w2 w' w'' : World} {o : Value} {ws : List (List UInt8)}
theorem OSt.step (h : OSt w2 o ws w') (hb : Below w'.heap.size w' w'') : OSt w2 o ws w'' := ⟨own_below h.own hb, h.be.trans (hb.mono h.be.size)⟩
theorem OSt.drew (h : OSt w2 o ws w') : OSt w2 o ws w'.drew := h.step (Below.refl _ _).drew
theorem OSt.box {k : Nat} {t : TypeId} {cs : Array Value} (h : OSt w2 o ws w') (hb : Box w2 k t cs) : Box w' k t cs := hb.below h.be
theorem OSt.from (h : OSt w2 o ws w') {w : World} (hw : Below w.heap.size w w2) : Below w.heap.size w w' := Below.then_ hw h.be (Nat.le_refl _)
theorem OSt.to (h : OSt w2 o ws w') {ws' : List (List UInt8)} (e : ws = ws') : OSt w2 o ws' w' := e ▸ h
theorem OSt.push (h : OSt w2 o ws w') {ob : Obj} {o' : Value} {s : ByteArray} (ho : w''.ownsRow w2.heap.size 9 1 o' (ws.length + 1) (cS (tS ws) ++ cS [s])) (hg : (w'.alloc ob).grownBy w'' o.ownBlock) : OSt w2 o' (ws ++ [s.data.toList]) w'' := by
  refine ⟨?_, own_grown_below (h.be.alloc h.be.size _) (h.own.alloc _) hg (by have := h.be.size; simp; omega) (Nat.le_refl _)⟩
  simpa [cS, tS, mkS_of] using ho
theorem OSt.new (w2 u : World) (a b : ByteArray) (h : Below w2.heap.size w2 u) : OSt w2 (.slice (some ⟨u.heap.size, 0, none⟩) 2 2) [a.data.toList, b.data.toList] (u.alloc (.cells #[.string a, .string b] 9)) := by
  refine ⟨?_, h.alloc h.size _⟩
  have h := World.ownsRow_lit (base := w2.heap.size) (e := 9) (size := 1) u #[.string a, .string b] 2 h.size (by unfold maxLen; omega) (by simp)
  simpa [cS, tS, mkS_of] using h
end

end Go.Proofs.YtkjjgpkegihmhaaGreatDoor
