/-
  validKind, l4Kind as one plain function.
-/
import Derived.Test.YtcegbilfcblhfaaKindI
import Derived.Test.YtcegbilfcblhfaaKindS
namespace Go.Proofs.Ytcegbilfcblhfaa
open Go.RowKit
set_option linter.unusedVariables false

/-- A rule meets the conditions of its kind. -/
def kindL (ll : List RuleD) (r : RuleD) : Bool :=
  if r.kind = 1 then decide (r.bytes.length = 0 ∧ r.names.length = 0 ∧ r.tags.length = 0 ∧ (r.kids.length : Int) = 0) && (inR r.size 1 4 && (!r.little || decide (1 < r.size))) else
  if r.kind = 2 then decide (r.size = 0 ∧ r.names.length = 0 ∧ r.tags.length = 0 ∧ (r.kids.length : Int) = 0) && (inR r.bytes.length 1 16) else
  if r.kind = 3 then decide (r.bytes.length = 0 ∧ r.names.length = 0 ∧ r.tags.length = 0 ∧ (r.kids.length : Int) = 0) && (inR r.size 1 64) else
  if r.kind = 4 then decide (r.size = 0 ∧ r.bytes.length = 0 ∧ r.names.length = 0 ∧ r.tags.length = 0 ∧ (r.kids.length : Int) = 1) && (decide (0 < limitL ll (r.kids.getD 0 0))) else
  if r.kind = 5 then decide (r.size = 0 ∧ r.bytes.length = 0 ∧ r.names.length = 0 ∧ r.tags.length = 0 ∧ (r.kids.length : Int) = 2) && (decide (0 < limitL ll (r.kids.getD 0 0))) else
  if r.kind = 6 then decide (r.size = 0 ∧ r.bytes.length = 0 ∧ r.tags.length = 0) && (decide (r.kids.length = r.names.length) && (inR r.kids.length 1 8 && namesGood r.names)) else
  if r.kind = 7 then decide (r.size = 0 ∧ r.bytes.length = 0 ∧ r.names.length = 0 ∧ (r.kids.length : Int) = (r.tags.length : Int) + 1) && (inR r.tags.length 1 8 && (tagsGood r.tags (limitL ll (r.kids.getD 0 0)) && decide (0 < limitL ll (r.kids.getD 0 0)))) else
  if r.kind = 8 then decide (r.size = 0 ∧ r.bytes.length = 0 ∧ r.names.length = 0 ∧ r.tags.length = 0 ∧ (r.kids.length : Int) = 1) else
  if r.kind = 9 then decide (r.size = 0 ∧ r.bytes.length = 0 ∧ r.names.length = 0 ∧ r.tags.length = 0 ∧ (r.kids.length : Int) = 1) else
  if r.kind = 10 then decide (r.size = 0 ∧ r.names.length = 0 ∧ r.tags.length = 0 ∧ (r.kids.length : Int) = 0) && (decide (r.bytes.length = 1) && !decide (r.bytes.getD 0 0 = 92)) else
  false
theorem kindL_1 {ll : List RuleD} {r : RuleD} (h : r.kind = 1) : kindL ll r = (decide (r.bytes.length = 0 ∧ r.names.length = 0 ∧ r.tags.length = 0 ∧ (r.kids.length : Int) = 0) && (inR r.size 1 4 && (!r.little || decide (1 < r.size)))) := by
  unfold kindL
  rw [if_pos h]
theorem kindL_2 {ll : List RuleD} {r : RuleD} (h : r.kind = 2) : kindL ll r = (decide (r.size = 0 ∧ r.names.length = 0 ∧ r.tags.length = 0 ∧ (r.kids.length : Int) = 0) && (inR r.bytes.length 1 16)) := by
  unfold kindL
  rw [if_neg (show ¬ r.kind = 1 by omega)]
  rw [if_pos h]
theorem kindL_3 {ll : List RuleD} {r : RuleD} (h : r.kind = 3) : kindL ll r = (decide (r.bytes.length = 0 ∧ r.names.length = 0 ∧ r.tags.length = 0 ∧ (r.kids.length : Int) = 0) && (inR r.size 1 64)) := by
  unfold kindL
  rw [if_neg (show ¬ r.kind = 1 by omega)]
  rw [if_neg (show ¬ r.kind = 2 by omega)]
  rw [if_pos h]
theorem kindL_4 {ll : List RuleD} {r : RuleD} (h : r.kind = 4) : kindL ll r = (decide (r.size = 0 ∧ r.bytes.length = 0 ∧ r.names.length = 0 ∧ r.tags.length = 0 ∧ (r.kids.length : Int) = 1) && (decide (0 < limitL ll (r.kids.getD 0 0)))) := by
  unfold kindL
  rw [if_neg (show ¬ r.kind = 1 by omega)]
  rw [if_neg (show ¬ r.kind = 2 by omega)]
  rw [if_neg (show ¬ r.kind = 3 by omega)]
  rw [if_pos h]
theorem kindL_5 {ll : List RuleD} {r : RuleD} (h : r.kind = 5) : kindL ll r = (decide (r.size = 0 ∧ r.bytes.length = 0 ∧ r.names.length = 0 ∧ r.tags.length = 0 ∧ (r.kids.length : Int) = 2) && (decide (0 < limitL ll (r.kids.getD 0 0)))) := by
  unfold kindL
  rw [if_neg (show ¬ r.kind = 1 by omega)]
  rw [if_neg (show ¬ r.kind = 2 by omega)]
  rw [if_neg (show ¬ r.kind = 3 by omega)]
  rw [if_neg (show ¬ r.kind = 4 by omega)]
  rw [if_pos h]
theorem kindL_6 {ll : List RuleD} {r : RuleD} (h : r.kind = 6) : kindL ll r = (decide (r.size = 0 ∧ r.bytes.length = 0 ∧ r.tags.length = 0) && (decide (r.kids.length = r.names.length) && (inR r.kids.length 1 8 && namesGood r.names))) := by
  unfold kindL
  rw [if_neg (show ¬ r.kind = 1 by omega)]
  rw [if_neg (show ¬ r.kind = 2 by omega)]
  rw [if_neg (show ¬ r.kind = 3 by omega)]
  rw [if_neg (show ¬ r.kind = 4 by omega)]
  rw [if_neg (show ¬ r.kind = 5 by omega)]
  rw [if_pos h]
theorem kindL_7 {ll : List RuleD} {r : RuleD} (h : r.kind = 7) : kindL ll r = (decide (r.size = 0 ∧ r.bytes.length = 0 ∧ r.names.length = 0 ∧ (r.kids.length : Int) = (r.tags.length : Int) + 1) && (inR r.tags.length 1 8 && (tagsGood r.tags (limitL ll (r.kids.getD 0 0)) && decide (0 < limitL ll (r.kids.getD 0 0))))) := by
  unfold kindL
  rw [if_neg (show ¬ r.kind = 1 by omega)]
  rw [if_neg (show ¬ r.kind = 2 by omega)]
  rw [if_neg (show ¬ r.kind = 3 by omega)]
  rw [if_neg (show ¬ r.kind = 4 by omega)]
  rw [if_neg (show ¬ r.kind = 5 by omega)]
  rw [if_neg (show ¬ r.kind = 6 by omega)]
  rw [if_pos h]
theorem kindL_8 {ll : List RuleD} {r : RuleD} (h : r.kind = 8) : kindL ll r = (decide (r.size = 0 ∧ r.bytes.length = 0 ∧ r.names.length = 0 ∧ r.tags.length = 0 ∧ (r.kids.length : Int) = 1)) := by
  unfold kindL
  rw [if_neg (show ¬ r.kind = 1 by omega)]
  rw [if_neg (show ¬ r.kind = 2 by omega)]
  rw [if_neg (show ¬ r.kind = 3 by omega)]
  rw [if_neg (show ¬ r.kind = 4 by omega)]
  rw [if_neg (show ¬ r.kind = 5 by omega)]
  rw [if_neg (show ¬ r.kind = 6 by omega)]
  rw [if_neg (show ¬ r.kind = 7 by omega)]
  rw [if_pos h]
theorem kindL_9 {ll : List RuleD} {r : RuleD} (h : r.kind = 9) : kindL ll r = (decide (r.size = 0 ∧ r.bytes.length = 0 ∧ r.names.length = 0 ∧ r.tags.length = 0 ∧ (r.kids.length : Int) = 1)) := by
  unfold kindL
  rw [if_neg (show ¬ r.kind = 1 by omega)]
  rw [if_neg (show ¬ r.kind = 2 by omega)]
  rw [if_neg (show ¬ r.kind = 3 by omega)]
  rw [if_neg (show ¬ r.kind = 4 by omega)]
  rw [if_neg (show ¬ r.kind = 5 by omega)]
  rw [if_neg (show ¬ r.kind = 6 by omega)]
  rw [if_neg (show ¬ r.kind = 7 by omega)]
  rw [if_neg (show ¬ r.kind = 8 by omega)]
  rw [if_pos h]
theorem kindL_10 {ll : List RuleD} {r : RuleD} (h : r.kind = 10) : kindL ll r = (decide (r.size = 0 ∧ r.names.length = 0 ∧ r.tags.length = 0 ∧ (r.kids.length : Int) = 0) && (decide (r.bytes.length = 1) && !decide (r.bytes.getD 0 0 = 92))) := by
  unfold kindL
  rw [if_neg (show ¬ r.kind = 1 by omega)]
  rw [if_neg (show ¬ r.kind = 2 by omega)]
  rw [if_neg (show ¬ r.kind = 3 by omega)]
  rw [if_neg (show ¬ r.kind = 4 by omega)]
  rw [if_neg (show ¬ r.kind = 5 by omega)]
  rw [if_neg (show ¬ r.kind = 6 by omega)]
  rw [if_neg (show ¬ r.kind = 7 by omega)]
  rw [if_neg (show ¬ r.kind = 8 by omega)]
  rw [if_neg (show ¬ r.kind = 9 by omega)]
  rw [if_pos h]
theorem kindL_no {ll : List RuleD} {r : RuleD} (h : ¬ (1 ≤ r.kind ∧ r.kind ≤ 10)) : kindL ll r = false := by
  unfold kindL
  rw [if_neg (show ¬ r.kind = 1 by omega)]
  rw [if_neg (show ¬ r.kind = 2 by omega)]
  rw [if_neg (show ¬ r.kind = 3 by omega)]
  rw [if_neg (show ¬ r.kind = 4 by omega)]
  rw [if_neg (show ¬ r.kind = 5 by omega)]
  rw [if_neg (show ¬ r.kind = 6 by omega)]
  rw [if_neg (show ¬ r.kind = 7 by omega)]
  rw [if_neg (show ¬ r.kind = 8 by omega)]
  rw [if_neg (show ¬ r.kind = 9 by omega)]
  rw [if_neg (show ¬ r.kind = 10 by omega)]

def littleOk (r : RuleD) : Bool := decide (r.little = true → r.kind = 1)
theorem limitL_pos {ll : List RuleD} {k : Int} (h : 0 ≤ limitL ll k) : 0 < limitL ll k := by
  revert h
  unfold limitL limitOf
  repeat' split
  all_goals omega
theorem tags_limit {l : List Int} {ll : List RuleD} {k : Int} (hl : 1 ≤ l.length) (h : tagsGood l (limitL ll k) = true) : 0 < limitL ll k := by
  apply limitL_pos
  unfold tagsGood at h
  rw [List.all_eq_true] at h
  have h0 := h 0 (List.mem_range.2 (by omega))
  rw [tagGood_at (by omega)] at h0
  simp only [inR, Bool.and_eq_true, decide_eq_true_eq] at h0
  omega

theorem sk_1 {ll : List RuleD} {r : RuleD} (h : r.kind = 1) : (decide (r.bytes.length = 0 ∧ r.names.length = 0 ∧ r.tags.length = 0 ∧ (r.kids.length : Int) = 0 ∧ (r.little = true → r.kind = 1)) && (inR r.size 1 4 && (!r.little || decide (1 < r.size)))) = (littleOk r && kindL ll r) := by
  rw [kindL_1 h]
  unfold littleOk
  rw [Bool.eq_iff_iff]
  simp only [Bool.and_eq_true, decide_eq_true_eq, and_assoc]
  constructor
  · rintro ⟨a0, a1, a2, a3, e, z⟩
    exact ⟨e, a0, a1, a2, a3, z⟩
  · rintro ⟨e, a0, a1, a2, a3, z⟩
    exact ⟨a0, a1, a2, a3, e, z⟩
theorem sk_2 {ll : List RuleD} {r : RuleD} (h : r.kind = 2) : (decide (r.size = 0 ∧ r.names.length = 0 ∧ r.tags.length = 0 ∧ (r.kids.length : Int) = 0 ∧ (r.little = true → r.kind = 1)) && (inR r.bytes.length 1 16)) = (littleOk r && kindL ll r) := by
  rw [kindL_2 h]
  unfold littleOk
  rw [Bool.eq_iff_iff]
  simp only [Bool.and_eq_true, decide_eq_true_eq, and_assoc]
  constructor
  · rintro ⟨a0, a1, a2, a3, e, z⟩
    exact ⟨e, a0, a1, a2, a3, z⟩
  · rintro ⟨e, a0, a1, a2, a3, z⟩
    exact ⟨a0, a1, a2, a3, e, z⟩
theorem sk_3 {ll : List RuleD} {r : RuleD} (h : r.kind = 3) : (decide (r.bytes.length = 0 ∧ r.names.length = 0 ∧ r.tags.length = 0 ∧ (r.kids.length : Int) = 0 ∧ (r.little = true → r.kind = 1)) && (inR r.size 1 64)) = (littleOk r && kindL ll r) := by
  rw [kindL_3 h]
  unfold littleOk
  rw [Bool.eq_iff_iff]
  simp only [Bool.and_eq_true, decide_eq_true_eq, and_assoc]
  constructor
  · rintro ⟨a0, a1, a2, a3, e, z⟩
    exact ⟨e, a0, a1, a2, a3, z⟩
  · rintro ⟨e, a0, a1, a2, a3, z⟩
    exact ⟨a0, a1, a2, a3, e, z⟩
theorem sk_4 {ll : List RuleD} {r : RuleD} (h : r.kind = 4) : (decide (r.size = 0 ∧ r.bytes.length = 0 ∧ r.names.length = 0 ∧ r.tags.length = 0 ∧ (r.kids.length : Int) = 1 ∧ (r.little = true → r.kind = 1)) && (decide (0 < limitL ll (r.kids.getD 0 0)))) = (littleOk r && kindL ll r) := by
  rw [kindL_4 h]
  unfold littleOk
  rw [Bool.eq_iff_iff]
  simp only [Bool.and_eq_true, decide_eq_true_eq, and_assoc]
  constructor
  · rintro ⟨a0, a1, a2, a3, a4, e, z⟩
    exact ⟨e, a0, a1, a2, a3, a4, z⟩
  · rintro ⟨e, a0, a1, a2, a3, a4, z⟩
    exact ⟨a0, a1, a2, a3, a4, e, z⟩
theorem sk_5 {ll : List RuleD} {r : RuleD} (h : r.kind = 5) : (decide (r.size = 0 ∧ r.bytes.length = 0 ∧ r.names.length = 0 ∧ r.tags.length = 0 ∧ (r.kids.length : Int) = 2 ∧ (r.little = true → r.kind = 1)) && (decide (0 < limitL ll (r.kids.getD 0 0)))) = (littleOk r && kindL ll r) := by
  rw [kindL_5 h]
  unfold littleOk
  rw [Bool.eq_iff_iff]
  simp only [Bool.and_eq_true, decide_eq_true_eq, and_assoc]
  constructor
  · rintro ⟨a0, a1, a2, a3, a4, e, z⟩
    exact ⟨e, a0, a1, a2, a3, a4, z⟩
  · rintro ⟨e, a0, a1, a2, a3, a4, z⟩
    exact ⟨a0, a1, a2, a3, a4, e, z⟩
theorem sk_6 {ll : List RuleD} {r : RuleD} (h : r.kind = 6) : (decide (r.size = 0 ∧ r.bytes.length = 0 ∧ r.tags.length = 0 ∧ (r.kids.length : Int) = (r.names.length : Int) ∧ (r.little = true → r.kind = 1)) && (namesGood r.names && inR r.names.length 1 8)) = (littleOk r && kindL ll r) := by
  rw [kindL_6 h]
  unfold littleOk
  rw [Bool.eq_iff_iff]
  simp only [Bool.and_eq_true, decide_eq_true_eq]
  constructor
  · rintro ⟨⟨a, b, c, d, e⟩, f, g⟩
    have : r.kids.length = r.names.length := by omega
    rw [this]
    exact ⟨e, ⟨a, b, c⟩, rfl, g, f⟩
  · rintro ⟨e, ⟨a, b, c⟩, d, g, f⟩
    rw [d] at g
    exact ⟨⟨a, b, c, by omega, e⟩, f, g⟩
theorem sk_7 {ll : List RuleD} {r : RuleD} (h : r.kind = 7) : (decide (r.size = 0 ∧ r.bytes.length = 0 ∧ r.names.length = 0 ∧ (r.little = true → r.kind = 1)) && (decide (r.kids.length = r.tags.length + 1) && (inR r.tags.length 1 8 && tagsGood r.tags (limitL ll (r.kids.getD 0 0))))) = (littleOk r && kindL ll r) := by
  rw [kindL_7 h]
  unfold littleOk
  rw [Bool.eq_iff_iff]
  simp only [Bool.and_eq_true, decide_eq_true_eq]
  constructor
  · rintro ⟨⟨a, b, c, e⟩, d, g, f⟩
    refine ⟨e, ⟨a, b, c, by omega⟩, g, f, tags_limit ?_ f⟩
    simp only [inR, Bool.and_eq_true, decide_eq_true_eq] at g
    omega
  · rintro ⟨e, ⟨a, b, c, d⟩, g, f, _⟩
    exact ⟨⟨a, b, c, e⟩, by omega, g, f⟩
theorem sk_8 {ll : List RuleD} {r : RuleD} (h : r.kind = 8) : (decide (r.size = 0 ∧ r.bytes.length = 0 ∧ r.names.length = 0 ∧ r.tags.length = 0 ∧ (r.kids.length : Int) = 1 ∧ (r.little = true → r.kind = 1))) = (littleOk r && kindL ll r) := by
  rw [kindL_8 h]
  unfold littleOk
  rw [Bool.eq_iff_iff]
  simp only [Bool.and_eq_true, decide_eq_true_eq]
  constructor
  · rintro ⟨a0, a1, a2, a3, a4, e⟩
    exact ⟨e, a0, a1, a2, a3, a4⟩
  · rintro ⟨e, a0, a1, a2, a3, a4⟩
    exact ⟨a0, a1, a2, a3, a4, e⟩
theorem sk_9 {ll : List RuleD} {r : RuleD} (h : r.kind = 9) : (decide (r.size = 0 ∧ r.bytes.length = 0 ∧ r.names.length = 0 ∧ r.tags.length = 0 ∧ (r.kids.length : Int) = 1 ∧ (r.little = true → r.kind = 1))) = (littleOk r && kindL ll r) := by
  rw [kindL_9 h]
  unfold littleOk
  rw [Bool.eq_iff_iff]
  simp only [Bool.and_eq_true, decide_eq_true_eq]
  constructor
  · rintro ⟨a0, a1, a2, a3, a4, e⟩
    exact ⟨e, a0, a1, a2, a3, a4⟩
  · rintro ⟨e, a0, a1, a2, a3, a4⟩
    exact ⟨a0, a1, a2, a3, a4, e⟩
theorem sk_10 {ll : List RuleD} {r : RuleD} (h : r.kind = 10) : (decide (r.size = 0 ∧ r.names.length = 0 ∧ r.tags.length = 0 ∧ (r.kids.length : Int) = 0 ∧ (r.little = true → r.kind = 1)) && (decide (r.bytes.length = 1) && !decide (r.bytes.getD 0 0 = 92))) = (littleOk r && kindL ll r) := by
  rw [kindL_10 h]
  unfold littleOk
  rw [Bool.eq_iff_iff]
  simp only [Bool.and_eq_true, decide_eq_true_eq, and_assoc]
  constructor
  · rintro ⟨a0, a1, a2, a3, e, z⟩
    exact ⟨e, a0, a1, a2, a3, z⟩
  · rintro ⟨e, a0, a1, a2, a3, z⟩
    exact ⟨a0, a1, a2, a3, e, z⟩

theorem i_validKind (d : Value) (ll : List RuleD) (r : RuleD) (vb vn vt vk : Value) (hf : ∀ x ∈ r.kids, fits x) (hts : r.tags.length ≤ 1048576) (hnm : ∀ x ∈ r.names, x.size ≤ maxLen) (w : World) (hd : RdDesc w d ll) (h : RdRule w (ruleCells r vb vn vt vk) r) :
    Calls Try.prog 67 #[d, .agg #[.string r.name, .int .i64 r.kind, .int .i64 r.size, .bool r.little, vb, vn, vt, vk]] w
      fun e w' => e = .returned (.bool (kindL ll r)) ∧ Below w.heap.size w w' := by
  by_cases hk : 1 ≤ r.kind ∧ r.kind ≤ 10
  · have : r.kind = 1 ∨ r.kind = 2 ∨ r.kind = 3 ∨ r.kind = 4 ∨ r.kind = 5 ∨ r.kind = 6 ∨ r.kind = 7 ∨ r.kind = 8 ∨ r.kind = 9 ∨ r.kind = 10 := by omega
    rcases this with h1 | h1 | h1 | h1 | h1 | h1 | h1 | h1 | h1 | h1
    · refine (i_kind1 d ll r vb vn vt vk h1 hf hts hnm w hd h).mono ?_
      rintro e w' ⟨rfl, hb⟩
      exact ⟨by rw [(kindL_1 h1).symm], hb⟩
    · refine (i_kind2 d ll r vb vn vt vk h1 hf hts hnm w hd h).mono ?_
      rintro e w' ⟨rfl, hb⟩
      exact ⟨by rw [(kindL_2 h1).symm], hb⟩
    · refine (i_kind3 d ll r vb vn vt vk h1 hf hts hnm w hd h).mono ?_
      rintro e w' ⟨rfl, hb⟩
      exact ⟨by rw [(kindL_3 h1).symm], hb⟩
    · refine (i_kind4 d ll r vb vn vt vk h1 hf hts hnm w hd h).mono ?_
      rintro e w' ⟨rfl, hb⟩
      exact ⟨by rw [(kindL_4 h1).symm], hb⟩
    · refine (i_kind5 d ll r vb vn vt vk h1 hf hts hnm w hd h).mono ?_
      rintro e w' ⟨rfl, hb⟩
      exact ⟨by rw [(kindL_5 h1).symm], hb⟩
    · refine (i_kind6 d ll r vb vn vt vk h1 hf hts hnm w hd h).mono ?_
      rintro e w' ⟨rfl, hb⟩
      exact ⟨by rw [(kindL_6 h1).symm], hb⟩
    · refine (i_kind7 d ll r vb vn vt vk h1 hf hts hnm w hd h).mono ?_
      rintro e w' ⟨rfl, hb⟩
      exact ⟨by rw [(kindL_7 h1).symm], hb⟩
    · refine (i_kind8 d ll r vb vn vt vk h1 hf hts hnm w hd h).mono ?_
      rintro e w' ⟨rfl, hb⟩
      exact ⟨by rw [(kindL_8 h1).symm], hb⟩
    · refine (i_kind9 d ll r vb vn vt vk h1 hf hts hnm w hd h).mono ?_
      rintro e w' ⟨rfl, hb⟩
      exact ⟨by rw [(kindL_9 h1).symm], hb⟩
    · refine (i_kind10 d ll r vb vn vt vk h1 hf hts hnm w hd h).mono ?_
      rintro e w' ⟨rfl, hb⟩
      exact ⟨by rw [(kindL_10 h1).symm], hb⟩
  · obtain ⟨v, rfl, _⟩ := hd
    refine (i_kindNo v r vb vn vt vk hk w).mono ?_
    rintro e w' ⟨rfl, hb⟩
    exact ⟨by rw [kindL_no hk], hb⟩

theorem s_l4Kind (d : Value) (ll : List RuleD) (r : RuleD) (vb vn vt vk : Value) (hf : ∀ x ∈ r.kids, fits x) (hts : r.tags.length ≤ 1048576) (hnm : ∀ x ∈ r.names, x.size ≤ maxLen) (w : World) (hd : RdDesc w d ll) (h : RdRule w (ruleCells r vb vn vt vk) r) :
    Calls Try.prog 65 #[d, .agg #[.string r.name, .int .i64 r.kind, .int .i64 r.size, .bool r.little, vb, vn, vt, vk]] w
      fun e w' => e = .returned (.bool (littleOk r && kindL ll r)) ∧ Below w.heap.size w w' := by
  by_cases hk : 1 ≤ r.kind ∧ r.kind ≤ 10
  · have : r.kind = 1 ∨ r.kind = 2 ∨ r.kind = 3 ∨ r.kind = 4 ∨ r.kind = 5 ∨ r.kind = 6 ∨ r.kind = 7 ∨ r.kind = 8 ∨ r.kind = 9 ∨ r.kind = 10 := by omega
    rcases this with h1 | h1 | h1 | h1 | h1 | h1 | h1 | h1 | h1 | h1
    · refine (s_kind1 d ll r vb vn vt vk h1 hf hts hnm w hd h).mono ?_
      rintro e w' ⟨rfl, hb⟩
      exact ⟨by rw [sk_1 h1], hb⟩
    · refine (s_kind2 d ll r vb vn vt vk h1 hf hts hnm w hd h).mono ?_
      rintro e w' ⟨rfl, hb⟩
      exact ⟨by rw [sk_2 h1], hb⟩
    · refine (s_kind3 d ll r vb vn vt vk h1 hf hts hnm w hd h).mono ?_
      rintro e w' ⟨rfl, hb⟩
      exact ⟨by rw [sk_3 h1], hb⟩
    · refine (s_kind4 d ll r vb vn vt vk h1 hf hts hnm w hd h).mono ?_
      rintro e w' ⟨rfl, hb⟩
      exact ⟨by rw [sk_4 h1], hb⟩
    · refine (s_kind5 d ll r vb vn vt vk h1 hf hts hnm w hd h).mono ?_
      rintro e w' ⟨rfl, hb⟩
      exact ⟨by rw [sk_5 h1], hb⟩
    · refine (s_kind6 d ll r vb vn vt vk h1 hf hts hnm w hd h).mono ?_
      rintro e w' ⟨rfl, hb⟩
      exact ⟨by rw [sk_6 h1], hb⟩
    · refine (s_kind7 d ll r vb vn vt vk h1 hf hts hnm w hd h).mono ?_
      rintro e w' ⟨rfl, hb⟩
      exact ⟨by rw [sk_7 h1], hb⟩
    · refine (s_kind8 d ll r vb vn vt vk h1 hf hts hnm w hd h).mono ?_
      rintro e w' ⟨rfl, hb⟩
      exact ⟨by rw [sk_8 h1], hb⟩
    · refine (s_kind9 d ll r vb vn vt vk h1 hf hts hnm w hd h).mono ?_
      rintro e w' ⟨rfl, hb⟩
      exact ⟨by rw [sk_9 h1], hb⟩
    · refine (s_kind10 d ll r vb vn vt vk h1 hf hts hnm w hd h).mono ?_
      rintro e w' ⟨rfl, hb⟩
      exact ⟨by rw [sk_10 h1], hb⟩
  · obtain ⟨v, rfl, _⟩ := hd
    refine (s_kindNo v r vb vn vt vk hk w).mono ?_
    rintro e w' ⟨rfl, hb⟩
    exact ⟨by rw [kindL_no hk]; simp, hb⟩

end Go.Proofs.Ytcegbilfcblhfaa
