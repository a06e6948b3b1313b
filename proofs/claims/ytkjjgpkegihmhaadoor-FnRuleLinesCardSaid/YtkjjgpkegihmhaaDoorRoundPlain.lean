/-
  What is written is read back, in plain Lean: a rule's line, behind the rules that it uses, is parsed to the rule. No function of the program in sight.
-/
import Derived.Test.YtkjjgpkegihmhaaDoorParsePlain
import Derived.Test.YtkjjgpkegihmhaaDoorHexPlain
namespace Go.Proofs.YtkjjgpkegihmhaaDoor
open Go.RowKit
set_option linter.unusedVariables false

/-! Beginnings of a description. -/
theorem ruleAt_take {l : List RuleD} {m : Nat} {k : Int} (h0 : 0 < m) (hk : k < m) : ruleAt (l.take m) k = ruleAt l k := by
  unfold ruleAt
  rw [List.getElem?_take, if_pos (by omega)]
theorem hasL_take {l : List RuleD} {m : Nat} (hm : m ≤ l.length) {k : Int} (hk : k < m) : hasL (l.take m) k = hasL l k := by
  unfold hasL
  have h1 : decide (k < ((l.take m).length : Int)) = true := by rw [List.length_take]; simp; omega
  have h2 : decide (k < (l.length : Int)) = true := by simp; omega
  rw [h1, h2]
theorem limitL_take {l : List RuleD} {m : Nat} (h0 : 0 < m) (hm : m ≤ l.length) {k : Int} (hk : k < m) : limitL (l.take m) k = limitL l k := by
  unfold limitL
  rw [hasL_take hm hk, ruleAt_take h0 hk]
theorem kindL_take {l : List RuleD} {m : Nat} (h0 : 0 < m) (hm : m ≤ l.length) {r : RuleD} (hk : r.kids.getD 0 0 < m) : kindL (l.take m) r = kindL l r := by
  unfold kindL
  rw [limitL_take h0 hm hk]
theorem kids_first {r : RuleD} {m : Int} (h : kidsUnder r m = true) (hm : 0 ≤ m) : r.kids.getD 0 0 < m + 1 := by
  unfold kidsUnder at h
  cases hk : r.kids with
  | nil => simp; omega
  | cons k ks =>
    rw [hk, List.all_cons, Bool.and_eq_true, inR_iff] at h
    simp; omega
theorem validR_take {l : List RuleD} {m : Nat} (hm : m ≤ l.length) {i : Nat} (hi : i < m) : validR (l.take m) (i : Int) = validR l (i : Int) := by
  unfold validR
  have e1 : ruleAt (l.take m) (i : Int) = ruleAt l (i : Int) := ruleAt_take (by omega) (by omega)
  have e2 : hasL (l.take m) (i : Int) = hasL l (i : Int) := hasL_take hm (by omega)
  have e3 : nameNew (l.take m) (i : Int).toNat = nameNew l (i : Int).toNat := by
    unfold nameNew
    have : ((i : Int).toNat : Nat) = i := by omega
    rw [this, e1, List.take_take, Nat.min_eq_left (by omega)]
  rw [e1, e2, e3]
  by_cases hk : kidsUnder (ruleAt l (i : Int)) (i : Int) = true
  · rw [kindL_take (by omega) hm (by have := kids_first hk (by omega); omega)]
  · have : kidsUnder (ruleAt l (i : Int)) (i : Int) = false := by simpa using hk
    rw [this]; simp
theorem kidL_take {l : List RuleD} {m : Nat} (hm : m ≤ l.length) {i : Nat} (hi : i < m) (hk : kidsUnder (ruleAt l (i : Int)) (i : Int) = true) (j : Int) : kidL (l.take m) (i : Int) j = kidL l (i : Int) j := by
  unfold kidL
  rw [hasL_take hm (by omega), ruleAt_take (by omega) (by omega)]
  have hlt : (ruleAt l (i : Int)).kids.getD j.toNat 0 < m := by
    rw [List.getD_eq_getElem?_getD]
    cases hg : (ruleAt l (i : Int)).kids[j.toNat]? with
    | none => simp; omega
    | some x =>
      unfold kidsUnder at hk
      have := List.all_eq_true.1 hk x (List.mem_of_getElem? hg)
      rw [inR_iff] at this
      simp; omega
  rw [hasL_take hm hlt, ruleAt_take (by omega) hlt]
theorem wordsR_take {l : List RuleD} {m : Nat} (hm : m ≤ l.length) {i : Nat} (hi : i < m) (hk : kidsUnder (ruleAt l (i : Int)) (i : Int) = true) (r : RuleD) : wordsR (l.take m) (i : Int) r = wordsR l (i : Int) r := by
  have e : ∀ j, kidB (l.take m) (i : Int) j = kidB l (i : Int) j := fun j => by unfold kidB; rw [kidL_take hm hi hk]
  unfold wordsR argsL
  congr 2
  simp only [e]
  have e6 : seqW (l.take m) (i : Int) r = seqW l (i : Int) r := by funext j; unfold seqW; rw [e]
  have e7 : choW (l.take m) (i : Int) r = choW l (i : Int) r := by funext j; unfold choW; rw [e]
  rw [e6, e7]
theorem lineL_take {l : List RuleD} {m : Nat} (hm : m ≤ l.length) {i : Nat} (hi : i < m) : lineL (l.take m) (i : Int) = lineL l (i : Int) := by
  unfold lineL
  rw [validR_take hm hi, ruleAt_take (by omega) (by omega)]
  by_cases h : validR l (i : Int) = true
  · rw [if_pos h, if_pos h, wordsR_take hm hi (validR_kids h)]
  · rw [if_neg h, if_neg h]
theorem rulesGood_at {l : List RuleD} (h : rulesGood l = true) {i : Nat} (hi : i < l.length) : validR l (i : Int) = true := by
  unfold rulesGood at h
  exact List.all_eq_true.1 h i (List.mem_range.2 hi)
theorem rulesGood_take {l : List RuleD} (h : rulesGood l = true) {m : Nat} (hm : m ≤ l.length) : rulesGood (l.take m) = true := by
  refine rulesGood_all fun j hj => ?_
  rw [List.length_take] at hj
  rw [validR_take hm (by omega)]
  exact rulesGood_at h (by omega)
theorem rulesGood_push {l : List RuleD} {r : RuleD} (h : rulesGood l = true) (hr : validR (l ++ [r]) (l.length : Int) = true) : rulesGood (l ++ [r]) = true := by
  refine rulesGood_all fun j hj => ?_
  by_cases hjl : j < l.length
  · have e : (l ++ [r]).take l.length = l := by simp
    rw [← validR_take (m := l.length) (by simp) hjl, e]
    exact rulesGood_at h hjl
  · have : j = l.length := by simp at hj; omega
    subst this
    exact hr

/-! Names. -/
theorem okAt_not {x : UInt8} {k : Nat} (h : okAt x k = true) : x ≠ 10 ∧ x ≠ 32 ∧ x ≠ 35 ∧ x ≠ 58 := by
  unfold okAt at h
  refine ⟨?_, ?_, ?_, ?_⟩ <;> (rintro rfl; simp at h)
theorem name_mem {l : List UInt8} (h : isName l = true) : ∀ x ∈ l, x ≠ 10 ∧ x ≠ 32 ∧ x ≠ 35 ∧ x ≠ 58 := by
  unfold isName at h
  simp only [Bool.and_eq_true] at h
  intro x hx
  obtain ⟨j, hj, rfl⟩ := List.getElem_of_mem hx
  exact okAt_not ((nameFrom_iff l 0).1 h.2 j _ (List.getElem?_eq_getElem hj))
theorem name_ne {l : List UInt8} (h : isName l = true) : l ≠ [] := by
  rintro rfl
  exact absurd h (by decide)
/-- A word of a line: not empty; no space, no end of a line. -/
def Plainly (p : List UInt8) : Prop := p ≠ [] ∧ ∀ x ∈ p, x ≠ 10 ∧ x ≠ 32
theorem Plainly.name {l : List UInt8} (h : isName l = true) : Plainly l := ⟨name_ne h, fun x hx => ⟨(name_mem h x hx).1, (name_mem h x hx).2.1⟩⟩
theorem digits_not {l : List UInt8} (h : l.all isDigit = true) : ∀ x ∈ l, x ≠ 10 ∧ x ≠ 32 ∧ x ≠ 35 ∧ x ≠ 58 := by
  intro x hx
  have := List.all_eq_true.1 h x hx
  refine ⟨?_, ?_, ?_, ?_⟩ <;> (rintro rfl; exact absurd this (by decide))
theorem parseOk_ne {l : List UInt8} (h : parseOk l = true) : l ≠ [] := by
  rintro rfl
  exact absurd h (by decide)
theorem fmt_not {m : Int} (h0 : 0 ≤ m) (h1 : m ≤ 1000000000000) : ∀ x ∈ fmtInt m, x ≠ 10 ∧ x ≠ 32 ∧ x ≠ 35 ∧ x ≠ 58 := digits_not (fmt_digits h0 h1)
theorem Plainly.fmt {m : Int} (h0 : 0 ≤ m) (h1 : m ≤ 1000000000000) : Plainly (fmtInt m) :=
  ⟨parseOk_ne (parse_fmt_yes h0 h1).1, fun x hx => ⟨(fmt_not h0 h1 x hx).1, (fmt_not h0 h1 x hx).2.1⟩⟩
theorem hexD_not {n : Nat} (h : n < 16) : hexD n ≠ 10 ∧ hexD n ≠ 32 := by
  have : ∀ k < 16, hexD k ≠ 10 ∧ hexD k ≠ 32 := by decide
  exact this n h
theorem Plainly.hex {l : List UInt8} (h : l ≠ []) : Plainly (hexL l) := by
  refine ⟨?_, ?_⟩
  · intro e
    have := hexL_len l
    rw [e] at this
    cases l with
    | nil => exact h rfl
    | cons _ _ => simp at this
  · intro x hx
    unfold hexL at hx
    obtain ⟨b, _, hb⟩ := List.mem_flatMap.1 hx
    simp only [hexPair, List.mem_cons, List.not_mem_nil, or_false] at hb
    have hbl := b.toNat_lt
    rcases hb with rfl | rfl
    · exact hexD_not (by omega)
    · exact hexD_not (by omega)
theorem Plainly.pair {a b : List UInt8} (ha : ∀ x ∈ a, x ≠ 10 ∧ x ≠ 32) (hb : ∀ x ∈ b, x ≠ 10 ∧ x ≠ 32) : Plainly (a ++ (58 :: b)) := by
  refine ⟨by simp, fun x hx => ?_⟩
  rw [List.mem_append, List.mem_cons] at hx
  rcases hx with hx | rfl | hx
  · exact ha x hx
  · decide
  · exact hb x hx

/-! Kids' names in a description whose rules are valid. -/
theorem kid_under {l : List RuleD} {i : Nat} (hv : validR l (i : Int) = true) {j : Nat} (hj : j < (ruleAt l (i : Int)).kids.length) :
    ∃ k : Nat, (ruleAt l (i : Int)).kids[j] = (k : Int) ∧ k < i ∧ i < l.length ∧ kidL l (i : Int) (j : Int) = (ruleAt l (k : Int)).name := by
  have hk := validR_kids hv
  unfold kidsUnder at hk
  have h1 := List.all_eq_true.1 hk _ (List.getElem_mem hj)
  rw [inR_iff] at h1
  obtain ⟨m, hm, hml⟩ := hasL_nat (validR_has hv)
  refine ⟨(ruleAt l (i : Int)).kids[j].toNat, by omega, by omega, by omega, ?_⟩
  have e : (ruleAt l (i : Int)).kids.getD (j : Int).toNat 0 = (ruleAt l (i : Int)).kids[j] := getD_at (by simpa using hj)
  unfold kidL
  rw [e, if_pos ⟨validR_has hv, by omega, by omega, hasL_yes (by omega) (by omega)⟩]
  congr 2
  omega
theorem rule_name {l : List RuleD} (h : rulesGood l = true) {k : Nat} (hk : k < l.length) : isName (ruleAt l (k : Int)).name.data.toList = true := validR_name (rulesGood_at h hk)
theorem names_apart {l : List RuleD} (h : rulesGood l = true) {j k : Nat} (hj : j < k) (hk : k < l.length) : (ruleAt l (j : Int)).name ≠ (ruleAt l (k : Int)).name := by
  have hn := validR_new (rulesGood_at h hk)
  unfold nameNew at hn
  have := List.all_eq_true.1 hn (l[j]'(by omega)) (by rw [List.mem_take_iff_getElem]; exact ⟨j, by omega, rfl⟩)
  rw [ruleAt_eq (by omega : j < l.length)]
  simpa using this
theorem find_name {l : List RuleD} (h : rulesGood l = true) {k m : Nat} (hk : k < m) (hm : m ≤ l.length) : findL (l.take m) (ruleAt l (k : Int)).name = (k : Int) := by
  have hkl : k < (l.take m).length := by rw [List.length_take]; omega
  refine findL_at hkl (fun j hj hjk => ?_) ?_
  · rw [List.getElem_take, ← ruleAt_eq (by omega : j < l.length)]
    exact names_apart h hjk (by omega)
  · rw [List.getElem_take, ← ruleAt_eq (by omega : k < l.length)]
theorem kid_name {l : List RuleD} (h : rulesGood l = true) {i : Nat} (hi : i < l.length) {j : Nat} (hj : j < (ruleAt l (i : Int)).kids.length) : isName (kidB l (i : Int) (j : Int)) = true := by
  obtain ⟨k, _, h2, _, h4⟩ := kid_under (rulesGood_at h hi) hj
  unfold kidB
  rw [h4]
  exact rule_name h (by omega)
/-- The kids are found by their names, behind the rules that they refer to. -/
theorem kids_back {l : List RuleD} (h : rulesGood l = true) {i : Nat} (hi : i < l.length) {m : Nat} (hm : i ≤ m) (hml : m ≤ l.length) : ∀ n, n ≤ (ruleAt l (i : Int)).kids.length → kidsL (l.take m) ((List.range n).map fun j : Nat => kidL l (i : Int) (j : Int)) = some ((ruleAt l (i : Int)).kids.take n) := by
  intro n
  induction n with
  | zero => intro _; simp [kidsL]
  | succ n ih =>
    intro hn
    rw [List.range_succ, List.map_append, kidsL_append, ih (by omega)]
    obtain ⟨k, h1, h2, h3, h4⟩ := kid_under (rulesGood_at h hi) (show n < _ by omega)
    have hf : findL (l.take m) (kidL l (i : Int) (n : Int)) = (k : Int) := by rw [h4]; exact find_name h (by omega) hml
    simp only [List.map_cons, List.map_nil, kidsL, hf]
    rw [if_pos (by omega)]
    simp only [Option.map_some, Option.bind_some]
    rw [List.take_succ_eq_append_getElem (by omega), h1]

/-! The words of a line. -/
theorem args_plain {l : List RuleD} (h : rulesGood l = true) {i : Nat} (hi : i < l.length) : argsL l (i : Int) (ruleAt l (i : Int)) ≠ [] ∧ ∀ p ∈ argsL l (i : Int) (ruleAt l (i : Int)), Plainly p := by
  have hv := rulesGood_at h hi
  have hs := shape_of (validR_kind hv)
  have hkid := fun {j : Nat} => kid_name h hi (j := j)
  have hlim := limitL_range l ((ruleAt l (i : Int)).kids.getD 0 0)
  revert hs hkid hlim
  generalize ruleAt l (i : Int) = r
  intro hs hkid hlim
  have kidsCase : (r.kind = 4 ∨ r.kind = 5 ∨ r.kind = 8 ∨ r.kind = 9) → 1 ≤ r.kids.length → argsL l (i : Int) r ≠ [] ∧ ∀ p ∈ argsL l (i : Int) r, Plainly p := by
    intro hk hn
    rw [args_k hk]
    refine ⟨by simp; intro e; rw [e] at hn; simp at hn, fun p hp => ?_⟩
    obtain ⟨j, hj, rfl⟩ := List.mem_map.1 hp
    exact Plainly.name (hkid (List.mem_range.1 hj))
  rcases hs with h | h | h | h | h | h | h | h | h | h
  · rw [args_1 h.1]
    refine ⟨by simp, fun p hp => ?_⟩
    rw [List.mem_cons] at hp
    rcases hp with rfl | hp
    · exact Plainly.fmt (by omega) (by omega)
    · split at hp
      · have : p = littleB := by simpa using hp
        rw [this]; exact Plainly.name (by decide)
      · cases hp
  · rw [args_2 (.inl h.1)]
    refine ⟨by simp, fun p hp => ?_⟩
    have : p = hexL r.bytes := by simpa using hp
    rw [this]; exact Plainly.hex (by rintro e; rw [e] at h; simp at h)
  · rw [args_3 h.1]
    refine ⟨by simp, fun p hp => ?_⟩
    have : p = fmtInt r.size := by simpa using hp
    rw [this]; exact Plainly.fmt (by omega) (by omega)
  · exact kidsCase (by omega) (by omega)
  · exact kidsCase (by omega) (by omega)
  · rw [args_6 h.1]
    refine ⟨by simp; intro e; rw [e] at h; simp at h, fun p hp => ?_⟩
    obtain ⟨j, hj, rfl⟩ := List.mem_map.1 hp
    have hj' := List.mem_range.1 hj
    have hjn : j < r.names.length := by omega
    have h3 := (namesGood_at h.2.2.2.2.2.2.2 hjn).1
    unfold seqW
    rw [getD_at hjn]
    exact Plainly.pair (Plainly.name h3).2 (Plainly.name (hkid hj')).2
  · rw [args_7 h.1]
    refine ⟨by simp, fun p hp => ?_⟩
    rw [List.mem_cons] at hp
    rcases hp with rfl | hp
    · exact Plainly.name (hkid (j := 0) (by omega))
    · obtain ⟨j, hj, rfl⟩ := List.mem_map.1 hp
      have hj' := List.mem_range.1 hj
      have h3 := tagsGood_at h.2.2.2.2.2.2.2.1 hj'
      unfold choW
      rw [getD_at hj']
      have hk := (Plainly.name (hkid (j := j + 1) (by omega))).2
      exact Plainly.pair (Plainly.fmt (by omega) (by omega)).2 hk
  · exact kidsCase (by omega) (by omega)
  · exact kidsCase (by omega) (by omega)
  · rw [args_2 (.inr h.1)]
    refine ⟨by simp, fun p hp => ?_⟩
    have : p = hexL r.bytes := by simpa using hp
    rw [this]; exact Plainly.hex (by rintro e; rw [e] at h; simp at h)
theorem shape_kind {ll : List RuleD} {r : RuleD} (h : Shape ll r) : 1 ≤ r.kind ∧ r.kind ≤ 10 := by
  rcases h with h | h | h | h | h | h | h | h | h | h <;> (have := h.1; omega)
theorem wordsR_plain {l : List RuleD} (h : rulesGood l = true) {i : Nat} (hi : i < l.length) : ∀ p ∈ wordsR l (i : Int) (ruleAt l (i : Int)), Plainly p := by
  have hk := shape_kind (shape_of (validR_kind (rulesGood_at h hi)))
  intro p hp
  unfold wordsR at hp
  rw [List.mem_cons, List.mem_cons] at hp
  rcases hp with rfl | rfl | hp
  · exact Plainly.name (rule_name h hi)
  · exact Plainly.name (kind_isName hk.1 hk.2)
  · exact (args_plain h hi).2 p hp
theorem words_join {ws : List (List UInt8)} (hne : ws ≠ []) (h : ∀ p ∈ ws, (32 : UInt8) ∉ p ∧ p ≠ []) : wordsL (Lib.join ws [32]) = ws := by
  unfold wordsL
  rw [split_join hne (fun p hp => (h p hp).1)]
  rw [List.filter_eq_self]
  intro p hp
  have := (h p hp).2
  simpa using this
theorem Plainly.not32 {p : List UInt8} (h : Plainly p) : (32 : UInt8) ∉ p := fun hm => (h.2 _ hm).2 rfl
theorem Plainly.not10 {p : List UInt8} (h : Plainly p) : (10 : UInt8) ∉ p := fun hm => (h.2 _ hm).1 rfl
theorem lineL_good {l : List RuleD} (h : rulesGood l = true) {i : Nat} (hi : i < l.length) : lineL l (i : Int) = Lib.join (wordsR l (i : Int) (ruleAt l (i : Int))) [32] := by
  unfold lineL
  rw [if_pos (rulesGood_at h hi)]
theorem line_words {l : List RuleD} (h : rulesGood l = true) {i : Nat} (hi : i < l.length) : wordsL (lineL l (i : Int)) = wordsR l (i : Int) (ruleAt l (i : Int)) := by
  rw [lineL_good h hi]
  exact words_join (by unfold wordsR; simp) fun p hp => ⟨(wordsR_plain h hi p hp).not32, (wordsR_plain h hi p hp).1⟩

/-! The fields, read back. -/
theorem kindOf_kindName {k : Int} (h : 1 ≤ k ∧ k ≤ 10) : kindOf (kindName k) = k := by
  obtain ⟨j, hj⟩ : ∃ j : Nat, k = (j : Int) + 1 := ⟨(k - 1).toNat, by omega⟩
  subst hj
  rw [kindName_nat]
  exact kindUpto_at (Nat.le_refl _) (by omega) rfl
theorem cut_at {a b : List UInt8} {c : UInt8} (h : c ∉ a) : cutOk (a ++ (c :: b)) c = true ∧ cutLeft (a ++ (c :: b)) c = a ∧ cutRight (a ++ (c :: b)) c = b := by
  induction a with
  | nil => rw [List.nil_append, cutOk_cons, cutLeft_cons, cutRight_cons]; simp
  | cons x a ih =>
    simp only [List.mem_cons, not_or] at h
    obtain ⟨h1, h2, h3⟩ := ih h.2
    have hx : x ≠ c := fun e => h.1 e.symm
    rw [List.cons_append, cutOk_cons, cutLeft_cons, cutRight_cons, h1, h2, h3, if_neg hx, if_neg hx]
    simp
theorem pair_cut {a b : List UInt8} (h : (58 : UInt8) ∉ a) : sOk (mkS (a ++ (58 :: b))) = true ∧ sLeft (mkS (a ++ (58 :: b))) = mkS a ∧ sRight (mkS (a ++ (58 :: b))) = mkS b := by
  obtain ⟨h1, h2, h3⟩ := cut_at (b := b) h
  unfold sOk sLeft sRight
  rw [mkS_list, h1, h2, h3]
  exact ⟨rfl, rfl, rfl⟩
theorem name_58 {l : List UInt8} (h : isName l = true) : (58 : UInt8) ∉ l := fun hm => (name_mem h _ hm).2.2.2 rfl
theorem range_getD (l : List ByteArray) (d : ByteArray) : (List.range l.length).map (fun j => l.getD j d) = l := by
  apply List.ext_getElem
  · simp
  · intro j h1 h2
    rw [List.getElem_map, List.getElem_range, getD_at h2]
theorem range_getDi (l : List Int) (d : Int) : (List.range l.length).map (fun j => l.getD j d) = l := by
  apply List.ext_getElem
  · simp
  · intro j h1 h2
    rw [List.getElem_map, List.getElem_range, getD_at h2]
theorem rule_eq8 {r q : RuleD} (h1 : q.name = r.name) (h2 : q.kind = r.kind) (h3 : q.size = r.size) (h4 : q.little = r.little) (h5 : q.bytes = r.bytes) (h6 : q.names = r.names) (h7 : q.tags = r.tags) (h8 : q.kids = r.kids) : q = r := by
  cases q; cases r; simp_all

theorem little_mk : mkS littleB = littleS := rfl
theorem tS_kids (l : List RuleD) (i : Int) (n : Nat) : tS ((List.range n).map fun j : Nat => kidB l i (j : Int)) = (List.range n).map fun j : Nat => kidL l i (j : Int) := by
  unfold tS
  rw [List.map_map]
  apply List.map_congr_left
  intro j _
  show mkS (kidB l i (j : Int)) = kidL l i (j : Int)
  unfold kidB
  exact mkS_of _
/-- The fields out of the words behind the kind: behind the first m rules, m at least i. -/
theorem fields_back {l : List RuleD} (h : rulesGood l = true) {i : Nat} (hi : i < l.length) {m : Nat} (hm : i ≤ m) (hml : m ≤ l.length) (q : RuleD) (hq : q = ⟨(ruleAt l (i : Int)).name, (ruleAt l (i : Int)).kind, 0, false, [], [], [], []⟩) :
    fieldsP (l.take m) q (tS (argsL l (i : Int) (ruleAt l (i : Int)))) = some (ruleAt l (i : Int)) := by
  have hv := rulesGood_at h hi
  have hs := shape_of (validR_kind hv)
  have hlit : littleOk (ruleAt l (i : Int)) = true := validR_little hv
  have hkid := fun {j : Nat} => kid_name h hi (j := j)
  have hback := kids_back h hi hm hml
  have hlim := limitL_range l ((ruleAt l (i : Int)).kids.getD 0 0)
  revert hs hlit hkid hback hlim hq
  generalize ruleAt l (i : Int) = r
  intro hq hs hlit hkid hback hlim
  have hqk : q.kind = r.kind := by rw [hq]
  have hl0 : r.kind ≠ 1 → r.little = false := by
    intro hne
    unfold littleOk at hlit
    simp only [decide_eq_true_eq] at hlit
    cases hb : r.little with
    | false => rfl
    | true => exact absurd (hlit hb) hne
  have kidsCase : (r.kind = 4 ∨ r.kind = 5 ∨ r.kind = 8 ∨ r.kind = 9) → r.size = 0 → r.bytes = [] → r.names = [] → r.tags = [] → fieldsP (l.take m) q (tS (argsL l (i : Int) r)) = some r := by
    intro hk hz hb hn ht
    rw [fields_kids (by omega), args_k hk, tS_kids]
    unfold kidsP
    rw [hback _ (Nat.le_refl _), List.take_length]
    simp only [Option.map_some]
    congr 1
    subst hq
    exact rule_eq8 rfl rfl hz.symm (hl0 (by omega)).symm hb.symm hn.symm ht.symm rfl
  rcases hs with h | h | h | h | h | h | h | h | h | h
  · rw [fields_num (by omega), args_1 h.1]
    obtain ⟨p1, p2⟩ := parse_fmt_yes (m := r.size) (by omega) (by omega)
    show numP q (mkS (fmtInt r.size) :: tS (if r.little = true then [littleB] else [])) = some r
    refine Eq.trans (if_pos p1) ?_
    congr 1
    subst hq
    refine rule_eq8 rfl rfl p2 ?_ h.2.1.symm h.2.2.1.symm h.2.2.2.1.symm h.2.2.2.2.1.symm
    show decide ((tS (if r.little = true then [littleB] else [])).head? = some littleS) = r.little
    cases hb : r.little with
    | true => rw [if_pos rfl]; simp [tS, little_mk]
    | false => simp [tS]
  · rw [fields_hex (by omega), args_2 (.inl h.1)]
    show hexP q [mkS (hexL r.bytes)] = some r
    have e1 : parseBOk (hexL r.bytes) = true := by unfold parseBOk; rw [parse_hex]; rfl
    have e2 : parseB (hexL r.bytes) = r.bytes := by unfold parseB; rw [parse_hex]; rfl
    refine Eq.trans (if_pos e1) ?_
    congr 1
    subst hq
    exact rule_eq8 rfl rfl h.2.1.symm (hl0 (by omega)).symm e2 h.2.2.1.symm h.2.2.2.1.symm h.2.2.2.2.1.symm
  · rw [fields_num (by omega), args_3 h.1]
    obtain ⟨p1, p2⟩ := parse_fmt_yes (m := r.size) (by omega) (by omega)
    show numP q [mkS (fmtInt r.size)] = some r
    refine Eq.trans (if_pos p1) ?_
    congr 1
    subst hq
    refine rule_eq8 rfl rfl p2 ?_ h.2.1.symm h.2.2.1.symm h.2.2.2.1.symm h.2.2.2.2.1.symm
    rw [hl0 (by omega)]; rfl
  · exact kidsCase (by omega) h.2.1 h.2.2.1 h.2.2.2.1 h.2.2.2.2.1
  · exact kidsCase (by omega) h.2.1 h.2.2.1 h.2.2.2.1 h.2.2.2.2.1
  · rw [fields_parts (by omega), parts_seq (by omega), args_6 h.1]
    have hc : ∀ j, j < r.kids.length → sOk (mkS (seqW l (i : Int) r j)) = true ∧ sLeft (mkS (seqW l (i : Int) r j)) = r.names.getD j ⟨#[]⟩ ∧ sRight (mkS (seqW l (i : Int) r j)) = kidL l (i : Int) (j : Int) := by
      intro j hj
      have hjn : j < r.names.length := by omega
      have h3 := (namesGood_at h.2.2.2.2.2.2.2 hjn).1
      unfold seqW
      rw [getD_at hjn]
      obtain ⟨c1, c2, c3⟩ := pair_cut (b := kidB l (i : Int) (j : Int)) (name_58 h3)
      refine ⟨c1, by rw [c2, mkS_of], ?_⟩
      rw [c3]; unfold kidB; rw [mkS_of]
    have e0 : tS ((List.range r.kids.length).map (seqW l (i : Int) r)) = (List.range r.kids.length).map fun j => mkS (seqW l (i : Int) r j) := by unfold tS; rw [List.map_map]; rfl
    rw [e0]
    have a1 : ((List.range r.kids.length).map fun j => mkS (seqW l (i : Int) r j)).all sOk = true := by
      rw [List.all_eq_true]
      intro p hp
      obtain ⟨j, hj, rfl⟩ := List.mem_map.1 hp
      exact (hc j (List.mem_range.1 hj)).1
    have a2 : ((List.range r.kids.length).map fun j => mkS (seqW l (i : Int) r j)).map sLeft = r.names := by
      rw [List.map_map]
      refine Eq.trans ?_ (range_getD r.names ⟨#[]⟩)
      rw [← h.2.2.2.2.1]
      apply List.map_congr_left
      intro j hj
      have := (hc j (List.mem_range.1 hj)).2.1
      exact this
    have a3 : ((List.range r.kids.length).map fun j => mkS (seqW l (i : Int) r j)).map sRight = (List.range r.kids.length).map fun j : Nat => kidL l (i : Int) (j : Int) := by
      rw [List.map_map]
      apply List.map_congr_left
      intro j hj
      exact (hc j (List.mem_range.1 hj)).2.2
    rw [if_pos a1, a2, a3, hback _ (Nat.le_refl _), List.take_length]
    simp only [Option.map_some]
    congr 1
    subst hq
    exact rule_eq8 rfl rfl h.2.1.symm (hl0 (by omega)).symm h.2.2.1.symm rfl h.2.2.2.1.symm rfl
  · rw [fields_choice (by omega), args_7 h.1]
    have hkl : r.kids.length = r.tags.length + 1 := h.2.2.2.2.1
    have hc : ∀ j, j < r.tags.length → sOk (mkS (choW l (i : Int) r j)) = true ∧ sLeft (mkS (choW l (i : Int) r j)) = mkS (fmtInt (r.tags.getD j 0)) ∧ sRight (mkS (choW l (i : Int) r j)) = kidL l (i : Int) ((j : Int) + 1) := by
      intro j hj
      have h3 := tagsGood_at h.2.2.2.2.2.2.2.1 hj
      unfold choW
      rw [getD_at hj]
      obtain ⟨c1, c2, c3⟩ := pair_cut (a := fmtInt r.tags[j]) (b := kidB l (i : Int) ((j : Int) + 1)) (fun hm => (fmt_not (by omega) (by omega) _ hm).2.2.2 rfl)
      refine ⟨c1, c2, ?_⟩
      rw [c3]; unfold kidB; rw [mkS_of]
    have e0 : tS (kidB l (i : Int) 0 :: (List.range r.tags.length).map (choW l (i : Int) r)) = kidL l (i : Int) 0 :: (List.range r.tags.length).map fun j => mkS (choW l (i : Int) r j) := by
      unfold tS; rw [List.map_cons, List.map_map]
      congr 1
    rw [e0]
    unfold choiceP
    rw [if_neg (by simp)]
    simp only [List.take_succ_cons, List.take_zero, List.drop_succ_cons, List.drop_zero]
    have hb1 := hback 1 (by omega)
    have hr1 : ((List.range 1).map fun j : Nat => kidL l (i : Int) (j : Int)) = [kidL l (i : Int) 0] := rfl
    rw [hr1] at hb1
    unfold kidsP
    rw [hb1]
    simp only [Option.map_some, Option.bind_some]
    rw [parts_cho (by show q.kind = 7; omega)]
    have a1 : ((List.range r.tags.length).map fun j => mkS (choW l (i : Int) r j)).all sOk = true := by
      rw [List.all_eq_true]
      intro p hp
      obtain ⟨j, hj, rfl⟩ := List.mem_map.1 hp
      exact (hc j (List.mem_range.1 hj)).1
    have a2 : ((List.range r.tags.length).map fun j => mkS (choW l (i : Int) r j)).map sLeft = (List.range r.tags.length).map fun j => mkS (fmtInt (r.tags.getD j 0)) := by
      rw [List.map_map]
      apply List.map_congr_left
      intro j hj
      exact (hc j (List.mem_range.1 hj)).2.1
    have a3 : ((List.range r.tags.length).map fun j => mkS (choW l (i : Int) r j)).map sRight = (List.range r.tags.length).map fun j : Nat => kidL l (i : Int) ((j : Int) + 1) := by
      rw [List.map_map]
      apply List.map_congr_left
      intro j hj
      exact (hc j (List.mem_range.1 hj)).2.2
    have hnum : ∀ j, j < r.tags.length → tagOk (mkS (fmtInt (r.tags.getD j 0))) = true ∧ tagNum (mkS (fmtInt (r.tags.getD j 0))) = r.tags.getD j 0 := by
      intro j hj
      have h3 := tagsGood_at h.2.2.2.2.2.2.2.1 hj
      rw [getD_at hj]
      unfold tagOk tagNum
      rw [mkS_list]
      exact parse_fmt_yes (by omega) (by omega)
    have a4 : ((List.range r.tags.length).map fun j => mkS (fmtInt (r.tags.getD j 0))).all tagOk = true := by
      rw [List.all_eq_true]
      intro p hp
      obtain ⟨j, hj, rfl⟩ := List.mem_map.1 hp
      exact (hnum j (List.mem_range.1 hj)).1
    have a5 : ((List.range r.tags.length).map fun j => mkS (fmtInt (r.tags.getD j 0))).map tagNum = r.tags := by
      rw [List.map_map]
      refine Eq.trans ?_ (range_getDi r.tags 0)
      apply List.map_congr_left
      intro j hj
      exact (hnum j (List.mem_range.1 hj)).2
    have a6 : kidsL (l.take m) ((List.range r.tags.length).map fun j : Nat => kidL l (i : Int) ((j : Int) + 1)) = some (r.kids.drop 1) := by
      have hall := hback _ (Nat.le_refl _)
      rw [List.take_length, hkl, List.range_succ_eq_map, List.map_cons, List.map_map] at hall
      have e : (((fun j : Nat => kidL l (i : Int) (j : Int)) ∘ Nat.succ) : Nat → ByteArray) = fun j : Nat => kidL l (i : Int) ((j : Int) + 1) := by
        funext j
        show kidL l (i : Int) ((j.succ : Nat) : Int) = _
        congr 1
      rw [e] at hall
      simp only [kidsL] at hall
      split at hall
      · obtain ⟨x, hx, he⟩ := Option.map_eq_some_iff.1 hall
        rw [hx, ← he]; rfl
      · cases hall
    rw [a2, a3, a5, a6, if_pos ⟨a1, a4⟩]
    simp only [Option.map_some]
    congr 1
    subst hq
    refine rule_eq8 rfl rfl h.2.1.symm (hl0 (by omega)).symm h.2.2.1.symm h.2.2.2.1.symm rfl ?_
    show [] ++ r.kids.take 1 ++ r.kids.drop 1 = r.kids
    rw [List.nil_append, List.take_append_drop]
  · exact kidsCase (by omega) h.2.1 h.2.2.1 h.2.2.2.1 h.2.2.2.2.1
  · exact kidsCase (by omega) h.2.1 h.2.2.1 h.2.2.2.1 h.2.2.2.2.1
  · rw [fields_hex (by omega), args_2 (.inr h.1)]
    show hexP q [mkS (hexL r.bytes)] = some r
    have e1 : parseBOk (hexL r.bytes) = true := by unfold parseBOk; rw [parse_hex]; rfl
    have e2 : parseB (hexL r.bytes) = r.bytes := by unfold parseB; rw [parse_hex]; rfl
    refine Eq.trans (if_pos e1) ?_
    congr 1
    subst hq
    exact rule_eq8 rfl rfl h.2.1.symm (hl0 (by omega)).symm e2 h.2.2.1.symm h.2.2.2.1.symm h.2.2.2.2.1.symm

theorem rule0_of (l : List RuleD) (i : Int) (r : RuleD) (hk : 1 ≤ r.kind ∧ r.kind ≤ 10) : rule0 (wordsR l i r) = ⟨r.name, r.kind, 0, false, [], [], [], []⟩ := by
  unfold rule0 wordsR
  simp only [List.getD_cons_zero, List.getD_cons_succ]
  rw [mkS_of, mkS_of, kindOf_kindName hk]
theorem words_more {l : List RuleD} (h : rulesGood l = true) {i : Nat} (hi : i < l.length) : 3 ≤ (wordsR l (i : Int) (ruleAt l (i : Int))).length := by
  have := (args_plain h hi).1
  unfold wordsR
  cases ha : argsL l (i : Int) (ruleAt l (i : Int)) with
  | nil => exact absurd ha this
  | cons _ _ => simp
/-- A rule's line is parsed to the rule. -/
theorem parse_line {l : List RuleD} (h : rulesGood l = true) {i : Nat} (hi : i < l.length) {s : List UInt8} (hs : wordsL s = wordsL (lineL l (i : Int))) : parseI (l.take i) s = some (ruleAt l (i : Int)) := by
  have hk := shape_kind (shape_of (validR_kind (rulesGood_at h hi)))
  have h3 := words_more h hi
  unfold parseI
  rw [hs, line_words h hi, if_neg (by omega), rule0_of _ _ _ hk]
  have hd : (wordsR l (i : Int) (ruleAt l (i : Int))).drop 2 = argsL l (i : Int) (ruleAt l (i : Int)) := rfl
  rw [hd, fields_back h hi (Nat.le_refl i) (by omega) _ rfl, Option.bind_some]
  unfold lineOk
  have ht : l.take i ++ [ruleAt l (i : Int)] = l.take (i + 1) := by rw [ruleAt_eq hi, List.take_succ_eq_append_getElem hi]
  have hlen : (l.take i).length = i := by rw [List.length_take]; omega
  rw [ht, hlen, lineL_take (by omega) (by omega), lineL_good h hi, if_pos rfl]

end Go.Proofs.YtkjjgpkegihmhaaDoor
