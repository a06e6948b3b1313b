/-
  What is drawn of descriptions, in plain Lean: each rule is valid behind the rules ahead of it. No function of the program in sight.
-/
import Derived.Test.YtkjjgpkegihmhaaGreatDoorGF
namespace Go.Proofs.YtkjjgpkegihmhaaGreatDoor
open Go.RowKit
set_option linter.unusedVariables false

def preS : List (List UInt8) := [[97], [105, 116, 101, 109], [98], [104, 101, 97, 100], [120]]
def preN : List (List UInt8) := [[112], [113], [114]]
def dig1 (n : Nat) : List UInt8 := [(48 + n).toUInt8]
theorem dec_small : ∀ n, n < 10 → n ≠ 0 → dec n = [(48 + n).toUInt8] := by
  intro n hn h0
  rw [dec_pos h0]
  have e : n / 10 = 0 := by omega
  have e2 : n % 10 = n := by omega
  rw [e, e2, dec_zero]
  have : n = 1 ∨ n = 2 ∨ n = 3 ∨ n = 4 ∨ n = 5 ∨ n = 6 ∨ n = 7 ∨ n = 8 ∨ n = 9 := by omega
  rcases this with rfl | rfl | rfl | rfl | rfl | rfl | rfl | rfl | rfl <;> decide
theorem fmt_small {n : Nat} (h : n < 10) : fmtInt (n : Int) = dig1 n := by
  unfold fmtInt dig1
  by_cases h0 : n = 0
  · subst h0; rfl
  · rw [if_neg (by omega), if_neg (by omega), Int.natAbs_natCast]
    exact dec_small n h h0
theorem small_inj : ∀ a, a < 10 → ∀ b, b < 10 → (48 + a).toUInt8 = (48 + b).toUInt8 → a = b := by decide
theorem snoc_inj {a b : Nat} (ha : a < 10) (hb : b < 10) {p q : List UInt8} (h : p ++ dig1 a = q ++ dig1 b) : a = b := by
  unfold dig1 at h
  have h2 := (List.append_inj' h rfl).2
  injection h2 with h2
  exact small_inj a ha b hb h2
theorem pre_name : ∀ p ∈ preS, ∀ n, n < 10 → isName (p ++ dig1 n) = true := by decide
theorem pre_part : ∀ p ∈ preN, ∀ n, n < 10 → isName (p ++ dig1 n) = true := by decide

structure DrawnR (l : List RuleD) (k : Int) (r : RuleD) : Prop where
  name : ∃ p ∈ preS, r.name.data.toList = p ++ fmtInt l.length
  kind : r.kind = k
  little : littleOk r = true
  kids : kidsUnder r l.length = true
  good : kindL l r = true
structure Drawn (l : List RuleD) : Prop where
  good : rulesGood l = true
  names : ∀ (j : Nat) (h : j < l.length), ∃ p ∈ preS, l[j].name.data.toList = p ++ fmtInt j
  first : 0 < l.length → (ruleAt l 0).kind = 1
theorem Drawn.nil : Drawn [] := ⟨by rfl, fun j h => absurd h (Nat.not_lt_zero _), fun h => absurd h (Nat.lt_irrefl _)⟩
theorem kindL_one {l ll : List RuleD} {r : RuleD} (h : r.kind = 1) : kindL l r = kindL ll r := by rw [kindL_1 h, kindL_1 h]
theorem Drawn.push {l : List RuleD} {r : RuleD} {k : Int} (h : Drawn l) (hr : DrawnR l k r) (hk : l.length = 0 → k = 1) (hl : l.length < 10) : Drawn (l ++ [r]) := by
  have e : (l ++ [r]).take l.length = l := by simp
  have hk2 : kindL (l ++ [r]) r = true := by
    rcases Nat.eq_zero_or_pos l.length with h0 | h0
    · rw [kindL_one (ll := l) (hr.kind.trans (hk h0))]; exact hr.good
    · have hu := kids_first hr.kids (by omega)
      have hlt : r.kids.getD 0 0 < ((l.length : Nat) : Int) := by
        have hu := hr.kids
        unfold kidsUnder at hu
        cases hkk : r.kids with
        | nil => simp; omega
        | cons x t =>
          rw [hkk, List.all_cons, Bool.and_eq_true, inR_iff] at hu
          simp; omega
      have := kindL_take (l := l ++ [r]) (m := l.length) h0 (by simp) (r := r) hlt
      rw [e] at this
      rw [← this]; exact hr.good
  have hv : validR (l ++ [r]) (l.length : Int) = true := by
    unfold validR
    rw [ruleAt_new]
    simp only [Bool.and_eq_true]
    refine ⟨hasL_yes (by omega) (by simp; omega), ?_, hr.little, ?_, hr.kids, hk2⟩
    · obtain ⟨p, hp, hn⟩ := hr.name
      rw [hn, fmt_small hl]
      exact pre_name p hp _ hl
    · unfold nameNew
      rw [Int.toNat_natCast, e, List.all_eq_true, ruleAt_new]
      intro o ho
      obtain ⟨j, hj, rfl⟩ := List.getElem_of_mem ho
      obtain ⟨p, hp, hn⟩ := h.names j hj
      obtain ⟨q, hq, hm⟩ := hr.name
      simp only [decide_eq_true_eq]
      intro he
      rw [he, hm, fmt_small hl, fmt_small (by omega)] at hn
      have := snoc_inj hl (by omega) hn
      omega
  refine ⟨rulesGood_push h.good hv, fun j hj => ?_, fun _ => ?_⟩
  · by_cases hjl : j < l.length
    · rw [List.getElem_append_left hjl]; exact h.names j hjl
    · have : j = l.length := by simp at hj; omega
      subst this
      simpa using hr.name
  · rcases Nat.eq_zero_or_pos l.length with h0 | h0
    · have : l = [] := List.eq_nil_of_length_eq_zero h0
      subst this
      show (ruleAt ([] ++ [r]) ((([] : List RuleD).length : Nat) : Int)).kind = 1
      rw [ruleAt_new]
      exact hr.kind.trans (hk rfl)
    · rw [← ruleAt_take (l := l ++ [r]) (m := l.length) h0 (by omega), e]
      exact h.first h0

theorem Drawn.limit {l : List RuleD} (h : Drawn l) {k : Nat} (hk : k < l.length) (h1 : (ruleAt l (k : Int)).kind = 1) : 255 ≤ limitL l (k : Int) := by
  have hs := shape_of (validR_kind (rulesGood_at h.good hk))
  have hsz : 1 ≤ (ruleAt l (k : Int)).size ∧ (ruleAt l (k : Int)).size ≤ 4 := by
    rcases hs with h | h | h | h | h | h | h | h | h | h
    · exact ⟨h.2.2.2.2.2.1, h.2.2.2.2.2.2.1⟩
    all_goals (have := h.1; omega)
  unfold limitL
  rw [if_pos ⟨hasL_yes (by omega) (by omega), h1⟩]
  unfold limitOf
  have : (ruleAt l (k : Int)).size = 1 ∨ (ruleAt l (k : Int)).size = 2 ∨ (ruleAt l (k : Int)).size = 3 ∨ (ruleAt l (k : Int)).size = 4 := by omega
  rcases this with e | e | e | e <;> rw [e] <;> decide

section
variable {l : List RuleD} {nm : ByteArray}
def NameN (n : Nat) (nm : ByteArray) : Prop := ∃ p ∈ preS, nm.data.toList = p ++ fmtInt n
def IntAt (l : List RuleD) (k : Int) : Prop := 0 ≤ k ∧ k < l.length ∧ (ruleAt l k).kind = 1
theorem IntAt.limit {k : Int} (h : IntAt l k) (hd : Drawn l) : 255 ≤ limitL l k := by
  obtain ⟨h0, h1, h2⟩ := h
  obtain ⟨j, rfl⟩ : ∃ j : Nat, k = j := ⟨k.toNat, by omega⟩
  exact hd.limit (by omega) h2
theorem drawn1 (hn : NameN l.length nm) {sz : Int} {li : Bool} (h1 : 1 ≤ sz ∧ sz ≤ 3) (h2 : li = true → 1 < sz) : DrawnR l 1 ⟨nm, 1, sz, li, [], [], [], []⟩ := by
  refine ⟨hn, rfl, by simp [littleOk], by simp [kidsUnder], ?_⟩
  rw [kindL_1 rfl]
  simp only [Bool.and_eq_true, decide_eq_true_eq, inR_iff, Bool.or_eq_true, Bool.not_eq_true']
  refine ⟨by simp, ⟨by omega, by omega⟩, ?_⟩
  cases li
  · exact .inl rfl
  · exact .inr (h2 rfl)
theorem drawn2 (hn : NameN l.length nm) {bs : List UInt8} (h1 : 1 ≤ bs.length ∧ bs.length ≤ 3) : DrawnR l 2 ⟨nm, 2, 0, false, bs, [], [], []⟩ := by
  refine ⟨hn, rfl, by simp [littleOk], by simp [kidsUnder], ?_⟩
  rw [kindL_2 rfl]
  simp only [Bool.and_eq_true, decide_eq_true_eq, inR_iff]
  exact ⟨by simp, by omega, by omega⟩
theorem drawn3 (hn : NameN l.length nm) {sz : Int} (h1 : 1 ≤ sz ∧ sz ≤ 4) : DrawnR l 3 ⟨nm, 3, sz, false, [], [], [], []⟩ := by
  refine ⟨hn, rfl, by simp [littleOk], by simp [kidsUnder], ?_⟩
  rw [kindL_3 rfl]
  simp only [Bool.and_eq_true, decide_eq_true_eq, inR_iff]
  exact ⟨by simp, by omega, by omega⟩
theorem drawn4 (hd : Drawn l) (hn : NameN l.length nm) {k : Int} (h1 : IntAt l k) : DrawnR l 4 ⟨nm, 4, 0, false, [], [], [], [k]⟩ := by
  have hlim := h1.limit hd
  refine ⟨hn, rfl, by simp [littleOk], ?_, ?_⟩
  · have := h1.1; have := h1.2.1
    simp [kidsUnder, inR]; omega
  · rw [kindL_4 rfl]
    simp only [Bool.and_eq_true, decide_eq_true_eq]
    refine ⟨by simp, ?_⟩
    show 0 < limitL l k
    omega
theorem drawn5 (hd : Drawn l) (hn : NameN l.length nm) {k j : Int} (h1 : IntAt l k) (h2 : 0 ≤ j ∧ j < l.length) : DrawnR l 5 ⟨nm, 5, 0, false, [], [], [], [k, j]⟩ := by
  have hlim := h1.limit hd
  refine ⟨hn, rfl, by simp [littleOk], ?_, ?_⟩
  · have := h1.1; have := h1.2.1
    simp [kidsUnder, inR]; omega
  · rw [kindL_5 rfl]
    simp only [Bool.and_eq_true, decide_eq_true_eq]
    refine ⟨by simp, ?_⟩
    show 0 < limitL l k
    omega
theorem drawn8 (k : Int) (hk : k = 8 ∨ k = 9) (hn : NameN l.length nm) {j : Int} (h2 : 0 ≤ j ∧ j < l.length) : DrawnR l k ⟨nm, k, 0, false, [], [], [], [j]⟩ := by
  refine ⟨hn, rfl, by simp [littleOk], ?_, ?_⟩
  · simp [kidsUnder, inR]; omega
  · rcases hk with rfl | rfl
    · rw [kindL_8 rfl]; simp
    · rw [kindL_9 rfl]; simp
theorem drawn10 (hn : NameN l.length nm) {b : UInt8} (hb : b ≠ 92) : DrawnR l 10 ⟨nm, 10, 0, false, [b], [], [], []⟩ := by
  refine ⟨hn, rfl, by simp [littleOk], by simp [kidsUnder], ?_⟩
  rw [kindL_10 rfl]
  simp [hb]
structure SeqN (l : List RuleD) (m i : Nat) (ns : List ByteArray) (ks : List Int) : Prop where
  le : i ≤ m
  ln : ns.length = m - i
  lk : ks.length = m - i
  names : ∀ (j : Nat) (h : j < ns.length), ∃ p ∈ preN, ns[j].data.toList = p ++ fmtInt ((m - j : Nat) : Int)
  kids : ∀ k ∈ ks, 0 ≤ k ∧ k < (l.length : Int)
theorem SeqN.start (m : Nat) : SeqN l m m [] [] := ⟨Nat.le_refl _, by simp, by simp, fun j h => absurd h (Nat.not_lt_zero _), fun k h => by cases h⟩
theorem SeqN.step {m i : Nat} {ns : List ByteArray} {ks : List Int} (h : SeqN l m (i + 1) ns ks) {x : ByteArray} {k : Int} (hx : ∃ p ∈ preN, x.data.toList = p ++ fmtInt ((i + 1 : Nat) : Int)) (hk : 0 ≤ k ∧ k < (l.length : Int)) : SeqN l m i (ns ++ [x]) (ks ++ [k]) := by
  have hle := h.le
  refine ⟨by omega, by rw [List.length_append, h.ln]; simp; omega, by rw [List.length_append, h.lk]; simp; omega, fun j hj => ?_, fun y hy => ?_⟩
  · by_cases hjl : j < ns.length
    · rw [List.getElem_append_left hjl]; exact h.names j hjl
    · have : j = ns.length := by simp at hj; omega
      have hln := h.ln
      have e : m - j = i + 1 := by omega
      rw [e]
      subst this
      simpa using hx
  · rcases List.mem_append.1 hy with hy | hy
    · exact h.kids y hy
    · have : y = k := by simpa using hy
      rw [this]; exact hk
theorem kids_all {l : List RuleD} {r : RuleD} (h : ∀ k ∈ r.kids, 0 ≤ k ∧ k < (l.length : Int)) : kidsUnder r l.length = true := by
  unfold kidsUnder
  rw [List.all_eq_true]
  intro k hk
  rw [inR_iff]
  have := h k hk
  omega
theorem drawn6 (hn : NameN l.length nm) {m : Nat} (hm : 1 ≤ m ∧ m ≤ 3) {ns : List ByteArray} {ks : List Int} (h : SeqN l m 0 ns ks) : DrawnR l 6 ⟨nm, 6, 0, false, [], ns, [], ks⟩ := by
  refine ⟨hn, rfl, by simp [littleOk], kids_all h.kids, ?_⟩
  rw [kindL_6 rfl]
  have h1 := h.ln
  have h2 := h.lk
  simp only [Bool.and_eq_true, decide_eq_true_eq, inR_iff]
  refine ⟨by simp, by show ks.length = ns.length; omega, ⟨by show (1 : Int) ≤ (ks.length : Int); omega, by show (ks.length : Int) ≤ 8; omega⟩, ?_⟩
  refine namesGood_all fun j hj => ?_
  have hj : j < ns.length := hj
  rw [nameGood_at hj]
  obtain ⟨p, hp, hx⟩ := h.names j hj
  simp only [Bool.and_eq_true, Bool.not_eq_true']
  refine ⟨?_, ?_⟩
  · show isName ns[j].data.toList = true
    rw [hx, fmt_small (by omega)]
    exact pre_part p hp _ (by omega)
  · rw [Bool.eq_false_iff]
    intro ht
    have hmem := hasText_iff.1 ht
    rw [List.mem_take_iff_getElem] at hmem
    obtain ⟨i, hi, he⟩ := hmem
    obtain ⟨q, hq, hy⟩ := h.names i (by omega)
    have he' : ns[i] = ns[j] := he
    rw [he', hx, fmt_small (by omega), fmt_small (by omega)] at hy
    have := snoc_inj (by omega) (by omega) hy
    omega
structure ChoN (l : List RuleD) (n : Nat) (ts ks : List Int) : Prop where
  lt : ts.length = n
  lk : ks.length = n
  tags : ∀ (j : Nat) (h : j < ts.length), 4 * (j : Int) ≤ ts[j] ∧ ts[j] < 4 * (j : Int) + 4
  kids : ∀ k ∈ ks, 0 ≤ k ∧ k < (l.length : Int)
theorem ChoN.start : ChoN l 0 [] [] := ⟨rfl, rfl, fun j h => absurd h (Nat.not_lt_zero _), fun k h => by cases h⟩
theorem ChoN.step {n : Nat} {ts ks : List Int} (h : ChoN l n ts ks) {x k : Int} (hx : 0 ≤ x ∧ x < 4) (hk : 0 ≤ k ∧ k < (l.length : Int)) : ChoN l (n + 1) (ts ++ [4 * (n : Int) + x]) (ks ++ [k]) := by
  refine ⟨by rw [List.length_append, h.lt]; simp, by rw [List.length_append, h.lk]; simp, fun j hj => ?_, fun y hy => ?_⟩
  · have hlt := h.lt
    by_cases hjl : j < ts.length
    · rw [List.getElem_append_left hjl]; exact h.tags j hjl
    · have : j = ts.length := by simp at hj; omega
      subst this
      simp only [List.getElem_append_right (Nat.le_refl _), Nat.sub_self, List.getElem_cons_zero]
      rw [hlt]; omega
  · rcases List.mem_append.1 hy with hy | hy
    · exact h.kids y hy
    · have : y = k := by simpa using hy
      rw [this]; exact hk
theorem drawn7 (hd : Drawn l) (hn : NameN l.length nm) {k0 : Int} (h0 : IntAt l k0) {m : Nat} (hm : 1 ≤ m ∧ m ≤ 3) {ts ks : List Int} (h : ChoN l m ts ks) : DrawnR l 7 ⟨nm, 7, 0, false, [], [], ts, [k0] ++ ks⟩ := by
  have hlim := h0.limit hd
  have h1 := h.lt
  have h2 := h.lk
  refine ⟨hn, rfl, by simp [littleOk], kids_all fun k hk => ?_, ?_⟩
  · rcases List.mem_append.1 hk with hk | hk
    · have : k = k0 := by simpa using hk
      rw [this]; exact ⟨h0.1, h0.2.1⟩
    · exact h.kids k hk
  · rw [kindL_7 rfl]
    simp only [Bool.and_eq_true, decide_eq_true_eq, inR_iff]
    refine ⟨by simp; omega, ⟨by show (1 : Int) ≤ (ts.length : Int); omega, by show (ts.length : Int) ≤ 8; omega⟩, ?_, by show 0 < limitL l k0; omega⟩
    refine tagsGood_all fun j hj => ?_
    have hj : j < ts.length := hj
    rw [tagGood_at hj]
    have hj1 := h.tags j hj
    simp only [Bool.and_eq_true, inR_iff, Bool.or_eq_true, decide_eq_true_eq]
    refine ⟨⟨by show 0 ≤ ts[j]; omega, by show ts[j] ≤ limitL l k0; omega⟩, ?_⟩
    by_cases hj0 : j = 0
    · exact .inl hj0
    · right
      show ts.getD (j - 1) 0 < ts[j]
      rw [getD_at (by omega : j - 1 < ts.length)]
      have hj2 := h.tags (j - 1) (by omega)
      omega
end

end Go.Proofs.YtkjjgpkegihmhaaGreatDoor
