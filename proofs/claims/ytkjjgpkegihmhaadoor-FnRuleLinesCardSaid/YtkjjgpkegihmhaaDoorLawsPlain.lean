/-
  What the laws of descriptions' texts say of lines and words, in plain Lean.
-/
import Derived.Test.YtkjjgpkegihmhaaDoorDrawPlain
import Derived.Test.YtkjjgpkegihmhaaDoorTextPlain
import Derived.Test.YtkjjgpkegihmhaaDoorGoodPlain
namespace Go.Proofs.YtkjjgpkegihmhaaDoor
open Go.RowKit
set_option linter.unusedVariables false

theorem longL_ge {l : List RuleD} {i n : Nat} (h : i < n) : ((lineL l (i : Int)).length : Int) ≤ longL l n := by
  induction n with
  | zero => omega
  | succ n ih =>
    rw [longL_step]
    by_cases he : i = n
    · subst he; omega
    · have := ih (by omega); omega

/-! Words that name a kid. -/
def hitW (p nm : List UInt8) : Bool := decide (p = nm) || (cutOk p 58 && decide (cutRight p 58 = nm))
def hitN (ws : List (List UInt8)) (nm : List UInt8) (j : Nat) : Bool := ((ws.take j).drop 2).any fun p => hitW p nm
theorem hitN_start (ws : List (List UInt8)) (nm : List UInt8) : hitN ws nm 2 = false := by
  unfold hitN
  rw [List.drop_of_length_le (by simp; omega)]; rfl
theorem hitN_step {ws : List (List UInt8)} {nm : List UInt8} {j : Nat} (h2 : 2 ≤ j) (h : j < ws.length) : hitN ws nm (j + 1) = (hitN ws nm j || hitW ws[j] nm) := by
  unfold hitN
  rw [List.take_succ_eq_append_getElem h, List.drop_append_of_le_length (by simp; omega), List.any_append]
  simp
theorem hitN_all (ws : List (List UInt8)) (nm : List UInt8) : hitN ws nm ws.length = (ws.drop 2).any fun p => hitW p nm := by
  unfold hitN
  rw [List.take_length]
theorem hitW_self (p : List UInt8) : hitW p p = true := by simp [hitW]
theorem hitW_pair {a b : List UInt8} (h : (58 : UInt8) ∉ a) : hitW (a ++ (58 :: b)) b = true := by
  obtain ⟨h1, h2, h3⟩ := cut_at (b := b) h
  unfold hitW
  rw [h1, h3]; simp
theorem kid_word {l : List RuleD} (h : rulesGood l = true) {i : Nat} (hi : i < l.length) {k : Nat} (hk : k < (ruleAt l (i : Int)).kids.length) :
    hitN (wordsR l (i : Int) (ruleAt l (i : Int))) (kidB l (i : Int) (k : Int)) (wordsR l (i : Int) (ruleAt l (i : Int))).length = true := by
  rw [hitN_all]
  show (argsL l (i : Int) (ruleAt l (i : Int))).any _ = true
  have hs := shape_of (validR_kind (rulesGood_at h hi))
  have hlim := limitL_range l ((ruleAt l (i : Int)).kids.getD 0 0)
  revert hs hk hlim
  generalize ruleAt l (i : Int) = r
  intro hk hs hlim
  have kidsCase : (r.kind = 4 ∨ r.kind = 5 ∨ r.kind = 8 ∨ r.kind = 9) → ((argsL l (i : Int) r).any fun p => hitW p (kidB l (i : Int) (k : Int))) = true := by
    intro hkd
    rw [args_k hkd, List.any_eq_true]
    exact ⟨_, List.mem_map.2 ⟨k, List.mem_range.2 hk, rfl⟩, hitW_self _⟩
  have no : r.kids = [] → False := fun e => by rw [e] at hk; simp at hk
  rcases hs with h | h | h | h | h | h | h | h | h | h
  · exact (no h.2.2.2.2.1).elim
  · exact (no h.2.2.2.2.1).elim
  · exact (no h.2.2.2.2.1).elim
  · exact kidsCase (by omega)
  · exact kidsCase (by omega)
  · rw [args_6 h.1, List.any_eq_true]
    have hkn : k < r.names.length := by omega
    refine ⟨_, List.mem_map.2 ⟨k, List.mem_range.2 hk, rfl⟩, ?_⟩
    unfold seqW
    rw [getD_at hkn]
    exact hitW_pair (name_58 (namesGood_at h.2.2.2.2.2.2.2 hkn).1)
  · rw [args_7 h.1, List.any_eq_true]
    rcases Nat.eq_zero_or_pos k with rfl | hp
    · exact ⟨_, List.mem_cons_self, hitW_self _⟩
    · obtain ⟨j, rfl⟩ : ∃ j, k = j + 1 := ⟨k - 1, by omega⟩
      have hj : j < r.tags.length := by omega
      refine ⟨_, List.mem_cons_of_mem _ (List.mem_map.2 ⟨j, List.mem_range.2 hj, rfl⟩), ?_⟩
      have h3 := tagsGood_at h.2.2.2.2.2.2.2.1 hj
      unfold choW
      rw [getD_at hj]
      exact hitW_pair fun hm => (fmt_not (by omega) (by omega) _ hm).2.2.2 rfl
  · exact kidsCase (by omega)
  · exact kidsCase (by omega)
  · exact (no h.2.2.2.2.1).elim
theorem kid_found {l : List RuleD} (h : rulesGood l = true) {i : Nat} (hi : i < l.length) {k : Nat} (hk : k < (ruleAt l (i : Int)).kids.length) : findL l (kidL l (i : Int) (k : Int)) = (ruleAt l (i : Int)).kids[k] := by
  obtain ⟨m, h1, h2, h3, h4⟩ := kid_under (rulesGood_at h hi) hk
  rw [h4, h1]
  have := find_name h (show m < l.length by omega) (Nat.le_refl _)
  rwa [List.take_length] at this
theorem name_found {l : List RuleD} (h : rulesGood l = true) {i : Nat} (hi : i < l.length) : findL l (ruleAt l (i : Int)).name = (i : Int) := by
  have := find_name h hi (Nat.le_refl _)
  rwa [List.take_length] at this
theorem kid_zero {l : List RuleD} (h : rulesGood l = true) (h0 : 0 < l.length) (h1 : (ruleAt l 0).kind = 1) : kidL l 0 0 = ⟨#[]⟩ := by
  have hs := shape_of (validR_kind (rulesGood_at h h0))
  have e : (ruleAt l ((0 : Nat) : Int)).kids = [] := by
    have h1' : (ruleAt l ((0 : Nat) : Int)).kind = 1 := h1
    rcases hs with h | h | h | h | h | h | h | h | h | h
    · exact h.2.2.2.2.1
    all_goals (have := h.1; omega)
  have e' : (ruleAt l 0).kids = [] := e
  unfold kidL
  rw [if_neg (by rw [e']; rintro ⟨_, _, h3, _⟩; simp at h3)]

/-! Lines, parsed behind fewer or more rules. -/
theorem splitA_snoc (c : UInt8) : ∀ (s acc : List UInt8), splitA c acc (s ++ [c]) = splitA c acc s ++ [[]] := by
  intro s
  induction s with
  | nil => intro acc; simp [splitA]
  | cons x s ih =>
    intro acc
    rw [List.cons_append, splitA, splitA]
    split
    · rw [ih, List.cons_append]
    · rw [ih]
theorem words_padded (s : List UInt8) : wordsL ([32, 32] ++ s ++ [32]) = wordsL s := by
  unfold wordsL splitL
  rw [splitA_snoc]
  show List.filter _ (splitA 32 [] (32 :: (32 :: s)) ++ [[]]) = _
  rw [splitA, if_pos rfl, splitA, if_pos rfl]
  simp
theorem words_hash (s : List UInt8) : wordsL ([35, 32] ++ s) = [35] :: wordsL s := by
  unfold wordsL splitL
  show List.filter _ (splitA 32 [] (35 :: (32 :: s))) = _
  rw [splitA, if_neg (by decide), splitA, if_pos rfl]
  simp
theorem comment_hash (s : List UInt8) : isCommentL ([35, 32] ++ s) = true := by
  rw [isComment_cons (words_hash s)]; decide
theorem alone_yes {l : List RuleD} (h : rulesGood l = true) {i : Nat} (hi : i < l.length) (hk : (ruleAt l (i : Int)).kids = []) : (parseI [] (lineL l (i : Int))).isSome = true := by
  obtain ⟨r, hr⟩ : ∃ r, r = ruleAt l (i : Int) := ⟨_, rfl⟩
  have hv := rulesGood_at h hi
  have hs := shape_of (validR_kind hv)
  have hkd := validR_kind hv
  have hname := validR_name hv
  have hlit := validR_little hv
  have hl := lineL_good h hi
  rw [← hr] at hk hs hkd hname hlit hl
  have hcase : kindL [r] r = true ∧ wordsR [r] ((0 : Nat) : Int) r = wordsR l (i : Int) r := by
    unfold wordsR
    rcases hs with h | h | h | h | h | h | h | h | h | h
    · rw [kindL_one (ll := l) h.1, args_1 h.1, args_1 h.1]; exact ⟨hkd, rfl⟩
    · rw [kindL_2 h.1] at hkd ⊢
      rw [args_2 (.inl h.1), args_2 (.inl h.1)]; exact ⟨hkd, rfl⟩
    · rw [kindL_3 h.1] at hkd ⊢
      rw [args_3 h.1, args_3 h.1]; exact ⟨hkd, rfl⟩
    · rw [hk] at h; exact absurd h.2.2.2.2.2.1 (by simp)
    · rw [hk] at h; exact absurd h.2.2.2.2.2.1 (by simp)
    · rw [hk] at h; exact absurd h.2.2.2.2.2.1 (by simp)
    · rw [hk] at h; exact absurd h.2.2.2.2.1 (by simp)
    · rw [hk] at h; exact absurd h.2.2.2.2.2 (by simp)
    · rw [hk] at h; exact absurd h.2.2.2.2.2 (by simp)
    · rw [kindL_10 h.1] at hkd ⊢
      rw [args_2 (.inr h.1), args_2 (.inr h.1)]; exact ⟨hkd, rfl⟩
  have hat : ruleAt [r] ((0 : Nat) : Int) = r := rfl
  have hv0 : validR ([] ++ [r]) ((([] : List RuleD).length : Nat) : Int) = true := by
    show validR [r] ((0 : Nat) : Int) = true
    unfold validR
    rw [hat]
    simp only [Bool.and_eq_true]
    refine ⟨by simp [hasL], hname, hlit, by simp [nameNew], by simp [kidsUnder, hk], hcase.1⟩
  have hg : rulesGood [r] = true := rulesGood_push (l := []) rulesGood_nil hv0
  have hl0 := lineL_good hg (i := 0) (by simp)
  rw [hat, hcase.2, ← hl] at hl0
  have := parse_line hg (i := 0) (by simp) (s := lineL l (i : Int)) (by rw [hl0])
  rw [List.take_zero] at this
  rw [this]; rfl
theorem alone_no {l : List RuleD} (h : rulesGood l = true) {i : Nat} (hi : i < l.length) (hk : (ruleAt l (i : Int)).kids ≠ []) : (parseI [] (lineL l (i : Int))).isSome = false := by
  cases hp : parseI [] (lineL l (i : Int)) with
  | none => rfl
  | some q =>
    exfalso
    have hv := rulesGood_at h hi
    have hs := shape_of (validR_kind hv)
    have hkind := shape_kind hs
    have hwp : ∀ p ∈ wordsL (lineL l (i : Int)), p ≠ [] := fun p hp => (wordsL_mem hp).2.2
    have hw := line_words h hi
    unfold parseI at hp
    split at hp
    · cases hp
    · obtain ⟨x, hx, hl⟩ := Option.bind_eq_some_iff.1 hp
      unfold lineOk at hl
      split at hl
      · rename_i hl'
        injection hl with hl
        subst hl
        have hne : wordsL (lineL l (i : Int)) ≠ [] := by rw [hw]; unfold wordsR; simp
        obtain ⟨hvq, hj⟩ := line_of hne hwp hl'
        have hgq : rulesGood ([] ++ [x]) = true := rulesGood_push rulesGood_nil hvq
        have hatq : ruleAt ([] ++ [x]) ((([] : List RuleD).length : Nat) : Int) = x := ruleAt_new [] x
        have hwq := line_words hgq (i := 0) (by simp)
        have hatq' : ruleAt ([] ++ [x]) ((0 : Nat) : Int) = x := hatq
        rw [lineL_good hgq (i := 0) (by simp), hatq'] at hwq
        have hj' : Lib.join (wordsR ([] ++ [x]) ((0 : Nat) : Int) x) [32] = Lib.join (wordsL (lineL l (i : Int))) [32] := hj
        rw [hj', words_join hne (fun p hp => ⟨(wordsL_mem hp).2.1, (wordsL_mem hp).2.2⟩), hw] at hwq
        have hkn : kindName (ruleAt l (i : Int)).kind = kindName x.kind := by
          unfold wordsR at hwq
          injection hwq with _ hwq
          injection hwq with hwq _
          have := congrArg mkS hwq
          rwa [mkS_of, mkS_of] at this
        have hsq := shape_of (validR_kind hvq)
        rw [hatq] at hsq
        have hkq := shape_kind hsq
        have hkk : x.kind = (ruleAt l (i : Int)).kind := by rw [← kindOf_kindName hkq, ← hkn, kindOf_kindName hkind]
        have hkx : x.kids = [] := by
          have hku := validR_kids hvq
          rw [hatq] at hku
          unfold kidsUnder at hku
          cases hxk : x.kids with
          | nil => rfl
          | cons a t =>
            rw [hxk, List.all_cons, Bool.and_eq_true, inR_iff] at hku
            simp at hku; omega
        have hgo : 4 ≤ x.kind ∧ x.kind ≤ 9 := by
          rw [hkk]
          rcases hs with h | h | h | h | h | h | h | h | h | h
          · exact absurd h.2.2.2.2.1 hk
          · exact absurd h.2.2.2.2.1 hk
          · exact absurd h.2.2.2.2.1 hk
          · omega
          · omega
          · omega
          · omega
          · omega
          · omega
          · exact absurd h.2.2.2.2.1 hk
        exact shape_kids0 hgo hkx hsq
      · cases hl
theorem twice_no {l : List RuleD} (h : rulesGood l = true) {i : Nat} (hi : i < l.length) : addL (l.take (i + 1)) (lineL l (i : Int)) = none := by
  cases ha : addL (l.take (i + 1)) (lineL l (i : Int)) with
  | none => rfl
  | some l' =>
    exfalso
    obtain ⟨r, hp, _, _⟩ := addL_some ha
    obtain ⟨hv, hn⟩ := parse_sound hp
    rw [line_words h hi] at hn
    have hn' : r.name = (ruleAt l (i : Int)).name := by
      rw [hn]
      show mkS (ruleAt l (i : Int)).name.data.toList = _
      exact mkS_of _
    have hnew := validR_new hv
    unfold nameNew at hnew
    rw [Int.toNat_natCast, ruleAt_new] at hnew
    have hmem : l[i] ∈ ((l.take (i + 1)) ++ [r]).take (l.take (i + 1)).length := by
      rw [List.take_append_of_le_length (Nat.le_refl _), List.take_length, List.mem_take_iff_getElem]
      exact ⟨i, by omega, rfl⟩
    have := List.all_eq_true.1 hnew _ hmem
    simp only [decide_eq_true_eq] at this
    exact this (by rw [hn', ruleAt_eq hi])

/-! How long lines and texts of valid descriptions are. -/
theorem kidB_small {l : List RuleD} (h : rulesGood l = true) (hl : l.length ≤ 1048576) (i k : Int) : (kidB l i k).length ≤ 12 := by
  unfold kidB
  rw [len_of]
  unfold kidL
  split
  · rename_i hk
    obtain ⟨m, hm, hml⟩ := hasL_nat hk.2.2.2
    rw [hm]
    exact (good_all hl h _ (ruleAt_mem hml)).2.2
  · exact Nat.zero_le _
theorem words_small {l : List RuleD} (h : rulesGood l = true) (hl : l.length ≤ 1048576) {i : Nat} (hi : i < l.length) :
    (∀ p ∈ wordsR l (i : Int) (ruleAt l (i : Int)), p.length ≤ 36) ∧ (wordsR l (i : Int) (ruleAt l (i : Int))).length ≤ 11 := by
  have hv := rulesGood_at h hi
  have h1 := isName_len (validR_name hv)
  have hs := shape_of (validR_kind hv)
  have h2 := kindName_len (ruleAt l (i : Int)).kind
  have hlen := (wordsR_fit hv (good_names hl h)).2
  refine ⟨?_, hlen⟩
  have hlim := limitL_range l ((ruleAt l (i : Int)).kids.getD 0 0)
  have hkid : ∀ k, (kidB l (i : Int) k).length ≤ 12 := fun k => kidB_small h hl _ k
  have hnum : ∀ n : Int, 0 ≤ n → n ≤ 4294967295 → (fmtInt n).length ≤ 20 := fun n h0 h3 => fmtInt_len ⟨by omega, by omega⟩
  revert h1 hs h2 hlim
  generalize ruleAt l (i : Int) = r
  intro h1 hs h2 hlim
  have kidsCase : (r.kind = 4 ∨ r.kind = 5 ∨ r.kind = 8 ∨ r.kind = 9) → ∀ p ∈ argsL l (i : Int) r, p.length ≤ 36 := by
    intro hk p hp
    rw [args_k hk] at hp
    obtain ⟨j, hj, rfl⟩ := List.mem_map.1 hp
    have := hkid (j : Int)
    omega
  have key : ∀ p ∈ argsL l (i : Int) r, p.length ≤ 36 := by
    rcases hs with h | h | h | h | h | h | h | h | h | h
    · rw [args_1 h.1]
      intro p hp
      rw [List.mem_cons] at hp
      rcases hp with rfl | hp
      · have := hnum r.size (by omega) (by omega); omega
      · split at hp
        · have : p = littleB := by simpa using hp
          rw [this]; decide
        · cases hp
    · rw [args_2 (.inl h.1)]
      intro p hp
      have : p = hexL r.bytes := by simpa using hp
      rw [this, hexL_len]; omega
    · rw [args_3 h.1]
      intro p hp
      have : p = fmtInt r.size := by simpa using hp
      have h3 := hnum r.size (by omega) (by omega)
      rw [this]; omega
    · exact kidsCase (by omega)
    · exact kidsCase (by omega)
    · rw [args_6 h.1]
      intro p hp
      obtain ⟨j, hj, rfl⟩ := List.mem_map.1 hp
      have hj' : j < r.names.length := by have := List.mem_range.1 hj; omega
      have h3 := isName_len (namesGood_at h.2.2.2.2.2.2.2 hj').1
      have := hkid (j : Int)
      unfold seqW
      rw [getD_at hj', List.length_append, List.length_cons]
      omega
    · rw [args_7 h.1]
      intro p hp
      rw [List.mem_cons] at hp
      rcases hp with rfl | hp
      · have := hkid 0; omega
      · obtain ⟨j, hj, rfl⟩ := List.mem_map.1 hp
        have hj' := List.mem_range.1 hj
        have h3 := tagsGood_at h.2.2.2.2.2.2.2.1 hj'
        have h4 := hnum _ h3.1 (by omega)
        have := hkid ((j : Int) + 1)
        unfold choW
        rw [getD_at hj', List.length_append, List.length_cons]
        omega
    · exact kidsCase (by omega)
    · exact kidsCase (by omega)
    · rw [args_2 (.inr h.1)]
      intro p hp
      have : p = hexL r.bytes := by simpa using hp
      rw [this, hexL_len]; omega
  unfold wordsR
  intro p hp
  rw [List.mem_cons, List.mem_cons] at hp
  rcases hp with rfl | rfl | hp
  · omega
  · omega
  · exact key p hp
theorem lineL_small {l : List RuleD} (h : rulesGood l = true) (hl : l.length ≤ 1048576) {i : Nat} (hi : i < l.length) : (lineL l (i : Int)).length ≤ 410 := by
  obtain ⟨h1, h2⟩ := words_small h hl hi
  rw [lineL_good h hi]
  have h3 := lens_le h1
  have h4 := join_len_le (wordsR l (i : Int) (ruleAt l (i : Int))) [32]
  simp only [List.length_cons, List.length_nil] at h4
  omega
theorem linesT_small {l : List RuleD} (h : rulesGood l = true) (hl : l.length ≤ 1048576) (k : Nat) (hk : k ≤ l.length) : (linesT l k).length ≤ k * 411 := by
  induction k with
  | zero => simp [linesT]
  | succ k ih =>
    have h1 := lineL_small h hl (show k < l.length by omega)
    have h2 := ih (by omega)
    rw [linesT_step, List.length_append, List.length_append]
    simp only [List.length_cons, List.length_nil]
    omega
theorem descT_small {l : List RuleD} (hv : validD l = true) : (descT l).length ≤ 10000 := by
  obtain ⟨hg, h1, h24⟩ := validD_good hv
  unfold descT
  rw [if_pos hv]
  have := linesT_small hg (by omega) l.length (Nat.le_refl _)
  omega
theorem normT_small (t : List UInt8) : (normT t).length ≤ 10000 := by
  unfold normT
  split
  · rename_i h
    exact descT_small (descP_valid h)
  · simp

/-! What is drawn. -/
theorem Drawn.valid {l : List RuleD} (h : Drawn l) (h1 : 1 ≤ l.length) (h6 : l.length ≤ 6) : validD l = true := validD_of h.good h1 (by omega)
theorem Drawn.count {l : List RuleD} (h : Drawn l) (h1 : 1 ≤ l.length) : 1 ≤ countL l 1 := by
  unfold countL
  have h0 : 0 < l.length := h1
  have hf := h.first h0
  rw [show (0 : Int) = ((0 : Nat) : Int) from rfl, ruleAt_eq h0] at hf
  have : 0 < l.countP fun r => decide (r.kind = 1) := List.countP_pos_iff.2 ⟨l[0], List.getElem_mem h0, by simpa using hf⟩
  omega
theorem Drawn.limit0 {l : List RuleD} (h : Drawn l) (h1 : 1 ≤ l.length) : 255 ≤ limitL l 0 := h.limit (k := 0) h1 (h.first h1)

/-! One more kid spoils a rule. -/
def spoil (l : List RuleD) (i : Nat) : List RuleD := l.set i { ruleAt l (i : Int) with kids := (ruleAt l (i : Int)).kids ++ [(i : Int)] }
theorem spoil_len (l : List RuleD) (i : Nat) : (spoil l i).length = l.length := by simp [spoil]
theorem spoil_at {l : List RuleD} {i : Nat} (hi : i < l.length) : ruleAt (spoil l i) (i : Int) = { ruleAt l (i : Int) with kids := (ruleAt l (i : Int)).kids ++ [(i : Int)] } := by
  rw [ruleAt_eq (by rw [spoil_len]; exact hi)]
  simp [spoil]
theorem spoil_bad {l : List RuleD} {i : Nat} (hi : i < l.length) : validR (spoil l i) (i : Int) = false := by
  have hk : kidsUnder (ruleAt (spoil l i) (i : Int)) (i : Int) = false := by
    rw [spoil_at hi]
    unfold kidsUnder
    rw [List.all_append]
    have : inR (i : Int) 0 ((i : Int) - 1) = false := by
      rw [Bool.eq_false_iff]
      intro h
      rw [inR_iff] at h
      omega
    simp [this]
  unfold validR
  rw [hk]
  simp
theorem spoil_ne {l : List RuleD} {i : Nat} (hi : i < l.length) : spoil l i ≠ l := by
  intro e
  have h1 := spoil_at hi
  rw [e] at h1
  have h2 := congrArg (fun r => r.kids.length) h1
  simp at h2

end Go.Proofs.YtkjjgpkegihmhaaDoor
