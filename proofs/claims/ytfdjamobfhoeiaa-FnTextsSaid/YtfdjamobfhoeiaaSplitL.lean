/-
  Dividing a text at a byte; words; lines; comments. No program in sight.
-/
import Derived.Test.YtfdjamobfhoeiaaText
import Derived.Test.YtfdjamobfhoeiaaRep
import Derived.Lib.Join
namespace Go.Proofs.Ytfdjamobfhoeiaa
open Go.RowKit

/-- The parts between the separators, behind what was begun. -/
def splitA (c : UInt8) : List UInt8 → List UInt8 → List (List UInt8)
  | acc, [] => [acc]
  | acc, x :: r => if x = c then acc :: splitA c [] r else splitA c (acc ++ [x]) r
def splitL (l : List UInt8) (c : UInt8) : List (List UInt8) := splitA c [] l

theorem splitA_form (c : UInt8) (l : List UInt8) : ∃ h t, ∀ acc, splitA c acc l = (acc ++ h) :: t := by
  induction l with
  | nil => exact ⟨[], [], fun acc => by simp [splitA]⟩
  | cons x r ih =>
    by_cases hx : x = c
    · exact ⟨[], splitA c [] r, fun acc => by simp [splitA, hx]⟩
    · obtain ⟨h, t, e⟩ := ih
      exact ⟨x :: h, t, fun acc => by rw [splitA, if_neg hx, e]; simp⟩
theorem splitL_nil (c : UInt8) : splitL [] c = [[]] := rfl
theorem splitL_hit {x c : UInt8} (r : List UInt8) (h : x = c) : splitL (x :: r) c = [] :: splitL r c := by
  unfold splitL; rw [splitA, if_pos h]
theorem splitL_miss {x c : UInt8} (r : List UInt8) (h : x ≠ c) : ∃ a t, splitL r c = a :: t ∧ splitL (x :: r) c = (x :: a) :: t := by
  obtain ⟨a, t, e⟩ := splitA_form c r
  refine ⟨a, t, by unfold splitL; rw [e]; rfl, ?_⟩
  unfold splitL; rw [splitA, if_neg h, e]; rfl
theorem splitL_cons (l : List UInt8) (c : UInt8) : ∃ a t, splitL l c = a :: t := by
  obtain ⟨a, t, e⟩ := splitA_form c l
  exact ⟨a, t, by unfold splitL; rw [e]; rfl⟩
theorem splitL_pos (l : List UInt8) (c : UInt8) : 0 < (splitL l c).length := by
  obtain ⟨a, t, e⟩ := splitL_cons l c; rw [e]; simp

/-- What the rounds keep: before place k stand the parts p; the part under way begins at f. -/
def SplitInv (l : List UInt8) (c : UInt8) (k : Nat) (p : List (List UInt8)) (f : Nat) : Prop :=
  f ≤ k ∧ p.length ≤ f ∧ p ++ splitA c ((l.drop f).take (k - f)) (l.drop k) = splitL l c
theorem SplitInv.zero (l : List UInt8) (c : UInt8) : SplitInv l c 0 [] 0 := ⟨Nat.le_refl _, by simp, by simp [splitL]⟩
theorem drop_at {l : List UInt8} {k : Nat} {x : UInt8} (h : l[k]? = some x) : l.drop k = x :: l.drop (k + 1) := by
  obtain ⟨hk, rfl⟩ := List.getElem?_eq_some_iff.1 h
  exact List.drop_eq_getElem_cons hk
theorem SplitInv.hit {l : List UInt8} {c : UInt8} {k f : Nat} {p : List (List UInt8)} (h : SplitInv l c k p f) (hx : l[k]? = some c) : SplitInv l c (k + 1) (p ++ [(l.drop f).take (k - f)]) (k + 1) := by
  obtain ⟨h1, h2, h3⟩ := h
  refine ⟨Nat.le_refl _, by simp; omega, ?_⟩
  rw [← h3, drop_at hx, splitA, if_pos rfl]
  simp
theorem SplitInv.miss {l : List UInt8} {c x : UInt8} {k f : Nat} {p : List (List UInt8)} (h : SplitInv l c k p f) (hx : l[k]? = some x) (hn : x ≠ c) : SplitInv l c (k + 1) p f := by
  obtain ⟨h1, h2, h3⟩ := h
  refine ⟨by omega, h2, ?_⟩
  rw [← h3, drop_at hx, splitA, if_neg hn, show k + 1 - f = (k - f) + 1 from by omega, List.take_add_one, List.getElem?_drop, show f + (k - f) = k from by omega, hx]
  rfl
theorem SplitInv.done {l : List UInt8} {c : UInt8} {k f : Nat} {p : List (List UInt8)} (h : SplitInv l c k p f) (hk : k = l.length) : p ++ [l.drop f] = splitL l c := by
  obtain ⟨h1, h2, h3⟩ := h
  subst hk
  rw [← h3, List.drop_length, splitA, List.take_of_length_le (by simp)]

theorem splitL_len (l : List UInt8) (c : UInt8) : (splitL l c).length ≤ l.length + 1 := by
  induction l with
  | nil => simp [splitL_nil]
  | cons x r ih =>
    by_cases hx : x = c
    · rw [splitL_hit r hx]; simp; omega
    · obtain ⟨a, t, e, e'⟩ := splitL_miss r hx
      rw [e'] ; rw [e] at ih; simp at ih ⊢; omega
theorem splitL_mem {l : List UInt8} {c : UInt8} {p : List UInt8} (h : p ∈ splitL l c) : p.length ≤ l.length ∧ c ∉ p := by
  induction l generalizing p with
  | nil => rw [splitL_nil] at h; simp at h; subst h; simp
  | cons x r ih =>
    by_cases hx : x = c
    · rw [splitL_hit r hx] at h
      rcases List.mem_cons.1 h with rfl | h
      · simp
      · have := ih h; exact ⟨by simp; omega, this.2⟩
    · obtain ⟨a, t, e, e'⟩ := splitL_miss r hx
      rw [e'] at h
      rcases List.mem_cons.1 h with rfl | h
      · have := ih (p := a) (by rw [e]; simp)
        exact ⟨by simp; omega, by simp only [List.mem_cons, not_or]; exact ⟨fun e => hx e.symm, this.2⟩⟩
      · have := ih (p := p) (by rw [e]; simp [h])
        exact ⟨by simp; omega, this.2⟩
/-- The parts' lengths and the separators make up the whole. -/
theorem splitL_lens (l : List UInt8) (c : UInt8) : Lib.lens (splitL l c) + (splitL l c).length = l.length + 1 := by
  induction l with
  | nil => simp [splitL_nil, Lib.lens]
  | cons x r ih =>
    by_cases hx : x = c
    · rw [splitL_hit r hx]; simp [Lib.lens] at ih ⊢; omega
    · obtain ⟨a, t, e, e'⟩ := splitL_miss r hx
      rw [e']; rw [e] at ih; simp [Lib.lens] at ih ⊢; omega
theorem join_cons2 (x y : List UInt8) (r : List (List UInt8)) (sep : List UInt8) : Lib.join (x :: y :: r) sep = x ++ sep ++ Lib.join (y :: r) sep := by
  rw [Lib.join_cons, Lib.join_cons]; simp [Lib.joinTail]
theorem join_split (l : List UInt8) (c : UInt8) : Lib.join (splitL l c) [c] = l := by
  induction l with
  | nil => rw [splitL_nil, Lib.join_one]
  | cons x r ih =>
    by_cases hx : x = c
    · obtain ⟨a, t, e⟩ := splitL_cons r c
      rw [splitL_hit r hx, e, join_cons2, ← e, ih, hx]; rfl
    · obtain ⟨a, t, e, e'⟩ := splitL_miss r hx
      rw [e'] ; rw [e] at ih
      cases t with
      | nil => rw [Lib.join_one] at ih ⊢; rw [ih]
      | cons y t => rw [join_cons2] at ih ⊢; rw [← ih]; rfl
theorem split_none {l : List UInt8} {c : UInt8} (h : c ∉ l) : splitL l c = [l] := by
  induction l with
  | nil => rfl
  | cons x r ih =>
    simp only [List.mem_cons, not_or] at h
    obtain ⟨a, t, e, e'⟩ := splitL_miss (c := c) r (fun e => h.1 e.symm)
    rw [ih h.2] at e
    injection e with e1 e2
    rw [e', ← e1, ← e2]

/-- The words of a line. -/
def wordsL (l : List UInt8) : List (List UInt8) := (splitL l 32).filter fun p => !p.isEmpty
/-- The lines of a text. -/
def linesL (l : List UInt8) : List (List UInt8) := if (splitL l 10).getLast? = some [] then (splitL l 10).dropLast else splitL l 10
def isCommentL (l : List UInt8) : Bool := match wordsL l with | [] => true | p :: _ => decide (p[0]? = some 35)
def countLn (l : List UInt8) : Nat := ((linesL l).filter fun p => !isCommentL p).length

theorem wordsL_mem {l p : List UInt8} (h : p ∈ wordsL l) : p.length ≤ l.length ∧ (32 : UInt8) ∉ p ∧ p ≠ [] := by
  obtain ⟨h1, h2⟩ := List.mem_filter.1 h
  obtain ⟨h3, h4⟩ := splitL_mem h1
  exact ⟨h3, h4, by simpa using h2⟩
theorem wordsL_len (l : List UInt8) : (wordsL l).length ≤ l.length + 1 := Nat.le_trans (List.length_filter_le _ _) (splitL_len l 32)
theorem linesL_len (l : List UInt8) : (linesL l).length ≤ l.length + 1 := by
  unfold linesL
  have := splitL_len l 10
  split
  · simp; omega
  · exact this
theorem linesL_mem {l p : List UInt8} (h : p ∈ linesL l) : p.length ≤ l.length ∧ (10 : UInt8) ∉ p := by
  unfold linesL at h
  split at h
  · exact splitL_mem ((List.dropLast_sublist _).subset h)
  · exact splitL_mem h

/-- Strings of byte lists. -/
def tS (ps : List (List UInt8)) : List ByteArray := ps.map mkS
theorem tS_len (ps : List (List UInt8)) : (tS ps).length = ps.length := by simp [tS]
theorem tS_append (a b : List (List UInt8)) : tS (a ++ b) = tS a ++ tS b := by simp [tS]
theorem tS_data (ps : List (List UInt8)) : (tS ps).map (·.data.toList) = ps := by simp [tS, mkS_list, Function.comp_def]
theorem tS_of (l : List ByteArray) : tS (l.map (·.data.toList)) = l := by simp [tS, mkS_of, Function.comp_def]
theorem tS_at {ps : List (List UInt8)} {k : Nat} (h : k < ps.length) : (cS (tS ps))[k]? = some (.string (mkS ps[k])) := by simp [cS, tS, h]

/-- The first part and the rest. -/
theorem cutLeft_cons (x c : UInt8) (r : List UInt8) : cutLeft (x :: r) c = if x = c then [] else x :: cutLeft r c := by
  unfold cutLeft
  rw [cutIdx]
  by_cases h : x = c
  · simp [h]
  · cases e : cutIdx r c <;> simp [h]
theorem cutRight_cons (x c : UInt8) (r : List UInt8) : cutRight (x :: r) c = if x = c then r else cutRight r c := by
  unfold cutRight
  rw [cutIdx]
  by_cases h : x = c
  · simp [h]
  · cases e : cutIdx r c <;> simp [h]
theorem cutOk_cons (x c : UInt8) (r : List UInt8) : cutOk (x :: r) c = (decide (x = c) || cutOk r c) := by
  unfold cutOk
  rw [cutIdx]
  by_cases h : x = c
  · simp [h]
  · cases e : cutIdx r c <;> simp [h]
theorem split_cut (l : List UInt8) (c : UInt8) : splitL l c = cutLeft l c :: if cutOk l c then splitL (cutRight l c) c else [] := by
  induction l with
  | nil => rfl
  | cons x r ih =>
    rw [cutLeft_cons, cutRight_cons, cutOk_cons]
    by_cases h : x = c
    · rw [splitL_hit r h]; simp [h]
    · obtain ⟨a, t, e, e'⟩ := splitL_miss r h
      rw [e'] ; rw [e] at ih
      injection ih with h1 h2
      rw [h1, h2]; simp [h]
theorem split_one {l : List UInt8} {c : UInt8} (h : cutOk l c = false) : splitL l c = [cutLeft l c] := by rw [split_cut, h]; simp
theorem split_more {l : List UInt8} {c : UInt8} (h : cutOk l c = true) : 1 < (splitL l c).length := by
  rw [split_cut, h]
  have := splitL_pos (cutRight l c) c
  simp; omega
theorem cut_glue {l : List UInt8} {c : UInt8} (h : cutOk l c = true) : cutLeft l c ++ [c] ++ cutRight l c = l := by
  induction l with
  | nil => cases h
  | cons x r ih =>
    rw [cutOk_cons] at h
    rw [cutLeft_cons, cutRight_cons]
    by_cases hx : x = c
    · simp [hx]
    · simp [hx] at h
      have := ih h
      simp [hx] at this ⊢
      exact this
theorem cut_same {l : List UInt8} {c : UInt8} (h : cutOk l c = false) : cutLeft l c = l := by
  unfold cutOk at h
  unfold cutLeft
  cases e : cutIdx l c with
  | none => rfl
  | some k => rw [e] at h; cases h

theorem join_snoc (p : List (List UInt8)) (x sep : List UInt8) (h : p ≠ []) : Lib.join (p ++ [x]) sep = Lib.join p sep ++ sep ++ x := by
  induction p with
  | nil => exact absurd rfl h
  | cons y t ih =>
    cases t with
    | nil => rw [List.cons_append, List.nil_append, join_cons2, Lib.join_one, Lib.join_one]
    | cons z t =>
      have := ih (by simp)
      rw [List.cons_append, List.cons_append, join_cons2, ← List.cons_append, this, join_cons2]
      simp
theorem lines_join (l : List UInt8) : Lib.join (linesL l) [10] = l ∨ Lib.join (linesL l) [10] ++ [10] = l := by
  unfold linesL
  have hj := join_split l 10
  split
  · rename_i hlast
    have hp := splitL_pos l 10
    have hne : splitL l 10 ≠ [] := List.ne_nil_of_length_pos hp
    have e : (splitL l 10).dropLast ++ [[]] = splitL l 10 := by
      have h1 := List.dropLast_concat_getLast hne
      rw [List.getLast?_eq_some_getLast hne] at hlast
      injection hlast with h2
      rw [h2] at h1
      exact h1
    by_cases hd : (splitL l 10).dropLast = []
    · left
      rw [hd] at e ⊢
      rw [← hj, ← e]; rfl
    · right
      rw [← e, join_snoc _ _ _ hd, List.append_nil] at hj
      exact hj
  · left; exact hj
theorem wordsL_split {l p : List UInt8} (h : p ∈ wordsL l) : splitL p 32 = [p] := split_none (wordsL_mem h).2.1

end Go.Proofs.Ytfdjamobfhoeiaa
