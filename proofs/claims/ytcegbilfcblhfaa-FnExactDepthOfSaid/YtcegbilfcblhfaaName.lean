/-
  Names: letters, or digits behind the first place; 1 to 12 of them. The plain function; the reference's loop over bytes; the program's range over runes.
-/
import Derived.Test.YtcegbilfcblhfaaProg
import Derived.Test.YtcegbilfcblhfaaBase
import Derived.Test.YtcegbilfcblhfaaText
import Derived.WalkKit
import Derived.WalkSpells
import Derived.WalkLawsBesides
import Derived.Laws.RangeAny
import Derived.Lib.Hide
namespace Go.Proofs.Ytcegbilfcblhfaa
open Go.RowKit

def okAt (x : UInt8) (k : Nat) : Bool := (decide (97 ≤ x.toNat) && decide (x.toNat ≤ 122)) || ((decide (48 ≤ x.toNat) && decide (x.toNat ≤ 57)) && k != 0)
def nameFrom : Nat → List UInt8 → Bool
  | _, [] => true
  | k, x :: r => okAt x k && nameFrom (k + 1) r
def isName (l : List UInt8) : Bool := decide (1 ≤ l.length) && decide (l.length ≤ 12) && nameFrom 0 l

theorem nameFrom_iff (l : List UInt8) : ∀ k, nameFrom k l = true ↔ ∀ j x, l[j]? = some x → okAt x (k + j) = true := by
  induction l with
  | nil => intro k; simp [nameFrom]
  | cons y r ih =>
    intro k
    simp only [nameFrom, Bool.and_eq_true, ih]
    constructor
    · rintro ⟨h0, h⟩ j x hx
      cases j with
      | zero => simp at hx; subst hx; exact h0
      | succ j => have := h j x (by simpa using hx); rwa [show k + 1 + j = k + (j + 1) from by omega] at this
    · intro h
      refine ⟨by have := h 0 y (by simp); simpa using this, fun j x hx => ?_⟩
      have := h (j + 1) x (by simpa using hx)
      rwa [show k + (j + 1) = k + 1 + j from by omega] at this

theorem isName_all {l : List UInt8} (h1 : 1 ≤ l.length) (h2 : l.length ≤ 12) (h : ∀ j x, l[j]? = some x → okAt x j = true) : isName l = true := by
  unfold isName
  rw [(nameFrom_iff l 0).2 (by simpa using h)]
  simp [h1, h2]
theorem isName_bad {l : List UInt8} {k : Nat} {x : UInt8} (hx : l[k]? = some x) (h : okAt x k = false) : isName l = false := by
  unfold isName
  cases e : nameFrom 0 l with
  | false => simp
  | true =>
    have := (nameFrom_iff l 0).1 e k x hx
    simp [h] at this
theorem isName_long {l : List UInt8} (h : l.length < 1 ∨ 12 < l.length) : isName l = false := by
  unfold isName
  rcases h with h | h
  · simp [show ¬ 1 ≤ l.length from by omega]
  · simp [show ¬ l.length ≤ 12 from by omega]

def NameInv (s : ByteArray) (k : Nat) : Prop := ∀ j x, j < k → s.data.toList[j]? = some x → okAt x j = true
theorem NameInv.step {s : ByteArray} {k : Nat} (h : NameInv s k) (hlt : k < s.size) (hok : okAt s[k] k = true) : NameInv s (k + 1) := by
  intro j x hj hx
  rcases Nat.lt_or_ge j k with hjk | hjk
  · exact h j x hjk hx
  · obtain rfl : j = k := by omega
    rw [get_list s j hlt] at hx
    cases hx
    exact hok
theorem NameInv.done {s : ByteArray} (h : NameInv s s.size) : ∀ j x, s.data.toList[j]? = some x → okAt x j = true := by
  intro j x hx
  refine h j x ?_ hx
  have := (List.getElem?_eq_some_iff.1 hx).1
  rwa [len_of] at this

/-- The five kinds of bytes. -/
theorem byte_kinds (n : Nat) : n < 48 ∨ (48 ≤ n ∧ n ≤ 57) ∨ (57 < n ∧ n < 97) ∨ (97 ≤ n ∧ n ≤ 122) ∨ 122 < n := by omega

set_option maxHeartbeats 2000000 in
theorem s_IsName (s : ByteArray) (hs : s.size ≤ maxLen) (w : World) :
    Calls Try.prog 64 #[.string s] w fun e w' => e = .returned (.bool (isName s.data.toList)) ∧ w = w' := by
  unfold maxLen at hs
  go_enter Try.func64, Try.ntmps64
  go_wp2_with fail
  go_loop [3, 4, 5] (fun i _ _ => ∃ k : Nat, k ≤ s.size ∧ i = .int .i64 k ∧ NameInv s k) (fun i _ _ => s.size - (intOf i).toNat)
  case atStart => exact ⟨0, Nat.zero_le _, rfl, fun j x h => absurd h (Nat.not_lt_zero _)⟩
  case round =>
    obtain ⟨k, hk, rfl, hno⟩ := hrel
    by_cases hlt : k < s.size
    · have Hg := Lib.hid (get_list s k hlt)
      have hb := byte_kinds s[k].toNat
      by_cases hgood : okAt s[k] k = true
      · have Hok := Lib.hid hgood
        simp only [okAt, Bool.or_eq_true, Bool.and_eq_true, decide_eq_true_eq, bne_iff_ne, ne_eq] at hgood
        rcases hgood with ⟨h1, h2⟩ | ⟨⟨h1, h2⟩, h3⟩
        · clear hb
          go_wp2_with fail
          go_round
          case rel => exact ⟨k + 1, by omega, by go_num, hno.step hlt Hok.out⟩
          case measure => simp [intOf]; omega
        · have h4 : ((k : Int) == 0) = false := by simp; omega
          clear hb h3
          go_wp2_with fail
          all_goals
            go_round
            case rel => exact ⟨k + 1, by omega, by go_num, hno.step hlt Hok.out⟩
            case measure => simp [intOf]; omega
      · have hbad : okAt s[k] k = false := by simpa using hgood
        have hfin : Hid (isName s.data.toList = false) := isName_bad Hg.out hbad
        simp only [okAt, Bool.or_eq_true, Bool.and_eq_true, decide_eq_true_eq, bne_iff_ne, ne_eq] at hgood
        clear hbad
        rcases hb with h | ⟨h, h'⟩ | ⟨h, h'⟩ | ⟨h, h'⟩ | h
        · clear hgood
          go_wp2_with fail
          go_ret
          exact ⟨ret_bool hfin.out.symm, rfl⟩
        · have hk0 : ((k : Int) == 0) = true := by simp; omega
          clear hgood
          go_wp2_with fail
          go_ret
          exact ⟨ret_bool hfin.out.symm, rfl⟩
        · clear hgood
          go_wp2_with fail
          go_ret
          exact ⟨ret_bool hfin.out.symm, rfl⟩
        · exact absurd (Or.inl ⟨h, h'⟩) hgood
        · have hd : decide (((s[k].toNat : Nat) : Int) ≤ 122) = false := by simp; omega
          have hd2 : decide (((s[k].toNat : Nat) : Int) ≤ 57) = false := by simp; omega
          clear hgood
          go_wp2_with fail
          go_ret
          exact ⟨ret_bool hfin.out.symm, rfl⟩
    · obtain rfl : k = s.size := by omega
      have Hall := Lib.hid hno.done; clear hno
      by_cases h1 : 1 ≤ s.size
      · by_cases h2 : s.size ≤ 12
        · have hfin : Hid (isName s.data.toList = true) := isName_all (by rw [len_of]; exact h1) (by rw [len_of]; exact h2) Hall.out
          have hd : decide ((s.size : Int) ≤ 12) = true := by simp; omega
          go_wp2
          go_ret
          exact ⟨ret_bool hfin.out.symm, rfl⟩
        · have hfin : Hid (isName s.data.toList = false) := isName_long (by rw [len_of]; omega)
          have hd : decide ((s.size : Int) ≤ 12) = false := by simp; omega
          go_wp2
          go_ret
          exact ⟨ret_bool hfin.out.symm, rfl⟩
      · have hfin : Hid (isName s.data.toList = false) := isName_long (by rw [len_of]; omega)
        have hd : decide (1 ≤ (s.size : Int)) = false := by simp; omega
        go_wp2
        go_ret
        exact ⟨ret_bool hfin.out.symm, rfl⟩

set_option maxHeartbeats 2000000 in
theorem i_IsName (s : ByteArray) (w : World) :
    Calls Try.prog 66 #[.string s] w fun e w' => e = .returned (.bool (isName s.data.toList)) ∧ Below w.heap.size w w' := by
  by_cases h1 : 1 ≤ s.size
  · by_cases h2 : s.size ≤ 12
    · have hd1 : decide ((s.size : Int) < 1) = false := by simp; omega
      have hd2 : decide (12 < (s.size : Int)) = false := by simp; omega
      go_enter Try.func66, Try.ntmps66
      go_wp2_with fail
      go_loopw [3, 4, 5, 6] (fun _ _ _ _ wr => ∃ k : Nat, k ≤ s.size ∧ wr = w.iter s k ∧ NameInv s k) (fun _ _ _ _ wr => s.size - wr.iterPos w.heap.size)
      case atStart => exact ⟨0, Nat.zero_le _, rfl, fun j x h => absurd h (Nat.not_lt_zero _)⟩
      case round =>
        obtain ⟨k, hk, rfl, hno⟩ := hrel
        by_cases hlt : k < s.size
        · have Hg := Lib.hid (get_list s k hlt)
          have hb := byte_kinds s[k].toNat
          by_cases hhi : 128 ≤ s[k].toNat
          · have hfin : Hid (isName s.data.toList = false) := isName_bad Hg.out (by simp [okAt]; omega)
            have hdec := (decode_high s k hlt hhi).1
            obtain ⟨r, hr⟩ : ∃ r, r = (Utf8.decode s k).1 := ⟨_, rfl⟩
            have hnx := fun ty => run_next_any (P := Try.prog) w s k ty hlt
            rw [← hr] at hdec
            simp only [← hr] at hnx
            have hd : decide ((r : Int) ≤ 122) = false := by simp; omega
            have hd2 : decide ((r : Int) ≤ 57) = false := by simp; omega
            clear hr hb
            go_wp2_with fail
            go_ret
            exact ⟨ret_bool hfin.out.symm, (Below.refl _ _).alloc (Nat.le_refl _) _⟩
          · have hnx := fun ty => run_next_ascii (P := Try.prog) w s k ty hlt (by omega)
            by_cases hgood : okAt s[k] k = true
            · have Hok := Lib.hid hgood
              simp only [okAt, Bool.or_eq_true, Bool.and_eq_true, decide_eq_true_eq, bne_iff_ne, ne_eq] at hgood
              rcases hgood with ⟨h1, h2⟩ | ⟨⟨h1, h2⟩, h3⟩
              · clear hb
                go_wp2_with fail
                all_goals
                  go_roundw
                  case rel => exact ⟨k + 1, by omega, rfl, hno.step hlt Hok.out⟩
                  case measure => simp; omega
              · have h4 : ((k : Int) == 0) = false := by simp; omega
                clear hb h3
                go_wp2_with fail
                all_goals
                  go_roundw
                  case rel => exact ⟨k + 1, by omega, rfl, hno.step hlt Hok.out⟩
                  case measure => simp; omega
            · have hbad : okAt s[k] k = false := by simpa using hgood
              have hfin : Hid (isName s.data.toList = false) := isName_bad Hg.out hbad
              simp only [okAt, Bool.or_eq_true, Bool.and_eq_true, decide_eq_true_eq, bne_iff_ne, ne_eq] at hgood
              clear hbad
              rcases hb with h | ⟨h, h'⟩ | ⟨h, h'⟩ | ⟨h, h'⟩ | h
              · clear hgood
                go_wp2_with fail
                go_ret
                exact ⟨ret_bool hfin.out.symm, (Below.refl _ _).alloc (Nat.le_refl _) _⟩
              · have hk0 : ((k : Int) == 0) = true := by simp; omega
                clear hgood
                go_wp2_with fail
                go_ret
                exact ⟨ret_bool hfin.out.symm, (Below.refl _ _).alloc (Nat.le_refl _) _⟩
              · clear hgood
                go_wp2_with fail
                go_ret
                exact ⟨ret_bool hfin.out.symm, (Below.refl _ _).alloc (Nat.le_refl _) _⟩
              · exact absurd (Or.inl ⟨h, h'⟩) hgood
              · have hd : decide (((s[k].toNat : Nat) : Int) ≤ 122) = false := by simp; omega
                have hd2 : decide (((s[k].toNat : Nat) : Int) ≤ 57) = false := by simp; omega
                clear hgood
                go_wp2_with fail
                go_ret
                exact ⟨ret_bool hfin.out.symm, (Below.refl _ _).alloc (Nat.le_refl _) _⟩
        · obtain rfl : k = s.size := by omega
          have hfin : Hid (isName s.data.toList = true) := isName_all (by rw [len_of]; exact h1) (by rw [len_of]; exact h2) hno.done
          have hnx := fun ty => run_next_end (P := Try.prog) w s s.size ty (by omega)
          clear hno
          go_wp2_with fail
          go_ret
          exact ⟨ret_bool hfin.out.symm, (Below.refl _ _).alloc (Nat.le_refl _) _⟩
    · have hfin : Hid (isName s.data.toList = false) := isName_long (by rw [len_of]; omega)
      have hd1 : decide ((s.size : Int) < 1) = false := by simp; omega
      have hd2 : decide (12 < (s.size : Int)) = true := by simp; omega
      go_enter Try.func66, Try.ntmps66
      go_wp2_with fail
      go_ret
      exact ⟨ret_bool hfin.out.symm, Below.refl _ _⟩
  · have hfin : Hid (isName s.data.toList = false) := isName_long (by rw [len_of]; omega)
    have hd1 : decide ((s.size : Int) < 1) = true := by simp; omega
    go_enter Try.func66, Try.ntmps66
    go_wp2_with fail
    go_ret
    exact ⟨ret_bool hfin.out.symm, Below.refl _ _⟩

end Go.Proofs.Ytcegbilfcblhfaa
