/-
  The law FnHex: what is written in digits reads back, and what reads is written so.
-/
import Derived.Test.YtmikekldelnbjaaBig
import Derived.Test.YtmikekldelnbjaaDrawsTwo
import Derived.Test.YtmikekldelnbjaaSame
import Derived.Test.YtmikekldelnbjaaParseHex
import Derived.Test.YtmikekldelnbjaaEqual
namespace Go.Proofs.Ytmikekldelnbjaa
open Go.RowKit
set_option linter.unusedVariables false

theorem unhex_hex {n : Nat} (h : n < 16) : unhex (hexD n) = some n := by
  have hd : ∀ n < 16, unhex (hexD n) = some n := by decide
  exact hd n h
theorem hex_unhex {x : UInt8} {n : Nat} (h : unhex x = some n) : hexD n = x := by
  unfold unhex at h
  split at h
  · rename_i hx
    injection h with h
    unfold hexD
    rw [if_pos (by omega)]
    apply UInt8.toNat_inj.1
    simp [Nat.toUInt8, UInt8.toNat_ofNat']
    omega
  · split at h
    · rename_i hx
      injection h with h
      unfold hexD
      rw [if_neg (by omega)]
      apply UInt8.toNat_inj.1
      simp [Nat.toUInt8, UInt8.toNat_ofNat']
      omega
    · cases h
theorem byteOf_halves (x : UInt8) : byteOf (x.toNat / 16) (x.toNat % 16) = x := by
  apply UInt8.toNat_inj.1
  have := x.toNat_lt
  simp [byteOf, Nat.toUInt8, UInt8.toNat_ofNat']
  omega
theorem hexPair_byteOf {a b : Nat} (ha : a < 16) (hb : b < 16) : hexPair (byteOf a b) = [hexD a, hexD b] := by
  have e : (byteOf a b).toNat = a * 16 + b := by simp [byteOf, Nat.toUInt8, UInt8.toNat_ofNat']; omega
  unfold hexPair
  rw [e, show (a * 16 + b) / 16 = a by omega, show (a * 16 + b) % 16 = b by omega]
theorem parse_hex (l : List UInt8) : parseHex (hexL l) = some l := by
  induction l with
  | nil => rfl
  | cons x r ih =>
    have hx := x.toNat_lt
    show parseHex (hexD (x.toNat / 16) :: hexD (x.toNat % 16) :: hexL r) = _
    simp only [parseHex, unhex_hex (show x.toNat / 16 < 16 by omega), unhex_hex (show x.toNat % 16 < 16 by omega), ih, byteOf_halves]
theorem hex_parse : ∀ (n : Nat) (l t : List UInt8), l.length ≤ n → parseHex l = some t → hexL t = l := by
  intro n
  induction n with
  | zero => intro l t h ht; have : l = [] := List.eq_nil_of_length_eq_zero (by omega)
            subst this; simp [parseHex] at ht; subst ht; rfl
  | succ n ih =>
    intro l t h ht
    match l, h, ht with
    | [], _, ht => simp [parseHex] at ht; subst ht; rfl
    | [_], _, ht => simp [parseHex] at ht
    | a :: b :: r, h, ht =>
      simp only [parseHex] at ht
      cases ea : unhex a with
      | none => simp [ea] at ht
      | some p =>
        cases eb : unhex b with
        | none => simp [ea, eb] at ht
        | some q =>
          cases er : parseHex r with
          | none => simp [ea, eb, er] at ht
          | some u =>
            simp [ea, eb, er] at ht
            subst ht
            show hexPair (byteOf p q) ++ hexL u = _
            rw [hexPair_byteOf (unhex_lt ea) (unhex_lt eb), ih r u (by simp at h; omega) er, hex_unhex ea, hex_unhex eb]
            rfl

set_option maxHeartbeats 2000000 in
theorem law_FnHex (v : Value) (l : List UInt8) (w : World) (hr : Rd w v 1 l.length (cB l)) :
    Calls Try.prog 13 #[v] w fun e w' => e = .returned (.bool true) ∧ Below w.heap.size w w' := by
  by_cases hbig : (1048576 : Int) < (l.length : Int)
  · have hd : decide ((1048576 : Int) < (l.length : Int)) = true := by simpa using hbig
    go_enter Try.func13, Try.ntmps13
    go_wp2_with fail
    refine (l_big v l _ hr).mono ?_
    rintro e w1 ⟨rfl, rfl⟩
    go_wp2_with fail
    go_ret
    exact ⟨rfl, Below.refl _ _⟩
  · have hd : decide ((1048576 : Int) < (l.length : Int)) = false := by simpa using hbig
    go_enter Try.func13, Try.ntmps13
    go_wp2_with fail
    refine (l_big v l _ hr).mono ?_
    rintro e w1 ⟨rfl, rfl⟩
    go_wp2_with fail
    refine (s_DrawFormatHex v l (by omega) _ hr).mono ?_
    rintro e w1 ⟨vb, t, rfl, htl, ho1, hb1⟩
    go_wp2_with fail
    refine (s_DrawParseHex v l (by omega) _ (hr.below hb1)).mono ?_
    rintro e w2 ⟨s, rfl, hsz, hb12⟩
    have hb2 := Below.then_ hb1 hb12 (Nat.le_refl _)
    have ho2 := own_below ho1 hb12
    obtain ⟨B, cap, rfl⟩ : ∃ B cap, vb = .slice B t.length cap := by
      obtain ⟨_, B, cap, h, _⟩ := Rd.of_own ho1
      exact ⟨B, cap, h⟩
    go_wp2_with fail
    refine (i_FormatHex _ t (by omega) _ (Rd.of_own ho2)).mono ?_
    rintro e w3 ⟨rfl, hb23⟩
    have hb3 := Below.then_ hb2 hb23 (Nat.le_refl _)
    have ho3 := own_below ho2 hb23
    have P1 := i_ParseHex (mkS (hexL t)) (by rw [mkS_size, hexL_len]; omega) w3
    rw [mkS_list, show parseB (hexL t) = t by unfold parseB; rw [parse_hex]; rfl, show parseBOk (hexL t) = true by unfold parseBOk; rw [parse_hex]; rfl] at P1
    go_wp2_with fail
    refine P1.mono ?_
    rintro e w4 ⟨x, rfl, hx4, hb34⟩
    have hb4 := Below.then_ hb3 hb34 (Nat.le_refl _)
    have ho4 := own_below ho3 hb34
    have h1 : (mkS (hexL t)).size = 2 * t.length := by rw [mkS_size, hexL_len]
    have P2 := i_ParseHex s (by omega) w4
    cases hp : parseHex s.data.toList with
    | none =>
      rw [show parseB s.data.toList = [] by unfold parseB; rw [hp]; rfl, show parseBOk s.data.toList = false by unfold parseBOk; rw [hp]; rfl] at P2
      clear hp
      go_wp2_with fail
      refine P2.mono ?_
      rintro e w5 ⟨y, rfl, hy5, hb45⟩
      have hb5 := Below.then_ hb4 hb45 (Nat.le_refl _)
      have ho5 := own_below ho4 hb45
      have hx5 := own_below hx4 hb45
      go_wp2_with fail
      refine (l_sameBytes x _ t t _ (Rd.of_own hx5) (Rd.of_own ho5)).mono ?_
      rintro e w6 ⟨rfl, hb56⟩
      have hb6 := Below.then_ hb5 hb56 (Nat.le_refl _)
      have ho6 := own_below ho5 hb56
      go_wp2_with fail
      refine (i_FormatHex _ t (by omega) _ (Rd.of_own ho6)).mono ?_
      rintro e w7 ⟨rfl, hb67⟩
      have hb7 := Below.then_ hb6 hb67 (Nat.le_refl _)
      have ho7 := own_below ho6 hb67
      go_wp2_with fail
      refine (i_EqualBytes _ _ t t _ _ _ (Rd.of_own ho7) (Rd.of_own ho7)).mono ?_
      rintro e w8 ⟨rfl, rfl⟩
      go_wp2_with fail
      go_ret
      exact ⟨rfl, hb7⟩
    | some y0 =>
      have hy0 : y0.length ≤ 10 := by
        rcases Nat.mod_two_eq_zero_or_one s.data.toList.length with h | h
        · have := parse_len (s.data.toList.length / 2) _ y0 (by omega) hp
          rw [len_of] at this
          omega
        · rw [parse_odd (s.data.toList.length / 2) _ (by omega)] at hp; cases hp
      have h2 : mkS (hexL y0) = s := by rw [hex_parse _ _ _ (Nat.le_refl _) hp, mkS_of]
      rw [show parseB s.data.toList = y0 by unfold parseB; rw [hp]; rfl, show parseBOk s.data.toList = true by unfold parseBOk; rw [hp]; rfl] at P2
      clear hp
      go_wp2_with fail
      refine P2.mono ?_
      rintro e w5 ⟨y, rfl, hy5, hb45⟩
      have hb5 := Below.then_ hb4 hb45 (Nat.le_refl _)
      have ho5 := own_below ho4 hb45
      have hx5 := own_below hx4 hb45
      go_wp2_with fail
      refine (l_sameBytes x _ t t _ (Rd.of_own hx5) (Rd.of_own ho5)).mono ?_
      rintro e w6 ⟨rfl, hb56⟩
      have hb6 := Below.then_ hb5 hb56 (Nat.le_refl _)
      have ho6 := own_below ho5 hb56
      have hy6 := own_below hy5 hb56
      go_wp2_with fail
      refine (i_FormatHex _ t (by omega) _ (Rd.of_own ho6)).mono ?_
      rintro e w7 ⟨rfl, hb67⟩
      have hb7 := Below.then_ hb6 hb67 (Nat.le_refl _)
      have ho7 := own_below ho6 hb67
      have hy7 := own_below hy6 hb67
      go_wp2_with fail
      refine (i_FormatHex _ y0 (by omega) _ (Rd.of_own hy7)).mono ?_
      rintro e w8 ⟨rfl, hb78⟩
      have hb8 := Below.then_ hb7 hb78 (Nat.le_refl _)
      have ho8 := own_below ho7 hb78
      go_wp2_with fail
      refine (i_EqualBytes _ _ t t _ _ _ (Rd.of_own ho8) (Rd.of_own ho8)).mono ?_
      rintro e w9 ⟨rfl, rfl⟩
      go_wp2_with fail
      go_ret
      exact ⟨rfl, hb8⟩

end Go.Proofs.Ytmikekldelnbjaa
