/-
  The law FnIntegers.
-/
import Derived.Test.YtfdjamobfhoeiaaDoorBig
import Derived.Test.YtfdjamobfhoeiaaDoorDrawNum
import Derived.Test.YtfdjamobfhoeiaaDoorIntPlain
import Derived.Test.YtfdjamobfhoeiaaDoorParseInt
import Derived.Test.YtfdjamobfhoeiaaDoorTab
namespace Go.Proofs.YtfdjamobfhoeiaaDoor
open Go.RowKit
set_option linter.unusedVariables false

set_option maxRecDepth 100000 in
set_option maxHeartbeats 20000000 in
theorem law_FnIntegers (v : Value) (l : List UInt8) (w : World) (hr : Rd w v 1 l.length (cB l)) (ht : Tab w) :
    Calls Tryd.prog 4 #[v] w fun e w' => e = .returned (.bool true) ∧ Below w.heap.size w w' := by
  by_cases hbig : (1048576 : Int) < (l.length : Int)
  · have hd : decide ((1048576 : Int) < (l.length : Int)) = true := by simpa using hbig
    clear ht
    go_enter Tryd.func4, Tryd.ntmps4
    go_wp2_with fail
    refine (l_big v l _ hr).mono ?_
    rintro e w1 ⟨rfl, rfl⟩
    go_wp2_with fail
    go_ret
    exact ⟨rfl, Below.refl _ _⟩
  · have hd : decide ((1048576 : Int) < (l.length : Int)) = false := by simpa using hbig
    have hln : l.length ≤ 1048576 := by omega
    have HT := Lib.hid ht
    have HR := Lib.hid hr
    clear hbig ht hr
    go_enter Tryd.func4, Tryd.ntmps4
    go_wp2_with fail
    refine (l_big v l _ HR.out).mono ?_
    rintro e w1 ⟨rfl, rfl⟩
    go_wp2_with fail
    refine (s_DrawParseInt v l hln _ HR.out).mono ?_
    rintro e w2 ⟨s, rfl, hb2⟩
    have B2 := Lib.hid hb2
    obtain ⟨ok, hok⟩ : ∃ ok, ok = parseOk s.data.toList := ⟨_, rfl⟩
    obtain ⟨n, hn⟩ : ∃ n, n = parseNum s.data.toList := ⟨_, rfl⟩
    have hnr := parseNum_range s.data.toList
    have pi := fun w => i_ParseInt s w
    rw [← hok, ← hn] at pi
    rw [← hn] at hnr
    have P1 := Lib.hid pi
    have HOK := Lib.hid hok
    have HN := Lib.hid hn
    clear hb2 pi hok hn
    go_wp2_with fail
    refine (P1.out _).mono ?_
    rintro e w3 ⟨rfl, hww⟩
    subst hww
    go_wp2_with fail
    refine (s_DrawFormatInt v l hln _ (HR.out.below B2.out)).mono ?_
    rintro e w3 ⟨m, rfl, hm, hb3⟩
    have B3 := Lib.hid (Below.then_ B2.out hb3 (Nat.le_refl _))
    have FM := Lib.hid (fun w h => i_FormatInt m hm w h)
    clear hb3
    go_wp2_with fail
    refine (FM.out _ (HT.out.below B3.out)).mono ?_
    rintro e w4 ⟨rfl, hb4⟩
    have B4 := Lib.hid (Below.then_ B3.out hb4 (Nat.le_refl _))
    obtain ⟨fine, hfine⟩ : ∃ fine, fine = parseOk (fmtInt m) := ⟨_, rfl⟩
    obtain ⟨k, hk⟩ : ∃ k, k = parseNum (fmtInt m) := ⟨_, rfl⟩
    have pm := fun w => i_ParseInt (mkS (fmtInt m)) w
    rw [mkS_list, ← hfine, ← hk] at pm
    have P2 := Lib.hid pm
    have HFINE := Lib.hid hfine
    have HK := Lib.hid hk
    have HM := Lib.hid hm
    clear hb4 pm hfine hk
    go_wp2_with fail
    refine (P2.out _).mono ?_
    rintro e w5 ⟨rfl, hww⟩
    subst hww
    go_wp2_with fail
    refine (s_DrawCeilDiv v l hln _ (HR.out.below B4.out)).mono ?_
    rintro e w5 ⟨a, b, rfl, ha, hb, hb5⟩
    have B5 := Lib.hid (Below.then_ B4.out hb5 (Nat.le_refl _))
    have CD := Lib.hid (fun w => i_CeilDiv a b w)
    have MD := Lib.hid (fun w => i_Mod a b w)
    obtain ⟨q, hq⟩ : ∃ q, q = ceilDiv a b := ⟨_, rfl⟩
    obtain ⟨r, hr⟩ : ∃ r, r = mod a b := ⟨_, rfl⟩
    have cd := CD.out
    have md := MD.out
    rw [← hq] at cd
    rw [← hr] at md
    have CD := Lib.hid cd
    have MD := Lib.hid md
    have HQ := Lib.hid hq
    have HRR := Lib.hid hr
    clear hb5 cd md hq hr
    go_wp2_with fail
    refine (CD.out _).mono ?_
    rintro e w6 ⟨rfl, hww⟩
    subst hww
    go_wp2_with fail
    refine (MD.out _).mono ?_
    rintro e w6 ⟨rfl, hww⟩
    subst hww
    have FN : Hid (∀ w, Tab w → ok = true → Calls Tryd.prog 6 #[.int .i64 n] w fun e w' => e = .returned (.string s) ∧ Below w.heap.size w w') := fun w h ho => by
      have := i_FormatInt n ⟨by omega, by omega⟩ w h
      rw [HOK.out] at ho
      rwa [show mkS (fmtInt n) = s by rw [HN.out, fmt_parse ho, mkS_of]] at this
    have hM : (decide (0 ≤ m) = true ∧ decide (m ≤ 1000000000000) = true ∧ fine = true ∧ k = m) ∨ (decide (0 ≤ m) = false ∧ fine = false) ∨ (decide (0 ≤ m) = true ∧ decide (m ≤ 1000000000000) = false ∧ fine = false) := by
      rcases (by omega : (0 ≤ m ∧ m ≤ 1000000000000) ∨ m < 0 ∨ 1000000000000 < m) with ⟨h1, h2⟩ | h | h
      · obtain ⟨e1, e2⟩ := parse_fmt_yes h1 h2
        exact .inl ⟨decide_eq_true h1, decide_eq_true h2, by rw [HFINE.out, e1], by rw [HK.out, e2]⟩
      · exact .inr (.inl ⟨decide_eq_false (by omega), by rw [HFINE.out, parse_fmt_no HM.out (.inl h)]⟩)
      · exact .inr (.inr ⟨decide_eq_true (by omega), decide_eq_false (by omega), by rw [HFINE.out, parse_fmt_no HM.out (.inr h)]⟩)
    have hB : (decide (b < 1) = true ∧ q = 0 ∧ r = 0) ∨ (decide (b < 1) = false ∧ decide (1000000000000 < b) = true ∧ q = 0 ∧ r = 0) ∨
        (decide (b < 1) = false ∧ decide (1000000000000 < b) = false ∧ 1 ≤ b ∧ decide (r < 0) = false ∧ decide (b ≤ r) = false ∧ IntKind.i64.wrap (a.tmod b - r) = a.tmod b - r ∧ ((a.tmod b - r).tmod b != 0) = false ∧
          ((decide (a < 0) = true ∧ q = 0) ∨ (decide (a < 0) = false ∧ decide (1000000000000 < a) = true ∧ q = 0) ∨ (decide (a < 0) = false ∧ decide (1000000000000 < a) = false ∧ IntKind.i64.wrap (q * b) = q * b ∧ decide (a ≤ q * b) = true ∧ IntKind.i64.wrap (q * b - a) = q * b - a ∧ decide (q * b - a < b) = true))) := by
      rcases (by omega : b < 1 ∨ 1000000000000 < b ∨ (1 ≤ b ∧ b ≤ 1000000000000)) with h | h | ⟨h1, h2⟩
      · exact .inl ⟨decide_eq_true h, by rw [HQ.out]; unfold ceilDiv; rw [if_neg (by omega)], by rw [HRR.out]; unfold mod; rw [if_neg (by omega)]⟩
      · exact .inr (.inl ⟨decide_eq_false (by omega), decide_eq_true h, by rw [HQ.out]; unfold ceilDiv; rw [if_neg (by omega)], by rw [HRR.out]; unfold mod; rw [if_neg (by omega)]⟩)
      · have hr0 : r = a % b := by rw [HRR.out]; unfold mod; rw [if_pos (by omega)]
        have h3 := Int.emod_nonneg a (by omega : b ≠ 0)
        have h4 := Int.emod_lt_of_pos a (by omega : 0 < b)
        obtain ⟨_, h5, h6⟩ := tmod_cases a b (by omega)
        have h7 := mod_diff (a := a) h1
        rw [← hr0] at h3 h4 h7
        refine .inr (.inr ⟨decide_eq_false (by omega), decide_eq_false (by omega), h1, decide_eq_false (by omega), decide_eq_false (by omega), IntWalk.i64_in _ (by omega), by rw [h7]; rfl, ?_⟩)
        rcases (by omega : a < 0 ∨ 1000000000000 < a ∨ (0 ≤ a ∧ a ≤ 1000000000000)) with g | g | ⟨g1, g2⟩
        · exact .inl ⟨decide_eq_true g, by rw [HQ.out]; unfold ceilDiv; rw [if_neg (by omega)]⟩
        · exact .inr (.inl ⟨decide_eq_false (by omega), decide_eq_true g, by rw [HQ.out]; unfold ceilDiv; rw [if_neg (by omega)]⟩)
        · have hq0 : q = (a + b - 1) / b := by rw [HQ.out]; unfold ceilDiv; rw [if_pos (by omega)]
          obtain ⟨k1, k2⟩ := ceil_mul (a := a) h1
          rw [← hq0] at k1 k2
          exact .inr (.inr ⟨decide_eq_false (by omega), decide_eq_false (by omega), IntWalk.i64_in _ (by omega), decide_eq_true k1, IntWalk.i64_in _ (by omega), decide_eq_true k2⟩)
    have HB := Lib.hid hB
    have T5 := Lib.hid (HT.out.below B5.out)
    clear hB hnr
    cases ok
    · rcases hM with ⟨d0, d1, rfl, rfl⟩ | ⟨d0, rfl⟩ | ⟨d0, d1, rfl⟩
      all_goals
        rcases HB.out with ⟨b0, rfl, rfl⟩ | ⟨b0, b1, rfl, rfl⟩ | ⟨b0, b1, b2, r0, r1, r2, r3, ⟨a0, rfl⟩ | ⟨a0, a1, rfl⟩ | ⟨a0, a1, q0, q1, q2, q3⟩⟩
        all_goals
          go_wp2_with fail
          go_ret
          exact ⟨rfl, B5.out⟩
    · have F1 := Lib.hid (FN.out _ T5.out rfl)
      rcases hM with ⟨d0, d1, rfl, rfl⟩ | ⟨d0, rfl⟩ | ⟨d0, d1, rfl⟩
      all_goals
        rcases HB.out with ⟨b0, rfl, rfl⟩ | ⟨b0, b1, rfl, rfl⟩ | ⟨b0, b1, b2, r0, r1, r2, r3, ⟨a0, rfl⟩ | ⟨a0, a1, rfl⟩ | ⟨a0, a1, q0, q1, q2, q3⟩⟩
        all_goals
          go_wp2_with fail
          refine F1.out.mono ?_
          rintro e w6 ⟨rfl, hb6⟩
          have B6 := Lib.hid (Below.then_ B5.out hb6 (Nat.le_refl _))
          clear hb6
          go_wp2_with fail
          go_ret
          exact ⟨rfl, B6.out⟩

end Go.Proofs.YtfdjamobfhoeiaaDoor
