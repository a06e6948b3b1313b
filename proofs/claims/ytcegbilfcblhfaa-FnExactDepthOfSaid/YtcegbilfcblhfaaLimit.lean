/-
  hasRule, IntegerLimit, of the program and of the reference.
-/
import Derived.Test.YtcegbilfcblhfaaDescRead
import Derived.Test.YtcegbilfcblhfaaRange
import Derived.BigGuard
namespace Go.Proofs.Ytcegbilfcblhfaa
open Go.RowKit
set_option linter.unusedVariables false

set_option maxHeartbeats 1000000 in
theorem i_hasRule (d : Value) (l : List RuleD) (i : Int) (w : World) (hd : RdDesc w d l) :
    Calls Try.prog 51 #[d, .int .i64 i] w fun e w' => e = .returned (.bool (hasL l i)) ∧ Below w.heap.size w w' := by
  obtain ⟨v, rfl, hv⟩ := hd
  obtain ⟨A, c, rfl, hnc, hcm, _⟩ := hv.all
  unfold maxLen at hcm
  obtain ⟨F, hF⟩ : ∃ F, F = hasL l i := ⟨_, rfl⟩
  have HF := Lib.hid hF
  rw [← hF]
  clear hF hv
  by_cases h0 : 0 ≤ i
  · by_cases h1 : i < (l.length : Int)
    · have hf := Lib.hid (hasL_yes h0 h1)
      go_enter Try.func51, Try.ntmps51
      go_wp2_with fail
      go_ret
      exact ⟨ret_bool (by rw [HF.out, hf.out]), below_box⟩
    · have hf := Lib.hid (hasL_no (l := l) (i := i) (by omega))
      go_enter Try.func51, Try.ntmps51
      go_wp2_with fail
      go_ret
      exact ⟨ret_bool (by rw [HF.out, hf.out]), below_box⟩
  · have hf := Lib.hid (hasL_no (l := l) (i := i) (by omega))
    go_enter Try.func51, Try.ntmps51
    go_wp2_with fail
    go_ret
    exact ⟨ret_bool (by rw [HF.out, hf.out]), below_box⟩

theorem in_hasL (l : List RuleD) (i : Int) : (decide (0 ≤ i) && decide (i ≤ (l.length : Int) - 1)) = hasL l i := by
  unfold hasL
  rw [Bool.eq_iff_iff]
  simp only [Bool.and_eq_true, decide_eq_true_eq]
  omega

theorem hasL_iff {l : List RuleD} {i : Int} : hasL l i = true ↔ 0 ≤ i ∧ i < l.length := by simp [hasL]
theorem limit_none {l : List RuleD} {i : Int} (h : hasL l i = false) : limitL l i = -1 := by unfold limitL; rw [h]; simp
theorem limit_kind {l : List RuleD} {i : Int} (h : (ruleAt l i).kind ≠ 1) : limitL l i = -1 := by unfold limitL; rw [if_neg (fun hh => h hh.2)]
theorem limit_size {l : List RuleD} {i : Int} (h : ¬ (1 ≤ (ruleAt l i).size ∧ (ruleAt l i).size ≤ 4)) : limitL l i = -1 := by
  unfold limitL limitOf
  repeat' split
  all_goals omega
theorem limit_is {l : List RuleD} {i : Int} (h : hasL l i = true) (hk : (ruleAt l i).kind = 1) : limitL l i = limitOf (ruleAt l i).size := by unfold limitL; rw [if_pos ⟨h, hk⟩]

theorem AllCells.at_ {w : World} {A : Option Addr} {l : List RuleD} (h : AllCells w A l) {i : Int} (hi : hasL l i = true) :
    ∃ b off vb vn vt vk, A = some ⟨b, off, none⟩ ∧ RuleCells w b (off + i.toNat * 8) (ruleAt l i) vb vn vt vk := by
  rw [hasL_iff] at hi
  obtain ⟨b, off, hA, hc⟩ := h (by omega)
  obtain ⟨vb, vn, vt, vk, hr⟩ := hc i.toNat (by omega)
  have e : ruleAt l i = l[i.toNat]'(by omega) := by
    have := ruleAt_eq (l := l) (k := i.toNat) (by omega)
    rwa [Int.toNat_of_nonneg hi.1] at this
  rw [← e] at hr
  exact ⟨b, off, vb, vn, vt, vk, hA, hr⟩

set_option maxHeartbeats 4000000 in
theorem i_IntegerLimit (d : Value) (l : List RuleD) (i : Int) (hi : -9223372036854775808 ≤ i ∧ i ≤ 9223372036854775807) (w : World) (hd : RdDesc w d l) :
    Calls Try.prog 25 #[d, .int .i64 i] w fun e w' => e = .returned (.int .i64 (limitL l i)) ∧ Below w.heap.size w w' := by
  obtain ⟨v, rfl, hv⟩ := hd
  obtain ⟨A, c, rfl, hnc, hcm, hcell⟩ := hv.all
  unfold maxLen at hcm
  obtain ⟨F, hF⟩ : ∃ F, F = limitL l i := ⟨_, rfl⟩
  have HF := Lib.hid hF
  rw [← hF]
  clear hF
  have HC := Lib.hid hcell
  have HV := Lib.hid hv
  have B0 := Box.new w 29 #[.slice A l.length c]
  have X0 := Lib.hid B0
  clear hcell hv B0
  obtain ⟨H, hH⟩ : ∃ H, H = hasL l i := ⟨_, rfl⟩
  have HR := Lib.hid (fun w h => i_hasRule (.agg #[.slice A l.length c]) l i w h)
  have HH := Lib.hid hH
  clear hH
  go_enter Try.func25, Try.ntmps25
  go_wp2_with fail
  refine (HR.out _ ⟨_, rfl, HV.out.below below_box⟩).mono ?_
  rw [← HH.out]
  rintro e w1 ⟨rfl, hb1⟩
  have HB1 := Lib.hid (Below.then_ below_box hb1 (Nat.le_refl _))
  have X1 := (X0.out.below hb1).cell 0
  have X1' : w1.cell? ⟨w.heap.size, 0, none⟩ = some (.slice A l.length c) := X1
  clear hb1 X1
  cases H
  · have hf := Lib.hid (limit_none HH.out.symm)
    go_wp2_with fail
    go_ret
    exact ⟨ret_int (by rw [HF.out, hf.out]), HB1.out⟩
  · obtain ⟨b, off, vb, vn, vt, vk, rfl, hr⟩ := (HC.out.below HB1.out).at_ HH.out.symm
    have D1 := hr.c1
    have D2 := hr.c2
    have hi0 := hasL_iff.1 HH.out.symm
    have h0 : 0 ≤ i := hi0.1
    have h1 : i < (l.length : Int) := hi0.2
    obtain ⟨r, hr0⟩ : ∃ r, r = ruleAt l i := ⟨_, rfl⟩
    rw [← hr0] at D1 D2
    have HR0 := Lib.hid hr0
    clear hr hi0 hr0
    by_cases hk : r.kind = 1
    · have hf := Lib.hid (limit_is HH.out.symm (by rw [← HR0.out]; exact hk))
      rw [hk] at D1
      clear hk
      by_cases hsz : 1 ≤ r.size ∧ r.size ≤ 4
      · have hcs : r.size = 1 ∨ r.size = 2 ∨ r.size = 3 ∨ r.size = 4 := by omega
        clear hsz
        rcases hcs with hs | hs | hs | hs
        · rw [hs] at D2
          have hfin : Hid (F = 255) := by show _ = _; rw [HF.out, hf.out, ← HR0.out, hs]; rfl
          clear hs
          obtain ⟨P, hP⟩ : ∃ P : Int, P = 256 := ⟨_, rfl⟩
          have hP1 : 1 ≤ P := by omega
          have hP2 : P ≤ 4294967296 := by omega
          have HP := Lib.hid hP
          have hsh : Op.shift .shl .i64 1 .i64 8 = pure (.int .i64 P) := by rw [hP]; kernel_rfl
          clear hP
          go_wp2_with fail
          refine (i_In 1 1 4 _).mono ?_
          rw [inR_yes (by omega) (by omega)]
          rintro e w2 ⟨rfl, rfl⟩
          go_wp2_with fail
          go_ret
          exact ⟨ret_int (by rw [hfin.out, HP.out]; rfl), HB1.out⟩
        · rw [hs] at D2
          have hfin : Hid (F = 65535) := by show _ = _; rw [HF.out, hf.out, ← HR0.out, hs]; rfl
          clear hs
          obtain ⟨P, hP⟩ : ∃ P : Int, P = 65536 := ⟨_, rfl⟩
          have hP1 : 1 ≤ P := by omega
          have hP2 : P ≤ 4294967296 := by omega
          have HP := Lib.hid hP
          have hsh : Op.shift .shl .i64 1 .i64 16 = pure (.int .i64 P) := by rw [hP]; kernel_rfl
          clear hP
          go_wp2_with fail
          refine (i_In 2 1 4 _).mono ?_
          rw [inR_yes (by omega) (by omega)]
          rintro e w2 ⟨rfl, rfl⟩
          go_wp2_with fail
          go_ret
          exact ⟨ret_int (by rw [hfin.out, HP.out]; rfl), HB1.out⟩
        · rw [hs] at D2
          have hfin : Hid (F = 16777215) := by show _ = _; rw [HF.out, hf.out, ← HR0.out, hs]; rfl
          clear hs
          obtain ⟨P, hP⟩ : ∃ P : Int, P = 16777216 := ⟨_, rfl⟩
          have hP1 : 1 ≤ P := by omega
          have hP2 : P ≤ 4294967296 := by omega
          have HP := Lib.hid hP
          have hsh : Op.shift .shl .i64 1 .i64 24 = pure (.int .i64 P) := by rw [hP]; kernel_rfl
          clear hP
          go_wp2_with fail
          refine (i_In 3 1 4 _).mono ?_
          rw [inR_yes (by omega) (by omega)]
          rintro e w2 ⟨rfl, rfl⟩
          go_wp2_with fail
          go_ret
          exact ⟨ret_int (by rw [hfin.out, HP.out]; rfl), HB1.out⟩
        · rw [hs] at D2
          have hfin : Hid (F = 4294967295) := by show _ = _; rw [HF.out, hf.out, ← HR0.out, hs]; rfl
          clear hs
          obtain ⟨P, hP⟩ : ∃ P : Int, P = 4294967296 := ⟨_, rfl⟩
          have hP1 : 1 ≤ P := by omega
          have hP2 : P ≤ 4294967296 := by omega
          have HP := Lib.hid hP
          have hsh : Op.shift .shl .i64 1 .i64 32 = pure (.int .i64 P) := by rw [hP]; kernel_rfl
          clear hP
          go_wp2_with fail
          refine (i_In 4 1 4 _).mono ?_
          rw [inR_yes (by omega) (by omega)]
          rintro e w2 ⟨rfl, rfl⟩
          go_wp2_with fail
          go_ret
          exact ⟨ret_int (by rw [hfin.out, HP.out]; rfl), HB1.out⟩
      · have hg := Lib.hid (limit_size (l := l) (i := i) (by rw [← HR0.out]; exact hsz))
        go_wp2_with fail
        refine (i_In r.size 1 4 _).mono ?_
        rw [inR_no (by omega)]
        rintro e w2 ⟨rfl, rfl⟩
        clear hsz
        go_wp2_with fail
        go_ret
        exact ⟨ret_int (by rw [HF.out, hg.out]), HB1.out⟩
    · have hf := Lib.hid (limit_kind (l := l) (i := i) (by rw [← HR0.out]; exact hk))
      have hq1 : (r.kind == 1) = false := by simpa using hk
      have hq2 : (r.kind != 1) = true := by simpa using hk
      clear hk
      go_wp2_with fail
      go_ret
      exact ⟨ret_int (by rw [HF.out, hf.out]), HB1.out⟩

theorem s_Power (n P : Int) (hP : P = 256 ^ n.toNat) (w : World) (hn : 1 ≤ n ∧ n ≤ 4 := by omega) : Calls Try.prog 52 #[.int .i64 n] w fun e w' => e = .returned (.int .i64 P) ∧ w = w' := by
  rcases (show n = 1 ∨ n = 2 ∨ n = 3 ∨ n = 4 by omega) with rfl | rfl | rfl | rfl <;> have HP := Lib.hid hP <;> clear hP <;>
  ( go_enter Try.func52, Try.ntmps52
    go_wp2_with fail
    go_ret
    exact ⟨ret_int (by rw [HP.out]; rfl), rfl⟩)

set_option maxHeartbeats 4000000 in
theorem s_IntegerLimit (d : Value) (l : List RuleD) (i : Int) (hi : -9223372036854775808 ≤ i ∧ i ≤ 9223372036854775807) (w : World) (hd : RdDesc w d l) :
    Calls Try.prog 24 #[d, .int .i64 i] w fun e w' => e = .returned (.int .i64 (limitL l i)) ∧ Below w.heap.size w w' := by
  obtain ⟨v, rfl, hv⟩ := hd
  obtain ⟨A, c, rfl, hnc, hcm, hcell⟩ := hv.all
  unfold maxLen at hcm
  obtain ⟨F, hF⟩ : ∃ F, F = limitL l i := ⟨_, rfl⟩
  have HF := Lib.hid hF
  rw [← hF]
  clear hF
  have HC := Lib.hid hcell
  have HV := Lib.hid hv
  have B0 := Box.new w 29 #[.slice A l.length c]
  have X0 := Lib.hid B0
  clear hcell hv B0
  obtain ⟨H, hH⟩ : ∃ H, H = hasL l i := ⟨_, rfl⟩
  have sin := fun w => s_In i 0 ((l.length : Int) - 1) w
  rw [show inR i 0 ((l.length : Int) - 1) = H from (in_hasL l i).trans hH.symm] at sin
  have HR := Lib.hid sin
  have HH := Lib.hid hH
  clear hH sin
  go_enter Try.func24, Try.ntmps24
  go_wp2_with fail
  refine (HR.out _).mono ?_
  rintro e w1 ⟨rfl, hw1⟩
  have hbx : Below w.heap.size w w1 := by rw [← hw1]; exact below_box
  have HB1 := Lib.hid hbx
  have X1' : w1.cell? ⟨w.heap.size, 0, none⟩ = some (.slice A l.length c) := by rw [← hw1]; exact X0.out.cell 0
  clear hbx hw1
  cases H
  · have hf := Lib.hid (limit_none HH.out.symm)
    go_wp2_with fail
    go_ret
    exact ⟨ret_int (by rw [HF.out, hf.out]), HB1.out⟩
  · obtain ⟨b, off, vb, vn, vt, vk, rfl, hr⟩ := (HC.out.below HB1.out).at_ HH.out.symm
    have D1 := hr.c1
    have D2 := hr.c2
    have hi0 := hasL_iff.1 HH.out.symm
    have h0 : 0 ≤ i := hi0.1
    have h1 : i < (l.length : Int) := hi0.2
    obtain ⟨r, hr0⟩ : ∃ r, r = ruleAt l i := ⟨_, rfl⟩
    rw [← hr0] at D1 D2
    have HR0 := Lib.hid hr0
    clear hr hi0 hr0
    by_cases hk : r.kind = 1
    · have hf := Lib.hid (limit_is HH.out.symm (by rw [← HR0.out]; exact hk))
      rw [hk] at D1
      clear hk
      by_cases hsz : 1 ≤ r.size ∧ r.size ≤ 4
      · have hcs : r.size = 1 ∨ r.size = 2 ∨ r.size = 3 ∨ r.size = 4 := by omega
        clear hsz
        rcases hcs with hs | hs | hs | hs
        · rw [hs] at D2
          have hfin : Hid (F = 255) := by show _ = _; rw [HF.out, hf.out, ← HR0.out, hs]; rfl
          clear hs
          obtain ⟨P, hP⟩ : ∃ P : Int, P = 256 := ⟨_, rfl⟩
          have hP1 : 1 ≤ P := by omega
          have hP2 : P ≤ 4294967296 := by omega
          have HP := Lib.hid hP
          have hsh : Op.shift .shl .i64 1 .i64 8 = pure (.int .i64 P) := by rw [hP]; kernel_rfl
          clear hP
          go_wp2_with fail
          refine (s_In 1 1 4 _).mono ?_
          rw [inR_yes (by omega) (by omega)]
          rintro e w2 ⟨rfl, rfl⟩
          go_wp2_with fail
          refine (s_Power 1 P (by rw [HP.out]; rfl) _).mono ?_
          rintro e w2 ⟨rfl, rfl⟩
          go_wp2_with fail
          go_ret
          exact ⟨ret_int (by rw [hfin.out, HP.out]; rfl), HB1.out⟩
        · rw [hs] at D2
          have hfin : Hid (F = 65535) := by show _ = _; rw [HF.out, hf.out, ← HR0.out, hs]; rfl
          clear hs
          obtain ⟨P, hP⟩ : ∃ P : Int, P = 65536 := ⟨_, rfl⟩
          have hP1 : 1 ≤ P := by omega
          have hP2 : P ≤ 4294967296 := by omega
          have HP := Lib.hid hP
          have hsh : Op.shift .shl .i64 1 .i64 16 = pure (.int .i64 P) := by rw [hP]; kernel_rfl
          clear hP
          go_wp2_with fail
          refine (s_In 2 1 4 _).mono ?_
          rw [inR_yes (by omega) (by omega)]
          rintro e w2 ⟨rfl, rfl⟩
          go_wp2_with fail
          refine (s_Power 2 P (by rw [HP.out]; rfl) _).mono ?_
          rintro e w2 ⟨rfl, rfl⟩
          go_wp2_with fail
          go_ret
          exact ⟨ret_int (by rw [hfin.out, HP.out]; rfl), HB1.out⟩
        · rw [hs] at D2
          have hfin : Hid (F = 16777215) := by show _ = _; rw [HF.out, hf.out, ← HR0.out, hs]; rfl
          clear hs
          obtain ⟨P, hP⟩ : ∃ P : Int, P = 16777216 := ⟨_, rfl⟩
          have hP1 : 1 ≤ P := by omega
          have hP2 : P ≤ 4294967296 := by omega
          have HP := Lib.hid hP
          have hsh : Op.shift .shl .i64 1 .i64 24 = pure (.int .i64 P) := by rw [hP]; kernel_rfl
          clear hP
          go_wp2_with fail
          refine (s_In 3 1 4 _).mono ?_
          rw [inR_yes (by omega) (by omega)]
          rintro e w2 ⟨rfl, rfl⟩
          go_wp2_with fail
          refine (s_Power 3 P (by rw [HP.out]; rfl) _).mono ?_
          rintro e w2 ⟨rfl, rfl⟩
          go_wp2_with fail
          go_ret
          exact ⟨ret_int (by rw [hfin.out, HP.out]; rfl), HB1.out⟩
        · rw [hs] at D2
          have hfin : Hid (F = 4294967295) := by show _ = _; rw [HF.out, hf.out, ← HR0.out, hs]; rfl
          clear hs
          obtain ⟨P, hP⟩ : ∃ P : Int, P = 4294967296 := ⟨_, rfl⟩
          have hP1 : 1 ≤ P := by omega
          have hP2 : P ≤ 4294967296 := by omega
          have HP := Lib.hid hP
          have hsh : Op.shift .shl .i64 1 .i64 32 = pure (.int .i64 P) := by rw [hP]; kernel_rfl
          clear hP
          go_wp2_with fail
          refine (s_In 4 1 4 _).mono ?_
          rw [inR_yes (by omega) (by omega)]
          rintro e w2 ⟨rfl, rfl⟩
          go_wp2_with fail
          refine (s_Power 4 P (by rw [HP.out]; rfl) _).mono ?_
          rintro e w2 ⟨rfl, rfl⟩
          go_wp2_with fail
          go_ret
          exact ⟨ret_int (by rw [hfin.out, HP.out]; rfl), HB1.out⟩
      · have hg := Lib.hid (limit_size (l := l) (i := i) (by rw [← HR0.out]; exact hsz))
        go_wp2_with fail
        refine (s_In r.size 1 4 _).mono ?_
        rw [inR_no (by omega)]
        rintro e w2 ⟨rfl, rfl⟩
        clear hsz
        go_wp2_with fail
        go_ret
        exact ⟨ret_int (by rw [HF.out, hg.out]), HB1.out⟩
    · have hf := Lib.hid (limit_kind (l := l) (i := i) (by rw [← HR0.out]; exact hk))
      have hq1 : (r.kind == 1) = false := by simpa using hk
      have hq2 : (r.kind != 1) = true := by simpa using hk
      clear hk
      go_wp2_with fail
      go_ret
      exact ⟨ret_int (by rw [HF.out, hf.out]), HB1.out⟩

end Go.Proofs.Ytcegbilfcblhfaa
