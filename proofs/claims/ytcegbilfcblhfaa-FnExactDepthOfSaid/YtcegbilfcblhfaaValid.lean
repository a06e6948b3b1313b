/-
  IsValidDescription of the program and of the reference.
-/
import Derived.Test.YtcegbilfcblhfaaValidI
import Derived.Test.YtcegbilfcblhfaaValidS
namespace Go.Proofs.Ytcegbilfcblhfaa
open Go.RowKit
set_option linter.unusedVariables false

def rulesGood (l : List RuleD) : Bool := (List.range l.length).all fun i => validR l (i : Int)
def validD (l : List RuleD) : Bool := inR l.length 1 24 && rulesGood l
theorem rulesGood_all {l : List RuleD} (h : ∀ j, j < l.length → validR l (j : Int) = true) : rulesGood l = true := by
  unfold rulesGood
  rw [List.all_eq_true]
  intro i hi
  exact h i (List.mem_range.1 hi)
theorem rulesGood_bad {l : List RuleD} {k : Nat} (hk : k < l.length) (h : validR l (k : Int) = false) : rulesGood l = false := by
  unfold rulesGood
  rw [List.all_eq_false]
  exact ⟨k, List.mem_range.2 hk, by simp [h]⟩

set_option maxRecDepth 100000 in
set_option maxHeartbeats 4000000 in
theorem i_IsValidDescription (d : Value) (l : List RuleD) (hfit : ∀ r ∈ l, RuleFits r) (hsm : ∀ r ∈ l, RuleSmall r) (w : World) (hd : RdDesc w d l) :
    Calls Try.prog 44 #[d] w fun e w' => e = .returned (.bool (validD l)) ∧ Below w.heap.size w w' := by
  obtain ⟨v, rfl, hv⟩ := hd
  obtain ⟨A, c, rfl, hnc, hcm, _⟩ := hv.all
  unfold maxLen at hcm
  obtain ⟨F, hF⟩ : ∃ F, F = validD l := ⟨_, rfl⟩
  rw [← hF]
  have x0 : Box (w.alloc (.cells #[.slice A l.length c] 29)) w.heap.size 29 #[.slice A l.length c] := Box.new w _ _
  have X0 := Lib.hid x0
  have HV := Lib.hid hv
  have HF := Lib.hid hF
  obtain ⟨H, hH⟩ : ∃ H, H = inR l.length 1 24 := ⟨_, rfl⟩
  have IV := Lib.hid (fun i hi w h => i_IsValidRule (.agg #[.slice A l.length c]) l i hi hfit hsm w h)
  have hr := fun w => i_In (l.length : Int) 1 24 w
  rw [← hH] at hr
  have L1 := Lib.hid hr
  have HH := Lib.hid hH
  obtain ⟨n, hn⟩ : ∃ n, n = l.length := ⟨_, rfl⟩
  have HN := Lib.hid hn
  rw [← hn] at hnc L1 IV X0 ⊢
  clear hr hH hF hv x0 hn hfit hsm
  go_enter Try.func44, Try.ntmps44
  go_wp2_with fail
  refine (L1.out _).mono ?_
  rintro e w1 ⟨rfl, hww⟩
  subst hww
  have x1 := X0.out.cell 0
  cases H
  · have hfin : Hid (false = F) := by show _ = _; rw [HF.out]; unfold validD; rw [← HH.out]; rfl
    go_wp2_with fail
    go_ret
    exact ⟨ret_bool hfin.out, below_box⟩
  · go_wp2_with fail
    clear x1
    go_loopw [12] (fun i wr => ∃ k : Nat, k ≤ n ∧ i = .int .i64 k ∧ (∀ j, j < k → validR l (j : Int) = true) ∧ Below w.heap.size w wr ∧ Box wr w.heap.size 29 #[.slice A n c]) (fun i _ => n - (intOf i).toNat)
    case atStart => exact ⟨0, Nat.zero_le _, rfl, fun j h => absurd h (by omega), below_box, X0.out⟩
    case round =>
      obtain ⟨k, hk, rfl, hno, hbr, hb2⟩ := hrel
      have HO := Lib.hid hno
      have HBR := Lib.hid hbr
      have x4 := hb2.cell 0
      have HB2 := Lib.hid hb2
      clear hno hbr hb2
      by_cases hlt : k < n
      · have hkl : k < l.length := by rw [← HN.out]; exact hlt
        obtain ⟨V, hV⟩ : ∃ V, V = validR l (k : Int) := ⟨_, rfl⟩
        have iv := fun w h => IV.out (k : Int) (by omega) w h
        rw [← hV] at iv
        have HVV := Lib.hid hV
        have I1 := Lib.hid iv
        clear iv hV
        go_wp2_with fail
        refine (I1.out _ ⟨_, rfl, by rw [HN.out]; exact HV.out.below HBR.out⟩).mono ?_
        rintro e w5 ⟨rfl, hb5⟩
        have B5 := Lib.hid (Below.then_ HBR.out hb5 (Nat.le_refl _))
        have C5 := Lib.hid (HB2.out.below hb5)
        have x5 := C5.out.cell 0
        clear hb5 x4
        cases V
        · have hfin : Hid (false = F) := by show _ = _; rw [HF.out]; unfold validD; rw [rulesGood_bad hkl HVV.out.symm]; simp
          go_wp2_with fail
          go_ret
          exact ⟨ret_bool hfin.out, B5.out⟩
        · have hall : Hid (∀ j, j < k + 1 → validR l (j : Int) = true) := by
            intro j hjk
            rcases Nat.lt_or_ge j k with h1 | h1
            · exact HO.out j h1
            · obtain rfl : j = k := by omega
              exact HVV.out.symm
          go_wp2_with fail
          go_roundw
          case rel => exact ⟨k + 1, by omega, by go_num, hall.out, B5.out, C5.out⟩
          case measure => simp [intOf]; omega
      · obtain rfl : k = n := by omega
        have hgood : Hid (rulesGood l = true) := rulesGood_all fun j hj => HO.out j (by rw [HN.out]; exact hj)
        have hfin : Hid (true = F) := by show _ = _; rw [HF.out]; unfold validD; rw [← HH.out, hgood.out]; rfl
        go_wp2_with fail
        go_ret
        exact ⟨ret_bool hfin.out, HBR.out⟩

set_option maxRecDepth 100000 in
set_option maxHeartbeats 4000000 in
theorem s_IsValidDescription (d : Value) (l : List RuleD) (hfit : ∀ r ∈ l, RuleFits r) (hsm : ∀ r ∈ l, RuleSmall r) (w : World) (hd : RdDesc w d l) :
    Calls Try.prog 43 #[d] w fun e w' => e = .returned (.bool (validD l)) ∧ Below w.heap.size w w' := by
  obtain ⟨v, rfl, hv⟩ := hd
  obtain ⟨A, c, rfl, hnc, hcm, _⟩ := hv.all
  unfold maxLen at hcm
  obtain ⟨F, hF⟩ : ∃ F, F = validD l := ⟨_, rfl⟩
  rw [← hF]
  have x0 : Box (w.alloc (.cells #[.slice A l.length c] 29)) w.heap.size 29 #[.slice A l.length c] := Box.new w _ _
  have X0 := Lib.hid x0
  have HV := Lib.hid hv
  have HF := Lib.hid hF
  obtain ⟨H, hH⟩ : ∃ H, H = inR l.length 1 24 := ⟨_, rfl⟩
  have IV := Lib.hid (fun i hi w h => s_IsValidRule (.agg #[.slice A l.length c]) l i hi hfit hsm w h)
  have hr := fun w => s_In (l.length : Int) 1 24 w
  rw [← hH] at hr
  have L1 := Lib.hid hr
  have HH := Lib.hid hH
  obtain ⟨n, hn⟩ : ∃ n, n = l.length := ⟨_, rfl⟩
  have HN := Lib.hid hn
  rw [← hn] at hnc L1 IV X0 ⊢
  clear hr hH hF hv x0 hn hfit hsm
  go_enter Try.func43, Try.ntmps43
  go_wp2_with fail
  go_loopw [3] (fun i wr => ∃ k : Nat, k ≤ n ∧ i = .int .i64 k ∧ (∀ j, j < k → validR l (j : Int) = true) ∧ Below w.heap.size w wr ∧ Box wr w.heap.size 29 #[.slice A n c]) (fun i _ => n - (intOf i).toNat)
  case atStart => exact ⟨0, Nat.zero_le _, rfl, fun j h => absurd h (by omega), below_box, X0.out⟩
  case round =>
    obtain ⟨k, hk, rfl, hno, hbr, hb2⟩ := hrel
    have HO := Lib.hid hno
    have HBR := Lib.hid hbr
    have x4 := hb2.cell 0
    have HB2 := Lib.hid hb2
    clear hno hbr hb2
    by_cases hlt : k < n
    · have hkl : k < l.length := by rw [← HN.out]; exact hlt
      obtain ⟨V, hV⟩ : ∃ V, V = validR l (k : Int) := ⟨_, rfl⟩
      have iv := fun w h => IV.out (k : Int) (by omega) w h
      rw [← hV] at iv
      have HVV := Lib.hid hV
      have I1 := Lib.hid iv
      clear iv hV
      go_wp2_with fail
      refine (I1.out _ ⟨_, rfl, by rw [HN.out]; exact HV.out.below HBR.out⟩).mono ?_
      rintro e w5 ⟨rfl, hb5⟩
      have B5 := Lib.hid (Below.then_ HBR.out hb5 (Nat.le_refl _))
      have C5 := Lib.hid (HB2.out.below hb5)
      have x5 := C5.out.cell 0
      clear hb5 x4
      cases V
      · have hfin : Hid (false = F) := by show _ = _; rw [HF.out]; unfold validD; rw [rulesGood_bad hkl HVV.out.symm]; simp
        go_wp2_with fail
        go_ret
        exact ⟨ret_bool hfin.out, B5.out⟩
      · have hall : Hid (∀ j, j < k + 1 → validR l (j : Int) = true) := by
          intro j hjk
          rcases Nat.lt_or_ge j k with h1 | h1
          · exact HO.out j h1
          · obtain rfl : j = k := by omega
            exact HVV.out.symm
        go_wp2_with fail
        go_roundw
        case rel => exact ⟨k + 1, by omega, by go_num, hall.out, B5.out, C5.out⟩
        case measure => simp [intOf]; omega
    · obtain rfl : k = n := by omega
      have hgood : Hid (rulesGood l = true) := rulesGood_all fun j hj => HO.out j (by rw [HN.out]; exact hj)
      have hfin : Hid (H = F) := by show _ = _; rw [HF.out]; unfold validD; rw [← HH.out, hgood.out]; simp
      go_wp2_with fail
      refine (L1.out _).mono ?_
      rintro e w1 ⟨rfl, hww⟩
      subst hww
      go_wp2_with fail
      go_ret
      exact ⟨ret_bool hfin.out, HBR.out⟩

end Go.Proofs.Ytcegbilfcblhfaa
