/-
  LongestLine and FormatDescription, of the program and of the reference.
-/
import Derived.Test.YtkjjgpkegihmhaaGreatDoorFmtI
import Derived.Test.YtkjjgpkegihmhaaGreatDoorFmtS
import Derived.Test.YtkjjgpkegihmhaaGreatDoorGA
import Derived.Test.YtkjjgpkegihmhaaGreatDoorGD
import Derived.Test.YtkjjgpkegihmhaaGreatDoorGF
namespace Go.Proofs.YtkjjgpkegihmhaaGreatDoor
open Go.RowKit
set_option linter.unusedVariables false

set_option maxRecDepth 100000 in
set_option maxHeartbeats 4000000 in
theorem i_FormatDescription (d : Value) (l : List RuleD) (hln : l.length ≤ 1048576) (hfit : ∀ r ∈ l, RuleFits r) (hsm : ∀ r ∈ l, RuleSmall r) (hnf : NamesFit l) (w : World) (ht : Tab w) (hd : RdDesc w d l) :
    Calls Tryz.prog 26 #[d] w fun e w' => e = .returned (.string (mkS (descT l))) ∧ Below w.heap.size w w' := by
  obtain ⟨v, rfl, hv⟩ := hd
  obtain ⟨A, c, rfl, hnc, hcm, _⟩ := hv.all
  unfold maxLen at hcm
  obtain ⟨F, hF⟩ : ∃ F, F = descT l := ⟨_, rfl⟩
  rw [← hF]
  have x0 : Box (w.alloc (.cells #[.slice A l.length c] 35)) w.heap.size 35 #[.slice A l.length c] := Box.new w _ _
  have X0 := Lib.hid x0
  have HV := Lib.hid hv
  have HF := Lib.hid hF
  have HT := Lib.hid ht
  have HNF := Lib.hid hnf
  have FR := Lib.hid (fun i hi w ht h => i_FormatRule (.agg #[.slice A l.length c]) l i hi hfit hsm hnf w ht h)
  have IV := Lib.hid (fun w h => i_IsValidDescription (.agg #[.slice A l.length c]) l hfit hsm w h)
  obtain ⟨n, hn⟩ : ∃ n, n = l.length := ⟨_, rfl⟩
  have HN := Lib.hid hn
  have hnb : n ≤ 1048576 := by omega
  rw [← hn] at hnc FR IV X0 ⊢
  clear hF hv x0 hn hfit hsm hnf ht hln
  obtain ⟨V, hV⟩ : ∃ V, V = validD l := ⟨_, rfl⟩
  have iv := IV.out
  rw [← hV] at iv
  have IV1 := Lib.hid iv
  have HVV := Lib.hid hV
  clear iv hV IV
  go_enter Tryz.func26, Tryz.ntmps26
  go_wp2_with fail
  refine (IV1.out _ ⟨_, rfl, by rw [HN.out]; exact HV.out.below below_box⟩).mono ?_
  rintro e w1 ⟨rfl, hb1⟩
  have B1 := Lib.hid (Below.then_ below_box hb1 (Nat.le_refl _))
  have X1 := Lib.hid (X0.out.below hb1)
  have x1 := X1.out.cell 0
  clear hb1
  cases V
  · have hfin : Hid ([] = F) := by show _ = _; rw [HF.out]; unfold descT; rw [← HVV.out]; rfl
    go_wp2_with fail
    go_ret
    exact ⟨ret_str (by rw [← hfin.out]; rfl), B1.out⟩
  · have h24 : n ≤ 24 := by rw [HN.out]; exact (valid_len HVV.out.symm).2
    go_wp2_with fail
    clear x1
    go_loopw [3, 11] (fun t i wr => ∃ k : Nat, k ≤ n ∧ i = .int .i64 k ∧ t = .string (mkS (linesT l k)) ∧ Below w.heap.size w wr ∧ Box wr w.heap.size 35 #[.slice A n c]) (fun _ i _ => n - (intOf i).toNat)
    case atStart => exact ⟨0, Nat.zero_le _, rfl, rfl, B1.out, X1.out⟩
    case round =>
      obtain ⟨k, hk, rfl, rfl, hbr, hxr⟩ := hrel
      have HBR := Lib.hid hbr
      have HXR := Lib.hid hxr
      have x4 := hxr.cell 0
      clear hbr hxr
      by_cases hlt : k < n
      · obtain ⟨s, hs⟩ : ∃ s, s = mkS (lineL l (k : Int)) := ⟨_, rfl⟩
        obtain ⟨t, ht⟩ : ∃ t, t = mkS (linesT l k) := ⟨_, rfl⟩
        have fr := fun w ht h => FR.out (k : Int) (by omega) w ht h
        rw [← hs] at fr
        have FR1 := Lib.hid fr
        have hz : s.size ≤ 12000000 := by rw [hs]; exact lineL_len HNF.out _
        have hz2 : t.size ≤ 24 * 12000001 := by rw [ht]; exact Nat.le_trans (linesT_len HNF.out k) (Nat.mul_le_mul_right _ (by omega))
        have HS := Lib.hid hs
        have HTX := Lib.hid ht
        rw [← ht]
        have hq1 : ¬ (9223372036854775807 < s.size + 1) := by omega
        have hq2 : ¬ (9223372036854775807 < t.size + (s.size + 1)) := by omega
        clear fr hs ht
        go_wp2_with fail
        refine (FR1.out _ (HT.out.below HBR.out) ⟨_, rfl, by rw [HN.out]; exact HV.out.below HBR.out⟩).mono ?_
        rintro e w5 ⟨rfl, hb5⟩
        have B5 := Lib.hid (Below.then_ HBR.out hb5 (Nat.le_refl _))
        have C5 := Lib.hid (HXR.out.below hb5)
        clear hb5 x4
        go_wp2_with fail
        go_roundw
        case rel =>
          refine ⟨k + 1, by omega, by go_num, ?_, B5.out, C5.out⟩
          rw [HTX.out, HS.out, linesT_step]
          congr 1
        case measure => simp [intOf]; omega
      · obtain rfl : k = n := by omega
        have hfin : Hid (linesT l k = F) := by show _ = _; rw [HF.out, HN.out]; unfold descT; rw [← HVV.out, if_pos rfl]
        go_wp2_with fail
        go_ret
        exact ⟨ret_str (by rw [hfin.out]), HBR.out⟩

set_option maxRecDepth 100000 in
set_option maxHeartbeats 4000000 in
theorem s_FormatDescription (d : Value) (l : List RuleD) (hln : l.length ≤ 1048576) (hfit : ∀ r ∈ l, RuleFits r) (hsm : ∀ r ∈ l, RuleSmall r) (hnf : NamesFit l) (w : World) (ht : Tab w) (hd : RdDesc w d l) :
    Calls Tryz.prog 60 #[d] w fun e w' => e = .returned (.string (mkS (descT l))) ∧ Below w.heap.size w w' := by
  obtain ⟨v, rfl, hv⟩ := hd
  obtain ⟨A, c, rfl, hnc, hcm, _⟩ := hv.all
  unfold maxLen at hcm
  obtain ⟨F, hF⟩ : ∃ F, F = descT l := ⟨_, rfl⟩
  rw [← hF]
  have x0 : Box (w.alloc (.cells #[.slice A l.length c] 35)) w.heap.size 35 #[.slice A l.length c] := Box.new w _ _
  have X0 := Lib.hid x0
  have HV := Lib.hid hv
  have HF := Lib.hid hF
  have HT := Lib.hid ht
  have HNF := Lib.hid hnf
  have FR := Lib.hid (fun i hi w ht h => s_FormatRule (.agg #[.slice A l.length c]) l i hi hfit hsm hnf w ht h)
  have IV := Lib.hid (fun w h => s_IsValidDescription (.agg #[.slice A l.length c]) l hfit hsm w h)
  obtain ⟨n, hn⟩ : ∃ n, n = l.length := ⟨_, rfl⟩
  have HN := Lib.hid hn
  have hnb : n ≤ 1048576 := by omega
  rw [← hn] at hnc FR IV X0 ⊢
  clear hF hv x0 hn hfit hsm hnf ht hln
  obtain ⟨V, hV⟩ : ∃ V, V = validD l := ⟨_, rfl⟩
  have iv := IV.out
  rw [← hV] at iv
  have IV1 := Lib.hid iv
  have HVV := Lib.hid hV
  clear iv hV IV
  cases V
  · have hfin : Hid ([] = F) := by show _ = _; rw [HF.out]; unfold descT; rw [← HVV.out]; rfl
    have x1 := X0.out.cell 0
    go_enter Tryz.func60, Tryz.ntmps60
    go_wp2_with fail
    refine wp_loop_rounds 1 ?_
    rw [rounds_succ]
    by_cases h0 : 0 < n
    · go_wp2_with fail
      refine (IV1.out _ ⟨_, rfl, by rw [HN.out]; exact HV.out.below below_box⟩).mono ?_
      rintro e w4 ⟨rfl, hb4⟩
      have B4 := Lib.hid (Below.then_ below_box hb4 (Nat.le_refl _))
      clear hb4 x1
      go_wp2_with fail
      go_ret
      exact ⟨ret_str (by rw [← hfin.out]; rfl), B4.out⟩
    · obtain rfl : n = 0 := by omega
      go_wp2_with fail
      go_ret
      exact ⟨ret_str (by rw [← hfin.out]; rfl), below_box⟩
  · have h24 : n ≤ 24 := by rw [HN.out]; exact (valid_len HVV.out.symm).2
    go_enter Tryz.func60, Tryz.ntmps60
    go_wp2_with fail
    go_loopw [3, 4] (fun t i wr => ∃ k : Nat, k ≤ n ∧ i = .int .i64 k ∧ t = .string (mkS (linesT l k)) ∧ Below w.heap.size w wr ∧ Box wr w.heap.size 35 #[.slice A n c]) (fun _ i _ => n - (intOf i).toNat)
    case atStart => exact ⟨0, Nat.zero_le _, rfl, rfl, below_box, X0.out⟩
    case round =>
      obtain ⟨k, hk, rfl, rfl, hbr, hxr⟩ := hrel
      have HBR := Lib.hid hbr
      have HXR := Lib.hid hxr
      have x4 := hxr.cell 0
      clear hbr hxr
      by_cases hlt : k < n
      · obtain ⟨s, hs⟩ : ∃ s, s = mkS (lineL l (k : Int)) := ⟨_, rfl⟩
        obtain ⟨t, ht⟩ : ∃ t, t = mkS (linesT l k) := ⟨_, rfl⟩
        have fr := fun w ht h => FR.out (k : Int) (by omega) w ht h
        rw [← hs] at fr
        have FR1 := Lib.hid fr
        have hz : s.size ≤ 12000000 := by rw [hs]; exact lineL_len HNF.out _
        have hz2 : t.size ≤ 24 * 12000001 := by rw [ht]; exact Nat.le_trans (linesT_len HNF.out k) (Nat.mul_le_mul_right _ (by omega))
        have HS := Lib.hid hs
        have HTX := Lib.hid ht
        rw [← ht]
        have hq1 : ¬ (9223372036854775807 < t.size + s.size) := by omega
        have hq2 : ¬ (9223372036854775807 < t.size + s.size + 1) := by omega
        clear fr hs ht
        go_wp2_with fail
        refine (IV1.out _ ⟨_, rfl, by rw [HN.out]; exact HV.out.below HBR.out⟩).mono ?_
        rintro e w4 ⟨rfl, hb4⟩
        have HBR := Lib.hid (Below.then_ HBR.out hb4 (Nat.le_refl _))
        have HXR := Lib.hid (HXR.out.below hb4)
        have x5 := HXR.out.cell 0
        clear hb4 x4
        go_wp2_with fail
        refine (FR1.out _ (HT.out.below HBR.out) ⟨_, rfl, by rw [HN.out]; exact HV.out.below HBR.out⟩).mono ?_
        rintro e w5 ⟨rfl, hb5⟩
        have B5 := Lib.hid (Below.then_ HBR.out hb5 (Nat.le_refl _))
        have C5 := Lib.hid (HXR.out.below hb5)
        clear hb5 x5
        go_wp2_with fail
        go_roundw
        case rel =>
          refine ⟨k + 1, by omega, by go_num, ?_, B5.out, C5.out⟩
          rw [HTX.out, HS.out, linesT_step]
          congr 1
          apply ByteArray.ext
          simp [ByteArray.data_append, mkS]
        case measure => simp [intOf]; omega
      · obtain rfl : k = n := by omega
        have hfin : Hid (linesT l k = F) := by show _ = _; rw [HF.out, HN.out]; unfold descT; rw [← HVV.out, if_pos rfl]
        go_wp2_with fail
        go_ret
        exact ⟨ret_str (by rw [hfin.out]), HBR.out⟩

end Go.Proofs.YtkjjgpkegihmhaaGreatDoor
