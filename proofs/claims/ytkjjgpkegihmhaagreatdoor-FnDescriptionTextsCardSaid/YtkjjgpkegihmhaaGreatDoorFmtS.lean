/-
  FormatRule of the reference.
-/
import Derived.Test.YtkjjgpkegihmhaaGreatDoorGD
import Derived.Test.YtkjjgpkegihmhaaGreatDoorGB
import Derived.Test.YtkjjgpkegihmhaaGreatDoorFmtI
import Derived.Deep.RegionHeld3
import Derived.Deep.DeepCutAuto
namespace Go.Proofs.YtkjjgpkegihmhaaGreatDoor
open Go.RowKit
set_option linter.unusedVariables false

set_option maxRecDepth 100000 in
set_option maxHeartbeats 20000000 in
theorem s_FormatRule (d : Value) (l : List RuleD) (i : Int) (hi : -9223372036854775808 ≤ i ∧ i ≤ 9223372036854775807) (hfit : ∀ r ∈ l, RuleFits r) (hsm : ∀ r ∈ l, RuleSmall r) (hnf : NamesFit l) (w : World) (ht : Tab w) (hd : RdDesc w d l) :
    Calls Tryz.prog 35 #[d, .int .i64 i] w fun e w' => e = .returned (.string (mkS (lineL l i))) ∧ Below w.heap.size w w' := by
  obtain ⟨v, rfl, hv⟩ := hd
  obtain ⟨A, c, rfl, hnc, hcm, hcell⟩ := hv.all
  unfold maxLen at hcm
  obtain ⟨F, hF⟩ : ∃ F, F = lineL l i := ⟨_, rfl⟩
  rw [← hF]
  obtain ⟨w0, hw0⟩ : ∃ w0, w0 = w.alloc (.cells #[.slice A l.length c] 35) := ⟨_, rfl⟩
  have b0 : Below w.heap.size w w0 := by rw [hw0]; exact below_box
  have HC := Lib.hid hcell
  have HV := Lib.hid hv
  have x0 : Box w0 w.heap.size 35 #[.slice A l.length c] := by rw [hw0]; exact Box.new w _ _
  have B0 := Lib.hid b0
  have X0 := Lib.hid x0
  have W0 := Lib.hid hw0
  have HF := Lib.hid hF
  have HFIT := Lib.hid hfit
  have HSM := Lib.hid hsm
  have HT := Lib.hid ht
  have HNF := Lib.hid hnf
  obtain ⟨V, hV⟩ : ∃ V, V = validR l i := ⟨_, rfl⟩
  have iv := fun w h => s_IsValidRule (.agg #[.slice A l.length c]) l i hi hfit hsm w h
  rw [← hV] at iv
  have IV := Lib.hid iv
  have HVV := Lib.hid hV
  clear hcell hv x0 b0 hw0 hF hfit hsm ht hnf iv hV
  go_enter Tryz.func35, Tryz.ntmps35
  go_wp2_with fail
  rw [← W0.out]
  have x0 := X0.out.cell 0
  refine (IV.out _ ⟨_, rfl, HV.out.below B0.out⟩).mono ?_
  rintro e w1 ⟨rfl, hb1⟩
  have B1 := Lib.hid (Below.then_ B0.out hb1 (Nat.le_refl _))
  have X1 := Lib.hid (X0.out.below hb1)
  have x1 := X1.out.cell 0
  clear hb1 x0
  cases V
  · have hfin : Hid ([] = F) := by show _ = _; rw [HF.out]; unfold lineL; rw [← HVV.out]; rfl
    go_wp2_with fail
    go_ret
    exact ⟨ret_str (by rw [← hfin.out]; rfl), B1.out⟩
  · obtain ⟨m, rfl, hml⟩ := hasL_nat (validR_has HVV.out.symm)
    have hmi : (m : Int) < (l.length : Int) := by omega
    have hm0 : (0 : Int) ≤ (m : Int) := by omega
    have hmc : (m : Int) ≤ (c : Int) := by omega
    obtain ⟨b, off, rfl, hcs⟩ := HC.out (by omega)
    obtain ⟨vb, vn, vt, vk, hr⟩ := hcs m hml
    rw [← ruleAt_eq hml] at hr
    obtain ⟨r, hr0⟩ : ∃ r, r = ruleAt l m := ⟨_, rfl⟩
    rw [← hr0] at hr
    have hmem : r ∈ l := by rw [hr0]; exact ruleAt_mem hml
    obtain ⟨⟨Ab, cb, rfl⟩, ⟨An, cn, rfl⟩, ⟨At, ct, rfl⟩, ⟨Ak, ck, rfl⟩⟩ := hr.slices
    obtain ⟨D0, D1, D2, D3, D4, D5, D6, D7⟩ := (hr.below B1.out).eight
    have HRD := Lib.hid hr.rd
    have HR0 := Lib.hid hr0
    have HRF := Lib.hid (HFIT.out r hmem)
    have HRS := Lib.hid (HSM.out r hmem)
    have HCS := Lib.hid hcs
    clear hr hcs hmem
    have HSH := Lib.hid (shape_of (validR_kind HVV.out.symm))
    have HWF := Lib.hid (wordsR_join HVV.out.symm HNF.out)
    rw [← HR0.out] at HSH HWF
    have HF2 : Hid (Lib.join (wordsR l m r) [32] = F) := by show _ = _; rw [HF.out]; unfold lineL; rw [← HVV.out, if_pos rfl, ← HR0.out]
    obtain ⟨w2, hw2⟩ : ∃ w2, w2 = w1.alloc (.cells #[.string r.name, .int .i64 r.kind, .int .i64 r.size, .bool r.little, .slice Ab r.bytes.length cb, .slice An r.names.length cn, .slice At r.tags.length ct, .slice Ak r.kids.length ck] 30) := ⟨_, rfl⟩
    have Y2 := Lib.hid (show Box w2 w1.heap.size 30 #[.string r.name, .int .i64 r.kind, .int .i64 r.size, .bool r.little, .slice Ab r.bytes.length cb, .slice An r.names.length cn, .slice At r.tags.length ct, .slice Ak r.kids.length ck] by rw [hw2]; exact Box.new _ _ _)
    have X2 := Lib.hid (show Box w2 w.heap.size 35 #[.slice (some ⟨b, off, none⟩) l.length c] by rw [hw2]; exact X1.out.alloc _)
    have B2 := Lib.hid (show Below w.heap.size w w2 by rw [hw2]; exact B1.out.alloc B1.out.size _)
    have W2 := Lib.hid hw2
    clear hw2 hr0
    go_wp2_with fail
    rw [← W2.out]
    have KN := Lib.hid (fun w => s_KindName r.kind w)
    have e0 := Y2.out.cell 0
    have e1 := Y2.out.cell 1
    obtain ⟨i0, hif, hz0, hz1, hz2⟩ := info_parts info_String
    clear D0 D1 D2 D3 D4 D5 D6 D7 x1
    go_cut [6] (fun s6 wx => OSt w2 s6 [r.name.data.toList, (kindName r.kind).data.toList] wx)
    case first =>
      go_region_held3 (fun w' => w'.cell? ⟨w1.heap.size, 0, none⟩ = some (.string r.name) ∧ w'.cell? ⟨w1.heap.size, 1, none⟩ = some (.int .i64 r.kind))
        (first | go_keep | (exact ⟨((Y2.out.drewN 1).below hb7).cell 0, ((Y2.out.drewN 1).below hb7).cell 1⟩) | (exact ⟨(((Y2.out.drewN 1).below hb7).alloc _).cell 0, (((Y2.out.drewN 1).below hb7).alloc _).cell 1⟩))
        ((go_at_call 32; refine (KN.out _).mono ?_; rintro e w7 ⟨rfl, hb7⟩))
      go_wp2_with fail
      go_meet
      exact OSt.new w2 w7 r.name (kindName r.kind) (Below.then_ ((Below.refl _ w2).drew) hb7 (Nat.le_refl _))
    case rest =>
      rename_i o0 _ _
      have S0 := Lib.hid hcut
      have HWF0 := Lib.hid (show (wordsR l m r).length ≤ 4194304 ∧ Lib.lens (wordsR l m r) + ([32] : List UInt8).length * (wordsR l m r).length ≤ 35184372088832 from HWF.out)
      clear e0 e1 hcut
      rcases HSH.out with h | h | h | h | h | h | h | h | h | h
      · obtain ⟨hk, hp1, hp2, hp3, hp4, hs1, hs4, hlit⟩ := h
        have HK := Lib.hid hk
        have FI := Lib.hid (fun w => s_FormatInt r.size ⟨by omega, by omega⟩ w)
        obtain ⟨lit, hl0⟩ : ∃ lit, lit = r.little := ⟨_, rfl⟩
        have HL := Lib.hid hl0
        clear hp1 hp2 hp3 hp4 hs1 hs4 hlit hl0
        have e1 := (S0.out.box Y2.out).cell 1
        have e2 := (S0.out.box Y2.out).cell 2
        have x9 := (S0.out.box X2.out).cell 0
        go_wp2_with fail
        refine (FI.out _).mono ?_
        rintro e w8 ⟨rfl, hb⟩
        have S1 := Lib.hid (S0.out.step hb)
        clear hb
        clear e1 e2 x9
        obtain ⟨ws11, hws11⟩ : ∃ ws : List (List UInt8), ws = [r.name.data.toList, (kindName r.kind).data.toList] := ⟨_, rfl⟩
        have hl11 : ws11.length ≤ 100 := by rw [hws11]; simp
        have U11 := Lib.hid (OSt.to S1.out hws11.symm)
        have HWS11 := Lib.hid hws11
        clear hws11
        go_wp2_with (at_builtin; refine wpList_append_rd _ rfl (.tmp 43) (.tmp 47) 27 rfl w2.heap.size 9 i0 (.string ⟨#[]⟩) 1 16 Tryz.underlying27 hif hz0 hz1 hz2 rfl (by decide) _ _ _ rfl (U11.out.own.alloc _) _ 1 (cS [mkS (fmtInt r.size)]) rfl ?c11 (cS_one _) (by unfold maxLen; omega) (by omega) (by have := U11.out.be.size; simp; omega) ?_)
        case c11 => exact Rd.lit _ (cS [mkS (fmtInt r.size)]) 9 1 rfl (by unfold maxLen; omega)
        intro v11 w11 hown' hgrow' _
        have S2 := Lib.hid ((U11.out.push hown' hgrow').to (by rw [HWS11.out]))
        clear hown' hgrow' hl11
        have e3 := (S2.out.box Y2.out).cell 3
        have x9 := (S2.out.box X2.out).cell 0
        rw [← HL.out] at e3
        clear hk
        cases lit
        · have HWF1 := Lib.hid (OSt.to S2.out (show _ = wordsR l m r by unfold wordsR; rw [args_1 HK.out, ← HL.out]; rfl))
          have JT := Lib.hid (fun v w h => s_JoinText v (wordsR l m r) [32] HWF0.out.1 HWF0.out.2 w h)
          go_wp2_with fail
          refine (JT.out _ _ (Rd.of_own HWF1.out.own)).mono ?_
          rintro e wz ⟨rfl, hww⟩
          subst hww
          go_wp2_with fail
          go_ret
          exact ⟨ret_str (by rw [HF2.out]), HWF1.out.from B2.out⟩
        · obtain ⟨ws13, hws13⟩ : ∃ ws : List (List UInt8), ws = [r.name.data.toList, (kindName r.kind).data.toList] ++ [fmtInt r.size] := ⟨_, rfl⟩
          have hl13 : ws13.length ≤ 100 := by rw [hws13]; simp
          have U13 := Lib.hid (OSt.to S2.out hws13.symm)
          have HWS13 := Lib.hid hws13
          clear hws13
          go_wp2_with (at_builtin; refine wpList_append_rd _ rfl (.tmp 51) (.tmp 52) 27 rfl w2.heap.size 9 i0 (.string ⟨#[]⟩) 1 16 Tryz.underlying27 hif hz0 hz1 hz2 rfl (by decide) _ _ _ rfl (U13.out.own.alloc _) _ 1 (cS [⟨#[108, 105, 116, 116, 108, 101]⟩]) rfl ?c13 (cS_one _) (by unfold maxLen; omega) (by omega) (by have := U13.out.be.size; simp; omega) ?_)
          case c13 => exact Rd.lit _ (cS [⟨#[108, 105, 116, 116, 108, 101]⟩]) 9 1 rfl (by unfold maxLen; omega)
          intro v13 w13 hown' hgrow' _
          have S3 := Lib.hid ((U13.out.push hown' hgrow').to (by rw [HWS13.out]))
          clear hown' hgrow' hl13
          clear e3 x9
          have HWF1 := Lib.hid (OSt.to S3.out (show _ = wordsR l m r by unfold wordsR; rw [args_1 HK.out, ← HL.out]; rfl))
          have JT := Lib.hid (fun v w h => s_JoinText v (wordsR l m r) [32] HWF0.out.1 HWF0.out.2 w h)
          go_wp2_with fail
          refine (JT.out _ _ (Rd.of_own HWF1.out.own)).mono ?_
          rintro e wz ⟨rfl, hww⟩
          subst hww
          go_wp2_with fail
          go_ret
          exact ⟨ret_str (by rw [HF2.out]), HWF1.out.from B2.out⟩
      · obtain ⟨hk, a1, a2, a3, a4, a5, a6⟩ := h
        have HK := Lib.hid hk
        have FH := Lib.hid (fun w h => s_FormatHex (.slice Ab r.bytes.length cb) r.bytes HRS.out.1 w h)
        clear a1 a2 a3 a4 a5 a6
        have e1 := (S0.out.box Y2.out).cell 1
        have e4 := (S0.out.box Y2.out).cell 4
        have x9 := (S0.out.box X2.out).cell 0
        go_wp2_with fail
        refine (FH.out _ ((rdRule_parts HRD.out).1.below (S0.out.from B2.out))).mono ?_
        rintro e w8 ⟨rfl, hb⟩
        have S1 := Lib.hid (S0.out.step hb)
        clear hb
        clear e1 e4 x9
        obtain ⟨ws16, hws16⟩ : ∃ ws : List (List UInt8), ws = [r.name.data.toList, (kindName r.kind).data.toList] := ⟨_, rfl⟩
        have hl16 : ws16.length ≤ 100 := by rw [hws16]; simp
        have U16 := Lib.hid (OSt.to S1.out hws16.symm)
        have HWS16 := Lib.hid hws16
        clear hws16
        go_wp2_with (at_builtin; refine wpList_append_rd _ rfl (.tmp 57) (.tmp 61) 27 rfl w2.heap.size 9 i0 (.string ⟨#[]⟩) 1 16 Tryz.underlying27 hif hz0 hz1 hz2 rfl (by decide) _ _ _ rfl (U16.out.own.alloc _) _ 1 (cS [mkS (hexL r.bytes)]) rfl ?c16 (cS_one _) (by unfold maxLen; omega) (by omega) (by have := U16.out.be.size; simp; omega) ?_)
        case c16 => exact Rd.lit _ (cS [mkS (hexL r.bytes)]) 9 1 rfl (by unfold maxLen; omega)
        intro v16 w16 hown' hgrow' _
        have S2 := Lib.hid ((U16.out.push hown' hgrow').to (by rw [HWS16.out]))
        clear hown' hgrow' hl16
        clear hk
        have HWF1 := Lib.hid (OSt.to S2.out (show _ = wordsR l m r by unfold wordsR; rw [args_2 (.inl HK.out)]; rfl))
        have JT := Lib.hid (fun v w h => s_JoinText v (wordsR l m r) [32] HWF0.out.1 HWF0.out.2 w h)
        go_wp2_with fail
        refine (JT.out _ _ (Rd.of_own HWF1.out.own)).mono ?_
        rintro e wz ⟨rfl, hww⟩
        subst hww
        go_wp2_with fail
        go_ret
        exact ⟨ret_str (by rw [HF2.out]), HWF1.out.from B2.out⟩
      · obtain ⟨hk, hp1, hp2, hp3, hp4, hs1, hs4⟩ := h
        have HK := Lib.hid hk
        have FI := Lib.hid (fun w => s_FormatInt r.size ⟨by omega, by omega⟩ w)
        clear hp1 hp2 hp3 hp4 hs1 hs4
        have e1 := (S0.out.box Y2.out).cell 1
        have e2 := (S0.out.box Y2.out).cell 2
        have x9 := (S0.out.box X2.out).cell 0
        go_wp2_with fail
        refine (FI.out _).mono ?_
        rintro e w8 ⟨rfl, hb⟩
        have S1 := Lib.hid (S0.out.step hb)
        clear hb
        clear e1 e2 x9
        obtain ⟨ws18, hws18⟩ : ∃ ws : List (List UInt8), ws = [r.name.data.toList, (kindName r.kind).data.toList] := ⟨_, rfl⟩
        have hl18 : ws18.length ≤ 100 := by rw [hws18]; simp
        have U18 := Lib.hid (OSt.to S1.out hws18.symm)
        have HWS18 := Lib.hid hws18
        clear hws18
        go_wp2_with (at_builtin; refine wpList_append_rd _ rfl (.tmp 65) (.tmp 69) 27 rfl w2.heap.size 9 i0 (.string ⟨#[]⟩) 1 16 Tryz.underlying27 hif hz0 hz1 hz2 rfl (by decide) _ _ _ rfl (U18.out.own.alloc _) _ 1 (cS [mkS (fmtInt r.size)]) rfl ?c18 (cS_one _) (by unfold maxLen; omega) (by omega) (by have := U18.out.be.size; simp; omega) ?_)
        case c18 => exact Rd.lit _ (cS [mkS (fmtInt r.size)]) 9 1 rfl (by unfold maxLen; omega)
        intro v18 w18 hown' hgrow' _
        have S2 := Lib.hid ((U18.out.push hown' hgrow').to (by rw [HWS18.out]))
        clear hown' hgrow' hl18
        clear hk
        have HWF1 := Lib.hid (OSt.to S2.out (show _ = wordsR l m r by unfold wordsR; rw [args_3 HK.out]; rfl))
        have JT := Lib.hid (fun v w h => s_JoinText v (wordsR l m r) [32] HWF0.out.1 HWF0.out.2 w h)
        go_wp2_with fail
        refine (JT.out _ _ (Rd.of_own HWF1.out.own)).mono ?_
        rintro e wz ⟨rfl, hww⟩
        subst hww
        go_wp2_with fail
        go_ret
        exact ⟨ret_str (by rw [HF2.out]), HWF1.out.from B2.out⟩
      · obtain ⟨hk, a1, a2, a3, a4, hl1, a5⟩ := h
        have HK := Lib.hid hk
        have HKL := Lib.hid hl1
        obtain ⟨p, hp⟩ : ∃ p, p = r.kids.length := ⟨_, rfl⟩
        have HP := Lib.hid hp
        have hp8 : p = 1 := by omega
        have hp9 : p ≤ 2 := by omega
        clear a1 a2 a3 a4 hl1 a5 hp8
        have e1 := (S0.out.box Y2.out).cell 1
        have x9 := (S0.out.box X2.out).cell 0
        clear hp
        go_wp2_with fail
        clear e1 x9
        go_loopw [6, 9] (fun o j wr => ∃ k : Nat, k ≤ p ∧ j = .int .i64 k ∧ OSt w2 o ([r.name.data.toList, (kindName r.kind).data.toList] ++ (List.range k).map fun j : Nat => kidB l m (j : Int)) wr) (fun _ j _ => p - (intOf j).toNat)
        case atStart => exact ⟨0, Nat.zero_le _, rfl, S0.out⟩
        case round =>
          obtain ⟨k, hkp, rfl, hst⟩ := hrel
          have T1 := Lib.hid hst
          clear hst
          have e7 := (T1.out.box Y2.out).cell 7
          have x9 := (T1.out.box X2.out).cell 0
          rw [← HP.out] at e7
          by_cases hlt : k < p
          · have KD := Lib.hid (fun w h => s_KidName (.agg #[.slice (some ⟨b, off, none⟩) l.length c]) l (m : Int) (k : Int) hi ⟨by omega, by omega⟩ w h)
            have hkpi : (k : Int) < (p : Int) := by omega
            have hk0 : (0 : Int) ≤ (k : Int) := by omega
            go_wp2_with fail
            refine (KD.out _ ⟨_, rfl, HV.out.below (T1.out.from B2.out)⟩).mono ?_
            rintro e w8 ⟨rfl, hb⟩
            have T2 := Lib.hid (T1.out.step hb)
            clear hb
            clear e7 x9
            obtain ⟨ws9, hws9⟩ : ∃ ws : List (List UInt8), ws = [r.name.data.toList, (kindName r.kind).data.toList] ++ (List.range k).map fun j : Nat => kidB l m (j : Int) := ⟨_, rfl⟩
            have hl9 : ws9.length ≤ 100 := by rw [hws9]; simp; omega
            have U9 := Lib.hid (OSt.to T2.out hws9.symm)
            have HWS9 := Lib.hid hws9
            clear hws9
            go_wp2_with (at_builtin; refine wpList_append_rd _ rfl (.tmp 34) (.tmp 39) 27 rfl w2.heap.size 9 i0 (.string ⟨#[]⟩) 1 16 Tryz.underlying27 hif hz0 hz1 hz2 rfl (by decide) _ _ _ rfl (U9.out.own.alloc _) _ 1 (cS [kidL l (m : Int) (k : Int)]) rfl ?c9 (cS_one _) (by unfold maxLen; omega) (by omega) (by have := U9.out.be.size; simp; omega) ?_)
            case c9 => exact Rd.lit _ (cS [kidL l (m : Int) (k : Int)]) 9 1 rfl (by unfold maxLen; omega)
            intro v9 w9 hown' hgrow' _
            have T3 := Lib.hid ((U9.out.push hown' hgrow').to (by rw [HWS9.out]))
            clear hown' hgrow' hl9
            go_wp2_with fail
            go_roundw
            case rel =>
              refine ⟨k + 1, by omega, by go_num, T3.out.to ?_⟩
              rw [List.range_succ, List.map_append, List.map_cons, List.map_nil, List.append_assoc]
              rfl
            case measure => simp [intOf]; omega
          · obtain rfl : k = p := by omega
            clear hk
            have HWF1 := Lib.hid (OSt.to T1.out (show _ = wordsR l m r by unfold wordsR; rw [args_k (.inl HK.out), ← HP.out]; rfl))
            have JT := Lib.hid (fun v w h => s_JoinText v (wordsR l m r) [32] HWF0.out.1 HWF0.out.2 w h)
            go_wp2_with fail
            refine (JT.out _ _ (Rd.of_own HWF1.out.own)).mono ?_
            rintro e wz ⟨rfl, hww⟩
            subst hww
            go_wp2_with fail
            go_ret
            exact ⟨ret_str (by rw [HF2.out]), HWF1.out.from B2.out⟩
      · obtain ⟨hk, a1, a2, a3, a4, hl1, a5⟩ := h
        have HK := Lib.hid hk
        have HKL := Lib.hid hl1
        obtain ⟨p, hp⟩ : ∃ p, p = r.kids.length := ⟨_, rfl⟩
        have HP := Lib.hid hp
        have hp8 : p = 2 := by omega
        have hp9 : p ≤ 2 := by omega
        clear a1 a2 a3 a4 hl1 a5 hp8
        have e1 := (S0.out.box Y2.out).cell 1
        have x9 := (S0.out.box X2.out).cell 0
        clear hp
        go_wp2_with fail
        clear e1 x9
        go_loopw [6, 9] (fun o j wr => ∃ k : Nat, k ≤ p ∧ j = .int .i64 k ∧ OSt w2 o ([r.name.data.toList, (kindName r.kind).data.toList] ++ (List.range k).map fun j : Nat => kidB l m (j : Int)) wr) (fun _ j _ => p - (intOf j).toNat)
        case atStart => exact ⟨0, Nat.zero_le _, rfl, S0.out⟩
        case round =>
          obtain ⟨k, hkp, rfl, hst⟩ := hrel
          have T1 := Lib.hid hst
          clear hst
          have e7 := (T1.out.box Y2.out).cell 7
          have x9 := (T1.out.box X2.out).cell 0
          rw [← HP.out] at e7
          by_cases hlt : k < p
          · have KD := Lib.hid (fun w h => s_KidName (.agg #[.slice (some ⟨b, off, none⟩) l.length c]) l (m : Int) (k : Int) hi ⟨by omega, by omega⟩ w h)
            have hkpi : (k : Int) < (p : Int) := by omega
            have hk0 : (0 : Int) ≤ (k : Int) := by omega
            go_wp2_with fail
            refine (KD.out _ ⟨_, rfl, HV.out.below (T1.out.from B2.out)⟩).mono ?_
            rintro e w8 ⟨rfl, hb⟩
            have T2 := Lib.hid (T1.out.step hb)
            clear hb
            clear e7 x9
            obtain ⟨ws9, hws9⟩ : ∃ ws : List (List UInt8), ws = [r.name.data.toList, (kindName r.kind).data.toList] ++ (List.range k).map fun j : Nat => kidB l m (j : Int) := ⟨_, rfl⟩
            have hl9 : ws9.length ≤ 100 := by rw [hws9]; simp; omega
            have U9 := Lib.hid (OSt.to T2.out hws9.symm)
            have HWS9 := Lib.hid hws9
            clear hws9
            go_wp2_with (at_builtin; refine wpList_append_rd _ rfl (.tmp 34) (.tmp 39) 27 rfl w2.heap.size 9 i0 (.string ⟨#[]⟩) 1 16 Tryz.underlying27 hif hz0 hz1 hz2 rfl (by decide) _ _ _ rfl (U9.out.own.alloc _) _ 1 (cS [kidL l (m : Int) (k : Int)]) rfl ?c9 (cS_one _) (by unfold maxLen; omega) (by omega) (by have := U9.out.be.size; simp; omega) ?_)
            case c9 => exact Rd.lit _ (cS [kidL l (m : Int) (k : Int)]) 9 1 rfl (by unfold maxLen; omega)
            intro v9 w9 hown' hgrow' _
            have T3 := Lib.hid ((U9.out.push hown' hgrow').to (by rw [HWS9.out]))
            clear hown' hgrow' hl9
            go_wp2_with fail
            go_roundw
            case rel =>
              refine ⟨k + 1, by omega, by go_num, T3.out.to ?_⟩
              rw [List.range_succ, List.map_append, List.map_cons, List.map_nil, List.append_assoc]
              rfl
            case measure => simp [intOf]; omega
          · obtain rfl : k = p := by omega
            clear hk
            have HWF1 := Lib.hid (OSt.to T1.out (show _ = wordsR l m r by unfold wordsR; rw [args_k (.inr (.inl HK.out)), ← HP.out]; rfl))
            have JT := Lib.hid (fun v w h => s_JoinText v (wordsR l m r) [32] HWF0.out.1 HWF0.out.2 w h)
            go_wp2_with fail
            refine (JT.out _ _ (Rd.of_own HWF1.out.own)).mono ?_
            rintro e wz ⟨rfl, hww⟩
            subst hww
            go_wp2_with fail
            go_ret
            exact ⟨ret_str (by rw [HF2.out]), HWF1.out.from B2.out⟩
      · obtain ⟨hk, a1, a2, a3, hkn, a4, a5, hng⟩ := h
        have HK := Lib.hid hk
        have HKN := Lib.hid hkn
        obtain ⟨p, hp⟩ : ∃ p, p = r.names.length := ⟨_, rfl⟩
        have HP := Lib.hid hp
        have HPK := Lib.hid (hp.trans hkn.symm)
        have hp8 : p ≤ 8 := by omega
        have HRN := Lib.hid ((rdRule_parts HRD.out).2.1)
        have HNG := Lib.hid hng
        clear a1 a2 a3 a4 a5 hng hkn
        have e1 := (S0.out.box Y2.out).cell 1
        have x9 := (S0.out.box X2.out).cell 0
        clear hp
        go_wp2_with fail
        clear e1 x9
        go_loopw [6, 7] (fun o j wr => ∃ k : Nat, k ≤ p ∧ j = .int .i64 k ∧ OSt w2 o ([r.name.data.toList, (kindName r.kind).data.toList] ++ (List.range k).map (seqW l m r)) wr) (fun _ j _ => p - (intOf j).toNat)
        case atStart => exact ⟨0, Nat.zero_le _, rfl, S0.out⟩
        case round =>
          obtain ⟨k, hkp, rfl, hst⟩ := hrel
          have T1 := Lib.hid hst
          clear hst
          have e7 := (T1.out.box Y2.out).cell 7
          rw [← HPK.out] at e7
          by_cases hlt : k < p
          · have hkr : k < r.names.length := by rw [← HP.out]; exact hlt
            obtain ⟨bn, on, rfl, hnc⟩ := names_at HRN.out (by omega)
            have ny := hnc k hkr
            obtain ⟨nm, hnm⟩ : ∃ nm, nm = r.names[k] := ⟨_, rfl⟩
            rw [← hnm] at ny
            have HNY := Lib.hid ny
            have HNM := Lib.hid hnm
            have hs1 : nm.size ≤ 12 := by have := (isName_len (namesGood_at HNG.out hkr).1).2; rw [len_of, ← HNM.out] at this; exact this
            have hs2 := kidL_len HNF.out (m : Int) (k : Int)
            have ke := fun w h => s_KidName (.agg #[.slice (some ⟨b, off, none⟩) l.length c]) l (m : Int) (k : Int) hi ⟨by omega, by omega⟩ w h
            obtain ⟨kn, hkn⟩ : ∃ kn, kn = kidL l (m : Int) (k : Int) := ⟨_, rfl⟩
            rw [← hkn] at ke hs2
            have KE := Lib.hid ke
            have HKN2 := Lib.hid hkn
            have hq1 : ¬ (9223372036854775807 < nm.size + 1) := by omega
            have hq2 : ¬ (9223372036854775807 < nm.size + 1 + kn.size) := by omega
            have hkpi : (k : Int) < (p : Int) := by omega
            have hk0 : (0 : Int) ≤ (k : Int) := by omega
            obtain ⟨ws, hws⟩ : ∃ ws : List (List UInt8), ws = [r.name.data.toList, (kindName r.kind).data.toList] ++ (List.range k).map (seqW l m r) := ⟨_, rfl⟩
            have hl9 : ws.length ≤ 100 := by rw [hws]; simp; omega
            have T1 := Lib.hid (OSt.to T1.out hws.symm)
            have HWS := Lib.hid hws
            clear hws
            have ny1 := (T1.out.from B2.out)
            have ny2 := cell_after ny ny1
            have e5 := (T1.out.box Y2.out).cell 5
            have x9 := (T1.out.box X2.out).cell 0
            rw [← HP.out] at e5
            clear ke hnc hnm hkn ny ny1
            go_wp2_with fail
            clear e7
            go_region_held3 (fun w' => w'.cell? ⟨w1.heap.size, 5, none⟩ = some (.slice (some ⟨bn, on, none⟩) p cn) ∧ w'.cell? ⟨bn, on + k, none⟩ = some (.string nm) ∧ w'.cell? ⟨w.heap.size, 0, none⟩ = some (.slice (some ⟨b, off, none⟩) l.length c))
              (first | go_keep | (exact ⟨by have h := (T9.out.box Y2.out).cell 5; rw [← HP.out] at h; exact h, cell_after HNY.out (T9.out.from B2.out), (T9.out.box X2.out).cell 0⟩) | (exact ⟨by have h := (T8.out.box Y2.out).cell 5; rw [← HP.out] at h; exact h, cell_after HNY.out (T8.out.from B2.out), (T8.out.box X2.out).cell 0⟩) | (exact ⟨by have h := ((T8.out.box Y2.out).alloc (.cells #[.string (nm ++ ⟨#[58]⟩ ++ kn)] 9)).cell 5; rw [← HP.out] at h; exact h, cell_after HNY.out ((T8.out.from B2.out).alloc (T8.out.from B2.out).size _), ((T8.out.box X2.out).alloc _).cell 0⟩))
              (first
                | (go_at_call 78; refine (KE.out _ ⟨_, rfl, HV.out.below (T1.out.drew.from B2.out)⟩).mono ?_; rintro e w8 ⟨rfl, hb8⟩; have T8 := Lib.hid (T1.out.drew.step hb8); clear hb8)
                | (refine step_append_rd _ (by rfl) (.tmp 80) (.tmp 92) 27 (by rfl) w2.heap.size 9 i0 (.string ⟨#[]⟩) 1 16 Tryz.underlying27 hif hz0 hz1 hz2 (by rfl) (by decide) u6 _ _ (by rfl) (T8.out.own.alloc _) _ 1 (cS [nm ++ ⟨#[58]⟩ ++ kn]) (by rfl) (Rd.lit _ (cS [nm ++ ⟨#[58]⟩ ++ kn]) 9 1 rfl (by unfold maxLen; omega)) (cS_one _) (by unfold maxLen; omega) (by omega) (by have := T8.out.be.size; simp; omega) ?_; intro v9 w9 hown' hgrow' _; have T9 := Lib.hid (T8.out.push hown' hgrow'); clear hown' hgrow')
                | fail)
            clear e5 x9 ny2
            go_wp2_with fail
            go_roundw
            case rel =>
              refine ⟨k + 1, by omega, by go_num, T9.out.to ?_⟩
              rw [HWS.out, List.range_succ, List.map_append, List.map_cons, List.map_nil, List.append_assoc]
              congr 2
              unfold seqW kidB
              rw [getD_at hkr, ← HNM.out, ← HKN2.out]
              simp [ByteArray.data_append]
            case measure => simp [intOf]; omega
          · obtain rfl : k = p := by omega
            clear hk
            have HWF1 := Lib.hid (OSt.to T1.out (show _ = wordsR l m r by unfold wordsR; rw [args_6 HK.out, HKN.out, ← HP.out]; rfl))
            have JT := Lib.hid (fun v w h => s_JoinText v (wordsR l m r) [32] HWF0.out.1 HWF0.out.2 w h)
            go_wp2_with fail
            refine (JT.out _ _ (Rd.of_own HWF1.out.own)).mono ?_
            rintro e wz ⟨rfl, hww⟩
            subst hww
            go_wp2_with fail
            go_ret
            exact ⟨ret_str (by rw [HF2.out]), HWF1.out.from B2.out⟩
      · obtain ⟨hk, a1, a2, a3, hkn, a4, a5, htg, a6⟩ := h
        have HK := Lib.hid hk
        have HTG := Lib.hid htg
        obtain ⟨p, hp⟩ : ∃ p, p = r.tags.length := ⟨_, rfl⟩
        have HP := Lib.hid hp
        have hp8 : p ≤ 8 := by omega
        have HRN := Lib.hid ((rdRule_parts HRD.out).2.2.1)
        have KD := Lib.hid (fun w h => s_KidName (.agg #[.slice (some ⟨b, off, none⟩) l.length c]) l (m : Int) 0 hi ⟨by omega, by omega⟩ w h)
        clear a1 a2 a3 a4 a5 a6 htg hkn hp
        have e1 := (S0.out.box Y2.out).cell 1
        have x9 := (S0.out.box X2.out).cell 0
        go_wp2_with fail
        refine (KD.out _ ⟨_, rfl, HV.out.below (S0.out.from B2.out)⟩).mono ?_
        rintro e w8 ⟨rfl, hb⟩
        have S1 := Lib.hid (S0.out.step hb)
        clear hb
        clear e1 x9
        obtain ⟨ws25, hws25⟩ : ∃ ws : List (List UInt8), ws = [r.name.data.toList, (kindName r.kind).data.toList] := ⟨_, rfl⟩
        have hl25 : ws25.length ≤ 100 := by rw [hws25]; simp
        have U25 := Lib.hid (OSt.to S1.out hws25.symm)
        have HWS25 := Lib.hid hws25
        clear hws25
        go_wp2_with (at_builtin; refine wpList_append_rd _ rfl (.tmp 96) (.tmp 100) 27 rfl w2.heap.size 9 i0 (.string ⟨#[]⟩) 1 16 Tryz.underlying27 hif hz0 hz1 hz2 rfl (by decide) _ _ _ rfl (U25.out.own.alloc _) _ 1 (cS [kidL l (m : Int) 0]) rfl ?c25 (cS_one _) (by unfold maxLen; omega) (by omega) (by have := U25.out.be.size; simp; omega) ?_)
        case c25 => exact Rd.lit _ (cS [kidL l (m : Int) 0]) 9 1 rfl (by unfold maxLen; omega)
        intro v25 w25 hown' hgrow' _
        have S2 := Lib.hid ((U25.out.push hown' hgrow').to (by rw [HWS25.out]))
        clear hown' hgrow' hl25
        go_wp2_with fail
        go_loopw [6, 8] (fun o j wr => ∃ k : Nat, k ≤ p ∧ j = .int .i64 k ∧ OSt w2 o ([r.name.data.toList, (kindName r.kind).data.toList, kidB l m 0] ++ (List.range k).map (choW l m r)) wr) (fun _ j _ => p - (intOf j).toNat)
        case atStart => exact ⟨0, Nat.zero_le _, rfl, S2.out⟩
        case round =>
          obtain ⟨k, hkp, rfl, hst⟩ := hrel
          have T1 := Lib.hid hst
          clear hst
          have e6 := (T1.out.box Y2.out).cell 6
          rw [← HP.out] at e6
          by_cases hlt : k < p
          · have hkr : k < r.tags.length := by rw [← HP.out]; exact hlt
            obtain ⟨bn, on, rfl, hnc⟩ := kids_at HRN.out (by omega)
            have ny := hnc k hkr
            obtain ⟨nm, hnm⟩ : ∃ nm, nm = r.tags[k] := ⟨_, rfl⟩
            rw [← hnm] at ny
            have HNY := Lib.hid ny
            have HNM := Lib.hid hnm
            have hnb := tagsGood_at HTG.out hkr
            rw [← hnm] at hnb
            have hlm := limitL_range l (r.kids.getD 0 0)
            have ke := fun w h => s_KidName (.agg #[.slice (some ⟨b, off, none⟩) l.length c]) l (m : Int) ((k : Int) + 1) hi ⟨by omega, by omega⟩ w h
            have fi := fun w => s_FormatInt nm ⟨by omega, by omega⟩ w
            have hs1 : (mkS (fmtInt nm)).size ≤ 20 := fmtInt_len ⟨by omega, by omega⟩
            have hs2 := kidL_len HNF.out (m : Int) ((k : Int) + 1)
            obtain ⟨fs, hfs⟩ : ∃ fs, fs = mkS (fmtInt nm) := ⟨_, rfl⟩
            obtain ⟨kn, hkn⟩ : ∃ kn, kn = kidL l (m : Int) ((k : Int) + 1) := ⟨_, rfl⟩
            rw [← hfs] at fi hs1
            rw [← hkn] at ke hs2
            have KE := Lib.hid ke
            have FI := Lib.hid fi
            have HFS := Lib.hid hfs
            have HKN := Lib.hid hkn
            have hq1 : ¬ (9223372036854775807 < fs.size + 1) := by omega
            have hq2 : ¬ (9223372036854775807 < fs.size + 1 + kn.size) := by omega
            have hkpi : (k : Int) < (p : Int) := by omega
            have hk0 : (0 : Int) ≤ (k : Int) := by omega
            have hk1 : IntKind.i64.wrap ((k : Int) + 1) = (k : Int) + 1 := IntWalk.i64_in _ (by omega)
            obtain ⟨ws, hws⟩ : ∃ ws : List (List UInt8), ws = [r.name.data.toList, (kindName r.kind).data.toList, kidB l m 0] ++ (List.range k).map (choW l m r) := ⟨_, rfl⟩
            have hl9 : ws.length ≤ 100 := by rw [hws]; simp; omega
            have T1 := Lib.hid (OSt.to T1.out hws.symm)
            have HWS := Lib.hid hws
            clear hws
            have ny1 := (T1.out.from B2.out)
            have ny2 := cell_after ny ny1
            have x9 := (T1.out.box X2.out).cell 0
            clear ke fi hfs hkn hnc hnm hnb hlm ny ny1
            go_wp2_with fail
            go_region_held3 (fun w' => w'.cell? ⟨w1.heap.size, 6, none⟩ = some (.slice (some ⟨bn, on, none⟩) p ct) ∧ w'.cell? ⟨bn, on + k, none⟩ = some (.int .i64 nm) ∧ w'.cell? ⟨w.heap.size, 0, none⟩ = some (.slice (some ⟨b, off, none⟩) l.length c))
              (first | go_keep | (exact ⟨by have h := (T9.out.box Y2.out).cell 6; rw [← HP.out] at h; exact h, cell_after HNY.out (T9.out.from B2.out), (T9.out.box X2.out).cell 0⟩) | (exact ⟨by have h := (T8.out.box Y2.out).cell 6; rw [← HP.out] at h; exact h, cell_after HNY.out (T8.out.from B2.out), (T8.out.box X2.out).cell 0⟩) | (exact ⟨by have h := (T7.out.box Y2.out).cell 6; rw [← HP.out] at h; exact h, cell_after HNY.out (T7.out.from B2.out), (T7.out.box X2.out).cell 0⟩) | (exact ⟨by have h := ((T8.out.box Y2.out).alloc (.cells #[.string (fs ++ ⟨#[58]⟩ ++ kn)] 9)).cell 6; rw [← HP.out] at h; exact h, cell_after HNY.out ((T8.out.from B2.out).alloc (T8.out.from B2.out).size _), ((T8.out.box X2.out).alloc _).cell 0⟩) | (exact ⟨by have h := ((T7.out.box Y2.out).alloc (.cells #[.string (fs ++ ⟨#[58]⟩ ++ kn)] 9)).cell 6; rw [← HP.out] at h; exact h, cell_after HNY.out ((T7.out.from B2.out).alloc (T7.out.from B2.out).size _), ((T7.out.box X2.out).alloc _).cell 0⟩))
              (first
                | (go_at_call 76; refine (FI.out _).mono ?_; rintro e w7 ⟨rfl, hb7⟩; have T7 := Lib.hid (show OSt w2 u6 ws w7 from (by first | exact T8.out.step hb7 | exact T1.out.drew.step hb7)); clear hb7)
                | (go_at_call 78; refine (KE.out _ (by first | exact ⟨_, rfl, HV.out.below (T7.out.from B2.out)⟩ | exact ⟨_, rfl, HV.out.below (T1.out.drew.from B2.out)⟩)).mono ?_; rintro e w8 ⟨rfl, hb8⟩; have T8 := Lib.hid (show OSt w2 u6 ws w8 from (by first | exact T7.out.step hb8 | exact T1.out.drew.step hb8)); clear hb8)
                | (refine step_append_rd _ (by rfl) (.tmp 109) (.tmp 123) 27 (by rfl) w2.heap.size 9 i0 (.string ⟨#[]⟩) 1 16 Tryz.underlying27 hif hz0 hz1 hz2 (by rfl) (by decide) u6 ws.length (cS (tS ws)) (by rfl) (by first | exact T8.out.own.alloc _ | exact T7.out.own.alloc _) _ 1 (cS [fs ++ ⟨#[58]⟩ ++ kn]) (by rfl) (Rd.lit _ (cS [fs ++ ⟨#[58]⟩ ++ kn]) 9 1 rfl (by unfold maxLen; omega)) (cS_one _) (by unfold maxLen; omega) (by omega) (by first | (have := T8.out.be.size; simp; omega) | (have := T7.out.be.size; simp; omega)) ?_; intro v9 w9 hown' hgrow' _; have T9 := Lib.hid (show OSt w2 v9 (ws ++ [(fs ++ ⟨#[58]⟩ ++ kn).data.toList]) w9 from (by first | exact T8.out.push hown' hgrow' | exact T7.out.push hown' hgrow')); clear hown' hgrow')
                | fail)
            all_goals
              clear e6 x9 ny2
              go_wp2_with fail
              go_roundw
              case rel =>
                refine ⟨k + 1, by omega, by go_num, T9.out.to ?_⟩
                rw [HWS.out, List.range_succ, List.map_append, List.map_cons, List.map_nil, List.append_assoc]
                congr 2
                unfold choW kidB
                rw [getD_at hkr, ← HNM.out, HFS.out, ← HKN.out]
                simp [ByteArray.data_append, mkS]
              case measure => simp [intOf]; omega
          · obtain rfl : k = p := by omega
            clear hk
            have HWF1 := Lib.hid (OSt.to T1.out (show _ = wordsR l m r by unfold wordsR; rw [args_7 HK.out, ← HP.out]; rfl))
            have JT := Lib.hid (fun v w h => s_JoinText v (wordsR l m r) [32] HWF0.out.1 HWF0.out.2 w h)
            go_wp2_with fail
            refine (JT.out _ _ (Rd.of_own HWF1.out.own)).mono ?_
            rintro e wz ⟨rfl, hww⟩
            subst hww
            go_wp2_with fail
            go_ret
            exact ⟨ret_str (by rw [HF2.out]), HWF1.out.from B2.out⟩
      · obtain ⟨hk, a1, a2, a3, a4, hl1⟩ := h
        have HK := Lib.hid hk
        have HKL := Lib.hid hl1
        obtain ⟨p, hp⟩ : ∃ p, p = r.kids.length := ⟨_, rfl⟩
        have HP := Lib.hid hp
        have hp8 : p = 1 := by omega
        have hp9 : p ≤ 2 := by omega
        clear a1 a2 a3 a4 hl1 hp8
        have e1 := (S0.out.box Y2.out).cell 1
        have x9 := (S0.out.box X2.out).cell 0
        clear hp
        go_wp2_with fail
        clear e1 x9
        go_loopw [6, 9] (fun o j wr => ∃ k : Nat, k ≤ p ∧ j = .int .i64 k ∧ OSt w2 o ([r.name.data.toList, (kindName r.kind).data.toList] ++ (List.range k).map fun j : Nat => kidB l m (j : Int)) wr) (fun _ j _ => p - (intOf j).toNat)
        case atStart => exact ⟨0, Nat.zero_le _, rfl, S0.out⟩
        case round =>
          obtain ⟨k, hkp, rfl, hst⟩ := hrel
          have T1 := Lib.hid hst
          clear hst
          have e7 := (T1.out.box Y2.out).cell 7
          have x9 := (T1.out.box X2.out).cell 0
          rw [← HP.out] at e7
          by_cases hlt : k < p
          · have KD := Lib.hid (fun w h => s_KidName (.agg #[.slice (some ⟨b, off, none⟩) l.length c]) l (m : Int) (k : Int) hi ⟨by omega, by omega⟩ w h)
            have hkpi : (k : Int) < (p : Int) := by omega
            have hk0 : (0 : Int) ≤ (k : Int) := by omega
            go_wp2_with fail
            refine (KD.out _ ⟨_, rfl, HV.out.below (T1.out.from B2.out)⟩).mono ?_
            rintro e w8 ⟨rfl, hb⟩
            have T2 := Lib.hid (T1.out.step hb)
            clear hb
            clear e7 x9
            obtain ⟨ws9, hws9⟩ : ∃ ws : List (List UInt8), ws = [r.name.data.toList, (kindName r.kind).data.toList] ++ (List.range k).map fun j : Nat => kidB l m (j : Int) := ⟨_, rfl⟩
            have hl9 : ws9.length ≤ 100 := by rw [hws9]; simp; omega
            have U9 := Lib.hid (OSt.to T2.out hws9.symm)
            have HWS9 := Lib.hid hws9
            clear hws9
            go_wp2_with (at_builtin; refine wpList_append_rd _ rfl (.tmp 34) (.tmp 39) 27 rfl w2.heap.size 9 i0 (.string ⟨#[]⟩) 1 16 Tryz.underlying27 hif hz0 hz1 hz2 rfl (by decide) _ _ _ rfl (U9.out.own.alloc _) _ 1 (cS [kidL l (m : Int) (k : Int)]) rfl ?c9 (cS_one _) (by unfold maxLen; omega) (by omega) (by have := U9.out.be.size; simp; omega) ?_)
            case c9 => exact Rd.lit _ (cS [kidL l (m : Int) (k : Int)]) 9 1 rfl (by unfold maxLen; omega)
            intro v9 w9 hown' hgrow' _
            have T3 := Lib.hid ((U9.out.push hown' hgrow').to (by rw [HWS9.out]))
            clear hown' hgrow' hl9
            go_wp2_with fail
            go_roundw
            case rel =>
              refine ⟨k + 1, by omega, by go_num, T3.out.to ?_⟩
              rw [List.range_succ, List.map_append, List.map_cons, List.map_nil, List.append_assoc]
              rfl
            case measure => simp [intOf]; omega
          · obtain rfl : k = p := by omega
            clear hk
            have HWF1 := Lib.hid (OSt.to T1.out (show _ = wordsR l m r by unfold wordsR; rw [args_k (.inr (.inr (.inl HK.out))), ← HP.out]; rfl))
            have JT := Lib.hid (fun v w h => s_JoinText v (wordsR l m r) [32] HWF0.out.1 HWF0.out.2 w h)
            go_wp2_with fail
            refine (JT.out _ _ (Rd.of_own HWF1.out.own)).mono ?_
            rintro e wz ⟨rfl, hww⟩
            subst hww
            go_wp2_with fail
            go_ret
            exact ⟨ret_str (by rw [HF2.out]), HWF1.out.from B2.out⟩
      · obtain ⟨hk, a1, a2, a3, a4, hl1⟩ := h
        have HK := Lib.hid hk
        have HKL := Lib.hid hl1
        obtain ⟨p, hp⟩ : ∃ p, p = r.kids.length := ⟨_, rfl⟩
        have HP := Lib.hid hp
        have hp8 : p = 1 := by omega
        have hp9 : p ≤ 2 := by omega
        clear a1 a2 a3 a4 hl1 hp8
        have e1 := (S0.out.box Y2.out).cell 1
        have x9 := (S0.out.box X2.out).cell 0
        clear hp
        go_wp2_with fail
        clear e1 x9
        go_loopw [6, 9] (fun o j wr => ∃ k : Nat, k ≤ p ∧ j = .int .i64 k ∧ OSt w2 o ([r.name.data.toList, (kindName r.kind).data.toList] ++ (List.range k).map fun j : Nat => kidB l m (j : Int)) wr) (fun _ j _ => p - (intOf j).toNat)
        case atStart => exact ⟨0, Nat.zero_le _, rfl, S0.out⟩
        case round =>
          obtain ⟨k, hkp, rfl, hst⟩ := hrel
          have T1 := Lib.hid hst
          clear hst
          have e7 := (T1.out.box Y2.out).cell 7
          have x9 := (T1.out.box X2.out).cell 0
          rw [← HP.out] at e7
          by_cases hlt : k < p
          · have KD := Lib.hid (fun w h => s_KidName (.agg #[.slice (some ⟨b, off, none⟩) l.length c]) l (m : Int) (k : Int) hi ⟨by omega, by omega⟩ w h)
            have hkpi : (k : Int) < (p : Int) := by omega
            have hk0 : (0 : Int) ≤ (k : Int) := by omega
            go_wp2_with fail
            refine (KD.out _ ⟨_, rfl, HV.out.below (T1.out.from B2.out)⟩).mono ?_
            rintro e w8 ⟨rfl, hb⟩
            have T2 := Lib.hid (T1.out.step hb)
            clear hb
            clear e7 x9
            obtain ⟨ws9, hws9⟩ : ∃ ws : List (List UInt8), ws = [r.name.data.toList, (kindName r.kind).data.toList] ++ (List.range k).map fun j : Nat => kidB l m (j : Int) := ⟨_, rfl⟩
            have hl9 : ws9.length ≤ 100 := by rw [hws9]; simp; omega
            have U9 := Lib.hid (OSt.to T2.out hws9.symm)
            have HWS9 := Lib.hid hws9
            clear hws9
            go_wp2_with (at_builtin; refine wpList_append_rd _ rfl (.tmp 34) (.tmp 39) 27 rfl w2.heap.size 9 i0 (.string ⟨#[]⟩) 1 16 Tryz.underlying27 hif hz0 hz1 hz2 rfl (by decide) _ _ _ rfl (U9.out.own.alloc _) _ 1 (cS [kidL l (m : Int) (k : Int)]) rfl ?c9 (cS_one _) (by unfold maxLen; omega) (by omega) (by have := U9.out.be.size; simp; omega) ?_)
            case c9 => exact Rd.lit _ (cS [kidL l (m : Int) (k : Int)]) 9 1 rfl (by unfold maxLen; omega)
            intro v9 w9 hown' hgrow' _
            have T3 := Lib.hid ((U9.out.push hown' hgrow').to (by rw [HWS9.out]))
            clear hown' hgrow' hl9
            go_wp2_with fail
            go_roundw
            case rel =>
              refine ⟨k + 1, by omega, by go_num, T3.out.to ?_⟩
              rw [List.range_succ, List.map_append, List.map_cons, List.map_nil, List.append_assoc]
              rfl
            case measure => simp [intOf]; omega
          · obtain rfl : k = p := by omega
            clear hk
            have HWF1 := Lib.hid (OSt.to T1.out (show _ = wordsR l m r by unfold wordsR; rw [args_k (.inr (.inr (.inr HK.out))), ← HP.out]; rfl))
            have JT := Lib.hid (fun v w h => s_JoinText v (wordsR l m r) [32] HWF0.out.1 HWF0.out.2 w h)
            go_wp2_with fail
            refine (JT.out _ _ (Rd.of_own HWF1.out.own)).mono ?_
            rintro e wz ⟨rfl, hww⟩
            subst hww
            go_wp2_with fail
            go_ret
            exact ⟨ret_str (by rw [HF2.out]), HWF1.out.from B2.out⟩
      · obtain ⟨hk, a1, a2, a3, a4, a5, a6⟩ := h
        have HK := Lib.hid hk
        have FH := Lib.hid (fun w h => s_FormatHex (.slice Ab r.bytes.length cb) r.bytes HRS.out.1 w h)
        clear a1 a2 a3 a4 a5 a6
        have e1 := (S0.out.box Y2.out).cell 1
        have e4 := (S0.out.box Y2.out).cell 4
        have x9 := (S0.out.box X2.out).cell 0
        go_wp2_with fail
        refine (FH.out _ ((rdRule_parts HRD.out).1.below (S0.out.from B2.out))).mono ?_
        rintro e w8 ⟨rfl, hb⟩
        have S1 := Lib.hid (S0.out.step hb)
        clear hb
        clear e1 e4 x9
        obtain ⟨ws16, hws16⟩ : ∃ ws : List (List UInt8), ws = [r.name.data.toList, (kindName r.kind).data.toList] := ⟨_, rfl⟩
        have hl16 : ws16.length ≤ 100 := by rw [hws16]; simp
        have U16 := Lib.hid (OSt.to S1.out hws16.symm)
        have HWS16 := Lib.hid hws16
        clear hws16
        go_wp2_with (at_builtin; refine wpList_append_rd _ rfl (.tmp 57) (.tmp 61) 27 rfl w2.heap.size 9 i0 (.string ⟨#[]⟩) 1 16 Tryz.underlying27 hif hz0 hz1 hz2 rfl (by decide) _ _ _ rfl (U16.out.own.alloc _) _ 1 (cS [mkS (hexL r.bytes)]) rfl ?c16 (cS_one _) (by unfold maxLen; omega) (by omega) (by have := U16.out.be.size; simp; omega) ?_)
        case c16 => exact Rd.lit _ (cS [mkS (hexL r.bytes)]) 9 1 rfl (by unfold maxLen; omega)
        intro v16 w16 hown' hgrow' _
        have S2 := Lib.hid ((U16.out.push hown' hgrow').to (by rw [HWS16.out]))
        clear hown' hgrow' hl16
        clear hk
        have HWF1 := Lib.hid (OSt.to S2.out (show _ = wordsR l m r by unfold wordsR; rw [args_2 (.inr HK.out)]; rfl))
        have JT := Lib.hid (fun v w h => s_JoinText v (wordsR l m r) [32] HWF0.out.1 HWF0.out.2 w h)
        go_wp2_with fail
        refine (JT.out _ _ (Rd.of_own HWF1.out.own)).mono ?_
        rintro e wz ⟨rfl, hww⟩
        subst hww
        go_wp2_with fail
        go_ret
        exact ⟨ret_str (by rw [HF2.out]), HWF1.out.from B2.out⟩

end Go.Proofs.YtkjjgpkegihmhaaGreatDoor
