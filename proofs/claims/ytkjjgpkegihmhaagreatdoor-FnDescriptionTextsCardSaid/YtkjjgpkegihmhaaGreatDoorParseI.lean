/-
  ParseRule of the program.
-/
import Derived.Test.YtkjjgpkegihmhaaGreatDoorGJ
import Derived.Test.YtkjjgpkegihmhaaGreatDoorGE
import Derived.Test.YtkjjgpkegihmhaaGreatDoorGF
import Derived.Test.YtkjjgpkegihmhaaGreatDoorGH
import Derived.Test.YtkjjgpkegihmhaaGreatDoorGD
import Derived.Test.YtkjjgpkegihmhaaGreatDoorFmtI
import Derived.Deep.RegionWith
import Derived.Deep.RegionLaw
import Derived.Deep.RegionHeld3
import Derived.Deep.DeepCutAuto
import Derived.BigGuard
import Derived.BigRegion
namespace Go.Proofs.YtkjjgpkegihmhaaGreatDoor
open Go.RowKit
set_option linter.unusedVariables false

set_option maxRecDepth 100000 in
set_option maxHeartbeats 20000000 in
theorem i_ParseRule (d : Value) (l : List RuleD) (s : ByteArray) (hs : s.size ≤ 1048576) (hln : l.length ≤ 1048576) (hfit : ∀ r ∈ l, RuleFits r) (hsm : ∀ r ∈ l, RuleSmall r) (hnf : NamesFit l) (w : World) (ht : Tab w) (hd : RdDesc w d l) :
    Calls Tryz.prog 11 #[d, .string s] w (MadeR (parseI l s.data.toList) w) := by
  obtain ⟨v, rfl, hdv⟩ := hd
  obtain ⟨A, c, rfl, hnc, hcm, hcell⟩ := hdv.all
  unfold maxLen at hcm
  have HV := Lib.hid hdv
  have HT := Lib.hid ht
  have HFIT := Lib.hid hfit
  have HSM := Lib.hid hsm
  have HNF := Lib.hid hnf
  have HS := Lib.hid hs
  obtain ⟨O, hO⟩ : ∃ O, O = parseI l s.data.toList := ⟨_, rfl⟩
  rw [← hO]
  have HO := Lib.hid hO
  obtain ⟨w1, hw1⟩ : ∃ w1, w1 = (w.alloc (.cells #[.slice A l.length c] 35)).alloc (.cells #[.string ⟨#[]⟩, .int .i64 0, .int .i64 0, .bool false, .slice none 0 0, .slice none 0 0, .slice none 0 0, .slice none 0 0] 30) := ⟨_, rfl⟩
  have X1 := Lib.hid (show Box w1 w.heap.size 35 #[.slice A l.length c] by rw [hw1]; exact (Box.new w _ _).alloc _)
  have R1 := Lib.hid (show Box w1 (w.heap.size + 1) 30 #[.string ⟨#[]⟩, .int .i64 0, .int .i64 0, .bool false, .slice none 0 0, .slice none 0 0, .slice none 0 0, .slice none 0 0] by
    rw [hw1]
    have h := Box.new (w.alloc (.cells #[.slice A l.length c] 35)) 30 #[.string ⟨#[]⟩, .int .i64 0, .int .i64 0, .bool false, .slice none 0 0, .slice none 0 0, .slice none 0 0, .slice none 0 0]
    rw [show (w.alloc (.cells #[.slice A l.length c] 35)).heap.size = w.heap.size + 1 by simp] at h
    exact h)
  have B1 := Lib.hid (show Below w.heap.size w w1 by rw [hw1]; exact ((Below.refl _ _).alloc (Nat.le_refl _) _).alloc (by simp) _)
  have W1 := Lib.hid hw1
  have wo := fun w => i_Words s (by omega) w
  obtain ⟨ws, hws⟩ : ∃ ws, ws = wordsL s.data.toList := ⟨_, rfl⟩
  have HWSZ := Lib.hid (fun p hp => (wordsL_mem (l := s.data.toList) (p := p) hp))
  have HWF := Lib.hid (words_fit hs)
  have HSZ2 := Lib.hid (words_sizes hs)
  have HF0 := Lib.hid (rule0_fit hs)
  have hwl := wordsL_len s.data.toList
  rw [len_of] at hwl
  rw [← hws] at wo HWSZ HWF HSZ2 HF0 hwl
  obtain ⟨n, hn⟩ : ∃ n, n = (tS ws).length := ⟨_, rfl⟩
  rw [← hn] at wo
  have hnw : n = ws.length := by rw [hn, tS_len]
  have hnb : n ≤ 1048577 := by omega
  have WO := Lib.hid wo
  have HWS := Lib.hid hws
  have HN := Lib.hid hn
  have HNW := Lib.hid hnw
  obtain ⟨ln, hln'⟩ : ∃ ln, ln = l.length := ⟨_, rfl⟩
  have HLN := Lib.hid hln'
  clear hcell hdv hO hw1 wo hws hn hnw hwl hfit hsm hnf hs ht hln'
  go_enter Tryz.func11, Tryz.ntmps11
  go_wp2_with fail
  rw [← W1.out]
  refine (WO.out _).mono ?_
  rintro e w2 ⟨vw, rfl, hvw, hb2⟩
  have hrw := Rd.of_own hvw
  obtain ⟨_, Aw, cw, rfl, hwc, hwm, _⟩ := id hrw
  unfold maxLen at hwm
  have RW := Lib.hid hrw
  have B2 := Lib.hid (Below.then_ B1.out hb2 (Nat.le_refl _))
  have X2 := Lib.hid (X1.out.below hb2)
  have R2 := Lib.hid (R1.out.below hb2)
  have Z2 := Lib.hid (show w.heap.size + 1 < w2.heap.size from R2.out.lt)
  clear hvw hb2 hrw
  by_cases h2 : n < 2
  · have hfin : Hid (O = none) := by show _ = _; rw [HO.out]; unfold parseI; rw [if_pos (by rw [← HWS.out, ← HNW.out]; exact h2)]
    have hni : decide ((n : Int) < 2) = true := by simp; omega
    have z0 : w2.cell? ⟨w.heap.size + 1, 0, none⟩ = some (.string ⟨#[]⟩) := R2.out.cell 0
    have z1 : w2.cell? ⟨w.heap.size + 1, 1, none⟩ = some (.int .i64 0) := R2.out.cell 1
    have z2 : w2.cell? ⟨w.heap.size + 1, 2, none⟩ = some (.int .i64 0) := R2.out.cell 2
    have z3 : w2.cell? ⟨w.heap.size + 1, 3, none⟩ = some (.bool false) := R2.out.cell 3
    have z4 : w2.cell? ⟨w.heap.size + 1, 4, none⟩ = some (.slice none 0 0) := R2.out.cell 4
    have z5 : w2.cell? ⟨w.heap.size + 1, 5, none⟩ = some (.slice none 0 0) := R2.out.cell 5
    have z6 : w2.cell? ⟨w.heap.size + 1, 6, none⟩ = some (.slice none 0 0) := R2.out.cell 6
    have z7 : w2.cell? ⟨w.heap.size + 1, 7, none⟩ = some (.slice none 0 0) := R2.out.cell 7
    have q0 : w2.frozen? ⟨w.heap.size + 1, 0, none⟩ = false := R2.out.frozen 0
    have q1 : w2.frozen? ⟨w.heap.size + 1, 1, none⟩ = false := R2.out.frozen 1
    have q2 : w2.frozen? ⟨w.heap.size + 1, 2, none⟩ = false := R2.out.frozen 2
    have q3 : w2.frozen? ⟨w.heap.size + 1, 3, none⟩ = false := R2.out.frozen 3
    have q4 : w2.frozen? ⟨w.heap.size + 1, 4, none⟩ = false := R2.out.frozen 4
    have q5 : w2.frozen? ⟨w.heap.size + 1, 5, none⟩ = false := R2.out.frozen 5
    have q6 : w2.frozen? ⟨w.heap.size + 1, 6, none⟩ = false := R2.out.frozen 6
    have q7 : w2.frozen? ⟨w.heap.size + 1, 7, none⟩ = false := R2.out.frozen 7
    go_wp2_with fail
    refine bodyPost_ret (v := .tuple #[.agg #[.string ⟨#[]⟩, .int .i64 0, .int .i64 0, .bool false, .slice none 0 0, .slice none 0 0, .slice none 0 0, .slice none 0 0], .bool false]) (by simp [results, Tryz.results11, go_sem, z0, z1, z2, z3, z4, z5, z6, z7]) rfl ?_
    exact MadeR.no hfin.out (Below.all8 B2.out (by omega) _ _ _ _ _ _ _ _)
  · have hni : decide ((n : Int) < 2) = false := by simp; omega
    have HP : Hid (O = (fieldsP l (rule0 ws) (tS (ws.drop 2))).bind (lineOk l ws)) := by show _ = _; rw [HO.out]; unfold parseI; rw [if_neg (by rw [← HWS.out, ← HNW.out]; omega), ← HWS.out]
    obtain ⟨bn, on, rfl, hnc⟩ := texts_at (by have h := RW.out; rw [HN.out] at h; exact h) (by rw [← HN.out]; omega)
    obtain ⟨t0, ht0⟩ : ∃ t0, t0 = mkS (ws.getD 0 []) := ⟨_, rfl⟩
    obtain ⟨t1, ht1⟩ : ∃ t1, t1 = mkS (ws.getD 1 []) := ⟨_, rfl⟩
    have y0 : w2.cell? ⟨bn, on, none⟩ = some (.string t0) := by
      have h := hnc 0 (by rw [← HN.out]; omega)
      rw [ht0]
      have hl := HNW.out
      cases ws with
      | nil => simp at hl; omega
      | cons a b => simpa [tS] using h
    have y1 : w2.cell? ⟨bn, on + 1, none⟩ = some (.string t1) := by
      have h := hnc 1 (by rw [← HN.out]; omega)
      rw [ht1]
      have hl := HNW.out
      cases ws with
      | nil => simp at hl; omega
      | cons a b =>
        cases b with
        | nil => simp at hl; omega
        | cons b b' => simpa [tS] using h
    have HT0 := Lib.hid ht0
    have HT1 := Lib.hid ht1
    have HY0 := Lib.hid y0
    have HY1 := Lib.hid y1
    have KN := Lib.hid (fun w => i_kindNamed t1 w)
    have hR0 : Hid (rule0 ws = ⟨t0, kindOf t1, 0, false, [], [], [], []⟩) := by show _ = _; rw [HT0.out, HT1.out]; rfl
    obtain ⟨kd, hkd⟩ : ∃ kd, kd = kindOf t1 := ⟨_, rfl⟩
    rw [← hkd] at KN hR0
    have d0 : decide ((0 : Int) < (n : Int)) = true := by simp; omega
    have d1 : decide ((1 : Int) < (n : Int)) = true := by simp; omega
    have g0 : (0 : Int) < (n : Int) := by omega
    have g1 : (1 : Int) < (n : Int) := by omega
    clear hnc ht0 ht1 hkd
    go_wp2_with fail
    go_cut [7] (fun s7 wx => ∃ gr, s7 = .pointer (some ⟨gr, 0, none⟩) ∧ PSt w2 gr (rule0 ws) wx)
    case first =>
      have KEEP := Lib.hid (show ∀ W, Below w2.heap.size w2 W → W.cell? ⟨bn, on, none⟩ = some (.string t0) ∧ W.cell? ⟨bn, on + 1, none⟩ = some (.string t1) from fun W hb => ⟨cell_after HY0.out hb, cell_after HY1.out hb⟩)
      have NEWP := Lib.hid (show ∀ W : World, Below w2.heap.size w2 W → PSt w2 W.heap.size (rule0 ws) (W.alloc (.cells #[.string t0, .int .i64 kd, .int .i64 0, .bool false, .slice none 0 0, .slice none 0 0, .slice none 0 0, .slice none 0 0] 30)) from fun W hb => by rw [hR0.out]; exact PSt.start rfl rfl rfl rfl (Box.new W 30 _) hb.size (hb.alloc hb.size _))
      have SETP := Lib.hid (show ∀ W : World, Below w2.heap.size w2 W → Box W w2.heap.size 30 #[.string ⟨#[]⟩, .int .i64 0, .int .i64 0, .bool false, .slice none 0 0, .slice none 0 0, .slice none 0 0, .slice none 0 0] → PSt w2 w2.heap.size (rule0 ws) ((((((((W.setCell ⟨w2.heap.size, 0, none⟩ (.string t0)).setCell ⟨w2.heap.size, 1, none⟩ (.int .i64 kd)).setCell ⟨w2.heap.size, 2, none⟩ (.int .i64 0)).setCell ⟨w2.heap.size, 3, none⟩ (.bool false)).setCell ⟨w2.heap.size, 4, none⟩ (.slice none 0 0)).setCell ⟨w2.heap.size, 5, none⟩ (.slice none 0 0)).setCell ⟨w2.heap.size, 6, none⟩ (.slice none 0 0)).setCell ⟨w2.heap.size, 7, none⟩ (.slice none 0 0)) from fun W hb hx => by rw [hR0.out]; exact PSt.start rfl rfl rfl rfl (Box.all8 hx) (Nat.le_refl _) (Below.all8 hb (Nat.le_refl _) _ _ _ _ _ _ _ _))
      have hn0 : 0 < n := by omega
      have hn1 : 1 < n := by omega
      have dn0 : decide (0 < n) = true := by simp; omega
      have dn1 : decide (1 < n) = true := by simp; omega
      have gg0 : (0 : Int) ≤ 0 := by omega
      have gg1 : (0 : Int) ≤ 1 := by omega
      clear y0 y1
      go_region_held3 (fun w' => w'.cell? ⟨bn, on, none⟩ = some (.string t0) ∧ w'.cell? ⟨bn, on + 1, none⟩ = some (.string t1))
        (first | exact KEEP.out _ (by first | ((repeat (first | with_reducible exact HB7.out | with_reducible exact B8.out | with_reducible exact Below.refl _ _ | with_reducible refine Below.drew ?_ | with_reducible refine Below.alloc ?_ ?_ _ | with_reducible refine below_set ?_ ?_ _ | (show (_ : Nat) ≤ _; (try simp) <;> omega))); done) | fail) | go_keep)
        ((go_at_call 39; refine (KN.out _).mono ?_; rintro e w7 ⟨rfl, hb7⟩; have HB7 := Lib.hid (show Below w2.heap.size w2 w7 from (by first | exact Below.then_ ((Below.refl _ w2).drew) hb7 (Nat.le_refl _) | exact Below.then_ (((Below.refl _ w2).drew).alloc (by simp) _) hb7 (by simp))); have hz7 := HB7.out.size; (try (have X7 : Box w7 w2.heap.size 30 #[.string ⟨#[]⟩, .int .i64 0, .int .i64 0, .bool false, .slice none 0 0, .slice none 0 0, .slice none 0 0, .slice none 0 0] := (by first | exact ((Box.new w2 _ _).drewN 1).below hb7 | exact (Box.new w2.drew _ _).below hb7); have c7_0 := X7.cell 0; have fc7_0 := X7.frozen 0; have c7_1 := X7.cell 1; have fc7_1 := X7.frozen 1; have c7_2 := X7.cell 2; have fc7_2 := X7.frozen 2; have c7_3 := X7.cell 3; have fc7_3 := X7.frozen 3; have c7_4 := X7.cell 4; have fc7_4 := X7.frozen 4; have c7_5 := X7.cell 5; have fc7_5 := X7.frozen 5; have c7_6 := X7.cell 6; have fc7_6 := X7.frozen 6; have c7_7 := X7.cell 7; have fc7_7 := X7.frozen 7; have l7 : w2.heap.size < w7.heap.size := X7.lt; have XH := Lib.hid X7; clear X7)); clear hb7))
      all_goals
        go_wp2_with fail
        go_meet
        first
          | with_reducible exact ⟨_, rfl, NEWP.out _ HB7.out⟩
          | with_reducible exact ⟨_, rfl, SETP.out _ HB7.out XH.out⟩
    case rest =>
      obtain ⟨gr, rfl, hst⟩ := hcut
      have P3 := Lib.hid hst
      have X3 := Lib.hid (X2.out.below hst.be)
      have R3 := Lib.hid (R2.out.below hst.be)
      have x3 := X3.out.cell 0
      have e1 : (0 : Int) ≤ 2 := by omega
      have e2 : (2 : Int) ≤ (n : Int) := by omega
      have e3 : (2 : Int) ≤ (cw : Int) := by omega
      have hB2 := Rd.back_if (k := 2) (xs := tS ws) RW.out hwc (by unfold maxLen; omega) (by omega)
      rw [Option.map_some] at hB2
      obtain ⟨B, hB⟩ : ∃ B, (if cw = 2 then some (⟨bn, on, none⟩ : Addr) else some ⟨bn, on + 2, none⟩) = B := ⟨_, rfl⟩
      rw [hB] at hB2
      have HB2 := Lib.hid hB2
      have hl2 : (tS (ws.drop 2)).length = n - 2 := by rw [tS_len, List.length_drop, ← HNW.out]
      have HL2 := Lib.hid hl2
      have PF := Lib.hid (fun va w3 hd hv h => i_parseFields (.agg #[.slice A l.length c]) l w2 gr (rule0 ws) va (tS (ws.drop 2)) (fun s hm => Nat.le_trans (HSZ2.out s hm) (by omega)) hln (by show 0 + _ ≤ _ ∧ 0 + _ ≤ _ ∧ 0 + _ ≤ _; rw [hl2]; omega) w3 hd hv h)
      clear hB2 hl2 hst y0 y1
      have HD2 := Lib.hid (HV.out.below B2.out)
      have hdr : tS (ws.drop 2) = (tS ws).drop 2 := by unfold tS; rw [List.map_drop]
      have HDR := Lib.hid hdr
      clear hdr
      go_wp2_with fail
      cases hF : fieldsP l (rule0 ws) (tS (ws.drop 2)) with
      | none =>
        have HF := Lib.hid hF
        have hfin : Hid (O = none) := by show _ = _; rw [HP.out, hF]; rfl
        clear hF
        go_cut [27] (fun s27 wx => s27 = .bool true ∧ Below w2.heap.size w2 wx)
        case first =>
          go_region_with ((go_at_call 40; refine (PF.out _ _ ⟨_, rfl, HD2.out⟩ (by rw [HL2.out, HDR.out]; exact HB2.out) (P3.out.step (Below.refl _ _).drew)).mono ?_; intro e w5 hp; rw [HF.out] at hp; obtain ⟨rfl, hb5⟩ := hp))
          all_goals
            go_wp2_with fail
            go_meet
            exact ⟨rfl, hb5⟩
        case rest =>
          obtain ⟨rfl, hb5⟩ := hcut
          have B5 := Lib.hid (Below.then_ B2.out hb5 (Nat.le_refl _))
          have R5 := Lib.hid (R2.out.below hb5)
          clear hb5 x3
          have z0 : wc.cell? ⟨w.heap.size + 1, 0, none⟩ = some (.string ⟨#[]⟩) := R5.out.cell 0
          have z1 : wc.cell? ⟨w.heap.size + 1, 1, none⟩ = some (.int .i64 0) := R5.out.cell 1
          have z2 : wc.cell? ⟨w.heap.size + 1, 2, none⟩ = some (.int .i64 0) := R5.out.cell 2
          have z3 : wc.cell? ⟨w.heap.size + 1, 3, none⟩ = some (.bool false) := R5.out.cell 3
          have z4 : wc.cell? ⟨w.heap.size + 1, 4, none⟩ = some (.slice none 0 0) := R5.out.cell 4
          have z5 : wc.cell? ⟨w.heap.size + 1, 5, none⟩ = some (.slice none 0 0) := R5.out.cell 5
          have z6 : wc.cell? ⟨w.heap.size + 1, 6, none⟩ = some (.slice none 0 0) := R5.out.cell 6
          have z7 : wc.cell? ⟨w.heap.size + 1, 7, none⟩ = some (.slice none 0 0) := R5.out.cell 7
          have q0 : wc.frozen? ⟨w.heap.size + 1, 0, none⟩ = false := R5.out.frozen 0
          have q1 : wc.frozen? ⟨w.heap.size + 1, 1, none⟩ = false := R5.out.frozen 1
          have q2 : wc.frozen? ⟨w.heap.size + 1, 2, none⟩ = false := R5.out.frozen 2
          have q3 : wc.frozen? ⟨w.heap.size + 1, 3, none⟩ = false := R5.out.frozen 3
          have q4 : wc.frozen? ⟨w.heap.size + 1, 4, none⟩ = false := R5.out.frozen 4
          have q5 : wc.frozen? ⟨w.heap.size + 1, 5, none⟩ = false := R5.out.frozen 5
          have q6 : wc.frozen? ⟨w.heap.size + 1, 6, none⟩ = false := R5.out.frozen 6
          have q7 : wc.frozen? ⟨w.heap.size + 1, 7, none⟩ = false := R5.out.frozen 7
          go_wp2_with fail
          refine bodyPost_ret (v := .tuple #[.agg #[.string ⟨#[]⟩, .int .i64 0, .int .i64 0, .bool false, .slice none 0 0, .slice none 0 0, .slice none 0 0, .slice none 0 0], .bool false]) (by simp [results, Tryz.results11, go_sem, z0, z1, z2, z3, z4, z5, z6, z7]) rfl ?_
          exact MadeR.no hfin.out (Below.all8 B5.out (by omega) _ _ _ _ _ _ _ _)
      | some r2 =>
        have HF := Lib.hid hF
        have hHP2 : Hid (O = lineOk l ws r2) := by show _ = _; rw [HP.out, hF]; rfl
        have hlen2 := fieldsP_len (fun s hm => HSZ2.out s hm) hF (by show 0 ≤ _; omega)
        have HFIT2 := Lib.hid (fieldsP_fit hln (fun s hm => HSZ2.out s hm) HF0.out hF)
        clear hF
        go_cut [27] (fun s27 wx => s27 = .bool false ∧ PSt w2 gr r2 wx)
        case first =>
          go_region_with ((go_at_call 40; refine (PF.out _ _ ⟨_, rfl, HD2.out⟩ (by rw [HL2.out, HDR.out]; exact HB2.out) (P3.out.step (Below.refl _ _).drew)).mono ?_; intro e w5 hp; rw [HF.out] at hp; obtain ⟨rfl, hp5, hk5⟩ := hp))
          all_goals
            go_wp2_with fail
            go_meet
            exact ⟨rfl, hp5⟩
        case rest =>
          obtain ⟨rfl, hp5⟩ := hcut
          rename World => w5
          have P5 := Lib.hid hp5
          have X5 := Lib.hid (X2.out.below hp5.be)
          have R5 := Lib.hid (R2.out.below hp5.be)
          have hHV5 := HD2.out.below hp5.be
          obtain ⟨vb, vn, vt, vk, hx5, h45⟩ := hp5.st
          have hv5 := hHV5
          obtain ⟨css, hcl, hca, hfr, hfo⟩ := hv5.flat
          have BOTH := Lib.hid (show Both w5 l r2 css [.string r2.name, .int .i64 r2.kind, .int .i64 r2.size, .bool r2.little, vb, vn, vt, vk] from ⟨hcl, hca, h45.rule⟩)
          have HV5 := Lib.hid hv5
          obtain ⟨fs, hfs⟩ : ∃ fs, fs = css.flatten := ⟨_, rfl⟩
          rw [← hfs] at hfr hfo
          have HFS := Lib.hid hfs
          have FRD := Lib.hid (show ∀ W, Below w5.heap.size w5 W → Rd W (.slice A l.length c) 8 l.length fs from fun W hb => hfr.keep fun _ hp => hb.cell hp)
          have FONE := Lib.hid hfo
          have RONE := Lib.hid (rule_oneCell' h45.rule)
          have G5 := Lib.hid hx5
          have KEEP := Lib.hid (show ∀ W, Below w5.heap.size w5 W → W.cell? ⟨w.heap.size, 0, none⟩ = some (.slice A l.length c) ∧ W.cell? ⟨gr, 0, none⟩ = some (.string r2.name) ∧ W.cell? ⟨gr, 1, none⟩ = some (.int .i64 r2.kind) ∧ W.cell? ⟨gr, 2, none⟩ = some (.int .i64 r2.size) ∧ W.cell? ⟨gr, 3, none⟩ = some (.bool r2.little) ∧ W.cell? ⟨gr, 4, none⟩ = some (vb) ∧ W.cell? ⟨gr, 5, none⟩ = some (vn) ∧ W.cell? ⟨gr, 6, none⟩ = some (vt) ∧ W.cell? ⟨gr, 7, none⟩ = some (vk) from fun W hb => ⟨(X5.out.below hb).cell 0, (G5.out.below hb).cell 0, (G5.out.below hb).cell 1, (G5.out.below hb).cell 2, (G5.out.below hb).cell 3, (G5.out.below hb).cell 4, (G5.out.below hb).cell 5, (G5.out.below hb).cell 6, (G5.out.below hb).cell 7⟩)
          obtain ⟨i0, hif, hz0, hz1, hz2⟩ := info_parts info_Rule
          clear hp5 hx5 h45 hv5 hcl hca hfr hfo hfs hHV5 x3 e1 e2 e3
          go_wp2_with fail
          go_cut [8] (fun s8 wx => ∃ gl, s8 = .pointer (some ⟨gl, 0, none⟩) ∧ LSt w5 l r2 gl wx)
          case first =>
            go_region_held3 (fun W => W.cell? ⟨w.heap.size, 0, none⟩ = some (.slice A l.length c) ∧ W.cell? ⟨gr, 0, none⟩ = some (.string r2.name) ∧ W.cell? ⟨gr, 1, none⟩ = some (.int .i64 r2.kind) ∧ W.cell? ⟨gr, 2, none⟩ = some (.int .i64 r2.size) ∧ W.cell? ⟨gr, 3, none⟩ = some (.bool r2.little) ∧ W.cell? ⟨gr, 4, none⟩ = some (vb) ∧ W.cell? ⟨gr, 5, none⟩ = some (vn) ∧ W.cell? ⟨gr, 6, none⟩ = some (vt) ∧ W.cell? ⟨gr, 7, none⟩ = some (vk))
              (first | exact KEEP.out _ (by first | ((repeat (first | with_reducible exact B6.out | with_reducible exact B8.out | with_reducible exact Below.refl _ _ | with_reducible refine Below.drew ?_ | with_reducible refine Below.alloc ?_ ?_ _ | with_reducible refine below_set ?_ ?_ _ | (show (_ : Nat) ≤ _; (try simp) <;> omega))); done) | fail) | go_keep)
              (first  | (refine step_append_rd _ (by rfl) (.tmp 29) (.tmp 31) 33 (by rfl) w5.heap.size 30 i0 (.agg #[.string ⟨#[]⟩, .int .i64 0, .int .i64 0, .bool false, .slice none 0 0, .slice none 0 0, .slice none 0 0, .slice none 0 0]) 8 136 Tryz.underlying33 hif hz0 hz1 hz2 (by rfl) (by decide) (.slice (some ⟨w5.heap.size, 0, none⟩) 0 0) 0 [] (by rfl) (own_empty (T := 30) (by first | ((repeat (first | with_reducible exact R6a.out | with_reducible exact R6b.out | with_reducible exact R6c.out | with_reducible exact G6a.out | with_reducible exact G6b.out | with_reducible exact G6c.out | with_reducible exact box_new0 _ _ _ | with_reducible exact box_new1 _ _ _ _ | with_reducible exact box_new2 _ _ _ _ _ | with_reducible refine Box.drew ?_ | with_reducible refine Box.alloc ?_ _)); done) | fail) (by omega)) (.slice A l.length c) l.length fs (by rfl) (FRD.out _ (by first | ((repeat (first | with_reducible exact B6.out | with_reducible exact B8.out | with_reducible exact Below.refl _ _ | with_reducible refine Below.drew ?_ | with_reducible refine Below.alloc ?_ ?_ _ | with_reducible refine below_set ?_ ?_ _ | (show (_ : Nat) ≤ _; (try simp) <;> omega))); done) | fail)) FONE.out (by unfold maxLen; omega) (by omega) (by (try simp) <;> omega) ?_; intro v6 w6 ho6 hg6 hp6; rw [Nat.zero_add, List.nil_append] at ho6; obtain ⟨A6, c6, rfl⟩ : ∃ A c, v6 = .slice A l.length c := (by obtain ⟨_, A, c, h, _⟩ := Rd.of_own ho6; exact ⟨A, c, h⟩); have O6 := Lib.hid ho6; have B6 := Lib.hid (show Below w5.heap.size w5 w6 from Below.grown (by first | ((repeat (first | with_reducible exact B6.out | with_reducible exact B8.out | with_reducible exact Below.refl _ _ | with_reducible refine Below.drew ?_ | with_reducible refine Below.alloc ?_ ?_ _ | with_reducible refine below_set ?_ ?_ _ | (show (_ : Nat) ≤ _; (try simp) <;> omega))); done) | fail) hg6 (by (try simp) <;> omega) (fun k hk => by simp [Value.ownBlock] at hk; omega)); have hz6 := B6.out.size; (try (have R6b := Lib.hid (show Box w6 (w5.heap.size + 1) 30 #[.string r2.name, .int .i64 r2.kind, .int .i64 r2.size, .bool r2.little, vb, vn, vt, vk] from Box.grown (by first | ((repeat (first | with_reducible exact R6a.out | with_reducible exact R6b.out | with_reducible exact R6c.out | with_reducible exact G6a.out | with_reducible exact G6b.out | with_reducible exact G6c.out | with_reducible exact box_new0 _ _ _ | with_reducible exact box_new1 _ _ _ _ | with_reducible exact box_new2 _ _ _ _ _ | with_reducible refine Box.drew ?_ | with_reducible refine Box.alloc ?_ _)); done) | fail) hg6 (by simp [Value.ownBlock] <;> omega)))); (try (have R6c := Lib.hid (show Box w6 (w5.heap.size + 1 + 1) 30 #[.string r2.name, .int .i64 r2.kind, .int .i64 r2.size, .bool r2.little, vb, vn, vt, vk] from Box.grown (by first | ((repeat (first | with_reducible exact R6a.out | with_reducible exact R6b.out | with_reducible exact R6c.out | with_reducible exact G6a.out | with_reducible exact G6b.out | with_reducible exact G6c.out | with_reducible exact box_new0 _ _ _ | with_reducible exact box_new1 _ _ _ _ | with_reducible exact box_new2 _ _ _ _ _ | with_reducible refine Box.drew ?_ | with_reducible refine Box.alloc ?_ _)); done) | fail) hg6 (by simp [Value.ownBlock] <;> omega)))); (try (have G6b := Lib.hid (show Box w6 (w5.heap.size + 1) 35 #[.slice none 0 0] from Box.grown (by first | ((repeat (first | with_reducible exact R6a.out | with_reducible exact R6b.out | with_reducible exact R6c.out | with_reducible exact G6a.out | with_reducible exact G6b.out | with_reducible exact G6c.out | with_reducible exact box_new0 _ _ _ | with_reducible exact box_new1 _ _ _ _ | with_reducible exact box_new2 _ _ _ _ _ | with_reducible refine Box.drew ?_ | with_reducible refine Box.alloc ?_ _)); done) | fail) hg6 (by simp [Value.ownBlock] <;> omega)))); (try (have G6c := Lib.hid (show Box w6 (w5.heap.size + 1 + 1) 35 #[.slice none 0 0] from Box.grown (by first | ((repeat (first | with_reducible exact R6a.out | with_reducible exact R6b.out | with_reducible exact R6c.out | with_reducible exact G6a.out | with_reducible exact G6b.out | with_reducible exact G6c.out | with_reducible exact box_new0 _ _ _ | with_reducible exact box_new1 _ _ _ _ | with_reducible exact box_new2 _ _ _ _ _ | with_reducible refine Box.drew ?_ | with_reducible refine Box.alloc ?_ _)); done) | fail) hg6 (by simp [Value.ownBlock] <;> omega)))); clear ho6 hg6 hp6) | (refine step_append_rd _ (by rfl) (.tmp 29) (.tmp 31) 33 (by rfl) w5.heap.size 30 i0 (.agg #[.string ⟨#[]⟩, .int .i64 0, .int .i64 0, .bool false, .slice none 0 0, .slice none 0 0, .slice none 0 0, .slice none 0 0]) 8 136 Tryz.underlying33 hif hz0 hz1 hz2 (by rfl) (by decide) (.slice (some ⟨(w5.heap.size + 1), 0, none⟩) 0 0) 0 [] (by rfl) (own_empty (T := 30) (by first | ((repeat (first | with_reducible exact R6a.out | with_reducible exact R6b.out | with_reducible exact R6c.out | with_reducible exact G6a.out | with_reducible exact G6b.out | with_reducible exact G6c.out | with_reducible exact box_new0 _ _ _ | with_reducible exact box_new1 _ _ _ _ | with_reducible exact box_new2 _ _ _ _ _ | with_reducible refine Box.drew ?_ | with_reducible refine Box.alloc ?_ _)); done) | fail) (by omega)) (.slice A l.length c) l.length fs (by rfl) (FRD.out _ (by first | ((repeat (first | with_reducible exact B6.out | with_reducible exact B8.out | with_reducible exact Below.refl _ _ | with_reducible refine Below.drew ?_ | with_reducible refine Below.alloc ?_ ?_ _ | with_reducible refine below_set ?_ ?_ _ | (show (_ : Nat) ≤ _; (try simp) <;> omega))); done) | fail)) FONE.out (by unfold maxLen; omega) (by omega) (by (try simp) <;> omega) ?_; intro v6 w6 ho6 hg6 hp6; rw [Nat.zero_add, List.nil_append] at ho6; obtain ⟨A6, c6, rfl⟩ : ∃ A c, v6 = .slice A l.length c := (by obtain ⟨_, A, c, h, _⟩ := Rd.of_own ho6; exact ⟨A, c, h⟩); have O6 := Lib.hid ho6; have B6 := Lib.hid (show Below w5.heap.size w5 w6 from Below.grown (by first | ((repeat (first | with_reducible exact B6.out | with_reducible exact B8.out | with_reducible exact Below.refl _ _ | with_reducible refine Below.drew ?_ | with_reducible refine Below.alloc ?_ ?_ _ | with_reducible refine below_set ?_ ?_ _ | (show (_ : Nat) ≤ _; (try simp) <;> omega))); done) | fail) hg6 (by (try simp) <;> omega) (fun k hk => by simp [Value.ownBlock] at hk; omega)); have hz6 := B6.out.size; (try (have R6a := Lib.hid (show Box w6 w5.heap.size 30 #[.string r2.name, .int .i64 r2.kind, .int .i64 r2.size, .bool r2.little, vb, vn, vt, vk] from Box.grown (by first | ((repeat (first | with_reducible exact R6a.out | with_reducible exact R6b.out | with_reducible exact R6c.out | with_reducible exact G6a.out | with_reducible exact G6b.out | with_reducible exact G6c.out | with_reducible exact box_new0 _ _ _ | with_reducible exact box_new1 _ _ _ _ | with_reducible exact box_new2 _ _ _ _ _ | with_reducible refine Box.drew ?_ | with_reducible refine Box.alloc ?_ _)); done) | fail) hg6 (by simp [Value.ownBlock] <;> omega)))); (try (have R6c := Lib.hid (show Box w6 (w5.heap.size + 1 + 1) 30 #[.string r2.name, .int .i64 r2.kind, .int .i64 r2.size, .bool r2.little, vb, vn, vt, vk] from Box.grown (by first | ((repeat (first | with_reducible exact R6a.out | with_reducible exact R6b.out | with_reducible exact R6c.out | with_reducible exact G6a.out | with_reducible exact G6b.out | with_reducible exact G6c.out | with_reducible exact box_new0 _ _ _ | with_reducible exact box_new1 _ _ _ _ | with_reducible exact box_new2 _ _ _ _ _ | with_reducible refine Box.drew ?_ | with_reducible refine Box.alloc ?_ _)); done) | fail) hg6 (by simp [Value.ownBlock] <;> omega)))); (try (have G6a := Lib.hid (show Box w6 w5.heap.size 35 #[.slice none 0 0] from Box.grown (by first | ((repeat (first | with_reducible exact R6a.out | with_reducible exact R6b.out | with_reducible exact R6c.out | with_reducible exact G6a.out | with_reducible exact G6b.out | with_reducible exact G6c.out | with_reducible exact box_new0 _ _ _ | with_reducible exact box_new1 _ _ _ _ | with_reducible exact box_new2 _ _ _ _ _ | with_reducible refine Box.drew ?_ | with_reducible refine Box.alloc ?_ _)); done) | fail) hg6 (by simp [Value.ownBlock] <;> omega)))); (try (have G6c := Lib.hid (show Box w6 (w5.heap.size + 1 + 1) 35 #[.slice none 0 0] from Box.grown (by first | ((repeat (first | with_reducible exact R6a.out | with_reducible exact R6b.out | with_reducible exact R6c.out | with_reducible exact G6a.out | with_reducible exact G6b.out | with_reducible exact G6c.out | with_reducible exact box_new0 _ _ _ | with_reducible exact box_new1 _ _ _ _ | with_reducible exact box_new2 _ _ _ _ _ | with_reducible refine Box.drew ?_ | with_reducible refine Box.alloc ?_ _)); done) | fail) hg6 (by simp [Value.ownBlock] <;> omega)))); clear ho6 hg6 hp6) | (refine step_append_rd _ (by rfl) (.tmp 29) (.tmp 31) 33 (by rfl) w5.heap.size 30 i0 (.agg #[.string ⟨#[]⟩, .int .i64 0, .int .i64 0, .bool false, .slice none 0 0, .slice none 0 0, .slice none 0 0, .slice none 0 0]) 8 136 Tryz.underlying33 hif hz0 hz1 hz2 (by rfl) (by decide) (.slice (some ⟨(w5.heap.size + 1 + 1), 0, none⟩) 0 0) 0 [] (by rfl) (own_empty (T := 30) (by first | ((repeat (first | with_reducible exact R6a.out | with_reducible exact R6b.out | with_reducible exact R6c.out | with_reducible exact G6a.out | with_reducible exact G6b.out | with_reducible exact G6c.out | with_reducible exact box_new0 _ _ _ | with_reducible exact box_new1 _ _ _ _ | with_reducible exact box_new2 _ _ _ _ _ | with_reducible refine Box.drew ?_ | with_reducible refine Box.alloc ?_ _)); done) | fail) (by omega)) (.slice A l.length c) l.length fs (by rfl) (FRD.out _ (by first | ((repeat (first | with_reducible exact B6.out | with_reducible exact B8.out | with_reducible exact Below.refl _ _ | with_reducible refine Below.drew ?_ | with_reducible refine Below.alloc ?_ ?_ _ | with_reducible refine below_set ?_ ?_ _ | (show (_ : Nat) ≤ _; (try simp) <;> omega))); done) | fail)) FONE.out (by unfold maxLen; omega) (by omega) (by (try simp) <;> omega) ?_; intro v6 w6 ho6 hg6 hp6; rw [Nat.zero_add, List.nil_append] at ho6; obtain ⟨A6, c6, rfl⟩ : ∃ A c, v6 = .slice A l.length c := (by obtain ⟨_, A, c, h, _⟩ := Rd.of_own ho6; exact ⟨A, c, h⟩); have O6 := Lib.hid ho6; have B6 := Lib.hid (show Below w5.heap.size w5 w6 from Below.grown (by first | ((repeat (first | with_reducible exact B6.out | with_reducible exact B8.out | with_reducible exact Below.refl _ _ | with_reducible refine Below.drew ?_ | with_reducible refine Below.alloc ?_ ?_ _ | with_reducible refine below_set ?_ ?_ _ | (show (_ : Nat) ≤ _; (try simp) <;> omega))); done) | fail) hg6 (by (try simp) <;> omega) (fun k hk => by simp [Value.ownBlock] at hk; omega)); have hz6 := B6.out.size; (try (have R6a := Lib.hid (show Box w6 w5.heap.size 30 #[.string r2.name, .int .i64 r2.kind, .int .i64 r2.size, .bool r2.little, vb, vn, vt, vk] from Box.grown (by first | ((repeat (first | with_reducible exact R6a.out | with_reducible exact R6b.out | with_reducible exact R6c.out | with_reducible exact G6a.out | with_reducible exact G6b.out | with_reducible exact G6c.out | with_reducible exact box_new0 _ _ _ | with_reducible exact box_new1 _ _ _ _ | with_reducible exact box_new2 _ _ _ _ _ | with_reducible refine Box.drew ?_ | with_reducible refine Box.alloc ?_ _)); done) | fail) hg6 (by simp [Value.ownBlock] <;> omega)))); (try (have R6b := Lib.hid (show Box w6 (w5.heap.size + 1) 30 #[.string r2.name, .int .i64 r2.kind, .int .i64 r2.size, .bool r2.little, vb, vn, vt, vk] from Box.grown (by first | ((repeat (first | with_reducible exact R6a.out | with_reducible exact R6b.out | with_reducible exact R6c.out | with_reducible exact G6a.out | with_reducible exact G6b.out | with_reducible exact G6c.out | with_reducible exact box_new0 _ _ _ | with_reducible exact box_new1 _ _ _ _ | with_reducible exact box_new2 _ _ _ _ _ | with_reducible refine Box.drew ?_ | with_reducible refine Box.alloc ?_ _)); done) | fail) hg6 (by simp [Value.ownBlock] <;> omega)))); (try (have G6a := Lib.hid (show Box w6 w5.heap.size 35 #[.slice none 0 0] from Box.grown (by first | ((repeat (first | with_reducible exact R6a.out | with_reducible exact R6b.out | with_reducible exact R6c.out | with_reducible exact G6a.out | with_reducible exact G6b.out | with_reducible exact G6c.out | with_reducible exact box_new0 _ _ _ | with_reducible exact box_new1 _ _ _ _ | with_reducible exact box_new2 _ _ _ _ _ | with_reducible refine Box.drew ?_ | with_reducible refine Box.alloc ?_ _)); done) | fail) hg6 (by simp [Value.ownBlock] <;> omega)))); (try (have G6b := Lib.hid (show Box w6 (w5.heap.size + 1) 35 #[.slice none 0 0] from Box.grown (by first | ((repeat (first | with_reducible exact R6a.out | with_reducible exact R6b.out | with_reducible exact R6c.out | with_reducible exact G6a.out | with_reducible exact G6b.out | with_reducible exact G6c.out | with_reducible exact box_new0 _ _ _ | with_reducible exact box_new1 _ _ _ _ | with_reducible exact box_new2 _ _ _ _ _ | with_reducible refine Box.drew ?_ | with_reducible refine Box.alloc ?_ _)); done) | fail) hg6 (by simp [Value.ownBlock] <;> omega)))); clear ho6 hg6 hp6) | (refine step_append_rd _ (by rfl) (.tmp 32) (.tmp 34) 33 (by rfl) w5.heap.size 30 i0 (.agg #[.string ⟨#[]⟩, .int .i64 0, .int .i64 0, .bool false, .slice none 0 0, .slice none 0 0, .slice none 0 0, .slice none 0 0]) 8 136 Tryz.underlying33 hif hz0 hz1 hz2 (by rfl) (by decide) (.slice A6 l.length c6) l.length fs (by rfl) (by first | ((repeat (first | with_reducible exact O6.out | with_reducible refine World.ownsRow.drew ?_ | with_reducible refine World.ownsRow.alloc ?_ _)); done) | fail) (.slice (some ⟨w5.heap.size, 0, none⟩) 1 1) 1 [.string r2.name, .int .i64 r2.kind, .int .i64 r2.size, .bool r2.little, vb, vn, vt, vk] (by rfl) (rd_box8 (T := 30) (by first | ((repeat (first | with_reducible exact R6a.out | with_reducible exact R6b.out | with_reducible exact R6c.out | with_reducible exact G6a.out | with_reducible exact G6b.out | with_reducible exact G6c.out | with_reducible exact box_new0 _ _ _ | with_reducible exact box_new1 _ _ _ _ | with_reducible exact box_new2 _ _ _ _ _ | with_reducible refine Box.drew ?_ | with_reducible refine Box.alloc ?_ _)); done) | fail)) RONE.out (by unfold maxLen; omega) (by omega) (by (try simp) <;> omega) ?_; intro v8 w8 ho8 hg8 hp8; obtain ⟨A8, c8, rfl⟩ : ∃ A c, v8 = .slice A (l.length + 1) c := (by obtain ⟨_, A, c, h, _⟩ := Rd.of_own ho8; exact ⟨A, c, h⟩); have O8 := Lib.hid (show w8.ownsRow w5.heap.size 30 8 (.slice A8 (l.length + 1) c8) (l.length + 1) (css.flatten ++ [.string r2.name, .int .i64 r2.kind, .int .i64 r2.size, .bool r2.little, vb, vn, vt, vk]) from (by rw [← HFS.out]; exact ho8)); have B8 := Lib.hid (show Below w5.heap.size w5 w8 from Below.grown (by first | ((repeat (first | with_reducible exact B6.out | with_reducible exact B8.out | with_reducible exact Below.refl _ _ | with_reducible refine Below.drew ?_ | with_reducible refine Below.alloc ?_ ?_ _ | with_reducible refine below_set ?_ ?_ _ | (show (_ : Nat) ≤ _; (try simp) <;> omega))); done) | fail) hg8 (by (try simp) <;> omega) (fun k hk => (O6.out.lt k hk).1)); have hz8 := B8.out.size; (try (have G8b := Lib.hid (show Box w8 (w5.heap.size + 1) 35 #[.slice none 0 0] from Box.grown_own (lo := w5.heap.size) (size := 8) (n := l.length) (e := 30) (xs := fs) (by first | ((repeat (first | with_reducible exact R6a.out | with_reducible exact R6b.out | with_reducible exact R6c.out | with_reducible exact G6a.out | with_reducible exact G6b.out | with_reducible exact G6c.out | with_reducible exact box_new0 _ _ _ | with_reducible exact box_new1 _ _ _ _ | with_reducible exact box_new2 _ _ _ _ _ | with_reducible refine Box.drew ?_ | with_reducible refine Box.alloc ?_ _)); done) | fail) (by first | ((repeat (first | with_reducible exact O6.out | with_reducible refine World.ownsRow.drew ?_ | with_reducible refine World.ownsRow.alloc ?_ _)); done) | fail) (by decide) hg8); have G8bc : w8.cell? ⟨(w5.heap.size + 1), 0, none⟩ = some (.slice none 0 0) := G8b.out.cell 0; have G8bf : w8.frozen? ⟨(w5.heap.size + 1), 0, none⟩ = false := G8b.out.frozen 0)); (try (have G8c := Lib.hid (show Box w8 (w5.heap.size + 1 + 1) 35 #[.slice none 0 0] from Box.grown_own (lo := w5.heap.size) (size := 8) (n := l.length) (e := 30) (xs := fs) (by first | ((repeat (first | with_reducible exact R6a.out | with_reducible exact R6b.out | with_reducible exact R6c.out | with_reducible exact G6a.out | with_reducible exact G6b.out | with_reducible exact G6c.out | with_reducible exact box_new0 _ _ _ | with_reducible exact box_new1 _ _ _ _ | with_reducible exact box_new2 _ _ _ _ _ | with_reducible refine Box.drew ?_ | with_reducible refine Box.alloc ?_ _)); done) | fail) (by first | ((repeat (first | with_reducible exact O6.out | with_reducible refine World.ownsRow.drew ?_ | with_reducible refine World.ownsRow.alloc ?_ _)); done) | fail) (by decide) hg8); have G8cc : w8.cell? ⟨(w5.heap.size + 1 + 1), 0, none⟩ = some (.slice none 0 0) := G8c.out.cell 0; have G8cf : w8.frozen? ⟨(w5.heap.size + 1 + 1), 0, none⟩ = false := G8c.out.frozen 0)); (try (have G8d := Lib.hid (show Box w8 w6.heap.size 35 #[.slice none 0 0] from Box.grown_own (lo := w5.heap.size) (size := 8) (n := l.length) (e := 30) (xs := fs) (by first | ((repeat (first | with_reducible exact R6a.out | with_reducible exact R6b.out | with_reducible exact R6c.out | with_reducible exact G6a.out | with_reducible exact G6b.out | with_reducible exact G6c.out | with_reducible exact box_new0 _ _ _ | with_reducible exact box_new1 _ _ _ _ | with_reducible exact box_new2 _ _ _ _ _ | with_reducible refine Box.drew ?_ | with_reducible refine Box.alloc ?_ _)); done) | fail) (by first | ((repeat (first | with_reducible exact O6.out | with_reducible refine World.ownsRow.drew ?_ | with_reducible refine World.ownsRow.alloc ?_ _)); done) | fail) (by decide) hg8); have G8dc : w8.cell? ⟨w6.heap.size, 0, none⟩ = some (.slice none 0 0) := G8d.out.cell 0; have G8df : w8.frozen? ⟨w6.heap.size, 0, none⟩ = false := G8d.out.frozen 0)); (try (have G8e := Lib.hid (show Box w8 (w6.heap.size + 1) 35 #[.slice none 0 0] from Box.grown_own (lo := w5.heap.size) (size := 8) (n := l.length) (e := 30) (xs := fs) (by first | ((repeat (first | with_reducible exact R6a.out | with_reducible exact R6b.out | with_reducible exact R6c.out | with_reducible exact G6a.out | with_reducible exact G6b.out | with_reducible exact G6c.out | with_reducible exact box_new0 _ _ _ | with_reducible exact box_new1 _ _ _ _ | with_reducible exact box_new2 _ _ _ _ _ | with_reducible refine Box.drew ?_ | with_reducible refine Box.alloc ?_ _)); done) | fail) (by first | ((repeat (first | with_reducible exact O6.out | with_reducible refine World.ownsRow.drew ?_ | with_reducible refine World.ownsRow.alloc ?_ _)); done) | fail) (by decide) hg8); have G8ec : w8.cell? ⟨(w6.heap.size + 1), 0, none⟩ = some (.slice none 0 0) := G8e.out.cell 0; have G8ef : w8.frozen? ⟨(w6.heap.size + 1), 0, none⟩ = false := G8e.out.frozen 0)); clear ho8 hg8 hp8) | (refine step_append_rd _ (by rfl) (.tmp 32) (.tmp 34) 33 (by rfl) w5.heap.size 30 i0 (.agg #[.string ⟨#[]⟩, .int .i64 0, .int .i64 0, .bool false, .slice none 0 0, .slice none 0 0, .slice none 0 0, .slice none 0 0]) 8 136 Tryz.underlying33 hif hz0 hz1 hz2 (by rfl) (by decide) (.slice A6 l.length c6) l.length fs (by rfl) (by first | ((repeat (first | with_reducible exact O6.out | with_reducible refine World.ownsRow.drew ?_ | with_reducible refine World.ownsRow.alloc ?_ _)); done) | fail) (.slice (some ⟨(w5.heap.size + 1), 0, none⟩) 1 1) 1 [.string r2.name, .int .i64 r2.kind, .int .i64 r2.size, .bool r2.little, vb, vn, vt, vk] (by rfl) (rd_box8 (T := 30) (by first | ((repeat (first | with_reducible exact R6a.out | with_reducible exact R6b.out | with_reducible exact R6c.out | with_reducible exact G6a.out | with_reducible exact G6b.out | with_reducible exact G6c.out | with_reducible exact box_new0 _ _ _ | with_reducible exact box_new1 _ _ _ _ | with_reducible exact box_new2 _ _ _ _ _ | with_reducible refine Box.drew ?_ | with_reducible refine Box.alloc ?_ _)); done) | fail)) RONE.out (by unfold maxLen; omega) (by omega) (by (try simp) <;> omega) ?_; intro v8 w8 ho8 hg8 hp8; obtain ⟨A8, c8, rfl⟩ : ∃ A c, v8 = .slice A (l.length + 1) c := (by obtain ⟨_, A, c, h, _⟩ := Rd.of_own ho8; exact ⟨A, c, h⟩); have O8 := Lib.hid (show w8.ownsRow w5.heap.size 30 8 (.slice A8 (l.length + 1) c8) (l.length + 1) (css.flatten ++ [.string r2.name, .int .i64 r2.kind, .int .i64 r2.size, .bool r2.little, vb, vn, vt, vk]) from (by rw [← HFS.out]; exact ho8)); have B8 := Lib.hid (show Below w5.heap.size w5 w8 from Below.grown (by first | ((repeat (first | with_reducible exact B6.out | with_reducible exact B8.out | with_reducible exact Below.refl _ _ | with_reducible refine Below.drew ?_ | with_reducible refine Below.alloc ?_ ?_ _ | with_reducible refine below_set ?_ ?_ _ | (show (_ : Nat) ≤ _; (try simp) <;> omega))); done) | fail) hg8 (by (try simp) <;> omega) (fun k hk => (O6.out.lt k hk).1)); have hz8 := B8.out.size; (try (have G8a := Lib.hid (show Box w8 w5.heap.size 35 #[.slice none 0 0] from Box.grown_own (lo := w5.heap.size) (size := 8) (n := l.length) (e := 30) (xs := fs) (by first | ((repeat (first | with_reducible exact R6a.out | with_reducible exact R6b.out | with_reducible exact R6c.out | with_reducible exact G6a.out | with_reducible exact G6b.out | with_reducible exact G6c.out | with_reducible exact box_new0 _ _ _ | with_reducible exact box_new1 _ _ _ _ | with_reducible exact box_new2 _ _ _ _ _ | with_reducible refine Box.drew ?_ | with_reducible refine Box.alloc ?_ _)); done) | fail) (by first | ((repeat (first | with_reducible exact O6.out | with_reducible refine World.ownsRow.drew ?_ | with_reducible refine World.ownsRow.alloc ?_ _)); done) | fail) (by decide) hg8); have G8ac : w8.cell? ⟨w5.heap.size, 0, none⟩ = some (.slice none 0 0) := G8a.out.cell 0; have G8af : w8.frozen? ⟨w5.heap.size, 0, none⟩ = false := G8a.out.frozen 0)); (try (have G8c := Lib.hid (show Box w8 (w5.heap.size + 1 + 1) 35 #[.slice none 0 0] from Box.grown_own (lo := w5.heap.size) (size := 8) (n := l.length) (e := 30) (xs := fs) (by first | ((repeat (first | with_reducible exact R6a.out | with_reducible exact R6b.out | with_reducible exact R6c.out | with_reducible exact G6a.out | with_reducible exact G6b.out | with_reducible exact G6c.out | with_reducible exact box_new0 _ _ _ | with_reducible exact box_new1 _ _ _ _ | with_reducible exact box_new2 _ _ _ _ _ | with_reducible refine Box.drew ?_ | with_reducible refine Box.alloc ?_ _)); done) | fail) (by first | ((repeat (first | with_reducible exact O6.out | with_reducible refine World.ownsRow.drew ?_ | with_reducible refine World.ownsRow.alloc ?_ _)); done) | fail) (by decide) hg8); have G8cc : w8.cell? ⟨(w5.heap.size + 1 + 1), 0, none⟩ = some (.slice none 0 0) := G8c.out.cell 0; have G8cf : w8.frozen? ⟨(w5.heap.size + 1 + 1), 0, none⟩ = false := G8c.out.frozen 0)); (try (have G8d := Lib.hid (show Box w8 w6.heap.size 35 #[.slice none 0 0] from Box.grown_own (lo := w5.heap.size) (size := 8) (n := l.length) (e := 30) (xs := fs) (by first | ((repeat (first | with_reducible exact R6a.out | with_reducible exact R6b.out | with_reducible exact R6c.out | with_reducible exact G6a.out | with_reducible exact G6b.out | with_reducible exact G6c.out | with_reducible exact box_new0 _ _ _ | with_reducible exact box_new1 _ _ _ _ | with_reducible exact box_new2 _ _ _ _ _ | with_reducible refine Box.drew ?_ | with_reducible refine Box.alloc ?_ _)); done) | fail) (by first | ((repeat (first | with_reducible exact O6.out | with_reducible refine World.ownsRow.drew ?_ | with_reducible refine World.ownsRow.alloc ?_ _)); done) | fail) (by decide) hg8); have G8dc : w8.cell? ⟨w6.heap.size, 0, none⟩ = some (.slice none 0 0) := G8d.out.cell 0; have G8df : w8.frozen? ⟨w6.heap.size, 0, none⟩ = false := G8d.out.frozen 0)); (try (have G8e := Lib.hid (show Box w8 (w6.heap.size + 1) 35 #[.slice none 0 0] from Box.grown_own (lo := w5.heap.size) (size := 8) (n := l.length) (e := 30) (xs := fs) (by first | ((repeat (first | with_reducible exact R6a.out | with_reducible exact R6b.out | with_reducible exact R6c.out | with_reducible exact G6a.out | with_reducible exact G6b.out | with_reducible exact G6c.out | with_reducible exact box_new0 _ _ _ | with_reducible exact box_new1 _ _ _ _ | with_reducible exact box_new2 _ _ _ _ _ | with_reducible refine Box.drew ?_ | with_reducible refine Box.alloc ?_ _)); done) | fail) (by first | ((repeat (first | with_reducible exact O6.out | with_reducible refine World.ownsRow.drew ?_ | with_reducible refine World.ownsRow.alloc ?_ _)); done) | fail) (by decide) hg8); have G8ec : w8.cell? ⟨(w6.heap.size + 1), 0, none⟩ = some (.slice none 0 0) := G8e.out.cell 0; have G8ef : w8.frozen? ⟨(w6.heap.size + 1), 0, none⟩ = false := G8e.out.frozen 0)); clear ho8 hg8 hp8) | (refine step_append_rd _ (by rfl) (.tmp 32) (.tmp 34) 33 (by rfl) w5.heap.size 30 i0 (.agg #[.string ⟨#[]⟩, .int .i64 0, .int .i64 0, .bool false, .slice none 0 0, .slice none 0 0, .slice none 0 0, .slice none 0 0]) 8 136 Tryz.underlying33 hif hz0 hz1 hz2 (by rfl) (by decide) (.slice A6 l.length c6) l.length fs (by rfl) (by first | ((repeat (first | with_reducible exact O6.out | with_reducible refine World.ownsRow.drew ?_ | with_reducible refine World.ownsRow.alloc ?_ _)); done) | fail) (.slice (some ⟨(w5.heap.size + 1 + 1), 0, none⟩) 1 1) 1 [.string r2.name, .int .i64 r2.kind, .int .i64 r2.size, .bool r2.little, vb, vn, vt, vk] (by rfl) (rd_box8 (T := 30) (by first | ((repeat (first | with_reducible exact R6a.out | with_reducible exact R6b.out | with_reducible exact R6c.out | with_reducible exact G6a.out | with_reducible exact G6b.out | with_reducible exact G6c.out | with_reducible exact box_new0 _ _ _ | with_reducible exact box_new1 _ _ _ _ | with_reducible exact box_new2 _ _ _ _ _ | with_reducible refine Box.drew ?_ | with_reducible refine Box.alloc ?_ _)); done) | fail)) RONE.out (by unfold maxLen; omega) (by omega) (by (try simp) <;> omega) ?_; intro v8 w8 ho8 hg8 hp8; obtain ⟨A8, c8, rfl⟩ : ∃ A c, v8 = .slice A (l.length + 1) c := (by obtain ⟨_, A, c, h, _⟩ := Rd.of_own ho8; exact ⟨A, c, h⟩); have O8 := Lib.hid (show w8.ownsRow w5.heap.size 30 8 (.slice A8 (l.length + 1) c8) (l.length + 1) (css.flatten ++ [.string r2.name, .int .i64 r2.kind, .int .i64 r2.size, .bool r2.little, vb, vn, vt, vk]) from (by rw [← HFS.out]; exact ho8)); have B8 := Lib.hid (show Below w5.heap.size w5 w8 from Below.grown (by first | ((repeat (first | with_reducible exact B6.out | with_reducible exact B8.out | with_reducible exact Below.refl _ _ | with_reducible refine Below.drew ?_ | with_reducible refine Below.alloc ?_ ?_ _ | with_reducible refine below_set ?_ ?_ _ | (show (_ : Nat) ≤ _; (try simp) <;> omega))); done) | fail) hg8 (by (try simp) <;> omega) (fun k hk => (O6.out.lt k hk).1)); have hz8 := B8.out.size; (try (have G8a := Lib.hid (show Box w8 w5.heap.size 35 #[.slice none 0 0] from Box.grown_own (lo := w5.heap.size) (size := 8) (n := l.length) (e := 30) (xs := fs) (by first | ((repeat (first | with_reducible exact R6a.out | with_reducible exact R6b.out | with_reducible exact R6c.out | with_reducible exact G6a.out | with_reducible exact G6b.out | with_reducible exact G6c.out | with_reducible exact box_new0 _ _ _ | with_reducible exact box_new1 _ _ _ _ | with_reducible exact box_new2 _ _ _ _ _ | with_reducible refine Box.drew ?_ | with_reducible refine Box.alloc ?_ _)); done) | fail) (by first | ((repeat (first | with_reducible exact O6.out | with_reducible refine World.ownsRow.drew ?_ | with_reducible refine World.ownsRow.alloc ?_ _)); done) | fail) (by decide) hg8); have G8ac : w8.cell? ⟨w5.heap.size, 0, none⟩ = some (.slice none 0 0) := G8a.out.cell 0; have G8af : w8.frozen? ⟨w5.heap.size, 0, none⟩ = false := G8a.out.frozen 0)); (try (have G8b := Lib.hid (show Box w8 (w5.heap.size + 1) 35 #[.slice none 0 0] from Box.grown_own (lo := w5.heap.size) (size := 8) (n := l.length) (e := 30) (xs := fs) (by first | ((repeat (first | with_reducible exact R6a.out | with_reducible exact R6b.out | with_reducible exact R6c.out | with_reducible exact G6a.out | with_reducible exact G6b.out | with_reducible exact G6c.out | with_reducible exact box_new0 _ _ _ | with_reducible exact box_new1 _ _ _ _ | with_reducible exact box_new2 _ _ _ _ _ | with_reducible refine Box.drew ?_ | with_reducible refine Box.alloc ?_ _)); done) | fail) (by first | ((repeat (first | with_reducible exact O6.out | with_reducible refine World.ownsRow.drew ?_ | with_reducible refine World.ownsRow.alloc ?_ _)); done) | fail) (by decide) hg8); have G8bc : w8.cell? ⟨(w5.heap.size + 1), 0, none⟩ = some (.slice none 0 0) := G8b.out.cell 0; have G8bf : w8.frozen? ⟨(w5.heap.size + 1), 0, none⟩ = false := G8b.out.frozen 0)); (try (have G8d := Lib.hid (show Box w8 w6.heap.size 35 #[.slice none 0 0] from Box.grown_own (lo := w5.heap.size) (size := 8) (n := l.length) (e := 30) (xs := fs) (by first | ((repeat (first | with_reducible exact R6a.out | with_reducible exact R6b.out | with_reducible exact R6c.out | with_reducible exact G6a.out | with_reducible exact G6b.out | with_reducible exact G6c.out | with_reducible exact box_new0 _ _ _ | with_reducible exact box_new1 _ _ _ _ | with_reducible exact box_new2 _ _ _ _ _ | with_reducible refine Box.drew ?_ | with_reducible refine Box.alloc ?_ _)); done) | fail) (by first | ((repeat (first | with_reducible exact O6.out | with_reducible refine World.ownsRow.drew ?_ | with_reducible refine World.ownsRow.alloc ?_ _)); done) | fail) (by decide) hg8); have G8dc : w8.cell? ⟨w6.heap.size, 0, none⟩ = some (.slice none 0 0) := G8d.out.cell 0; have G8df : w8.frozen? ⟨w6.heap.size, 0, none⟩ = false := G8d.out.frozen 0)); (try (have G8e := Lib.hid (show Box w8 (w6.heap.size + 1) 35 #[.slice none 0 0] from Box.grown_own (lo := w5.heap.size) (size := 8) (n := l.length) (e := 30) (xs := fs) (by first | ((repeat (first | with_reducible exact R6a.out | with_reducible exact R6b.out | with_reducible exact R6c.out | with_reducible exact G6a.out | with_reducible exact G6b.out | with_reducible exact G6c.out | with_reducible exact box_new0 _ _ _ | with_reducible exact box_new1 _ _ _ _ | with_reducible exact box_new2 _ _ _ _ _ | with_reducible refine Box.drew ?_ | with_reducible refine Box.alloc ?_ _)); done) | fail) (by first | ((repeat (first | with_reducible exact O6.out | with_reducible refine World.ownsRow.drew ?_ | with_reducible refine World.ownsRow.alloc ?_ _)); done) | fail) (by decide) hg8); have G8ec : w8.cell? ⟨(w6.heap.size + 1), 0, none⟩ = some (.slice none 0 0) := G8e.out.cell 0; have G8ef : w8.frozen? ⟨(w6.heap.size + 1), 0, none⟩ = false := G8e.out.frozen 0)); clear ho8 hg8 hp8) | (refine step_append_rd _ (by rfl) (.tmp 32) (.tmp 34) 33 (by rfl) w5.heap.size 30 i0 (.agg #[.string ⟨#[]⟩, .int .i64 0, .int .i64 0, .bool false, .slice none 0 0, .slice none 0 0, .slice none 0 0, .slice none 0 0]) 8 136 Tryz.underlying33 hif hz0 hz1 hz2 (by rfl) (by decide) (.slice A6 l.length c6) l.length fs (by rfl) (by first | ((repeat (first | with_reducible exact O6.out | with_reducible refine World.ownsRow.drew ?_ | with_reducible refine World.ownsRow.alloc ?_ _)); done) | fail) (.slice (some ⟨w6.heap.size, 0, none⟩) 1 1) 1 [.string r2.name, .int .i64 r2.kind, .int .i64 r2.size, .bool r2.little, vb, vn, vt, vk] (by rfl) (rd_box8 (T := 30) (by first | ((repeat (first | with_reducible exact R6a.out | with_reducible exact R6b.out | with_reducible exact R6c.out | with_reducible exact G6a.out | with_reducible exact G6b.out | with_reducible exact G6c.out | with_reducible exact box_new0 _ _ _ | with_reducible exact box_new1 _ _ _ _ | with_reducible exact box_new2 _ _ _ _ _ | with_reducible refine Box.drew ?_ | with_reducible refine Box.alloc ?_ _)); done) | fail)) RONE.out (by unfold maxLen; omega) (by omega) (by (try simp) <;> omega) ?_; intro v8 w8 ho8 hg8 hp8; obtain ⟨A8, c8, rfl⟩ : ∃ A c, v8 = .slice A (l.length + 1) c := (by obtain ⟨_, A, c, h, _⟩ := Rd.of_own ho8; exact ⟨A, c, h⟩); have O8 := Lib.hid (show w8.ownsRow w5.heap.size 30 8 (.slice A8 (l.length + 1) c8) (l.length + 1) (css.flatten ++ [.string r2.name, .int .i64 r2.kind, .int .i64 r2.size, .bool r2.little, vb, vn, vt, vk]) from (by rw [← HFS.out]; exact ho8)); have B8 := Lib.hid (show Below w5.heap.size w5 w8 from Below.grown (by first | ((repeat (first | with_reducible exact B6.out | with_reducible exact B8.out | with_reducible exact Below.refl _ _ | with_reducible refine Below.drew ?_ | with_reducible refine Below.alloc ?_ ?_ _ | with_reducible refine below_set ?_ ?_ _ | (show (_ : Nat) ≤ _; (try simp) <;> omega))); done) | fail) hg8 (by (try simp) <;> omega) (fun k hk => (O6.out.lt k hk).1)); have hz8 := B8.out.size; (try (have G8a := Lib.hid (show Box w8 w5.heap.size 35 #[.slice none 0 0] from Box.grown_own (lo := w5.heap.size) (size := 8) (n := l.length) (e := 30) (xs := fs) (by first | ((repeat (first | with_reducible exact R6a.out | with_reducible exact R6b.out | with_reducible exact R6c.out | with_reducible exact G6a.out | with_reducible exact G6b.out | with_reducible exact G6c.out | with_reducible exact box_new0 _ _ _ | with_reducible exact box_new1 _ _ _ _ | with_reducible exact box_new2 _ _ _ _ _ | with_reducible refine Box.drew ?_ | with_reducible refine Box.alloc ?_ _)); done) | fail) (by first | ((repeat (first | with_reducible exact O6.out | with_reducible refine World.ownsRow.drew ?_ | with_reducible refine World.ownsRow.alloc ?_ _)); done) | fail) (by decide) hg8); have G8ac : w8.cell? ⟨w5.heap.size, 0, none⟩ = some (.slice none 0 0) := G8a.out.cell 0; have G8af : w8.frozen? ⟨w5.heap.size, 0, none⟩ = false := G8a.out.frozen 0)); (try (have G8b := Lib.hid (show Box w8 (w5.heap.size + 1) 35 #[.slice none 0 0] from Box.grown_own (lo := w5.heap.size) (size := 8) (n := l.length) (e := 30) (xs := fs) (by first | ((repeat (first | with_reducible exact R6a.out | with_reducible exact R6b.out | with_reducible exact R6c.out | with_reducible exact G6a.out | with_reducible exact G6b.out | with_reducible exact G6c.out | with_reducible exact box_new0 _ _ _ | with_reducible exact box_new1 _ _ _ _ | with_reducible exact box_new2 _ _ _ _ _ | with_reducible refine Box.drew ?_ | with_reducible refine Box.alloc ?_ _)); done) | fail) (by first | ((repeat (first | with_reducible exact O6.out | with_reducible refine World.ownsRow.drew ?_ | with_reducible refine World.ownsRow.alloc ?_ _)); done) | fail) (by decide) hg8); have G8bc : w8.cell? ⟨(w5.heap.size + 1), 0, none⟩ = some (.slice none 0 0) := G8b.out.cell 0; have G8bf : w8.frozen? ⟨(w5.heap.size + 1), 0, none⟩ = false := G8b.out.frozen 0)); (try (have G8c := Lib.hid (show Box w8 (w5.heap.size + 1 + 1) 35 #[.slice none 0 0] from Box.grown_own (lo := w5.heap.size) (size := 8) (n := l.length) (e := 30) (xs := fs) (by first | ((repeat (first | with_reducible exact R6a.out | with_reducible exact R6b.out | with_reducible exact R6c.out | with_reducible exact G6a.out | with_reducible exact G6b.out | with_reducible exact G6c.out | with_reducible exact box_new0 _ _ _ | with_reducible exact box_new1 _ _ _ _ | with_reducible exact box_new2 _ _ _ _ _ | with_reducible refine Box.drew ?_ | with_reducible refine Box.alloc ?_ _)); done) | fail) (by first | ((repeat (first | with_reducible exact O6.out | with_reducible refine World.ownsRow.drew ?_ | with_reducible refine World.ownsRow.alloc ?_ _)); done) | fail) (by decide) hg8); have G8cc : w8.cell? ⟨(w5.heap.size + 1 + 1), 0, none⟩ = some (.slice none 0 0) := G8c.out.cell 0; have G8cf : w8.frozen? ⟨(w5.heap.size + 1 + 1), 0, none⟩ = false := G8c.out.frozen 0)); (try (have G8e := Lib.hid (show Box w8 (w6.heap.size + 1) 35 #[.slice none 0 0] from Box.grown_own (lo := w5.heap.size) (size := 8) (n := l.length) (e := 30) (xs := fs) (by first | ((repeat (first | with_reducible exact R6a.out | with_reducible exact R6b.out | with_reducible exact R6c.out | with_reducible exact G6a.out | with_reducible exact G6b.out | with_reducible exact G6c.out | with_reducible exact box_new0 _ _ _ | with_reducible exact box_new1 _ _ _ _ | with_reducible exact box_new2 _ _ _ _ _ | with_reducible refine Box.drew ?_ | with_reducible refine Box.alloc ?_ _)); done) | fail) (by first | ((repeat (first | with_reducible exact O6.out | with_reducible refine World.ownsRow.drew ?_ | with_reducible refine World.ownsRow.alloc ?_ _)); done) | fail) (by decide) hg8); have G8ec : w8.cell? ⟨(w6.heap.size + 1), 0, none⟩ = some (.slice none 0 0) := G8e.out.cell 0; have G8ef : w8.frozen? ⟨(w6.heap.size + 1), 0, none⟩ = false := G8e.out.frozen 0)); clear ho8 hg8 hp8) | (refine step_append_rd _ (by rfl) (.tmp 32) (.tmp 34) 33 (by rfl) w5.heap.size 30 i0 (.agg #[.string ⟨#[]⟩, .int .i64 0, .int .i64 0, .bool false, .slice none 0 0, .slice none 0 0, .slice none 0 0, .slice none 0 0]) 8 136 Tryz.underlying33 hif hz0 hz1 hz2 (by rfl) (by decide) (.slice A6 l.length c6) l.length fs (by rfl) (by first | ((repeat (first | with_reducible exact O6.out | with_reducible refine World.ownsRow.drew ?_ | with_reducible refine World.ownsRow.alloc ?_ _)); done) | fail) (.slice (some ⟨(w6.heap.size + 1), 0, none⟩) 1 1) 1 [.string r2.name, .int .i64 r2.kind, .int .i64 r2.size, .bool r2.little, vb, vn, vt, vk] (by rfl) (rd_box8 (T := 30) (by first | ((repeat (first | with_reducible exact R6a.out | with_reducible exact R6b.out | with_reducible exact R6c.out | with_reducible exact G6a.out | with_reducible exact G6b.out | with_reducible exact G6c.out | with_reducible exact box_new0 _ _ _ | with_reducible exact box_new1 _ _ _ _ | with_reducible exact box_new2 _ _ _ _ _ | with_reducible refine Box.drew ?_ | with_reducible refine Box.alloc ?_ _)); done) | fail)) RONE.out (by unfold maxLen; omega) (by omega) (by (try simp) <;> omega) ?_; intro v8 w8 ho8 hg8 hp8; obtain ⟨A8, c8, rfl⟩ : ∃ A c, v8 = .slice A (l.length + 1) c := (by obtain ⟨_, A, c, h, _⟩ := Rd.of_own ho8; exact ⟨A, c, h⟩); have O8 := Lib.hid (show w8.ownsRow w5.heap.size 30 8 (.slice A8 (l.length + 1) c8) (l.length + 1) (css.flatten ++ [.string r2.name, .int .i64 r2.kind, .int .i64 r2.size, .bool r2.little, vb, vn, vt, vk]) from (by rw [← HFS.out]; exact ho8)); have B8 := Lib.hid (show Below w5.heap.size w5 w8 from Below.grown (by first | ((repeat (first | with_reducible exact B6.out | with_reducible exact B8.out | with_reducible exact Below.refl _ _ | with_reducible refine Below.drew ?_ | with_reducible refine Below.alloc ?_ ?_ _ | with_reducible refine below_set ?_ ?_ _ | (show (_ : Nat) ≤ _; (try simp) <;> omega))); done) | fail) hg8 (by (try simp) <;> omega) (fun k hk => (O6.out.lt k hk).1)); have hz8 := B8.out.size; (try (have G8a := Lib.hid (show Box w8 w5.heap.size 35 #[.slice none 0 0] from Box.grown_own (lo := w5.heap.size) (size := 8) (n := l.length) (e := 30) (xs := fs) (by first | ((repeat (first | with_reducible exact R6a.out | with_reducible exact R6b.out | with_reducible exact R6c.out | with_reducible exact G6a.out | with_reducible exact G6b.out | with_reducible exact G6c.out | with_reducible exact box_new0 _ _ _ | with_reducible exact box_new1 _ _ _ _ | with_reducible exact box_new2 _ _ _ _ _ | with_reducible refine Box.drew ?_ | with_reducible refine Box.alloc ?_ _)); done) | fail) (by first | ((repeat (first | with_reducible exact O6.out | with_reducible refine World.ownsRow.drew ?_ | with_reducible refine World.ownsRow.alloc ?_ _)); done) | fail) (by decide) hg8); have G8ac : w8.cell? ⟨w5.heap.size, 0, none⟩ = some (.slice none 0 0) := G8a.out.cell 0; have G8af : w8.frozen? ⟨w5.heap.size, 0, none⟩ = false := G8a.out.frozen 0)); (try (have G8b := Lib.hid (show Box w8 (w5.heap.size + 1) 35 #[.slice none 0 0] from Box.grown_own (lo := w5.heap.size) (size := 8) (n := l.length) (e := 30) (xs := fs) (by first | ((repeat (first | with_reducible exact R6a.out | with_reducible exact R6b.out | with_reducible exact R6c.out | with_reducible exact G6a.out | with_reducible exact G6b.out | with_reducible exact G6c.out | with_reducible exact box_new0 _ _ _ | with_reducible exact box_new1 _ _ _ _ | with_reducible exact box_new2 _ _ _ _ _ | with_reducible refine Box.drew ?_ | with_reducible refine Box.alloc ?_ _)); done) | fail) (by first | ((repeat (first | with_reducible exact O6.out | with_reducible refine World.ownsRow.drew ?_ | with_reducible refine World.ownsRow.alloc ?_ _)); done) | fail) (by decide) hg8); have G8bc : w8.cell? ⟨(w5.heap.size + 1), 0, none⟩ = some (.slice none 0 0) := G8b.out.cell 0; have G8bf : w8.frozen? ⟨(w5.heap.size + 1), 0, none⟩ = false := G8b.out.frozen 0)); (try (have G8c := Lib.hid (show Box w8 (w5.heap.size + 1 + 1) 35 #[.slice none 0 0] from Box.grown_own (lo := w5.heap.size) (size := 8) (n := l.length) (e := 30) (xs := fs) (by first | ((repeat (first | with_reducible exact R6a.out | with_reducible exact R6b.out | with_reducible exact R6c.out | with_reducible exact G6a.out | with_reducible exact G6b.out | with_reducible exact G6c.out | with_reducible exact box_new0 _ _ _ | with_reducible exact box_new1 _ _ _ _ | with_reducible exact box_new2 _ _ _ _ _ | with_reducible refine Box.drew ?_ | with_reducible refine Box.alloc ?_ _)); done) | fail) (by first | ((repeat (first | with_reducible exact O6.out | with_reducible refine World.ownsRow.drew ?_ | with_reducible refine World.ownsRow.alloc ?_ _)); done) | fail) (by decide) hg8); have G8cc : w8.cell? ⟨(w5.heap.size + 1 + 1), 0, none⟩ = some (.slice none 0 0) := G8c.out.cell 0; have G8cf : w8.frozen? ⟨(w5.heap.size + 1 + 1), 0, none⟩ = false := G8c.out.frozen 0)); (try (have G8d := Lib.hid (show Box w8 w6.heap.size 35 #[.slice none 0 0] from Box.grown_own (lo := w5.heap.size) (size := 8) (n := l.length) (e := 30) (xs := fs) (by first | ((repeat (first | with_reducible exact R6a.out | with_reducible exact R6b.out | with_reducible exact R6c.out | with_reducible exact G6a.out | with_reducible exact G6b.out | with_reducible exact G6c.out | with_reducible exact box_new0 _ _ _ | with_reducible exact box_new1 _ _ _ _ | with_reducible exact box_new2 _ _ _ _ _ | with_reducible refine Box.drew ?_ | with_reducible refine Box.alloc ?_ _)); done) | fail) (by first | ((repeat (first | with_reducible exact O6.out | with_reducible refine World.ownsRow.drew ?_ | with_reducible refine World.ownsRow.alloc ?_ _)); done) | fail) (by decide) hg8); have G8dc : w8.cell? ⟨w6.heap.size, 0, none⟩ = some (.slice none 0 0) := G8d.out.cell 0; have G8df : w8.frozen? ⟨w6.heap.size, 0, none⟩ = false := G8d.out.frozen 0)); clear ho8 hg8 hp8) | fail)
            all_goals
              go_wp2_with fail
              go_meet
              first
                | with_reducible exact ⟨_, rfl, LSt.new (T := 30) BOTH.out B8.out O8.out⟩
                | ((with_reducible refine ⟨_, rfl, LSt.set BOTH.out B8.out O8.out G8a.out ?_⟩); omega)
                | ((with_reducible refine ⟨_, rfl, LSt.set BOTH.out B8.out O8.out G8b.out ?_⟩); omega)
                | ((with_reducible refine ⟨_, rfl, LSt.set BOTH.out B8.out O8.out G8c.out ?_⟩); omega)
                | ((with_reducible refine ⟨_, rfl, LSt.set BOTH.out B8.out O8.out G8d.out ?_⟩); omega)
                | ((with_reducible refine ⟨_, rfl, LSt.set BOTH.out B8.out O8.out G8e.out ?_⟩); omega)
          case rest =>
            obtain ⟨gl, rfl, A', c', hbl, hrl, hbe⟩ := hcut
            have P8 := Lib.hid (P5.out.step hbe)
            have X8 := Lib.hid (X5.out.below hbe)
            have R8 := Lib.hid (R5.out.below hbe)
            have HR8 := Lib.hid hrl
            have x8 := X8.out.cell 0
            have l8 := hbl.cell 0
            have B8 := Lib.hid (Below.then_ B2.out P8.out.be (Nat.le_refl _))
            have hlr : (l ++ [r2]).length = l.length + 1 := by simp
            rw [HL2.out] at hlen2
            have hfit' : ∀ r ∈ l ++ [r2], RuleFits r := fun r hr => by
              rcases List.mem_append.1 hr with hr | hr
              · exact HFIT.out r hr
              · have : r = r2 := by simpa using hr
                rw [this]; exact HFIT2.out.fits
            have hsm' : ∀ r ∈ l ++ [r2], RuleSmall r := fun r hr => by
              rcases List.mem_append.1 hr with hr | hr
              · exact HSM.out r hr
              · have : r = r2 := by simpa using hr
                rw [this]
                obtain ⟨a1, a2, a3, a4⟩ := hlen2
                have b1 : (rule0 ws).kids.length = 0 := rfl
                have b2 : (rule0 ws).names.length = 0 := rfl
                have b3 : (rule0 ws).tags.length = 0 := rfl
                exact ⟨a4, by omega, by omega, by omega⟩
            have hnf' : NamesFit (l ++ [r2]) := fun r hr => by
              rcases List.mem_append.1 hr with hr | hr
              · exact HNF.out r hr
              · have : r = r2 := by simpa using hr
                rw [this]; exact HFIT2.out.name
            have fr := fun w ht hd => i_FormatRule (.agg #[.slice A' (l.length + 1) c']) (l ++ [r2]) (l.length : Int) ⟨by omega, by omega⟩ hfit' hsm' hnf' w ht hd
            obtain ⟨p, hp⟩ : ∃ p, p = mkS (lineL (l ++ [r2]) (l.length : Int)) := ⟨_, rfl⟩
            rw [← hp] at fr
            obtain ⟨q, hq⟩ : ∃ q, q = mkS (Lib.join ws [32]) := ⟨_, rfl⟩
            have jt := fun w h => i_JoinText (.slice (some ⟨bn, on, none⟩) n cw) ws [32] (by rw [← HNW.out]; omega) HWF.out w h
            rw [← hq] at jt
            have FR := Lib.hid fr
            have JT := Lib.hid jt
            have HPP := Lib.hid hp
            have HQQ := Lib.hid hq
            clear hbl hrl hbe hlr hfit' hsm' hnf' fr jt hp hq hlen2
            go_wp2_with fail
            refine (FR.out _ (HT.out.below B8.out) ⟨_, rfl, HR8.out⟩).mono ?_
            rintro e w9 ⟨rfl, hb9⟩
            have B9 := Lib.hid (Below.then_ B8.out hb9 (Nat.le_refl _))
            have P9 := Lib.hid (P8.out.step hb9)
            have R9 := Lib.hid (R8.out.below hb9)
            clear hb9 x8 l8
            go_wp2_with fail
            refine (JT.out _ (by have h := RW.out.below P9.out.be; rw [HNW.out] at h ⊢; exact h)).mono ?_
            rintro e w10 ⟨rfl, hb10⟩
            have B10 := Lib.hid (Below.then_ B9.out hb10 (Nat.le_refl _))
            have P10 := Lib.hid (P9.out.step hb10)
            have R10 := Lib.hid (R9.out.below hb10)
            clear hb10
            by_cases heq : lineL (l ++ [r2]) (l.length : Int) = Lib.join ws [32]
            · have HE : Hid (O = some r2) := by show _ = _; rw [hHP2.out]; unfold lineOk; rw [if_pos heq]
              have hpq : Hid (p = q) := by show _ = _; rw [HPP.out, HQQ.out, heq]
              have n1 : (p.toList == q.toList) = true := by rw [hpq.out]; simp
              have n2 : (p.toList != q.toList) = false := by rw [hpq.out]; simp
              obtain ⟨ub, un, ut, uk, hx10, h410⟩ := P10.out.st
              obtain ⟨_, Ab, cb, rfl, _, _, _⟩ := Rd.of_own h410.b
              obtain ⟨_, An, cn, rfl, _, _, _⟩ := Rd.of_own h410.n
              obtain ⟨_, At, ct, rfl, _, _, _⟩ := Rd.of_own h410.t
              obtain ⟨_, Ak, ck, rfl, _, _, _⟩ := Rd.of_own h410.k
              have H410 := Lib.hid h410
              clear heq
              have y0 : w10.cell? ⟨gr, 0, none⟩ = some (.string r2.name) := hx10.cell 0
              have y1 : w10.cell? ⟨gr, 1, none⟩ = some (.int .i64 r2.kind) := hx10.cell 1
              have y2 : w10.cell? ⟨gr, 2, none⟩ = some (.int .i64 r2.size) := hx10.cell 2
              have y3 : w10.cell? ⟨gr, 3, none⟩ = some (.bool r2.little) := hx10.cell 3
              have y4 : w10.cell? ⟨gr, 4, none⟩ = some (.slice Ab r2.bytes.length cb) := hx10.cell 4
              have y5 : w10.cell? ⟨gr, 5, none⟩ = some (.slice An r2.names.length cn) := hx10.cell 5
              have y6 : w10.cell? ⟨gr, 6, none⟩ = some (.slice At r2.tags.length ct) := hx10.cell 6
              have y7 : w10.cell? ⟨gr, 7, none⟩ = some (.slice Ak r2.kids.length ck) := hx10.cell 7
              have z0 : w10.cell? ⟨w.heap.size + 1, 0, none⟩ = some (.string ⟨#[]⟩) := R10.out.cell 0
              have z1 : w10.cell? ⟨w.heap.size + 1, 1, none⟩ = some (.int .i64 0) := R10.out.cell 1
              have z2 : w10.cell? ⟨w.heap.size + 1, 2, none⟩ = some (.int .i64 0) := R10.out.cell 2
              have z3 : w10.cell? ⟨w.heap.size + 1, 3, none⟩ = some (.bool false) := R10.out.cell 3
              have z4 : w10.cell? ⟨w.heap.size + 1, 4, none⟩ = some (.slice none 0 0) := R10.out.cell 4
              have z5 : w10.cell? ⟨w.heap.size + 1, 5, none⟩ = some (.slice none 0 0) := R10.out.cell 5
              have z6 : w10.cell? ⟨w.heap.size + 1, 6, none⟩ = some (.slice none 0 0) := R10.out.cell 6
              have z7 : w10.cell? ⟨w.heap.size + 1, 7, none⟩ = some (.slice none 0 0) := R10.out.cell 7
              have q0 : w10.frozen? ⟨w.heap.size + 1, 0, none⟩ = false := R10.out.frozen 0
              have q1 : w10.frozen? ⟨w.heap.size + 1, 1, none⟩ = false := R10.out.frozen 1
              have q2 : w10.frozen? ⟨w.heap.size + 1, 2, none⟩ = false := R10.out.frozen 2
              have q3 : w10.frozen? ⟨w.heap.size + 1, 3, none⟩ = false := R10.out.frozen 3
              have q4 : w10.frozen? ⟨w.heap.size + 1, 4, none⟩ = false := R10.out.frozen 4
              have q5 : w10.frozen? ⟨w.heap.size + 1, 5, none⟩ = false := R10.out.frozen 5
              have q6 : w10.frozen? ⟨w.heap.size + 1, 6, none⟩ = false := R10.out.frozen 6
              have q7 : w10.frozen? ⟨w.heap.size + 1, 7, none⟩ = false := R10.out.frozen 7
              clear hx10 h410
              go_wp2_with fail
              refine bodyPost_ret (v := .tuple #[.agg (rCells r2 (.slice Ab r2.bytes.length cb) (.slice An r2.names.length cn) (.slice At r2.tags.length ct) (.slice Ak r2.kids.length ck)), .bool true]) (by simp [results, Tryz.results11, go_sem, z0, z1, z2, z3, z4, z5, z6, z7, rCells]) rfl ?_
              exact MadeR.yes HE.out ((H410.out.mono B2.out.size).all8 R10.out) (Below.all8 B10.out (by omega) _ _ _ _ _ _ _ _)
            · have hfin : Hid (O = none) := by show _ = _; rw [hHP2.out]; unfold lineOk; rw [if_neg heq]
              have hpq : Hid (p ≠ q) := fun e => heq (mkS_inj (by rw [← HPP.out, ← HQQ.out]; exact e))
              have n1 : (p.toList == q.toList) = false := str_ne hpq.out
              have n2 : (p.toList != q.toList) = true := by rw [bne, n1]; rfl
              clear heq
              have z0 : w10.cell? ⟨w.heap.size + 1, 0, none⟩ = some (.string ⟨#[]⟩) := R10.out.cell 0
              have z1 : w10.cell? ⟨w.heap.size + 1, 1, none⟩ = some (.int .i64 0) := R10.out.cell 1
              have z2 : w10.cell? ⟨w.heap.size + 1, 2, none⟩ = some (.int .i64 0) := R10.out.cell 2
              have z3 : w10.cell? ⟨w.heap.size + 1, 3, none⟩ = some (.bool false) := R10.out.cell 3
              have z4 : w10.cell? ⟨w.heap.size + 1, 4, none⟩ = some (.slice none 0 0) := R10.out.cell 4
              have z5 : w10.cell? ⟨w.heap.size + 1, 5, none⟩ = some (.slice none 0 0) := R10.out.cell 5
              have z6 : w10.cell? ⟨w.heap.size + 1, 6, none⟩ = some (.slice none 0 0) := R10.out.cell 6
              have z7 : w10.cell? ⟨w.heap.size + 1, 7, none⟩ = some (.slice none 0 0) := R10.out.cell 7
              have q0 : w10.frozen? ⟨w.heap.size + 1, 0, none⟩ = false := R10.out.frozen 0
              have q1 : w10.frozen? ⟨w.heap.size + 1, 1, none⟩ = false := R10.out.frozen 1
              have q2 : w10.frozen? ⟨w.heap.size + 1, 2, none⟩ = false := R10.out.frozen 2
              have q3 : w10.frozen? ⟨w.heap.size + 1, 3, none⟩ = false := R10.out.frozen 3
              have q4 : w10.frozen? ⟨w.heap.size + 1, 4, none⟩ = false := R10.out.frozen 4
              have q5 : w10.frozen? ⟨w.heap.size + 1, 5, none⟩ = false := R10.out.frozen 5
              have q6 : w10.frozen? ⟨w.heap.size + 1, 6, none⟩ = false := R10.out.frozen 6
              have q7 : w10.frozen? ⟨w.heap.size + 1, 7, none⟩ = false := R10.out.frozen 7
              go_wp2_with fail
              refine bodyPost_ret (v := .tuple #[.agg #[.string ⟨#[]⟩, .int .i64 0, .int .i64 0, .bool false, .slice none 0 0, .slice none 0 0, .slice none 0 0, .slice none 0 0], .bool false]) (by simp [results, Tryz.results11, go_sem, z0, z1, z2, z3, z4, z5, z6, z7]) rfl ?_
              exact MadeR.no hfin.out (Below.all8 B10.out (by omega) _ _ _ _ _ _ _ _)


end Go.Proofs.YtkjjgpkegihmhaaGreatDoor
