/-
  ParseRule of the reference.
-/
import Derived.Test.YtkjjgpkegihmhaaGreatDoorArgs7
import Derived.Test.YtkjjgpkegihmhaaGreatDoorGH
import Derived.Test.YtkjjgpkegihmhaaGreatDoorGE
import Derived.Test.YtkjjgpkegihmhaaGreatDoorGD
import Derived.Test.YtkjjgpkegihmhaaGreatDoorFmtS
import Derived.Deep.RegionHeld3
import Derived.Deep.DeepCutAuto
import Derived.BigGuard
namespace Go.Proofs.YtkjjgpkegihmhaaGreatDoor
open Go.RowKit
set_option linter.unusedVariables false

theorem kindUpto_ten (s : ByteArray) : kindUpto s 10 = kindOf s := rfl

set_option maxRecDepth 100000 in
set_option maxHeartbeats 20000000 in
theorem s_ParseRule (d : Value) (l : List RuleD) (s : ByteArray) (hs : s.size ≤ 1048576) (hln : l.length ≤ 1048576) (hfit : ∀ r ∈ l, RuleFits r) (hsm : ∀ r ∈ l, RuleSmall r) (hnf : NamesFit l) (w : World) (ht : Tab w) (hd : RdDesc w d l) :
    Calls Tryz.prog 9 #[d, .string s] w (MadeR (parseI l s.data.toList) w) := by
  obtain ⟨v, rfl, hdv⟩ := hd
  obtain ⟨A, c, rfl, hnc, hcm, hcell⟩ := hdv.all
  unfold maxLen at hcm
  have HV := Lib.hid hdv
  have HT := Lib.hid ht
  have HFIT := Lib.hid hfit
  have HSM := Lib.hid hsm
  have HNF := Lib.hid hnf
  have HS := Lib.hid hs
  obtain ⟨O, hO⟩ : ∃ O, O = parseI l s.data.toList := ⟨_, rfl⟩
  rw [← hO]
  have HO : Hid (O = parseS l s.data.toList) := by show _ = _; rw [parse_same]; exact hO
  obtain ⟨w1, hw1⟩ : ∃ w1, w1 = (w.alloc (.cells #[.slice A l.length c] 35)).alloc (.cells #[.string ⟨#[]⟩, .int .i64 0, .int .i64 0, .bool false, .slice none 0 0, .slice none 0 0, .slice none 0 0, .slice none 0 0] 30) := ⟨_, rfl⟩
  have X1 := Lib.hid (show Box w1 w.heap.size 35 #[.slice A l.length c] by rw [hw1]; exact (Box.new w _ _).alloc _)
  have R1 := Lib.hid (show Box w1 (w.heap.size + 1) 30 #[.string ⟨#[]⟩, .int .i64 0, .int .i64 0, .bool false, .slice none 0 0, .slice none 0 0, .slice none 0 0, .slice none 0 0] by rw [hw1]; exact box_new1 w _ _ _)
  have B1 := Lib.hid (show Below w.heap.size w w1 by rw [hw1]; exact ((Below.refl _ _).alloc (Nat.le_refl _) _).alloc (by simp) _)
  have W1 := Lib.hid hw1
  have wo := fun w => s_Words s (by omega) w
  have cd := fun w hd => s_CopyDescription (.agg #[.slice A l.length c]) l (by omega) hsm w hd
  have CD := Lib.hid cd
  obtain ⟨ws, hws⟩ : ∃ ws, ws = wordsL s.data.toList := ⟨_, rfl⟩
  have HWF := Lib.hid (words_fit hs)
  have HSZ2 := Lib.hid (words_sizes hs)
  have HF0 := Lib.hid (rule0_fit hs)
  have hwl := wordsL_len s.data.toList
  rw [len_of] at hwl
  rw [← hws] at wo HWF HSZ2 HF0 hwl
  obtain ⟨n, hn⟩ : ∃ n, n = (tS ws).length := ⟨_, rfl⟩
  rw [← hn] at wo
  have hnw : n = ws.length := by rw [hn, tS_len]
  have hnb : n ≤ 1048577 := by omega
  have WO := Lib.hid wo
  have HWS := Lib.hid hws
  have HN := Lib.hid hn
  have HNW := Lib.hid hnw
  obtain ⟨i0, hif, hz0, hz1, hz2⟩ := info_parts info_Rule
  clear hcell hdv hO hw1 wo hws hn hnw hwl hfit hsm hnf hs ht cd
  go_enter Tryz.func9, Tryz.ntmps9
  go_wp2_with fail
  rw [← W1.out]
  refine (WO.out _).mono ?_
  rintro e w2 ⟨vw, rfl, hvw, hb2⟩
  have hrw := Rd.of_own hvw
  obtain ⟨_, Aw, cw, rfl, hwc, hwm, _⟩ := id hrw
  unfold maxLen at hwm
  have RW := Lib.hid hrw
  have B2 := Lib.hid (Below.then_ B1.out hb2 (Nat.le_refl _))
  have X2 := Lib.hid (X1.out.below hb2)
  have R2 := Lib.hid (R1.out.below hb2)
  have hZ2 : w.heap.size + 1 < w2.heap.size := R2.out.lt
  clear hvw hb2 hrw
  by_cases h3 : n < 3
  · have hfin : Hid (O = none) := by show _ = _; rw [HO.out]; unfold parseS; rw [if_pos (by rw [← HWS.out, ← HNW.out]; exact h3)]
    have hni : decide ((n : Int) < 3) = true := by simp; omega
    have z0 : w2.cell? ⟨w.heap.size + 1, 0, none⟩ = some (.string ⟨#[]⟩) := R2.out.cell 0
    have z1 : w2.cell? ⟨w.heap.size + 1, 1, none⟩ = some (.int .i64 0) := R2.out.cell 1
    have z2 : w2.cell? ⟨w.heap.size + 1, 2, none⟩ = some (.int .i64 0) := R2.out.cell 2
    have z3 : w2.cell? ⟨w.heap.size + 1, 3, none⟩ = some (.bool false) := R2.out.cell 3
    have z4 : w2.cell? ⟨w.heap.size + 1, 4, none⟩ = some (.slice none 0 0) := R2.out.cell 4
    have z5 : w2.cell? ⟨w.heap.size + 1, 5, none⟩ = some (.slice none 0 0) := R2.out.cell 5
    have z6 : w2.cell? ⟨w.heap.size + 1, 6, none⟩ = some (.slice none 0 0) := R2.out.cell 6
    have z7 : w2.cell? ⟨w.heap.size + 1, 7, none⟩ = some (.slice none 0 0) := R2.out.cell 7
    have q0 : w2.frozen? ⟨w.heap.size + 1, 0, none⟩ = false := R2.out.frozen 0
    have q1 : w2.frozen? ⟨w.heap.size + 1, 1, none⟩ = false := R2.out.frozen 1
    have q2 : w2.frozen? ⟨w.heap.size + 1, 2, none⟩ = false := R2.out.frozen 2
    have q3 : w2.frozen? ⟨w.heap.size + 1, 3, none⟩ = false := R2.out.frozen 3
    have q4 : w2.frozen? ⟨w.heap.size + 1, 4, none⟩ = false := R2.out.frozen 4
    have q5 : w2.frozen? ⟨w.heap.size + 1, 5, none⟩ = false := R2.out.frozen 5
    have q6 : w2.frozen? ⟨w.heap.size + 1, 6, none⟩ = false := R2.out.frozen 6
    have q7 : w2.frozen? ⟨w.heap.size + 1, 7, none⟩ = false := R2.out.frozen 7
    go_wp2_with fail
    refine bodyPost_ret (v := .tuple #[.agg #[.string ⟨#[]⟩, .int .i64 0, .int .i64 0, .bool false, .slice none 0 0, .slice none 0 0, .slice none 0 0, .slice none 0 0], .bool false]) (by simp [results, Tryz.results9, go_sem, z0, z1, z2, z3, z4, z5, z6, z7]) rfl ?_
    exact MadeR.no hfin.out (Below.all8 B2.out (by omega) _ _ _ _ _ _ _ _)
  · have hni : decide ((n : Int) < 3) = false := by simp; omega
    have HP : Hid (O = (argsS l (rule0 ws) (tS (ws.drop 2))).bind (lineOk l ws)) := by show _ = _; rw [HO.out]; unfold parseS; rw [if_neg (by rw [← HWS.out, ← HNW.out]; omega), ← HWS.out]
    obtain ⟨bn, on, rfl, hnc⟩ := texts_at (by have h := RW.out; rw [HN.out] at h; exact h) (by rw [← HN.out]; omega)
    obtain ⟨t0, ht0⟩ : ∃ t0, t0 = mkS (ws.getD 0 []) := ⟨_, rfl⟩
    obtain ⟨t1, ht1⟩ : ∃ t1, t1 = mkS (ws.getD 1 []) := ⟨_, rfl⟩
    have y0 : w2.cell? ⟨bn, on, none⟩ = some (.string t0) := by
      have h := hnc 0 (by rw [← HN.out]; omega)
      rw [ht0]
      have hl := HNW.out
      cases ws with
      | nil => simp at hl; omega
      | cons a b => simpa [tS] using h
    have y1 : w2.cell? ⟨bn, on + 1, none⟩ = some (.string t1) := by
      have h := hnc 1 (by rw [← HN.out]; omega)
      rw [ht1]
      have hl := HNW.out
      cases ws with
      | nil => simp at hl; omega
      | cons a b =>
        cases b with
        | nil => simp at hl; omega
        | cons b b' => simpa [tS] using h
    have HT0 := Lib.hid ht0
    have HT1 := Lib.hid ht1
    have HY0 := Lib.hid y0
    have HY1 := Lib.hid y1
    have hT0s : t0.size ≤ 1048576 := by have h := HF0.out.name; rw [ht0]; exact h
    have hR0 : Hid (rule0 ws = ⟨t0, kindOf t1, 0, false, [], [], [], []⟩) := by show _ = _; rw [HT0.out, HT1.out]; rfl
    have d0 : decide ((0 : Int) < (n : Int)) = true := by simp; omega
    have d1 : decide ((1 : Int) < (n : Int)) = true := by simp; omega
    have g0 : (0 : Int) < (n : Int) := by omega
    have g1 : (1 : Int) < (n : Int) := by omega
    obtain ⟨g, hg⟩ : ∃ g, g = w2.heap.size := ⟨_, rfl⟩
    have HG := Lib.hid hg
    obtain ⟨w3, hw3⟩ : ∃ w3, w3 = w2.alloc (.cells #[.string t0, .int .i64 0, .int .i64 0, .bool false, .slice none 0 0, .slice none 0 0, .slice none 0 0, .slice none 0 0] 30) := ⟨_, rfl⟩
    have G3 := Lib.hid (show Box w3 g 30 #[.string t0, .int .i64 (kindUpto t1 0), .int .i64 0, .bool false, .slice none 0 0, .slice none 0 0, .slice none 0 0, .slice none 0 0] by rw [hw3, hg]; exact Box.new _ _ _)
    have B23 := Lib.hid (show Below w2.heap.size w2 w3 by rw [hw3]; exact (Below.refl _ _).alloc (Nat.le_refl _) _)
    have W3 := Lib.hid hw3
    clear hnc ht0 ht1 hg hw3
    go_wp2_with fail
    rw [← W3.out, ← HG.out]
    clear y0
    go_loopw [8] (fun i wr => ∃ k : Nat, k ≤ 10 ∧ i = .int .i64 ((k : Int) + 1) ∧ Box wr g 30 #[.string t0, .int .i64 (kindUpto t1 k), .int .i64 0, .bool false, .slice none 0 0, .slice none 0 0, .slice none 0 0, .slice none 0 0] ∧ Below w2.heap.size w2 wr) (fun i _ => 11 - (intOf i).toNat)
    case atStart => exact ⟨0, by omega, rfl, G3.out, B23.out⟩
    case round =>
      obtain ⟨k, hk, rfl, hbx, hbr⟩ := hrel
      have GR := Lib.hid hbx
      have BR := Lib.hid hbr
      have ny := cell_after HY1.out hbr
      have k1 : wr.cell? ⟨g, 1, none⟩ = some (.int .i64 (kindUpto t1 k)) := hbx.cell 1
      have k1f : wr.frozen? ⟨g, 1, none⟩ = false := hbx.frozen 1
      clear hbx hbr y1
      by_cases hlt : k < 10
      · have dk : decide ((k : Int) + 1 ≤ 10) = true := by simp; omega
        obtain ⟨nm, hnm⟩ : ∃ nm, nm = kindNat (k + 1) := ⟨_, rfl⟩
        have kn := fun w => s_KindName ((k : Int) + 1) w
        rw [kindName_nat, ← hnm] at kn
        have L1 := Lib.hid (fun x : Later wr => Calls.later (kn x.world))
        have HNM := Lib.hid hnm
        have lb := later_cell ny
        have hst := kindUpto_step t1 k
        rw [← hnm] at hst
        have HST := Lib.hid hst
        clear kn hnm hst
        by_cases he : nm = t1
        · have hq : (nm.toList == t1.toList) = true := by rw [he]; simp
          have HE : Hid (kindUpto t1 (k + 1) = (k : Int) + 1) := by show _ = _; rw [HST.out, if_pos he]
          clear he
          go_wp2_with fail
          refine wp_region_later (by kernel_rfl) (by kernel_rfl) ?_
          repeat (go_big_quiet_step ((go_at_call 32; with_reducible exact L1.out _)))
          refine wpQuiet_nil ?_
          intro w5 hb5
          have G5 := Lib.hid (GR.out.below hb5)
          have B5 := Lib.hid (Below.then_ BR.out hb5 (Nat.le_refl _))
          have c5 : w5.cell? ⟨g, 1, none⟩ = some (.int .i64 (kindUpto t1 k)) := G5.out.cell 1
          have f5 : w5.frozen? ⟨g, 1, none⟩ = false := G5.out.frozen 1
          clear hb5 ny lb k1 k1f
          go_wp2_with fail
          go_roundw
          case rel => exact ⟨k + 1, by omega, by simp, by rw [HE.out]; exact G5.out.set 1 _, below_set B5.out (by rw [HG.out]; exact Nat.le_refl _) _⟩
          case measure => simp [intOf]; omega
        · have hq : (nm.toList == t1.toList) = false := str_ne he
          have HE : Hid (kindUpto t1 (k + 1) = kindUpto t1 k) := by show _ = _; rw [HST.out, if_neg he]
          clear he
          go_wp2_with fail
          refine wp_region_later (by kernel_rfl) (by kernel_rfl) ?_
          repeat (go_big_quiet_step ((go_at_call 32; with_reducible exact L1.out _)))
          refine wpQuiet_nil ?_
          intro w5 hb5
          have G5 := Lib.hid (GR.out.below hb5)
          have B5 := Lib.hid (Below.then_ BR.out hb5 (Nat.le_refl _))
          clear hb5 ny lb k1 k1f
          go_wp2_with fail
          go_roundw
          case rel => exact ⟨k + 1, by omega, by simp, by rw [HE.out]; exact G5.out, B5.out⟩
          case measure => simp [intOf]; omega
      · obtain rfl : k = 10 := by omega
        obtain ⟨kd, hkd⟩ : ∃ kd, kd = kindOf t1 := ⟨_, rfl⟩
        have hkr := kindOf_range t1
        rw [← hkd] at hkr hR0
        have GK := GR
        rw [kindUpto_ten, ← hkd] at GK k1
        have XK := Lib.hid (X2.out.below BR.out)
        have RK := Lib.hid (R2.out.below BR.out)
        have BK := Lib.hid (Below.then_ B2.out BR.out (Nat.le_refl _))
        have x3 : wr.cell? ⟨w.heap.size, 0, none⟩ = some (.slice A l.length c) := XK.out.cell 0
        have y0 : wr.cell? ⟨g, 0, none⟩ = some (.string t0) := GK.out.cell 0
        have f0 : wr.frozen? ⟨g, 0, none⟩ = false := GK.out.frozen 0
        have y1 : wr.cell? ⟨g, 1, none⟩ = some (.int .i64 kd) := GK.out.cell 1
        have f1 : wr.frozen? ⟨g, 1, none⟩ = false := GK.out.frozen 1
        have y2 : wr.cell? ⟨g, 2, none⟩ = some (.int .i64 0) := GK.out.cell 2
        have f2 : wr.frozen? ⟨g, 2, none⟩ = false := GK.out.frozen 2
        have y3 : wr.cell? ⟨g, 3, none⟩ = some (.bool false) := GK.out.cell 3
        have f3 : wr.frozen? ⟨g, 3, none⟩ = false := GK.out.frozen 3
        have y4 : wr.cell? ⟨g, 4, none⟩ = some (.slice none 0 0) := GK.out.cell 4
        have f4 : wr.frozen? ⟨g, 4, none⟩ = false := GK.out.frozen 4
        have y5 : wr.cell? ⟨g, 5, none⟩ = some (.slice none 0 0) := GK.out.cell 5
        have f5 : wr.frozen? ⟨g, 5, none⟩ = false := GK.out.frozen 5
        have y6 : wr.cell? ⟨g, 6, none⟩ = some (.slice none 0 0) := GK.out.cell 6
        have f6 : wr.frozen? ⟨g, 6, none⟩ = false := GK.out.frozen 6
        have y7 : wr.cell? ⟨g, 7, none⟩ = some (.slice none 0 0) := GK.out.cell 7
        have f7 : wr.frozen? ⟨g, 7, none⟩ = false := GK.out.frozen 7
        have e1 : (0 : Int) ≤ 2 := by omega
        have e2 : (2 : Int) ≤ (n : Int) := by omega
        have e3 : (2 : Int) ≤ (cw : Int) := by omega
        have hB2 := Rd.back_if (k := 2) (xs := tS ws) RW.out hwc (by unfold maxLen; omega) (by omega)
        rw [Option.map_some] at hB2
        obtain ⟨B, hB⟩ : ∃ B, (if cw = 2 then some (⟨bn, on, none⟩ : Addr) else some ⟨bn, on + 2, none⟩) = B := ⟨_, rfl⟩
        rw [hB] at hB2
        have HB2 := Lib.hid hB2
        have hl2 : (tS (ws.drop 2)).length = n - 2 := by rw [tS_len, List.length_drop, ← HNW.out]
        have HL2 := Lib.hid hl2
        have hdr : tS (ws.drop 2) = (tS ws).drop 2 := by unfold tS; rw [List.map_drop]
        have HDR := Lib.hid hdr
        obtain ⟨oa, hoa⟩ : ∃ oa, oa = argsS l (rule0 ws) (tS (ws.drop 2)) := ⟨_, rfl⟩
        have HPA : Hid (O = oa.bind (lineOk l ws)) := by show _ = _; rw [HP.out, hoa]
        have la := fun va w3 hd hv => s_l6Args (.agg #[.slice A l.length c]) l t0 kd va (tS (ws.drop 2)) hT0s hkr (by rw [hl2]; omega) (by rw [hl2]; omega) (fun s hm => HSZ2.out s hm) (by omega) w3 hd hv
        rw [← hR0.out, ← hoa] at la
        have LA := Lib.hid la
        have KEEP := Lib.hid (show ∀ W, Below wr.heap.size wr W → W.cell? ⟨w.heap.size, 0, none⟩ = some (.slice A l.length c) ∧ W.cell? ⟨g, 0, none⟩ = some (.string t0) ∧ W.cell? ⟨g, 1, none⟩ = some (.int .i64 kd) ∧ W.cell? ⟨g, 2, none⟩ = some (.int .i64 0) ∧ W.cell? ⟨g, 3, none⟩ = some (.bool false) ∧ W.cell? ⟨g, 4, none⟩ = some (.slice none 0 0) ∧ W.cell? ⟨g, 5, none⟩ = some (.slice none 0 0) ∧ W.cell? ⟨g, 6, none⟩ = some (.slice none 0 0) ∧ W.cell? ⟨g, 7, none⟩ = some (.slice none 0 0) from fun W hb => ⟨(XK.out.below hb).cell 0, (GK.out.below hb).cell 0, (GK.out.below hb).cell 1, (GK.out.below hb).cell 2, (GK.out.below hb).cell 3, (GK.out.below hb).cell 4, (GK.out.below hb).cell 5, (GK.out.below hb).cell 6, (GK.out.below hb).cell 7⟩)
        clear hB2 hl2 hdr hoa la hkd k1 k1f ny
        go_wp2_with fail
        go_cut [9, 10] (fun s9 s10 wx => ∃ gx x Ab cb An cn At ct Ak ck, s9 = .pointer (some ⟨gx, 0, none⟩) ∧ s10 = .bool oa.isSome ∧ Box wx gx 30 #[.string x.name, .int .i64 x.kind, .int .i64 x.size, .bool x.little, .slice Ab x.bytes.length cb, .slice An x.names.length cn, .slice At x.tags.length ct, .slice Ak x.kids.length ck] ∧ Rows4 wx w.heap.size x (.slice Ab x.bytes.length cb) (.slice An x.names.length cn) (.slice At x.tags.length ct) (.slice Ak x.kids.length ck) ∧ Below wr.heap.size wr wx ∧ wr.heap.size ≤ gx ∧ ∀ y, oa = some y → x = y ∧ GoodX (n - 2) x)
        case first =>
          go_region_held3 (fun W => W.cell? ⟨w.heap.size, 0, none⟩ = some (.slice A l.length c) ∧ W.cell? ⟨g, 0, none⟩ = some (.string t0) ∧ W.cell? ⟨g, 1, none⟩ = some (.int .i64 kd) ∧ W.cell? ⟨g, 2, none⟩ = some (.int .i64 0) ∧ W.cell? ⟨g, 3, none⟩ = some (.bool false) ∧ W.cell? ⟨g, 4, none⟩ = some (.slice none 0 0) ∧ W.cell? ⟨g, 5, none⟩ = some (.slice none 0 0) ∧ W.cell? ⟨g, 6, none⟩ = some (.slice none 0 0) ∧ W.cell? ⟨g, 7, none⟩ = some (.slice none 0 0))
            (first | exact KEEP.out _ (by first | ((repeat (first | with_reducible exact B7.out | with_reducible exact Below.refl _ _ | with_reducible refine Below.drew ?_ | with_reducible refine Below.alloc ?_ ?_ _ | with_reducible refine below_set ?_ ?_ _ | (show (_ : Nat) ≤ _; (try simp) <;> omega))); done) | fail) | go_keep)
            ((go_at_call 33; refine (LA.out _ _ ⟨_, rfl, HV.out.below (Below.then_ BK.out (by first | ((repeat (first | with_reducible exact B7.out | with_reducible exact Below.refl _ _ | with_reducible refine Below.drew ?_ | with_reducible refine Below.alloc ?_ ?_ _ | with_reducible refine below_set ?_ ?_ _ | (show (_ : Nat) ≤ _; (try simp) <;> omega))); done) | fail) (Nat.le_refl _))⟩ (by rw [HL2.out, HDR.out]; exact HB2.out.below (Below.then_ BR.out (by first | ((repeat (first | with_reducible exact B7.out | with_reducible exact Below.refl _ _ | with_reducible refine Below.drew ?_ | with_reducible refine Below.alloc ?_ ?_ _ | with_reducible refine below_set ?_ ?_ _ | (show (_ : Nat) ≤ _; (try simp) <;> omega))); done) | fail) (Nat.le_refl _)))).mono ?_; rintro e w7 ⟨x, vb, vn, vt, vk, rfl, h4, hb7, hx⟩; obtain ⟨Ab, cb, An, cn, At, ct, Ak, ck, rfl, rfl, rfl, rfl⟩ := h4.slices; have B7 := Lib.hid (show Below wr.heap.size wr w7 from Below.then_ (by first | ((repeat (first | with_reducible exact B7.out | with_reducible exact Below.refl _ _ | with_reducible refine Below.drew ?_ | with_reducible refine Below.alloc ?_ ?_ _ | with_reducible refine below_set ?_ ?_ _ | (show (_ : Nat) ≤ _; (try simp) <;> omega))); done) | fail) hb7 (Nat.le_refl _)); have hz7 := B7.out.size; have H4 := Lib.hid (Rows4.mono h4 (show w.heap.size ≤ _ from (by have h1 := BK.out.size; (try simp) <;> omega))); have HX := Lib.hid hx; (try (have ZX := Lib.hid (show Box w7 wr.heap.size 30 #[.string ⟨#[]⟩, .int .i64 0, .int .i64 0, .bool false, .slice none 0 0, .slice none 0 0, .slice none 0 0, .slice none 0 0] from Box.below (by first | with_reducible exact box_new0 _ _ _ | (with_reducible exact Box.drew (box_new0 _ _ _))) hb7); have zc0 := ZX.out.cell 0; have zf0 := ZX.out.frozen 0; have zc1 := ZX.out.cell 1; have zf1 := ZX.out.frozen 1; have zc2 := ZX.out.cell 2; have zf2 := ZX.out.frozen 2; have zc3 := ZX.out.cell 3; have zf3 := ZX.out.frozen 3; have zc4 := ZX.out.cell 4; have zf4 := ZX.out.frozen 4; have zc5 := ZX.out.cell 5; have zf5 := ZX.out.frozen 5; have zc6 := ZX.out.cell 6; have zf6 := ZX.out.frozen 6; have zc7 := ZX.out.cell 7; have zf7 := ZX.out.frozen 7; have lz := ZX.out.lt)); unfold rCells; clear h4 hb7 hx))
          all_goals
            go_wp2_with fail
            go_meet
            first
              | with_reducible exact ⟨_, x, Ab, cb, An, cn, At, ct, Ak, ck, rfl, rfl, box_new0 _ _ _, H4.out.alloc _, B7.out.alloc hz7 _, hz7, by have h := HX.out; rw [HL2.out] at h; exact h⟩
              | with_reducible exact ⟨_, x, Ab, cb, An, cn, At, ct, Ak, ck, rfl, rfl, Box.all8 ZX.out, H4.out.all8 ZX.out, Below.all8 B7.out (Nat.le_refl _) _ _ _ _ _ _ _ _, Nat.le_refl _, by have h := HX.out; rw [HL2.out] at h; exact h⟩
        case rest =>
          obtain ⟨gx, x, Ab, cb, An, cn, At, ct, Ak, ck, rfl, rfl, hbx, h4x, hbe, hgx, hxx⟩ := hcut
          rename World => w8
          have G8 := Lib.hid hbx
          have H8 := Lib.hid h4x
          have HX := Lib.hid hxx
          have X8 := Lib.hid (XK.out.below hbe)
          have R8 := Lib.hid (RK.out.below hbe)
          have B8 := Lib.hid (Below.then_ BK.out hbe (Nat.le_refl _))
          have BW8 := Lib.hid (Below.then_ BR.out hbe (Nat.le_refl _))
          have hgx2 : w.heap.size + 1 < gx := by have := RK.out.lt; omega
          have x8 : w8.cell? ⟨w.heap.size, 0, none⟩ = some (.slice A l.length c) := X8.out.cell 0
          clear hbx h4x hbe hgx hxx x3 y0 f0 y1 f1 y2 f2 y3 f3 y4 f4 y5 f5 y6 f6 y7 f7 e1 e2 e3 hB
          go_wp2_with fail
          refine (CD.out _ ⟨_, rfl, HV.out.below B8.out⟩).mono ?_
          rintro e w9 ⟨vo, rfl, hor, hb9⟩
          obtain ⟨Ao, co, rfl⟩ := hor.slice
          obtain ⟨css, hcl, hown, hreach, hnod, hblt⟩ := hor.parts
          obtain ⟨fs, hfs⟩ : ∃ fs, fs = css.flatten := ⟨_, rfl⟩
          rw [← hfs] at hown
          have HFS := Lib.hid hfs
          have HOWN := Lib.hid hown
          have ALL9 := Lib.hid (OwnAll.push (lo := w.heap.size) (w := w9) (r := x) (rc := [.string x.name, .int .i64 x.kind, .int .i64 x.size, .bool x.little, .slice Ab x.bytes.length cb, .slice An x.names.length cn, .slice At x.tags.length ct, .slice Ak x.kids.length ck]) ⟨hcl, fun i cs r h1 h2 => (hreach i cs r h1 h2).mono B8.out.size⟩ (H8.out.below hb9).own)
          have ONE := Lib.hid (rule_oneCell (H8.out.own))
          have BELOW89 := Lib.hid hb9
          have B9 := Lib.hid (Below.then_ B8.out hb9 (Nat.le_refl _))
          have BW9 := Lib.hid (Below.then_ BW8.out hb9 (Nat.le_refl _))
          have X9 := Lib.hid (X8.out.below hb9)
          have R9 := Lib.hid (R8.out.below hb9)
          have G9 := Lib.hid (G8.out.below hb9)
          have H9 := Lib.hid (H8.out.below hb9)
          have Z9 := Lib.hid hb9.size
          have wa : (w9.alloc (.cells #[.slice Ao l.length co] 35)).cell? ⟨w9.heap.size, 0, none⟩ = some (.slice Ao l.length co) := (Box.new w9 _ _).cell 0
          have y0 : (w9.alloc (.cells #[.slice Ao l.length co] 35)).cell? ⟨gx, 0, none⟩ = some (.string x.name) := (G9.out.alloc _).cell 0
          have f0 : (w9.alloc (.cells #[.slice Ao l.length co] 35)).frozen? ⟨gx, 0, none⟩ = false := (G9.out.alloc _).frozen 0
          have y1 : (w9.alloc (.cells #[.slice Ao l.length co] 35)).cell? ⟨gx, 1, none⟩ = some (.int .i64 x.kind) := (G9.out.alloc _).cell 1
          have f1 : (w9.alloc (.cells #[.slice Ao l.length co] 35)).frozen? ⟨gx, 1, none⟩ = false := (G9.out.alloc _).frozen 1
          have y2 : (w9.alloc (.cells #[.slice Ao l.length co] 35)).cell? ⟨gx, 2, none⟩ = some (.int .i64 x.size) := (G9.out.alloc _).cell 2
          have f2 : (w9.alloc (.cells #[.slice Ao l.length co] 35)).frozen? ⟨gx, 2, none⟩ = false := (G9.out.alloc _).frozen 2
          have y3 : (w9.alloc (.cells #[.slice Ao l.length co] 35)).cell? ⟨gx, 3, none⟩ = some (.bool x.little) := (G9.out.alloc _).cell 3
          have f3 : (w9.alloc (.cells #[.slice Ao l.length co] 35)).frozen? ⟨gx, 3, none⟩ = false := (G9.out.alloc _).frozen 3
          have y4 : (w9.alloc (.cells #[.slice Ao l.length co] 35)).cell? ⟨gx, 4, none⟩ = some (.slice Ab x.bytes.length cb) := (G9.out.alloc _).cell 4
          have f4 : (w9.alloc (.cells #[.slice Ao l.length co] 35)).frozen? ⟨gx, 4, none⟩ = false := (G9.out.alloc _).frozen 4
          have y5 : (w9.alloc (.cells #[.slice Ao l.length co] 35)).cell? ⟨gx, 5, none⟩ = some (.slice An x.names.length cn) := (G9.out.alloc _).cell 5
          have f5 : (w9.alloc (.cells #[.slice Ao l.length co] 35)).frozen? ⟨gx, 5, none⟩ = false := (G9.out.alloc _).frozen 5
          have y6 : (w9.alloc (.cells #[.slice Ao l.length co] 35)).cell? ⟨gx, 6, none⟩ = some (.slice At x.tags.length ct) := (G9.out.alloc _).cell 6
          have f6 : (w9.alloc (.cells #[.slice Ao l.length co] 35)).frozen? ⟨gx, 6, none⟩ = false := (G9.out.alloc _).frozen 6
          have y7 : (w9.alloc (.cells #[.slice Ao l.length co] 35)).cell? ⟨gx, 7, none⟩ = some (.slice Ak x.kids.length ck) := (G9.out.alloc _).cell 7
          have f7 : (w9.alloc (.cells #[.slice Ao l.length co] 35)).frozen? ⟨gx, 7, none⟩ = false := (G9.out.alloc _).frozen 7
          clear hor hb9 hcl hown hreach hnod hblt hfs x8
          go_wp2_with (at_builtin; refine wpList_append_rd _ rfl (.tmp 45) (.tmp 47) 33 rfl w8.heap.size 30 i0 (.agg #[.string ⟨#[]⟩, .int .i64 0, .int .i64 0, .bool false, .slice none 0 0, .slice none 0 0, .slice none 0 0, .slice none 0 0]) 8 136 Tryz.underlying33 hif hz0 hz1 hz2 rfl (by decide) _ l.length fs rfl ((HOWN.out.alloc _).alloc _) _ 1 [.string x.name, .int .i64 x.kind, .int .i64 x.size, .bool x.little, .slice Ab x.bytes.length cb, .slice An x.names.length cn, .slice At x.tags.length ct, .slice Ak x.kids.length ck] rfl (by first | exact rd_box8 (T := 30) (box_new1 _ _ _ _) | exact rd_box8 (T := 30) (box_new0 _ _ _)) ONE.out (by unfold maxLen; omega) (by omega) (by have h := Z9.out; simp; omega) ?_)
          intro v10 w10 hown10 hg10 hpos
          obtain ⟨A10, c10, rfl⟩ : ∃ A c, v10 = .slice A (l.length + 1) c := by obtain ⟨_, A, c, h, _⟩ := Rd.of_own hown10; exact ⟨A, c, h⟩
          have OWN9 := Lib.hid ((HOWN.out.alloc (.cells #[.slice Ao l.length co] 35)).alloc (.cells #[.string x.name, .int .i64 x.kind, .int .i64 x.size, .bool x.little, .slice Ab x.bytes.length cb, .slice An x.names.length cn, .slice At x.tags.length ct, .slice Ak x.kids.length ck] 30))
          have B910 := Lib.hid (show Below w8.heap.size w9 w10 from own_grown_below (((Below.refl _ _).alloc Z9.out _).alloc (by have h := Z9.out; simp; omega) _) OWN9.out hg10 (by have h := Z9.out; simp; omega) (Nat.le_refl _))
          have B10 := Lib.hid (show Below w.heap.size w w10 from (B9.out.trans (B910.out.mono B8.out.size)))
          have BW10 := Lib.hid (show Below w2.heap.size w2 w10 from (BW9.out.trans (B910.out.mono BW8.out.size)))
          have X10 := Lib.hid (Box.grown_own ((X9.out.alloc _).alloc _) OWN9.out (by decide) hg10)
          have E10 := Lib.hid (Box.grown_own ((Box.new w9 35 #[.slice Ao l.length co]).alloc _) OWN9.out (by decide) hg10)
          have R10 := Lib.hid (show Box w10 (w.heap.size + 1) 30 #[.string ⟨#[]⟩, .int .i64 0, .int .i64 0, .bool false, .slice none 0 0, .slice none 0 0, .slice none 0 0, .slice none 0 0] from (B910.out.block _ (by have h := R8.out.lt; exact h)).trans R9.out)
          have G10 := Lib.hid (show Box w10 gx 30 #[.string x.name, .int .i64 x.kind, .int .i64 x.size, .bool x.little, .slice Ab x.bytes.length cb, .slice An x.names.length cn, .slice At x.tags.length ct, .slice Ak x.kids.length ck] from (B910.out.block _ (by have h := G8.out.lt; exact h)).trans G9.out)
          have H10 := Lib.hid (show Rows4 w10 w.heap.size x (.slice Ab x.bytes.length cb) (.slice An x.names.length cn) (.slice At x.tags.length ct) (.slice Ak x.kids.length ck) from H8.out.below (Below.trans ((show Below w8.heap.size w8 w9 from BELOW89.out)) B910.out))
          have hown10' : w10.ownsRow w8.heap.size 30 8 (.slice A10 (l.length + 1) c10) (l.length + 1) (css.flatten ++ [.string x.name, .int .i64 x.kind, .int .i64 x.size, .bool x.little, .slice Ab x.bytes.length cb, .slice An x.names.length cn, .slice At x.tags.length ct, .slice Ak x.kids.length ck]) := by rw [← HFS.out]; exact hown10
          have ALL10 := Lib.hid (((ALL9.out.below ((Below.refl _ _).alloc (Nat.le_refl _) _)).below ((Below.refl _ _).alloc (Nat.le_refl _) _)).grown OWN9.out hg10)
          obtain ⟨w11, hw11⟩ : ∃ w11, w11 = w10.setCell ⟨w9.heap.size, 0, none⟩ (.slice A10 (l.length + 1) c10) := ⟨_, rfl⟩
          have hgk : w10.grownBy w11 (some w9.heap.size) := by rw [hw11]; exact grown_setCell _ _ _ _
          have ALL11 := Lib.hid (ALL10.out.kept hgk E10.out (by decide) (by decide) (by decide))
          have O11 := Lib.hid (hown10'.kept hgk (.inr (own_type hown10' E10.out (by decide))))
          have H11 := Lib.hid (H10.out.keptBox hgk E10.out (by decide) (by decide) (by decide))
          have RD11 := Lib.hid (show RdRules w11 (.slice A10 (l.length + 1) c10) (l ++ [x]) from ALL11.out.rd (by have h := O11.out; simpa using h))
          have hz9 := Z9.out
          have hz8 := B8.out.size
          have hx8l := X8.out.lt
          have hr8l := R8.out.lt
          have hg8l := G8.out.lt
          have X11 := Lib.hid (show Box w11 w.heap.size 35 #[.slice A l.length c] by rw [hw11]; exact X10.out.setOther _ (by show w.heap.size ≠ w9.heap.size; omega) _)
          have R11 := Lib.hid (show Box w11 (w.heap.size + 1) 30 #[.string ⟨#[]⟩, .int .i64 0, .int .i64 0, .bool false, .slice none 0 0, .slice none 0 0, .slice none 0 0, .slice none 0 0] by rw [hw11]; exact R10.out.setOther _ (by show w.heap.size + 1 ≠ w9.heap.size; omega) _)
          have G11 := Lib.hid (show Box w11 gx 30 #[.string x.name, .int .i64 x.kind, .int .i64 x.size, .bool x.little, .slice Ab x.bytes.length cb, .slice An x.names.length cn, .slice At x.tags.length ct, .slice Ak x.kids.length ck] by rw [hw11]; exact G10.out.setOther _ (by show gx ≠ w9.heap.size; omega) _)
          have E11 := Lib.hid (show Box w11 w9.heap.size 35 #[.slice A10 (l.length + 1) c10] by rw [hw11]; exact E10.out.set 0 _)
          have B11 := Lib.hid (show Below w.heap.size w w11 by rw [hw11]; exact below_set B10.out (by omega) _)
          have BW11 := Lib.hid (show Below w2.heap.size w2 w11 by rw [hw11]; exact below_set BW10.out (by have := BW8.out.size; omega) _)
          have W11 := Lib.hid hw11
          have xa : w10.cell? ⟨w9.heap.size, 0, none⟩ = some (.slice Ao l.length co) := E10.out.cell 0
          have xb : w10.frozen? ⟨w9.heap.size, 0, none⟩ = false := E10.out.frozen 0
          have xc : (w10.setCell ⟨w9.heap.size, 0, none⟩ (.slice A10 (l.length + 1) c10)).cell? ⟨w.heap.size, 0, none⟩ = some (.slice A l.length c) := by rw [← hw11]; exact X11.out.cell 0
          clear hown10 hg10 hpos hown10' hw11 hgk wa y0 f0 y1 f1 y2 f2 y3 f3 y4 f4 y5 f5 y6 f6 y7 f7
          cases oa with
          | none =>
            have hfin : Hid (O = none) := by show _ = _; rw [HPA.out]; rfl
            rw [show (none : Option RuleD).isSome = false from rfl]
            have R11r := R11.out
            have B11r := B11.out
            rw [W11.out] at R11r B11r
            have z0 : (w10.setCell ⟨w9.heap.size, 0, none⟩ (.slice A10 (l.length + 1) c10)).cell? ⟨w.heap.size + 1, 0, none⟩ = some (.string ⟨#[]⟩) := R11r.cell 0
            have z1 : (w10.setCell ⟨w9.heap.size, 0, none⟩ (.slice A10 (l.length + 1) c10)).cell? ⟨w.heap.size + 1, 1, none⟩ = some (.int .i64 0) := R11r.cell 1
            have z2 : (w10.setCell ⟨w9.heap.size, 0, none⟩ (.slice A10 (l.length + 1) c10)).cell? ⟨w.heap.size + 1, 2, none⟩ = some (.int .i64 0) := R11r.cell 2
            have z3 : (w10.setCell ⟨w9.heap.size, 0, none⟩ (.slice A10 (l.length + 1) c10)).cell? ⟨w.heap.size + 1, 3, none⟩ = some (.bool false) := R11r.cell 3
            have z4 : (w10.setCell ⟨w9.heap.size, 0, none⟩ (.slice A10 (l.length + 1) c10)).cell? ⟨w.heap.size + 1, 4, none⟩ = some (.slice none 0 0) := R11r.cell 4
            have z5 : (w10.setCell ⟨w9.heap.size, 0, none⟩ (.slice A10 (l.length + 1) c10)).cell? ⟨w.heap.size + 1, 5, none⟩ = some (.slice none 0 0) := R11r.cell 5
            have z6 : (w10.setCell ⟨w9.heap.size, 0, none⟩ (.slice A10 (l.length + 1) c10)).cell? ⟨w.heap.size + 1, 6, none⟩ = some (.slice none 0 0) := R11r.cell 6
            have z7 : (w10.setCell ⟨w9.heap.size, 0, none⟩ (.slice A10 (l.length + 1) c10)).cell? ⟨w.heap.size + 1, 7, none⟩ = some (.slice none 0 0) := R11r.cell 7
            have q0 : (w10.setCell ⟨w9.heap.size, 0, none⟩ (.slice A10 (l.length + 1) c10)).frozen? ⟨w.heap.size + 1, 0, none⟩ = false := R11r.frozen 0
            have q1 : (w10.setCell ⟨w9.heap.size, 0, none⟩ (.slice A10 (l.length + 1) c10)).frozen? ⟨w.heap.size + 1, 1, none⟩ = false := R11r.frozen 1
            have q2 : (w10.setCell ⟨w9.heap.size, 0, none⟩ (.slice A10 (l.length + 1) c10)).frozen? ⟨w.heap.size + 1, 2, none⟩ = false := R11r.frozen 2
            have q3 : (w10.setCell ⟨w9.heap.size, 0, none⟩ (.slice A10 (l.length + 1) c10)).frozen? ⟨w.heap.size + 1, 3, none⟩ = false := R11r.frozen 3
            have q4 : (w10.setCell ⟨w9.heap.size, 0, none⟩ (.slice A10 (l.length + 1) c10)).frozen? ⟨w.heap.size + 1, 4, none⟩ = false := R11r.frozen 4
            have q5 : (w10.setCell ⟨w9.heap.size, 0, none⟩ (.slice A10 (l.length + 1) c10)).frozen? ⟨w.heap.size + 1, 5, none⟩ = false := R11r.frozen 5
            have q6 : (w10.setCell ⟨w9.heap.size, 0, none⟩ (.slice A10 (l.length + 1) c10)).frozen? ⟨w.heap.size + 1, 6, none⟩ = false := R11r.frozen 6
            have q7 : (w10.setCell ⟨w9.heap.size, 0, none⟩ (.slice A10 (l.length + 1) c10)).frozen? ⟨w.heap.size + 1, 7, none⟩ = false := R11r.frozen 7
            go_wp2_with fail
            refine bodyPost_ret (v := .tuple #[.agg #[.string ⟨#[]⟩, .int .i64 0, .int .i64 0, .bool false, .slice none 0 0, .slice none 0 0, .slice none 0 0, .slice none 0 0], .bool false]) (by simp [results, Tryz.results9, go_sem, z0, z1, z2, z3, z4, z5, z6, z7]) rfl ?_
            exact MadeR.no hfin.out (Below.all8 B11r (by omega) _ _ _ _ _ _ _ _)
          | some y =>
            obtain ⟨hxy, hfx, hbx1, hnx, htx, hkx⟩ := HX.out y rfl
            have hHP2 : Hid (O = lineOk l ws x) := by show _ = _; rw [HPA.out, hxy]; rfl
            rw [show (some y).isSome = true from rfl]
            have HFX := Lib.hid hfx
            have hfit' : ∀ r ∈ l ++ [x], RuleFits r := fun r hr => by
              rcases List.mem_append.1 hr with hr | hr
              · exact HFIT.out r hr
              · have : r = x := by simpa using hr
                rw [this]; exact HFX.out.fits
            have hsm' : ∀ r ∈ l ++ [x], RuleSmall r := fun r hr => by
              rcases List.mem_append.1 hr with hr | hr
              · exact HSM.out r hr
              · have : r = x := by simpa using hr
                rw [this]
                exact ⟨hbx1, by omega, by omega, by omega⟩
            have hnf' : NamesFit (l ++ [x]) := fun r hr => by
              rcases List.mem_append.1 hr with hr | hr
              · exact HNF.out r hr
              · have : r = x := by simpa using hr
                rw [this]; exact HFX.out.name
            have fr := fun w ht hd => s_FormatRule (.agg #[.slice A10 (l.length + 1) c10]) (l ++ [x]) (l.length : Int) ⟨by omega, by omega⟩ hfit' hsm' hnf' w ht hd
            obtain ⟨p, hp⟩ : ∃ p, p = mkS (lineL (l ++ [x]) (l.length : Int)) := ⟨_, rfl⟩
            rw [← hp] at fr
            obtain ⟨q, hq⟩ : ∃ q, q = mkS (Lib.join ws [32]) := ⟨_, rfl⟩
            have jt := fun w h => s_JoinText (.slice (some ⟨bn, on, none⟩) n cw) ws [32] (by rw [← HNW.out]; omega) HWF.out w h
            rw [← hq] at jt
            have FR := Lib.hid fr
            have JT := Lib.hid jt
            have HPP := Lib.hid hp
            have HQQ := Lib.hid hq
            have xd : (w10.setCell ⟨w9.heap.size, 0, none⟩ (.slice A10 (l.length + 1) c10)).cell? ⟨w9.heap.size, 0, none⟩ = some (.slice A10 (l.length + 1) c10) := by rw [← W11.out]; exact E11.out.cell 0
            clear hxy hfx hbx1 hnx htx hkx hfit' hsm' hnf' fr jt hp hq
            go_wp2_with fail
            rw [← W11.out]
            refine (FR.out _ (HT.out.below B11.out) ⟨_, rfl, RD11.out⟩).mono ?_
            rintro e w12 ⟨rfl, hb12⟩
            have B12 := Lib.hid (Below.then_ B11.out hb12 (Nat.le_refl _))
            have BW12 := Lib.hid (Below.then_ BW11.out hb12 (Nat.le_refl _))
            have R12 := Lib.hid (R11.out.below hb12)
            have G12 := Lib.hid (G11.out.below hb12)
            have H12 := Lib.hid (H11.out.below hb12)
            clear hb12 xa xb xc xd
            go_wp2_with fail
            refine (JT.out _ (by have h := RW.out.below BW12.out; rw [HNW.out] at h ⊢; exact h)).mono ?_
            rintro e w13 ⟨rfl, hww⟩
            subst hww
            by_cases heq : lineL (l ++ [x]) (l.length : Int) = Lib.join ws [32]
            · have HE : Hid (O = some x) := by show _ = _; rw [hHP2.out]; unfold lineOk; rw [if_pos heq]
              have hpq : Hid (p = q) := by show _ = _; rw [HPP.out, HQQ.out, heq]
              have n1 : (p.toList == q.toList) = true := by rw [hpq.out]; simp
              have n2 : (p.toList != q.toList) = false := by rw [hpq.out]; simp
              clear heq
              have y0 : w12.cell? ⟨gx, 0, none⟩ = some (.string x.name) := G12.out.cell 0
              have f0 : w12.frozen? ⟨gx, 0, none⟩ = false := G12.out.frozen 0
              have y1 : w12.cell? ⟨gx, 1, none⟩ = some (.int .i64 x.kind) := G12.out.cell 1
              have f1 : w12.frozen? ⟨gx, 1, none⟩ = false := G12.out.frozen 1
              have y2 : w12.cell? ⟨gx, 2, none⟩ = some (.int .i64 x.size) := G12.out.cell 2
              have f2 : w12.frozen? ⟨gx, 2, none⟩ = false := G12.out.frozen 2
              have y3 : w12.cell? ⟨gx, 3, none⟩ = some (.bool x.little) := G12.out.cell 3
              have f3 : w12.frozen? ⟨gx, 3, none⟩ = false := G12.out.frozen 3
              have y4 : w12.cell? ⟨gx, 4, none⟩ = some (.slice Ab x.bytes.length cb) := G12.out.cell 4
              have f4 : w12.frozen? ⟨gx, 4, none⟩ = false := G12.out.frozen 4
              have y5 : w12.cell? ⟨gx, 5, none⟩ = some (.slice An x.names.length cn) := G12.out.cell 5
              have f5 : w12.frozen? ⟨gx, 5, none⟩ = false := G12.out.frozen 5
              have y6 : w12.cell? ⟨gx, 6, none⟩ = some (.slice At x.tags.length ct) := G12.out.cell 6
              have f6 : w12.frozen? ⟨gx, 6, none⟩ = false := G12.out.frozen 6
              have y7 : w12.cell? ⟨gx, 7, none⟩ = some (.slice Ak x.kids.length ck) := G12.out.cell 7
              have f7 : w12.frozen? ⟨gx, 7, none⟩ = false := G12.out.frozen 7
              have z0 : w12.cell? ⟨w.heap.size + 1, 0, none⟩ = some (.string ⟨#[]⟩) := R12.out.cell 0
              have z1 : w12.cell? ⟨w.heap.size + 1, 1, none⟩ = some (.int .i64 0) := R12.out.cell 1
              have z2 : w12.cell? ⟨w.heap.size + 1, 2, none⟩ = some (.int .i64 0) := R12.out.cell 2
              have z3 : w12.cell? ⟨w.heap.size + 1, 3, none⟩ = some (.bool false) := R12.out.cell 3
              have z4 : w12.cell? ⟨w.heap.size + 1, 4, none⟩ = some (.slice none 0 0) := R12.out.cell 4
              have z5 : w12.cell? ⟨w.heap.size + 1, 5, none⟩ = some (.slice none 0 0) := R12.out.cell 5
              have z6 : w12.cell? ⟨w.heap.size + 1, 6, none⟩ = some (.slice none 0 0) := R12.out.cell 6
              have z7 : w12.cell? ⟨w.heap.size + 1, 7, none⟩ = some (.slice none 0 0) := R12.out.cell 7
              have q0 : w12.frozen? ⟨w.heap.size + 1, 0, none⟩ = false := R12.out.frozen 0
              have q1 : w12.frozen? ⟨w.heap.size + 1, 1, none⟩ = false := R12.out.frozen 1
              have q2 : w12.frozen? ⟨w.heap.size + 1, 2, none⟩ = false := R12.out.frozen 2
              have q3 : w12.frozen? ⟨w.heap.size + 1, 3, none⟩ = false := R12.out.frozen 3
              have q4 : w12.frozen? ⟨w.heap.size + 1, 4, none⟩ = false := R12.out.frozen 4
              have q5 : w12.frozen? ⟨w.heap.size + 1, 5, none⟩ = false := R12.out.frozen 5
              have q6 : w12.frozen? ⟨w.heap.size + 1, 6, none⟩ = false := R12.out.frozen 6
              have q7 : w12.frozen? ⟨w.heap.size + 1, 7, none⟩ = false := R12.out.frozen 7
              go_wp2_with fail
              refine bodyPost_ret (v := .tuple #[.agg #[.string x.name, .int .i64 x.kind, .int .i64 x.size, .bool x.little, .slice Ab x.bytes.length cb, .slice An x.names.length cn, .slice At x.tags.length ct, .slice Ak x.kids.length ck], .bool true]) (by simp [results, Tryz.results9, go_sem, z0, z1, z2, z3, z4, z5, z6, z7]) rfl ?_
              exact MadeR.yes HE.out (H12.out.all8 R12.out) (Below.all8 B12.out (by omega) _ _ _ _ _ _ _ _)
            · have hfin : Hid (O = none) := by show _ = _; rw [hHP2.out]; unfold lineOk; rw [if_neg heq]
              have hpq : Hid (p ≠ q) := fun e => heq (mkS_inj (by rw [← HPP.out, ← HQQ.out]; exact e))
              have n1 : (p.toList == q.toList) = false := str_ne hpq.out
              have n2 : (p.toList != q.toList) = true := by rw [bne, n1]; rfl
              clear heq
              have z0 : w12.cell? ⟨w.heap.size + 1, 0, none⟩ = some (.string ⟨#[]⟩) := R12.out.cell 0
              have z1 : w12.cell? ⟨w.heap.size + 1, 1, none⟩ = some (.int .i64 0) := R12.out.cell 1
              have z2 : w12.cell? ⟨w.heap.size + 1, 2, none⟩ = some (.int .i64 0) := R12.out.cell 2
              have z3 : w12.cell? ⟨w.heap.size + 1, 3, none⟩ = some (.bool false) := R12.out.cell 3
              have z4 : w12.cell? ⟨w.heap.size + 1, 4, none⟩ = some (.slice none 0 0) := R12.out.cell 4
              have z5 : w12.cell? ⟨w.heap.size + 1, 5, none⟩ = some (.slice none 0 0) := R12.out.cell 5
              have z6 : w12.cell? ⟨w.heap.size + 1, 6, none⟩ = some (.slice none 0 0) := R12.out.cell 6
              have z7 : w12.cell? ⟨w.heap.size + 1, 7, none⟩ = some (.slice none 0 0) := R12.out.cell 7
              have q0 : w12.frozen? ⟨w.heap.size + 1, 0, none⟩ = false := R12.out.frozen 0
              have q1 : w12.frozen? ⟨w.heap.size + 1, 1, none⟩ = false := R12.out.frozen 1
              have q2 : w12.frozen? ⟨w.heap.size + 1, 2, none⟩ = false := R12.out.frozen 2
              have q3 : w12.frozen? ⟨w.heap.size + 1, 3, none⟩ = false := R12.out.frozen 3
              have q4 : w12.frozen? ⟨w.heap.size + 1, 4, none⟩ = false := R12.out.frozen 4
              have q5 : w12.frozen? ⟨w.heap.size + 1, 5, none⟩ = false := R12.out.frozen 5
              have q6 : w12.frozen? ⟨w.heap.size + 1, 6, none⟩ = false := R12.out.frozen 6
              have q7 : w12.frozen? ⟨w.heap.size + 1, 7, none⟩ = false := R12.out.frozen 7
              go_wp2_with fail
              refine bodyPost_ret (v := .tuple #[.agg #[.string ⟨#[]⟩, .int .i64 0, .int .i64 0, .bool false, .slice none 0 0, .slice none 0 0, .slice none 0 0, .slice none 0 0], .bool false]) (by simp [results, Tryz.results9, go_sem, z0, z1, z2, z3, z4, z5, z6, z7]) rfl ?_
              exact MadeR.no hfin.out (Below.all8 B12.out (by omega) _ _ _ _ _ _ _ _)

end Go.Proofs.YtkjjgpkegihmhaaGreatDoor
