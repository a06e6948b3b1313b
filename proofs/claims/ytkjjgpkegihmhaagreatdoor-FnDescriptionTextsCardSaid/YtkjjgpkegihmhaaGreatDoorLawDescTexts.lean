/-
  The law FnDescriptionTexts: a description is parsed from its text, and parsing normalizes the text.
-/
import Derived.Test.YtkjjgpkegihmhaaGreatDoorDrawText
import Derived.Test.YtkjjgpkegihmhaaGreatDoorLawsPlain
import Derived.Test.YtkjjgpkegihmhaaGreatDoorEqualRules
import Derived.Test.YtkjjgpkegihmhaaGreatDoorNormI
import Derived.Test.YtkjjgpkegihmhaaGreatDoorPDescI
import Derived.Test.YtkjjgpkegihmhaaGreatDoorPDescS
import Derived.Test.YtkjjgpkegihmhaaGreatDoorLines
import Derived.Test.YtkjjgpkegihmhaaGreatDoorGH
import Derived.Test.YtkjjgpkegihmhaaGreatDoorBig
import Derived.Test.YtkjjgpkegihmhaaGreatDoorGA
import Derived.BigGuard
namespace Go.Proofs.YtkjjgpkegihmhaaGreatDoor
open Go.RowKit
set_option linter.unusedVariables false

set_option maxRecDepth 100000 in
set_option maxHeartbeats 8000000 in
theorem law_FnDescriptionTexts (v : Value) (bs : List UInt8) (w : World) (hr : Rd w v 1 bs.length (cB bs)) (ht : Tab w) :
    Calls Tryz.prog 7 #[v] w fun e w' => e = .returned (.bool true) ∧ Below w.heap.size w w' := by
  have HT := Lib.hid ht
  clear ht
  by_cases hbig : (1048576 : Int) < (bs.length : Int)
  · have hd : decide ((1048576 : Int) < (bs.length : Int)) = true := by simpa using hbig
    go_enter Tryz.func7, Tryz.ntmps7
    go_wp2_with fail
    refine (l_big v bs _ hr).mono ?_
    rintro e w1 ⟨rfl, rfl⟩
    go_wp2_with fail
    go_ret
    exact ⟨rfl, Below.refl _ _⟩
  · have hd : decide ((1048576 : Int) < (bs.length : Int)) = false := by simpa using hbig
    go_enter Tryz.func7, Tryz.ntmps7
    go_wp2_with fail
    refine (l_big v bs _ hr).mono ?_
    rintro e w1 ⟨rfl, rfl⟩
    go_wp2_with fail
    refine (s_DrawDescription v bs (by omega) _ hr).mono ?_
    rintro e w1 ⟨A, c, l, rfl, ho, hdr, h1, h6, hb1⟩
    have hbs : bs.length ≤ 1048576 := by omega
    clear hbig hd
    have hval := hdr.valid h1 h6
    have hg := hdr.good
    obtain ⟨T, hT⟩ : ∃ T, T = mkS (descT l) := ⟨_, rfl⟩
    have hTl : T.data.toList = descT l := by rw [hT]; rfl
    have hTs : T.size ≤ 10000 := by rw [hT, mkS_size]; exact descT_small hval
    have fd := fun w hT2 hD => i_FormatDescription (.agg #[.slice A l.length c]) l (by omega) (good_fits (by omega) hg) (good_small (by omega) hg) (good_names (by omega) hg) w hT2 hD
    rw [← hT] at fd
    have pt := fun w hT2 => i_ParseDescription T (by omega) w hT2
    rw [hTl, desc_back hval] at pt
    have nt := fun w hT2 => i_NormalizeText T (by omega) w hT2
    rw [hTl, norm_back hval, ← hT] at nt
    have ct := fun w => i_CountRuleLines T (by omega) w
    rw [hTl, count_back hval] at ct
    have eq := fun (a b : Value) (xs : List RuleD) w (h : RdDesc w a xs) (h' : RdDesc w b xs) => show Calls Tryz.prog 28 #[a, b] w fun e w' => e = .returned (.bool true) ∧ Below w.heap.size w w' from by
      have := i_EqualDescriptions a b xs xs w h h'
      rwa [decide_eq_true rfl] at this
    obtain ⟨n, hn⟩ : ∃ n, n = l.length := ⟨_, rfl⟩
    have HN := Lib.hid hn
    rw [← hn] at fd ct h6 h1
    have FD := Lib.hid fd
    have PT := Lib.hid pt
    have NT := Lib.hid nt
    have CT := Lib.hid ct
    have EQ := Lib.hid eq
    have HB1 := Lib.hid hb1
    have RD1 := Lib.hid (show RdRules w1 (.slice A n c) l by have := ho.rd; rwa [← hn] at this)
    obtain ⟨w2, hw2⟩ : ∃ w2, w2 = w1.alloc (.cells #[.slice A n c] 35) := ⟨_, rfl⟩
    have hb12 : Below w1.heap.size w1 w2 := by rw [hw2]; exact below_box
    have X2 := Lib.hid (show Box w2 w1.heap.size 35 #[.slice A n c] by rw [hw2]; exact Box.new w1 _ _)
    have B2 := Lib.hid (Below.then_ hb1 hb12 (Nat.le_refl _))
    have RD2 := Lib.hid (RD1.out.below hb12)
    have x2 := X2.out.cell 0
    have HR2 := Lib.hid ((hr.below hb1).below hb12)
    have W2 := Lib.hid hw2
    rw [← hn]
    clear ho hdr hval hg hT hTl fd pt nt ct eq hn hb1 hb12 hw2
    go_wp2_with fail
    rw [← W2.out]
    refine (FD.out _ (HT.out.below B2.out) ⟨_, rfl, RD2.out⟩).mono ?_
    rintro e w3 ⟨rfl, hb3⟩
    have X3 := Lib.hid (X2.out.below hb3)
    have B3 := Lib.hid (Below.then_ B2.out hb3 (Nat.le_refl _))
    have RD3 := Lib.hid (RD2.out.below hb3)
    have HR3 := Lib.hid (HR2.out.below hb3)
    clear hb3 x2
    go_wp2_with fail
    refine (PT.out _ (HT.out.below B3.out)).mono ?_
    rintro e w4 ⟨vx, rfl, hox, hb4⟩
    obtain ⟨Ax, px, hvx⟩ := hox.slice
    rw [show (l, 0).1.length = n from HN.out.symm] at hvx
    subst hvx
    obtain ⟨w5, hw5⟩ : ∃ w5, w5 = w4.alloc (.cells #[.slice Ax n px] 35) := ⟨_, rfl⟩
    have hb45 : Below w4.heap.size w4 w5 := by rw [hw5]; exact below_box
    have hb35 := Below.then_ hb4 hb45 (Nat.le_refl _)
    have Y5 := Lib.hid (show Box w5 w4.heap.size 35 #[.slice Ax n px] by rw [hw5]; exact Box.new w4 _ _)
    have RX5 := Lib.hid (show RdRules w5 (.slice Ax n px) l from hox.rd.below hb45)
    have X5 := Lib.hid (X3.out.below hb35)
    have B5 := Lib.hid (Below.then_ B3.out hb35 (Nat.le_refl _))
    have RD5 := Lib.hid (RD3.out.below hb35)
    have HR5 := Lib.hid (HR3.out.below hb35)
    have W5 := Lib.hid hw5
    clear hox hb4 hb45 hb35 hw5
    go_wp2_with fail
    rw [← W5.out]
    refine (s_DrawParseDescription v bs hbs _ (HT.out.below B5.out) HR5.out).mono ?_
    rintro e w6 ⟨S, rfl, hS, hb6⟩
    have is := fun w hT2 => i_ParseDescription S (by omega) w hT2
    have ss := fun w hT2 => s_ParseDescription S (by omega) w hT2
    have ns := fun w hT2 => i_NormalizeText S (by omega) w hT2
    obtain ⟨N, hN⟩ : ∃ N, N = mkS (normT S.data.toList) := ⟨_, rfl⟩
    have hNl : N.data.toList = normT S.data.toList := by rw [hN]; rfl
    have hNs : N.size ≤ 10000 := by rw [hN, mkS_size]; exact normT_small _
    have nn := fun w hT2 => i_NormalizeText N (by omega) w hT2
    rw [hNl, norm_norm, ← hN] at nn
    rw [← hN] at ns
    have hne := norm_ne S.data.toList
    obtain ⟨F, hF⟩ : ∃ F, F = descP S.data.toList := ⟨_, rfl⟩
    rw [← hF] at is ss hne
    obtain ⟨ly, k⟩ := F
    have hem : N.toList.isEmpty = !decide (k = 0) := by
      rw [Bool.eq_iff_iff]
      simp only [Bool.not_eq_true', decide_eq_false_iff_not, List.isEmpty_iff]
      rw [Lib.toList_data, hNl]
      constructor
      · intro h h0; exact hne.1 h0 h
      · intro h
        by_cases h2 : normT S.data.toList = []
        · exact h2
        · exact absurd (hne.2 h2) h
    have IS := Lib.hid is
    have SS := Lib.hid ss
    have NS := Lib.hid ns
    have NN := Lib.hid nn
    have HEM := Lib.hid hem
    have X6 := Lib.hid (X5.out.below hb6)
    have Y6 := Lib.hid (Y5.out.below hb6)
    have B6 := Lib.hid (Below.then_ B5.out hb6 (Nat.le_refl _))
    have RD6 := Lib.hid (RD5.out.below hb6)
    have RX6 := Lib.hid (RX5.out.below hb6)
    clear hb6 is ss ns nn hne hN hNl hF hem
    go_wp2_with fail
    refine (IS.out _ (HT.out.below B6.out)).mono ?_
    rintro e w7 ⟨vy, rfl, hoy, hb7⟩
    obtain ⟨Ay, py, rfl⟩ := hoy.slice
    obtain ⟨w8, hw8⟩ : ∃ w8, w8 = w7.alloc (.cells #[.slice Ay ly.length py] 35) := ⟨_, rfl⟩
    have hb78 : Below w7.heap.size w7 w8 := by rw [hw8]; exact below_box
    have hb68 := Below.then_ hb7 hb78 (Nat.le_refl _)
    have Z8 := Lib.hid (show Box w8 w7.heap.size 35 #[.slice Ay ly.length py] by rw [hw8]; exact Box.new w7 _ _)
    have RY8 := Lib.hid (show RdRules w8 (.slice Ay ly.length py) ly from hoy.rd.below hb78)
    have X8 := Lib.hid (X6.out.below hb68)
    have Y8 := Lib.hid (Y6.out.below hb68)
    have B8 := Lib.hid (Below.then_ B6.out hb68 (Nat.le_refl _))
    have RD8 := Lib.hid (RD6.out.below hb68)
    have RX8 := Lib.hid (RX6.out.below hb68)
    have W8 := Lib.hid hw8
    clear hoy hb7 hb78 hb68 hw8
    go_wp2_with fail
    rw [← W8.out]
    refine (SS.out _ (HT.out.below B8.out)).mono ?_
    rintro e w9 ⟨vz, rfl, hoz, hb9⟩
    obtain ⟨Az, pz, rfl⟩ := hoz.slice
    obtain ⟨w10, hw10⟩ : ∃ w10, w10 = w9.alloc (.cells #[.slice Az ly.length pz] 35) := ⟨_, rfl⟩
    have hb910 : Below w9.heap.size w9 w10 := by rw [hw10]; exact below_box
    have hb810 := Below.then_ hb9 hb910 (Nat.le_refl _)
    have Q10 := Lib.hid (show Box w10 w9.heap.size 35 #[.slice Az ly.length pz] by rw [hw10]; exact Box.new w9 _ _)
    have RZ10 := Lib.hid (show RdRules w10 (.slice Az ly.length pz) ly from hoz.rd.below hb910)
    have x10 := (X8.out.below hb810).cell 0
    have y10 := (Y8.out.below hb810).cell 0
    have z10 := (Z8.out.below hb810).cell 0
    have q10 := Q10.out.cell 0
    have B10 := Lib.hid (Below.then_ B8.out hb810 (Nat.le_refl _))
    have RD10 := Lib.hid (RD8.out.below hb810)
    have RX10 := Lib.hid (RX8.out.below hb810)
    have RY10 := Lib.hid (RY8.out.below hb810)
    have W10 := Lib.hid hw10
    have la := later_cell x10
    have lb := later_cell y10
    have lc := later_cell z10
    have ld := later_cell q10
    have L1 := Lib.hid (fun x : Later w10 => Calls.later (EQ.out (.agg #[.slice Ax n px]) (.agg #[.slice A n c]) l x.world ⟨_, rfl, RX10.out.below x.below⟩ ⟨_, rfl, RD10.out.below x.below⟩))
    have L2 := Lib.hid (fun x : Later w10 => Calls.later (EQ.out (.agg #[.slice Ay ly.length py]) (.agg #[.slice Az ly.length pz]) ly x.world ⟨_, rfl, RY10.out.below x.below⟩ ⟨_, rfl, RZ10.out.below x.below⟩))
    have L3 := Lib.hid (fun x : Later w10 => Calls.later (CT.out x.world))
    clear hoz hb9 hb910 hb810 hw10 x10 y10 z10 q10
    go_wp2_with fail
    rw [← W10.out]
    refine wp_region_later (by kernel_rfl) (by kernel_rfl) ?_
    repeat (go_big_quiet_step (first | (go_at_call 28; with_reducible exact L1.out _) | (go_at_call 28; with_reducible exact L2.out _) | (go_at_call 29; with_reducible exact L3.out _)))
    refine wpQuiet_nil ?_
    intro w11 hb11
    have B11 := Lib.hid (Below.then_ B10.out hb11 (Nat.le_refl _))
    clear hb11 la lb lc ld L1 L2 L3
    go_wp2_with fail
    refine (NT.out _ (HT.out.below B11.out)).mono ?_
    rintro e w12 ⟨rfl, hb12⟩
    have B12 := Lib.hid (Below.then_ B11.out hb12 (Nat.le_refl _))
    clear hb12
    go_wp2_with fail
    refine (NS.out _ (HT.out.below B12.out)).mono ?_
    rintro e w13 ⟨rfl, hb13⟩
    have B13 := Lib.hid (Below.then_ B12.out hb13 (Nat.le_refl _))
    clear hb13
    go_wp2_with fail
    refine (NN.out _ (HT.out.below B13.out)).mono ?_
    rintro e w14 ⟨rfl, hb14⟩
    have B14 := Lib.hid (Below.then_ B13.out hb14 (Nat.le_refl _))
    clear hb14
    go_wp2_with fail
    refine (NS.out _ (HT.out.below B14.out)).mono ?_
    rintro e w15 ⟨rfl, hb15⟩
    have B15 := Lib.hid (Below.then_ B14.out hb15 (Nat.le_refl _))
    clear hb15
    go_wp2_with fail
    refine (NS.out _ (HT.out.below B15.out)).mono ?_
    rintro e w16 ⟨rfl, hb16⟩
    have B16 := Lib.hid (Below.then_ B15.out hb16 (Nat.le_refl _))
    clear hb16
    by_cases hk : k = 0
    · have he : N.toList.isEmpty = false := by rw [HEM.out]; simp [hk]
      have e0 : ((k : Int) == 0) = true := by rw [hk]; rfl
      clear hk
      go_wp2_with fail
      go_ret
      exact ⟨rfl, B16.out⟩
    · have he : N.toList.isEmpty = true := by rw [HEM.out]; simp [hk]
      have e0 : ((k : Int) == 0) = false := by simpa using hk
      clear hk
      go_wp2_with fail
      go_ret
      exact ⟨rfl, B16.out⟩

end Go.Proofs.YtkjjgpkegihmhaaGreatDoor
