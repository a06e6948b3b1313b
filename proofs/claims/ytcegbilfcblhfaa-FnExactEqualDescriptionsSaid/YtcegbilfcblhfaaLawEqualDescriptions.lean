/-
  The law FnExactEqualDescriptions.
-/
import Derived.Test.YtcegbilfcblhfaaEqualRules
import Derived.Test.YtcegbilfcblhfaaOpenDesc
import Derived.Test.YtcegbilfcblhfaaDescLaw
namespace Go.Proofs.Ytcegbilfcblhfaa
open Go.RowKit
set_option linter.unusedVariables false

set_option maxRecDepth 100000 in
set_option maxHeartbeats 8000000 in
theorem law_FnExactEqualDescriptions (d : Value) (l : List RuleD) (e : Value) (m : List RuleD) (w : World) (hd : RdDesc w d l ∧ ∀ r ∈ l, RuleFits r) (he : RdDesc w e m ∧ ∀ r ∈ m, RuleFits r) :
    Calls Try.prog 10 #[d, e] w fun e w' => e = .returned (.bool true) ∧ Below w.heap.size w w' := by
  obtain ⟨⟨v, rfl, hv⟩, hfit⟩ := hd
  obtain ⟨⟨u, rfl, hu⟩, hfit'⟩ := he
  obtain ⟨q, hq⟩ : ∃ q, q = szN (descSize l) 1048576 := ⟨_, rfl⟩
  have sz := fun w h => l_szDescription (.agg #[v]) l 1048576 (by omega) (by omega) hfit w h
  rw [← hq] at sz
  have SZ := Lib.hid sz
  have HV := Lib.hid hv
  have HU := Lib.hid hu
  obtain ⟨A, p, rfl⟩ : ∃ A c, v = .slice A l.length c := by
    obtain ⟨A, c, h, _⟩ := hv
    exact ⟨A, c, h⟩
  obtain ⟨B, p', rfl⟩ : ∃ A c, u = .slice A m.length c := by
    obtain ⟨A, c, h, _⟩ := hu
    exact ⟨A, c, h⟩
  obtain ⟨w0, hw0⟩ : ∃ w0, w0 = (w.alloc (.cells #[.slice A l.length p] 24)).alloc (.cells #[.slice B m.length p'] 24) := ⟨_, rfl⟩
  have b0 : Below w.heap.size w w0 := by rw [hw0]; exact below_box.alloc (by simp) _
  have BX0 : Box w0 w.heap.size 24 #[.slice A l.length p] := by rw [hw0]; exact (Box.new w _ _).alloc _
  have BY0 : Box w0 (w.heap.size + 1) 24 #[.slice B m.length p'] := by rw [hw0]; simpa using Box.new (w.alloc (.cells #[.slice A l.length p] 24)) 24 #[.slice B m.length p']
  have HW0 := Lib.hid hw0
  have X0 := Lib.hid BX0
  have Y0 := Lib.hid BY0
  have HB0 := Lib.hid b0
  clear sz hv hu hw0 BX0 BY0 b0
  by_cases hsz : (descSize l : Int) ≤ 1048576
  · have hqe := szN_pos hsz
    have hq0 : 0 ≤ q := by rw [hq, hqe]; omega
    have hq1 : q ≤ 1048576 := by rw [hq, hqe]; omega
    have hqz : q = 1048576 - descSize l := by rw [hq, hqe]
    obtain ⟨q2, hq2⟩ : ∃ q2, q2 = szN (descSize m) q := ⟨_, rfl⟩
    have sz2 := fun w h => l_szDescription (.agg #[.slice B m.length p']) m q hq0 hq1 hfit' w h
    rw [← hq2] at sz2
    have SZ2 := Lib.hid sz2
    clear sz2 hq hqe
    by_cases hsz2 : (descSize m : Int) ≤ q
    · have hq3 : 0 ≤ q2 := by rw [hq2, szN_pos hsz2]; omega
      have hsz3 : (descSize m : Int) ≤ 1048576 := by omega
      have TA := Lib.hid (fun w h => l_toDescription (.agg #[.slice A l.length p]) l (desc_len hsz) (desc_small hsz) w h)
      have TB := Lib.hid (fun w h => l_toDescription (.agg #[.slice B m.length p']) m (desc_len hsz3) (desc_small hsz3) w h)
      obtain ⟨D, hD⟩ : ∃ D, D = decide (l = m) := ⟨_, rfl⟩
      have se := fun d e w h h' => s_EqualDescriptions d e l m w h h'
      have ie := fun d e w h h' => i_EqualDescriptions d e l m w h h'
      rw [← hD] at se ie
      have SE := Lib.hid se
      have IE := Lib.hid ie
      clear hq1 hq2 hsz2 hsz hsz3 hqz hfit hfit' se ie hD
      go_enter Try.func10, Try.ntmps10
      go_wp2_with fail
      rw [← HW0.out]
      refine (SZ.out _ ⟨_, rfl, HV.out.below HB0.out⟩).mono ?_
      rintro e w1 ⟨rfl, hb1⟩
      have c1 : w1.cell? ⟨w.heap.size + 1, 0, none⟩ = some (.slice B m.length p') := (Y0.out.below hb1).cell 0
      have HB1 := Lib.hid (Below.then_ HB0.out hb1 (Nat.le_refl _))
      have X1 := Lib.hid (X0.out.below hb1)
      have Y1 := Lib.hid (Y0.out.below hb1)
      clear hb1
      go_wp2_with fail
      refine (SZ2.out _ ⟨_, rfl, HU.out.below HB1.out⟩).mono ?_
      rintro e w2 ⟨rfl, hb2⟩
      have c2 : w2.cell? ⟨w.heap.size, 0, none⟩ = some (.slice A l.length p) := (X1.out.below hb2).cell 0
      have d2 : w2.cell? ⟨w.heap.size + 1, 0, none⟩ = some (.slice B m.length p') := (Y1.out.below hb2).cell 0
      have HB2 := Lib.hid (Below.then_ HB1.out hb2 (Nat.le_refl _))
      have X2 := Lib.hid (X1.out.below hb2)
      have Y2 := Lib.hid (Y1.out.below hb2)
      have DR := Lib.hid (Below.refl w2.heap.size w2).drew
      clear hb2 c1
      go_wp2_with fail
      go_region_held3 (fun w' => w'.cell? ⟨w.heap.size, 0, none⟩ = some (.slice A l.length p) ∧ w'.cell? ⟨w.heap.size + 1, 0, none⟩ = some (.slice B m.length p'))
        (first | go_keep | (exact ⟨(X2.out.below hbA).cell 0, (Y2.out.below hbA).cell 0⟩) | (exact ⟨(X2.out.below hbE).cell 0, (Y2.out.below hbE).cell 0⟩) | (exact ⟨(X2.out.below hbB).cell 0, (Y2.out.below hbB).cell 0⟩))
        (first
          | (go_at_call 17; refine (TA.out _ ⟨_, rfl, HV.out.below (Below.then_ HB2.out DR.out (Nat.le_refl _))⟩).mono ?_; rintro e wa ⟨va, rfl, hoa, hba⟩; have hbA := Below.then_ DR.out hba (Nat.le_refl _))
          | (go_at_call 17; refine (TB.out _ ⟨_, rfl, HU.out.below (Below.then_ HB2.out DR.out (Nat.le_refl _))⟩).mono ?_; rintro e wb ⟨vb, rfl, hob, hbb⟩; have hbB := Below.then_ DR.out hbb (Nat.le_refl _))
          | (go_at_call 17; refine (TB.out _ ⟨_, rfl, HU.out.below (Below.then_ HB2.out hbA (Nat.le_refl _))⟩).mono ?_; rintro e wb ⟨vb, rfl, hob, hbb⟩; have hbE := Below.then_ hbA hbb (Nat.le_refl _))
          | (go_at_call 17; refine (TA.out _ ⟨_, rfl, HV.out.below (Below.then_ HB2.out hbB (Nat.le_refl _))⟩).mono ?_; rintro e wa ⟨va, rfl, hoa, hba⟩; have hbE := Below.then_ hbB hba (Nat.le_refl _))
          | (go_at_call 36; refine (SE.out _ _ _ ⟨_, rfl, (by first | exact hoa.rd | exact hoa.rd.below hbb)⟩ ⟨_, rfl, (by first | exact hob.rd | exact hob.rd.below hba)⟩).mono ?_; rintro e wc ⟨rfl, hbc⟩; have hbA := Below.then_ hbE hbc (Nat.le_refl _)))
      all_goals
        have HBc := Lib.hid (Below.then_ HB2.out hbA (Nat.le_refl _))
        have Xc := Lib.hid (X2.out.below hbA)
        have Yc := Lib.hid (Y2.out.below hbA)
        have cc : wc.cell? ⟨w.heap.size, 0, none⟩ = some (.slice A l.length p) := Xc.out.cell 0
        clear hoa hob hba hbb hbE hbc hbA c2 d2
        go_wp2_with fail
        refine (TA.out _ ⟨_, rfl, HV.out.below HBc.out⟩).mono ?_
        rintro e w4 ⟨v4, rfl, ho4, hb4⟩
        obtain ⟨A4, p4, rfl⟩ : ∃ A c, v4 = .slice A l.length c := by
          obtain ⟨A, c, h, _⟩ := ho4.rd
          exact ⟨A, c, h⟩
        obtain ⟨w4', hw4⟩ : ∃ w4', w4' = w4.alloc (.cells #[.slice A4 l.length p4] 29) := ⟨_, rfl⟩
        have b4 : Below w4.heap.size w4 w4' := by rw [hw4]; exact below_box
        have z4 : Box w4' w4.heap.size 29 #[.slice A4 l.length p4] := by rw [hw4]; exact Box.new _ _ _
        have HO4 := Lib.hid (ho4.rd.below b4)
        have HB4 := Lib.hid (Below.then_ (Below.then_ HBc.out hb4 (Nat.le_refl _)) b4 (Nat.le_refl _))
        have X4 := Lib.hid ((Xc.out.below hb4).below b4)
        have Y4 := Lib.hid ((Yc.out.below hb4).below b4)
        have Z4 := Lib.hid z4
        have d4 : (w4.alloc (.cells #[.slice A4 l.length p4] 29)).cell? ⟨w.heap.size + 1, 0, none⟩ = some (.slice B m.length p') := by rw [← hw4]; exact Y4.out.cell 0
        have HW4 := Lib.hid hw4
        clear ho4 hb4 b4 z4 cc hw4
        go_wp2_with fail
        rw [← HW4.out]
        refine (TB.out _ ⟨_, rfl, HU.out.below HB4.out⟩).mono ?_
        rintro e w5 ⟨v5, rfl, ho5, hb5⟩
        obtain ⟨A5, p5, rfl⟩ : ∃ A c, v5 = .slice A m.length c := by
          obtain ⟨A, c, h, _⟩ := ho5.rd
          exact ⟨A, c, h⟩
        obtain ⟨w5', hw5⟩ : ∃ w5', w5' = w5.alloc (.cells #[.slice A5 m.length p5] 29) := ⟨_, rfl⟩
        have b5 : Below w5.heap.size w5 w5' := by rw [hw5]; exact below_box
        have z5 : Box w5' w5.heap.size 29 #[.slice A5 m.length p5] := by rw [hw5]; exact Box.new _ _ _
        have HO5 := Lib.hid (ho5.rd.below b5)
        have HP5 := Lib.hid ((HO4.out.below hb5).below b5)
        have HB5 := Lib.hid (Below.then_ (Below.then_ HB4.out hb5 (Nat.le_refl _)) b5 (Nat.le_refl _))
        have X5 := Lib.hid ((X4.out.below hb5).below b5)
        have Y5 := Lib.hid ((Y4.out.below hb5).below b5)
        have Z5 := Lib.hid ((Z4.out.below hb5).below b5)
        have V5 := Lib.hid z5
        have d5 : (w5.alloc (.cells #[.slice A5 m.length p5] 29)).cell? ⟨w4.heap.size, 0, none⟩ = some (.slice A4 l.length p4) := by rw [← hw5]; exact Z5.out.cell 0
        have HW5 := Lib.hid hw5
        clear ho5 hb5 b5 z5 d4 hw5
        go_wp2_with fail
        rw [← HW5.out]
        refine (IE.out (.agg #[.slice A4 l.length p4]) (.agg #[.slice A5 m.length p5]) _ ⟨_, rfl, HP5.out⟩ ⟨_, rfl, HO5.out⟩).mono ?_
        rintro e w6 ⟨rfl, hb6⟩
        have HB6 := Lib.hid (Below.then_ HB5.out hb6 (Nat.le_refl _))
        have HP6 := Lib.hid (HP5.out.below hb6)
        have HO6 := Lib.hid (HO5.out.below hb6)
        have X6 := Lib.hid (X5.out.below hb6)
        have Y6 := Lib.hid (Y5.out.below hb6)
        have Z6 := Lib.hid (Z5.out.below hb6)
        have V6 := Lib.hid (V5.out.below hb6)
        have cx : w6.cell? ⟨w.heap.size, 0, none⟩ = some (.slice A l.length p) := X6.out.cell 0
        have cz : w6.cell? ⟨w4.heap.size, 0, none⟩ = some (.slice A4 l.length p4) := Z6.out.cell 0
        have DR6 := Lib.hid (Below.refl w6.heap.size w6).drew
        clear hb6 d5
        go_wp2_with fail
        go_region_held3 (fun w' => w'.cell? ⟨w4.heap.size, 0, none⟩ = some (.slice A4 l.length p4) ∧ w'.cell? ⟨w.heap.size, 0, none⟩ = some (.slice A l.length p))
          (first | go_keep | (exact ⟨(Z6.out.below hbt6).cell 0, (X6.out.below hbt6).cell 0⟩) | (exact ⟨(Z6.out.below hbe6).cell 0, (X6.out.below hbe6).cell 0⟩))
          (first | (go_at_call 17; refine (TA.out _ ⟨_, rfl, HV.out.below (Below.then_ HB6.out DR6.out (Nat.le_refl _))⟩).mono ?_; rintro e wt6 ⟨vt6, rfl, hot6, hbt0⟩; have hbt6 := Below.then_ DR6.out hbt0 (Nat.le_refl _); have HOT6 := Lib.hid hot6.rd; clear hot6 hbt0) | (go_at_call 19; refine (l_eqDescription _ _ l l _ ⟨_, rfl, HP6.out.below hbt6⟩ ⟨_, rfl, HOT6.out⟩).mono ?_; rw [decide_eq_true rfl]; rintro e we6 ⟨rfl, hbe0⟩; have hbe6 := Below.then_ hbt6 hbe0 (Nat.le_refl _); clear hbe0))
        have HB7 := Lib.hid (Below.then_ HB6.out hbe6 (Nat.le_refl _))
        have HO7 := Lib.hid (HO6.out.below hbe6)
        have Y7 := Lib.hid (Y6.out.below hbe6)
        have V7 := Lib.hid (V6.out.below hbe6)
        have cy : we6.cell? ⟨w.heap.size + 1, 0, none⟩ = some (.slice B m.length p') := Y7.out.cell 0
        have cv : we6.cell? ⟨w5.heap.size, 0, none⟩ = some (.slice A5 m.length p5) := V7.out.cell 0
        have DR7 := Lib.hid (Below.refl we6.heap.size we6).drew
        clear hbt6 hbe6 cx cz
        go_wp2_with fail
        go_region_held3 (fun w' => w'.cell? ⟨w5.heap.size, 0, none⟩ = some (.slice A5 m.length p5) ∧ w'.cell? ⟨w.heap.size + 1, 0, none⟩ = some (.slice B m.length p'))
          (first | go_keep | (exact ⟨(V7.out.below hbt7).cell 0, (Y7.out.below hbt7).cell 0⟩) | (exact ⟨(V7.out.below hbe7).cell 0, (Y7.out.below hbe7).cell 0⟩))
          (first | (go_at_call 17; refine (TB.out _ ⟨_, rfl, HU.out.below (Below.then_ HB7.out DR7.out (Nat.le_refl _))⟩).mono ?_; rintro e wt7 ⟨vt7, rfl, hot7, hbt0⟩; have hbt7 := Below.then_ DR7.out hbt0 (Nat.le_refl _); have HOT7 := Lib.hid hot7.rd; clear hot7 hbt0) | (go_at_call 19; refine (l_eqDescription _ _ m m _ ⟨_, rfl, HO7.out.below hbt7⟩ ⟨_, rfl, HOT7.out⟩).mono ?_; rw [decide_eq_true rfl]; rintro e we7 ⟨rfl, hbe0⟩; have hbe7 := Below.then_ hbt7 hbe0 (Nat.le_refl _); clear hbe0))
        have HB8 := Lib.hid (Below.then_ HB7.out hbe7 (Nat.le_refl _))
        clear hbt7 hbe7 cy cv
        go_wp2_with fail
        go_ret
        exact ⟨rfl, HB8.out⟩
    · have hq3 : q2 < 0 := by rw [hq2, szN_neg hsz2]; omega
      clear hq1 hq2 hsz2 hsz hqz hfit hfit'
      go_enter Try.func10, Try.ntmps10
      go_wp2_with fail
      rw [← HW0.out]
      refine (SZ.out _ ⟨_, rfl, HV.out.below HB0.out⟩).mono ?_
      rintro e w1 ⟨rfl, hb1⟩
      have c1 : w1.cell? ⟨w.heap.size + 1, 0, none⟩ = some (.slice B m.length p') := (Y0.out.below hb1).cell 0
      have HB1 := Lib.hid (Below.then_ HB0.out hb1 (Nat.le_refl _))
      clear hb1
      go_wp2_with fail
      refine (SZ2.out _ ⟨_, rfl, HU.out.below HB1.out⟩).mono ?_
      rintro e w2 ⟨rfl, hb2⟩
      have HB2 := Lib.hid (Below.then_ HB1.out hb2 (Nat.le_refl _))
      clear hb2
      go_wp2_with fail
      go_ret
      exact ⟨rfl, HB2.out⟩
  · have hq0 : q < 0 := by rw [hq, szN_neg hsz]; omega
    clear hq hsz hfit hfit'
    go_enter Try.func10, Try.ntmps10
    go_wp2_with fail
    rw [← HW0.out]
    refine (SZ.out _ ⟨_, rfl, HV.out.below HB0.out⟩).mono ?_
    rintro e w1 ⟨rfl, hb1⟩
    have HB1 := Lib.hid (Below.then_ HB0.out hb1 (Nat.le_refl _))
    clear hb1
    go_wp2_with fail
    go_ret
    exact ⟨rfl, HB1.out⟩

end Go.Proofs.Ytcegbilfcblhfaa
