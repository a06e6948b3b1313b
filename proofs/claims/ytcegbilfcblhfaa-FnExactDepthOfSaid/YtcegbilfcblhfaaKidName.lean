/-
  KidName, of the program and of the reference.
-/
import Derived.Test.YtcegbilfcblhfaaLimit
import Derived.Test.YtcegbilfcblhfaaLater
namespace Go.Proofs.Ytcegbilfcblhfaa
open Go.RowKit
set_option linter.unusedVariables false

theorem kid_no {l : List RuleD} {i k : Int} (h : ¬ (hasL l i = true ∧ 0 ≤ k ∧ k < ((ruleAt l i).kids.length : Int) ∧ hasL l ((ruleAt l i).kids.getD k.toNat 0) = true)) : kidL l i k = ⟨#[]⟩ := by unfold kidL; rw [if_neg h]
theorem kid_yes {l : List RuleD} {i k : Int} (h : hasL l i = true ∧ 0 ≤ k ∧ k < ((ruleAt l i).kids.length : Int) ∧ hasL l ((ruleAt l i).kids.getD k.toNat 0) = true) : kidL l i k = (ruleAt l ((ruleAt l i).kids.getD k.toNat 0)).name := by unfold kidL; rw [if_pos h]
theorem kids_cell {w : World} {v : Value} {l : List Int} {A : Option Addr} {n c : Nat} (h : Rd w v 1 l.length (cI l)) (hv : v = .slice A n c) {k : Int} (h0 : 0 ≤ k) (h1 : k < (l.length : Int)) :
    ∃ b off, A = some ⟨b, off, none⟩ ∧ w.cell? ⟨b, off + k.toNat, none⟩ = some (.int .i64 (l.getD k.toNat 0)) := by
  obtain ⟨_, A', c', e, _, _, hc⟩ := h
  rw [hv] at e
  injection e with e _ _
  subst e
  obtain ⟨b, off, hA, hcell⟩ := hc (by rw [cI_len]; omega)
  refine ⟨b, off, hA, ?_⟩
  have hk : k.toNat < l.length := by omega
  have := hcell k.toNat _ (cI_at hk)
  simpa [List.getD, hk] using this

set_option maxRecDepth 100000 in
set_option maxHeartbeats 8000000 in
theorem i_KidName (d : Value) (l : List RuleD) (i k : Int) (hi : -9223372036854775808 ≤ i ∧ i ≤ 9223372036854775807) (hk : -9223372036854775808 ≤ k ∧ k ≤ 9223372036854775807) (w : World) (hd : RdDesc w d l) :
    Calls Try.prog 21 #[d, .int .i64 i, .int .i64 k] w fun e w' => e = .returned (.string (kidL l i k)) ∧ Below w.heap.size w w' := by
  obtain ⟨v, rfl, hv⟩ := hd
  obtain ⟨A, c, rfl, hnc, hcm, hcell⟩ := hv.all
  unfold maxLen at hcm
  obtain ⟨F, hF⟩ : ∃ F, F = kidL l i k := ⟨_, rfl⟩
  rw [← hF]
  have no : ¬ (hasL l i = true ∧ 0 ≤ k ∧ k < ((ruleAt l i).kids.length : Int) ∧ hasL l ((ruleAt l i).kids.getD k.toNat 0) = true) → Hid (⟨#[]⟩ = F) := fun h => by show _ = _; rw [hF, kid_no h]
  have yes : (hasL l i = true ∧ 0 ≤ k ∧ k < ((ruleAt l i).kids.length : Int) ∧ hasL l ((ruleAt l i).kids.getD k.toNat 0) = true) → Hid ((ruleAt l ((ruleAt l i).kids.getD k.toNat 0)).name = F) := fun h => by show _ = _; rw [hF, kid_yes h]
  clear hF
  obtain ⟨w0, hw0⟩ : ∃ w0, w0 = w.alloc (.cells #[.slice A l.length c] 29) := ⟨_, rfl⟩
  have b0 : Below w.heap.size w w0 := by rw [hw0]; exact below_box
  have HC := Lib.hid (hcell.below b0)
  have HV := Lib.hid (hv.below b0)
  have x0 : w0.cell? ⟨w.heap.size, 0, none⟩ = some (.slice A l.length c) := by rw [hw0]; exact (Box.new w _ _).cell 0
  have B0 := Lib.hid b0
  have X0 := Lib.hid x0
  have W0 := Lib.hid hw0
  clear hcell hv x0 b0 hw0
  obtain ⟨H, hH⟩ : ∃ H, H = hasL l i := ⟨_, rfl⟩
  have hr := fun w h => i_hasRule (.agg #[.slice A l.length c]) l i w h
  rw [← hH] at hr
  have L1 := Lib.hid (fun x : Later w0 => Calls.later (hr x.world ⟨_, rfl, HV.out.below x.below⟩))
  have HH := Lib.hid hH
  clear hr hH
  cases H
  · have hfin := no (fun h => by rw [← HH.out] at h; simp at h)
    clear no yes
    have x0 := X0.out
    go_enter Try.func21, Try.ntmps21
    go_wp2_with fail
    rw [← W0.out]
    have lx := later_cell X0.out
    refine wp_region_later (by kernel_rfl) (by kernel_rfl) ?_
    repeat (go_big_quiet_step ((go_at_call 51; with_reducible exact L1.out _)))
    refine wpQuiet_nil ?_
    intro w1 hb1
    clear lx
    go_wp2_with fail
    go_ret
    exact ⟨ret_str hfin.out, Below.then_ B0.out hb1 (Nat.le_refl _)⟩
  · have hi0 := hasL_iff.1 HH.out.symm
    have h0 : 0 ≤ i := hi0.1
    have h1 : i < (l.length : Int) := hi0.2
    clear hi0
    obtain ⟨b, off, vb, vn, vt, vk, rfl, hr⟩ := HC.out.at_ HH.out.symm
    obtain ⟨⟨Ab, cb, rfl⟩, ⟨An, cn, rfl⟩, ⟨At, ct, rfl⟩, ⟨Ak, ck, rfl⟩⟩ := hr.slices
    obtain ⟨r, hr0⟩ : ∃ r, r = ruleAt l i := ⟨_, rfl⟩
    rw [← hr0] at hr no yes
    have HK7 := Lib.hid hr.c7
    have HRK := Lib.hid hr.rk
    obtain ⟨_, _, _, ek, hkc, hkm, _⟩ := hr.rk
    injection ek with e1 e2 e3
    rw [← e3] at hkc hkm
    clear e1 e2 e3
    unfold maxLen at hkm
    clear hr hr0
    by_cases hk0 : 0 ≤ k
    · have dk0 : decide (k < 0) = false := by simp; omega
      by_cases hk1 : k < (r.kids.length : Int)
      · have dk1 : decide ((r.kids.length : Int) ≤ k) = false := by simp; omega
        obtain ⟨bk, ok, rfl, hkid⟩ := kids_cell HRK.out rfl hk0 hk1
        obtain ⟨kid, hkid0⟩ : ∃ kid, kid = r.kids.getD k.toNat 0 := ⟨_, rfl⟩
        rw [← hkid0] at hkid no yes
        have HKC := Lib.hid hkid
        obtain ⟨H2, hH2⟩ : ∃ H2, H2 = hasL l kid := ⟨_, rfl⟩
        have hr2 := fun w h => i_hasRule (.agg #[.slice (some ⟨b, off, none⟩) l.length c]) l kid w h
        rw [← hH2] at hr2
        have L3 := Lib.hid (fun x : Later w0 => Calls.later (hr2 x.world ⟨_, rfl, HV.out.below x.below⟩))
        have HH2 := Lib.hid hH2
        clear hr2 hH2 hkid0 hkid
        cases H2
        · have hfin := no (fun h => by rw [← HH2.out] at h; simp at h)
          clear no yes
          have x0 := X0.out
          go_enter Try.func21, Try.ntmps21
          go_wp2_with fail
          rw [← W0.out]
          have lx := later_cell X0.out
          have lk := later_cell HK7.out
          have lc := later_cell HKC.out
          refine wp_region_later (by kernel_rfl) (by kernel_rfl) ?_
          repeat (go_big_quiet_step (first | (go_at_call 51; with_reducible exact L1.out _) | (go_at_call 51; with_reducible exact L3.out _)))
          refine wpQuiet_nil ?_
          intro w1 hb1
          clear lx lk lc
          go_wp2_with fail
          go_ret
          exact ⟨ret_str hfin.out, Below.then_ B0.out hb1 (Nat.le_refl _)⟩
        · have hfin := yes ⟨HH.out.symm, hk0, hk1, HH2.out.symm⟩
          have hi2 := hasL_iff.1 HH2.out.symm
          have h2 : 0 ≤ kid := hi2.1
          have h3 : kid < (l.length : Int) := hi2.2
          clear hi2
          obtain ⟨b', off', _, _, _, _, eb, hr'⟩ := HC.out.at_ HH2.out.symm
          injection eb with eb
          injection eb with eb1 eb2
          subst eb1; subst eb2
          have N0 := hr'.c0
          obtain ⟨nm, hnm⟩ : ∃ nm, nm = (ruleAt l kid).name := ⟨_, rfl⟩
          rw [← hnm] at N0 hfin
          have HN0 := Lib.hid N0
          clear hr' hnm N0 no yes
          have x0 := X0.out
          go_enter Try.func21, Try.ntmps21
          go_wp2_with fail
          rw [← W0.out]
          have lx := later_cell X0.out
          have lk := later_cell HK7.out
          have lc := later_cell HKC.out
          refine wp_region_later (by kernel_rfl) (by kernel_rfl) ?_
          repeat (go_big_quiet_step (first | (go_at_call 51; with_reducible exact L1.out _) | (go_at_call 51; with_reducible exact L3.out _)))
          refine wpQuiet_nil ?_
          intro w1 hb1
          clear lx lk lc
          have y0 := cell_after X0.out hb1
          have y1 := cell_after HK7.out hb1
          have y2 := cell_after HKC.out hb1
          have y3 := cell_after HN0.out hb1
          have Y0 := Lib.hid y0
          have Y1 := Lib.hid y1
          have Y2 := Lib.hid y2
          have Y3 := Lib.hid y3
          have HB1 := Lib.hid hb1
          clear hb1
          go_wp2_with fail
          have la := later_cell Y0.out
          have lb := later_cell Y1.out
          have lc := later_cell Y2.out
          have ld := later_cell Y3.out
          refine wp_region_later (by kernel_rfl) (by kernel_rfl) ?_
          repeat (go_big_quiet_step (fail))
          refine wpQuiet_nil ?_
          intro w2 hb2
          clear la lb lc ld
          go_wp2_with fail
          go_ret
          exact ⟨ret_str hfin.out, Below.then_ B0.out (Below.then_ HB1.out hb2 (Nat.le_refl _)) (Nat.le_refl _)⟩
      · have dk1 : decide ((r.kids.length : Int) ≤ k) = true := by simp; omega
        have hfin := no (fun h => hk1 h.2.2.1)
        clear no yes
        have x0 := X0.out
        go_enter Try.func21, Try.ntmps21
        go_wp2_with fail
        rw [← W0.out]
        have lx := later_cell X0.out
        have lk := later_cell HK7.out
        refine wp_region_later (by kernel_rfl) (by kernel_rfl) ?_
        repeat (go_big_quiet_step ((go_at_call 51; with_reducible exact L1.out _)))
        refine wpQuiet_nil ?_
        intro w1 hb1
        clear lx lk
        go_wp2_with fail
        go_ret
        exact ⟨ret_str hfin.out, Below.then_ B0.out hb1 (Nat.le_refl _)⟩
    · have dk0 : decide (k < 0) = true := by simp; omega
      have hfin := no (fun h => hk0 h.2.1)
      clear no yes
      have x0 := X0.out
      go_enter Try.func21, Try.ntmps21
      go_wp2_with fail
      rw [← W0.out]
      have lx := later_cell X0.out
      have lk := later_cell HK7.out
      refine wp_region_later (by kernel_rfl) (by kernel_rfl) ?_
      repeat (go_big_quiet_step ((go_at_call 51; with_reducible exact L1.out _)))
      refine wpQuiet_nil ?_
      intro w1 hb1
      clear lx lk
      go_wp2_with fail
      go_ret
      exact ⟨ret_str hfin.out, Below.then_ B0.out hb1 (Nat.le_refl _)⟩

set_option maxRecDepth 100000 in
set_option maxHeartbeats 8000000 in
theorem s_KidName (d : Value) (l : List RuleD) (i k : Int) (hi : -9223372036854775808 ≤ i ∧ i ≤ 9223372036854775807) (hk : -9223372036854775808 ≤ k ∧ k ≤ 9223372036854775807) (w : World) (hd : RdDesc w d l) :
    Calls Try.prog 20 #[d, .int .i64 i, .int .i64 k] w fun e w' => e = .returned (.string (kidL l i k)) ∧ Below w.heap.size w w' := by
  obtain ⟨v, rfl, hv⟩ := hd
  obtain ⟨A, c, rfl, hnc, hcm, hcell⟩ := hv.all
  unfold maxLen at hcm
  obtain ⟨F, hF⟩ : ∃ F, F = kidL l i k := ⟨_, rfl⟩
  rw [← hF]
  have no : ¬ (hasL l i = true ∧ 0 ≤ k ∧ k < ((ruleAt l i).kids.length : Int) ∧ hasL l ((ruleAt l i).kids.getD k.toNat 0) = true) → Hid (⟨#[]⟩ = F) := fun h => by show _ = _; rw [hF, kid_no h]
  have yes : (hasL l i = true ∧ 0 ≤ k ∧ k < ((ruleAt l i).kids.length : Int) ∧ hasL l ((ruleAt l i).kids.getD k.toNat 0) = true) → Hid ((ruleAt l ((ruleAt l i).kids.getD k.toNat 0)).name = F) := fun h => by show _ = _; rw [hF, kid_yes h]
  clear hF
  obtain ⟨w0, hw0⟩ : ∃ w0, w0 = w.alloc (.cells #[.slice A l.length c] 29) := ⟨_, rfl⟩
  have b0 : Below w.heap.size w w0 := by rw [hw0]; exact below_box
  have HC := Lib.hid (hcell.below b0)
  have HV := Lib.hid (hv.below b0)
  have x0 : w0.cell? ⟨w.heap.size, 0, none⟩ = some (.slice A l.length c) := by rw [hw0]; exact (Box.new w _ _).cell 0
  have B0 := Lib.hid b0
  have X0 := Lib.hid x0
  have W0 := Lib.hid hw0
  clear hcell hv x0 b0 hw0
  obtain ⟨H, hH⟩ : ∃ H, H = hasL l i := ⟨_, rfl⟩
  have hr := fun w => s_In i 0 ((l.length : Int) - 1) w
  rw [show inR i 0 ((l.length : Int) - 1) = H from (in_hasL l i).trans hH.symm] at hr
  have L1 := Lib.hid (fun x : Later w0 => Calls.later_same (hr x.world))
  have HH := Lib.hid hH
  clear hr hH
  cases H
  · have hfin := no (fun h => by rw [← HH.out] at h; simp at h)
    clear no yes
    have x0 := X0.out
    go_enter Try.func20, Try.ntmps20
    go_wp2_with fail
    rw [← W0.out]
    have lx := later_cell X0.out
    refine wp_region_later (by kernel_rfl) (by kernel_rfl) ?_
    repeat (go_big_quiet_step ((go_at_call 50; with_reducible exact L1.out _)))
    refine wpQuiet_nil ?_
    intro w1 hb1
    clear lx
    go_wp2_with fail
    go_ret
    exact ⟨ret_str hfin.out, Below.then_ B0.out hb1 (Nat.le_refl _)⟩
  · have hi0 := hasL_iff.1 HH.out.symm
    have h0 : 0 ≤ i := hi0.1
    have h1 : i < (l.length : Int) := hi0.2
    clear hi0
    obtain ⟨b, off, vb, vn, vt, vk, rfl, hr⟩ := HC.out.at_ HH.out.symm
    obtain ⟨⟨Ab, cb, rfl⟩, ⟨An, cn, rfl⟩, ⟨At, ct, rfl⟩, ⟨Ak, ck, rfl⟩⟩ := hr.slices
    obtain ⟨r, hr0⟩ : ∃ r, r = ruleAt l i := ⟨_, rfl⟩
    rw [← hr0] at hr no yes
    have HK7 := Lib.hid hr.c7
    have HRK := Lib.hid hr.rk
    obtain ⟨_, _, _, ek, hkc, hkm, _⟩ := hr.rk
    injection ek with e1 e2 e3
    rw [← e3] at hkc hkm
    clear e1 e2 e3
    unfold maxLen at hkm
    clear hr hr0
    obtain ⟨H1, hH1⟩ : ∃ H1, H1 = inR k 0 ((r.kids.length : Int) - 1) := ⟨_, rfl⟩
    have hr1 := fun w => s_In k 0 ((r.kids.length : Int) - 1) w
    rw [← hH1] at hr1
    have L2 := Lib.hid (fun x : Later w0 => Calls.later_same (hr1 x.world))
    have HH1 := Lib.hid hH1
    clear hr1 hH1
    cases H1
    · have hfin := no (fun h => by have := inR_iff.2 (show 0 ≤ k ∧ k ≤ (r.kids.length : Int) - 1 by omega); rw [← HH1.out] at this; simp at this)
      clear no yes
      have x0 := X0.out
      go_enter Try.func20, Try.ntmps20
      go_wp2_with fail
      rw [← W0.out]
      have lx := later_cell X0.out
      have lk := later_cell HK7.out
      refine wp_region_later (by kernel_rfl) (by kernel_rfl) ?_
      repeat (go_big_quiet_step (first | (go_at_call 50; with_reducible exact L1.out _) | (go_at_call 50; with_reducible exact L2.out _)))
      refine wpQuiet_nil ?_
      intro w1 hb1
      clear lx lk
      go_wp2_with fail
      go_ret
      exact ⟨ret_str hfin.out, Below.then_ B0.out hb1 (Nat.le_refl _)⟩
    · have hkk := inR_iff.1 HH1.out.symm
      have hk0 : 0 ≤ k := hkk.1
      have hk1 : k < (r.kids.length : Int) := by omega
      clear hkk
      obtain ⟨bk, ok, rfl, hkid⟩ := kids_cell HRK.out rfl hk0 hk1
      obtain ⟨kid, hkid0⟩ : ∃ kid, kid = r.kids.getD k.toNat 0 := ⟨_, rfl⟩
      rw [← hkid0] at hkid no yes
      have HKC := Lib.hid hkid
      obtain ⟨H2, hH2⟩ : ∃ H2, H2 = hasL l kid := ⟨_, rfl⟩
      have hr2 := fun w => s_In kid 0 ((l.length : Int) - 1) w
      rw [show inR kid 0 ((l.length : Int) - 1) = H2 from (in_hasL l kid).trans hH2.symm] at hr2
      have L3 := Lib.hid (fun x : Later w0 => Calls.later_same (hr2 x.world))
      have HH2 := Lib.hid hH2
      clear hr2 hH2 hkid0 hkid
      cases H2
      · have hfin := no (fun h => by rw [← HH2.out] at h; simp at h)
        clear no yes
        have x0 := X0.out
        go_enter Try.func20, Try.ntmps20
        go_wp2_with fail
        rw [← W0.out]
        have lx := later_cell X0.out
        have lk := later_cell HK7.out
        have lc := later_cell HKC.out
        refine wp_region_later (by kernel_rfl) (by kernel_rfl) ?_
        repeat (go_big_quiet_step (first | (go_at_call 50; with_reducible exact L1.out _) | (go_at_call 50; with_reducible exact L2.out _) | (go_at_call 50; with_reducible exact L3.out _)))
        refine wpQuiet_nil ?_
        intro w1 hb1
        clear lx lk lc
        go_wp2_with fail
        go_ret
        exact ⟨ret_str hfin.out, Below.then_ B0.out hb1 (Nat.le_refl _)⟩
      · have hfin := yes ⟨HH.out.symm, hk0, hk1, HH2.out.symm⟩
        have hi2 := hasL_iff.1 HH2.out.symm
        have h2 : 0 ≤ kid := hi2.1
        have h3 : kid < (l.length : Int) := hi2.2
        clear hi2
        obtain ⟨b', off', _, _, _, _, eb, hr'⟩ := HC.out.at_ HH2.out.symm
        injection eb with eb
        injection eb with eb1 eb2
        subst eb1; subst eb2
        have N0 := hr'.c0
        obtain ⟨nm, hnm⟩ : ∃ nm, nm = (ruleAt l kid).name := ⟨_, rfl⟩
        rw [← hnm] at N0 hfin
        have HN0 := Lib.hid N0
        clear hr' hnm N0 no yes
        have x0 := X0.out
        go_enter Try.func20, Try.ntmps20
        go_wp2_with fail
        rw [← W0.out]
        have lx := later_cell X0.out
        have lk := later_cell HK7.out
        have lc := later_cell HKC.out
        refine wp_region_later (by kernel_rfl) (by kernel_rfl) ?_
        repeat (go_big_quiet_step (first | (go_at_call 50; with_reducible exact L1.out _) | (go_at_call 50; with_reducible exact L2.out _) | (go_at_call 50; with_reducible exact L3.out _)))
        refine wpQuiet_nil ?_
        intro w1 hb1
        clear lx lk lc
        have y0 := cell_after X0.out hb1
        have y1 := cell_after HK7.out hb1
        have y2 := cell_after HKC.out hb1
        have y3 := cell_after HN0.out hb1
        have Y0 := Lib.hid y0
        have Y1 := Lib.hid y1
        have Y2 := Lib.hid y2
        have Y3 := Lib.hid y3
        have HB1 := Lib.hid hb1
        clear hb1
        go_wp2_with fail
        have la := later_cell Y0.out
        have lb := later_cell Y1.out
        have lc := later_cell Y2.out
        have ld := later_cell Y3.out
        refine wp_region_later (by kernel_rfl) (by kernel_rfl) ?_
        repeat (go_big_quiet_step (fail))
        refine wpQuiet_nil ?_
        intro w2 hb2
        clear la lb lc ld
        go_wp2_with fail
        go_ret
        exact ⟨ret_str hfin.out, Below.then_ B0.out (Below.then_ HB1.out hb2 (Nat.le_refl _)) (Nat.le_refl _)⟩

end Go.Proofs.Ytcegbilfcblhfaa
