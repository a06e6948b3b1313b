/-
  DepthOf of the reference.
-/
import Derived.Test.YtcegbilfcblhfaaDepthPlain
import Derived.Test.YtcegbilfcblhfaaMaxS
import Derived.OwnWalk
namespace Go.Proofs.Ytcegbilfcblhfaa
open Go.RowKit
set_option linter.unusedVariables false

set_option maxHeartbeats 2000000 in
theorem s_l7Rule (d : Value) (l : List RuleD) (i : Int) (hi : -9223372036854775808 ≤ i ∧ i ≤ 9223372036854775807) (hfit : ∀ r ∈ l, RuleFits r) (hsm : ∀ r ∈ l, RuleSmall r) (w : World) (hd : RdDesc w d l) :
    Calls Try.prog 68 #[d, .int .i64 i] w fun e w' => e = .returned (.bool (hasL l i && validD l)) ∧ Below w.heap.size w w' := by
  obtain ⟨v, rfl, hv⟩ := hd
  obtain ⟨A, c, rfl, hnc, hcm, _⟩ := hv.all
  unfold maxLen at hcm
  obtain ⟨F, hF⟩ : ∃ F, F = (hasL l i && validD l) := ⟨_, rfl⟩
  rw [← hF]
  have HF := Lib.hid hF
  obtain ⟨H, hH⟩ : ∃ H, H = hasL l i := ⟨_, rfl⟩
  have hr := fun w => s_In i 0 ((l.length : Int) - 1) w
  rw [show inR i 0 ((l.length : Int) - 1) = H from (in_hasL l i).trans hH.symm] at hr
  have L1 := Lib.hid hr
  have HH := Lib.hid hH
  have iv := fun w h => s_IsValidDescription (.agg #[.slice A l.length c]) l hfit hsm w h
  obtain ⟨V, hV⟩ : ∃ V, V = validD l := ⟨_, rfl⟩
  rw [← hV] at iv
  have HVV := Lib.hid hV
  have IV := Lib.hid iv
  have HV := Lib.hid hv
  have hfin : Hid ((H && V) = F) := by show _ = _; rw [HF.out, HH.out, HVV.out]
  clear hr hH iv hV hv hF hfit hsm
  go_enter Try.func68, Try.ntmps68
  go_wp2_with fail
  refine (L1.out _).mono ?_
  rintro e w1 ⟨rfl, hww⟩
  subst hww
  cases H
  · go_wp2_with fail
    go_ret
    exact ⟨ret_bool hfin.out, below_box⟩
  · go_wp2_with fail
    refine (IV.out _ ⟨_, rfl, HV.out.below below_box⟩).mono ?_
    rintro e w1 ⟨rfl, hb1⟩
    have B1 := Lib.hid (Below.then_ below_box hb1 (Nat.le_refl _))
    clear hb1
    go_wp2_with fail
    go_ret
    exact ⟨ret_bool hfin.out, B1.out⟩

set_option maxRecDepth 100000 in
set_option maxHeartbeats 8000000 in
theorem s_DepthOf (d : Value) (l : List RuleD) (i : Int) (hi : -9223372036854775808 ≤ i ∧ i ≤ 9223372036854775807) (hfit : ∀ r ∈ l, RuleFits r) (hsm : ∀ r ∈ l, RuleSmall r) (w : World) (hd : RdDesc w d l) :
    Calls Try.prog 45 #[d, .int .i64 i] w fun e w' => e = .returned (.int .i64 (depthL l i)) ∧ Below w.heap.size w w' := by
  obtain ⟨v, rfl, hv⟩ := hd
  obtain ⟨A, c, rfl, hnc, hcm, hcell⟩ := hv.all
  unfold maxLen at hcm
  obtain ⟨F, hF⟩ : ∃ F, F = depthL l i := ⟨_, rfl⟩
  rw [← hF]
  obtain ⟨w0, hw0⟩ : ∃ w0, w0 = w.alloc (.cells #[.slice A l.length c] 29) := ⟨_, rfl⟩
  have b0 : Below w.heap.size w w0 := by rw [hw0]; exact below_box
  have HC := Lib.hid hcell
  have HV := Lib.hid hv
  have x0 : Box w0 w.heap.size 29 #[.slice A l.length c] := by rw [hw0]; exact Box.new w _ _
  have B0 := Lib.hid b0
  have X0 := Lib.hid x0
  have W0 := Lib.hid hw0
  have HF := Lib.hid hF
  have HSM := Lib.hid hsm
  obtain ⟨H, hH⟩ : ∃ H, H = (hasL l i && validD l) := ⟨_, rfl⟩
  have l7 := fun w h => s_l7Rule (.agg #[.slice A l.length c]) l i hi hfit hsm w h
  rw [← hH] at l7
  have L7 := Lib.hid l7
  have HH := Lib.hid hH
  obtain ⟨i0, hif, hz0, hz1, hz2⟩ := info_parts info_Int
  clear hcell hv x0 b0 hw0 hF hfit hsm l7 hH
  go_enter Try.func45, Try.ntmps45
  go_wp2_with fail
  rw [← W0.out]
  have x0 := X0.out.cell 0
  refine (L7.out _ ⟨_, rfl, HV.out.below B0.out⟩).mono ?_
  rintro e w1 ⟨rfl, hb1⟩
  have B1 := Lib.hid (Below.then_ B0.out hb1 (Nat.le_refl _))
  have X1 := Lib.hid (X0.out.below hb1)
  clear hb1 x0
  cases H
  · have hfin : Hid (0 = F) := by show _ = _; rw [HF.out]; unfold depthL; rw [← HH.out]; rfl
    go_wp2_with fail
    go_ret
    exact ⟨ret_int hfin.out, B1.out⟩
  · have hh := HH.out.symm
    rw [Bool.and_eq_true] at hh
    obtain ⟨m, rfl, hml⟩ := hasL_nat hh.1
    have hval := Lib.hid hh.2
    have hl24 := (valid_len hh.2).2
    have hfin : Hid ((depths l).getD m 0 = F) := by show _ = _; rw [HF.out]; unfold depthL; rw [← HH.out, Int.toNat_natCast]; rfl
    obtain ⟨n, hn⟩ : ∃ n, n = l.length := ⟨_, rfl⟩
    have HN := Lib.hid hn
    rw [← hn] at hnc hml hl24 X1
    clear hh hn
    have own0 := Lib.hid (World.ownsRow_lit (base := w1.heap.size) (e := 3) (size := 1) w1 #[] 0 (Nat.le_refl _) (Nat.zero_le _) rfl)
    have BB := Lib.hid ((Below.refl w1.heap.size w1).alloc (Nat.le_refl _) (.cells #[] 3))
    go_wp2_with fail
    go_loopw [5, 6] (fun o i wr => ∃ k : Nat, k ≤ m + 1 ∧ i = .int .i64 k ∧ wr.ownsRow w1.heap.size 3 1 o k (cI (depths (l.take k))) ∧ Below w1.heap.size w1 wr) (fun _ i _ => m + 1 - (intOf i).toNat)
    case atStart => exact ⟨0, Nat.zero_le _, rfl, by simpa [depths, depthGo, cI] using own0.out, BB.out⟩
    case round =>
      obtain ⟨k, hk, rfl, hownr, hbr⟩ := hrel
      have HBR := Lib.hid hbr
      have HOWN := Lib.hid hownr
      have XR := Lib.hid (X1.out.below hbr)
      obtain ⟨_, Ao, co, rfl, hoc, hom, hocell⟩ := Rd.of_own hownr
      have HOC := Lib.hid hocell
      unfold maxLen at hom
      clear hbr hownr hocell
      have xr := XR.out.cell 0
      by_cases hlt : k ≤ m
      · have hkl : k < l.length := by rw [← HN.out]; omega
        obtain ⟨b, off, rfl, hcs⟩ := HC.out (by omega)
        obtain ⟨vb, vn, vt, vk, hr⟩ := hcs k hkl
        obtain ⟨r, hr0⟩ : ∃ r, r = l[k] := ⟨_, rfl⟩
        rw [← hr0] at hr
        have hps : r.kids.length ≤ 1048576 := by rw [hr0]; exact (HSM.out _ (List.getElem_mem hkl)).2.2.2
        obtain ⟨⟨Ab, cb, rfl⟩, ⟨An, cn, rfl⟩, ⟨At, ct, rfl⟩, ⟨Ak, ck, rfl⟩⟩ := hr.slices
        have hrr := (hr.below B1.out).below HBR.out
        have D7 := hrr.c7
        have HRK := Lib.hid hrr.rk
        have hkn : (k : Int) < (n : Int) := by omega
        have hk0 : (0 : Int) ≤ (k : Int) := by omega
        have hkids : Hid (∀ j (h : j < r.kids.length), ∃ t : Nat, r.kids[j] = (t : Int) ∧ t < k) := by
          intro j hj
          subst hr0
          exact valid_kids hval.out hkl hj
        have HST : Hid (depths (l.take (k + 1)) = depths (l.take k) ++ [depthPart (depths (l.take k)) r.kids + 1]) := by rw [hr0]; exact depths_step hkl
        have HRG := Lib.hid (depths_take_range (Nat.le_of_lt hkl))
        have HDL := Lib.hid (depths_take_len (Nat.le_of_lt hkl))
        obtain ⟨acc, hacc⟩ : ∃ acc, acc = depths (l.take k) := ⟨_, rfl⟩
        rw [← hacc] at HST HRG HDL HOC HOWN
        obtain ⟨p, hp⟩ : ∃ p, p = r.kids.length := ⟨_, rfl⟩
        have HP := Lib.hid hp
        rw [← hp] at hps D7
        obtain ⟨wo, hwo⟩ : ∃ wo : World, wo = wr := ⟨_, rfl⟩
        subst hwo
        clear hcs hr hrr hr0 hacc hp
        go_wp2_with fail
        go_loop [7, 8] (fun t j => ∃ q : Nat, q ≤ p ∧ j = .int .i64 q ∧ t = .int .i64 (depthPart acc (r.kids.take q))) (fun _ j => p - (intOf j).toNat)
        case atStart => exact ⟨0, Nat.zero_le _, rfl, rfl⟩
        case round =>
          obtain ⟨q, hq, rfl, rfl⟩ := hrel
          by_cases hlt2 : q < p
          · have hqr : q < r.kids.length := by rw [← HP.out]; exact hlt2
            obtain ⟨bk, ok, rfl, hkc⟩ := kids_at HRK.out (by omega)
            have hx := hkc q hqr
            obtain ⟨t, ht, htk⟩ := hkids.out q hqr
            rw [ht] at hx
            obtain ⟨bo, oo, rfl, hoc2⟩ := HOC.out (by rw [cI_len, HDL.out]; omega)
            have hy := hoc2 t _ (cI_at (by rw [HDL.out]; exact htk))
            have HDP : Hid (depthPart acc (r.kids.take (q + 1)) = max (depthPart acc (r.kids.take q)) (acc.getD t 0)) := by
              have := depthPart_step (acc := acc) hqr
              rw [ht, Int.toNat_natCast] at this
              exact this
            have hya : acc[t]'(by rw [HDL.out]; exact htk) = acc.getD t 0 := by simp [htk, HDL.out]
            rw [hya] at hy
            obtain ⟨y, hy0⟩ : ∃ y, y = acc.getD t 0 := ⟨_, rfl⟩
            rw [← hy0] at hy HDP
            obtain ⟨x, hx0⟩ : ∃ x, x = depthPart acc (r.kids.take q) := ⟨_, rfl⟩
            rw [← hx0] at HDP ⊢
            have htki : (t : Int) < (k : Int) := by omega
            have ht0 : (0 : Int) ≤ (t : Int) := by omega
            have MX := Lib.hid (fun w => s_Max2 x y w)
            clear hkc hoc2 ht hya hy0 hx0
            go_wp2_with fail
            refine (MX.out _).mono ?_
            rintro e w7 ⟨rfl, hww⟩
            subst hww
            go_wp2_with fail
            go_round
            case rel => exact ⟨q + 1, by omega, by go_num, by rw [HDP.out]⟩
            case measure => simp [intOf]; omega
          · obtain rfl : q = p := by omega
            have hfull : r.kids.take q = r.kids := List.take_of_length_le (by rw [HP.out]; exact Nat.le_refl _)
            rw [hfull]
            obtain ⟨x, hx0⟩ : ∃ x, x = depthPart acc r.kids := ⟨_, rfl⟩
            rw [← hx0] at HST ⊢
            have hxr := depthPart_range HRG.out (by omega) r.kids
            rw [← hx0] at hxr
            have HLIT := Lib.hid (Rd.lit wo (cI [x + 1]) 3 1 rfl (by unfold maxLen; omega))
            clear hfull hx0
            go_wp2_with (at_builtin; refine wpList_append_rd _ rfl (.tmp 44) (.tmp 47) 54 rfl w1.heap.size 3 i0 (.int .i64 0) 1 8 Try.underlying54 hif hz0 hz1 hz2 rfl (by decide) _ k (cI acc) rfl (HOWN.out.alloc _) _ 1 (cI [x + 1]) rfl ?c1 (cI_one _) (by unfold maxLen; omega) (by omega) (by have := HBR.out.size; simp; omega) ?_)
            case c1 => exact HLIT.out
            intro v' w' hown' hgrow' _
            have HB' : Hid (Below w1.heap.size w1 w') := own_grown_below (HBR.out.alloc HBR.out.size _) (HOWN.out.alloc _) hgrow' (by have := HBR.out.size; simp; omega) (Nat.le_refl _)
            have HO' := Lib.hid hown'
            clear hgrow' hown' D7 xr
            go_wp2_with fail
            go_roundw
            case rel => exact ⟨k + 1, by omega, by go_num, by rw [HST.out, cI_append]; exact HO'.out, HB'.out⟩
            case measure => simp [intOf]; omega
      · obtain rfl : k = m + 1 := by omega
        obtain ⟨bo, oo, rfl, hoc2⟩ := HOC.out (by rw [cI_len, depths_take_len (by rw [← HN.out]; omega)]; omega)
        have hdl : (depths (l.take (m + 1))).length = m + 1 := depths_take_len (by rw [← HN.out]; omega)
        have hy := hoc2 m _ (cI_at (by rw [hdl]; omega))
        have hya : (depths (l.take (m + 1)))[m]'(by rw [hdl]; omega) = F := by
          rw [← hfin.out, ← depths_prefix (k := m + 1) (by rw [← HN.out]; omega) (by omega)]
          simp [hdl]
        rw [hya] at hy
        have hmi : (m : Int) < ((m + 1 : Nat) : Int) := by omega
        have hm0 : (0 : Int) ≤ (m : Int) := by omega
        clear hoc2 hya hdl
        go_wp2_with fail
        go_ret
        exact ⟨rfl, Below.then_ B1.out HBR.out (Nat.le_refl _)⟩

end Go.Proofs.Ytcegbilfcblhfaa
