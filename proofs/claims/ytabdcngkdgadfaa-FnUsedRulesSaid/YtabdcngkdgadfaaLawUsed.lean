/-
  The law FnUsedRules: the rules that are used and those that are not make up all rules.
-/
import Derived.Test.YtabdcngkdgadfaaUsedI
import Derived.Test.YtabdcngkdgadfaaL4Desc
import Derived.Test.YtabdcngkdgadfaaLawsPlain
import Derived.Test.YtabdcngkdgadfaaBig
import Derived.Test.YtabdcngkdgadfaaGA
import Derived.BigGuard
namespace Go.Proofs.Ytabdcngkdgadfaa
open Go.RowKit
set_option linter.unusedVariables false

set_option maxHeartbeats 1000000 in
theorem l_contains (v : Value) (ks : List Int) (x : Int) (w : World) (hr : Rd w v 1 ks.length (cI ks)) :
    Calls Try.prog 16 #[v, .int .i64 x] w fun e w' => e = .returned (.bool (decide (x ∈ ks))) ∧ Below w.heap.size w w' := by
  obtain ⟨_, A, c, rfl, hnc, hcm, hcell⟩ := hr
  unfold maxLen at hcm
  obtain ⟨F, hF⟩ : ∃ F, F = decide (x ∈ ks) := ⟨_, rfl⟩
  rw [← hF]
  obtain ⟨n, hn⟩ : ∃ n, n = ks.length := ⟨_, rfl⟩
  have HF := Lib.hid hF
  have HN := Lib.hid hn
  have HC := Lib.hid hcell
  rw [← hn] at hnc ⊢
  clear hF hn hcell
  go_enter Try.func16, Try.ntmps16
  go_wp2_with fail
  go_loopw [5] (fun i wr => ∃ q : Nat, q ≤ n ∧ i = .int .i64 q ∧ (∀ (j : Nat) (h : j < ks.length), j < q → ks[j] ≠ x) ∧ Below w.heap.size w wr) (fun i _ => n - (intOf i).toNat)
  case atStart => exact ⟨0, Nat.zero_le _, rfl, fun j _ h => absurd h (Nat.not_lt_zero _), Below.refl _ _⟩
  case round =>
    obtain ⟨q, hq, rfl, hall, hbr⟩ := hrel
    have HA := Lib.hid hall
    have HB := Lib.hid hbr
    clear hall hbr
    by_cases hlt : q < n
    · have hqk : q < ks.length := by rw [← HN.out]; exact hlt
      obtain ⟨b, off, rfl, hc⟩ := HC.out (by rw [cI_len, ← HN.out]; omega)
      have cq := cell_after (hc q _ (cI_at hqk)) HB.out
      obtain ⟨y, hy⟩ : ∃ y, y = ks[q] := ⟨_, rfl⟩
      rw [← hy] at cq
      have HY := Lib.hid hy
      clear hc hy
      by_cases he : y = x
      · have e1 : (y == x) = true := by simpa using he
        have hfin : Hid (true = F) := by
          show _ = _
          rw [HF.out]
          exact (decide_eq_true (by rw [← he, HY.out]; exact List.getElem_mem hqk)).symm
        clear he
        go_wp2_with fail
        go_ret
        exact ⟨ret_bool hfin.out, HB.out⟩
      · have e1 : (y == x) = false := by simpa using he
        have HNE := Lib.hid he
        clear he
        go_wp2_with fail
        go_roundw
        case rel =>
          refine ⟨q + 1, by omega, by go_num, fun j h hj => ?_, HB.out⟩
          by_cases hjq : j = q
          · subst hjq; rw [← HY.out]; exact HNE.out
          · exact HA.out j h (by omega)
        case measure => simp [intOf]; omega
    · obtain rfl : q = n := by omega
      have hfin : Hid (false = F) := by
        show _ = _
        rw [HF.out]
        refine (decide_eq_false fun hm => ?_).symm
        obtain ⟨j, hj, e⟩ := List.getElem_of_mem hm
        exact HA.out j hj (by rw [HN.out]; exact hj) e
      go_wp2_with fail
      go_ret
      exact ⟨ret_bool hfin.out, HB.out⟩

set_option maxRecDepth 100000 in
set_option maxHeartbeats 8000000 in
theorem law_FnUsedRules (v : Value) (bs : List UInt8) (w : World) (hr : Rd w v 1 bs.length (cB bs)) :
    Calls Try.prog 4 #[v] w fun e w' => e = .returned (.bool true) ∧ Below w.heap.size w w' := by
  by_cases hbig : (1048576 : Int) < (bs.length : Int)
  · have hd : decide ((1048576 : Int) < (bs.length : Int)) = true := by simpa using hbig
    go_enter Try.func4, Try.ntmps4
    go_wp2_with fail
    refine (l_big v bs _ hr).mono ?_
    rintro e w1 ⟨rfl, rfl⟩
    go_wp2_with fail
    go_ret
    exact ⟨rfl, Below.refl _ _⟩
  · have hd : decide ((1048576 : Int) < (bs.length : Int)) = false := by simpa using hbig
    go_enter Try.func4, Try.ntmps4
    go_wp2_with fail
    refine (l_big v bs _ hr).mono ?_
    rintro e w1 ⟨rfl, rfl⟩
    go_wp2_with fail
    refine (s_DrawDescription v bs (by omega) _ hr).mono ?_
    rintro e w1 ⟨A, c, l, rfl, ho, hdr, h1, h6, hb1⟩
    clear hbig hd
    have hval := hdr.valid h1 h6
    obtain ⟨m, hm⟩ : ∃ m, l.length = m + 1 := ⟨l.length - 1, by omega⟩
    obtain ⟨_, hnc, hcm, hcell⟩ : ∃ _ : True, l.length ≤ c ∧ c ≤ maxLen ∧ AllCells w1 A l := by
      obtain ⟨A', c', e, q1, q2, q3⟩ := ho.rd.all
      injection e with e1 _ e3
      subst e1; subst e3
      exact ⟨trivial, q1, q2, q3⟩
    unfold maxLen at hcm
    have us := fun w h => i_UsedRules (.agg #[.slice A l.length c]) l m hval (by omega) w h
    have ur := fun w h => i_UnusedRules (.agg #[.slice A l.length c]) l m hval hm w h
    have ib := fun w h => i_IsBinaryOnly (.agg #[.slice A l.length c]) l m hval hm w h
    have hmem : ∀ x ∈ usedL l m, ∃ k : Nat, x = (k : Int) ∧ k < l.length := fun x hx => by
      have := pickL_mem.1 hx
      exact ⟨x.toNat, by omega, by omega⟩
    have hlen := pickL_len (usedB l m) l.length
    have hroot : (m : Int) ∈ usedL l m := pickL_mem.2 ⟨by omega, by omega, by rw [Int.toNat_natCast]; exact usedB_root hval (by omega)⟩
    have hrest : ∀ x ∈ usedL l m, x ∉ restL l m := fun x hx hy => by
      have h1 := (pickL_mem.1 hx).2.2
      have h2 := (pickL_mem.1 hy).2.2
      rw [h1] at h2; cases h2
    have hclosed : ∀ x ∈ usedL l m, ∀ k ∈ (ruleAt l x).kids, k ∈ usedL l m := fun x hx k hk => by
      have h1 := pickL_mem.1 hx
      obtain ⟨i, rfl⟩ : ∃ i : Nat, x = (i : Int) := ⟨x.toNat, by omega⟩
      have hu := usedB_closed hval (by omega : m < l.length) (i := i) (by omega) (by simpa using h1.2.2) k hk
      have hka := kidsAhead_of hval i (by omega) k hk
      exact pickL_mem.2 ⟨hka.1, by omega, hu⟩
    obtain ⟨us0, hus⟩ : ∃ us0, us0 = usedL l m := ⟨_, rfl⟩
    obtain ⟨rs0, hrs⟩ : ∃ rs0, rs0 = restL l m := ⟨_, rfl⟩
    have hlen' : us0.length + rs0.length = l.length := by rw [hus, hrs]; exact hlen
    rw [← hus] at us ib hmem hroot hrest hclosed
    rw [← hrs] at ur hrest
    have hsm := good_small (by omega) (validD_good hval).1
    obtain ⟨p, hp⟩ : ∃ p, p = us0.length := ⟨_, rfl⟩
    obtain ⟨p', hp'⟩ : ∃ p', p' = rs0.length := ⟨_, rfl⟩
    obtain ⟨n, hn⟩ : ∃ n, n = l.length := ⟨_, rfl⟩
    have HN := Lib.hid hn
    have HP := Lib.hid hp
    have HP' := Lib.hid hp'
    rw [← hp] at us hlen'
    rw [← hp'] at ur hlen'
    have hro := ho.rd
    rw [← hn] at us ur ib h6 hm hnc hro hlen' hmem
    obtain ⟨R, hR⟩ : ∃ R, R = notTen l us0 := ⟨_, rfl⟩
    rw [← hR] at ib
    have HRR := Lib.hid hR
    have hnm : (n : Int) - 1 = (m : Int) := by omega
    have hsum : (p : Int) + (p' : Int) = (n : Int) := by omega
    have hp6 : p ≤ 6 := by omega
    have hp6' : p' ≤ 6 := by omega
    have US := Lib.hid us
    have UR := Lib.hid ur
    have IB := Lib.hid ib
    have HMEM := Lib.hid hmem
    have HROOT := Lib.hid hroot
    have HREST := Lib.hid hrest
    have HCLOSED := Lib.hid hclosed
    have HSM := Lib.hid hsm
    have HC := Lib.hid hcell
    have RD := Lib.hid (show ∀ W, Below w1.heap.size w1 W → RdDesc W (.agg #[.slice A n c]) l from fun W hb => ⟨_, rfl, hro.below hb⟩)
    have HB1 := Lib.hid hb1
    obtain ⟨w2, hw2⟩ : ∃ w2, w2 = w1.alloc (.cells #[.slice A n c] 26) := ⟨_, rfl⟩
    have X2 := Lib.hid (show Box w2 w1.heap.size 26 #[.slice A n c] by rw [hw2]; exact Box.new w1 _ _)
    have B2 := Lib.hid (show Below w1.heap.size w1 w2 by rw [hw2]; exact below_box)
    have x1 : (w1.alloc (.cells #[.slice A n c] 26)).cell? ⟨w1.heap.size, 0, none⟩ = some (.slice A n c) := (Box.new w1 _ _).cell 0
    have W2 := Lib.hid hw2
    rw [← hn]
    clear ho hdr h1 hval hm hcell us ur ib hmem hlen hroot hrest hclosed hus hrs hsm hp hp' hn hro hR hb1 hw2 hlen'
    go_wp2_with fail
    rw [← W2.out]
    refine (US.out _ (RD.out _ B2.out)).mono ?_
    rintro e w3 ⟨vu, rfl, hou, hb3⟩
    have B3 := Lib.hid (Below.then_ B2.out hb3 (Nat.le_refl _))
    have X3 := Lib.hid (X2.out.below hb3)
    have x3 : w3.cell? ⟨w1.heap.size, 0, none⟩ = some (.slice A n c) := X3.out.cell 0
    have RU3 := Lib.hid (Rd.of_own hou)
    obtain ⟨_, AU, cU, rfl, _, _, _⟩ := RU3.out
    clear hou hb3 x1
    go_wp2_with fail
    refine (UR.out _ (RD.out _ B3.out)).mono ?_
    rintro e w4 ⟨vr, rfl, hor, hb4⟩
    have B4 := Lib.hid (Below.then_ B3.out hb4 (Nat.le_refl _))
    have X4 := Lib.hid (X3.out.below hb4)
    have x4 : w4.cell? ⟨w1.heap.size, 0, none⟩ = some (.slice A n c) := X4.out.cell 0
    have RU4 := Lib.hid (RU3.out.below hb4)
    have RR4 := Lib.hid (Rd.of_own hor)
    obtain ⟨_, AR, cR, rfl, _, _, _⟩ := RR4.out
    clear hor hb4 x3
    have CU := Lib.hid (fun x (W : World) (hx : x ∈ us0) (h : Rd W (.slice AU p cU) 1 p (cI us0)) => show Calls Try.prog 16 #[.slice AU p cU, .int .i64 x] W fun e w' => e = .returned (.bool true) ∧ Below W.heap.size W w' from by
      have := l_contains (.slice AU p cU) us0 x W (by rw [← HP.out]; exact h)
      rwa [decide_eq_true hx] at this)
    have CR := Lib.hid (fun x (W : World) (hx : x ∉ rs0) (h : Rd W (.slice AR p' cR) 1 p' (cI rs0)) => show Calls Try.prog 16 #[.slice AR p' cR, .int .i64 x] W fun e w' => e = .returned (.bool false) ∧ Below W.heap.size W w' from by
      have := l_contains (.slice AR p' cR) rs0 x W (by rw [← HP'.out]; exact h)
      rwa [decide_eq_false hx] at this)
    go_wp2_with fail
    refine (CU.out (m : Int) _ HROOT.out RU4.out).mono ?_
    rintro e w5 ⟨rfl, hb5⟩
    have B5 := Lib.hid (Below.then_ B4.out hb5 (Nat.le_refl _))
    have X5 := Lib.hid (X4.out.below hb5)
    have RU5 := Lib.hid (RU4.out.below hb5)
    have RR5 := Lib.hid (RR4.out.below hb5)
    clear hb5 x4 hsum hnm
    go_wp2_with fail
    go_loopw [6] (fun i wr => ∃ q : Nat, q ≤ p ∧ i = .int .i64 q ∧ Below w5.heap.size w5 wr) (fun i _ => p - (intOf i).toNat)
    case atStart => exact ⟨0, Nat.zero_le _, rfl, Below.refl _ _⟩
    case round =>
      obtain ⟨q, hq, rfl, hbr⟩ := hrel
      have HBR := Lib.hid hbr
      clear hbr
      by_cases hlt : q < p
      · have hqu : q < us0.length := by rw [← HP.out]; exact hlt
        obtain ⟨bu, ou, rfl, huc⟩ := kids_at (by have h := RU5.out.below HBR.out; rw [HP.out] at h; exact h) (by omega)
        have cu := huc q hqu
        have hxm : us0[q] ∈ us0 := List.getElem_mem hqu
        obtain ⟨k, hk, hkn⟩ := HMEM.out us0[q] hxm
        rw [hk] at cu hxm
        have hnr : (k : Int) ∉ rs0 := HREST.out _ hxm
        have hkl : k < l.length := by rw [← HN.out]; exact hkn
        obtain ⟨b, off, rfl, hcs⟩ := HC.out (by omega)
        obtain ⟨vb, vn, vt, vk, hrc⟩ := hcs k hkl
        obtain ⟨r, hr0⟩ : ∃ r, r = l[k] := ⟨_, rfl⟩
        rw [← hr0] at hrc
        have hps : r.kids.length ≤ 1048576 := by rw [hr0]; exact (HSM.out _ (List.getElem_mem hkl)).2.2.2
        have hclo := HCLOSED.out _ hxm
        rw [show ruleAt l (k : Int) = r by rw [hr0]; exact ruleAt_eq hkl] at hclo
        have HCLO := Lib.hid hclo
        obtain ⟨⟨Ab, cb', rfl⟩, ⟨An, cn, rfl⟩, ⟨At, ct, rfl⟩, ⟨Ak, ck, rfl⟩⟩ := hrc.slices
        have HRC := Lib.hid (hrc.below (Below.then_ B5.out HBR.out (Nat.le_refl _)))
        have HNR := Lib.hid hnr
        have CUQ := Lib.hid cu
        have RRQ := Lib.hid (RR5.out.below HBR.out)
        have RUQ := Lib.hid (RU5.out.below HBR.out)
        obtain ⟨t, ht⟩ : ∃ t, t = r.kids.length := ⟨_, rfl⟩
        have HT := Lib.hid ht
        have h7 := HRC.out.c7
        rw [← ht] at hps h7
        have H7 := Lib.hid h7
        have hkni : (k : Int) < (n : Int) := by omega
        have hk0 : (0 : Int) ≤ (k : Int) := by omega
        clear huc hk hnr hcs hrc hr0 hclo ht h7 hxm
        go_wp2_with fail
        refine (CR.out (k : Int) _ HNR.out RRQ.out).mono ?_
        rintro e w6 ⟨rfl, hb6⟩
        have HB6 := Lib.hid hb6
        have HBR6 := Lib.hid (Below.then_ HBR.out hb6 (Nat.le_refl _))
        clear hb6 cu
        go_wp2_with fail
        go_loopw [7] (fun j wi => ∃ q' : Nat, q' ≤ t ∧ j = .int .i64 q' ∧ Below w6.heap.size w6 wi) (fun j _ => t - (intOf j).toNat)
        case atStart => exact ⟨0, Nat.zero_le _, rfl, Below.refl _ _⟩
        case round =>
          obtain ⟨wi, hwi⟩ : ∃ wi : World, wi = wr := ⟨_, rfl⟩
          subst hwi
          obtain ⟨j, hj, rfl, hbi⟩ := hrel
          have HBI := Lib.hid hbi
          have x0 := ((X5.out.below HBR6.out).below hbi).cell 0
          have cu := cell_after (cell_after CUQ.out HB6.out) hbi
          have h7 := cell_after (cell_after H7.out HB6.out) hbi
          have la := later_cell x0
          have lb := later_cell cu
          have lc := later_cell h7
          clear hbi
          by_cases hlt2 : j < t
          · have hjr : j < r.kids.length := by rw [← HT.out]; exact hlt2
            obtain ⟨bk, ok, rfl, hkc⟩ := kids_at (HRC.out.rk) (by omega)
            have hx := cell_after (cell_after (hkc j hjr) HB6.out) HBI.out
            obtain ⟨y, hy⟩ : ∃ y, y = r.kids[j] := ⟨_, rfl⟩
            have hym := Lib.hid (HCLO.out y (by rw [hy]; exact List.getElem_mem hjr))
            rw [← hy] at hx
            clear hkc hy
            go_wp2_with fail
            refine wp_region_later (by kernel_rfl) (by kernel_rfl) ?_
            repeat (go_big_quiet_step (fail))
            refine wpQuiet_nil ?_
            intro w7 hb7
            have HB7 := Lib.hid (Below.then_ HBI.out hb7 (Nat.le_refl _))
            have la' := later_cell (cell_after x0 hb7)
            have lb' := later_cell (cell_after cu hb7)
            have lc' := later_cell (cell_after h7 hb7)
            have ld' := later_cell (cell_after hx hb7)
            have L1 := Lib.hid (fun x : Later w7 => Calls.later (CU.out y x.world hym.out ((((RUQ.out.below HB6.out).below HB7.out).below x.below))))
            clear hb7 la lb lc x0 cu h7 hx
            go_wp2_with fail
            refine wp_region_later (by kernel_rfl) (by kernel_rfl) ?_
            repeat (go_big_quiet_step (first | (go_at_call 16; with_reducible exact L1.out _)))
            refine wpQuiet_nil ?_
            intro w8 hb8
            have HB8 := Lib.hid (Below.then_ HB7.out hb8 (Nat.le_refl _))
            clear hb8 la' lb' lc' ld'
            go_wp2_with fail
            go_roundw
            case rel => exact ⟨j + 1, by omega, by go_num, HB8.out⟩
            case measure => simp [intOf]; omega
          · obtain rfl : j = t := by omega
            go_wp2_with fail
            refine wp_region_later (by kernel_rfl) (by kernel_rfl) ?_
            repeat (go_big_quiet_step (fail))
            refine wpQuiet_nil ?_
            intro w7 hb7
            have HB7 := Lib.hid (Below.then_ HBR6.out (Below.then_ HBI.out hb7 (Nat.le_refl _)) (Nat.le_refl _))
            clear hb7 la lb lc x0 cu h7
            go_wp2_with fail
            go_roundw
            case rel => exact ⟨q + 1, by omega, by go_num, HB7.out⟩
            case measure => simp [intOf]; omega
      · obtain rfl : q = p := by omega
        have RU6 := Lib.hid (RU5.out.below HBR.out)
        have X6 := Lib.hid (X5.out.below HBR.out)
        have B6 := Lib.hid (Below.then_ B5.out HBR.out (Nat.le_refl _))
        have RR := Lib.hid (fun (W : World) (h : Below w5.heap.size w5 W) => RU5.out.below h)
        have XX := Lib.hid (fun (W : World) (h : Below w5.heap.size w5 W) => X5.out.below h)
        go_wp2_with fail
        go_loopw [8, 9] (fun o i wz => ∃ q' : Nat, q' ≤ q ∧ i = .int .i64 q' ∧ o = .bool (notTen l (us0.take q')) ∧ Below w5.heap.size w5 wz) (fun _ i _ => q - (intOf i).toNat)
        case atStart => exact ⟨0, Nat.zero_le _, rfl, by rw [List.take_zero]; rfl, HBR.out⟩
        case round =>
          obtain ⟨wz, hwz⟩ : ∃ wz : World, wz = wr := ⟨_, rfl⟩
          subst hwz
          obtain ⟨j, hj, rfl, rfl, hbz⟩ := hrel
          have HBZ := Lib.hid hbz
          obtain ⟨T, hT⟩ : ∃ T, T = notTen l (us0.take j) := ⟨_, rfl⟩
          rw [← hT]
          have HTT := Lib.hid hT
          clear hbz hT
          by_cases hlt : j < q
          · have hqu : j < us0.length := by rw [← HP.out]; exact hlt
            obtain ⟨bu, ou, rfl, huc⟩ := kids_at (by have h := RR.out wz HBZ.out; rw [HP.out] at h; exact h) (by omega)
            have cu := huc j hqu
            obtain ⟨k, hk, hkn⟩ := HMEM.out us0[j] (List.getElem_mem hqu)
            have HK := Lib.hid hk
            rw [hk] at cu
            have hkl : k < l.length := by rw [← HN.out]; exact hkn
            obtain ⟨b, off, rfl, hcs⟩ := HC.out (by omega)
            obtain ⟨vb, vn, vt, vk, hrc⟩ := hcs k hkl
            obtain ⟨r, hr0⟩ : ∃ r, r = l[k] := ⟨_, rfl⟩
            rw [← hr0] at hrc
            have HRA := Lib.hid (show ruleAt l (k : Int) = r by rw [hr0]; exact ruleAt_eq hkl)
            have d1 := (hrc.below (Below.then_ B5.out HBZ.out (Nat.le_refl _))).c1
            have x0 := (XX.out wz HBZ.out).cell 0
            have la := later_cell x0
            have lb := later_cell cu
            have lc := later_cell d1
            have hkni : (k : Int) < (n : Int) := by omega
            have hk0 : (0 : Int) ≤ (k : Int) := by omega
            have HST : Hid (notTen l (us0.take (j + 1)) = (T && decide (r.kind ≠ 10))) := by
              show _ = _
              rw [notTen_step hqu, ← HTT.out, HK.out, HRA.out]
            clear huc hk hcs hrc hr0
            cases T
            · go_wp2_with fail
              refine wp_region_later (by kernel_rfl) (by kernel_rfl) ?_
              repeat (go_big_quiet_step (fail))
              refine wpQuiet_nil ?_
              intro w7 hb7
              have HB7 := Lib.hid (Below.then_ HBZ.out hb7 (Nat.le_refl _))
              clear hb7 la lb lc x0 cu d1
              go_wp2_with fail
              go_roundw
              case rel => exact ⟨j + 1, by omega, by go_num, by rw [HST.out]; rfl, HB7.out⟩
              case measure => simp [intOf]; omega
            · by_cases h10 : r.kind = 10
              · have e1 : (r.kind == 10) = true := by simpa using h10
                have EN : Hid ((r.kind != 10) = false) := by show _ = _; simpa using h10
                have HST2 : Hid (notTen l (us0.take (j + 1)) = false) := by
                  show _ = _
                  rw [HST.out]; simpa using h10
                clear h10
                go_wp2_with fail
                refine wp_region_later (by kernel_rfl) (by kernel_rfl) ?_
                repeat (go_big_quiet_step (fail))
                refine wpQuiet_nil ?_
                intro w7 hb7
                have HB7 := Lib.hid (Below.then_ HBZ.out hb7 (Nat.le_refl _))
                clear hb7 la lb lc x0 cu d1
                go_wp2_with fail
                go_roundw
                case rel => exact ⟨j + 1, by omega, by go_num, by rw [HST2.out, EN.out], HB7.out⟩
                case measure => simp [intOf]; omega
              · have e1 : (r.kind == 10) = false := by simpa using h10
                have EN : Hid ((r.kind != 10) = true) := by show _ = _; simpa using h10
                have HST2 : Hid (notTen l (us0.take (j + 1)) = true) := by
                  show _ = _
                  rw [HST.out]; simpa using h10
                clear h10
                go_wp2_with fail
                refine wp_region_later (by kernel_rfl) (by kernel_rfl) ?_
                repeat (go_big_quiet_step (fail))
                refine wpQuiet_nil ?_
                intro w7 hb7
                have HB7 := Lib.hid (Below.then_ HBZ.out hb7 (Nat.le_refl _))
                clear hb7 la lb lc x0 cu d1
                go_wp2_with fail
                go_roundw
                case rel => exact ⟨j + 1, by omega, by go_num, by rw [HST2.out, EN.out], HB7.out⟩
                case measure => simp [intOf]; omega
          · obtain rfl : j = q := by omega
            have hTR : Hid (T = R) := by show _ = _; rw [HTT.out, HRR.out, HP.out, List.take_length]
            have x0 := (XX.out wz HBZ.out).cell 0
            obtain rfl : T = R := hTR.out
            go_wp2_with fail
            refine (IB.out _ (RD.out _ (Below.then_ B5.out HBZ.out (Nat.le_refl _)))).mono ?_
            rintro e w8 ⟨rfl, hb8⟩
            have HB8 := Lib.hid (Below.then_ (Below.then_ HB1.out (Below.then_ B5.out HBZ.out (Nat.le_refl _)) (Nat.le_refl _)) hb8 (Nat.le_refl _))
            clear hb8 x0
            cases T
            · go_wp2_with fail
              go_ret
              exact ⟨rfl, HB8.out⟩
            · go_wp2_with fail
              go_ret
              exact ⟨rfl, HB8.out⟩

end Go.Proofs.Ytabdcngkdgadfaa
