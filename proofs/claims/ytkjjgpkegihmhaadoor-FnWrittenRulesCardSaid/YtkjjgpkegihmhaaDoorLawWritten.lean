/-
  The law FnWrittenRules: every line begins with the name and the kind of its rule, and names all rules that it uses.
-/
import Derived.Test.YtkjjgpkegihmhaaDoorL4Desc
import Derived.Test.YtkjjgpkegihmhaaDoorLawsPlain
import Derived.Test.YtkjjgpkegihmhaaDoorLines
import Derived.Test.YtkjjgpkegihmhaaDoorGB
import Derived.Test.YtkjjgpkegihmhaaDoorGL
import Derived.Test.YtkjjgpkegihmhaaDoorWords
import Derived.Test.YtkjjgpkegihmhaaDoorGI
import Derived.Test.YtkjjgpkegihmhaaDoorGA
import Derived.Test.YtkjjgpkegihmhaaDoorBig
import Derived.BigGuard
import Derived.Deep.RegionHeld3
namespace Go.Proofs.YtkjjgpkegihmhaaDoor
open Go.RowKit
set_option linter.unusedVariables false

theorem str_eq (p q : List UInt8) : ((mkS p).toList == (mkS q).toList) = decide (p = q) := by
  rw [Lib.toList_data, Lib.toList_data, Bool.eq_iff_iff]
  simp [mkS]

theorem texts_atW {w : World} {A : Option Addr} {n c : Nat} {ps : List (List UInt8)} (h : Rd w (.slice A n c) 1 n (cS (tS ps))) (hn : n = ps.length) (hp : 0 < n) :
    ∃ b off, A = some ⟨b, off, none⟩ ∧ ∀ j (h : j < ps.length), w.cell? ⟨b, off + j, none⟩ = some (.string (mkS ps[j])) := by
  obtain ⟨_, A', c', e, _, _, hc⟩ := h
  injection e with e _ _
  obtain ⟨b, off, hA, hcell⟩ := hc (by rw [cS_len, tS_len]; omega)
  exact ⟨b, off, by rw [e, hA], fun j hj => hcell j _ (tS_at hj)⟩

set_option maxRecDepth 100000 in
set_option maxHeartbeats 8000000 in
theorem law_FnWrittenRules (v : Value) (bs : List UInt8) (w : World) (hr : Rd w v 1 bs.length (cB bs)) (ht : Tab w) :
    Calls Tryd.prog 6 #[v] w fun e w' => e = .returned (.bool true) ∧ Below w.heap.size w w' := by
  have HT := Lib.hid ht
  clear ht
  by_cases hbig : (1048576 : Int) < (bs.length : Int)
  · have hd : decide ((1048576 : Int) < (bs.length : Int)) = true := by simpa using hbig
    go_enter Tryd.func6, Tryd.ntmps6
    go_wp2_with fail
    refine (l_big v bs _ hr).mono ?_
    rintro e w1 ⟨rfl, rfl⟩
    go_wp2_with fail
    go_ret
    exact ⟨rfl, Below.refl _ _⟩
  · have hd : decide ((1048576 : Int) < (bs.length : Int)) = false := by simpa using hbig
    go_enter Tryd.func6, Tryd.ntmps6
    go_wp2_with fail
    refine (l_big v bs _ hr).mono ?_
    rintro e w1 ⟨rfl, rfl⟩
    go_wp2_with fail
    refine (s_DrawDescription v bs (by omega) _ hr).mono ?_
    rintro e w1 ⟨A, c, l, rfl, ho, hdr, h1, h6, hb1⟩
    clear hbig hd
    have hval := hdr.valid h1 h6
    have hg := hdr.good
    obtain ⟨hnc, hcm, hcell⟩ : l.length ≤ c ∧ c ≤ maxLen ∧ AllCells w1 A l := by
      obtain ⟨A', c', e, q1, q2, q3⟩ := ho.rd.all
      injection e with e1 _ e3
      subst e1; subst e3
      exact ⟨q1, q2, q3⟩
    unfold maxLen at hcm
    obtain ⟨b, off, hA, hcs⟩ := hcell (by omega)
    subst hA
    have fr := fun (q : Nat) (hq : q < l.length) w hT hD => i_FormatRule (.agg #[.slice (some ⟨b, off, none⟩) l.length c]) l (q : Int) (by omega) (good_fits (by omega) hg) (good_small (by omega) hg) (good_names (by omega) hg) w hT hD
    have ll := fun w hT hD => i_LongestLine (.agg #[.slice (some ⟨b, off, none⟩) l.length c]) l (by omega) (good_fits (by omega) hg) (good_small (by omega) hg) (good_names (by omega) hg) w hT hD
    have fd := fun w hT hD => i_FormatDescription (.agg #[.slice (some ⟨b, off, none⟩) l.length c]) l (by omega) (good_fits (by omega) hg) (good_small (by omega) hg) (good_names (by omega) hg) w hT hD
    have dn := fun w hD => i_DescriptionNames (.agg #[.slice (some ⟨b, off, none⟩) l.length c]) l (by omega) w hD
    have kn := fun (q k : Nat) (hq : q < l.length) (hk : k < 1048576) w hD => i_KidName (.agg #[.slice (some ⟨b, off, none⟩) l.length c]) l (q : Int) (k : Int) (by omega) (by omega) w hD
    have k00 := fun w hD => i_KidName (.agg #[.slice (some ⟨b, off, none⟩) l.length c]) l 0 0 (by omega) (by omega) w hD
    rw [kid_zero hg h1 (hdr.first h1)] at k00
    have fi := fun (s : ByteArray) w hD => s_FindRule (.agg #[.slice (some ⟨b, off, none⟩) l.length c]) l s w hD
    have hlw := fun (q : Nat) (hq : q < l.length) => line_words hg hq
    have hwm := fun (q : Nat) (hq : q < l.length) => words_more hg hq
    have hls := fun (q : Nat) (hq : q < l.length) => lineL_small hg (by omega) hq
    have hws := fun (q : Nat) (hq : q < l.length) => words_small hg (by omega) hq
    have hlg := fun (q : Nat) (hq : q < l.length) => longL_ge (l := l) hq
    have hkw := fun (q : Nat) (hq : q < l.length) (k : Nat) (hk : k < (ruleAt l (q : Int)).kids.length) => kid_word hg hq hk
    have hkf := fun (q : Nat) (hq : q < l.length) (k : Nat) (hk : k < (ruleAt l (q : Int)).kids.length) => kid_found hg hq hk
    have hsm := good_small (by omega) hg
    obtain ⟨T, hT⟩ : ∃ T, T = mkS (descT l) := ⟨_, rfl⟩
    have hTl : T.data.toList = descT l := by rw [hT]; rfl
    have hTs : T.size ≤ 10000 := by rw [hT, mkS_size]; exact descT_small hval
    rw [← hT] at fd
    have sl := fun w => s_SplitLines T (by omega) w
    rw [hTl, descT_lines hval, tS_len, allLines_len] at sl
    obtain ⟨LG, hLG⟩ : ∃ LG, LG = longL l l.length := ⟨_, rfl⟩
    rw [← hLG] at ll hlg
    obtain ⟨n, hn⟩ : ∃ n, n = l.length := ⟨_, rfl⟩
    have HN := Lib.hid hn
    have hro := ho.rd
    rw [← hn] at fr ll fd dn kn k00 fi hlw hwm hls hws hlg hkw hkf sl h6 h1 hnc hro
    have FR := Lib.hid fr
    have LL := Lib.hid ll
    have FD := Lib.hid fd
    have DN := Lib.hid dn
    have KN := Lib.hid kn
    have K00 := Lib.hid k00
    have FI := Lib.hid fi
    have SL := Lib.hid sl
    have HLW := Lib.hid hlw
    have HWM := Lib.hid hwm
    have HLS := Lib.hid hls
    have HWS := Lib.hid hws
    have HLG := Lib.hid hlg
    have HKW := Lib.hid hkw
    have HKF := Lib.hid hkf
    have HSM := Lib.hid hsm
    have HC := Lib.hid hcs
    have RD := Lib.hid (show ∀ W, Below w1.heap.size w1 W → RdDesc W (.agg #[.slice (some ⟨b, off, none⟩) n c]) l from fun W hb => ⟨_, rfl, hro.below hb⟩)
    have HB1 := Lib.hid hb1
    have HT1 := Lib.hid (HT.out.below hb1)
    obtain ⟨w2, hw2⟩ : ∃ w2, w2 = w1.alloc (.cells #[.slice (some ⟨b, off, none⟩) n c] 29) := ⟨_, rfl⟩
    have X2 := Lib.hid (show Box w2 w1.heap.size 29 #[.slice (some ⟨b, off, none⟩) n c] by rw [hw2]; exact Box.new w1 _ _)
    have B2 := Lib.hid (show Below w1.heap.size w1 w2 by rw [hw2]; exact below_box)
    have W2 := Lib.hid hw2
    rw [← hn]
    clear ho hdr hval hg hcell fr ll fd dn kn k00 fi sl hlw hwm hls hws hlg hkw hkf hsm hcs hn hro hb1 hw2 hLG hT hTl
    go_wp2_with fail
    rw [← W2.out]
    go_loopw [4] (fun i wr => ∃ q : Nat, q ≤ n ∧ i = .int .i64 q ∧ Below w2.heap.size w2 wr) (fun i _ => n - (intOf i).toNat)
    case atStart => exact ⟨0, Nat.zero_le _, rfl, Below.refl _ _⟩
    case round =>
      obtain ⟨q, hq, rfl, hbr⟩ := hrel
      have BR := Lib.hid (Below.then_ B2.out hbr (Nat.le_refl _))
      have BQ := Lib.hid hbr
      have XR := Lib.hid (X2.out.below hbr)
      have xr := XR.out.cell 0
      clear hbr
      by_cases hlt : q < n
      · have hqn : (q : Int) < (n : Int) := by omega
        have hq0 : (0 : Int) ≤ (q : Int) := by omega
        have hql : q < l.length := by rw [← HN.out]; exact hlt
        obtain ⟨vb, vn, vt, vk, hrc⟩ := HC.out q hql
        obtain ⟨r, hr0⟩ : ∃ r, r = ruleAt l (q : Int) := ⟨_, rfl⟩
        rw [← ruleAt_eq hql, ← hr0] at hrc
        have hps : r.kids.length ≤ 1048576 := by rw [hr0]; exact (HSM.out _ (ruleAt_mem hql)).2.2.2
        obtain ⟨⟨Ab, cb', rfl⟩, ⟨An, cn, rfl⟩, ⟨At, ct, rfl⟩, ⟨Ak, ck, rfl⟩⟩ := hrc.slices
        have HRC := Lib.hid hrc
        have hlw := HLW.out q hlt
        have hwm := HWM.out q hlt
        have hws := HWS.out q hlt
        have hkw := HKW.out q hlt
        have hkf := HKF.out q hlt
        have hls := HLS.out q hlt
        have hlg := HLG.out q hlt
        have fr := FR.out q hlt
        rw [← hr0] at hlw hwm hws hkw hkf
        obtain ⟨LB, hLB⟩ : ∃ LB, LB = lineL l (q : Int) := ⟨_, rfl⟩
        rw [← hLB] at hlw hls hlg fr
        obtain ⟨LN, hLN⟩ : ∃ LN, LN = mkS LB := ⟨_, rfl⟩
        rw [← hLN] at fr
        have hLNl : LN.data.toList = LB := by rw [hLN]; rfl
        have hLNs : LN.size = LB.length := by rw [hLN, mkS_size]
        have wo := fun w => s_Words LN (by omega) w
        rw [hLNl, hlw, tS_len] at wo
        have dl : decide (LG < (LN.size : Int)) = false := by simp; omega
        have hw0 : ∀ (h : 0 < (wordsR l (q : Int) r).length), mkS (wordsR l (q : Int) r)[0] = r.name := fun h => mkS_of _
        have hw1 : ∀ (h : 1 < (wordsR l (q : Int) r).length), mkS (wordsR l (q : Int) r)[1] = kindName r.kind := fun h => mkS_of _
        obtain ⟨ws, hws0⟩ : ∃ ws, ws = wordsR l (q : Int) r := ⟨_, rfl⟩
        rw [← hws0] at wo hwm hws hkw
        have hw0' : ∀ (h : 0 < ws.length), mkS ws[0] = r.name := by subst hws0; exact hw0
        have hw1' : ∀ (h : 1 < ws.length), mkS ws[1] = kindName r.kind := by subst hws0; exact hw1
        obtain ⟨m, hm⟩ : ∃ m, m = ws.length := ⟨_, rfl⟩
        rw [← hm] at wo hwm hkw
        have hm11 : m ≤ 11 := by rw [hm]; exact hws.2
        obtain ⟨K, hK⟩ : ∃ K, K = kindName r.kind := ⟨_, rfl⟩
        have skn := fun w => s_KindName r.kind w
        rw [← hK] at skn hw1'
        have HM := Lib.hid hm
        have HW0 := Lib.hid hw0'
        have HW1 := Lib.hid hw1'
        have HWS := Lib.hid hws.1
        have HKW := Lib.hid hkw
        have HKF := Lib.hid hkf
        have FR := Lib.hid fr
        have WO := Lib.hid wo
        have SKN := Lib.hid skn
        have dm : decide ((m : Int) < 3) = false := by simp; omega
        clear hrc hr0 hlw hws hkw hkf hls hlg fr hLB hLN hLNl hLNs wo hw0 hw1 hws0 hw0' hw1' hm hK skn
        go_wp2_with fail
        refine (FR.out _ (HT1.out.below BR.out) (RD.out _ BR.out)).mono ?_
        rintro e w3 ⟨rfl, hb3⟩
        have B3 := Lib.hid (Below.then_ BR.out hb3 (Nat.le_refl _))
        have BQ3 := Lib.hid (Below.then_ BQ.out hb3 (Nat.le_refl _))
        clear hb3 xr
        go_wp2_with fail
        refine (WO.out _).mono ?_
        rintro e w4 ⟨vW, rfl, hoW, hb4⟩
        have B4 := Lib.hid (Below.then_ B3.out hb4 (Nat.le_refl _))
        have BQ4 := Lib.hid (Below.then_ BQ3.out hb4 (Nat.le_refl _))
        obtain ⟨_, AW, cW, rfl, _, _, _⟩ := Rd.of_own hoW
        have hrW := Rd.of_own hoW
        obtain ⟨bw, ow, rfl, hwc⟩ := texts_atW hrW HM.out (by omega)
        have X4 := Lib.hid (X2.out.below BQ4.out)
        have RC4 := Lib.hid (HRC.out.below B4.out)
        have hm0 : 0 < ws.length := by rw [← HM.out]; omega
        have hm1 : 1 < ws.length := by rw [← HM.out]; omega
        have cw0 := hwc 0 hm0
        have cw1 := hwc 1 hm1
        rw [HW0.out hm0, Nat.add_zero] at cw0
        rw [HW1.out hm1] at cw1
        have HWC := Lib.hid hwc
        have la := later_cell (X4.out.cell 0)
        have lb := later_cell RC4.out.c0
        have lc := later_cell RC4.out.c1
        have ld := later_cell cw0
        have le := later_cell cw1
        have L1 := Lib.hid (fun x : Later w4 => Calls.later (SKN.out x.world))
        have L2 := Lib.hid (fun x : Later w4 => Calls.later (LL.out x.world (HT1.out.below (Below.then_ B4.out x.below (Nat.le_refl _))) (RD.out _ (Below.then_ B4.out x.below (Nat.le_refl _)))))
        have hm1i : (1 : Int) < (m : Int) := by omega
        have hm0i : (0 : Int) < (m : Int) := by omega
        clear hb4 hoW hrW hwc cw0 cw1 hm0 hm1
        go_wp2_with fail
        refine wp_region_later (by kernel_rfl) (by kernel_rfl) ?_
        repeat (go_big_quiet_step (first | (go_at_call 20; with_reducible exact L1.out _) | (go_at_call 14; with_reducible exact L2.out _)))
        refine wpQuiet_nil ?_
        intro w5 hb5
        have B5 := Lib.hid (Below.then_ B4.out hb5 (Nat.le_refl _))
        have BQ5 := Lib.hid (Below.then_ BQ4.out hb5 (Nat.le_refl _))
        have HWC5 := Lib.hid (fun (j : Nat) (h : j < ws.length) => cell_after (HWC.out j h) hb5)
        have X5 := Lib.hid (X4.out.below hb5)
        have RC5 := Lib.hid (RC4.out.below hb5)
        obtain ⟨t, ht⟩ : ∃ t, t = r.kids.length := ⟨_, rfl⟩
        have HTT := Lib.hid ht
        have h7 := RC5.out.c7
        rw [← ht] at h7 hps
        have H7 := Lib.hid h7
        clear hb5 la lb lc ld le L1 L2 ht h7
        go_wp2_with fail
        go_loopw [7] (fun i wi => ∃ k : Nat, k ≤ t ∧ i = .int .i64 k ∧ Below w5.heap.size w5 wi) (fun i _ => t - (intOf i).toNat)
        case atStart => exact ⟨0, Nat.zero_le _, rfl, Below.refl _ _⟩
        case round =>
          obtain ⟨wi, hwi⟩ : ∃ wi : World, wi = wr := ⟨_, rfl⟩
          subst hwi
          obtain ⟨k, hk, rfl, hbi⟩ := hrel
          have BI := Lib.hid hbi
          have x0 := (X5.out.below hbi).cell 0
          have h7 := cell_after H7.out hbi
          clear hbi
          by_cases hlt2 : k < t
          · have hkr : k < r.kids.length := by rw [← HTT.out]; exact hlt2
            obtain ⟨bk, ok, rfl, hkc⟩ := kids_at (RC5.out.rk) (by omega)
            have hx := hkc k hkr
            obtain ⟨y, hy⟩ : ∃ y, y = r.kids[k] := ⟨_, rfl⟩
            rw [← hy] at hx
            have hkn : k < 1048576 := by omega
            have kn := KN.out q k hlt hkn
            have hkf := HKF.out k hkr
            have hkw := HKW.out k hkr
            obtain ⟨KD, hKD⟩ : ∃ KD, KD = kidL l (q : Int) (k : Int) := ⟨_, rfl⟩
            have fi := FI.out KD
            have e1 : kidB l (q : Int) (k : Int) = KD.data.toList := by rw [hKD]; rfl
            rw [← hKD, ← hy] at hkf
            rw [← hKD] at kn
            rw [e1] at hkw
            rw [hkf] at fi
            have HX := Lib.hid hx
            have KNK := Lib.hid kn
            have FIK := Lib.hid fi
            have HKW2 := Lib.hid hkw
            clear hkc hx hy kn hkf hkw hKD fi e1
            go_wp2_with fail
            refine (KNK.out _ (RD.out _ (Below.then_ B5.out BI.out (Nat.le_refl _)))).mono ?_
            rintro e w6 ⟨rfl, hb6⟩
            have BI6 := Lib.hid (Below.then_ BI.out hb6 (Nat.le_refl _))
            clear hb6 x0 h7
            go_wp2_with fail
            go_loopw [9, 10] (fun f j wj => ∃ jj : Nat, 2 ≤ jj ∧ jj ≤ m ∧ j = .int .i64 jj ∧ f = .bool (hitN ws KD.data.toList jj) ∧ Below w6.heap.size w6 wj) (fun _ j _ => m - (intOf j).toNat)
            case atStart => exact ⟨2, Nat.le_refl _, by omega, rfl, by rw [hitN_start], Below.refl _ _⟩
            case round =>
              obtain ⟨wj, hwj⟩ : ∃ wj : World, wj = wr := ⟨_, rfl⟩
              subst hwj
              obtain ⟨j, hj2, hj, rfl, rfl, hbj⟩ := hrel
              have BJ := Lib.hid hbj
              have BIJ := Lib.hid (Below.then_ BI6.out hbj (Nat.le_refl _))
              obtain ⟨H, hH⟩ : ∃ H, H = hitN ws KD.data.toList j := ⟨_, rfl⟩
              rw [← hH]
              have HH := Lib.hid hH
              clear hbj hH
              by_cases hlt3 : j < m
              · have hjw : j < ws.length := by rw [← HM.out]; exact hlt3
                have cj := cell_after (HWC5.out j hjw) BIJ.out
                have hsz := HWS.out ws[j] (List.getElem_mem hjw)
                have hst := hitN_step (nm := KD.data.toList) hj2 hjw
                rw [← HH.out] at hst
                obtain ⟨x, hx⟩ : ∃ x, x = ws[j] := ⟨_, rfl⟩
                rw [← hx] at cj hsz hst
                have hxs : (mkS x).size ≤ 36 := by rw [mkS_size]; exact hsz
                have ca := fun w => s_CutAt (mkS x) 58 (by omega) (by unfold maxLen; omega) w
                rw [mkS_list, show (58 : Int).toNat.toUInt8 = (58 : UInt8) from rfl] at ca
                unfold hitW at hst
                have e1 : ((mkS x).toList == KD.toList) = decide (x = KD.data.toList) := by rw [← str_eq, mkS_of]
                have e3 : ((mkS (cutRight x 58)).toList == KD.toList) = decide (cutRight x 58 = KD.data.toList) := by rw [← str_eq, mkS_of]
                obtain ⟨b1, hb1⟩ : ∃ b1, b1 = decide (x = KD.data.toList) := ⟨_, rfl⟩
                obtain ⟨b2, hb2⟩ : ∃ b2, b2 = cutOk x 58 := ⟨_, rfl⟩
                obtain ⟨b3, hb3⟩ : ∃ b3, b3 = decide (cutRight x 58 = KD.data.toList) := ⟨_, rfl⟩
                rw [← hb1, ← hb2, ← hb3] at hst
                rw [← hb1] at e1
                rw [← hb3] at e3
                rw [← hb2] at ca
                generalize mkS (cutRight x 58) = XR at ca e3
                generalize mkS (cutLeft x 58) = XL at ca
                generalize mkS x = X at ca e1 cj
                have CA := Lib.hid ca
                have HST := Lib.hid hst
                have hjm : (j : Int) < (m : Int) := by omega
                have hj0 : (0 : Int) ≤ (j : Int) := by omega
                clear hsz hst hx hxs ca hb1 hb2 hb3
                go_wp2_with fail
                refine (CA.out _).mono ?_
                rintro e w8 ⟨rfl, hb8⟩
                have BJ8 := Lib.hid (Below.then_ BJ.out hb8 (Nat.le_refl _))
                have cj8 := cell_after cj hb8
                clear hb8 cj
                have fin : ∀ B, hitN ws KD.data.toList (j + 1) = B → Hid (hitN ws KD.data.toList (j + 1) = B) := fun _ h => h
                have HST' := HST.out
                clear fin
                cases H
                · cases b1
                  · cases b2
                    · have HZ : Hid (hitN ws KD.data.toList (j + 1) = false) := by show _ = _; rw [HST']; rfl
                      clear HST'
                      go_wp2_with fail
                      go_roundw
                      case rel => exact ⟨j + 1, by omega, by omega, by go_num, by rw [HZ.out], BJ8.out⟩
                      case measure => simp [intOf]; omega
                    · have HZ : Hid (hitN ws KD.data.toList (j + 1) = b3) := by show _ = _; rw [HST']; cases b3 <;> rfl
                      clear HST'
                      go_wp2_with fail
                      go_roundw
                      case rel => exact ⟨j + 1, by omega, by omega, by go_num, by rw [HZ.out], BJ8.out⟩
                      case measure => simp [intOf]; omega
                  · have HZ : Hid (hitN ws KD.data.toList (j + 1) = true) := by show _ = _; rw [HST']; rfl
                    clear HST'
                    go_wp2_with fail
                    go_roundw
                    case rel => exact ⟨j + 1, by omega, by omega, by go_num, by rw [HZ.out], BJ8.out⟩
                    case measure => simp [intOf]; omega
                · have HZ : Hid (hitN ws KD.data.toList (j + 1) = true) := by show _ = _; rw [HST']; rfl
                  clear HST'
                  go_wp2_with fail
                  go_roundw
                  case rel => exact ⟨j + 1, by omega, by omega, by go_num, by rw [HZ.out], BJ8.out⟩
                  case measure => simp [intOf]; omega
              · obtain rfl : j = m := by omega
                obtain rfl : H = true := by rw [HH.out]; exact HKW2.out
                have BX := Lib.hid (Below.then_ B5.out BIJ.out (Nat.le_refl _))
                have la := later_cell ((X5.out.below BIJ.out).cell 0)
                have lb := later_cell (cell_after H7.out BIJ.out)
                have lc := later_cell (cell_after HX.out BIJ.out)
                have L1 := Lib.hid (fun x : Later wj => Calls.later (FIK.out x.world (RD.out _ (Below.then_ BX.out x.below (Nat.le_refl _)))))
                go_wp2_with fail
                refine wp_region_later (by kernel_rfl) (by kernel_rfl) ?_
                repeat (go_big_quiet_step (first | (go_at_call 23; with_reducible exact L1.out _)))
                refine wpQuiet_nil ?_
                intro w9 hb9
                have BI9 := Lib.hid (Below.then_ BIJ.out hb9 (Nat.le_refl _))
                clear hb9 la lb lc L1
                go_wp2_with fail
                go_roundw
                case rel => exact ⟨k + 1, by omega, by go_num, BI9.out⟩
                case measure => simp [intOf]; omega
          · obtain rfl : k = t := by omega
            have BQI := Lib.hid (Below.then_ BQ5.out BI.out (Nat.le_refl _))
            go_wp2_with fail
            go_roundw
            case rel => exact ⟨q + 1, by omega, by go_num, BQI.out⟩
            case measure => simp [intOf]; omega
      · obtain rfl : q = n := by omega
        go_wp2_with fail
        go_region_held3 (fun W => W.cell? ⟨w1.heap.size, 0, none⟩ = some (.slice (some ⟨b, off, none⟩) q c))
          (first | go_keep | (exact XK.out.cell 0) | (exact (XR.out.drewN 1).cell 0))
          (first
            | (go_at_call 16; refine (FD.out _ (HT1.out.below (Below.then_ BR.out (Below.refl _ _).drew (Nat.le_refl _))) (RD.out _ (Below.then_ BR.out (Below.refl _ _).drew (Nat.le_refl _)))).mono ?_; rintro e wF ⟨rfl, hbF⟩; have BF := Lib.hid (Below.then_ (Below.refl wr.heap.size wr).drew hbF (Nat.le_refl _)); have XK := Lib.hid (XR.out.below BF.out); clear hbF)
            | (go_at_call 24; refine (SL.out _).mono ?_; rintro e wS ⟨vS, rfl, hoS, hbS⟩; obtain ⟨_, AS, cS', rfl, _, _, _⟩ := Rd.of_own hoS; have BS := Lib.hid (Below.then_ BF.out hbS (Nat.le_refl _)); have XK := Lib.hid (XR.out.below BS.out); clear hbS hoS)
            | (go_at_call 25; refine (DN.out _ (RD.out _ (Below.then_ BR.out BS.out (Nat.le_refl _)))).mono ?_; rintro e wD ⟨vD, rfl, hoD, hbD⟩; obtain ⟨_, AD, cD, rfl, _, _, _⟩ := Rd.of_own hoD; have BD := Lib.hid (Below.then_ BS.out hbD (Nat.le_refl _)); have XK := Lib.hid (XR.out.below BD.out); clear hbD hoD)
            | (go_at_call 21; refine (K00.out _ (RD.out _ (Below.then_ BR.out BD.out (Nat.le_refl _)))).mono ?_; rintro e wK ⟨rfl, hbK⟩; have BK := Lib.hid (Below.then_ BD.out hbK (Nat.le_refl _)); have XK := Lib.hid (XR.out.below BK.out); clear hbK))
        all_goals
          go_wp2_with fail
          go_ret
          exact ⟨rfl, Below.then_ HB1.out (Below.then_ BR.out BK.out (Nat.le_refl _)) (Nat.le_refl _)⟩

end Go.Proofs.YtkjjgpkegihmhaaDoor
