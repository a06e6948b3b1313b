/-
  The law FnRuleLines: a rule is parsed from its line only behind the rules that it uses.
-/
import Derived.Test.YtkjjgpkegihmhaaDoorL4Desc
import Derived.Test.YtkjjgpkegihmhaaDoorLawsPlain
import Derived.Test.YtkjjgpkegihmhaaDoorLines
import Derived.Test.YtkjjgpkegihmhaaDoorAddI
import Derived.Test.YtkjjgpkegihmhaaDoorParseI
import Derived.Test.YtkjjgpkegihmhaaDoorGL
import Derived.Test.YtkjjgpkegihmhaaDoorWords
import Derived.Test.YtkjjgpkegihmhaaDoorBig
import Derived.Test.YtkjjgpkegihmhaaDoorGA
import Derived.BigGuard
import Derived.Deep.RegionHeld3
import Derived.Deep.RegionWith
namespace Go.Proofs.YtkjjgpkegihmhaaDoor
open Go.RowKit
set_option linter.unusedVariables false

set_option maxHeartbeats 1000000 in
theorem l_sameTexts (va vb : Value) (xs : List ByteArray) (n : Nat) (hn : n = xs.length) (w : World) (ha : Rd w va 1 n (cS xs)) (hb : Rd w vb 1 n (cS xs)) :
    Calls Tryd.prog 30 #[va, vb] w fun e w' => e = .returned (.bool true) ∧ Below w.heap.size w w' := by
  obtain ⟨_, A, c, rfl, hnc, hcm, hca⟩ := ha
  obtain ⟨_, A', c', rfl, hnc', hcm', hcb⟩ := hb
  unfold maxLen at hcm hcm'
  have HN := Lib.hid hn
  have HA := Lib.hid hca
  have HB := Lib.hid hcb
  clear hn hca hcb
  go_enter Tryd.func30, Tryd.ntmps30
  go_wp2_with fail
  go_loopw [5] (fun i wr => ∃ q : Nat, q ≤ n ∧ i = .int .i64 q ∧ Below w.heap.size w wr) (fun i _ => n - (intOf i).toNat)
  case atStart => exact ⟨0, Nat.zero_le _, rfl, Below.refl _ _⟩
  case round =>
    obtain ⟨q, hq, rfl, hbr⟩ := hrel
    have HBR := Lib.hid hbr
    clear hbr
    by_cases hlt : q < n
    · have hqx : q < xs.length := by rw [← HN.out]; exact hlt
      obtain ⟨b1, o1, rfl, h1⟩ := HA.out (by rw [cS_len, ← HN.out]; omega)
      obtain ⟨b2, o2, rfl, h2⟩ := HB.out (by rw [cS_len, ← HN.out]; omega)
      have c1 := cell_after (h1 q _ (cS_at hqx)) HBR.out
      have c2 := cell_after (h2 q _ (cS_at hqx)) HBR.out
      obtain ⟨x, hx⟩ : ∃ x, x = xs[q] := ⟨_, rfl⟩
      rw [← hx] at c1 c2
      have la := later_cell c1
      have lb := later_cell c2
      have hqn : (q : Int) < (n : Int) := by omega
      have hq0 : (0 : Int) ≤ (q : Int) := by omega
      clear h1 h2 c1 c2 hx
      go_wp2_with fail
      refine wp_region_later (by kernel_rfl) (by kernel_rfl) ?_
      repeat (go_big_quiet_step (fail))
      refine wpQuiet_nil ?_
      intro w1 hb1
      have HB1 := Lib.hid (Below.then_ HBR.out hb1 (Nat.le_refl _))
      clear hb1 la lb
      go_wp2_with fail
      go_roundw
      case rel => exact ⟨q + 1, by omega, by go_num, HB1.out⟩
      case measure => simp [intOf]; omega
    · obtain rfl : q = n := by omega
      go_wp2_with fail
      go_ret
      exact ⟨rfl, HBR.out⟩

set_option maxRecDepth 100000 in
set_option maxHeartbeats 16000000 in
theorem law_FnRuleLines (v : Value) (bs : List UInt8) (w : World) (hr : Rd w v 1 bs.length (cB bs)) (ht : Tab w) :
    Calls Tryd.prog 7 #[v] w fun e w' => e = .returned (.bool true) ∧ Below w.heap.size w w' := by
  have HT := Lib.hid ht
  clear ht
  by_cases hbig : (1048576 : Int) < (bs.length : Int)
  · have hd : decide ((1048576 : Int) < (bs.length : Int)) = true := by simpa using hbig
    go_enter Tryd.func7, Tryd.ntmps7
    go_wp2_with fail
    refine (l_big v bs _ hr).mono ?_
    rintro e w1 ⟨rfl, rfl⟩
    go_wp2_with fail
    go_ret
    exact ⟨rfl, Below.refl _ _⟩
  · have hd : decide ((1048576 : Int) < (bs.length : Int)) = false := by simpa using hbig
    go_enter Tryd.func7, Tryd.ntmps7
    go_wp2_with fail
    refine (l_big v bs _ hr).mono ?_
    rintro e w1 ⟨rfl, rfl⟩
    go_wp2_with fail
    refine (s_DrawDescription v bs (by omega) _ hr).mono ?_
    rintro e w1 ⟨A, c, l, rfl, ho, hdr, h1, h6, hb1⟩
    clear hbig hd
    have hval := hdr.valid h1 h6
    have hg := hdr.good
    obtain ⟨hnc, hcm, hcell⟩ : l.length ≤ c ∧ c ≤ maxLen ∧ AllCells w1 A l := by
      obtain ⟨A', c', e, q1, q2, q3⟩ := ho.rd.all
      injection e with e1 _ e3
      subst e1; subst e3
      exact ⟨q1, q2, q3⟩
    unfold maxLen at hcm
    obtain ⟨b, off, hA, hcs⟩ := hcell (by omega)
    subst hA
    have hgt := fun (q : Nat) (hq : q ≤ l.length) => rulesGood_take hg hq
    have hlt' := fun (q : Nat) (hq : q ≤ l.length) => show (l.take q).length = q by rw [List.length_take]; omega
    have fr := fun (q : Nat) (hq : q < l.length) w hT hD => i_FormatRule (.agg #[.slice (some ⟨b, off, none⟩) l.length c]) l (q : Int) (by omega) (good_fits (by omega) hg) (good_small (by omega) hg) (good_names (by omega) hg) w hT hD
    have ll := fun w hT hD => i_LongestLine (.agg #[.slice (some ⟨b, off, none⟩) l.length c]) l (by omega) (good_fits (by omega) hg) (good_small (by omega) hg) (good_names (by omega) hg) w hT hD
    have pr := fun (q : Nat) (hq : q < l.length) (u : Value) w (hT : Tab w) (hD : RdDesc w (.agg #[u]) (l.take q)) => show Calls Tryd.prog 26 #[.agg #[u], .string (mkS (lineL l (q : Int)))] w (MadeR (some (ruleAt l (q : Int))) w) from by
      have h1 := hgt q (by omega)
      have h2 := hlt' q (by omega)
      have h3 := lineL_small hg (by omega) hq
      have := i_ParseRule (.agg #[u]) (l.take q) (mkS (lineL l (q : Int))) (by rw [mkS_size]; omega) (by omega) (good_fits (by omega) h1) (good_small (by omega) h1) (good_names (by omega) h1) w hT hD
      rwa [mkS_list, parse_line hg hq rfl] at this
    have pa := fun (q : Nat) (hq : q < l.length) w (hT : Tab w) => show Calls Tryd.prog 26 #[.agg #[.slice none 0 0], .string (mkS (lineL l (q : Int)))] w (MadeR (parseI [] (lineL l (q : Int))) w) from by
      have h3 := lineL_small hg (by omega) hq
      have := i_ParseRule (.agg #[.slice none 0 0]) [] (mkS (lineL l (q : Int))) (by rw [mkS_size]; omega) (by simp) (fun r hr => by cases hr) (fun r hr => by cases hr) (fun r hr => by cases hr) w hT ⟨_, rfl, none, 0, rfl, Nat.le_refl _, Nat.zero_le _, fun h => absurd h (by simp)⟩
      rwa [mkS_list] at this
    have ar := fun (q : Nat) (hq : q < l.length) (u : Value) (s : ByteArray) w (hs : s.data.toList = [32, 32] ++ lineL l (q : Int) ++ [32]) (hT : Tab w) (hD : RdDesc w (.agg #[u]) (l.take q)) => show Calls Tryd.prog 27 #[.agg #[u], .string s] w (MadeD (some (l.take (q + 1))) (l.take q) w) from by
      have h1 := hgt q (by omega)
      have h2 := hlt' q (by omega)
      have h3 := lineL_small hg (by omega) hq
      have h4 : s.size ≤ 1048576 := by
        rw [← len_of, hs]; simp; omega
      have := i_AddRule (.agg #[u]) (l.take q) s h4 (by omega) (good_fits (by omega) h1) (good_small (by omega) h1) (good_names (by omega) h1) w hT hD
      rwa [hs, add_line hg hq (by omega) (words_padded _)] at this
    have at_ := fun (q : Nat) (hq : q < l.length) (u : Value) w (hT : Tab w) (hD : RdDesc w (.agg #[u]) (l.take (q + 1))) => show Calls Tryd.prog 27 #[.agg #[u], .string (mkS (lineL l (q : Int)))] w (MadeD none (l.take (q + 1)) w) from by
      have h1 := hgt (q + 1) (by omega)
      have h2 := hlt' (q + 1) (by omega)
      have h3 := lineL_small hg (by omega) hq
      have := i_AddRule (.agg #[u]) (l.take (q + 1)) (mkS (lineL l (q : Int))) (by rw [mkS_size]; omega) (by omega) (good_fits (by omega) h1) (good_small (by omega) h1) (good_names (by omega) h1) w hT hD
      rwa [mkS_list, twice_no hg hq] at this
    have ic := fun (q : Nat) (hq : q < l.length) w => show Calls Tryd.prog 28 #[.string (mkS (lineL l (q : Int)))] w fun e w' => e = .returned (.bool false) ∧ Below w.heap.size w w' from by
      have h3 := lineL_small hg (by omega) hq
      have := i_IsComment (mkS (lineL l (q : Int))) (by rw [mkS_size]; omega) w
      rwa [mkS_list, line_comment hg hq rfl] at this
    have ih := fun (q : Nat) (hq : q < l.length) (s : ByteArray) w (hs : s.data.toList = [35, 32] ++ lineL l (q : Int)) => show Calls Tryd.prog 28 #[.string s] w fun e w' => e = .returned (.bool true) ∧ Below w.heap.size w w' from by
      have h3 := lineL_small hg (by omega) hq
      have h4 : s.size ≤ 4194304 := by
        rw [← len_of, hs]; simp; omega
      have := i_IsComment s h4 w
      rwa [hs, comment_hash] at this
    have eq := fun (u : Value) w (h : RdDesc w (.agg #[u]) l) (h' : RdDesc w (.agg #[.slice (some ⟨b, off, none⟩) l.length c]) l) => show Calls Tryd.prog 29 #[.agg #[u], .agg #[.slice (some ⟨b, off, none⟩) l.length c]] w fun e w' => e = .returned (.bool true) ∧ Below w.heap.size w w' from by
      have := i_EqualDescriptions (.agg #[u]) (.agg #[.slice (some ⟨b, off, none⟩) l.length c]) l l w h h'
      rwa [decide_eq_true rfl] at this
    have dn := fun (u : Value) w hD => i_DescriptionNames (.agg #[u]) l (by omega) w hD
    have ck := fun w hD => i_CountKind (.agg #[.slice (some ⟨b, off, none⟩) l.length c]) l 1 w hD
    have hck := hdr.count h1
    obtain ⟨CK, hCK⟩ : ∃ CK, CK = countL l 1 := ⟨_, rfl⟩
    rw [← hCK] at ck hck
    have dck : decide ((1 : Int) ≤ (CK : Int)) = true := by simp; omega
    have hal := fun (q : Nat) (hq : q < l.length) => show (parseI [] (lineL l (q : Int))).isSome = decide ((ruleAt l (q : Int)).kids = []) from by
      by_cases hk : (ruleAt l (q : Int)).kids = []
      · rw [alone_yes hg hq hk, decide_eq_true hk]
      · rw [alone_no hg hq hk, decide_eq_false hk]
    have hls := fun (q : Nat) (hq : q < l.length) => lineL_small hg (by omega) hq
    have hlg := fun (q : Nat) (hq : q < l.length) => longL_ge (l := l) hq
    have hsm := good_small (by omega) hg
    obtain ⟨LG, hLG⟩ : ∃ LG, LG = longL l l.length := ⟨_, rfl⟩
    rw [← hLG] at ll hlg
    obtain ⟨n, hn⟩ : ∃ n, n = l.length := ⟨_, rfl⟩
    have HN := Lib.hid hn
    have hro := ho.rd
    rw [← hn] at fr ll pr pa ar at_ ic ih eq dn ck hal hls hlg h6 h1 hnc hro
    have FR := Lib.hid fr
    have LL := Lib.hid ll
    have PR := Lib.hid pr
    have PA := Lib.hid pa
    have AR := Lib.hid ar
    have AT := Lib.hid at_
    have IC := Lib.hid ic
    have IH := Lib.hid ih
    have EQ := Lib.hid eq
    have DN := Lib.hid dn
    have CKK := Lib.hid ck
    have HAL := Lib.hid hal
    have HLS := Lib.hid hls
    have HLG := Lib.hid hlg
    have HSM := Lib.hid hsm
    have HC := Lib.hid hcs
    have RD := Lib.hid (show ∀ W, Below w1.heap.size w1 W → RdDesc W (.agg #[.slice (some ⟨b, off, none⟩) n c]) l from fun W hb => ⟨_, rfl, hro.below hb⟩)
    have HB1 := Lib.hid hb1
    have HT1 := Lib.hid (HT.out.below hb1)
    obtain ⟨w3, hw3⟩ : ∃ w3, w3 = (w1.alloc (.cells #[.slice (some ⟨b, off, none⟩) n c] 29)).alloc (.cells #[.slice none 0 0] 29) := ⟨_, rfl⟩
    have X3 := Lib.hid (show Box w3 w1.heap.size 29 #[.slice (some ⟨b, off, none⟩) n c] by rw [hw3]; exact (Box.new w1 _ _).alloc _)
    have Y3 := Lib.hid (show Box w3 (w1.heap.size + 1) 29 #[.slice none 0 0] by rw [hw3]; exact box_new1 _ _ _ _)
    have B3 := Lib.hid (show Below w1.heap.size w1 w3 by rw [hw3]; exact below_box.alloc (by simp) _)
    have W3 := Lib.hid hw3
    rw [← hn]
    clear ho hdr hval hg hcell hgt hlt' fr ll pr pa ar at_ ic ih eq dn ck hal hls hlg hsm hcs hn hro hb1 hw3 hLG hCK hck
    go_wp2_with fail
    rw [← W3.out]
    go_loopw [5] (fun i wr => ∃ (q : Nat) (Ae : Option Addr) (ce : Nat), q ≤ n ∧ i = .int .i64 q ∧ Box wr (w1.heap.size + 1) 29 #[.slice Ae q ce] ∧ Box wr w1.heap.size 29 #[.slice (some ⟨b, off, none⟩) n c] ∧ RdRules wr (.slice Ae q ce) (l.take q) ∧ Below w1.heap.size w1 wr) (fun i _ => n - (intOf i).toNat)
    case atStart => exact ⟨0, none, 0, Nat.zero_le _, rfl, Y3.out, X3.out, ⟨none, 0, rfl, Nat.le_refl _, Nat.zero_le _, fun h => absurd h (by simp)⟩, B3.out⟩
    case round =>
      obtain ⟨q, Ae, ce, hq, rfl, hyr, hxr, hre, hbr⟩ := hrel
      have BR := Lib.hid hbr
      have YR := Lib.hid hyr
      have XR := Lib.hid hxr
      have RE := Lib.hid hre
      have xr := hxr.cell 0
      have yr := hyr.cell 0
      clear hyr hxr hre hbr
      by_cases hlt : q < n
      · have hqn : (q : Int) < (n : Int) := by omega
        have hq0 : (0 : Int) ≤ (q : Int) := by omega
        have hql : q < l.length := by rw [← HN.out]; exact hlt
        obtain ⟨vb, vn, vt, vk, hrc⟩ := HC.out q hql
        obtain ⟨r, hr0⟩ : ∃ r, r = ruleAt l (q : Int) := ⟨_, rfl⟩
        rw [← ruleAt_eq hql, ← hr0] at hrc
        have hps : r.kids.length ≤ 1048576 := by rw [hr0]; exact (HSM.out _ (ruleAt_mem hql)).2.2.2
        obtain ⟨⟨Ab, cb', rfl⟩, ⟨An, cn, rfl⟩, ⟨At, ct, rfl⟩, ⟨Ak, ck, rfl⟩⟩ := hrc.slices
        have HRC := Lib.hid hrc
        have pr := PR.out q hlt
        have pa := PA.out q hlt
        have ar := AR.out q hlt
        have at_ := AT.out q hlt
        have ic := IC.out q hlt
        have ih := IH.out q hlt
        have hal := HAL.out q hlt
        have hls := HLS.out q hlt
        have hlg := HLG.out q hlt
        have fr := FR.out q hlt
        rw [← hr0] at pr hal
        obtain ⟨LB, hLB⟩ : ∃ LB, LB = lineL l (q : Int) := ⟨_, rfl⟩
        rw [← hLB] at pr pa ar at_ ic ih hal hls hlg fr
        obtain ⟨LN, hLN⟩ : ∃ LN, LN = mkS LB := ⟨_, rfl⟩
        have hLNl : LN.data.toList = LB := by rw [hLN]; rfl
        have hLNs : LN.size = LB.length := by rw [hLN, mkS_size]
        rw [← hLN] at fr pr pa at_ ic
        have dl : decide (LG < (LN.size : Int)) = false := by simp; omega
        obtain ⟨oa, hoa⟩ : ∃ oa, oa = parseI [] LB := ⟨_, rfl⟩
        rw [← hoa] at pa hal
        have z1 : ¬ (9223372036854775807 < 2 + LN.size) := by omega
        have z2 : ¬ (9223372036854775807 < 2 + LN.size + 1) := by omega
        have FRQ := Lib.hid fr
        have PRQ := Lib.hid pr
        have PAQ := Lib.hid pa
        have ARQ := Lib.hid ar
        have ATQ := Lib.hid at_
        have ICQ := Lib.hid ic
        have IHQ := Lib.hid ih
        have HALQ := Lib.hid hal
        have HLN := Lib.hid hLNl
        clear hrc hr0 fr pr pa ar at_ ic ih hal hls hlg hLB hLN hLNl hLNs hoa
        go_wp2_with fail
        refine (FRQ.out _ (HT1.out.below BR.out) (RD.out _ BR.out)).mono ?_
        rintro e w4 ⟨rfl, hb4⟩
        have B4 := Lib.hid (Below.then_ BR.out hb4 (Nat.le_refl _))
        have X4 := Lib.hid (XR.out.below hb4)
        have Y4 := Lib.hid (YR.out.below hb4)
        have RE4 := Lib.hid (RE.out.below hb4)
        have y4 := Y4.out.cell 0
        clear hb4 xr yr
        go_wp2_with fail
        refine (PRQ.out _ _ (HT1.out.below B4.out) ⟨_, rfl, RE4.out⟩).mono ?_
        rintro e w5 ⟨ub, un, ut, uk, rfl, how, hb5⟩
        simp only [Option.getD_some, Option.isSome_some] at how ⊢
        obtain ⟨Abw, cbw, Anw, cnw, Atw, ctw, Akw, ckw, rfl, rfl, rfl, rfl⟩ := how.slices
        unfold rCells
        obtain ⟨w6, hw6⟩ : ∃ w6, w6 = w5.alloc (.cells #[.string r.name, .int .i64 r.kind, .int .i64 r.size, .bool r.little, .slice Abw r.bytes.length cbw, .slice Anw r.names.length cnw, .slice Atw r.tags.length ctw, .slice Akw r.kids.length ckw] 43) := ⟨_, rfl⟩
        have hb56 : Below w5.heap.size w5 w6 := by rw [hw6]; exact (Below.refl _ _).alloc (Nat.le_refl _) _
        have hb46 := Below.then_ hb5 hb56 (Nat.le_refl _)
        have Q6 := Lib.hid (show Box w6 w5.heap.size 43 #[.string r.name, .int .i64 r.kind, .int .i64 r.size, .bool r.little, .slice Abw r.bytes.length cbw, .slice Anw r.names.length cnw, .slice Atw r.tags.length ctw, .slice Akw r.kids.length ckw] by rw [hw6]; exact Box.new _ _ _)
        have B6 := Lib.hid (Below.then_ B4.out hb46 (Nat.le_refl _))
        have X6 := Lib.hid (X4.out.below hb46)
        have Y6 := Lib.hid (Y4.out.below hb46)
        have RE6 := Lib.hid (RE4.out.below hb46)
        have y6 : (w5.alloc (.cells #[.string r.name, .int .i64 r.kind, .int .i64 r.size, .bool r.little, .slice Abw r.bytes.length cbw, .slice Anw r.names.length cnw, .slice Atw r.tags.length ctw, .slice Akw r.kids.length ckw] 43)).cell? ⟨w1.heap.size + 1, 0, none⟩ = some (.slice Ae q ce) := by rw [← hw6]; exact Y6.out.cell 0
        have W6 := Lib.hid hw6
        clear how hb5 hb56 hb46 hw6 y4
        go_wp2_with fail
        rw [← W6.out]
        refine (ARQ.out _ _ _ (by rw [← HLN.out]; simp [ByteArray.data_append]) (HT1.out.below B6.out) ⟨_, rfl, RE6.out⟩).mono ?_
        rintro e w7 ⟨vx, rfl, hox, hb7⟩
        simp only [Option.getD_some, Option.isSome_some] at hox ⊢
        obtain ⟨Ax, px, hvx⟩ := hox.slice
        rw [show (l.take (q + 1)).length = q + 1 by rw [List.length_take]; omega] at hvx
        subst hvx
        obtain ⟨w8, hw8⟩ : ∃ w8, w8 = w7.alloc (.cells #[.slice Ax (q + 1) px] 29) := ⟨_, rfl⟩
        have hb78 : Below w7.heap.size w7 w8 := by rw [hw8]; exact below_box
        have hb68 := Below.then_ hb7 hb78 (Nat.le_refl _)
        have Z8 := Lib.hid (show Box w8 w7.heap.size 29 #[.slice Ax (q + 1) px] by rw [hw8]; exact Box.new _ _ _)
        have OX8 := Lib.hid (hox.below hb78)
        have B8 := Lib.hid (Below.then_ B6.out hb68 (Nat.le_refl _))
        have X8 := Lib.hid (X6.out.below hb68)
        have Y8 := Lib.hid (Y6.out.below hb68)
        have Q8 := Lib.hid (Q6.out.below hb68)
        have W8 := Lib.hid hw8
        have RC8 := Lib.hid (HRC.out.below B8.out)
        have la := later_cell (X8.out.cell 0)
        have lb := later_cell (Q8.out.cell 0)
        have lc := later_cell (Q8.out.cell 1)
        have ld := later_cell RC8.out.c0
        have le := later_cell RC8.out.c1
        have L1 := Lib.hid (fun x : Later w8 => Calls.later (LL.out x.world (HT1.out.below (Below.then_ B8.out x.below (Nat.le_refl _))) (RD.out _ (Below.then_ B8.out x.below (Nat.le_refl _)))))
        clear hox hb7 hb78 hb68 hw8 y6
        go_wp2_with fail
        rw [← W8.out]
        refine wp_region_later (by kernel_rfl) (by kernel_rfl) ?_
        repeat (go_big_quiet_step (first | (go_at_call 14; with_reducible exact L1.out _)))
        refine wpQuiet_nil ?_
        intro w9 hb9
        have B9 := Lib.hid (Below.then_ B8.out hb9 (Nat.le_refl _))
        have X9 := Lib.hid (X8.out.below hb9)
        have Y9 := Lib.hid (Y8.out.below hb9)
        have Z9 := Lib.hid (Z8.out.below hb9)
        have OX9 := Lib.hid (OX8.out.below hb9)
        clear hb9 la lb lc ld le L1
        go_wp2_with fail
        refine (PAQ.out _ (HT1.out.below B9.out)).mono ?_
        rintro e w10 ⟨ub, un, ut, uk, rfl, how, hb10⟩
        obtain ⟨ra, hra⟩ : ∃ ra, ra = oa.getD rZ := ⟨_, rfl⟩
        obtain ⟨sa, hsa⟩ : ∃ sa, sa = oa.isSome := ⟨_, rfl⟩
        rw [← hra] at how ⊢
        rw [← hsa]
        have hal := HALQ.out
        rw [← hsa] at hal
        obtain ⟨Aba, cba, Ana, cna, Ata, cta, Aka, cka, rfl, rfl, rfl, rfl⟩ := how.slices
        unfold rCells
        obtain ⟨w11, hw11⟩ : ∃ w11, w11 = w10.alloc (.cells #[.string ra.name, .int .i64 ra.kind, .int .i64 ra.size, .bool ra.little, .slice Aba ra.bytes.length cba, .slice Ana ra.names.length cna, .slice Ata ra.tags.length cta, .slice Aka ra.kids.length cka] 43) := ⟨_, rfl⟩
        have hb1011 : Below w10.heap.size w10 w11 := by rw [hw11]; exact (Below.refl _ _).alloc (Nat.le_refl _) _
        have hb911 := Below.then_ hb10 hb1011 (Nat.le_refl _)
        have B11 := Lib.hid (Below.then_ B9.out hb911 (Nat.le_refl _))
        have X11 := Lib.hid (X9.out.below hb911)
        have Y11 := Lib.hid (Y9.out.below hb911)
        have Z11 := Lib.hid (Z9.out.below hb911)
        have OX11 := Lib.hid (OX9.out.below hb911)
        have RC11 := Lib.hid (HRC.out.below B11.out)
        have x11 : (w10.alloc (.cells #[.string ra.name, .int .i64 ra.kind, .int .i64 ra.size, .bool ra.little, .slice Aba ra.bytes.length cba, .slice Ana ra.names.length cna, .slice Ata ra.tags.length cta, .slice Aka ra.kids.length cka] 43)).cell? ⟨w1.heap.size, 0, none⟩ = some (.slice (some ⟨b, off, none⟩) n c) := by rw [← hw11]; exact X11.out.cell 0
        have z11 : (w10.alloc (.cells #[.string ra.name, .int .i64 ra.kind, .int .i64 ra.size, .bool ra.little, .slice Aba ra.bytes.length cba, .slice Ana ra.names.length cna, .slice Ata ra.tags.length cta, .slice Aka ra.kids.length cka] 43)).cell? ⟨w7.heap.size, 0, none⟩ = some (.slice Ax (q + 1) px) := by rw [← hw11]; exact Z11.out.cell 0
        have k11 : (w10.alloc (.cells #[.string ra.name, .int .i64 ra.kind, .int .i64 ra.size, .bool ra.little, .slice Aba ra.bytes.length cba, .slice Ana ra.names.length cna, .slice Ata ra.tags.length cta, .slice Aka ra.kids.length cka] 43)).cell? ⟨b, off + q * 8 + 7, none⟩ = some (.slice Ak r.kids.length ck) := by rw [← hw11]; exact RC11.out.c7
        have W11 := Lib.hid hw11
        obtain ⟨t, ht⟩ : ∃ t, t = r.kids.length := ⟨_, rfl⟩
        have hkd : sa = ((t : Int) == 0) := by
          rw [hal, ht, Bool.eq_iff_iff]
          simp
        rw [← ht] at k11 hps
        subst hkd
        clear how hb10 hb1011 hb911 hw11 hra hsa hal ht
        go_wp2_with fail
        rw [← W11.out]
        clear x11 z11 k11
        refine (ATQ.out _ _ (HT1.out.below B11.out) ⟨_, rfl, OX11.out.rd⟩).mono ?_
        rintro e w12 ⟨vz, rfl, hoz, hb12⟩
        simp only [Option.getD_none, Option.isSome_none] at hoz ⊢
        obtain ⟨Az, pz, hvz⟩ := hoz.slice
        rw [show (l.take (q + 1)).length = q + 1 by rw [List.length_take]; omega] at hvz
        subst hvz
        obtain ⟨w13, hw13⟩ : ∃ w13, w13 = w12.alloc (.cells #[.slice Az (q + 1) pz] 29) := ⟨_, rfl⟩
        have hb1213 : Below w12.heap.size w12 w13 := by rw [hw13]; exact below_box
        have hb1113 := Below.then_ hb12 hb1213 (Nat.le_refl _)
        have B13 := Lib.hid (Below.then_ B11.out hb1113 (Nat.le_refl _))
        have X13 := Lib.hid (X11.out.below hb1113)
        have Y13 := Lib.hid (Y11.out.below hb1113)
        have Z13 := Lib.hid (Z11.out.below hb1113)
        have OX13 := Lib.hid (OX11.out.below hb1113)
        have W13 := Lib.hid hw13
        clear hoz hb12 hb1213 hb1113 hw13
        go_wp2_with fail
        rw [← W13.out]
        refine (ICQ.out _).mono ?_
        rintro e w14 ⟨rfl, hb14⟩
        have B14 := Lib.hid (Below.then_ B13.out hb14 (Nat.le_refl _))
        have X14 := Lib.hid (X13.out.below hb14)
        have Y14 := Lib.hid (Y13.out.below hb14)
        have Z14 := Lib.hid (Z13.out.below hb14)
        have OX14 := Lib.hid (OX13.out.below hb14)
        clear hb14
        go_wp2_with fail
        refine (IHQ.out _ _ (by rw [← HLN.out]; simp [ByteArray.data_append])).mono ?_
        rintro e w15 ⟨rfl, hb15⟩
        have B15 := Lib.hid (Below.then_ B14.out hb15 (Nat.le_refl _))
        have X15 := Lib.hid (X14.out.below hb15)
        have Y15 := Lib.hid (Y14.out.below hb15)
        have Z15 := Lib.hid (Z14.out.below hb15)
        have OX15 := Lib.hid (OX14.out.below hb15)
        have y15 := Y15.out.cell 0
        have f15 := Y15.out.frozen 0
        have z15 := Z15.out.cell 0
        clear hb15
        go_wp2_with fail
        go_roundw
        case rel =>
          refine ⟨q + 1, Ax, px, by omega, by go_num, ?_, X15.out.setOther ⟨w1.heap.size + 1, 0, none⟩ (by show w1.heap.size ≠ w1.heap.size + 1; omega) _, (OX15.out.setBox Y15.out).rd, below_set B15.out (by omega) _⟩
          have := Y15.out.set 0 (.slice Ax (q + 1) px)
          simpa using this
        case measure => simp [intOf]; omega
      · obtain rfl : q = n := by omega
        have hfull : l.take q = l := List.take_of_length_le (by rw [HN.out]; exact Nat.le_refl _)
        have re := RE.out
        rw [hfull] at re
        have REF := Lib.hid re
        have HNM := Lib.hid (show q = (namesL l).length by rw [HN.out]; simp [namesL])
        clear hfull re
        go_wp2_with fail
        go_region_held3 (fun W => W.cell? ⟨w1.heap.size, 0, none⟩ = some (.slice (some ⟨b, off, none⟩) q c) ∧ W.cell? ⟨w1.heap.size + 1, 0, none⟩ = some (.slice Ae q ce))
          (first | go_keep | (exact ⟨XK.out.cell 0, YK.out.cell 0⟩) | (exact ⟨(XR.out.drewN 1).cell 0, (YR.out.drewN 1).cell 0⟩))
          (first
            | (go_at_call 29; refine (EQ.out _ _ ⟨_, rfl, REF.out.below (Below.refl wr.heap.size wr).drew⟩ (RD.out _ (Below.then_ BR.out (Below.refl wr.heap.size wr).drew (Nat.le_refl _)))).mono ?_; rintro e wE ⟨rfl, hbE⟩; have BE := Lib.hid (Below.then_ (Below.refl wr.heap.size wr).drew hbE (Nat.le_refl _)); have XK := Lib.hid (XR.out.below BE.out); have YK := Lib.hid (YR.out.below BE.out); clear hbE)
            | (go_at_call_of 25 (Value.agg #[Value.slice Ae q ce]); refine (DN.out (.slice Ae q ce) _ ⟨_, rfl, REF.out.below BE.out⟩).mono ?_; rintro e wF ⟨vF, rfl, hoF, hbF⟩; have RF := Lib.hid (Rd.of_own hoF); obtain ⟨_, AF, cF, rfl, _, _, _⟩ := RF.out; have BF := Lib.hid (Below.then_ BE.out hbF (Nat.le_refl _)); have XK := Lib.hid (XR.out.below BF.out); have YK := Lib.hid (YR.out.below BF.out); clear hbF hoF)
            | (go_at_call 25; refine (DN.out (.slice (some ⟨b, off, none⟩) q c) _ (RD.out _ (Below.then_ BR.out BF.out (Nat.le_refl _)))).mono ?_; rintro e wG ⟨vG, rfl, hoG, hbG⟩; have RG := Lib.hid (Rd.of_own hoG); obtain ⟨_, AG, cG, rfl, _, _, _⟩ := RG.out; have RF2 := Lib.hid (RF.out.below hbG); have BG := Lib.hid (Below.then_ BF.out hbG (Nat.le_refl _)); have XK := Lib.hid (XR.out.below BG.out); have YK := Lib.hid (YR.out.below BG.out); clear hbG hoG)
            | (go_at_call 30; refine (l_sameTexts _ _ (namesL l) q HNM.out _ RF2.out RG.out).mono ?_; rintro e wS ⟨rfl, hbS⟩; have BS := Lib.hid (Below.then_ BG.out hbS (Nat.le_refl _)); have XK := Lib.hid (XR.out.below BS.out); have YK := Lib.hid (YR.out.below BS.out); clear hbS)
            | (go_at_call 31; refine (CKK.out _ (RD.out _ (Below.then_ BR.out BS.out (Nat.le_refl _)))).mono ?_; rintro e wC ⟨rfl, hbC⟩; have BC := Lib.hid (Below.then_ BS.out hbC (Nat.le_refl _)); have XK := Lib.hid (XR.out.below BC.out); have YK := Lib.hid (YR.out.below BC.out); clear hbC))
        all_goals
          go_wp2_with fail
          go_ret
          exact ⟨rfl, Below.then_ HB1.out (Below.then_ BR.out BC.out (Nat.le_refl _)) (Nat.le_refl _)⟩

end Go.Proofs.YtkjjgpkegihmhaaDoor
