/-
  The law FnTexts: parts are joined to the text that was divided; words contain no spaces.
-/
import Derived.Test.YtfdjamobfhoeiaaBig
import Derived.Test.YtfdjamobfhoeiaaDrawInt
import Derived.Test.YtfdjamobfhoeiaaWords
import Derived.Test.YtfdjamobfhoeiaaJoin
import Derived.Test.YtfdjamobfhoeiaaCut
import Derived.Test.YtfdjamobfhoeiaaContains
import Derived.Test.YtfdjamobfhoeiaaConv
import Derived.BigGuard
namespace Go.Proofs.Ytfdjamobfhoeiaa
open Go.RowKit
set_option linter.unusedVariables false

def textDraws : List ByteArray := [⟨#[97]⟩, ⟨#[98, 99]⟩, ⟨#[32]⟩, ⟨#[32, 32]⟩, ⟨#[10]⟩, ⟨#[58]⟩, ⟨#[120, 49]⟩, ⟨#[57]⟩, ⟨#[101, 110, 100]⟩]
theorem textDraws_size (s : ByteArray) (h : s ∈ textDraws) : s.size ≤ 3 := by
  simp [textDraws] at h
  rcases h with rfl | rfl | rfl | rfl | rfl | rfl | rfl | rfl | rfl <;> simp [ByteArray.size]

/-- Some short string, drawn. -/
def DrawsText (g : Nat) (w : World) (e : Ending) (w' : World) : Prop := ∃ s : ByteArray, e = .returned (.string s) ∧ s.size ≤ 20 ∧ Cur w' g ∧ w.grownBy w' (some g)

set_option maxHeartbeats 1000000 in
theorem s_l3Text (g : Nat) (w : World) (hc : Cur w g) :
    Calls Try.prog 34 #[.pointer (some ⟨g, 0, none⟩)] w (DrawsText g w) := by
  go_enter Try.func34, Try.ntmps34
  go_wp2_with fail
  refine (s_l1Below g _ (by omega) _ hc).mono ?_
  rintro e w1 ⟨n, rfl, ⟨hn1, hn2, _⟩, hc1, hg1⟩
  have hn3 := hn2 (by omega)
  have HC := Lib.hid hc1
  have HG := Lib.hid hg1
  clear hn2 hc hc1 hg1
  go_wp2_with fail
  go_loopw [3, 4] (fun o i wr => ∃ (t : ByteArray) (q : Int), o = .string t ∧ i = .int .i64 q ∧ 0 ≤ q ∧ q ≤ 5 ∧ (t.size : Int) + 3 * q ≤ 20 ∧ Cur wr g ∧ w.grownBy wr (some g)) (fun _ i _ => (intOf i).toNat)
  case atStart => exact ⟨_, n, rfl, rfl, hn1, by omega, by simp [ByteArray.size]; omega, HC.out, HG.out⟩
  case round =>
    obtain ⟨t, q, rfl, rfl, hq1, hq2, hts, hcr, hgr⟩ := hrel
    have hgl := hcr.lt
    by_cases hq : 0 < q
    · have HCR := Lib.hid hcr
      have HGR := Lib.hid hgr
      clear hcr hgr
      go_wp2_with fail
      have hrd := Rd.lit wr (cS textDraws) 9 9 rfl (by unfold maxLen; omega)
      refine (s_l1Str g _ textDraws (by decide) (by decide) _ (HCR.out.below ((Below.refl _ _).alloc (Nat.le_refl _) _)) hrd (by simp [Value.ownBlock]; omega)).mono ?_
      rintro e w2 ⟨x, rfl, hm, hc2, hk2⟩
      have hxs := textDraws_size x hm
      have HC2 := Lib.hid hc2
      have HG2 := Lib.hid (grown_trans (grown_alloc HGR.out _) hk2)
      clear hrd hm hc2 hk2
      go_wp2_with fail
      go_roundw
      case rel => exact ⟨_, q - 1, rfl, rfl, by omega, by omega, by simp [ByteArray.size_append]; omega, HC2.out, HG2.out⟩
      case measure => simp [intOf]; omega
    · go_wp2_with fail
      go_ret
      exact ⟨t, rfl, by omega, hcr, hgr⟩

/-- A short string and a byte. -/
def DrawsSplit (w : World) (e : Ending) (w' : World) : Prop := ∃ (s : ByteArray) (c : Int), e = .returned (.tuple #[.string s, .int .u8 c]) ∧ s.size ≤ 20 ∧ (0 ≤ c ∧ c ≤ 255) ∧ Below w.heap.size w w'

set_option maxHeartbeats 1000000 in
theorem s_DrawSplitText (v : Value) (l : List UInt8) (hn : l.length ≤ 1048576) (w : World) (hr : Rd w v 1 l.length (cB l)) :
    Calls Try.prog 28 #[v] w (DrawsSplit w) := by
  go_enter Try.func28, Try.ntmps28
  go_wp2_with fail
  refine (s_l1New v l hn _ hr).mono ?_
  rintro e w1 ⟨g, rfl, hc1, hg1, hb1⟩
  go_wp2_with fail
  refine (s_l3Text g _ hc1).mono ?_
  rintro e w2 ⟨s, rfl, hs, hc2, hk2⟩
  have hb2 := below_grown hb1 hk2 hb1.size hg1
  have hgl := hc2.lt
  go_wp2_with fail
  refine (s_l1Int g _ [32, 10, 58, 97] (by simp) (by simp) _ (hc2.below ((Below.refl _ _).alloc (Nat.le_refl _) _)) (Rd.lit _ (cI [32, 10, 58, 97]) 3 4 rfl (by unfold maxLen; omega)) (by simp [Value.ownBlock]; omega)).mono ?_
  rintro e w3 ⟨x, rfl, hx, hc3, hk3⟩
  have hb3 := below_grown (hb2.alloc hb2.size _) hk3 (by have := hb2.size; simp; omega) hg1
  have hx' : 0 ≤ x ∧ x ≤ 255 := by simp only [List.mem_cons, List.not_mem_nil, or_false] at hx; omega
  clear hx
  go_wp2_with fail
  go_ret2
  exact ⟨s, _, rfl, hs, by omega, hb3⟩

theorem lines_lens (t : List UInt8) : Lib.lens (linesL t) ≤ t.length := by
  have h := splitL_lens t 10
  have hp := splitL_pos t 10
  unfold linesL
  split
  · have := Lib.lens_take_le (splitL t 10) ((splitL t 10).length - 1)
    rw [← List.dropLast_eq_take] at this
    omega
  · omega
theorem cutRight_len (l : List UInt8) (c : UInt8) : (cutRight l c).length ≤ l.length := by
  induction l with
  | nil => simp [cutRight, cutIdx]
  | cons x r ih =>
    rw [cutRight_cons]
    split
    · simp
    · simp; omega
theorem str_same {a b : ByteArray} (h : a = b) : (a.toList == b.toList) = true := by rw [h]; simp
theorem hasText_first {ps : List (List UInt8)} {x : List UInt8} (h : x ∈ ps) : hasText (tS ps) (mkS x) = true := hasText_iff.2 (List.mem_map.2 ⟨x, h, rfl⟩)

theorem str_eqT (p q : List UInt8) : ((mkS p).toList == (mkS q).toList) = decide (p = q) := by
  rw [Lib.toList_data, Lib.toList_data, Bool.eq_iff_iff]
  simp [mkS]
theorem cell_afterT {w0 w1 : World} {p : Addr} {u : Value} (h : w0.cell? p = some u) (hb : Below w0.heap.size w0 w1) : w1.cell? p = some u := (hb.cell (World.block_lt_of_cell? w0 _ h)).trans h

set_option maxRecDepth 100000 in
set_option maxHeartbeats 20000000 in
theorem law_FnTexts (v : Value) (l : List UInt8) (w : World) (hr : Rd w v 1 l.length (cB l)) :
    Calls Try.prog 9 #[v] w fun e w' => e = .returned (.bool true) ∧ Below w.heap.size w w' := by
  by_cases hbig : (1048576 : Int) < (l.length : Int)
  · have hd : decide ((1048576 : Int) < (l.length : Int)) = true := by simpa using hbig
    go_enter Try.func9, Try.ntmps9
    go_wp2_with fail
    refine (l_big v l _ hr).mono ?_
    rintro e w1 ⟨rfl, rfl⟩
    go_wp2_with fail
    go_ret
    exact ⟨rfl, Below.refl _ _⟩
  · have hd : decide ((1048576 : Int) < (l.length : Int)) = false := by simpa using hbig
    go_enter Try.func9, Try.ntmps9
    go_wp2_with fail
    refine (l_big v l _ hr).mono ?_
    rintro e w1 ⟨rfl, rfl⟩
    go_wp2_with fail
    refine (s_DrawSplitText v l (by omega) _ hr).mono ?_
    rintro e w1 ⟨s, c, rfl, hs, hc, hb1⟩
    clear hbig hd
    obtain ⟨d, hd⟩ : ∃ d, d = c.toNat.toUInt8 := ⟨_, rfl⟩
    obtain ⟨t, ht⟩ : ∃ t, t = s.data.toList := ⟨_, rfl⟩
    have hts : t.length ≤ 20 := by rw [ht, len_of]; exact hs
    have hst : s = mkS t := by rw [ht, mkS_of]
    have SP := i_SplitText s c hc (by omega) w1
    have CU := fun w => i_CutAt s c (by unfold maxLen; omega) w
    have WO := fun w => i_Words s (by omega) w
    have LI := fun w => i_SplitLines s (by omega) w
    rw [← hd, ← ht] at SP CU
    rw [← ht] at WO LI
    have hpos := splitL_pos t d
    have hsl := splitL_len t d
    have hlens := splitL_lens t d
    have hjs := join_split t d
    have hlj := lines_join t
    have hll := linesL_len t
    have hlm := fun p (h : p ∈ linesL t) => (linesL_mem h).1
    have hwm := fun p (h : p ∈ wordsL t) => And.intro (wordsL_mem h) (wordsL_split h)
    have hwl := wordsL_len t
    have hcut := split_cut t d
    have hcm : (cutLeft t d).length ≤ t.length := by
      have := splitL_mem (l := t) (c := d) (p := cutLeft t d) (by rw [hcut]; simp)
      exact this.1
    have hlenl := lines_lens t
    have hcr : (cutRight t d).length ≤ t.length := cutRight_len t d
    generalize splitL t d = ps at *
    generalize wordsL t = ws at *
    generalize linesL t = ls at *
    obtain ⟨a, ha⟩ : ∃ a, a = cutLeft t d := ⟨_, rfl⟩
    obtain ⟨b, hb⟩ : ∃ b, b = cutRight t d := ⟨_, rfl⟩
    rw [← ha] at hcm hcut
    rw [← ha, ← hb] at CU
    rw [← hb] at hcr hcut
    have hokb : cutOk t d = decide (1 < (ps.length : Int)) := by
      rw [hcut]
      cases h : cutOk t d with
      | true => have := splitL_pos b d; simp; omega
      | false => simp
    have hglue : cutOk t d = true → a ++ [d] ++ b = t := fun h => by rw [ha, hb]; exact cut_glue h
    have hsame : cutOk t d = false → a = t := fun h => by rw [ha]; exact cut_same h
    have hfirst : ps[0]? = some a := by rw [hcut]; rfl
    have hmem : a ∈ ps := by rw [hcut]; simp
    have JS := fun v w h => i_JoinText v ps [d] (by omega) (by simp; omega) w h
    have JL := fun v w h => i_JoinText v ls [10] (by omega) (by simp; omega) w h
    rw [hjs] at JS
    obtain ⟨ok, hok⟩ : ∃ ok, ok = cutOk t d := ⟨_, rfl⟩
    rw [← hok] at hokb hglue hsame CU
    obtain ⟨n, hn⟩ : ∃ n, n = ps.length := ⟨_, rfl⟩
    obtain ⟨m, hm⟩ : ∃ n, n = ws.length := ⟨_, rfl⟩
    obtain ⟨q, hq⟩ : ∃ n, n = ls.length := ⟨_, rfl⟩
    rw [tS_len, ← hn] at SP
    rw [tS_len, ← hm] at WO
    rw [tS_len, ← hq] at LI
    rw [← hn] at JS hpos hsl hokb
    rw [← hq] at JL
    obtain ⟨J, hJ⟩ : ∃ J, J = Lib.join ls [10] := ⟨_, rfl⟩
    rw [← hJ] at JL hlj
    have CT := Lib.hid (fun (v : Value) (w : World) (h : Rd w v 1 n (cS (tS ps))) => show Calls Try.prog 30 #[v, .string (mkS a)] w fun e w' => e = .returned (.bool true) ∧ w = w' from by
      have := i_ContainsText v (tS ps) (mkS a) w (by rw [tS_len, ← hn]; exact h)
      rwa [hasText_first hmem] at this)
    subst hst
    have HSP := Lib.hid SP
    have HCU := Lib.hid CU
    have HWO := Lib.hid WO
    have HLI := Lib.hid LI
    have HJS := Lib.hid JS
    have HJL := Lib.hid JL
    have HLJ := Lib.hid hlj
    have HWM := Lib.hid hwm
    have HG := Lib.hid hglue
    have HSM := Lib.hid hsame
    have HF := Lib.hid hfirst
    have HM := Lib.hid (hasText_first hmem)
    have HOK := Lib.hid hokb
    have HN := Lib.hid hn
    have HMM := Lib.hid hm
    have HD := Lib.hid hd
    clear SP CU WO LI JS JL hlj hlm hwm hglue hsame hfirst hmem hokb hn hm hq hd ht ha hb hcut hjs hlens hlenl hok hll hwl hs hJ
    go_wp2_with fail
    refine HSP.out.mono ?_
    rintro e w2 ⟨v1, rfl, hv1, hb12⟩
    have hb2 := Below.then_ hb1 hb12 (Nat.le_refl _)
    obtain ⟨g1, c1, rfl, hg1, hg1'⟩ := hv1.form hpos
    have hr1 := Rd.of_own hv1
    go_wp2_with fail
    refine (HCU.out _).mono ?_
    rintro e w3 ⟨rfl, hb23⟩
    have hb3 := Below.then_ hb2 hb23 (Nat.le_refl _)
    have hr3 := hr1.below hb23
    go_wp2_with fail
    refine (HWO.out _).mono ?_
    rintro e w4 ⟨v2, rfl, hv2, hb34⟩
    have hb4 := Below.then_ hb3 hb34 (Nat.le_refl _)
    have hr4 := hr3.below hb34
    have hrw := Rd.of_own hv2
    obtain ⟨_, A2, c2, rfl, hnc2, hcm2, hcell2⟩ := hrw
    unfold maxLen at hcm2
    have HC2 := Lib.hid hcell2
    have HB4 := Lib.hid hb4
    have HR4 := Lib.hid hr4
    clear hcell2 hv2 hb34 hr3 hb23 hb3 hr1 hv1 hb12 hb2 hb4 hr4
    go_wp2_with fail
    go_loopw [10] (fun i wr => ∃ k : Nat, k ≤ m ∧ i = .int .i64 k ∧ Below w4.heap.size w4 wr) (fun i _ => m - (intOf i).toNat)
    case atStart => exact ⟨0, Nat.zero_le _, rfl, Below.refl _ _⟩
    case round =>
      obtain ⟨k, hk, rfl, hbr⟩ := hrel
      have HBR := Lib.hid hbr
      by_cases hlt : k < m
      · have hkw : k < ws.length := by rw [← HMM.out]; exact hlt
        obtain ⟨bb, off, rfl, hcl⟩ := HC2.out (by rw [cS_len, tS_len, ← HMM.out]; omega)
        have hcx0 := hcl k _ (tS_at hkw)
        have hcx := (hbr.cell (World.block_lt_of_cell? w4 _ hcx0)).trans hcx0
        obtain ⟨⟨hp1, hp2, hp3⟩, hp4⟩ := HWM.out ws[k] (List.getElem_mem hkw)
        obtain ⟨p, hp⟩ : ∃ p, p = ws[k] := ⟨_, rfl⟩
        rw [← hp] at hcx hp1 hp2 hp3 hp4
        have hem : (mkS p).toList.isEmpty = false := by rw [mkS_empty]; simpa using hp3
        have S1 := fun w => i_SplitText (mkS p) 32 (by omega) (by rw [mkS_size]; omega) w
        rw [mkS_list, show (32 : Int).toNat.toUInt8 = (32 : UInt8) from rfl, hp4] at S1
        have HS1 := Lib.hid S1
        clear S1 hp hp2 hp3 hp4 hcx0 hcl hbr
        go_wp2_with fail
        refine (HS1.out _).mono ?_
        rintro e w5 ⟨v5, rfl, hv5, hb5⟩
        obtain ⟨A5, c5, rfl⟩ : ∃ A c, v5 = .slice A 1 c := by
          obtain ⟨_, A, c, h, _⟩ := Rd.of_own hv5
          exact ⟨A, c, h⟩
        have HB5 := Lib.hid (Below.then_ HBR.out hb5 (Nat.le_refl _))
        clear hv5 hb5
        go_wp2_with fail
        go_roundw
        case rel => exact ⟨k + 1, by omega, by go_num, HB5.out⟩
        case measure => simp [intOf]; omega
      · have HR5 := Lib.hid (HR4.out.below hbr)
        have HB5 := Lib.hid (Below.then_ HB4.out hbr (Nat.le_refl _))
        clear hbr
        rcases Bool.eq_false_or_eq_true ok with rfl | rfl
        · have hd1 : decide ((1 : Int) < (n : Int)) = true := HOK.out.symm
          go_wp2_with fail
          refine (HLI.out _).mono ?_
          rintro e w6 ⟨v6, rfl, hv6, hb56⟩
          have HR6 := Lib.hid (HR5.out.below hb56)
          have HB6 := Lib.hid (Below.then_ HB5.out hb56 (Nat.le_refl _))
          have HQ6 := Lib.hid (Rd.of_own hv6)
          have hcv := conv_one w6 c
          have hn0 : decide ((0 : Int) < (n : Int)) = true := by simp; omega
          clear hv6 hb56
          go_wp2_with fail
          rw [show UInt8.ofNat c.toNat = d from HD.out.symm]
          refine (HJS.out _ _ (HR6.out.below ((Below.refl _ _).alloc (Nat.le_refl _) _))).mono ?_
          rintro e w7 ⟨rfl, hb67⟩
          have hb67' : Below w6.heap.size w6 w7 := Below.then_ ((Below.refl _ _).alloc (Nat.le_refl _) _) hb67 (Nat.le_refl _)
          have HB7 := Lib.hid (Below.then_ HB6.out hb67' (Nat.le_refl _))
          have HR7 := Lib.hid (HR6.out.below hb67')
          have HQ7 := Lib.hid (HQ6.out.below hb67')
          have hc0 : w7.cell? ⟨g1, 0, none⟩ = some (.string (mkS a)) := by
            obtain ⟨_, A, cc, h1, _, _, h2⟩ := HR7.out
            injection h1 with h1 _ _
            obtain ⟨bb, off, h3, h4⟩ := h2 (by rw [cS_len, tS_len, ← HN.out]; omega)
            rw [h3] at h1
            injection h1 with h1
            injection h1 with e1 e2
            subst e1; subst e2
            exact h4 0 _ (by have := HF.out; simp [cS, tS, this])
          have hcv2 := conv_one w7 c
          rw [show UInt8.ofNat c.toNat = d from HD.out.symm] at hcv2
          have hz1 : ¬ 9223372036854775807 < (mkS a).size + (mkS [d]).size := by rw [mkS_size, mkS_size]; simp; omega
          have hz2 : ¬ 9223372036854775807 < (mkS a).size + (mkS [d]).size + (mkS b).size := by rw [mkS_size, mkS_size, mkS_size]; simp; omega
          have hgl := str_same (show mkS a ++ mkS [d] ++ mkS b = mkS t by rw [mkS_append, mkS_append, HG.out (by trivial)])
          clear hcv hb67 hb67' hsl
          simp only []
          go_step
          simp only [List.append]
          go_wp2_with fail
          refine (HJL.out _ _ (HQ7.out.below ((Below.refl _ _).alloc (Nat.le_refl _) _))).mono ?_
          rintro e w8 ⟨rfl, hb8⟩
          have hb78 : Below w7.heap.size w7 w8 := Below.then_ ((Below.refl _ _).alloc (Nat.le_refl _) _) hb8 (Nat.le_refl _)
          have hc8 := cell_afterT hc0 hb78
          have HR8 := Lib.hid (HR7.out.below hb78)
          have HQ8 := Lib.hid (HQ7.out.below hb78)
          have HB8 := Lib.hid (Below.then_ HB7.out hb78 (Nat.le_refl _))
          clear hb8 hb78 hc0
          by_cases hjt : J = t
          · have hej := str_same (show mkS J = mkS t by rw [hjt])
            clear hjt
            go_wp2_with fail
            refine (CT.out _ _ HR8.out).mono ?_
            rintro e w9 ⟨rfl, rfl⟩
            go_wp2_with fail
            go_ret
            exact ⟨rfl, HB8.out⟩
          · have hej : ((mkS J).toList == (mkS t).toList) = false := by
              rw [str_eqT]; exact decide_eq_false hjt
            have hj2 : J ++ [10] = t := by
              rcases HLJ.out with h | h
              · exact absurd h hjt
              · exact h
            have hjl : J.length + 1 ≤ 20 := by rw [← hj2] at hts; simpa using hts
            have zj : ¬ 9223372036854775807 < (mkS J).size + 1 := by rw [mkS_size]; omega
            have he2 := str_same (show mkS J ++ (⟨#[10]⟩ : ByteArray) = mkS t by rw [← hj2, ← mkS_append]; rfl)
            clear hjt hj2
            go_wp2_with fail
            refine (HJL.out _ _ HQ8.out).mono ?_
            rintro e w9 ⟨rfl, hb9⟩
            have hc9 := cell_afterT hc8 hb9
            have HR9 := Lib.hid (HR8.out.below hb9)
            have HB9 := Lib.hid (Below.then_ HB8.out hb9 (Nat.le_refl _))
            clear hb9 hc8
            go_wp2_with fail
            refine (CT.out _ _ HR9.out).mono ?_
            rintro e w10 ⟨rfl, rfl⟩
            go_wp2_with fail
            go_ret
            exact ⟨rfl, HB9.out⟩
        · have hd1 : decide ((1 : Int) < (n : Int)) = false := HOK.out.symm
          go_wp2_with fail
          refine (HLI.out _).mono ?_
          rintro e w6 ⟨v6, rfl, hv6, hb56⟩
          have HR6 := Lib.hid (HR5.out.below hb56)
          have HB6 := Lib.hid (Below.then_ HB5.out hb56 (Nat.le_refl _))
          have HQ6 := Lib.hid (Rd.of_own hv6)
          have hcv := conv_one w6 c
          have hn0 : decide ((0 : Int) < (n : Int)) = true := by simp; omega
          clear hv6 hb56
          go_wp2_with fail
          rw [show UInt8.ofNat c.toNat = d from HD.out.symm]
          refine (HJS.out _ _ (HR6.out.below ((Below.refl _ _).alloc (Nat.le_refl _) _))).mono ?_
          rintro e w7 ⟨rfl, hb67⟩
          have hb67' : Below w6.heap.size w6 w7 := Below.then_ ((Below.refl _ _).alloc (Nat.le_refl _) _) hb67 (Nat.le_refl _)
          have HB7 := Lib.hid (Below.then_ HB6.out hb67' (Nat.le_refl _))
          have HR7 := Lib.hid (HR6.out.below hb67')
          have HQ7 := Lib.hid (HQ6.out.below hb67')
          have hc0 : w7.cell? ⟨g1, 0, none⟩ = some (.string (mkS a)) := by
            obtain ⟨_, A, cc, h1, _, _, h2⟩ := HR7.out
            injection h1 with h1 _ _
            obtain ⟨bb, off, h3, h4⟩ := h2 (by rw [cS_len, tS_len, ← HN.out]; omega)
            rw [h3] at h1
            injection h1 with h1
            injection h1 with e1 e2
            subst e1; subst e2
            exact h4 0 _ (by have := HF.out; simp [cS, tS, this])
          have hat := str_same (show mkS a = mkS t by rw [HSM.out (by trivial)])
          clear hcv hb67 hb67' hsl
          simp only []
          go_step
          simp only [List.append]
          go_wp2_with fail
          refine (HJL.out _ _ HQ7.out).mono ?_
          rintro e w8 ⟨rfl, hb8⟩
          have hb78 : Below w7.heap.size w7 w8 := hb8
          have hc8 := cell_afterT hc0 hb78
          have HR8 := Lib.hid (HR7.out.below hb78)
          have HQ8 := Lib.hid (HQ7.out.below hb78)
          have HB8 := Lib.hid (Below.then_ HB7.out hb78 (Nat.le_refl _))
          clear hb8 hb78 hc0
          by_cases hjt : J = t
          · have hej := str_same (show mkS J = mkS t by rw [hjt])
            clear hjt
            go_wp2_with fail
            refine (CT.out _ _ HR8.out).mono ?_
            rintro e w9 ⟨rfl, rfl⟩
            go_wp2_with fail
            go_ret
            exact ⟨rfl, HB8.out⟩
          · have hej : ((mkS J).toList == (mkS t).toList) = false := by
              rw [str_eqT]; exact decide_eq_false hjt
            have hj2 : J ++ [10] = t := by
              rcases HLJ.out with h | h
              · exact absurd h hjt
              · exact h
            have hjl : J.length + 1 ≤ 20 := by rw [← hj2] at hts; simpa using hts
            have zj : ¬ 9223372036854775807 < (mkS J).size + 1 := by rw [mkS_size]; omega
            have he2 := str_same (show mkS J ++ (⟨#[10]⟩ : ByteArray) = mkS t by rw [← hj2, ← mkS_append]; rfl)
            clear hjt hj2
            go_wp2_with fail
            refine (HJL.out _ _ HQ8.out).mono ?_
            rintro e w9 ⟨rfl, hb9⟩
            have hc9 := cell_afterT hc8 hb9
            have HR9 := Lib.hid (HR8.out.below hb9)
            have HB9 := Lib.hid (Below.then_ HB8.out hb9 (Nat.le_refl _))
            clear hb9 hc8
            go_wp2_with fail
            refine (CT.out _ _ HR9.out).mono ?_
            rintro e w10 ⟨rfl, rfl⟩
            go_wp2_with fail
            go_ret
            exact ⟨rfl, HB9.out⟩

end Go.Proofs.Ytfdjamobfhoeiaa
