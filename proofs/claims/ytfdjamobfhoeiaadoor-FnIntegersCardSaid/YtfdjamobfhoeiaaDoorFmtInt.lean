/-
  The reference's FormatInt.
-/
import Derived.Test.YtfdjamobfhoeiaaDoorProg
import Derived.Test.YtfdjamobfhoeiaaDoorBase
import Derived.Test.YtfdjamobfhoeiaaDoorText
import Derived.Test.YtfdjamobfhoeiaaDoorDec
import Derived.Test.YtfdjamobfhoeiaaDoorConv
import Derived.WalkKit
import Derived.WalkSpells
import Derived.WalkLawsBesides
import Derived.Lib.Hide
namespace Go.Proofs.YtfdjamobfhoeiaaDoor
open Go.RowKit
attribute [local go_sem] mkS_append mkS_size

set_option maxHeartbeats 1000000 in
theorem s_FormatInt (n : Int) (hn : -9223372036854775808 ≤ n ∧ n ≤ 9223372036854775807) (w : World) :
    Calls Tryd.prog 5 #[.int .i64 n] w fun e w' => e = .returned (.string (mkS (fmtInt n))) ∧ Below w.heap.size w w' := by
  obtain ⟨hlo, hhi⟩ := hn
  by_cases h0 : n = 0
  · subst h0
    go_enter Tryd.func5, Tryd.ntmps5
    go_wp2_with fail
    go_ret
    exact ⟨ret_str (by simp [fmtInt, mkS]), Below.refl _ _⟩
  · have hz : (n == 0) = false := by simpa using h0
    have H0 := Lib.hid h0; clear h0
    have hlen : (dec n.natAbs).length ≤ 19 := dec_len 19 _ (by omega)
    go_enter Tryd.func5, Tryd.ntmps5
    go_wp2_with fail
    go_loopw [3, 4] (fun s x wr => ∃ (q : Int) (t : List UInt8), x = .int .i64 q ∧ s = .string (mkS t) ∧ -9223372036854775808 ≤ q ∧ q ≤ 9223372036854775807 ∧ (0 ≤ n → 0 ≤ q) ∧ (n < 0 → q ≤ 0) ∧ dec n.natAbs = dec q.natAbs ++ t ∧ Below w.heap.size w wr)
      (fun _ x _ => (intOf x).natAbs)
    case atStart => exact ⟨n, [], rfl, rfl, hlo, hhi, id, by omega, by simp, Below.refl _ _⟩
    case round =>
      obtain ⟨q, t, rfl, rfl, hq1, hq2, hq3, hq4, hqt, hbr⟩ := hrel
      have hlt : t.length ≤ 19 := by rw [hqt] at hlen; simp at hlen; omega
      have hcv := conv_one wr
      have HT := Lib.hid hqt
      have HB := Lib.hid hbr
      clear hqt hbr
      rcases Int.lt_trichotomy q 0 with hq | hq | hq
      · have hne : (q != 0) = true := by rw [bne_iff_ne]; omega
        obtain ⟨hm, hd⟩ := tmod_ten_neg hq
        have hm1 : -10 < q.tmod 10 := by omega
        have hm2 : q.tmod 10 ≤ 0 := by omega
        have HM := Lib.hid hm
        have HN := Lib.hid (show (q.tdiv 10).natAbs < q.natAbs by omega)
        have HD := Lib.hid hd
        have HS := Lib.hid (dec_step (show q ≠ 0 by omega) t)
        clear hm hd
        go_wp2_with fail
        all_goals
          go_roundw
          case rel =>
            refine ⟨_, digit (q.natAbs % 10) :: t, rfl, ?_, ?_, ?_, ?_, ?_, ?_, (HB.out.alloc HB.out.size _)⟩
            · rw [digit_of _ (q.natAbs % 10) (by have := HM.out; omega)]
            · have := HD.out; omega
            · have := HD.out; omega
            · intro h; have := hq3 h; omega
            · have := HD.out; omega
            · rw [HT.out, HS.out]
          case measure => show (q.tdiv 10).natAbs < q.natAbs; exact HN.out
      · subst hq
        have hfin : Hid (t = dec n.natAbs) := by show _ = _; rw [HT.out, show (0 : Int).natAbs = 0 from rfl, dec_zero, List.nil_append]
        by_cases hn : n < 0
        · go_wp2_with fail
          go_ret
          exact ⟨ret_str (by rw [hfin.out]; unfold fmtInt; rw [if_neg H0.out, if_pos hn]; rfl), HB.out⟩
        · go_wp2_with fail
          go_ret
          exact ⟨ret_str (by rw [hfin.out]; unfold fmtInt; rw [if_neg H0.out, if_neg (by omega)]), HB.out⟩
      · have hne : (q != 0) = true := by rw [bne_iff_ne]; omega
        have HS := Lib.hid (dec_step (show q ≠ 0 by omega) t)
        have HD := Lib.hid (show q.tdiv 10 = q / 10 from Int.tdiv_eq_ediv_of_nonneg (by omega))
        go_wp2_with fail
        go_roundw
        case rel =>
          refine ⟨_, digit (q.natAbs % 10) :: t, rfl, ?_, ?_, ?_, ?_, ?_, ?_, (HB.out.alloc HB.out.size _)⟩
          · rw [digit_of _ (q.natAbs % 10) (by omega)]
          · omega
          · omega
          · intro h; omega
          · intro h; have := hq4 h; omega
          · rw [HT.out, HS.out, HD.out]
        case measure => simp [intOf]; omega

end Go.Proofs.YtfdjamobfhoeiaaDoor
