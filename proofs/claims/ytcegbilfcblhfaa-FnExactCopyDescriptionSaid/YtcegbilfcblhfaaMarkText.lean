/-
  markText: "m" and the decimal text of a number.
-/
import Derived.Test.YtcegbilfcblhfaaProg
import Derived.Test.YtcegbilfcblhfaaBase
import Derived.Test.YtcegbilfcblhfaaText
import Derived.Test.YtcegbilfcblhfaaRep
import Derived.Test.YtcegbilfcblhfaaDec
import Derived.Test.YtcegbilfcblhfaaConv
import Derived.WalkKit
import Derived.WalkSpells
import Derived.WalkLawsBesides
import Derived.Lib.Hide
namespace Go.Proofs.Ytcegbilfcblhfaa
open Go.RowKit
attribute [local go_sem] mkS_append mkS_size

def markT (k : Nat) : List UInt8 := 109 :: fmtInt (k : Int)
theorem markT_zero : markT 0 = [109, 48] := by simp [markT, fmtInt]
theorem markT_pos {k : Nat} (h : 0 < k) : markT k = 109 :: dec k := by
  unfold markT fmtInt
  rw [if_neg (by omega), if_neg (by omega), Int.natAbs_natCast]
theorem markT_len {k : Nat} (h : k ≤ 1099511627776) : (markT k).length ≤ 14 := by
  rcases Nat.eq_zero_or_pos k with rfl | h0
  · rw [markT_zero]; simp
  · rw [markT_pos h0]
    have := dec_len 13 k (by omega)
    simp; omega

set_option maxHeartbeats 1000000 in
theorem l_markText (n : Int) (h0 : 0 ≤ n) (h1 : n ≤ 1099511627776) (w : World) :
    Calls Try.prog 58 #[.int .i64 n] w fun e w' => e = .returned (.string (mkS (markT n.toNat))) ∧ Below w.heap.size w w' := by
  by_cases hz : n ≤ 0
  · obtain rfl : n = 0 := by omega
    go_enter Try.func58, Try.ntmps58
    go_wp2_with fail
    go_ret
    exact ⟨ret_str (by rw [show (0 : Int).toNat = 0 from rfl, markT_zero]; rfl), Below.refl _ _⟩
  · have hlen : (dec n.toNat).length ≤ 13 := dec_len 13 _ (by omega)
    have hpos := Lib.hid (show 0 < n.toNat by omega)
    go_enter Try.func58, Try.ntmps58
    go_wp2_with fail
    go_loopw [0, 3] (fun x s wr => ∃ (q : Int) (t : List UInt8), x = .int .i64 q ∧ s = .string (mkS t) ∧ 0 ≤ q ∧ q ≤ 1099511627776 ∧ dec n.toNat = dec q.natAbs ++ t ∧ Below w.heap.size w wr)
      (fun x _ _ => (intOf x).natAbs)
    case atStart => exact ⟨n, [], rfl, rfl, h0, h1, by rw [List.append_nil]; congr 1; omega, Below.refl _ _⟩
    case round =>
      obtain ⟨q, t, rfl, rfl, hq1, hq2, hqt, hbr⟩ := hrel
      have hlt : t.length ≤ 13 := by rw [hqt] at hlen; simp at hlen; omega
      have hcv := conv_one wr
      have HT := Lib.hid hqt
      have HB := Lib.hid hbr
      clear hqt hbr
      by_cases hq : 0 < q
      · have HS := Lib.hid (dec_step (show q ≠ 0 by omega) t)
        have HD := Lib.hid (show q.tdiv 10 = q / 10 from Int.tdiv_eq_ediv_of_nonneg (by omega))
        go_wp2_with fail
        go_roundw
        case rel =>
          refine ⟨_, digit (q.natAbs % 10) :: t, rfl, ?_, ?_, ?_, ?_, (HB.out.alloc HB.out.size _)⟩
          · rw [digit_of _ (q.natAbs % 10) (by omega)]
          · omega
          · omega
          · rw [HT.out, HS.out, HD.out]
        case measure => simp [intOf]; omega
      · obtain rfl : q = 0 := by omega
        have hfin : Hid (t = dec n.toNat) := by show _ = _; rw [HT.out, show (0 : Int).natAbs = 0 from rfl, dec_zero, List.nil_append]
        go_wp2_with fail
        go_ret
        exact ⟨ret_str (by rw [hfin.out, markT_pos hpos.out]; rfl), HB.out⟩

end Go.Proofs.Ytcegbilfcblhfaa
