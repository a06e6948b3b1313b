/-
  SplitText, by both texts.
-/
import Derived.Test.YtfdjamobfhoeiaaProg
import Derived.Test.YtfdjamobfhoeiaaBase
import Derived.Test.YtfdjamobfhoeiaaRep
import Derived.Test.YtfdjamobfhoeiaaSplitL
import Derived.Test.YtfdjamobfhoeiaaAppend
import Derived.Test.YtfdjamobfhoeiaaToString
import Derived.WalkKit
import Derived.WalkSpells
import Derived.WalkLawsBesides
import Derived.Lib.Hide
import Derived.Deep.QuietTactic
import Derived.BigQuiet
namespace Go.Proofs.Ytfdjamobfhoeiaa
open Go.RowKit

set_option maxHeartbeats 1000000 in
theorem i_SplitText (s : ByteArray) (c : Int) (hc : 0 ≤ c ∧ c ≤ 255) (hs : s.size ≤ 4194304) (w : World) :
    Calls Try.prog 13 #[.string s, .int .u8 c] w (Made 9 1 (tS (splitL s.data.toList c.toNat.toUInt8)).length (cS (tS (splitL s.data.toList c.toNat.toUInt8))) w) := by
  obtain ⟨i0, hi, hz0, hz1, hz2⟩ := info_parts info_String
  have hpl := splitL_len s.data.toList c.toNat.toUInt8
  rw [len_of] at hpl
  go_enter Try.func13, Try.ntmps13
  go_wp2_with fail
  have hown0 := World.ownsRow_lit (base := w.heap.size) (e := 9) (size := 1) w #[] 0 (Nat.le_refl _) (Nat.zero_le _) rfl
  go_loopw [5, 6, 7] (fun o f i wr => ∃ (k a : Nat) (p : List (List UInt8)), k ≤ s.size ∧ f = .int .i64 a ∧ i = .int .i64 k ∧ SplitInv s.data.toList c.toNat.toUInt8 k p a ∧ wr.ownsRow w.heap.size 9 1 o (tS p).length (cS (tS p)) ∧ Below w.heap.size w wr)
    (fun _ _ i _ => s.size - (intOf i).toNat)
  case atStart => exact ⟨0, 0, [], Nat.zero_le _, rfl, rfl, SplitInv.zero _ _, by simpa [tS, cS] using hown0, (Below.refl _ _).alloc (Nat.le_refl _) _⟩
  case round =>
    obtain ⟨k, a, p, hk, rfl, rfl, hinv, hownr, hbr⟩ := hrel
    have hak := hinv.1
    have hpa := hinv.2.1
    have hpl' : (tS p).length = p.length := tS_len p
    have HPL := Lib.hid hpl'
    obtain ⟨m, hm⟩ : ∃ m, m = (tS p).length := ⟨_, rfl⟩
    have hmk : m ≤ 4194304 := by omega
    rw [← hm] at hownr
    have HM := Lib.hid hm
    have HI := Lib.hid hinv
    have HO := Lib.hid hownr
    have HB := Lib.hid hbr
    clear hown0 hownr hbr hinv hpl' hm
    by_cases hlt : k < s.size
    · have hg := get_list s k hlt
      have he := u8_eq_iff s[k] c hc
      have Hg := Lib.hid hg; clear hg
      by_cases hx : s[k] = c.toNat.toUInt8
      · have ht : (((s[k].toNat : Nat) : Int) == c) = true := by rw [he]; simpa using hx
        have HI' : Hid (SplitInv s.data.toList c.toNat.toUInt8 (k + 1) (p ++ [(s.data.toList.drop a).take (k - a)]) (k + 1)) := HI.out.hit (by rw [Hg.out, hx])
        have hlit := Lib.hid (Rd.lit wr (cS [s.extract a k]) 9 1 rfl (by unfold maxLen; omega))
        have hex := Lib.hid (extract_mk s a k)
        clear he hx
        go_wp2_with (at_builtin; refine wpList_append_rd _ rfl (.tmp 20) (.tmp 25) 23 rfl w.heap.size 9 i0 (.string ⟨#[]⟩) 1 16 Try.underlying23 hi hz0 hz1 hz2 rfl (by decide) _ m (cS (tS p)) rfl (HO.out.alloc _) _ 1 (cS [s.extract a k]) rfl ?c1 (cS_one _) (by unfold maxLen; omega) (by omega) (by have := HB.out.size; simp; omega) ?_)
        case c1 => exact hlit.out
        intro v' w' hown' hgrow' _
        have HB' : Hid (Below w.heap.size w w') := own_grown_below (HB.out.alloc HB.out.size _) (HO.out.alloc _) hgrow' (by have := HB.out.size; simp; omega) (Nat.le_refl _)
        have HO' := Lib.hid hown'
        clear hgrow' hown'
        go_wp2_with fail
        go_roundw
        case rel =>
          refine ⟨k + 1, k + 1, p ++ [(s.data.toList.drop a).take (k - a)], by omega, by go_num, by go_num, HI'.out, ?_, HB'.out⟩
          have h := HO'.out
          rw [hex.out, HM.out] at h
          rw [tS_append, List.length_append, cS_append]
          exact h
        case measure => simp [intOf]; omega
      · have ht : (((s[k].toNat : Nat) : Int) == c) = false := by rw [he]; simpa using hx
        have HI' : Hid (SplitInv s.data.toList c.toNat.toUInt8 (k + 1) p a) := HI.out.miss Hg.out hx
        clear he hx
        go_wp2_with fail
        go_roundw
        case rel => exact ⟨k + 1, a, p, by omega, rfl, by go_num, HI'.out, by rw [← HM.out]; exact HO.out, HB.out⟩
        case measure => simp [intOf]; omega
    · obtain rfl : k = s.size := by omega
      have hfin := Lib.hid (HI.out.done (len_of s).symm)
      have hlit := Lib.hid (Rd.lit wr (cS [s.extract a s.size]) 9 1 rfl (by unfold maxLen; omega))
      have hex := Lib.hid (extract_end s a)
      go_wp2_with (at_builtin; refine wpList_append_rd _ rfl (.tmp 29) (.tmp 33) 23 rfl w.heap.size 9 i0 (.string ⟨#[]⟩) 1 16 Try.underlying23 hi hz0 hz1 hz2 rfl (by decide) _ m (cS (tS p)) rfl (HO.out.alloc _) _ 1 (cS [s.extract a s.size]) rfl ?c2 (cS_one _) (by unfold maxLen; omega) (by omega) (by have := HB.out.size; simp; omega) ?_)
      case c2 => exact hlit.out
      intro v' w' hown' hgrow' _
      have HB' : Hid (Below w.heap.size w w') := own_grown_below (HB.out.alloc HB.out.size _) (HO.out.alloc _) hgrow' (by have := HB.out.size; simp; omega) (Nat.le_refl _)
      have HO' := Lib.hid hown'
      clear hgrow' hown'
      go_wp2_with fail
      go_ret
      refine ⟨_, rfl, ?_, HB'.out⟩
      have h := HO'.out
      rw [hex.out, HM.out] at h
      rw [← hfin.out, tS_append, List.length_append, cS_append]
      exact h

set_option maxHeartbeats 1000000 in
theorem s_SplitText (s : ByteArray) (c : Int) (hc : 0 ≤ c ∧ c ≤ 255) (hs : s.size ≤ 4194304) (w : World) :
    Calls Try.prog 12 #[.string s, .int .u8 c] w (Made 9 1 (tS (splitL s.data.toList c.toNat.toUInt8)).length (cS (tS (splitL s.data.toList c.toNat.toUInt8))) w) := by
  obtain ⟨i0, hi, hz0, hz1, hz2⟩ := info_parts info_String
  go_enter Try.func12, Try.ntmps12
  go_wp2_with fail
  have hown0 := World.ownsRow_lit (base := w.heap.size) (e := 9) (size := 1) w #[] 0 (Nat.le_refl _) (Nat.zero_le _) rfl
  go_loopw [5, 6, 7] (fun o f i wr => ∃ (k : Nat) (p : List (List UInt8)), k ≤ s.size + 1 ∧ i = .int .i64 k ∧ wr.ownsRow w.heap.size 9 1 o (tS p).length (cS (tS p)) ∧ Below w.heap.size w wr ∧ ((k ≤ s.size ∧ ∃ a : Nat, f = .int .i64 a ∧ SplitInv s.data.toList c.toNat.toUInt8 k p a) ∨ (k = s.size + 1 ∧ p = splitL s.data.toList c.toNat.toUInt8)))
    (fun _ _ i _ => s.size + 1 - (intOf i).toNat)
  case atStart => exact ⟨0, [], Nat.zero_le _, rfl, by simpa [tS, cS] using hown0, (Below.refl _ _).alloc (Nat.le_refl _) _, .inl ⟨Nat.zero_le _, 0, rfl, SplitInv.zero _ _⟩⟩
  case round =>
    obtain ⟨k, p, hk1, rfl, hownr, hbr, hcase⟩ := hrel
    rcases hcase with ⟨hk, a, rfl, hinv⟩ | ⟨rfl, rfl⟩
    · have hak := hinv.1
      have hpa := hinv.2.1
      have hpl' : (tS p).length = p.length := tS_len p
      obtain ⟨m, hm⟩ : ∃ m, m = (tS p).length := ⟨_, rfl⟩
      have hmk : m ≤ 4194304 := by omega
      rw [← hm] at hownr
      have HM := Lib.hid hm
      have HI := Lib.hid hinv
      have HO := Lib.hid hownr
      have HB := Lib.hid hbr
      clear hown0 hownr hbr hinv hpl' hm
      by_cases hlt : k < s.size
      · have hg := get_list s k hlt
        have he := u8_eq_iff s[k] c hc
        have Hg := Lib.hid hg; clear hg
        have hne : ((k : Int) == (s.size : Int)) = false := by simp; omega
        by_cases hx : s[k] = c.toNat.toUInt8
        · have ht : (((s[k].toNat : Nat) : Int) == c) = true := by rw [he]; simpa using hx
          have HI' : Hid (SplitInv s.data.toList c.toNat.toUInt8 (k + 1) (p ++ [(s.data.toList.drop a).take (k - a)]) (k + 1)) := HI.out.hit (by rw [Hg.out, hx])
          have hlit := Lib.hid (Rd.lit wr (cS [s.extract a k]) 9 1 rfl (by unfold maxLen; omega))
          have hex := Lib.hid (extract_mk s a k)
          clear he hx
          go_wp2_with (at_builtin; refine wpList_append_rd _ rfl (.tmp 26) (.tmp 31) 23 rfl w.heap.size 9 i0 (.string ⟨#[]⟩) 1 16 Try.underlying23 hi hz0 hz1 hz2 rfl (by decide) _ m (cS (tS p)) rfl (HO.out.alloc _) _ 1 (cS [s.extract a k]) rfl ?c1 (cS_one _) (by unfold maxLen; omega) (by omega) (by have := HB.out.size; simp; omega) ?_)
          case c1 => exact hlit.out
          intro v' w' hown' hgrow' _
          have HB' : Hid (Below w.heap.size w w') := own_grown_below (HB.out.alloc HB.out.size _) (HO.out.alloc _) hgrow' (by have := HB.out.size; simp; omega) (Nat.le_refl _)
          have HO' := Lib.hid hown'
          clear hgrow' hown'
          go_wp2_with fail
          go_roundw
          case rel =>
            refine ⟨k + 1, p ++ [(s.data.toList.drop a).take (k - a)], by omega, by go_num, ?_, HB'.out, .inl ⟨by omega, k + 1, by go_num, HI'.out⟩⟩
            have h := HO'.out
            rw [hex.out, HM.out] at h
            rw [tS_append, List.length_append, cS_append]
            exact h
          case measure => simp [intOf]; omega
        · have ht : (((s[k].toNat : Nat) : Int) == c) = false := by rw [he]; simpa using hx
          have HI' : Hid (SplitInv s.data.toList c.toNat.toUInt8 (k + 1) p a) := HI.out.miss Hg.out hx
          clear he hx
          go_wp2_with fail
          go_roundw
          case rel => exact ⟨k + 1, p, by omega, by go_num, by rw [← HM.out]; exact HO.out, HB.out, .inl ⟨by omega, a, rfl, HI'.out⟩⟩
          case measure => simp [intOf]; omega
      · obtain rfl : k = s.size := by omega
        have hfin := Lib.hid (HI.out.done (len_of s).symm)
        have hne : ((s.size : Int) == (s.size : Int)) = true := by simp
        have hlit := Lib.hid (Rd.lit wr (cS [s.extract a s.size]) 9 1 rfl (by unfold maxLen; omega))
        have hex := Lib.hid (extract_end s a)
        go_wp2_with (at_builtin; refine wpList_append_rd _ rfl (.tmp 26) (.tmp 31) 23 rfl w.heap.size 9 i0 (.string ⟨#[]⟩) 1 16 Try.underlying23 hi hz0 hz1 hz2 rfl (by decide) _ m (cS (tS p)) rfl (HO.out.alloc _) _ 1 (cS [s.extract a s.size]) rfl ?c2 (cS_one _) (by unfold maxLen; omega) (by omega) (by have := HB.out.size; simp; omega) ?_)
        case c2 => exact hlit.out
        intro v' w' hown' hgrow' _
        have HB' : Hid (Below w.heap.size w w') := own_grown_below (HB.out.alloc HB.out.size _) (HO.out.alloc _) hgrow' (by have := HB.out.size; simp; omega) (Nat.le_refl _)
        have HO' := Lib.hid hown'
        clear hgrow' hown'
        go_wp2_with fail
        go_roundw
        case rel =>
          refine ⟨s.size + 1, splitL s.data.toList c.toNat.toUInt8, by omega, by go_num, ?_, HB'.out, .inr ⟨rfl, rfl⟩⟩
          have h := HO'.out
          rw [hex.out, HM.out] at h
          rw [← hfin.out, tS_append, List.length_append, cS_append]
          exact h
        case measure => simp [intOf]
    · have HO := Lib.hid hownr
      have HB := Lib.hid hbr
      clear hown0 hownr hbr
      have hd : decide ((s.size : Int) + 1 ≤ (s.size : Int)) = false := by simp; omega
      go_wp2_with fail
      go_ret
      exact ⟨_, rfl, HO.out, HB.out⟩

end Go.Proofs.Ytfdjamobfhoeiaa
