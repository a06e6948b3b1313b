/-
  CountKind, of the program and of the reference.
-/
import Derived.Test.YtcegbilfcblhfaaDescRead
namespace Go.Proofs.Ytcegbilfcblhfaa
open Go.RowKit

set_option maxHeartbeats 2000000 in
theorem i_CountKind (d : Value) (l : List RuleD) (s : Int) (w : World) (hd : RdDesc w d l) :
    Calls Try.prog 27 #[d, .int .i64 s] w fun e w' => e = .returned (.int .i64 (countL l s : Int)) ∧ Below w.heap.size w w' := by
  obtain ⟨v, rfl, hv⟩ := hd
  obtain ⟨A, c, rfl, hnc, hcm, hcell⟩ := hv.all
  unfold maxLen at hcm
  have HC := Lib.hid hcell
  clear hcell hv
  obtain ⟨F, hF⟩ : ∃ F : Int, F = (countL l s : Int) := ⟨_, rfl⟩
  have HF := Lib.hid hF
  rw [← hF]
  clear hF
  obtain ⟨n, hn⟩ : ∃ n, n = l.length := ⟨_, rfl⟩
  have HN := Lib.hid hn
  rw [← hn] at hnc ⊢
  clear hn
  go_enter Try.func27, Try.ntmps27
  go_wp2_with fail
  go_loopw [5, 11] (fun r i wr => ∃ k : Nat, ∃ q : Int, k ≤ n ∧ i = .int .i64 k ∧ r = .int .i64 q ∧ 0 ≤ q ∧ q ≤ k ∧ q = (countL (l.take k) s : Int) ∧ Below w.heap.size w wr) (fun _ i _ => n - (intOf i).toNat)
  case atStart => exact ⟨0, 0, Nat.zero_le _, rfl, rfl, by omega, by omega, by simp [countL], below_box⟩
  case round =>
    obtain ⟨k, q, hk, rfl, rfl, hq0, hqk, hq, hbr⟩ := hrel
    have HQ := Lib.hid hq
    clear hq
    by_cases hlt : k < n
    · have hkl : k < l.length := by rw [← HN.out]; exact hlt
      obtain ⟨b, off, rfl, hc⟩ := HC.out (by omega)
      obtain ⟨vb, vn, vt, vk, hr⟩ := hc k hkl
      obtain ⟨⟨Ab, cb, rfl⟩, ⟨An, cn, rfl⟩, ⟨At, ct, rfl⟩, ⟨Ak, ck, rfl⟩⟩ := hr.slices
      obtain ⟨D0, D1, D2, D3, D4, D5, D6, D7⟩ := (hr.below hbr).eight
      have HBR := Lib.hid hbr
      obtain ⟨r, hr0⟩ : ∃ r, r = l[k] := ⟨_, rfl⟩
      rw [← hr0] at D0 D1 D2 D3 D4 D5 D6 D7
      have HR := Lib.hid hr0
      clear hr hc hbr hr0
      by_cases he : r.kind = s
      · have hq1 : (r.kind == s) = true := by simp [he]
        have hst := Lib.hid (countL_yes (c := s) hkl (by rw [← HR.out]; exact he))
        clear he
        go_wp2_with fail
        go_roundw
        case rel => exact ⟨k + 1, q + 1, by omega, by go_num, rfl, by omega, by omega, by have := hst.out; have := HQ.out; omega, HBR.out.alloc HBR.out.size _⟩
        case measure => simp [intOf]; omega
      · have hq1 : (r.kind == s) = false := by simpa using he
        have hst := Lib.hid (countL_no (c := s) hkl (by rw [← HR.out]; exact he))
        clear he
        go_wp2_with fail
        go_roundw
        case rel => exact ⟨k + 1, q, by omega, by go_num, rfl, by omega, by omega, by have := hst.out; have := HQ.out; omega, HBR.out.alloc HBR.out.size _⟩
        case measure => simp [intOf]; omega
    · obtain rfl : k = n := by omega
      have hfin : Hid (q = F) := by
        show _ = _
        rw [HF.out, HQ.out, HN.out, List.take_length]
      go_wp2_with fail
      go_ret
      exact ⟨ret_int hfin.out, hbr⟩

set_option maxHeartbeats 2000000 in
theorem s_CountKind (d : Value) (l : List RuleD) (s : Int) (w : World) (hd : RdDesc w d l) :
    Calls Try.prog 26 #[d, .int .i64 s] w fun e w' => e = .returned (.int .i64 (countL l s : Int)) ∧ Below w.heap.size w w' := by
  obtain ⟨v, rfl, hv⟩ := hd
  obtain ⟨A, c, rfl, hnc, hcm, hcell⟩ := hv.all
  unfold maxLen at hcm
  have HC := Lib.hid hcell
  clear hcell hv
  obtain ⟨F, hF⟩ : ∃ F : Int, F = (countL l s : Int) := ⟨_, rfl⟩
  have HF := Lib.hid hF
  rw [← hF]
  clear hF
  obtain ⟨n, hn⟩ : ∃ n, n = l.length := ⟨_, rfl⟩
  have HN := Lib.hid hn
  rw [← hn] at hnc ⊢
  clear hn
  go_enter Try.func26, Try.ntmps26
  go_wp2_with fail
  go_loopw [5, 6] (fun r i wr => ∃ k : Nat, ∃ q : Int, k ≤ n ∧ i = .int .i64 k ∧ r = .int .i64 q ∧ 0 ≤ q ∧ q ≤ k ∧ q = (countL (l.take k) s : Int) ∧ wr = w.alloc (.cells #[.slice A n c] 29)) (fun _ i _ => n - (intOf i).toNat)
  case atStart => exact ⟨0, 0, Nat.zero_le _, rfl, rfl, by omega, by omega, by simp [countL], rfl⟩
  case round =>
    obtain ⟨k, q, hk, rfl, rfl, hq0, hqk, hq, rfl⟩ := hrel
    have HQ := Lib.hid hq
    clear hq
    by_cases hlt : k < n
    · have hkl : k < l.length := by rw [← HN.out]; exact hlt
      obtain ⟨b, off, rfl, hc⟩ := HC.out (by omega)
      obtain ⟨vb, vn, vt, vk, hr⟩ := hc k hkl
      have D0 := (hr.below (below_box (v := .slice (some ⟨b, off, none⟩) n c) (t := 29))).c1
      obtain ⟨r, hr0⟩ : ∃ r, r = l[k] := ⟨_, rfl⟩
      rw [← hr0] at D0
      have HR := Lib.hid hr0
      clear hr hc hr0
      by_cases he : r.kind = s
      · have hq1 : (r.kind == s) = true := by simp [he]
        have hst := Lib.hid (countL_yes (c := s) hkl (by rw [← HR.out]; exact he))
        clear he
        go_wp2_with fail
        go_roundw
        case rel => exact ⟨k + 1, q + 1, by omega, by go_num, rfl, by omega, by omega, by have := hst.out; have := HQ.out; omega, by first | rfl | trivial⟩
        case measure => simp [intOf]; omega
      · have hq1 : (r.kind == s) = false := by simpa using he
        have hst := Lib.hid (countL_no (c := s) hkl (by rw [← HR.out]; exact he))
        clear he
        go_wp2_with fail
        go_roundw
        case rel => exact ⟨k + 1, q, by omega, by go_num, rfl, by omega, by omega, by have := hst.out; have := HQ.out; omega, by first | rfl | trivial⟩
        case measure => simp [intOf]; omega
    · obtain rfl : k = n := by omega
      have hfin : Hid (q = F) := by
        show _ = _
        rw [HF.out, HQ.out, HN.out, List.take_length]
      go_wp2_with fail
      go_ret
      exact ⟨ret_int hfin.out, below_box⟩

end Go.Proofs.Ytcegbilfcblhfaa
