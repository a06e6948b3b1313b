/-
  szStringS: what is left of a bound behind the strings of a list.
-/
import Derived.Test.YtcegbilfcblhfaaProg
import Derived.Test.YtcegbilfcblhfaaBase
import Derived.Test.YtcegbilfcblhfaaRep
import Derived.WalkKit
import Derived.WalkSpells
import Derived.WalkLawsBesides
import Derived.Lib.Hide
namespace Go.Proofs.Ytcegbilfcblhfaa
open Go.RowKit

def total (l : List ByteArray) : Nat := (l.map (·.size)).sum
theorem total_step (l : List ByteArray) (k : Nat) (h : k < l.length) : total (l.take (k + 1)) = total (l.take k) + l[k].size := by
  unfold total
  rw [List.take_succ_eq_append_getElem h, List.map_append, List.sum_append]
  simp
theorem total_take (l : List ByteArray) (k : Nat) : total (l.take k) ≤ total l := by
  unfold total
  induction l generalizing k with
  | nil => simp
  | cons s r ih =>
    cases k with
    | zero => simp
    | succ k => have := ih k; simp at this ⊢; omega
theorem total_at (l : List ByteArray) (k : Nat) (h : k < l.length) : total (l.take k) + l[k].size ≤ total l := by
  rw [← total_step l k h]; exact total_take l _
theorem total_mem {l : List ByteArray} {s : ByteArray} (h : s ∈ l) : s.size ≤ total l := by
  obtain ⟨k, hk, rfl⟩ := List.getElem_of_mem h
  have := total_at l k hk
  omega

/-- What is left, or -1. -/
def szS (l : List ByteArray) (left : Int) : Int := if (l.length : Int) + total l ≤ left then left - l.length - total l else -1

set_option maxHeartbeats 1000000 in
theorem l_szStringS (v : Value) (l : List ByteArray) (left : Int) (h0 : 0 ≤ left) (h1 : left ≤ 1048576) (hs : ∀ s ∈ l, s.size ≤ maxLen) (w : World) (h : Rd w v 1 l.length (cS l)) :
    Calls Try.prog 93 #[v, .int .i64 left] w fun e w' => e = .returned (.int .i64 (szS l left)) ∧ w = w' := by
  obtain ⟨hl, A, c, rfl, hnc, hcm, hcell⟩ := h
  unfold maxLen at hcm
  clear hl
  have HC := Lib.hid hcell; clear hcell
  by_cases hlen : (l.length : Int) ≤ left
  · go_enter Try.func93, Try.ntmps93
    go_wp2_with fail
    go_loop [1, 5] (fun r i => ∃ k : Nat, k ≤ l.length ∧ i = .int .i64 k ∧ r = .int .i64 (left - l.length - total (l.take k)) ∧ (l.length : Int) + total (l.take k) ≤ left) (fun _ i => l.length - (intOf i).toNat)
    case atStart => exact ⟨0, Nat.zero_le _, rfl, by simp [total], by simpa [total] using hlen⟩
    case round =>
      obtain ⟨k, hk, rfl, rfl, hle⟩ := hrel
      by_cases hlt : k < l.length
      · obtain ⟨b, off, rfl, hc⟩ := HC.out (by rw [cS_len]; omega)
        have hck : w.cell? ⟨b, off + k, none⟩ = some (.string l[k]) := hc k _ (cS_at hlt)
        have hsz := hs l[k] (List.getElem_mem hlt)
        unfold maxLen at hsz
        have HST := Lib.hid (total_step l k hlt)
        have HAT := total_at l k hlt
        by_cases hgo : (l.length : Int) + total (l.take k) + l[k].size ≤ left
        · go_wp2_with fail
          go_round
          case rel => exact ⟨k + 1, by omega, by go_num, by rw [HST.out]; go_num, by rw [HST.out]; omega⟩
          case measure => simp [intOf]; omega
        · have hfin : Hid (szS l left = -1) := by show _ = _; unfold szS; rw [if_neg (by omega)]
          go_wp2_with fail
          go_ret
          exact ⟨ret_int hfin.out.symm, rfl⟩
      · obtain rfl : k = l.length := by omega
        have hfin : Hid (szS l left = left - l.length - total l) := by show _ = _; rw [List.take_length] at hle; unfold szS; rw [if_pos hle]
        go_wp2_with fail
        go_ret
        exact ⟨ret_int hfin.out.symm, rfl⟩
  · have hfin : Hid (szS l left = -1) := by show _ = _; unfold szS; rw [if_neg (by omega)]
    have hn := HC
    go_enter Try.func93, Try.ntmps93
    go_wp2_with fail
    go_ret
    exact ⟨ret_int hfin.out.symm, rfl⟩

end Go.Proofs.Ytcegbilfcblhfaa
