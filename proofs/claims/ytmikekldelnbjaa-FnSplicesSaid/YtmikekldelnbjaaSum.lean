/-
  SumOfBytes, by both texts.
-/
import Derived.Test.YtmikekldelnbjaaProg
import Derived.Test.YtmikekldelnbjaaBase
import Derived.Test.YtmikekldelnbjaaRep
import Derived.WalkKit
import Derived.WalkSpells
import Derived.WalkLawsBesides
import Derived.Lib.Hide
namespace Go.Proofs.Ytmikekldelnbjaa
open Go.RowKit

def addB (l : List UInt8) : Nat := (l.map (·.toNat)).sum
theorem addB_step {l : List UInt8} {k : Nat} (h : k < l.length) : addB (l.take (k + 1)) = addB (l.take k) + l[k].toNat := by
  unfold addB
  rw [List.take_succ_eq_append_getElem h, List.map_append, List.sum_append]
  simp
theorem addB_le (l : List UInt8) : addB l ≤ 255 * l.length := by
  unfold addB
  induction l with
  | nil => simp
  | cons x r ih => have := x.toNat_lt; simp at ih ⊢; omega
theorem addB_take_le (l : List UInt8) (k : Nat) (hk : k ≤ l.length) : addB (l.take k) ≤ 255 * k := by
  have := addB_le (l.take k)
  rw [List.length_take] at this
  omega

set_option maxHeartbeats 1000000 in
theorem i_SumOfBytes (v : Value) (l : List UInt8) (hn : l.length ≤ 4194304) (w : World) (h : Rd w v 1 l.length (cB l)) :
    Calls Try.prog 16 #[v] w fun e w' => e = .returned (.int .i64 ((addB l % 256 : Nat) : Int)) ∧ w = w' := by
  obtain ⟨_, A, c, rfl, hnc, hcm, hcell⟩ := h
  unfold maxLen at hcm
  have HC := Lib.hid hcell; clear hcell
  go_enter Try.func16, Try.ntmps16
  go_wp2_with fail
  go_loop [3, 8] (fun s i => ∃ k : Nat, k ≤ l.length ∧ i = .int .i64 k ∧ s = .int .i64 (addB (l.take k) : Nat)) (fun _ i => l.length - (intOf i).toNat)
  case atStart => exact ⟨0, Nat.zero_le _, rfl, by simp [addB]⟩
  case round =>
    obtain ⟨k, hk, rfl, rfl⟩ := hrel
    have hle := addB_take_le l k hk
    by_cases hlt : k < l.length
    · obtain ⟨b, off, rfl, hc⟩ := HC.out (by rw [cB_len]; omega)
      have hck : w.cell? ⟨b, off + k, none⟩ = some (.int .u8 (l[k].toNat : Int)) := hc k _ (cB_at hlt)
      have hub : l[k].toNat < 256 := l[k].toNat_lt
      have HS := Lib.hid (addB_step hlt)
      clear hc
      go_wp2_with fail
      go_round
      case rel => exact ⟨k + 1, by omega, by go_num, by rw [HS.out]; go_num⟩
      case measure => simp [intOf]; omega
    · obtain rfl : k = l.length := by omega
      go_wp2_with fail
      go_ret
      exact ⟨ret_int (by simp), rfl⟩

set_option maxHeartbeats 1000000 in
theorem s_SumOfBytes (v : Value) (l : List UInt8) (hn : l.length ≤ 4194304) (w : World) (h : Rd w v 1 l.length (cB l)) :
    Calls Try.prog 14 #[v] w fun e w' => e = .returned (.int .i64 ((addB l % 256 : Nat) : Int)) ∧ w = w' := by
  obtain ⟨_, A, c, rfl, hnc, hcm, hcell⟩ := h
  unfold maxLen at hcm
  have HC := Lib.hid hcell; clear hcell
  go_enter Try.func14, Try.ntmps14
  go_wp2_with fail
  go_loop [3, 4] (fun s i => ∃ k : Nat, k ≤ l.length ∧ i = .int .i64 k ∧ s = .int .i64 ((addB (l.take k) % 256 : Nat) : Int)) (fun _ i => l.length - (intOf i).toNat)
  case atStart => exact ⟨0, Nat.zero_le _, rfl, by simp [addB]⟩
  case round =>
    obtain ⟨k, hk, rfl, rfl⟩ := hrel
    have hm : addB (l.take k) % 256 < 256 := Nat.mod_lt _ (by omega)
    obtain ⟨m, hmm⟩ : ∃ m, m = addB (l.take k) % 256 := ⟨_, rfl⟩
    rw [← hmm] at hm ⊢
    have HM := Lib.hid hmm
    clear hmm
    by_cases hlt : k < l.length
    · obtain ⟨b, off, rfl, hc⟩ := HC.out (by rw [cB_len]; omega)
      have hck : w.cell? ⟨b, off + k, none⟩ = some (.int .u8 (l[k].toNat : Int)) := hc k _ (cB_at hlt)
      have hub : l[k].toNat < 256 := l[k].toNat_lt
      have HS := Lib.hid (addB_step hlt)
      clear hc
      go_wp2_with fail
      go_round
      case rel => exact ⟨k + 1, by omega, by go_num, by rw [HS.out, HM.out]; exact val_int (by omega)⟩
      case measure => simp [intOf]; omega
    · obtain rfl : k = l.length := by omega
      go_wp2_with fail
      go_ret
      exact ⟨ret_int (by rw [HM.out]; simp), rfl⟩

end Go.Proofs.Ytmikekldelnbjaa
