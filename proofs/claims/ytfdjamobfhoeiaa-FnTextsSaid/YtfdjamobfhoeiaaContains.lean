/-
  ContainsText, by both texts: is a string among those of a list?
-/
import Derived.Test.YtfdjamobfhoeiaaProg
import Derived.Test.YtfdjamobfhoeiaaBase
import Derived.Test.YtfdjamobfhoeiaaRep
import Derived.WalkKit
import Derived.WalkSpells
import Derived.WalkLawsBesides
import Derived.Lib.Hide
namespace Go.Proofs.Ytfdjamobfhoeiaa
open Go.RowKit

def hasText (l : List ByteArray) (s : ByteArray) : Bool := l.any fun x => decide (x = s)
theorem hasText_iff {l : List ByteArray} {s : ByteArray} : hasText l s = true ↔ s ∈ l := by
  simp [hasText]
theorem hasText_at {l : List ByteArray} {s : ByteArray} {k : Nat} (h : k < l.length) (hx : l[k] = s) : hasText l s = true :=
  hasText_iff.2 (hx ▸ List.getElem_mem h)
theorem hasText_step {l : List ByteArray} {s : ByteArray} {k : Nat} (h : k < l.length) (hn : hasText (l.take k) s = false) (hx : l[k] ≠ s) : hasText (l.take (k + 1)) s = false := by
  rw [List.take_succ_eq_append_getElem h]
  unfold hasText at hn ⊢
  rw [List.any_append, hn]
  simpa using hx


set_option maxHeartbeats 1000000 in
theorem i_ContainsText (v : Value) (l : List ByteArray) (s : ByteArray) (w : World) (h : Rd w v 1 l.length (cS l)) :
    Calls Try.prog 30 #[v, .string s] w fun e w' => e = .returned (.bool (hasText l s)) ∧ w = w' := by
  obtain ⟨hl, A, c, rfl, hnc, hcm, hcell⟩ := h
  unfold maxLen at hcm
  clear hl
  have HC := Lib.hid hcell; clear hcell
  go_enter Try.func30, Try.ntmps30
  go_wp2_with fail
  go_loop [9] (fun i => ∃ k : Nat, k ≤ l.length ∧ i = .int .i64 k ∧ hasText (l.take k) s = false) (fun i => l.length - (intOf i).toNat)
  case atStart => exact ⟨0, Nat.zero_le _, rfl, by simp [hasText]⟩
  case round =>
    obtain ⟨k, hk, rfl, hno⟩ := hrel
    have HN := Lib.hid hno; clear hno
    by_cases hlt : k < l.length
    · obtain ⟨b, off, rfl, hc⟩ := HC.out (by rw [cS_len]; omega)
      have hck : w.cell? ⟨b, off + k, none⟩ = some (.string l[k]) := hc k _ (cS_at hlt)
      clear hc
      by_cases hx : l[k] = s
      · have hfin : Hid (hasText l s = true) := hasText_at hlt hx
        have hq : (l[k].toList == s.toList) = true := by rw [hx]; simp
        clear hx
        go_wp2_with fail
        go_ret
        exact ⟨ret_bool hfin.out.symm, rfl⟩
      · have hq : (l[k].toList == s.toList) = false := str_ne hx
        have HX := Lib.hid hx
        clear hx
        go_wp2_with fail
        go_round
        case rel => exact ⟨k + 1, by omega, by go_num, hasText_step hlt HN.out HX.out⟩
        case measure => simp [intOf]; omega
    · obtain rfl : k = l.length := by omega
      have hfin : Hid (hasText l s = false) := by show _ = _; rw [← HN.out, List.take_length]
      go_wp2_with fail
      go_ret
      exact ⟨ret_bool hfin.out.symm, rfl⟩

end Go.Proofs.Ytfdjamobfhoeiaa
