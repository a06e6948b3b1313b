/-
  toStringS: a copy of a slice, in new memory.
-/
import Derived.Test.YtfdjamobfhoeiaaProg
import Derived.Test.YtfdjamobfhoeiaaBase
import Derived.Test.YtfdjamobfhoeiaaRep
import Derived.WalkKit
import Derived.WalkSpells
import Derived.WalkLawsBesides
import Derived.Lib.Hide
namespace Go.Proofs.Ytfdjamobfhoeiaa
open Go.RowKit

theorem info_String : (Try.prog.info? 9).map (fun i => (i.zero, i.size, i.bytes)) = some (some (.string ⟨#[]⟩), 1, 16) := by kernel_rfl

set_option maxHeartbeats 1000000 in
theorem l_toStringS (v : Value) (l : List ByteArray) (hn : l.length ≤ 1048576) (w : World) (h : Rd w v 1 l.length (cS l)) :
    Calls Try.prog 25 #[v] w (Made 9 1 l.length (cS l) w) := by
  obtain ⟨hl, A, c, rfl, hnc, hcm, hcell⟩ := h
  unfold maxLen at hcm
  have HL := Lib.hid hl; clear hl
  have HC := Lib.hid hcell; clear hcell
  obtain ⟨i0, hi, hz0, hz1, hz2⟩ := info_parts info_String
  go_enter Try.func25, Try.ntmps25
  go_wp2_with (at_make; refine wpList_make_full _ rfl (.tmp 6) (.tmp 6) 23 rfl w.heap.size 9 i0 (.string ⟨#[]⟩) 1 Try.underlying23 hi hz0 hz1 .i64 .i64 _ _ l.length rfl rfl rfl rfl (by rw [hz2]; omega) (by unfold maxLen; omega) (Nat.le_refl _) ?_)
  intro w1 hown hgrow
  have hb1 : Below w.heap.size w w1 := (Below.refl _ _).grown hgrow (Nat.le_refl _) (fun k hk => by cases hk)
  obtain ⟨zs, hzs⟩ : ∃ zs, zs = (madeCells #[.string ⟨#[]⟩] l.length).toList := ⟨_, rfl⟩
  rw [← hzs] at hown
  have hzl : zs.length = (cS l).length := by rw [hown.1, cS_len]; omega
  have HZ := Lib.hid hzl
  clear hzs hgrow hi hz0 hz1 hz2 hzl
  go_wp2_with fail
  go_loopw [4] (fun i wr => ∃ k : Nat, k ≤ l.length ∧ i = .int .i64 k ∧ wr.ownsRow w.heap.size 9 1 (.slice (some ⟨w.heap.size, 0, none⟩) l.length l.length) l.length ((cS l).take k ++ zs.drop k) ∧ Below w.heap.size w wr)
    (fun i _ => l.length - (intOf i).toNat)
  case atStart => exact ⟨0, Nat.zero_le _, rfl, by simpa using hown, hb1⟩
  case round =>
    obtain ⟨k, hk, rfl, hownr, hbr⟩ := hrel
    clear hown hb1
    by_cases hlt : k < l.length
    · obtain ⟨b, off, rfl, hc⟩ := HC.out (by rw [cS_len]; omega)
      have hcl : w.cell? ⟨b, off + k, none⟩ = some (.string l[k]) := hc k _ (cS_at hlt)
      have hck : wr.cell? ⟨b, off + k, none⟩ = some (.string l[k]) := by rw [hbr.cell (World.block_lt_of_cell? w _ hcl)]; exact hcl
      have hzk : k < ((cS l).take k ++ zs.drop k).length := by rw [hownr.1]; omega
      have hce : wr.cell? ⟨w.heap.size, k, none⟩ = some (((cS l).take k ++ zs.drop k)[k]) := by rw [hownr.cellAt k (by omega), List.getElem?_eq_getElem hzk]
      have hfe : wr.frozen? ⟨w.heap.size, k, none⟩ = false := hownr.frozenAt k
      obtain ⟨old, hold⟩ : ∃ old, old = ((cS l).take k ++ zs.drop k)[k] := ⟨_, rfl⟩
      rw [← hold] at hce
      have HS := Lib.hid (hownr.stored k (.string l[k]))
      have HB := Lib.hid hbr
      clear hcl hold hzk hownr hbr hc
      go_wp2_with fail
      go_roundw
      case rel =>
        obtain ⟨h1, h2⟩ := HS.out
        rw [take_set (cS l) zs k _ (by rw [cS_len]; omega) HZ.out (cS_at hlt)] at h1
        exact ⟨k + 1, by omega, by go_num, h1, HB.out.setCell (Nat.le_refl _) _⟩
      case measure => simp [intOf]; omega
    · obtain rfl : k = l.length := by omega
      have HO := Lib.hid hownr
      have HB := Lib.hid hbr
      clear hownr hbr
      go_wp2_with fail
      go_ret
      refine ⟨_, rfl, ?_, HB.out⟩
      have h1 := HO.out
      rwa [List.take_of_length_le (by rw [cS_len]; exact Nat.le_refl _), List.drop_of_length_le (by rw [HZ.out, cS_len]; exact Nat.le_refl _), List.append_nil] at h1

end Go.Proofs.Ytfdjamobfhoeiaa
