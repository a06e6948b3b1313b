/-
  FormatHex, by both texts.
-/
import Derived.Test.YtmikekldelnbjaaProg
import Derived.Test.YtmikekldelnbjaaBase
import Derived.Test.YtmikekldelnbjaaRep
import Derived.Test.YtmikekldelnbjaaHexText
import Derived.Test.YtmikekldelnbjaaToByte
import Derived.Test.YtmikekldelnbjaaConv
import Derived.Test.YtmikekldelnbjaaAppend
import Derived.WalkKit
import Derived.WalkSpells
import Derived.WalkLawsBesides
import Derived.Laws.BitsAllLaws
import Derived.Laws.BytesArg
import Derived.Deep.RegionHeld3
import Derived.Deep.QuietTactic
import Derived.BigQuiet
import Derived.Lib.Hide
namespace Go.Proofs.Ytmikekldelnbjaa
open Go.RowKit
attribute [local go_sem] mkS_append mkS_size

theorem u8_and_15 (c : Nat) (h : c < 256) : bits .and .u8 (c : Int) 15 = ((c % 16 : Nat) : Int) := by
  have hd : ∀ c < 256, bits .and .u8 ((c : Nat) : Int) 15 = ((c % 16 : Nat) : Int) := by decide +kernel
  exact hd c h

theorem hex_index (n : Nat) (i : Int) (hi : i = n) (hn : n < 16) (w : World) :
    (Instr.index 9 (.string ⟨#[48, 49, 50, 51, 52, 53, 54, 55, 56, 57, 97, 98, 99, 100, 101, 102]⟩) (.int .u8 i)).run Try.prog w = .ok (.int .u8 ((hexD n).toNat : Int)) w := by
  subst hi
  rw [run_index_string w 9 _ _ _ Try.underlying9, dif_pos ⟨by omega, by rw [show (ByteArray.size ⟨#[48, 49, 50, 51, 52, 53, 54, 55, 56, 57, 97, 98, 99, 100, 101, 102]⟩) = 16 from rfl]; omega⟩]
  have h := hexS_get (n := n) (by rw [hexS_size]; exact hn)
  simp only [Int.toNat_natCast]
  rw [← h]
  rfl

set_option maxHeartbeats 2000000 in
theorem i_FormatHex (v : Value) (l : List UInt8) (hn : l.length ≤ 1048576) (w : World) (h : Rd w v 1 l.length (cB l)) :
    Calls Try.prog 21 #[v] w fun e w' => e = .returned (.string (mkS (hexL l))) ∧ Below w.heap.size w w' := by
  obtain ⟨_, A, c, rfl, hnc, hcm, hcell⟩ := h
  unfold maxLen at hcm
  have HC := Lib.hid hcell; clear hcell
  obtain ⟨i0, hi, hz0, hz1, hz2⟩ := info_parts info_Byte
  go_enter Try.func21, Try.ntmps21
  go_wp2_with (at_make; refine wpList_make_own _ rfl (.const (.int .i64 0)) (.tmp 8) 22 rfl w.heap.size 5 i0 (.int .u8 0) 1 Try.underlying22 hi hz0 hz1 .i64 .i64 _ (2 * l.length) rfl rfl (by omega) (by rw [hz2]; omega) (by unfold maxLen; omega) (Nat.le_refl _) ?_)
  intro w1 hown hgrow
  have hb1 : Below w.heap.size w w1 := (Below.refl _ _).grown hgrow (Nat.le_refl _) (fun k hk => by cases hk)
  clear hgrow
  go_wp2_with fail
  go_loopw [3, 12] (fun o i wr => ∃ (k : Nat), k ≤ l.length ∧ i = .int .i64 k ∧ wr.ownsRow w.heap.size 5 1 o (2 * k) (cB (hexL (l.take k))) ∧ Below w.heap.size w wr)
    (fun _ i _ => l.length - (intOf i).toNat)
  case atStart => exact ⟨0, Nat.zero_le _, rfl, by simpa [hexL, cB] using hown, hb1⟩
  case round =>
    obtain ⟨k, hk, rfl, hownr, hbr⟩ := hrel
    clear hown hb1
    by_cases hlt : k < l.length
    · obtain ⟨b, off, rfl, hc⟩ := HC.out (by rw [cB_len]; omega)
      have hcl : w.cell? ⟨b, off + k, none⟩ = some (.int .u8 (l[k].toNat : Int)) := hc k _ (cB_at hlt)
      have hck : wr.cell? ⟨b, off + k, none⟩ = some (.int .u8 (l[k].toNat : Int)) := by rw [hbr.cell (World.block_lt_of_cell? w _ hcl)]; exact hcl
      have hub : l[k].toNat < 256 := UInt8.toNat_lt _
      have hx1 := hex_index (l[k].toNat / 16) (((l[k].toNat : Nat) : Int) / 16) (by omega) (by omega)
      have hx2 := hex_index (l[k].toNat % 16) (bits .and .u8 ((l[k].toNat : Nat) : Int) 15) (u8_and_15 _ hub) (by omega)
      clear hc hcl
      go_wp2_with fail
      have hlit := Rd.lit wr (cB (hexPair l[k])) 5 2 rfl (by unfold maxLen; omega)
      have HO := Lib.hid hownr
      have HB := Lib.hid hbr
      have HLIT := Lib.hid hlit
      clear hownr hbr hlit
      go_region_held3 (fun _ => True) (trivial) ((refine step_append_rd _ (by rfl) (.tmp 16) (.tmp 23) 22 (by rfl) w.heap.size 5 i0 (.int .u8 0) 1 1 Try.underlying22 hi hz0 hz1 hz2 (by rfl) (by decide) u3 (2 * k) (cB (hexL (l.take k))) (by rfl) (HO.out.alloc _) _ 2 (cB (hexPair l[k])) (by rfl) HLIT.out (cB_one _) (by unfold maxLen; omega) (by omega) (by have := HB.out.size; simp; omega) ?_; intro v' w' hown' hgrow' _))
      all_goals
        have HB' : Hid (Below w.heap.size w w') := own_grown_below (HB.out.alloc HB.out.size _).drew ((HO.out.alloc _).drew) hgrow' (by have := HB.out.size; simp; omega) (Nat.le_refl _)
        have HO' := Lib.hid hown'
        clear hgrow' hown'
        go_wp2_with fail
        go_roundw
        case rel => exact ⟨k + 1, by omega, by go_num, by rw [hexL_step hlt, cB_append]; exact HO'.out, HB'.out⟩
        case measure => simp [intOf]; omega
    · obtain rfl : k = l.length := by omega
      rw [List.take_length] at hownr
      have hcv := conv_own hownr
      have HB := Lib.hid hbr
      clear hownr hbr
      go_wp2_with fail
      go_ret
      exact ⟨rfl, HB.out⟩

theorem hex_piece {n : Nat} (h : n < 16) : (⟨#[48, 49, 50, 51, 52, 53, 54, 55, 56, 57, 97, 98, 99, 100, 101, 102]⟩ : ByteArray).extract n (n + 1) = mkS [hexD n] := by
  have hd : ∀ n < 16, (hexS.data.toList.drop n).take (n + 1 - n) = [hexD n] := by decide
  have e := extract_mk hexS n (n + 1)
  rw [hd n h] at e
  exact e

set_option maxHeartbeats 2000000 in
theorem s_FormatHex (v : Value) (l : List UInt8) (hn : l.length ≤ 1048576) (w : World) (h : Rd w v 1 l.length (cB l)) :
    Calls Try.prog 20 #[v] w fun e w' => e = .returned (.string (mkS (hexL l))) ∧ Below w.heap.size w w' := by
  obtain ⟨_, A, c, rfl, hnc, hcm, hcell⟩ := h
  unfold maxLen at hcm
  have HC := Lib.hid hcell; clear hcell
  go_enter Try.func20, Try.ntmps20
  go_wp2_with fail
  go_loopw [4, 5, 6, 7] (fun o i _ _ wr => ∃ (k : Nat), k ≤ l.length ∧ i = .int .i64 k ∧ o = .string (mkS (hexL (l.take k))) ∧ Below w.heap.size w wr)
    (fun _ i _ _ _ => l.length - (intOf i).toNat)
  case atStart => exact ⟨0, Nat.zero_le _, rfl, rfl, Below.refl _ _⟩
  case round =>
    obtain ⟨k, hk, rfl, rfl, hbr⟩ := hrel
    by_cases hlt : k < l.length
    · obtain ⟨b, off, rfl, hc⟩ := HC.out (by rw [cB_len]; omega)
      have hcl : w.cell? ⟨b, off + k, none⟩ = some (.int .u8 (l[k].toNat : Int)) := hc k _ (cB_at hlt)
      have hck : wr.cell? ⟨b, off + k, none⟩ = some (.int .u8 (l[k].toNat : Int)) := by rw [hbr.cell (World.block_lt_of_cell? w _ hcl)]; exact hcl
      have hub : l[k].toNat < 256 := UInt8.toNat_lt _
      have he1 := hex_piece (n := l[k].toNat / 16) (by omega)
      have he2 := hex_piece (n := l[k].toNat % 16) (by omega)
      have hlen : (hexL (l.take k)).length ≤ 2097152 := by rw [hexL_len, List.length_take]; omega
      have HB := Lib.hid hbr
      clear hc hcl hbr
      go_wp2_with fail
      go_quiet (fail)
      go_wp2_with fail
      go_roundw
      case rel => exact ⟨k + 1, by omega, by go_num, by rw [hexL_step hlt]; simp [hexPair], below_drewN HB.out _⟩
      case measure => simp [intOf]; omega
    · obtain rfl : k = l.length := by omega
      rw [List.take_length]
      go_wp2_with fail
      go_ret
      exact ⟨rfl, hbr⟩

end Go.Proofs.Ytmikekldelnbjaa
