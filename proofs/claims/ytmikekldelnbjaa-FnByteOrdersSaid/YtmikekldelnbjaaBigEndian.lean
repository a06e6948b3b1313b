/-
  BigEndian, by both texts: one theorem for each size.
-/
import Derived.Test.YtmikekldelnbjaaProg
import Derived.Test.YtmikekldelnbjaaBase
import Derived.Test.YtmikekldelnbjaaRep
import Derived.Test.YtmikekldelnbjaaToByte
import Derived.Test.YtmikekldelnbjaaAppend
import Derived.Test.YtmikekldelnbjaaBigText
import Derived.WalkKit
import Derived.WalkSpells
import Derived.WalkLawsBesides
import Derived.Lib.Hide
namespace Go.Proofs.Ytmikekldelnbjaa
open Go.RowKit

theorem made_empty (w : World) (n size : Int) (h : bigE n size = []) : Made 5 1 (bigE n size).length (cB (bigE n size)) w (.returned (.slice (some ⟨w.heap.size, 0, none⟩) 0 0)) (w.alloc (.cells #[] 5)) := by
  rw [h]
  exact ⟨_, rfl, World.ownsRow_lit (base := w.heap.size) (e := 5) (size := 1) w #[] 0 (Nat.le_refl _) (Nat.zero_le _) rfl, (Below.refl _ _).alloc (Nat.le_refl _) _⟩

theorem big_cells1 (N : Nat) : (#[.int .u8 ((N : Int) % 256)] : Array Value).toList = cB (bigL N 1) := by
  simp only [bigL, cB_cons, posB_toNat]
  simp [cB]

set_option maxRecDepth 100000 in
set_option maxHeartbeats 1000000 in
theorem i_Big1 (N : Nat) (hN : (N : Int) < 256) (w : World) :
    Calls Try.prog 29 #[.int .i64 (N : Int), .int .i64 1] w (Made 5 1 1 (cB (bigL N 1)) w) := by
  have hmk : ∀ w, (Instr.makeSlice 22 (.int .i64 1) (.int .i64 1)).run Try.prog w = .ok (.slice (some ⟨w.heap.size, 0, none⟩) 1 1) (w.alloc (.cells #[.int .u8 0] 5)) := fun _ => by kernel_rfl
  have hc := Lib.hid (big_cells1 N)
  obtain ⟨P, hP⟩ : ∃ P : Int, P = 256 := ⟨_, rfl⟩
  have hsh : Op.shift .shl .i64 1 .i64 8 = pure (.int .i64 P) := by rw [hP]; kernel_rfl
  have hd : decide (P ≤ (N : Int)) = false := by rw [hP]; simp; omega
  have hd0 : decide ((N : Int) < 0) = false := by simp
  have HN := Lib.hid hN
  have hub : (N : Int) ≤ 9223372036854775807 := by omega
  clear hN hP
  go_enter Try.func29, Try.ntmps29
  go_wp2_with (go_at_call 44; go_in)
  refine wp_loop_rounds 2 ?_
  rw [rounds_succ]
  go_wp2_with fail
  rw [rounds_succ]
  go_wp2_with fail
  go_ret
  refine ⟨_, rfl, ?_, (Below.refl _ _).alloc (Nat.le_refl _) _⟩
  rw [← hc.out]
  refine World.ownsRow_lit (base := w.heap.size) (e := 5) (size := 1) w _ 1 (Nat.le_refl _) (by unfold maxLen; omega) ?_
  rfl

theorem big_cells2 (N : Nat) : (#[.int .u8 ((N : Int) / 256 % 256), .int .u8 ((N : Int) % 256)] : Array Value).toList = cB (bigL N 2) := by
  simp only [bigL, cB_cons, posB_toNat]
  simp [cB]

set_option maxRecDepth 100000 in
set_option maxHeartbeats 1000000 in
theorem i_Big2 (N : Nat) (hN : (N : Int) < 65536) (w : World) :
    Calls Try.prog 29 #[.int .i64 (N : Int), .int .i64 2] w (Made 5 1 2 (cB (bigL N 2)) w) := by
  have hmk : ∀ w, (Instr.makeSlice 22 (.int .i64 2) (.int .i64 2)).run Try.prog w = .ok (.slice (some ⟨w.heap.size, 0, none⟩) 2 2) (w.alloc (.cells #[.int .u8 0, .int .u8 0] 5)) := fun _ => by kernel_rfl
  have hc := Lib.hid (big_cells2 N)
  obtain ⟨P, hP⟩ : ∃ P : Int, P = 65536 := ⟨_, rfl⟩
  have hsh : Op.shift .shl .i64 1 .i64 16 = pure (.int .i64 P) := by rw [hP]; kernel_rfl
  have hd : decide (P ≤ (N : Int)) = false := by rw [hP]; simp; omega
  have hd0 : decide ((N : Int) < 0) = false := by simp
  have HN := Lib.hid hN
  have hub : (N : Int) ≤ 9223372036854775807 := by omega
  clear hN hP
  go_enter Try.func29, Try.ntmps29
  go_wp2_with (go_at_call 44; go_in)
  refine wp_loop_rounds 3 ?_
  rw [rounds_succ]
  go_wp2_with fail
  rw [rounds_succ]
  go_wp2_with fail
  rw [rounds_succ]
  go_wp2_with fail
  go_ret
  refine ⟨_, rfl, ?_, (Below.refl _ _).alloc (Nat.le_refl _) _⟩
  rw [← hc.out]
  refine World.ownsRow_lit (base := w.heap.size) (e := 5) (size := 1) w _ 2 (Nat.le_refl _) (by unfold maxLen; omega) ?_
  rfl

theorem big_cells3 (N : Nat) : (#[.int .u8 ((N : Int) / 256 / 256 % 256), .int .u8 ((N : Int) / 256 % 256), .int .u8 ((N : Int) % 256)] : Array Value).toList = cB (bigL N 3) := by
  simp only [bigL, cB_cons, posB_toNat]
  simp [cB]
  omega

set_option maxRecDepth 100000 in
set_option maxHeartbeats 1000000 in
theorem i_Big3 (N : Nat) (hN : (N : Int) < 16777216) (w : World) :
    Calls Try.prog 29 #[.int .i64 (N : Int), .int .i64 3] w (Made 5 1 3 (cB (bigL N 3)) w) := by
  have hmk : ∀ w, (Instr.makeSlice 22 (.int .i64 3) (.int .i64 3)).run Try.prog w = .ok (.slice (some ⟨w.heap.size, 0, none⟩) 3 3) (w.alloc (.cells #[.int .u8 0, .int .u8 0, .int .u8 0] 5)) := fun _ => by kernel_rfl
  have hc := Lib.hid (big_cells3 N)
  obtain ⟨P, hP⟩ : ∃ P : Int, P = 16777216 := ⟨_, rfl⟩
  have hsh : Op.shift .shl .i64 1 .i64 24 = pure (.int .i64 P) := by rw [hP]; kernel_rfl
  have hd : decide (P ≤ (N : Int)) = false := by rw [hP]; simp; omega
  have hd0 : decide ((N : Int) < 0) = false := by simp
  have HN := Lib.hid hN
  have hub : (N : Int) ≤ 9223372036854775807 := by omega
  clear hN hP
  go_enter Try.func29, Try.ntmps29
  go_wp2_with (go_at_call 44; go_in)
  refine wp_loop_rounds 4 ?_
  rw [rounds_succ]
  go_wp2_with fail
  rw [rounds_succ]
  go_wp2_with fail
  rw [rounds_succ]
  go_wp2_with fail
  rw [rounds_succ]
  go_wp2_with fail
  go_ret
  refine ⟨_, rfl, ?_, (Below.refl _ _).alloc (Nat.le_refl _) _⟩
  rw [← hc.out]
  refine World.ownsRow_lit (base := w.heap.size) (e := 5) (size := 1) w _ 3 (Nat.le_refl _) (by unfold maxLen; omega) ?_
  rfl

theorem big_cells4 (N : Nat) : (#[.int .u8 ((N : Int) / 256 / 256 / 256 % 256), .int .u8 ((N : Int) / 256 / 256 % 256), .int .u8 ((N : Int) / 256 % 256), .int .u8 ((N : Int) % 256)] : Array Value).toList = cB (bigL N 4) := by
  simp only [bigL, cB_cons, posB_toNat]
  simp [cB]
  omega

set_option maxRecDepth 100000 in
set_option maxHeartbeats 1000000 in
theorem i_Big4 (N : Nat) (hN : (N : Int) < 4294967296) (w : World) :
    Calls Try.prog 29 #[.int .i64 (N : Int), .int .i64 4] w (Made 5 1 4 (cB (bigL N 4)) w) := by
  have hmk : ∀ w, (Instr.makeSlice 22 (.int .i64 4) (.int .i64 4)).run Try.prog w = .ok (.slice (some ⟨w.heap.size, 0, none⟩) 4 4) (w.alloc (.cells #[.int .u8 0, .int .u8 0, .int .u8 0, .int .u8 0] 5)) := fun _ => by kernel_rfl
  have hc := Lib.hid (big_cells4 N)
  obtain ⟨P, hP⟩ : ∃ P : Int, P = 4294967296 := ⟨_, rfl⟩
  have hsh : Op.shift .shl .i64 1 .i64 32 = pure (.int .i64 P) := by rw [hP]; kernel_rfl
  have hd : decide (P ≤ (N : Int)) = false := by rw [hP]; simp; omega
  have hd0 : decide ((N : Int) < 0) = false := by simp
  have HN := Lib.hid hN
  have hub : (N : Int) ≤ 9223372036854775807 := by omega
  clear hN hP
  go_enter Try.func29, Try.ntmps29
  go_wp2_with (go_at_call 44; go_in)
  refine wp_loop_rounds 5 ?_
  rw [rounds_succ]
  go_wp2_with fail
  rw [rounds_succ]
  go_wp2_with fail
  rw [rounds_succ]
  go_wp2_with fail
  rw [rounds_succ]
  go_wp2_with fail
  rw [rounds_succ]
  go_wp2_with fail
  go_ret
  refine ⟨_, rfl, ?_, (Below.refl _ _).alloc (Nat.le_refl _) _⟩
  rw [← hc.out]
  refine World.ownsRow_lit (base := w.heap.size) (e := 5) (size := 1) w _ 4 (Nat.le_refl _) (by unfold maxLen; omega) ?_
  rfl

set_option maxHeartbeats 400000 in
theorem s_l1In_ (n a b : Int) (w : World) :
    Calls Try.prog 42 #[.int .i64 n, .int .i64 a, .int .i64 b] w fun e w' => e = .returned (.bool (decide (a ≤ n) && decide (n ≤ b))) ∧ w = w' := by
  go_enter Try.func42, Try.ntmps42
  go_wp2
  all_goals (go_ret; exact ⟨by simp; omega, rfl⟩)
theorem cB_pos (n j : Nat) (x : Int) (h : x = ((n / 256 ^ j % 256 : Nat) : Int)) : cB [posB n j] = [.int .u8 x] := by
  simp [cB, posB_toNat, h]
theorem bigL_step (n z k j : Nat) (h : k + j + 1 = z) : (bigL n z).take (k + 1) = (bigL n z).take k ++ [posB n j] := by
  have : (bigL n z)[k]? = some (posB n j) := by
    induction z generalizing k with
    | zero => omega
    | succ z ih =>
      cases k with
      | zero => simp [bigL]; rw [show j = z from by omega]
      | succ k => simp only [bigL, List.getElem?_cons_succ]; exact ih k (by omega)
  rw [List.take_add_one, this]; rfl

set_option maxHeartbeats 400000 in
theorem s_l2Power1 (P : Int) (hP : P = 256) (w : World) : Calls Try.prog 43 #[.int .i64 1] w fun e w' => e = .returned (.int .i64 P) ∧ w = w' := by
  have hsh : Op.shift .shl .i64 1 .i64 8 = pure (.int .i64 P) := by rw [hP]; kernel_rfl
  clear hP
  go_enter Try.func43, Try.ntmps43
  go_wp2_with fail
  go_ret
  exact ⟨rfl, rfl⟩

set_option maxHeartbeats 2000000 in
theorem s_Big1 (N : Nat) (hN : (N : Int) < 256) (w : World) :
    Calls Try.prog 28 #[.int .i64 (N : Int), .int .i64 1] w (Made 5 1 1 (cB (bigL N 1)) w) := by
  obtain ⟨i0, hi, hz0, hz1, hz2⟩ := info_parts info_Byte
  obtain ⟨P, hP⟩ : ∃ P : Int, P = 256 := ⟨_, rfl⟩
  have hp1 : 1 ≤ P := by omega
  have hp2 : P ≤ 9223372036854775807 := by omega
  have hd0 : decide (0 ≤ (N : Int)) = true := by simp
  have hd : decide ((N : Int) ≤ P - 1) = true := by rw [hP]; simp; omega
  have hub : (N : Int) ≤ 9223372036854775807 := by omega
  have HP := Lib.hid hP
  clear hN hP
  go_enter Try.func28, Try.ntmps28
  go_wp2_with fail
  refine (s_l1In_ _ _ _ _).mono ?_
  rintro e w' ⟨rfl, rfl⟩
  go_wp2_with fail
  refine (s_l2Power1 P HP.out _).mono ?_
  rintro e w' ⟨rfl, rfl⟩
  go_wp2_with fail
  refine (s_l1In_ _ _ _ _).mono ?_
  rintro e w' ⟨rfl, rfl⟩
  go_wp2_with fail
  have hown0 := World.ownsRow_lit (base := w.heap.size) (e := 5) (size := 1) w #[] 0 (Nat.le_refl _) (Nat.zero_le _) rfl
  go_loopw [5, 6] (fun o i wr => ∃ k : Nat, k ≤ 1 ∧ i = .int .i64 (1 - 1 - (k : Int)) ∧ wr.ownsRow w.heap.size 5 1 o k (cB ((bigL N 1).take k)) ∧ Below w.heap.size w wr)
    (fun _ i _ => (intOf i + 1).toNat)
  case atStart => exact ⟨0, by omega, rfl, hown0, (Below.refl _ _).alloc (Nat.le_refl _) _⟩
  case round =>
    obtain ⟨k, hk, rfl, hownr, hbr⟩ := hrel
    have HO := Lib.hid hownr
    have HB := Lib.hid hbr
    clear hown0 hownr hbr
    rcases (by omega : k = 1 ∨ k = 0) with rfl | rfl
    · go_wp2_with fail
      go_ret
      refine ⟨_, rfl, ?_, HB.out⟩
      have h := HO.out
      rwa [List.take_of_length_le (by rw [bigL_len]; exact Nat.le_refl _)] at h
    · have hlit := Lib.hid (Rd.lit wr (cB [posB N 0]) 5 1 rfl (by unfold maxLen; omega))
      have hcb := Lib.hid (cB_pos N 0 ((N : Int) % 256) (by omega))
      go_wp2_with (at_builtin; refine wpList_append_rd _ rfl (.tmp 26) (.tmp 32) 22 rfl w.heap.size 5 i0 (.int .u8 0) 1 1 Try.underlying22 hi hz0 hz1 hz2 rfl (by decide) _ 0 (cB ((bigL N 1).take 0)) rfl (HO.out.alloc _) _ 1 (cB [posB N 0]) rfl ?c1_0 (cB_one _) (by unfold maxLen; omega) (by omega) (by have := HB.out.size; simp; omega) ?_)
      case c1_0 => rw [← hcb.out]; exact hlit.out
      intro v' w' hown' hgrow' _
      have HB' : Hid (Below w.heap.size w w') := own_grown_below (HB.out.alloc HB.out.size _) (HO.out.alloc _) hgrow' (by have := HB.out.size; simp; omega) (Nat.le_refl _)
      have HO' := Lib.hid hown'
      clear hgrow' hown'
      go_wp2_with fail
      go_roundw
      case rel => exact ⟨1, by omega, by go_num, by rw [bigL_step N 1 0 0 (by omega), cB_append]; exact HO'.out, HB'.out⟩
      case measure => simp [intOf]

set_option maxHeartbeats 400000 in
theorem s_l2Power2 (P : Int) (hP : P = 65536) (w : World) : Calls Try.prog 43 #[.int .i64 2] w fun e w' => e = .returned (.int .i64 P) ∧ w = w' := by
  have hsh : Op.shift .shl .i64 1 .i64 16 = pure (.int .i64 P) := by rw [hP]; kernel_rfl
  clear hP
  go_enter Try.func43, Try.ntmps43
  go_wp2_with fail
  go_ret
  exact ⟨rfl, rfl⟩

set_option maxHeartbeats 2000000 in
theorem s_Big2 (N : Nat) (hN : (N : Int) < 65536) (w : World) :
    Calls Try.prog 28 #[.int .i64 (N : Int), .int .i64 2] w (Made 5 1 2 (cB (bigL N 2)) w) := by
  obtain ⟨i0, hi, hz0, hz1, hz2⟩ := info_parts info_Byte
  obtain ⟨P, hP⟩ : ∃ P : Int, P = 65536 := ⟨_, rfl⟩
  have hp1 : 1 ≤ P := by omega
  have hp2 : P ≤ 9223372036854775807 := by omega
  have hd0 : decide (0 ≤ (N : Int)) = true := by simp
  have hd : decide ((N : Int) ≤ P - 1) = true := by rw [hP]; simp; omega
  have hub : (N : Int) ≤ 9223372036854775807 := by omega
  have HP := Lib.hid hP
  clear hN hP
  go_enter Try.func28, Try.ntmps28
  go_wp2_with fail
  refine (s_l1In_ _ _ _ _).mono ?_
  rintro e w' ⟨rfl, rfl⟩
  go_wp2_with fail
  refine (s_l2Power2 P HP.out _).mono ?_
  rintro e w' ⟨rfl, rfl⟩
  go_wp2_with fail
  refine (s_l1In_ _ _ _ _).mono ?_
  rintro e w' ⟨rfl, rfl⟩
  go_wp2_with fail
  have hown0 := World.ownsRow_lit (base := w.heap.size) (e := 5) (size := 1) w #[] 0 (Nat.le_refl _) (Nat.zero_le _) rfl
  go_loopw [5, 6] (fun o i wr => ∃ k : Nat, k ≤ 2 ∧ i = .int .i64 (2 - 1 - (k : Int)) ∧ wr.ownsRow w.heap.size 5 1 o k (cB ((bigL N 2).take k)) ∧ Below w.heap.size w wr)
    (fun _ i _ => (intOf i + 1).toNat)
  case atStart => exact ⟨0, by omega, rfl, hown0, (Below.refl _ _).alloc (Nat.le_refl _) _⟩
  case round =>
    obtain ⟨k, hk, rfl, hownr, hbr⟩ := hrel
    have HO := Lib.hid hownr
    have HB := Lib.hid hbr
    clear hown0 hownr hbr
    rcases (by omega : k = 2 ∨ k = 0 ∨ k = 1) with rfl | rfl | rfl
    · go_wp2_with fail
      go_ret
      refine ⟨_, rfl, ?_, HB.out⟩
      have h := HO.out
      rwa [List.take_of_length_le (by rw [bigL_len]; exact Nat.le_refl _)] at h
    · have hlit := Lib.hid (Rd.lit wr (cB [posB N 1]) 5 1 rfl (by unfold maxLen; omega))
      have hcb := Lib.hid (cB_pos N 1 ((N : Int) / 256 % 256) (by omega))
      go_wp2_with (at_builtin; refine wpList_append_rd _ rfl (.tmp 26) (.tmp 32) 22 rfl w.heap.size 5 i0 (.int .u8 0) 1 1 Try.underlying22 hi hz0 hz1 hz2 rfl (by decide) _ 0 (cB ((bigL N 2).take 0)) rfl (HO.out.alloc _) _ 1 (cB [posB N 1]) rfl ?c1_0 (cB_one _) (by unfold maxLen; omega) (by omega) (by have := HB.out.size; simp; omega) ?_)
      case c1_0 => rw [← hcb.out]; exact hlit.out
      intro v' w' hown' hgrow' _
      have HB' : Hid (Below w.heap.size w w') := own_grown_below (HB.out.alloc HB.out.size _) (HO.out.alloc _) hgrow' (by have := HB.out.size; simp; omega) (Nat.le_refl _)
      have HO' := Lib.hid hown'
      clear hgrow' hown'
      go_wp2_with fail
      go_roundw
      case rel => exact ⟨1, by omega, by go_num, by rw [bigL_step N 2 0 1 (by omega), cB_append]; exact HO'.out, HB'.out⟩
      case measure => simp [intOf]
    · have hlit := Lib.hid (Rd.lit wr (cB [posB N 0]) 5 1 rfl (by unfold maxLen; omega))
      have hcb := Lib.hid (cB_pos N 0 ((N : Int) % 256) (by omega))
      go_wp2_with (at_builtin; refine wpList_append_rd _ rfl (.tmp 26) (.tmp 32) 22 rfl w.heap.size 5 i0 (.int .u8 0) 1 1 Try.underlying22 hi hz0 hz1 hz2 rfl (by decide) _ 1 (cB ((bigL N 2).take 1)) rfl (HO.out.alloc _) _ 1 (cB [posB N 0]) rfl ?c1_1 (cB_one _) (by unfold maxLen; omega) (by omega) (by have := HB.out.size; simp; omega) ?_)
      case c1_1 => rw [← hcb.out]; exact hlit.out
      intro v' w' hown' hgrow' _
      have HB' : Hid (Below w.heap.size w w') := own_grown_below (HB.out.alloc HB.out.size _) (HO.out.alloc _) hgrow' (by have := HB.out.size; simp; omega) (Nat.le_refl _)
      have HO' := Lib.hid hown'
      clear hgrow' hown'
      go_wp2_with fail
      go_roundw
      case rel => exact ⟨2, by omega, by go_num, by rw [bigL_step N 2 1 0 (by omega), cB_append]; exact HO'.out, HB'.out⟩
      case measure => simp [intOf]

set_option maxHeartbeats 400000 in
theorem s_l2Power3 (P : Int) (hP : P = 16777216) (w : World) : Calls Try.prog 43 #[.int .i64 3] w fun e w' => e = .returned (.int .i64 P) ∧ w = w' := by
  have hsh : Op.shift .shl .i64 1 .i64 24 = pure (.int .i64 P) := by rw [hP]; kernel_rfl
  clear hP
  go_enter Try.func43, Try.ntmps43
  go_wp2_with fail
  go_ret
  exact ⟨rfl, rfl⟩

set_option maxHeartbeats 2000000 in
theorem s_Big3 (N : Nat) (hN : (N : Int) < 16777216) (w : World) :
    Calls Try.prog 28 #[.int .i64 (N : Int), .int .i64 3] w (Made 5 1 3 (cB (bigL N 3)) w) := by
  obtain ⟨i0, hi, hz0, hz1, hz2⟩ := info_parts info_Byte
  obtain ⟨P, hP⟩ : ∃ P : Int, P = 16777216 := ⟨_, rfl⟩
  have hp1 : 1 ≤ P := by omega
  have hp2 : P ≤ 9223372036854775807 := by omega
  have hd0 : decide (0 ≤ (N : Int)) = true := by simp
  have hd : decide ((N : Int) ≤ P - 1) = true := by rw [hP]; simp; omega
  have hub : (N : Int) ≤ 9223372036854775807 := by omega
  have HP := Lib.hid hP
  clear hN hP
  go_enter Try.func28, Try.ntmps28
  go_wp2_with fail
  refine (s_l1In_ _ _ _ _).mono ?_
  rintro e w' ⟨rfl, rfl⟩
  go_wp2_with fail
  refine (s_l2Power3 P HP.out _).mono ?_
  rintro e w' ⟨rfl, rfl⟩
  go_wp2_with fail
  refine (s_l1In_ _ _ _ _).mono ?_
  rintro e w' ⟨rfl, rfl⟩
  go_wp2_with fail
  have hown0 := World.ownsRow_lit (base := w.heap.size) (e := 5) (size := 1) w #[] 0 (Nat.le_refl _) (Nat.zero_le _) rfl
  go_loopw [5, 6] (fun o i wr => ∃ k : Nat, k ≤ 3 ∧ i = .int .i64 (3 - 1 - (k : Int)) ∧ wr.ownsRow w.heap.size 5 1 o k (cB ((bigL N 3).take k)) ∧ Below w.heap.size w wr)
    (fun _ i _ => (intOf i + 1).toNat)
  case atStart => exact ⟨0, by omega, rfl, hown0, (Below.refl _ _).alloc (Nat.le_refl _) _⟩
  case round =>
    obtain ⟨k, hk, rfl, hownr, hbr⟩ := hrel
    have HO := Lib.hid hownr
    have HB := Lib.hid hbr
    clear hown0 hownr hbr
    rcases (by omega : k = 3 ∨ k = 0 ∨ k = 1 ∨ k = 2) with rfl | rfl | rfl | rfl
    · go_wp2_with fail
      go_ret
      refine ⟨_, rfl, ?_, HB.out⟩
      have h := HO.out
      rwa [List.take_of_length_le (by rw [bigL_len]; exact Nat.le_refl _)] at h
    · have hlit := Lib.hid (Rd.lit wr (cB [posB N 2]) 5 1 rfl (by unfold maxLen; omega))
      have hcb := Lib.hid (cB_pos N 2 ((N : Int) / 65536 % 256) (by omega))
      go_wp2_with (at_builtin; refine wpList_append_rd _ rfl (.tmp 26) (.tmp 32) 22 rfl w.heap.size 5 i0 (.int .u8 0) 1 1 Try.underlying22 hi hz0 hz1 hz2 rfl (by decide) _ 0 (cB ((bigL N 3).take 0)) rfl (HO.out.alloc _) _ 1 (cB [posB N 2]) rfl ?c1_0 (cB_one _) (by unfold maxLen; omega) (by omega) (by have := HB.out.size; simp; omega) ?_)
      case c1_0 => rw [← hcb.out]; exact hlit.out
      intro v' w' hown' hgrow' _
      have HB' : Hid (Below w.heap.size w w') := own_grown_below (HB.out.alloc HB.out.size _) (HO.out.alloc _) hgrow' (by have := HB.out.size; simp; omega) (Nat.le_refl _)
      have HO' := Lib.hid hown'
      clear hgrow' hown'
      go_wp2_with fail
      go_roundw
      case rel => exact ⟨1, by omega, by go_num, by rw [bigL_step N 3 0 2 (by omega), cB_append]; exact HO'.out, HB'.out⟩
      case measure => simp [intOf]
    · have hlit := Lib.hid (Rd.lit wr (cB [posB N 1]) 5 1 rfl (by unfold maxLen; omega))
      have hcb := Lib.hid (cB_pos N 1 ((N : Int) / 256 % 256) (by omega))
      go_wp2_with (at_builtin; refine wpList_append_rd _ rfl (.tmp 26) (.tmp 32) 22 rfl w.heap.size 5 i0 (.int .u8 0) 1 1 Try.underlying22 hi hz0 hz1 hz2 rfl (by decide) _ 1 (cB ((bigL N 3).take 1)) rfl (HO.out.alloc _) _ 1 (cB [posB N 1]) rfl ?c1_1 (cB_one _) (by unfold maxLen; omega) (by omega) (by have := HB.out.size; simp; omega) ?_)
      case c1_1 => rw [← hcb.out]; exact hlit.out
      intro v' w' hown' hgrow' _
      have HB' : Hid (Below w.heap.size w w') := own_grown_below (HB.out.alloc HB.out.size _) (HO.out.alloc _) hgrow' (by have := HB.out.size; simp; omega) (Nat.le_refl _)
      have HO' := Lib.hid hown'
      clear hgrow' hown'
      go_wp2_with fail
      go_roundw
      case rel => exact ⟨2, by omega, by go_num, by rw [bigL_step N 3 1 1 (by omega), cB_append]; exact HO'.out, HB'.out⟩
      case measure => simp [intOf]
    · have hlit := Lib.hid (Rd.lit wr (cB [posB N 0]) 5 1 rfl (by unfold maxLen; omega))
      have hcb := Lib.hid (cB_pos N 0 ((N : Int) % 256) (by omega))
      go_wp2_with (at_builtin; refine wpList_append_rd _ rfl (.tmp 26) (.tmp 32) 22 rfl w.heap.size 5 i0 (.int .u8 0) 1 1 Try.underlying22 hi hz0 hz1 hz2 rfl (by decide) _ 2 (cB ((bigL N 3).take 2)) rfl (HO.out.alloc _) _ 1 (cB [posB N 0]) rfl ?c1_2 (cB_one _) (by unfold maxLen; omega) (by omega) (by have := HB.out.size; simp; omega) ?_)
      case c1_2 => rw [← hcb.out]; exact hlit.out
      intro v' w' hown' hgrow' _
      have HB' : Hid (Below w.heap.size w w') := own_grown_below (HB.out.alloc HB.out.size _) (HO.out.alloc _) hgrow' (by have := HB.out.size; simp; omega) (Nat.le_refl _)
      have HO' := Lib.hid hown'
      clear hgrow' hown'
      go_wp2_with fail
      go_roundw
      case rel => exact ⟨3, by omega, by go_num, by rw [bigL_step N 3 2 0 (by omega), cB_append]; exact HO'.out, HB'.out⟩
      case measure => simp [intOf]

set_option maxHeartbeats 400000 in
theorem s_l2Power4 (P : Int) (hP : P = 4294967296) (w : World) : Calls Try.prog 43 #[.int .i64 4] w fun e w' => e = .returned (.int .i64 P) ∧ w = w' := by
  have hsh : Op.shift .shl .i64 1 .i64 32 = pure (.int .i64 P) := by rw [hP]; kernel_rfl
  clear hP
  go_enter Try.func43, Try.ntmps43
  go_wp2_with fail
  go_ret
  exact ⟨rfl, rfl⟩

set_option maxHeartbeats 2000000 in
theorem s_Big4 (N : Nat) (hN : (N : Int) < 4294967296) (w : World) :
    Calls Try.prog 28 #[.int .i64 (N : Int), .int .i64 4] w (Made 5 1 4 (cB (bigL N 4)) w) := by
  obtain ⟨i0, hi, hz0, hz1, hz2⟩ := info_parts info_Byte
  obtain ⟨P, hP⟩ : ∃ P : Int, P = 4294967296 := ⟨_, rfl⟩
  have hp1 : 1 ≤ P := by omega
  have hp2 : P ≤ 9223372036854775807 := by omega
  have hd0 : decide (0 ≤ (N : Int)) = true := by simp
  have hd : decide ((N : Int) ≤ P - 1) = true := by rw [hP]; simp; omega
  have hub : (N : Int) ≤ 9223372036854775807 := by omega
  have HP := Lib.hid hP
  clear hN hP
  go_enter Try.func28, Try.ntmps28
  go_wp2_with fail
  refine (s_l1In_ _ _ _ _).mono ?_
  rintro e w' ⟨rfl, rfl⟩
  go_wp2_with fail
  refine (s_l2Power4 P HP.out _).mono ?_
  rintro e w' ⟨rfl, rfl⟩
  go_wp2_with fail
  refine (s_l1In_ _ _ _ _).mono ?_
  rintro e w' ⟨rfl, rfl⟩
  go_wp2_with fail
  have hown0 := World.ownsRow_lit (base := w.heap.size) (e := 5) (size := 1) w #[] 0 (Nat.le_refl _) (Nat.zero_le _) rfl
  go_loopw [5, 6] (fun o i wr => ∃ k : Nat, k ≤ 4 ∧ i = .int .i64 (4 - 1 - (k : Int)) ∧ wr.ownsRow w.heap.size 5 1 o k (cB ((bigL N 4).take k)) ∧ Below w.heap.size w wr)
    (fun _ i _ => (intOf i + 1).toNat)
  case atStart => exact ⟨0, by omega, rfl, hown0, (Below.refl _ _).alloc (Nat.le_refl _) _⟩
  case round =>
    obtain ⟨k, hk, rfl, hownr, hbr⟩ := hrel
    have HO := Lib.hid hownr
    have HB := Lib.hid hbr
    clear hown0 hownr hbr
    rcases (by omega : k = 4 ∨ k = 0 ∨ k = 1 ∨ k = 2 ∨ k = 3) with rfl | rfl | rfl | rfl | rfl
    · go_wp2_with fail
      go_ret
      refine ⟨_, rfl, ?_, HB.out⟩
      have h := HO.out
      rwa [List.take_of_length_le (by rw [bigL_len]; exact Nat.le_refl _)] at h
    · have hlit := Lib.hid (Rd.lit wr (cB [posB N 3]) 5 1 rfl (by unfold maxLen; omega))
      have hcb := Lib.hid (cB_pos N 3 ((N : Int) / 16777216 % 256) (by omega))
      go_wp2_with (at_builtin; refine wpList_append_rd _ rfl (.tmp 26) (.tmp 32) 22 rfl w.heap.size 5 i0 (.int .u8 0) 1 1 Try.underlying22 hi hz0 hz1 hz2 rfl (by decide) _ 0 (cB ((bigL N 4).take 0)) rfl (HO.out.alloc _) _ 1 (cB [posB N 3]) rfl ?c1_0 (cB_one _) (by unfold maxLen; omega) (by omega) (by have := HB.out.size; simp; omega) ?_)
      case c1_0 => rw [← hcb.out]; exact hlit.out
      intro v' w' hown' hgrow' _
      have HB' : Hid (Below w.heap.size w w') := own_grown_below (HB.out.alloc HB.out.size _) (HO.out.alloc _) hgrow' (by have := HB.out.size; simp; omega) (Nat.le_refl _)
      have HO' := Lib.hid hown'
      clear hgrow' hown'
      go_wp2_with fail
      go_roundw
      case rel => exact ⟨1, by omega, by go_num, by rw [bigL_step N 4 0 3 (by omega), cB_append]; exact HO'.out, HB'.out⟩
      case measure => simp [intOf]
    · have hlit := Lib.hid (Rd.lit wr (cB [posB N 2]) 5 1 rfl (by unfold maxLen; omega))
      have hcb := Lib.hid (cB_pos N 2 ((N : Int) / 65536 % 256) (by omega))
      go_wp2_with (at_builtin; refine wpList_append_rd _ rfl (.tmp 26) (.tmp 32) 22 rfl w.heap.size 5 i0 (.int .u8 0) 1 1 Try.underlying22 hi hz0 hz1 hz2 rfl (by decide) _ 1 (cB ((bigL N 4).take 1)) rfl (HO.out.alloc _) _ 1 (cB [posB N 2]) rfl ?c1_1 (cB_one _) (by unfold maxLen; omega) (by omega) (by have := HB.out.size; simp; omega) ?_)
      case c1_1 => rw [← hcb.out]; exact hlit.out
      intro v' w' hown' hgrow' _
      have HB' : Hid (Below w.heap.size w w') := own_grown_below (HB.out.alloc HB.out.size _) (HO.out.alloc _) hgrow' (by have := HB.out.size; simp; omega) (Nat.le_refl _)
      have HO' := Lib.hid hown'
      clear hgrow' hown'
      go_wp2_with fail
      go_roundw
      case rel => exact ⟨2, by omega, by go_num, by rw [bigL_step N 4 1 2 (by omega), cB_append]; exact HO'.out, HB'.out⟩
      case measure => simp [intOf]
    · have hlit := Lib.hid (Rd.lit wr (cB [posB N 1]) 5 1 rfl (by unfold maxLen; omega))
      have hcb := Lib.hid (cB_pos N 1 ((N : Int) / 256 % 256) (by omega))
      go_wp2_with (at_builtin; refine wpList_append_rd _ rfl (.tmp 26) (.tmp 32) 22 rfl w.heap.size 5 i0 (.int .u8 0) 1 1 Try.underlying22 hi hz0 hz1 hz2 rfl (by decide) _ 2 (cB ((bigL N 4).take 2)) rfl (HO.out.alloc _) _ 1 (cB [posB N 1]) rfl ?c1_2 (cB_one _) (by unfold maxLen; omega) (by omega) (by have := HB.out.size; simp; omega) ?_)
      case c1_2 => rw [← hcb.out]; exact hlit.out
      intro v' w' hown' hgrow' _
      have HB' : Hid (Below w.heap.size w w') := own_grown_below (HB.out.alloc HB.out.size _) (HO.out.alloc _) hgrow' (by have := HB.out.size; simp; omega) (Nat.le_refl _)
      have HO' := Lib.hid hown'
      clear hgrow' hown'
      go_wp2_with fail
      go_roundw
      case rel => exact ⟨3, by omega, by go_num, by rw [bigL_step N 4 2 1 (by omega), cB_append]; exact HO'.out, HB'.out⟩
      case measure => simp [intOf]
    · have hlit := Lib.hid (Rd.lit wr (cB [posB N 0]) 5 1 rfl (by unfold maxLen; omega))
      have hcb := Lib.hid (cB_pos N 0 ((N : Int) % 256) (by omega))
      go_wp2_with (at_builtin; refine wpList_append_rd _ rfl (.tmp 26) (.tmp 32) 22 rfl w.heap.size 5 i0 (.int .u8 0) 1 1 Try.underlying22 hi hz0 hz1 hz2 rfl (by decide) _ 3 (cB ((bigL N 4).take 3)) rfl (HO.out.alloc _) _ 1 (cB [posB N 0]) rfl ?c1_3 (cB_one _) (by unfold maxLen; omega) (by omega) (by have := HB.out.size; simp; omega) ?_)
      case c1_3 => rw [← hcb.out]; exact hlit.out
      intro v' w' hown' hgrow' _
      have HB' : Hid (Below w.heap.size w w') := own_grown_below (HB.out.alloc HB.out.size _) (HO.out.alloc _) hgrow' (by have := HB.out.size; simp; omega) (Nat.le_refl _)
      have HO' := Lib.hid hown'
      clear hgrow' hown'
      go_wp2_with fail
      go_roundw
      case rel => exact ⟨4, by omega, by go_num, by rw [bigL_step N 4 3 0 (by omega), cB_append]; exact HO'.out, HB'.out⟩
      case measure => simp [intOf]

set_option maxRecDepth 100000 in
set_option maxHeartbeats 1000000 in
theorem i_BigOut1 (n : Int) (hn : -9223372036854775808 ≤ n ∧ n ≤ 9223372036854775807) (h : n < 0 ∨ 256 ≤ n) (w : World) :
    Calls Try.prog 29 #[.int .i64 n, .int .i64 1] w (Made 5 1 (bigE n 1).length (cB (bigE n 1)) w) := by
  have hfin := Lib.hid (made_empty w n 1 (bigE_not (by right; right; rcases h with h | h; left; exact h; right; exact h)))
  obtain ⟨P, hP⟩ : ∃ P : Int, P = 256 := ⟨_, rfl⟩
  have hsh : Op.shift .shl .i64 1 .i64 8 = pure (.int .i64 P) := by rw [hP]; kernel_rfl
  by_cases h0 : n < 0
  · have hd0 : decide (n < 0) = true := by simpa using h0
    clear h hP
    go_enter Try.func29, Try.ntmps29
    go_wp2_with (go_at_call 44; go_in)
    go_ret
    exact hfin.out
  · have hd0 : decide (n < 0) = false := by simpa using h0
    have hd : decide (P ≤ n) = true := by rw [hP]; simp; omega
    clear h hP
    go_enter Try.func29, Try.ntmps29
    go_wp2_with (go_at_call 44; go_in)
    go_ret
    exact hfin.out

set_option maxHeartbeats 1000000 in
theorem s_BigOut1 (n : Int) (hn : -9223372036854775808 ≤ n ∧ n ≤ 9223372036854775807) (h : n < 0 ∨ 256 ≤ n) (w : World) :
    Calls Try.prog 28 #[.int .i64 n, .int .i64 1] w (Made 5 1 (bigE n 1).length (cB (bigE n 1)) w) := by
  have hfin := Lib.hid (made_empty w n 1 (bigE_not (by right; right; rcases h with h | h; left; exact h; right; exact h)))
  obtain ⟨P, hP⟩ : ∃ P : Int, P = 256 := ⟨_, rfl⟩
  have hp1 : 1 ≤ P := by omega
  have hp2 : P ≤ 9223372036854775807 := by omega
  have HP := Lib.hid hP
  have hd : (decide (0 ≤ n) && decide (n ≤ P - 1)) = false := by
    rw [Bool.and_eq_false_iff]
    rcases h with h | h
    · left; simp; omega
    · right; rw [hP]; simp; omega
  clear h hP
  go_enter Try.func28, Try.ntmps28
  go_wp2_with fail
  refine (s_l1In_ _ _ _ _).mono ?_
  rintro e w' ⟨rfl, rfl⟩
  go_wp2_with fail
  refine (s_l2Power1 P HP.out _).mono ?_
  rintro e w' ⟨rfl, rfl⟩
  go_wp2_with fail
  refine (s_l1In_ _ _ _ _).mono ?_
  rw [hd]
  rintro e w' ⟨rfl, rfl⟩
  go_wp2_with fail
  go_ret
  exact hfin.out

set_option maxRecDepth 100000 in
set_option maxHeartbeats 1000000 in
theorem i_BigOut2 (n : Int) (hn : -9223372036854775808 ≤ n ∧ n ≤ 9223372036854775807) (h : n < 0 ∨ 65536 ≤ n) (w : World) :
    Calls Try.prog 29 #[.int .i64 n, .int .i64 2] w (Made 5 1 (bigE n 2).length (cB (bigE n 2)) w) := by
  have hfin := Lib.hid (made_empty w n 2 (bigE_not (by right; right; rcases h with h | h; left; exact h; right; exact h)))
  obtain ⟨P, hP⟩ : ∃ P : Int, P = 65536 := ⟨_, rfl⟩
  have hsh : Op.shift .shl .i64 1 .i64 16 = pure (.int .i64 P) := by rw [hP]; kernel_rfl
  by_cases h0 : n < 0
  · have hd0 : decide (n < 0) = true := by simpa using h0
    clear h hP
    go_enter Try.func29, Try.ntmps29
    go_wp2_with (go_at_call 44; go_in)
    go_ret
    exact hfin.out
  · have hd0 : decide (n < 0) = false := by simpa using h0
    have hd : decide (P ≤ n) = true := by rw [hP]; simp; omega
    clear h hP
    go_enter Try.func29, Try.ntmps29
    go_wp2_with (go_at_call 44; go_in)
    go_ret
    exact hfin.out

set_option maxHeartbeats 1000000 in
theorem s_BigOut2 (n : Int) (hn : -9223372036854775808 ≤ n ∧ n ≤ 9223372036854775807) (h : n < 0 ∨ 65536 ≤ n) (w : World) :
    Calls Try.prog 28 #[.int .i64 n, .int .i64 2] w (Made 5 1 (bigE n 2).length (cB (bigE n 2)) w) := by
  have hfin := Lib.hid (made_empty w n 2 (bigE_not (by right; right; rcases h with h | h; left; exact h; right; exact h)))
  obtain ⟨P, hP⟩ : ∃ P : Int, P = 65536 := ⟨_, rfl⟩
  have hp1 : 1 ≤ P := by omega
  have hp2 : P ≤ 9223372036854775807 := by omega
  have HP := Lib.hid hP
  have hd : (decide (0 ≤ n) && decide (n ≤ P - 1)) = false := by
    rw [Bool.and_eq_false_iff]
    rcases h with h | h
    · left; simp; omega
    · right; rw [hP]; simp; omega
  clear h hP
  go_enter Try.func28, Try.ntmps28
  go_wp2_with fail
  refine (s_l1In_ _ _ _ _).mono ?_
  rintro e w' ⟨rfl, rfl⟩
  go_wp2_with fail
  refine (s_l2Power2 P HP.out _).mono ?_
  rintro e w' ⟨rfl, rfl⟩
  go_wp2_with fail
  refine (s_l1In_ _ _ _ _).mono ?_
  rw [hd]
  rintro e w' ⟨rfl, rfl⟩
  go_wp2_with fail
  go_ret
  exact hfin.out

set_option maxRecDepth 100000 in
set_option maxHeartbeats 1000000 in
theorem i_BigOut3 (n : Int) (hn : -9223372036854775808 ≤ n ∧ n ≤ 9223372036854775807) (h : n < 0 ∨ 16777216 ≤ n) (w : World) :
    Calls Try.prog 29 #[.int .i64 n, .int .i64 3] w (Made 5 1 (bigE n 3).length (cB (bigE n 3)) w) := by
  have hfin := Lib.hid (made_empty w n 3 (bigE_not (by right; right; rcases h with h | h; left; exact h; right; exact h)))
  obtain ⟨P, hP⟩ : ∃ P : Int, P = 16777216 := ⟨_, rfl⟩
  have hsh : Op.shift .shl .i64 1 .i64 24 = pure (.int .i64 P) := by rw [hP]; kernel_rfl
  by_cases h0 : n < 0
  · have hd0 : decide (n < 0) = true := by simpa using h0
    clear h hP
    go_enter Try.func29, Try.ntmps29
    go_wp2_with (go_at_call 44; go_in)
    go_ret
    exact hfin.out
  · have hd0 : decide (n < 0) = false := by simpa using h0
    have hd : decide (P ≤ n) = true := by rw [hP]; simp; omega
    clear h hP
    go_enter Try.func29, Try.ntmps29
    go_wp2_with (go_at_call 44; go_in)
    go_ret
    exact hfin.out

set_option maxHeartbeats 1000000 in
theorem s_BigOut3 (n : Int) (hn : -9223372036854775808 ≤ n ∧ n ≤ 9223372036854775807) (h : n < 0 ∨ 16777216 ≤ n) (w : World) :
    Calls Try.prog 28 #[.int .i64 n, .int .i64 3] w (Made 5 1 (bigE n 3).length (cB (bigE n 3)) w) := by
  have hfin := Lib.hid (made_empty w n 3 (bigE_not (by right; right; rcases h with h | h; left; exact h; right; exact h)))
  obtain ⟨P, hP⟩ : ∃ P : Int, P = 16777216 := ⟨_, rfl⟩
  have hp1 : 1 ≤ P := by omega
  have hp2 : P ≤ 9223372036854775807 := by omega
  have HP := Lib.hid hP
  have hd : (decide (0 ≤ n) && decide (n ≤ P - 1)) = false := by
    rw [Bool.and_eq_false_iff]
    rcases h with h | h
    · left; simp; omega
    · right; rw [hP]; simp; omega
  clear h hP
  go_enter Try.func28, Try.ntmps28
  go_wp2_with fail
  refine (s_l1In_ _ _ _ _).mono ?_
  rintro e w' ⟨rfl, rfl⟩
  go_wp2_with fail
  refine (s_l2Power3 P HP.out _).mono ?_
  rintro e w' ⟨rfl, rfl⟩
  go_wp2_with fail
  refine (s_l1In_ _ _ _ _).mono ?_
  rw [hd]
  rintro e w' ⟨rfl, rfl⟩
  go_wp2_with fail
  go_ret
  exact hfin.out

set_option maxRecDepth 100000 in
set_option maxHeartbeats 1000000 in
theorem i_BigOut4 (n : Int) (hn : -9223372036854775808 ≤ n ∧ n ≤ 9223372036854775807) (h : n < 0 ∨ 4294967296 ≤ n) (w : World) :
    Calls Try.prog 29 #[.int .i64 n, .int .i64 4] w (Made 5 1 (bigE n 4).length (cB (bigE n 4)) w) := by
  have hfin := Lib.hid (made_empty w n 4 (bigE_not (by right; right; rcases h with h | h; left; exact h; right; exact h)))
  obtain ⟨P, hP⟩ : ∃ P : Int, P = 4294967296 := ⟨_, rfl⟩
  have hsh : Op.shift .shl .i64 1 .i64 32 = pure (.int .i64 P) := by rw [hP]; kernel_rfl
  by_cases h0 : n < 0
  · have hd0 : decide (n < 0) = true := by simpa using h0
    clear h hP
    go_enter Try.func29, Try.ntmps29
    go_wp2_with (go_at_call 44; go_in)
    go_ret
    exact hfin.out
  · have hd0 : decide (n < 0) = false := by simpa using h0
    have hd : decide (P ≤ n) = true := by rw [hP]; simp; omega
    clear h hP
    go_enter Try.func29, Try.ntmps29
    go_wp2_with (go_at_call 44; go_in)
    go_ret
    exact hfin.out

set_option maxHeartbeats 1000000 in
theorem s_BigOut4 (n : Int) (hn : -9223372036854775808 ≤ n ∧ n ≤ 9223372036854775807) (h : n < 0 ∨ 4294967296 ≤ n) (w : World) :
    Calls Try.prog 28 #[.int .i64 n, .int .i64 4] w (Made 5 1 (bigE n 4).length (cB (bigE n 4)) w) := by
  have hfin := Lib.hid (made_empty w n 4 (bigE_not (by right; right; rcases h with h | h; left; exact h; right; exact h)))
  obtain ⟨P, hP⟩ : ∃ P : Int, P = 4294967296 := ⟨_, rfl⟩
  have hp1 : 1 ≤ P := by omega
  have hp2 : P ≤ 9223372036854775807 := by omega
  have HP := Lib.hid hP
  have hd : (decide (0 ≤ n) && decide (n ≤ P - 1)) = false := by
    rw [Bool.and_eq_false_iff]
    rcases h with h | h
    · left; simp; omega
    · right; rw [hP]; simp; omega
  clear h hP
  go_enter Try.func28, Try.ntmps28
  go_wp2_with fail
  refine (s_l1In_ _ _ _ _).mono ?_
  rintro e w' ⟨rfl, rfl⟩
  go_wp2_with fail
  refine (s_l2Power4 P HP.out _).mono ?_
  rintro e w' ⟨rfl, rfl⟩
  go_wp2_with fail
  refine (s_l1In_ _ _ _ _).mono ?_
  rw [hd]
  rintro e w' ⟨rfl, rfl⟩
  go_wp2_with fail
  go_ret
  exact hfin.out

set_option maxHeartbeats 1000000 in
theorem i_BigEndian (n size : Int) (hn : -9223372036854775808 ≤ n ∧ n ≤ 9223372036854775807) (w : World) :
    Calls Try.prog 29 #[.int .i64 n, .int .i64 size] w (Made 5 1 (bigE n size).length (cB (bigE n size)) w) := by
  by_cases h1 : 1 ≤ size
  · by_cases h4 : size ≤ 4
    · rcases (by omega : size = 1 ∨ size = 2 ∨ size = 3 ∨ size = 4) with rfl | rfl | rfl | rfl
      · by_cases hok : 0 ≤ n ∧ n < 256
        · obtain ⟨N, rfl⟩ : ∃ N : Nat, n = N := ⟨n.toNat, by omega⟩
          have e : bigE (N : Int) 1 = bigL N 1 := bigE_of (by omega) (by omega) hok.1 hok.2
          rw [e, bigL_len]
          exact i_Big1 N hok.2 w
        · exact i_BigOut1 n hn (by omega) w
      · by_cases hok : 0 ≤ n ∧ n < 65536
        · obtain ⟨N, rfl⟩ : ∃ N : Nat, n = N := ⟨n.toNat, by omega⟩
          have e : bigE (N : Int) 2 = bigL N 2 := bigE_of (by omega) (by omega) hok.1 hok.2
          rw [e, bigL_len]
          exact i_Big2 N hok.2 w
        · exact i_BigOut2 n hn (by omega) w
      · by_cases hok : 0 ≤ n ∧ n < 16777216
        · obtain ⟨N, rfl⟩ : ∃ N : Nat, n = N := ⟨n.toNat, by omega⟩
          have e : bigE (N : Int) 3 = bigL N 3 := bigE_of (by omega) (by omega) hok.1 hok.2
          rw [e, bigL_len]
          exact i_Big3 N hok.2 w
        · exact i_BigOut3 n hn (by omega) w
      · by_cases hok : 0 ≤ n ∧ n < 4294967296
        · obtain ⟨N, rfl⟩ : ∃ N : Nat, n = N := ⟨n.toNat, by omega⟩
          have e : bigE (N : Int) 4 = bigL N 4 := bigE_of (by omega) (by omega) hok.1 hok.2
          rw [e, bigL_len]
          exact i_Big4 N hok.2 w
        · exact i_BigOut4 n hn (by omega) w
    · have hfin := Lib.hid (made_empty w n size (bigE_not (by omega)))
      have hd : decide (size ≤ 4) = false := by simp; omega
      go_enter Try.func29, Try.ntmps29
      go_wp2_with (go_at_call 44; go_in)
      go_ret
      exact hfin.out
  · have hfin := Lib.hid (made_empty w n size (bigE_not (by omega)))
    have hd : decide (1 ≤ size) = false := by simp; omega
    go_enter Try.func29, Try.ntmps29
    go_wp2_with (go_at_call 44; go_in)
    go_ret
    exact hfin.out

set_option maxHeartbeats 1000000 in
theorem s_BigEndian (n size : Int) (hn : -9223372036854775808 ≤ n ∧ n ≤ 9223372036854775807) (w : World) :
    Calls Try.prog 28 #[.int .i64 n, .int .i64 size] w (Made 5 1 (bigE n size).length (cB (bigE n size)) w) := by
  by_cases h1 : 1 ≤ size
  · by_cases h4 : size ≤ 4
    · rcases (by omega : size = 1 ∨ size = 2 ∨ size = 3 ∨ size = 4) with rfl | rfl | rfl | rfl
      · by_cases hok : 0 ≤ n ∧ n < 256
        · obtain ⟨N, rfl⟩ : ∃ N : Nat, n = N := ⟨n.toNat, by omega⟩
          have e : bigE (N : Int) 1 = bigL N 1 := bigE_of (by omega) (by omega) hok.1 hok.2
          rw [e, bigL_len]
          exact s_Big1 N hok.2 w
        · exact s_BigOut1 n hn (by omega) w
      · by_cases hok : 0 ≤ n ∧ n < 65536
        · obtain ⟨N, rfl⟩ : ∃ N : Nat, n = N := ⟨n.toNat, by omega⟩
          have e : bigE (N : Int) 2 = bigL N 2 := bigE_of (by omega) (by omega) hok.1 hok.2
          rw [e, bigL_len]
          exact s_Big2 N hok.2 w
        · exact s_BigOut2 n hn (by omega) w
      · by_cases hok : 0 ≤ n ∧ n < 16777216
        · obtain ⟨N, rfl⟩ : ∃ N : Nat, n = N := ⟨n.toNat, by omega⟩
          have e : bigE (N : Int) 3 = bigL N 3 := bigE_of (by omega) (by omega) hok.1 hok.2
          rw [e, bigL_len]
          exact s_Big3 N hok.2 w
        · exact s_BigOut3 n hn (by omega) w
      · by_cases hok : 0 ≤ n ∧ n < 4294967296
        · obtain ⟨N, rfl⟩ : ∃ N : Nat, n = N := ⟨n.toNat, by omega⟩
          have e : bigE (N : Int) 4 = bigL N 4 := bigE_of (by omega) (by omega) hok.1 hok.2
          rw [e, bigL_len]
          exact s_Big4 N hok.2 w
        · exact s_BigOut4 n hn (by omega) w
    · have hfin := Lib.hid (made_empty w n size (bigE_not (by omega)))
      have hd : (decide (1 ≤ size) && decide (size ≤ 4)) = false := by rw [Bool.and_eq_false_iff]; right; simp; omega
      go_enter Try.func28, Try.ntmps28
      go_wp2_with fail
      refine (s_l1In_ _ _ _ _).mono ?_
      rw [hd]
      rintro e w' ⟨rfl, rfl⟩
      go_wp2_with fail
      go_ret
      exact hfin.out
  · have hfin := Lib.hid (made_empty w n size (bigE_not (by omega)))
    have hd : (decide (1 ≤ size) && decide (size ≤ 4)) = false := by rw [Bool.and_eq_false_iff]; left; simp; omega
    go_enter Try.func28, Try.ntmps28
    go_wp2_with fail
    refine (s_l1In_ _ _ _ _).mono ?_
    rw [hd]
    rintro e w' ⟨rfl, rfl⟩
    go_wp2_with fail
    go_ret
    exact hfin.out

end Go.Proofs.Ytmikekldelnbjaa
