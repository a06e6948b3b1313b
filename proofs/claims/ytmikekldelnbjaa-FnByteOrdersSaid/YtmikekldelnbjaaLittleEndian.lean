/-
  LittleEndian, by both texts.
-/
import Derived.Test.YtmikekldelnbjaaBigEndian
import Derived.Deep.QuietTactic
import Derived.BigQuiet
import Derived.RegionTactic
import Derived.BigRegion
import Derived.ChangeAlike
namespace Go.Proofs.Ytmikekldelnbjaa
open Go.RowKit

theorem rev_step {l : List UInt8} {k : Nat} (h : k < l.length) : l.reverse.take (k + 1) = l.reverse.take k ++ [l[l.length - 1 - k]] := by
  have : l.reverse[k]? = some (l[l.length - 1 - k]) := by
    rw [List.getElem?_reverse h]
    exact List.getElem?_eq_getElem (by omega)
  rw [List.take_add_one, this]; rfl

set_option maxHeartbeats 2000000 in
theorem s_LittleEndian (n size : Int) (hn : -9223372036854775808 ≤ n ∧ n ≤ 9223372036854775807) (w : World) :
    Calls Try.prog 30 #[.int .i64 n, .int .i64 size] w (Made 5 1 (bigE n size).reverse.length (cB (bigE n size).reverse) w) := by
  obtain ⟨i0, hi, hz0, hz1, hz2⟩ := info_parts info_Byte
  have hle := bigE_len n size
  obtain ⟨l, hl⟩ : ∃ l, l = bigE n size := ⟨_, rfl⟩
  have hc := s_BigEndian n size hn w
  rw [← hl] at hc hle ⊢
  have HC := Lib.hid hc
  clear hc hl
  go_enter Try.func30, Try.ntmps30
  go_wp2_with fail
  refine HC.out.mono ?_
  rintro e w1 ⟨v, rfl, hv, hb1⟩
  have hrd := Rd.of_own hv
  obtain ⟨_, A, c, rfl, hnc, hcm, hcell⟩ := hrd
  unfold maxLen at hcm
  have HCC := Lib.hid hcell
  have HB1 := Lib.hid hb1
  have HV := Lib.hid hv
  clear hcell hv hb1
  go_wp2_with fail
  have hown0 := World.ownsRow_lit (base := w.heap.size) (e := 5) (size := 1) w1 #[] 0 HB1.out.size (Nat.zero_le _) rfl
  go_loopw [6, 7] (fun o i wr => ∃ k : Nat, k ≤ l.length ∧ i = .int .i64 ((l.length : Int) - 1 - (k : Int)) ∧ wr.ownsRow w1.heap.size 5 1 o k (cB (l.reverse.take k)) ∧ Below w1.heap.size w1 wr)
    (fun _ i _ => (intOf i + 1).toNat)
  case atStart => exact ⟨0, Nat.zero_le _, by go_num, World.ownsRow_lit (base := w1.heap.size) (e := 5) (size := 1) w1 #[] 0 (Nat.le_refl _) (Nat.zero_le _) rfl, (Below.refl _ _).alloc (Nat.le_refl _) _⟩
  case round =>
    obtain ⟨k, hk, rfl, hownr, hbr⟩ := hrel
    have HO := Lib.hid hownr
    have HB := Lib.hid hbr
    clear hown0 hownr hbr
    by_cases hlt : k < l.length
    · obtain ⟨b, off, rfl, hcl⟩ := HCC.out (by rw [cB_len]; omega)
      have h0 := hcl (l.length - 1 - k) _ (cB_at (by omega))
      have hck : _root_.Go.World.cell? _ ⟨b, off + (l.length - 1 - k), none⟩ = some (.int .u8 (l[l.length - 1 - k].toNat : Int)) := (HB.out.cell (World.block_lt_of_cell? w1 _ h0)).trans h0
      have hub : l[l.length - 1 - k].toNat < 256 := UInt8.toNat_lt _
      clear h0 hcl
      have hlit := Lib.hid (Rd.lit wr (cB [l[l.length - 1 - k]]) 5 1 rfl (by unfold maxLen; omega))
      have HR := Lib.hid (rev_step hlt)
      go_wp2_with (at_builtin; refine wpList_append_rd _ rfl (.tmp 19) (.tmp 24) 22 rfl w1.heap.size 5 i0 (.int .u8 0) 1 1 Try.underlying22 hi hz0 hz1 hz2 rfl (by decide) _ k (cB (l.reverse.take k)) rfl (HO.out.alloc _) _ 1 (cB [l[l.length - 1 - k]]) rfl ?c1 (cB_one _) (by unfold maxLen; omega) (by omega) (by have := HB.out.size; simp; omega) ?_)
      case c1 => exact hlit.out
      intro v' w' hown' hgrow' _
      have HB' : Hid (Below w1.heap.size w1 w') := own_grown_below (HB.out.alloc HB.out.size _) (HO.out.alloc _) hgrow' (by have := HB.out.size; simp; omega) (Nat.le_refl _)
      have HO' := Lib.hid hown'
      clear hgrow' hown'
      go_wp2_with fail
      go_roundw
      case rel => exact ⟨k + 1, by omega, by go_num, by rw [HR.out, cB_append]; exact HO'.out, HB'.out⟩
      case measure => simp [intOf]; omega
    · obtain rfl : k = l.length := by omega
      go_wp2_with fail
      go_ret
      refine ⟨_, rfl, ?_, Below.then_ HB1.out HB.out (Nat.le_refl _)⟩
      have h := HO.out
      rw [List.take_of_length_le (by rw [List.length_reverse]; exact Nat.le_refl _)] at h
      rw [List.length_reverse]
      exact own_mono h HB1.out.size

set_option maxHeartbeats 2000000 in
theorem i_LittleEndian (n size : Int) (hn : -9223372036854775808 ≤ n ∧ n ≤ 9223372036854775807) (w : World) :
    Calls Try.prog 31 #[.int .i64 n, .int .i64 size] w (Made 5 1 (bigE n size).reverse.length (cB (bigE n size).reverse) w) := by
  have hle := bigE_len n size
  obtain ⟨l, hl⟩ : ∃ l, l = bigE n size := ⟨_, rfl⟩
  have hc := i_BigEndian n size hn w
  rw [← hl] at hc hle ⊢
  have HC := Lib.hid hc
  clear hc hl
  match l, hle with
  | [], _ =>
    go_enter Try.func31, Try.ntmps31
    go_wp2_with fail
    refine HC.out.mono ?_
    rintro e w1 ⟨v, rfl, hv, hb1⟩
    have HB1 := Lib.hid hb1
    clear hb1
    obtain ⟨A, c, rfl⟩ : ∃ A c, v = .slice A 0 c := by
      obtain ⟨_, A, c, rfl, _⟩ := Rd.of_own hv
      exact ⟨A, c, rfl⟩
    have HV := Lib.hid hv
    clear hv
    go_wp2_with fail
    refine wp_loop_rounds 1 ?_
    rw [rounds_succ]
    go_wp2_with fail
    go_ret
    exact ⟨_, rfl, HV.out, HB1.out⟩
  | [a], _ =>
    go_enter Try.func31, Try.ntmps31
    go_wp2_with fail
    refine HC.out.mono ?_
    rintro e w1 ⟨v, rfl, hv, hb1⟩
    have HB1 := Lib.hid hb1
    clear hb1
    obtain ⟨g, cp, rfl, hbg, _⟩ := hv.form (by simp)
    have f : ∀ j, w1.frozen? ⟨g, j, none⟩ = false := hv.frozenAt
    have h0 : w1.cell? ⟨g, 0, none⟩ = some (.int .u8 (a.toNat : Int)) := hv.cellAt 0 (by simp)
    have f0 := f 0
    have HV := Lib.hid hv
    clear hv f
    go_wp2_with fail
    refine wp_loop_rounds 1 ?_
    rw [rounds_succ]
    go_wp2_with fail
    go_ret
    refine ⟨_, rfl, ?_, ?_⟩
    · have h := HV.out
      exact h
    · exact (HB1.out)
  | [a, b], _ =>
    go_enter Try.func31, Try.ntmps31
    go_wp2_with fail
    refine HC.out.mono ?_
    rintro e w1 ⟨v, rfl, hv, hb1⟩
    have HB1 := Lib.hid hb1
    clear hb1
    obtain ⟨g, cp, rfl, hbg, _⟩ := hv.form (by simp)
    have f : ∀ j, w1.frozen? ⟨g, j, none⟩ = false := hv.frozenAt
    have h0 : w1.cell? ⟨g, 0, none⟩ = some (.int .u8 (a.toNat : Int)) := hv.cellAt 0 (by simp)
    have f0 := f 0
    have h1 : w1.cell? ⟨g, 1, none⟩ = some (.int .u8 (b.toNat : Int)) := hv.cellAt 1 (by simp)
    have f1 := f 1
    have HV := Lib.hid hv
    clear hv f
    go_wp2_with fail
    refine wp_loop_rounds 2 ?_
    rw [rounds_succ]
    go_wp2_with fail
    go_region
    all_goals go_wp2_with fail
    all_goals rw [rounds_succ]
    all_goals go_wp2_with fail
    go_ret
    refine ⟨_, rfl, ?_, ?_⟩
    · have h := ((HV.out.stored 0 (.int .u8 (b.toNat : Int))).1.stored 1 (.int .u8 (a.toNat : Int))).1
      exact h
    · exact (((HB1.out).setCell (p := ⟨g, 0, none⟩) hbg _).setCell (p := ⟨g, 1, none⟩) hbg _).drew
  | [a, b, c], _ =>
    go_enter Try.func31, Try.ntmps31
    go_wp2_with fail
    refine HC.out.mono ?_
    rintro e w1 ⟨v, rfl, hv, hb1⟩
    have HB1 := Lib.hid hb1
    clear hb1
    obtain ⟨g, cp, rfl, hbg, _⟩ := hv.form (by simp)
    have f : ∀ j, w1.frozen? ⟨g, j, none⟩ = false := hv.frozenAt
    have h0 : w1.cell? ⟨g, 0, none⟩ = some (.int .u8 (a.toNat : Int)) := hv.cellAt 0 (by simp)
    have f0 := f 0
    have h1 : w1.cell? ⟨g, 1, none⟩ = some (.int .u8 (b.toNat : Int)) := hv.cellAt 1 (by simp)
    have f1 := f 1
    have h2 : w1.cell? ⟨g, 2, none⟩ = some (.int .u8 (c.toNat : Int)) := hv.cellAt 2 (by simp)
    have f2 := f 2
    have HV := Lib.hid hv
    clear hv f
    go_wp2_with fail
    refine wp_loop_rounds 2 ?_
    rw [rounds_succ]
    go_wp2_with fail
    go_region
    all_goals go_wp2_with fail
    all_goals rw [rounds_succ]
    all_goals go_wp2_with fail
    go_ret
    refine ⟨_, rfl, ?_, ?_⟩
    · have h := ((HV.out.stored 0 (.int .u8 (c.toNat : Int))).1.stored 2 (.int .u8 (a.toNat : Int))).1
      exact h
    · exact (((HB1.out).setCell (p := ⟨g, 0, none⟩) hbg _).setCell (p := ⟨g, 2, none⟩) hbg _).drew
  | [a, b, c, d], _ =>
    go_enter Try.func31, Try.ntmps31
    go_wp2_with fail
    refine HC.out.mono ?_
    rintro e w1 ⟨v, rfl, hv, hb1⟩
    have HB1 := Lib.hid hb1
    clear hb1
    obtain ⟨g, cp, rfl, hbg, _⟩ := hv.form (by simp)
    have f : ∀ j, w1.frozen? ⟨g, j, none⟩ = false := hv.frozenAt
    have h0 : w1.cell? ⟨g, 0, none⟩ = some (.int .u8 (a.toNat : Int)) := hv.cellAt 0 (by simp)
    have f0 := f 0
    have h1 : w1.cell? ⟨g, 1, none⟩ = some (.int .u8 (b.toNat : Int)) := hv.cellAt 1 (by simp)
    have f1 := f 1
    have h2 : w1.cell? ⟨g, 2, none⟩ = some (.int .u8 (c.toNat : Int)) := hv.cellAt 2 (by simp)
    have f2 := f 2
    have h3 : w1.cell? ⟨g, 3, none⟩ = some (.int .u8 (d.toNat : Int)) := hv.cellAt 3 (by simp)
    have f3 := f 3
    have HV := Lib.hid hv
    clear hv f
    go_wp2_with fail
    refine wp_loop_rounds 3 ?_
    rw [rounds_succ]
    go_wp2_with fail
    go_region
    all_goals go_wp2_with fail
    all_goals rw [rounds_succ]
    all_goals go_wp2_with fail
    go_region
    all_goals go_wp2_with fail
    all_goals rw [rounds_succ]
    all_goals go_wp2_with fail
    go_ret
    refine ⟨_, rfl, ?_, ?_⟩
    · have h := ((((HV.out.stored 0 (.int .u8 (d.toNat : Int))).1.stored 3 (.int .u8 (a.toNat : Int))).1.stored 1 (.int .u8 (c.toNat : Int))).1.stored 2 (.int .u8 (b.toNat : Int))).1
      exact h
    · exact (((((HB1.out).setCell (p := ⟨g, 0, none⟩) hbg _).setCell (p := ⟨g, 3, none⟩) hbg _).setCell (p := ⟨g, 1, none⟩) hbg _).setCell (p := ⟨g, 2, none⟩) hbg _).drew.drew

end Go.Proofs.Ytmikekldelnbjaa
