/-
  l4Texts: two slices are compared, element by element.
-/
import Derived.Test.YtkjjgpkegihmhaaGreatDoorProg
import Derived.Test.YtkjjgpkegihmhaaGreatDoorGA
import Derived.WalkKit
import Derived.WalkSpells
import Derived.WalkLawsBesides
import Derived.Lib.Hide
import Derived.Deep.QuietTactic
import Derived.BigQuiet
namespace Go.Proofs.YtkjjgpkegihmhaaGreatDoor
open Go.RowKit

set_option maxHeartbeats 1000000 in
theorem i_eqStrings (va vb : Value) (xs ys : List ByteArray) (w : World) (ha : Rd w va 1 xs.length (cS xs)) (hb : Rd w vb 1 ys.length (cS ys)) :
    Calls Tryz.prog 101 #[va, vb] w fun e w' => e = .returned (.bool (decide (xs = ys))) ∧ Below w.heap.size w w' := by
  by_cases hlen : xs.length = ys.length
  · obtain ⟨n, hn⟩ : ∃ n, n = ys.length := ⟨_, rfl⟩
    rw [hlen, ← hn] at ha
    rw [← hn] at hb
    rw [← hn] at hlen
    obtain ⟨_, A, c, rfl, hnc, hcm, hcell⟩ := ha
    obtain ⟨_, A', c', rfl, hnc', hcm', hcell'⟩ := hb
    unfold maxLen at hcm hcm'
    have HA := Lib.hid hlen; clear hlen
    have HB := Lib.hid hn; clear hn
    have HC := Lib.hid hcell; clear hcell
    have HC' := Lib.hid hcell'; clear hcell'
    go_enter Tryz.func101, Tryz.ntmps101
    go_wp2_with fail
    go_loopw [13] (fun i wr => ∃ k : Nat, k ≤ n ∧ i = .int .i64 k ∧ xs.take k = ys.take k ∧ Below w.heap.size w wr) (fun i _ => n - (intOf i).toNat)
    case atStart => exact ⟨0, Nat.zero_le _, rfl, by simp, Below.refl _ _⟩
    case round =>
      obtain ⟨k, hk, rfl, htk, hbr⟩ := hrel
      have HT := Lib.hid htk; clear htk
      by_cases hlt : k < n
      · obtain ⟨b, off, rfl, hc⟩ := HC.out (by rw [cS_len, HA.out]; omega)
        obtain ⟨b', off', rfl, hc'⟩ := HC'.out (by rw [cS_len, ← HB.out]; omega)
        have hka : k < xs.length := by rw [HA.out]; exact hlt
        have hkb : k < ys.length := by rw [← HB.out]; exact hlt
        have hx0 := hc k _ (cS_at hka)
        have hy0 := hc' k _ (cS_at hkb)
        have hx1 := (hbr.cell (World.block_lt_of_cell? w _ hx0)).trans hx0
        have hy1 := (hbr.cell (World.block_lt_of_cell? w _ hy0)).trans hy0
        obtain ⟨x, hx⟩ : ∃ x, x = xs[k] := ⟨_, rfl⟩
        obtain ⟨y, hy⟩ : ∃ y, y = ys[k] := ⟨_, rfl⟩
        rw [← hx] at hx1
        rw [← hy] at hy1
        have HX := Lib.hid (show xs[k]? = some x by rw [List.getElem?_eq_getElem hka, hx])
        have HY := Lib.hid (show ys[k]? = some y by rw [List.getElem?_eq_getElem hkb, hy])
        have HBR := Lib.hid hbr
        have hlti : (k : Int) < (n : Int) := by omega
        have hk0 : (0 : Int) ≤ (k : Int) := by omega
        clear hx hy hx0 hy0 hc hc' hbr hka hkb
        by_cases hxy : x = y
        · have hq : (x.toList == y.toList) = true := by rw [hxy]; simp
          have HXY := Lib.hid hxy
          clear hxy
          go_wp2_with fail
          go_quiet (fail)
          go_wp2_with fail
          go_roundw
          case rel =>
            refine ⟨k + 1, by omega, by go_num, ?_, below_drewN HBR.out _⟩
            rw [List.take_add_one, List.take_add_one, HT.out, HX.out, HY.out, HXY.out]
          case measure => simp [intOf]; omega
        · have hq : (x.toList == y.toList) = false := str_ne hxy
          have HXY := Lib.hid hxy
          clear hxy
          go_wp2_with fail
          go_quiet (fail)
          go_wp2_with fail
          go_ret
          refine ⟨ret_bool ?_, below_drewN HBR.out _⟩
          symm
          rw [decide_eq_false_iff_not]
          intro e
          have h1 := HX.out
          rw [e, HY.out] at h1
          exact HXY.out (Option.some.inj h1).symm
      · obtain rfl : k = n := by omega
        have HBR := Lib.hid hbr
        clear hbr
        go_wp2_with fail
        go_ret
        refine ⟨ret_bool ?_, HBR.out⟩
        symm
        rw [decide_eq_true_iff]
        have := HT.out
        rwa [List.take_of_length_le (by rw [HA.out]; exact Nat.le_refl _), List.take_of_length_le (by rw [← HB.out]; exact Nat.le_refl _)] at this
  · obtain ⟨_, A, c, rfl, hnc, hcm, hcell⟩ := ha
    obtain ⟨_, A', c', rfl, hnc', hcm', hcell'⟩ := hb
    have hq : ((xs.length : Int) == (ys.length : Int)) = false := by rw [beq_eq_false_iff_ne]; omega
    have hq2 : ((xs.length : Int) != (ys.length : Int)) = true := by rw [bne_iff_ne]; omega
    have HL := Lib.hid hlen
    clear hlen hcell hcell'
    go_enter Tryz.func101, Tryz.ntmps101
    go_wp2_with fail
    go_ret
    refine ⟨ret_bool ?_, Below.refl _ _⟩
    symm
    rw [decide_eq_false_iff_not]
    intro e
    exact HL.out (by rw [e])


set_option maxHeartbeats 1000000 in
theorem i_eqInts (va vb : Value) (xs ys : List Int) (w : World) (ha : Rd w va 1 xs.length (cI xs)) (hb : Rd w vb 1 ys.length (cI ys)) :
    Calls Tryz.prog 102 #[va, vb] w fun e w' => e = .returned (.bool (decide (xs = ys))) ∧ Below w.heap.size w w' := by
  by_cases hlen : xs.length = ys.length
  · obtain ⟨n, hn⟩ : ∃ n, n = ys.length := ⟨_, rfl⟩
    rw [hlen, ← hn] at ha
    rw [← hn] at hb
    rw [← hn] at hlen
    obtain ⟨_, A, c, rfl, hnc, hcm, hcell⟩ := ha
    obtain ⟨_, A', c', rfl, hnc', hcm', hcell'⟩ := hb
    unfold maxLen at hcm hcm'
    have HA := Lib.hid hlen; clear hlen
    have HB := Lib.hid hn; clear hn
    have HC := Lib.hid hcell; clear hcell
    have HC' := Lib.hid hcell'; clear hcell'
    go_enter Tryz.func102, Tryz.ntmps102
    go_wp2_with fail
    go_loopw [13] (fun i wr => ∃ k : Nat, k ≤ n ∧ i = .int .i64 k ∧ xs.take k = ys.take k ∧ Below w.heap.size w wr) (fun i _ => n - (intOf i).toNat)
    case atStart => exact ⟨0, Nat.zero_le _, rfl, by simp, Below.refl _ _⟩
    case round =>
      obtain ⟨k, hk, rfl, htk, hbr⟩ := hrel
      have HT := Lib.hid htk; clear htk
      by_cases hlt : k < n
      · obtain ⟨b, off, rfl, hc⟩ := HC.out (by rw [cI_len, HA.out]; omega)
        obtain ⟨b', off', rfl, hc'⟩ := HC'.out (by rw [cI_len, ← HB.out]; omega)
        have hka : k < xs.length := by rw [HA.out]; exact hlt
        have hkb : k < ys.length := by rw [← HB.out]; exact hlt
        have hx0 := hc k _ (cI_at hka)
        have hy0 := hc' k _ (cI_at hkb)
        have hx1 := (hbr.cell (World.block_lt_of_cell? w _ hx0)).trans hx0
        have hy1 := (hbr.cell (World.block_lt_of_cell? w _ hy0)).trans hy0
        obtain ⟨x, hx⟩ : ∃ x, x = xs[k] := ⟨_, rfl⟩
        obtain ⟨y, hy⟩ : ∃ y, y = ys[k] := ⟨_, rfl⟩
        rw [← hx] at hx1
        rw [← hy] at hy1
        have HX := Lib.hid (show xs[k]? = some x by rw [List.getElem?_eq_getElem hka, hx])
        have HY := Lib.hid (show ys[k]? = some y by rw [List.getElem?_eq_getElem hkb, hy])
        have HBR := Lib.hid hbr
        have hlti : (k : Int) < (n : Int) := by omega
        have hk0 : (0 : Int) ≤ (k : Int) := by omega
        clear hx hy hx0 hy0 hc hc' hbr hka hkb
        by_cases hxy : x = y
        · have hq : (x == y) = true := by rw [hxy]; simp
          have hq2 : (x != y) = false := by rw [hxy]; simp
          have HXY := Lib.hid hxy
          clear hxy
          go_wp2_with fail
          go_quiet (fail)
          go_wp2_with fail
          go_roundw
          case rel =>
            refine ⟨k + 1, by omega, by go_num, ?_, below_drewN HBR.out _⟩
            rw [List.take_add_one, List.take_add_one, HT.out, HX.out, HY.out, HXY.out]
          case measure => simp [intOf]; omega
        · have hq : (x == y) = false := by simpa using hxy
          have hq2 : (x != y) = true := by simpa using hxy
          have HXY := Lib.hid hxy
          clear hxy
          go_wp2_with fail
          go_quiet (fail)
          go_wp2_with fail
          go_ret
          refine ⟨ret_bool ?_, below_drewN HBR.out _⟩
          symm
          rw [decide_eq_false_iff_not]
          intro e
          have h1 := HX.out
          rw [e, HY.out] at h1
          exact HXY.out (Option.some.inj h1).symm
      · obtain rfl : k = n := by omega
        have HBR := Lib.hid hbr
        clear hbr
        go_wp2_with fail
        go_ret
        refine ⟨ret_bool ?_, HBR.out⟩
        symm
        rw [decide_eq_true_iff]
        have := HT.out
        rwa [List.take_of_length_le (by rw [HA.out]; exact Nat.le_refl _), List.take_of_length_le (by rw [← HB.out]; exact Nat.le_refl _)] at this
  · obtain ⟨_, A, c, rfl, hnc, hcm, hcell⟩ := ha
    obtain ⟨_, A', c', rfl, hnc', hcm', hcell'⟩ := hb
    have hq : ((xs.length : Int) == (ys.length : Int)) = false := by rw [beq_eq_false_iff_ne]; omega
    have hq2 : ((xs.length : Int) != (ys.length : Int)) = true := by rw [bne_iff_ne]; omega
    have HL := Lib.hid hlen
    clear hlen hcell hcell'
    go_enter Tryz.func102, Tryz.ntmps102
    go_wp2_with fail
    go_ret
    refine ⟨ret_bool ?_, Below.refl _ _⟩
    symm
    rw [decide_eq_false_iff_not]
    intro e
    exact HL.out (by rw [e])

end Go.Proofs.YtkjjgpkegihmhaaGreatDoor
