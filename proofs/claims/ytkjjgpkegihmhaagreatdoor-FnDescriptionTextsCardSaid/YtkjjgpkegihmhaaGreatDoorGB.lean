/-
  Several texts in one: EqByte, EqString, EqInt, EqRule, EqDesc, ToRule, ToDesc, SzString, SzRule, OpenDesc, DescRead, DescLaw, Limit, KidName.
-/
import Derived.Test.YtkjjgpkegihmhaaGreatDoorProg
import Derived.Test.YtkjjgpkegihmhaaGreatDoorGA
import Derived.WalkKit
import Derived.WalkSpells
import Derived.WalkLawsBesides
import Derived.Lib.Hide
import Derived.Deep.QuietTactic
import Derived.BigQuiet
import Derived.Deep.RegionHeld3
import Derived.Deep.Slices
import Derived.BigGuard
namespace Go.Proofs.YtkjjgpkegihmhaaGreatDoor
open Go.RowKit

set_option maxHeartbeats 1000000 in
theorem l_eqByteS (va vb : Value) (xs ys : List UInt8) (w : World) (ha : Rd w va 1 xs.length (cB xs)) (hb : Rd w vb 1 ys.length (cB ys)) :
    Calls Tryz.prog 43 #[va, vb] w fun e w' => e = .returned (.bool (decide (xs = ys))) ∧ Below w.heap.size w w' := by
  by_cases hlen : xs.length = ys.length
  · obtain ⟨n, hn⟩ : ∃ n, n = ys.length := ⟨_, rfl⟩
    rw [hlen, ← hn] at ha
    rw [← hn] at hb
    rw [← hn] at hlen
    obtain ⟨_, A, c, rfl, hnc, hcm, hcell⟩ := ha
    obtain ⟨_, A', c', rfl, hnc', hcm', hcell'⟩ := hb
    unfold maxLen at hcm hcm'
    have HA := Lib.hid hlen; clear hlen
    have HB := Lib.hid hn; clear hn
    have HC := Lib.hid hcell; clear hcell
    have HC' := Lib.hid hcell'; clear hcell'
    go_enter Tryz.func43, Tryz.ntmps43
    go_wp2_with fail
    go_loopw [5] (fun i wr => ∃ k : Nat, k ≤ n ∧ i = .int .i64 k ∧ xs.take k = ys.take k ∧ Below w.heap.size w wr) (fun i _ => n - (intOf i).toNat)
    case atStart => exact ⟨0, Nat.zero_le _, rfl, by simp, Below.refl _ _⟩
    case round =>
      obtain ⟨k, hk, rfl, htk, hbr⟩ := hrel
      have HT := Lib.hid htk; clear htk
      by_cases hlt : k < n
      · obtain ⟨b, off, rfl, hc⟩ := HC.out (by rw [cB_len, HA.out]; omega)
        obtain ⟨b', off', rfl, hc'⟩ := HC'.out (by rw [cB_len, ← HB.out]; omega)
        have hka : k < xs.length := by rw [HA.out]; exact hlt
        have hkb : k < ys.length := by rw [← HB.out]; exact hlt
        have hx0 := hc k _ (cB_at hka)
        have hy0 := hc' k _ (cB_at hkb)
        have hx1 := (hbr.cell (World.block_lt_of_cell? w _ hx0)).trans hx0
        have hy1 := (hbr.cell (World.block_lt_of_cell? w _ hy0)).trans hy0
        obtain ⟨x, hx⟩ : ∃ x, x = xs[k] := ⟨_, rfl⟩
        obtain ⟨y, hy⟩ : ∃ y, y = ys[k] := ⟨_, rfl⟩
        rw [← hx] at hx1
        rw [← hy] at hy1
        have HX := Lib.hid (show xs[k]? = some x by rw [List.getElem?_eq_getElem hka, hx])
        have HY := Lib.hid (show ys[k]? = some y by rw [List.getElem?_eq_getElem hkb, hy])
        have HBR := Lib.hid hbr
        have hlti : (k : Int) < (n : Int) := by omega
        have hk0 : (0 : Int) ≤ (k : Int) := by omega
        clear hx hy hx0 hy0 hc hc' hbr hka hkb
        by_cases hxy : x = y
        · have hq : (((x.toNat : Nat) : Int) == ((y.toNat : Nat) : Int)) = true := by rw [hxy]; simp
          have hq2 : (((x.toNat : Nat) : Int) != ((y.toNat : Nat) : Int)) = false := by rw [hxy]; simp
          have HXY := Lib.hid hxy
          clear hxy
          go_wp2_with fail
          go_quiet (fail)
          go_wp2_with fail
          go_roundw
          case rel =>
            refine ⟨k + 1, by omega, by go_num, ?_, below_drewN HBR.out _⟩
            rw [List.take_add_one, List.take_add_one, HT.out, HX.out, HY.out, HXY.out]
          case measure => simp [intOf]; omega
        · have hne : ((x.toNat : Nat) : Int) ≠ ((y.toNat : Nat) : Int) := fun e => hxy (UInt8.toNat_inj.1 (by omega))
          have hq : (((x.toNat : Nat) : Int) == ((y.toNat : Nat) : Int)) = false := by simpa using hne
          have hq2 : (((x.toNat : Nat) : Int) != ((y.toNat : Nat) : Int)) = true := by simpa using hne
          clear hne
          have HXY := Lib.hid hxy
          clear hxy
          go_wp2_with fail
          go_quiet (fail)
          go_wp2_with fail
          go_ret
          refine ⟨ret_bool ?_, below_drewN HBR.out _⟩
          symm
          rw [decide_eq_false_iff_not]
          intro e
          have h1 := HX.out
          rw [e, HY.out] at h1
          exact HXY.out (Option.some.inj h1).symm
      · obtain rfl : k = n := by omega
        have HBR := Lib.hid hbr
        clear hbr
        go_wp2_with fail
        go_ret
        refine ⟨ret_bool ?_, HBR.out⟩
        symm
        rw [decide_eq_true_iff]
        have := HT.out
        rwa [List.take_of_length_le (by rw [HA.out]; exact Nat.le_refl _), List.take_of_length_le (by rw [← HB.out]; exact Nat.le_refl _)] at this
  · obtain ⟨_, A, c, rfl, hnc, hcm, hcell⟩ := ha
    obtain ⟨_, A', c', rfl, hnc', hcm', hcell'⟩ := hb
    have hq : ((xs.length : Int) == (ys.length : Int)) = false := by rw [beq_eq_false_iff_ne]; omega
    have hq2 : ((xs.length : Int) != (ys.length : Int)) = true := by rw [bne_iff_ne]; omega
    have HL := Lib.hid hlen
    clear hlen hcell hcell'
    go_enter Tryz.func43, Tryz.ntmps43
    go_wp2_with fail
    go_ret
    refine ⟨ret_bool ?_, Below.refl _ _⟩
    symm
    rw [decide_eq_false_iff_not]
    intro e
    exact HL.out (by rw [e])

end Go.Proofs.YtkjjgpkegihmhaaGreatDoor

namespace Go.Proofs.YtkjjgpkegihmhaaGreatDoor
open Go.RowKit

set_option maxHeartbeats 1000000 in
theorem l_eqStringS (va vb : Value) (xs ys : List ByteArray) (w : World) (ha : Rd w va 1 xs.length (cS xs)) (hb : Rd w vb 1 ys.length (cS ys)) :
    Calls Tryz.prog 44 #[va, vb] w fun e w' => e = .returned (.bool (decide (xs = ys))) ∧ Below w.heap.size w w' := by
  by_cases hlen : xs.length = ys.length
  · obtain ⟨n, hn⟩ : ∃ n, n = ys.length := ⟨_, rfl⟩
    rw [hlen, ← hn] at ha
    rw [← hn] at hb
    rw [← hn] at hlen
    obtain ⟨_, A, c, rfl, hnc, hcm, hcell⟩ := ha
    obtain ⟨_, A', c', rfl, hnc', hcm', hcell'⟩ := hb
    unfold maxLen at hcm hcm'
    have HA := Lib.hid hlen; clear hlen
    have HB := Lib.hid hn; clear hn
    have HC := Lib.hid hcell; clear hcell
    have HC' := Lib.hid hcell'; clear hcell'
    go_enter Tryz.func44, Tryz.ntmps44
    go_wp2_with fail
    go_loopw [5] (fun i wr => ∃ k : Nat, k ≤ n ∧ i = .int .i64 k ∧ xs.take k = ys.take k ∧ Below w.heap.size w wr) (fun i _ => n - (intOf i).toNat)
    case atStart => exact ⟨0, Nat.zero_le _, rfl, by simp, Below.refl _ _⟩
    case round =>
      obtain ⟨k, hk, rfl, htk, hbr⟩ := hrel
      have HT := Lib.hid htk; clear htk
      by_cases hlt : k < n
      · obtain ⟨b, off, rfl, hc⟩ := HC.out (by rw [cS_len, HA.out]; omega)
        obtain ⟨b', off', rfl, hc'⟩ := HC'.out (by rw [cS_len, ← HB.out]; omega)
        have hka : k < xs.length := by rw [HA.out]; exact hlt
        have hkb : k < ys.length := by rw [← HB.out]; exact hlt
        have hx0 := hc k _ (cS_at hka)
        have hy0 := hc' k _ (cS_at hkb)
        have hx1 := (hbr.cell (World.block_lt_of_cell? w _ hx0)).trans hx0
        have hy1 := (hbr.cell (World.block_lt_of_cell? w _ hy0)).trans hy0
        obtain ⟨x, hx⟩ : ∃ x, x = xs[k] := ⟨_, rfl⟩
        obtain ⟨y, hy⟩ : ∃ y, y = ys[k] := ⟨_, rfl⟩
        rw [← hx] at hx1
        rw [← hy] at hy1
        have HX := Lib.hid (show xs[k]? = some x by rw [List.getElem?_eq_getElem hka, hx])
        have HY := Lib.hid (show ys[k]? = some y by rw [List.getElem?_eq_getElem hkb, hy])
        have HBR := Lib.hid hbr
        have hlti : (k : Int) < (n : Int) := by omega
        have hk0 : (0 : Int) ≤ (k : Int) := by omega
        clear hx hy hx0 hy0 hc hc' hbr hka hkb
        by_cases hxy : x = y
        · have hq : (x.toList == y.toList) = true := by rw [hxy]; simp
          have HXY := Lib.hid hxy
          clear hxy
          go_wp2_with fail
          go_quiet (fail)
          go_wp2_with fail
          go_roundw
          case rel =>
            refine ⟨k + 1, by omega, by go_num, ?_, below_drewN HBR.out _⟩
            rw [List.take_add_one, List.take_add_one, HT.out, HX.out, HY.out, HXY.out]
          case measure => simp [intOf]; omega
        · have hq : (x.toList == y.toList) = false := str_ne hxy
          have HXY := Lib.hid hxy
          clear hxy
          go_wp2_with fail
          go_quiet (fail)
          go_wp2_with fail
          go_ret
          refine ⟨ret_bool ?_, below_drewN HBR.out _⟩
          symm
          rw [decide_eq_false_iff_not]
          intro e
          have h1 := HX.out
          rw [e, HY.out] at h1
          exact HXY.out (Option.some.inj h1).symm
      · obtain rfl : k = n := by omega
        have HBR := Lib.hid hbr
        clear hbr
        go_wp2_with fail
        go_ret
        refine ⟨ret_bool ?_, HBR.out⟩
        symm
        rw [decide_eq_true_iff]
        have := HT.out
        rwa [List.take_of_length_le (by rw [HA.out]; exact Nat.le_refl _), List.take_of_length_le (by rw [← HB.out]; exact Nat.le_refl _)] at this
  · obtain ⟨_, A, c, rfl, hnc, hcm, hcell⟩ := ha
    obtain ⟨_, A', c', rfl, hnc', hcm', hcell'⟩ := hb
    have hq : ((xs.length : Int) == (ys.length : Int)) = false := by rw [beq_eq_false_iff_ne]; omega
    have hq2 : ((xs.length : Int) != (ys.length : Int)) = true := by rw [bne_iff_ne]; omega
    have HL := Lib.hid hlen
    clear hlen hcell hcell'
    go_enter Tryz.func44, Tryz.ntmps44
    go_wp2_with fail
    go_ret
    refine ⟨ret_bool ?_, Below.refl _ _⟩
    symm
    rw [decide_eq_false_iff_not]
    intro e
    exact HL.out (by rw [e])

end Go.Proofs.YtkjjgpkegihmhaaGreatDoor

namespace Go.Proofs.YtkjjgpkegihmhaaGreatDoor
open Go.RowKit

set_option maxHeartbeats 1000000 in
theorem l_eqIntS (va vb : Value) (xs ys : List Int) (w : World) (ha : Rd w va 1 xs.length (cI xs)) (hb : Rd w vb 1 ys.length (cI ys)) :
    Calls Tryz.prog 45 #[va, vb] w fun e w' => e = .returned (.bool (decide (xs = ys))) ∧ Below w.heap.size w w' := by
  by_cases hlen : xs.length = ys.length
  · obtain ⟨n, hn⟩ : ∃ n, n = ys.length := ⟨_, rfl⟩
    rw [hlen, ← hn] at ha
    rw [← hn] at hb
    rw [← hn] at hlen
    obtain ⟨_, A, c, rfl, hnc, hcm, hcell⟩ := ha
    obtain ⟨_, A', c', rfl, hnc', hcm', hcell'⟩ := hb
    unfold maxLen at hcm hcm'
    have HA := Lib.hid hlen; clear hlen
    have HB := Lib.hid hn; clear hn
    have HC := Lib.hid hcell; clear hcell
    have HC' := Lib.hid hcell'; clear hcell'
    go_enter Tryz.func45, Tryz.ntmps45
    go_wp2_with fail
    go_loopw [5] (fun i wr => ∃ k : Nat, k ≤ n ∧ i = .int .i64 k ∧ xs.take k = ys.take k ∧ Below w.heap.size w wr) (fun i _ => n - (intOf i).toNat)
    case atStart => exact ⟨0, Nat.zero_le _, rfl, by simp, Below.refl _ _⟩
    case round =>
      obtain ⟨k, hk, rfl, htk, hbr⟩ := hrel
      have HT := Lib.hid htk; clear htk
      by_cases hlt : k < n
      · obtain ⟨b, off, rfl, hc⟩ := HC.out (by rw [cI_len, HA.out]; omega)
        obtain ⟨b', off', rfl, hc'⟩ := HC'.out (by rw [cI_len, ← HB.out]; omega)
        have hka : k < xs.length := by rw [HA.out]; exact hlt
        have hkb : k < ys.length := by rw [← HB.out]; exact hlt
        have hx0 := hc k _ (cI_at hka)
        have hy0 := hc' k _ (cI_at hkb)
        have hx1 := (hbr.cell (World.block_lt_of_cell? w _ hx0)).trans hx0
        have hy1 := (hbr.cell (World.block_lt_of_cell? w _ hy0)).trans hy0
        obtain ⟨x, hx⟩ : ∃ x, x = xs[k] := ⟨_, rfl⟩
        obtain ⟨y, hy⟩ : ∃ y, y = ys[k] := ⟨_, rfl⟩
        rw [← hx] at hx1
        rw [← hy] at hy1
        have HX := Lib.hid (show xs[k]? = some x by rw [List.getElem?_eq_getElem hka, hx])
        have HY := Lib.hid (show ys[k]? = some y by rw [List.getElem?_eq_getElem hkb, hy])
        have HBR := Lib.hid hbr
        have hlti : (k : Int) < (n : Int) := by omega
        have hk0 : (0 : Int) ≤ (k : Int) := by omega
        clear hx hy hx0 hy0 hc hc' hbr hka hkb
        by_cases hxy : x = y
        · have hq : (x == y) = true := by rw [hxy]; simp
          have hq2 : (x != y) = false := by rw [hxy]; simp
          have HXY := Lib.hid hxy
          clear hxy
          go_wp2_with fail
          go_quiet (fail)
          go_wp2_with fail
          go_roundw
          case rel =>
            refine ⟨k + 1, by omega, by go_num, ?_, below_drewN HBR.out _⟩
            rw [List.take_add_one, List.take_add_one, HT.out, HX.out, HY.out, HXY.out]
          case measure => simp [intOf]; omega
        · have hq : (x == y) = false := by simpa using hxy
          have hq2 : (x != y) = true := by simpa using hxy
          have HXY := Lib.hid hxy
          clear hxy
          go_wp2_with fail
          go_quiet (fail)
          go_wp2_with fail
          go_ret
          refine ⟨ret_bool ?_, below_drewN HBR.out _⟩
          symm
          rw [decide_eq_false_iff_not]
          intro e
          have h1 := HX.out
          rw [e, HY.out] at h1
          exact HXY.out (Option.some.inj h1).symm
      · obtain rfl : k = n := by omega
        have HBR := Lib.hid hbr
        clear hbr
        go_wp2_with fail
        go_ret
        refine ⟨ret_bool ?_, HBR.out⟩
        symm
        rw [decide_eq_true_iff]
        have := HT.out
        rwa [List.take_of_length_le (by rw [HA.out]; exact Nat.le_refl _), List.take_of_length_le (by rw [← HB.out]; exact Nat.le_refl _)] at this
  · obtain ⟨_, A, c, rfl, hnc, hcm, hcell⟩ := ha
    obtain ⟨_, A', c', rfl, hnc', hcm', hcell'⟩ := hb
    have hq : ((xs.length : Int) == (ys.length : Int)) = false := by rw [beq_eq_false_iff_ne]; omega
    have hq2 : ((xs.length : Int) != (ys.length : Int)) = true := by rw [bne_iff_ne]; omega
    have HL := Lib.hid hlen
    clear hlen hcell hcell'
    go_enter Tryz.func45, Tryz.ntmps45
    go_wp2_with fail
    go_ret
    refine ⟨ret_bool ?_, Below.refl _ _⟩
    symm
    rw [decide_eq_false_iff_not]
    intro e
    exact HL.out (by rw [e])

end Go.Proofs.YtkjjgpkegihmhaaGreatDoor

namespace Go.Proofs.YtkjjgpkegihmhaaGreatDoor
open Go.RowKit

theorem rdRule_parts {w : World} {r : RuleD} {vb vn vt vk : Value} (h : RdRule w (ruleCells r vb vn vt vk) r) :
    Rd w vb 1 r.bytes.length (cB r.bytes) ∧ Rd w vn 1 r.names.length (cS r.names) ∧ Rd w vt 1 r.tags.length (cI r.tags) ∧ Rd w vk 1 r.kids.length (cI r.kids) := by
  obtain ⟨vb', vn', vt', vk', e, hb, hn, ht, hk⟩ := h
  unfold ruleCells at e
  injection e with _ e; injection e with _ e; injection e with _ e; injection e with _ e; injection e with e1 e; injection e with e2 e; injection e with e3 e; injection e with e4 _
  subst e1; subst e2; subst e3; subst e4
  exact ⟨hb, hn, ht, hk⟩

theorem rule_ext {r q : RuleD} (h0 : r.name = q.name) (h1 : r.kind = q.kind) (h2 : r.size = q.size) (h3 : r.little = q.little) (h4 : r.bytes = q.bytes) (h5 : r.names = q.names) (h6 : r.tags = q.tags) (h7 : r.kids = q.kids) : r = q := by
  cases r; cases q; simp_all

set_option maxHeartbeats 4000000 in
theorem l_eqRule (r q : RuleD) (vb vn vt vk ub un ut uk : Value) (w : World) (hr : RdRule w (ruleCells r vb vn vt vk) r) (hq : RdRule w (ruleCells q ub un ut uk) q) :
    Calls Tryz.prog 12 #[.agg #[.string r.name, .int .i64 r.kind, .int .i64 r.size, .bool r.little, vb, vn, vt, vk], .agg #[.string q.name, .int .i64 q.kind, .int .i64 q.size, .bool q.little, ub, un, ut, uk]] w
      fun e w' => e = .returned (.bool (decide (r = q))) ∧ Below w.heap.size w w' := by
  have HA := ((Below.refl w.heap.size w).alloc (Nat.le_refl _) (.cells #[.string r.name, .int .i64 r.kind, .int .i64 r.size, .bool r.little, vb, vn, vt, vk] 30)).alloc (by simp) (.cells #[.string q.name, .int .i64 q.kind, .int .i64 q.size, .bool q.little, ub, un, ut, uk] 30)
  obtain ⟨hb, hn, ht, hk⟩ := rdRule_parts hr
  obtain ⟨gb, gn, gt, gk⟩ := rdRule_parts hq
  have HB := Lib.hid (hb.below HA)
  have HN := Lib.hid (hn.below HA)
  have HT := Lib.hid (ht.below HA)
  have HK := Lib.hid (hk.below HA)
  have GB := Lib.hid (gb.below HA)
  have GN := Lib.hid (gn.below HA)
  have GT := Lib.hid (gt.below HA)
  have GK := Lib.hid (gk.below HA)
  have HA' := Lib.hid HA
  have no : r ≠ q → Hid (false = decide (r = q)) := fun h => by show _ = _; symm; simpa using h
  have NO := Lib.hid no
  obtain ⟨D, hD⟩ : ∃ D, D = decide (r = q) := ⟨_, rfl⟩
  have HD := Lib.hid hD
  rw [← hD]
  clear HA hr hq hb hn ht hk gb gn gt gk no hD
  by_cases c0 : r.name = q.name
  · have x0 : (r.name.toList == q.name.toList) = true := by rw [c0]; simp
    have C0 := Lib.hid c0
    clear c0
    by_cases c1 : r.kind = q.kind
    · have x1 : (r.kind == q.kind) = true := by rw [c1]; simp
      have y1 : (r.kind != q.kind) = false := by rw [c1]; simp
      have C1 := Lib.hid c1
      clear c1
      by_cases c2 : r.size = q.size
      · have x2 : (r.size == q.size) = true := by rw [c2]; simp
        have y2 : (r.size != q.size) = false := by rw [c2]; simp
        have C2 := Lib.hid c2
        clear c2
        by_cases c3 : r.little = q.little
        · have x3 : (r.little == q.little) = true := by rw [c3]; simp
          have y3 : (r.little != q.little) = false := by rw [c3]; simp
          have C3 := Lib.hid c3
          clear c3
          go_enter Tryz.func12, Tryz.ntmps12
          go_wp2_with fail
          have BA0 : Box ((w.alloc (.cells #[.string r.name, .int .i64 r.kind, .int .i64 r.size, .bool r.little, vb, vn, vt, vk] 30)).alloc (.cells #[.string q.name, .int .i64 q.kind, .int .i64 q.size, .bool q.little, ub, un, ut, uk] 30)) w.heap.size 30 #[.string r.name, .int .i64 r.kind, .int .i64 r.size, .bool r.little, vb, vn, vt, vk] := (Box.new w _ _).alloc _
          have BB0 : Box ((w.alloc (.cells #[.string r.name, .int .i64 r.kind, .int .i64 r.size, .bool r.little, vb, vn, vt, vk] 30)).alloc (.cells #[.string q.name, .int .i64 q.kind, .int .i64 q.size, .bool q.little, ub, un, ut, uk] 30)) (w.heap.size + 1) 30 #[.string q.name, .int .i64 q.kind, .int .i64 q.size, .bool q.little, ub, un, ut, uk] := by simpa using Box.new (w.alloc (.cells #[.string r.name, .int .i64 r.kind, .int .i64 r.size, .bool r.little, vb, vn, vt, vk] 30)) 30 #[.string q.name, .int .i64 q.kind, .int .i64 q.size, .bool q.little, ub, un, ut, uk]
          have XA0 := Lib.hid BA0
          have XB0 := Lib.hid BB0
          clear BA0 BB0
          refine (l_eqByteS vb ub r.bytes q.bytes _ HB.out GB.out).mono ?_
          by_cases c4 : r.bytes = q.bytes
          · rw [decide_eq_true c4]
            have C4 := Lib.hid c4
            clear c4
            rintro e w1 ⟨rfl, hb1⟩
            have BA1 := XA0.out.below hb1
            have BB1 := XB0.out.below hb1
            have d1 : w1.cell? ⟨w.heap.size, 5, none⟩ = some vn := BA1.cell 5
            have d2 : w1.cell? ⟨w.heap.size + 1, 5, none⟩ = some un := BB1.cell 5
            have XA1 := Lib.hid BA1
            have XB1 := Lib.hid BB1
            have HB1 := Lib.hid hb1
            clear BA1 BB1 hb1
            go_wp2_with fail
            clear d1 d2
            refine (l_eqStringS vn un r.names q.names _ (HN.out.below HB1.out) (GN.out.below HB1.out)).mono ?_
            by_cases c5 : r.names = q.names
            · rw [decide_eq_true c5]
              have C5 := Lib.hid c5
              clear c5
              rintro e w2 ⟨rfl, hb2⟩
              have BA2 := XA1.out.below hb2
              have BB2 := XB1.out.below hb2
              have d1 : w2.cell? ⟨w.heap.size, 6, none⟩ = some vt := BA2.cell 6
              have d2 : w2.cell? ⟨w.heap.size + 1, 6, none⟩ = some ut := BB2.cell 6
              have XA2 := Lib.hid BA2
              have XB2 := Lib.hid BB2
              have HB2 := Lib.hid (Below.then_ HB1.out hb2 (Nat.le_refl _))
              clear BA2 BB2 hb2
              go_wp2_with fail
              clear d1 d2
              refine (l_eqIntS vt ut r.tags q.tags _ (HT.out.below HB2.out) (GT.out.below HB2.out)).mono ?_
              by_cases c6 : r.tags = q.tags
              · rw [decide_eq_true c6]
                have C6 := Lib.hid c6
                clear c6
                rintro e w3 ⟨rfl, hb3⟩
                have BA3 := XA2.out.below hb3
                have BB3 := XB2.out.below hb3
                have d1 : w3.cell? ⟨w.heap.size, 7, none⟩ = some vk := BA3.cell 7
                have d2 : w3.cell? ⟨w.heap.size + 1, 7, none⟩ = some uk := BB3.cell 7
                have XA3 := Lib.hid BA3
                have XB3 := Lib.hid BB3
                have HB3 := Lib.hid (Below.then_ HB2.out hb3 (Nat.le_refl _))
                clear BA3 BB3 hb3
                go_wp2_with fail
                clear d1 d2
                refine (l_eqIntS vk uk r.kids q.kids _ (HK.out.below HB3.out) (GK.out.below HB3.out)).mono ?_
                by_cases c7 : r.kids = q.kids
                · rw [decide_eq_true c7]
                  have C7 := Lib.hid c7
                  clear c7
                  rintro e w4 ⟨rfl, hb4⟩
                  have hy : Hid (true = D) := by show _ = _; rw [HD.out]; symm; simpa using rule_ext C0.out C1.out C2.out C3.out C4.out C5.out C6.out C7.out
                  have hbz := Below.then_ HA'.out (Below.then_ HB3.out hb4 (Nat.le_refl _)) (by simp)
                  go_wp2_with fail
                  go_ret
                  exact ⟨ret_bool hy.out, hbz⟩
                · rw [decide_eq_false c7]
                  have hy := NO.out (fun e => c7 (by rw [e]))
                  rintro e w4 ⟨rfl, hb4⟩
                  have hbz := Below.then_ HA'.out (Below.then_ HB3.out hb4 (Nat.le_refl _)) (by simp)
                  clear hb4
                  go_wp2_with fail
                  go_ret
                  exact ⟨ret_bool (by rw [HD.out]; exact hy.out), hbz⟩
              · rw [decide_eq_false c6]
                have hy := NO.out (fun e => c6 (by rw [e]))
                rintro e w3 ⟨rfl, hb3⟩
                have hbz := Below.then_ HA'.out (Below.then_ HB2.out hb3 (Nat.le_refl _)) (by simp)
                clear hb3
                go_wp2_with fail
                go_ret
                exact ⟨ret_bool (by rw [HD.out]; exact hy.out), hbz⟩
            · rw [decide_eq_false c5]
              have hy := NO.out (fun e => c5 (by rw [e]))
              rintro e w2 ⟨rfl, hb2⟩
              have hbz := Below.then_ HA'.out (Below.then_ HB1.out hb2 (Nat.le_refl _)) (by simp)
              clear hb2
              go_wp2_with fail
              go_ret
              exact ⟨ret_bool (by rw [HD.out]; exact hy.out), hbz⟩
          · rw [decide_eq_false c4]
            have hy := NO.out (fun e => c4 (by rw [e]))
            rintro e w1 ⟨rfl, hb1⟩
            have hbz := Below.then_ HA'.out hb1 (by simp)
            clear hb1
            go_wp2_with fail
            go_ret
            exact ⟨ret_bool (by rw [HD.out]; exact hy.out), hbz⟩
        · have x3 : (r.little == q.little) = false := by simpa using c3
          have y3 : (r.little != q.little) = true := by simpa using c3
          have hy := NO.out (fun e => c3 (by rw [e]))
          clear c3
          go_enter Tryz.func12, Tryz.ntmps12
          go_wp2_with fail
          go_ret
          exact ⟨ret_bool (by rw [HD.out]; exact hy.out), HA'.out⟩
      · have x2 : (r.size == q.size) = false := by simpa using c2
        have y2 : (r.size != q.size) = true := by simpa using c2
        have hy := NO.out (fun e => c2 (by rw [e]))
        clear c2
        go_enter Tryz.func12, Tryz.ntmps12
        go_wp2_with fail
        go_ret
        exact ⟨ret_bool (by rw [HD.out]; exact hy.out), HA'.out⟩
    · have x1 : (r.kind == q.kind) = false := by simpa using c1
      have y1 : (r.kind != q.kind) = true := by simpa using c1
      have hy := NO.out (fun e => c1 (by rw [e]))
      clear c1
      go_enter Tryz.func12, Tryz.ntmps12
      go_wp2_with fail
      go_ret
      exact ⟨ret_bool (by rw [HD.out]; exact hy.out), HA'.out⟩
  · have x0 : (r.name.toList == q.name.toList) = false := str_ne c0
    have hy := NO.out (fun e => c0 (by rw [e]))
    go_enter Tryz.func12, Tryz.ntmps12
    go_wp2_with fail
    go_ret
    exact ⟨ret_bool (by rw [HD.out]; exact hy.out), HA'.out⟩

end Go.Proofs.YtkjjgpkegihmhaaGreatDoor

namespace Go.Proofs.YtkjjgpkegihmhaaGreatDoor
open Go.RowKit

abbrev Cells8 (w : World) (b o : Nat) (r : RuleD) (vb vn vt vk : Value) : Prop :=
  w.cell? ⟨b, o, none⟩ = some (.string r.name) ∧ w.cell? ⟨b, o + 1, none⟩ = some (.int .i64 r.kind) ∧ w.cell? ⟨b, o + 2, none⟩ = some (.int .i64 r.size) ∧ w.cell? ⟨b, o + 3, none⟩ = some (.bool r.little) ∧
  w.cell? ⟨b, o + 4, none⟩ = some vb ∧ w.cell? ⟨b, o + 5, none⟩ = some vn ∧ w.cell? ⟨b, o + 6, none⟩ = some vt ∧ w.cell? ⟨b, o + 7, none⟩ = some vk
theorem RuleCells.eight {w : World} {b o : Nat} {r : RuleD} {vb vn vt vk : Value} (h : RuleCells w b o r vb vn vt vk) : Cells8 w b o r vb vn vt vk := ⟨h.c0, h.c1, h.c2, h.c3, h.c4, h.c5, h.c6, h.c7⟩
theorem RuleCells.rd {w : World} {b o : Nat} {r : RuleD} {vb vn vt vk : Value} (h : RuleCells w b o r vb vn vt vk) : RdRule w (ruleCells r vb vn vt vk) r := ⟨vb, vn, vt, vk, rfl, h.rb, h.rn, h.rt, h.rk⟩
theorem RuleCells.drew {w : World} {b o : Nat} {r : RuleD} {vb vn vt vk : Value} (h : RuleCells w b o r vb vn vt vk) : RuleCells w.drew b o r vb vn vt vk := h.keep fun _ _ => rfl

end Go.Proofs.YtkjjgpkegihmhaaGreatDoor
namespace Go.Proofs.YtkjjgpkegihmhaaGreatDoor
open Go.RowKit
def Three (w : World) (B : Nat) (t1 t2 t3 : TypeId) (b1 b2 b3 : Array Value) : Prop :=
  w.heap[B]? = some (.cells b1 t1 (0, 0)) ∧ w.heap[B + 1]? = some (.cells b2 t2 (0, 0)) ∧ w.heap[B + 1 + 1]? = some (.cells b3 t3 (0, 0))
section
variable {w w' : World} {B : Nat} {t1 t2 t3 : TypeId} {b1 b2 b3 : Array Value}
theorem Three.new (w : World) (t1 t2 t3 : TypeId) (b1 b2 b3 : Array Value) : Three (((w.alloc (.cells b1 t1)).alloc (.cells b2 t2)).alloc (.cells b3 t3)) w.heap.size t1 t2 t3 b1 b2 b3 := by
  refine ⟨?_, ?_, ?_⟩
  · rw [Below.heap_alloc _ _ _ (by simp; omega), Below.heap_alloc _ _ _ (by simp)]; exact heap_alloc_new w _
  · rw [Below.heap_alloc _ _ _ (by simp)]
    have := heap_alloc_new (w.alloc (.cells b1 t1)) (.cells b2 t2)
    simpa using this
  · have := heap_alloc_new ((w.alloc (.cells b1 t1)).alloc (.cells b2 t2)) (.cells b3 t3)
    simpa using this
end
def MadeRule (r : RuleD) (w : World) (e : Ending) (w' : World) : Prop :=
  ∃ vb vn vt vk, e = .returned (.agg #[.string r.name, .int .i64 r.kind, .int .i64 r.size, .bool r.little, vb, vn, vt, vk]) ∧ OwnRule w' w.heap.size (ruleCells r vb vn vt vk) r ∧ (blocks (ruleCells r vb vn vt vk)).Nodup ∧ Below w.heap.size w w'

theorem blocks_nodup {r : RuleD} {vb vn vt vk : Value} {a b c d e : Nat} (h1 : ∀ k, vb.ownBlock = some k → a ≤ k ∧ k < b) (h2 : ∀ k, vn.ownBlock = some k → b ≤ k ∧ k < c) (h3 : ∀ k, vt.ownBlock = some k → c ≤ k ∧ k < d) (h4 : ∀ k, vk.ownBlock = some k → d ≤ k ∧ k < e)
    (hc : b ≤ c) (hd : c ≤ d) : (blocks (ruleCells r vb vn vt vk)).Nodup := by
  rw [blocks_rule]
  unfold blocks
  cases e1 : vb.ownBlock <;> cases e2 : vn.ownBlock <;> cases e3 : vt.ownBlock <;> cases e4 : vk.ownBlock <;> simp [e1, e2, e3, e4] <;>
    (try have g1 := h1 _ e1) <;> (try have g2 := h2 _ e2) <;> (try have g3 := h3 _ e3) <;> (try have g4 := h4 _ e4) <;> omega

theorem own_set {w : World} {base : Nat} {e : TypeId} {size n g j : Nat} {v u : Value} {xs : List Value} (h : w.ownsRow base e size v n xs) (hg : g < base) : (w.setCell ⟨g, j, none⟩ u).ownsRow base e size v n xs :=
  h.kept (row := some g) ⟨rfl, rfl, rfl, by simp [World.setCell], fun i _ hne => heap_setCell_other w ⟨g, j, none⟩ i u (fun e => hne (by simp [e]))⟩ (by
    right; intro e
    have := (h.lt g e).1
    omega)

end Go.Proofs.YtkjjgpkegihmhaaGreatDoor
namespace Go.Proofs.YtkjjgpkegihmhaaGreatDoor
open Go.RowKit
theorem info_Rule : (Tryz.prog.info? 30).map (fun i => (i.zero, i.size, i.bytes)) = some (some (.agg #[.string ⟨#[]⟩, .int .i64 0, .int .i64 0, .bool false, .slice none 0 0, .slice none 0 0, .slice none 0 0, .slice none 0 0]), 8, 136) := by kernel_rfl

def RuleSmall (r : RuleD) : Prop := r.bytes.length ≤ 1048576 ∧ r.names.length ≤ 1048576 ∧ r.tags.length ≤ 1048576 ∧ r.kids.length ≤ 1048576

theorem rd_oneCell {w : World} {v : Value} {size n : Nat} {xs : List Value} (h : Rd w v size n xs) : v.oneCell' = true := by
  obtain ⟨_, A, c, rfl, _⟩ := h
  rfl
theorem rule_oneCell' {w : World} {cs : List Value} {r : RuleD} (h : RdRule w cs r) : ∀ v ∈ cs, v.oneCell' = true := by
  obtain ⟨vb, vn, vt, vk, rfl, h1, h2, h3, h4⟩ := h
  intro v hv
  simp only [ruleCells, List.mem_cons, List.not_mem_nil, or_false] at hv
  rcases hv with rfl | rfl | rfl | rfl | rfl | rfl | rfl | rfl
  · rfl
  · rfl
  · rfl
  · rfl
  · exact rd_oneCell h1
  · exact rd_oneCell h2
  · exact rd_oneCell h3
  · exact rd_oneCell h4
theorem rule_oneCell {w : World} {lo : Nat} {cs : List Value} {r : RuleD} (h : OwnRule w lo cs r) : ∀ v ∈ cs, v.oneCell' = true := rule_oneCell' h.rd

theorem OwnRules.setFar {w : World} {lo : Nat} {v : Value} {l : List RuleD} (h : OwnRules w lo v l) (g j : Nat) (u : Value) (hg : g < lo) : OwnRules (w.setCell ⟨g, j, none⟩ u) lo v l := by
  obtain ⟨css, hl, hown, hr, hn⟩ := h
  refine ⟨css, hl, own_set hown hg, fun i cs r hi hl => ?_, hn⟩
  obtain ⟨vb, vn, vt, vk, e, h1, h2, h3, h4⟩ := hr i cs r hi hl
  exact ⟨vb, vn, vt, vk, e, own_set h1 hg, own_set h2 hg, own_set h3 hg, own_set h4 hg⟩

def MadeDesc (l : List RuleD) (w : World) (e : Ending) (w' : World) : Prop := ∃ v, e = .returned (.agg #[v]) ∧ OwnRules w' w.heap.size v l ∧ Below w.heap.size w w'

end Go.Proofs.YtkjjgpkegihmhaaGreatDoor
namespace Go.Proofs.YtkjjgpkegihmhaaGreatDoor
open Go.RowKit
end Go.Proofs.YtkjjgpkegihmhaaGreatDoor
namespace Go.Proofs.YtkjjgpkegihmhaaGreatDoor
open Go.RowKit
end Go.Proofs.YtkjjgpkegihmhaaGreatDoor
namespace Go.Proofs.YtkjjgpkegihmhaaGreatDoor
open Go.RowKit Go.ChangeShapes Go.WideShapes Go.ChangeAt
set_option maxRecDepth 100000
section
variable {H : Type} {enc : TypeId × Value → H} {P : Program} {W : World} {t e : TypeId} {x : DataW H × List MemPlace} {cs : List Value} {fuel : Nat}
end
section
variable {H : Type} {enc : TypeId × Value → H} {W : World} {x : DataW H × List MemPlace} {cs : List Value} {fuel : Nat}
end
end Go.Proofs.YtkjjgpkegihmhaaGreatDoor
namespace Go.Proofs.YtkjjgpkegihmhaaGreatDoor
open Go.RowKit
theorem below_box {w : World} {v : Value} {t : TypeId} : Below w.heap.size w (w.alloc (.cells #[v] t)) := (Below.refl w.heap.size w).alloc (Nat.le_refl _) _

theorem str_eqs {s t : ByteArray} (h : s = t) : (s.toList == t.toList) = true := by rw [h]; simp

set_option maxHeartbeats 2000000 in
theorem s_FindRule (d : Value) (l : List RuleD) (s : ByteArray) (w : World) (hd : RdDesc w d l) :
    Calls Tryz.prog 130 #[d, .string s] w fun e w' => e = .returned (.int .i64 (findL l s)) ∧ Below w.heap.size w w' := by
  obtain ⟨v, rfl, hv⟩ := hd
  obtain ⟨A, c, rfl, hnc, hcm, hcell⟩ := hv.all
  unfold maxLen at hcm
  have HC := Lib.hid hcell
  clear hcell hv
  obtain ⟨F, hF⟩ : ∃ F, F = findL l s := ⟨_, rfl⟩
  have HF := Lib.hid hF
  rw [← hF]
  clear hF
  obtain ⟨n, hn⟩ : ∃ n, n = l.length := ⟨_, rfl⟩
  have HN := Lib.hid hn
  rw [← hn] at hnc ⊢
  clear hn
  go_enter Tryz.func130, Tryz.ntmps130
  go_wp2_with fail
  go_loopw [5] (fun i wr => ∃ k : Nat, k ≤ n ∧ i = .int .i64 k ∧ (∀ j (h : j < l.length), j < k → l[j].name ≠ s) ∧ wr = w.alloc (.cells #[.slice A n c] 35)) (fun i _ => n - (intOf i).toNat)
  case atStart => exact ⟨0, Nat.zero_le _, rfl, fun j _ h => absurd h (by omega), rfl⟩
  case round =>
    obtain ⟨k, hk, rfl, hno, rfl⟩ := hrel
    have HO := Lib.hid hno
    clear hno
    by_cases hlt : k < n
    · have hkl : k < l.length := by rw [← HN.out]; exact hlt
      obtain ⟨b, off, rfl, hc⟩ := HC.out (by omega)
      obtain ⟨vb, vn, vt, vk, hr⟩ := hc k hkl
      have D0 := (hr.below (below_box (v := .slice (some ⟨b, off, none⟩) n c) (t := 35))).c0
      obtain ⟨r, hr0⟩ : ∃ r, r = l[k] := ⟨_, rfl⟩
      rw [← hr0] at D0
      have HR := Lib.hid hr0
      clear hr hc hr0
      by_cases he : r.name = s
      · have hq := str_eqs he
        have hfin : Hid (F = k) := by show _ = _; rw [HF.out]; exact findL_at hkl HO.out (by rw [← HR.out]; exact he)
        clear he
        go_wp2_with fail
        go_ret
        exact ⟨ret_int hfin.out.symm, below_box⟩
      · have hq := str_ne he
        have hall : Hid (∀ j (h : j < l.length), j < k + 1 → l[j].name ≠ s) := by
          intro j hj hjk
          rcases Nat.lt_or_ge j k with h1 | h1
          · exact HO.out j hj h1
          · obtain rfl : j = k := by omega
            rw [← HR.out]; exact he
        clear he
        go_wp2_with fail
        go_roundw
        case rel => exact ⟨k + 1, by omega, by go_num, hall.out, by first | rfl | trivial⟩
        case measure => simp [intOf]; omega
    · obtain rfl : k = n := by omega
      have hfin : Hid (F = -1) := by show _ = _; rw [HF.out]; exact findL_none fun j hj => HO.out j hj (by have := HN.out; omega)
      go_wp2_with fail
      go_ret
      exact ⟨ret_int hfin.out.symm, below_box⟩

end Go.Proofs.YtkjjgpkegihmhaaGreatDoor

namespace Go.Proofs.YtkjjgpkegihmhaaGreatDoor
open Go.RowKit

end Go.Proofs.YtkjjgpkegihmhaaGreatDoor
namespace Go.Proofs.YtkjjgpkegihmhaaGreatDoor
open Go.RowKit
set_option linter.unusedVariables false
set_option maxHeartbeats 1000000 in
theorem i_hasRule (d : Value) (l : List RuleD) (i : Int) (w : World) (hd : RdDesc w d l) :
    Calls Tryz.prog 117 #[d, .int .i64 i] w fun e w' => e = .returned (.bool (hasL l i)) ∧ Below w.heap.size w w' := by
  obtain ⟨v, rfl, hv⟩ := hd
  obtain ⟨A, c, rfl, hnc, hcm, _⟩ := hv.all
  unfold maxLen at hcm
  obtain ⟨F, hF⟩ : ∃ F, F = hasL l i := ⟨_, rfl⟩
  have HF := Lib.hid hF
  rw [← hF]
  clear hF hv
  by_cases h0 : 0 ≤ i
  · by_cases h1 : i < (l.length : Int)
    · have hf := Lib.hid (hasL_yes h0 h1)
      go_enter Tryz.func117, Tryz.ntmps117
      go_wp2_with fail
      go_ret
      exact ⟨ret_bool (by rw [HF.out, hf.out]), below_box⟩
    · have hf := Lib.hid (hasL_no (l := l) (i := i) (by omega))
      go_enter Tryz.func117, Tryz.ntmps117
      go_wp2_with fail
      go_ret
      exact ⟨ret_bool (by rw [HF.out, hf.out]), below_box⟩
  · have hf := Lib.hid (hasL_no (l := l) (i := i) (by omega))
    go_enter Tryz.func117, Tryz.ntmps117
    go_wp2_with fail
    go_ret
    exact ⟨ret_bool (by rw [HF.out, hf.out]), below_box⟩

theorem in_hasL (l : List RuleD) (i : Int) : (decide (0 ≤ i) && decide (i ≤ (l.length : Int) - 1)) = hasL l i := by
  unfold hasL
  rw [Bool.eq_iff_iff]
  simp only [Bool.and_eq_true, decide_eq_true_eq]
  omega

theorem hasL_iff {l : List RuleD} {i : Int} : hasL l i = true ↔ 0 ≤ i ∧ i < l.length := by simp [hasL]
theorem limit_none {l : List RuleD} {i : Int} (h : hasL l i = false) : limitL l i = -1 := by unfold limitL; rw [h]; simp
theorem limit_kind {l : List RuleD} {i : Int} (h : (ruleAt l i).kind ≠ 1) : limitL l i = -1 := by unfold limitL; rw [if_neg (fun hh => h hh.2)]
theorem limit_size {l : List RuleD} {i : Int} (h : ¬ (1 ≤ (ruleAt l i).size ∧ (ruleAt l i).size ≤ 4)) : limitL l i = -1 := by
  unfold limitL limitOf
  repeat' split
  all_goals omega
theorem limit_is {l : List RuleD} {i : Int} (h : hasL l i = true) (hk : (ruleAt l i).kind = 1) : limitL l i = limitOf (ruleAt l i).size := by unfold limitL; rw [if_pos ⟨h, hk⟩]

theorem AllCells.at_ {w : World} {A : Option Addr} {l : List RuleD} (h : AllCells w A l) {i : Int} (hi : hasL l i = true) :
    ∃ b off vb vn vt vk, A = some ⟨b, off, none⟩ ∧ RuleCells w b (off + i.toNat * 8) (ruleAt l i) vb vn vt vk := by
  rw [hasL_iff] at hi
  obtain ⟨b, off, hA, hc⟩ := h (by omega)
  obtain ⟨vb, vn, vt, vk, hr⟩ := hc i.toNat (by omega)
  have e : ruleAt l i = l[i.toNat]'(by omega) := by
    have := ruleAt_eq (l := l) (k := i.toNat) (by omega)
    rwa [Int.toNat_of_nonneg hi.1] at this
  rw [← e] at hr
  exact ⟨b, off, vb, vn, vt, vk, hA, hr⟩

set_option maxHeartbeats 4000000 in
theorem i_IntegerLimit (d : Value) (l : List RuleD) (i : Int) (hi : -9223372036854775808 ≤ i ∧ i ≤ 9223372036854775807) (w : World) (hd : RdDesc w d l) :
    Calls Tryz.prog 140 #[d, .int .i64 i] w fun e w' => e = .returned (.int .i64 (limitL l i)) ∧ Below w.heap.size w w' := by
  obtain ⟨v, rfl, hv⟩ := hd
  obtain ⟨A, c, rfl, hnc, hcm, hcell⟩ := hv.all
  unfold maxLen at hcm
  obtain ⟨F, hF⟩ : ∃ F, F = limitL l i := ⟨_, rfl⟩
  have HF := Lib.hid hF
  rw [← hF]
  clear hF
  have HC := Lib.hid hcell
  have HV := Lib.hid hv
  have B0 := Box.new w 35 #[.slice A l.length c]
  have X0 := Lib.hid B0
  clear hcell hv B0
  obtain ⟨H, hH⟩ : ∃ H, H = hasL l i := ⟨_, rfl⟩
  have HR := Lib.hid (fun w h => i_hasRule (.agg #[.slice A l.length c]) l i w h)
  have HH := Lib.hid hH
  clear hH
  go_enter Tryz.func140, Tryz.ntmps140
  go_wp2_with fail
  refine (HR.out _ ⟨_, rfl, HV.out.below below_box⟩).mono ?_
  rw [← HH.out]
  rintro e w1 ⟨rfl, hb1⟩
  have HB1 := Lib.hid (Below.then_ below_box hb1 (Nat.le_refl _))
  have X1 := (X0.out.below hb1).cell 0
  have X1' : w1.cell? ⟨w.heap.size, 0, none⟩ = some (.slice A l.length c) := X1
  clear hb1 X1
  cases H
  · have hf := Lib.hid (limit_none HH.out.symm)
    go_wp2_with fail
    go_ret
    exact ⟨ret_int (by rw [HF.out, hf.out]), HB1.out⟩
  · obtain ⟨b, off, vb, vn, vt, vk, rfl, hr⟩ := (HC.out.below HB1.out).at_ HH.out.symm
    have D1 := hr.c1
    have D2 := hr.c2
    have hi0 := hasL_iff.1 HH.out.symm
    have h0 : 0 ≤ i := hi0.1
    have h1 : i < (l.length : Int) := hi0.2
    obtain ⟨r, hr0⟩ : ∃ r, r = ruleAt l i := ⟨_, rfl⟩
    rw [← hr0] at D1 D2
    have HR0 := Lib.hid hr0
    clear hr hi0 hr0
    by_cases hk : r.kind = 1
    · have hf := Lib.hid (limit_is HH.out.symm (by rw [← HR0.out]; exact hk))
      rw [hk] at D1
      clear hk
      by_cases hsz : 1 ≤ r.size ∧ r.size ≤ 4
      · have hcs : r.size = 1 ∨ r.size = 2 ∨ r.size = 3 ∨ r.size = 4 := by omega
        clear hsz
        rcases hcs with hs | hs | hs | hs
        · rw [hs] at D2
          have hfin : Hid (F = 255) := by show _ = _; rw [HF.out, hf.out, ← HR0.out, hs]; rfl
          clear hs
          obtain ⟨P, hP⟩ : ∃ P : Int, P = 256 := ⟨_, rfl⟩
          have hP1 : 1 ≤ P := by omega
          have hP2 : P ≤ 4294967296 := by omega
          have HP := Lib.hid hP
          have hsh : Op.shift .shl .i64 1 .i64 8 = pure (.int .i64 P) := by rw [hP]; kernel_rfl
          clear hP
          go_wp2_with fail
          refine (i_In 1 1 4 _).mono ?_
          rw [inR_yes (by omega) (by omega)]
          rintro e w2 ⟨rfl, rfl⟩
          go_wp2_with fail
          go_ret
          exact ⟨ret_int (by rw [hfin.out, HP.out]; rfl), HB1.out⟩
        · rw [hs] at D2
          have hfin : Hid (F = 65535) := by show _ = _; rw [HF.out, hf.out, ← HR0.out, hs]; rfl
          clear hs
          obtain ⟨P, hP⟩ : ∃ P : Int, P = 65536 := ⟨_, rfl⟩
          have hP1 : 1 ≤ P := by omega
          have hP2 : P ≤ 4294967296 := by omega
          have HP := Lib.hid hP
          have hsh : Op.shift .shl .i64 1 .i64 16 = pure (.int .i64 P) := by rw [hP]; kernel_rfl
          clear hP
          go_wp2_with fail
          refine (i_In 2 1 4 _).mono ?_
          rw [inR_yes (by omega) (by omega)]
          rintro e w2 ⟨rfl, rfl⟩
          go_wp2_with fail
          go_ret
          exact ⟨ret_int (by rw [hfin.out, HP.out]; rfl), HB1.out⟩
        · rw [hs] at D2
          have hfin : Hid (F = 16777215) := by show _ = _; rw [HF.out, hf.out, ← HR0.out, hs]; rfl
          clear hs
          obtain ⟨P, hP⟩ : ∃ P : Int, P = 16777216 := ⟨_, rfl⟩
          have hP1 : 1 ≤ P := by omega
          have hP2 : P ≤ 4294967296 := by omega
          have HP := Lib.hid hP
          have hsh : Op.shift .shl .i64 1 .i64 24 = pure (.int .i64 P) := by rw [hP]; kernel_rfl
          clear hP
          go_wp2_with fail
          refine (i_In 3 1 4 _).mono ?_
          rw [inR_yes (by omega) (by omega)]
          rintro e w2 ⟨rfl, rfl⟩
          go_wp2_with fail
          go_ret
          exact ⟨ret_int (by rw [hfin.out, HP.out]; rfl), HB1.out⟩
        · rw [hs] at D2
          have hfin : Hid (F = 4294967295) := by show _ = _; rw [HF.out, hf.out, ← HR0.out, hs]; rfl
          clear hs
          obtain ⟨P, hP⟩ : ∃ P : Int, P = 4294967296 := ⟨_, rfl⟩
          have hP1 : 1 ≤ P := by omega
          have hP2 : P ≤ 4294967296 := by omega
          have HP := Lib.hid hP
          have hsh : Op.shift .shl .i64 1 .i64 32 = pure (.int .i64 P) := by rw [hP]; kernel_rfl
          clear hP
          go_wp2_with fail
          refine (i_In 4 1 4 _).mono ?_
          rw [inR_yes (by omega) (by omega)]
          rintro e w2 ⟨rfl, rfl⟩
          go_wp2_with fail
          go_ret
          exact ⟨ret_int (by rw [hfin.out, HP.out]; rfl), HB1.out⟩
      · have hg := Lib.hid (limit_size (l := l) (i := i) (by rw [← HR0.out]; exact hsz))
        go_wp2_with fail
        refine (i_In r.size 1 4 _).mono ?_
        rw [inR_no (by omega)]
        rintro e w2 ⟨rfl, rfl⟩
        clear hsz
        go_wp2_with fail
        go_ret
        exact ⟨ret_int (by rw [HF.out, hg.out]), HB1.out⟩
    · have hf := Lib.hid (limit_kind (l := l) (i := i) (by rw [← HR0.out]; exact hk))
      have hq1 : (r.kind == 1) = false := by simpa using hk
      have hq2 : (r.kind != 1) = true := by simpa using hk
      clear hk
      go_wp2_with fail
      go_ret
      exact ⟨ret_int (by rw [HF.out, hf.out]), HB1.out⟩

theorem s_Power (n P : Int) (hP : P = 256 ^ n.toNat) (w : World) (hn : 1 ≤ n ∧ n ≤ 4 := by omega) : Calls Tryz.prog 146 #[.int .i64 n] w fun e w' => e = .returned (.int .i64 P) ∧ w = w' := by
  rcases (show n = 1 ∨ n = 2 ∨ n = 3 ∨ n = 4 by omega) with rfl | rfl | rfl | rfl <;> have HP := Lib.hid hP <;> clear hP <;>
  ( go_enter Tryz.func146, Tryz.ntmps146
    go_wp2_with fail
    go_ret
    exact ⟨ret_int (by rw [HP.out]; rfl), rfl⟩)

set_option maxHeartbeats 4000000 in
theorem s_IntegerLimit (d : Value) (l : List RuleD) (i : Int) (hi : -9223372036854775808 ≤ i ∧ i ≤ 9223372036854775807) (w : World) (hd : RdDesc w d l) :
    Calls Tryz.prog 133 #[d, .int .i64 i] w fun e w' => e = .returned (.int .i64 (limitL l i)) ∧ Below w.heap.size w w' := by
  obtain ⟨v, rfl, hv⟩ := hd
  obtain ⟨A, c, rfl, hnc, hcm, hcell⟩ := hv.all
  unfold maxLen at hcm
  obtain ⟨F, hF⟩ : ∃ F, F = limitL l i := ⟨_, rfl⟩
  have HF := Lib.hid hF
  rw [← hF]
  clear hF
  have HC := Lib.hid hcell
  have HV := Lib.hid hv
  have B0 := Box.new w 35 #[.slice A l.length c]
  have X0 := Lib.hid B0
  clear hcell hv B0
  obtain ⟨H, hH⟩ : ∃ H, H = hasL l i := ⟨_, rfl⟩
  have sin := fun w => s_In i 0 ((l.length : Int) - 1) w
  rw [show inR i 0 ((l.length : Int) - 1) = H from (in_hasL l i).trans hH.symm] at sin
  have HR := Lib.hid sin
  have HH := Lib.hid hH
  clear hH sin
  go_enter Tryz.func133, Tryz.ntmps133
  go_wp2_with fail
  refine (HR.out _).mono ?_
  rintro e w1 ⟨rfl, hw1⟩
  have hbx : Below w.heap.size w w1 := by rw [← hw1]; exact below_box
  have HB1 := Lib.hid hbx
  have X1' : w1.cell? ⟨w.heap.size, 0, none⟩ = some (.slice A l.length c) := by rw [← hw1]; exact X0.out.cell 0
  clear hbx hw1
  cases H
  · have hf := Lib.hid (limit_none HH.out.symm)
    go_wp2_with fail
    go_ret
    exact ⟨ret_int (by rw [HF.out, hf.out]), HB1.out⟩
  · obtain ⟨b, off, vb, vn, vt, vk, rfl, hr⟩ := (HC.out.below HB1.out).at_ HH.out.symm
    have D1 := hr.c1
    have D2 := hr.c2
    have hi0 := hasL_iff.1 HH.out.symm
    have h0 : 0 ≤ i := hi0.1
    have h1 : i < (l.length : Int) := hi0.2
    obtain ⟨r, hr0⟩ : ∃ r, r = ruleAt l i := ⟨_, rfl⟩
    rw [← hr0] at D1 D2
    have HR0 := Lib.hid hr0
    clear hr hi0 hr0
    by_cases hk : r.kind = 1
    · have hf := Lib.hid (limit_is HH.out.symm (by rw [← HR0.out]; exact hk))
      rw [hk] at D1
      clear hk
      by_cases hsz : 1 ≤ r.size ∧ r.size ≤ 4
      · have hcs : r.size = 1 ∨ r.size = 2 ∨ r.size = 3 ∨ r.size = 4 := by omega
        clear hsz
        rcases hcs with hs | hs | hs | hs
        · rw [hs] at D2
          have hfin : Hid (F = 255) := by show _ = _; rw [HF.out, hf.out, ← HR0.out, hs]; rfl
          clear hs
          obtain ⟨P, hP⟩ : ∃ P : Int, P = 256 := ⟨_, rfl⟩
          have hP1 : 1 ≤ P := by omega
          have hP2 : P ≤ 4294967296 := by omega
          have HP := Lib.hid hP
          have hsh : Op.shift .shl .i64 1 .i64 8 = pure (.int .i64 P) := by rw [hP]; kernel_rfl
          clear hP
          go_wp2_with fail
          refine (s_In 1 1 4 _).mono ?_
          rw [inR_yes (by omega) (by omega)]
          rintro e w2 ⟨rfl, rfl⟩
          go_wp2_with fail
          refine (s_Power 1 P (by rw [HP.out]; rfl) _).mono ?_
          rintro e w2 ⟨rfl, rfl⟩
          go_wp2_with fail
          go_ret
          exact ⟨ret_int (by rw [hfin.out, HP.out]; rfl), HB1.out⟩
        · rw [hs] at D2
          have hfin : Hid (F = 65535) := by show _ = _; rw [HF.out, hf.out, ← HR0.out, hs]; rfl
          clear hs
          obtain ⟨P, hP⟩ : ∃ P : Int, P = 65536 := ⟨_, rfl⟩
          have hP1 : 1 ≤ P := by omega
          have hP2 : P ≤ 4294967296 := by omega
          have HP := Lib.hid hP
          have hsh : Op.shift .shl .i64 1 .i64 16 = pure (.int .i64 P) := by rw [hP]; kernel_rfl
          clear hP
          go_wp2_with fail
          refine (s_In 2 1 4 _).mono ?_
          rw [inR_yes (by omega) (by omega)]
          rintro e w2 ⟨rfl, rfl⟩
          go_wp2_with fail
          refine (s_Power 2 P (by rw [HP.out]; rfl) _).mono ?_
          rintro e w2 ⟨rfl, rfl⟩
          go_wp2_with fail
          go_ret
          exact ⟨ret_int (by rw [hfin.out, HP.out]; rfl), HB1.out⟩
        · rw [hs] at D2
          have hfin : Hid (F = 16777215) := by show _ = _; rw [HF.out, hf.out, ← HR0.out, hs]; rfl
          clear hs
          obtain ⟨P, hP⟩ : ∃ P : Int, P = 16777216 := ⟨_, rfl⟩
          have hP1 : 1 ≤ P := by omega
          have hP2 : P ≤ 4294967296 := by omega
          have HP := Lib.hid hP
          have hsh : Op.shift .shl .i64 1 .i64 24 = pure (.int .i64 P) := by rw [hP]; kernel_rfl
          clear hP
          go_wp2_with fail
          refine (s_In 3 1 4 _).mono ?_
          rw [inR_yes (by omega) (by omega)]
          rintro e w2 ⟨rfl, rfl⟩
          go_wp2_with fail
          refine (s_Power 3 P (by rw [HP.out]; rfl) _).mono ?_
          rintro e w2 ⟨rfl, rfl⟩
          go_wp2_with fail
          go_ret
          exact ⟨ret_int (by rw [hfin.out, HP.out]; rfl), HB1.out⟩
        · rw [hs] at D2
          have hfin : Hid (F = 4294967295) := by show _ = _; rw [HF.out, hf.out, ← HR0.out, hs]; rfl
          clear hs
          obtain ⟨P, hP⟩ : ∃ P : Int, P = 4294967296 := ⟨_, rfl⟩
          have hP1 : 1 ≤ P := by omega
          have hP2 : P ≤ 4294967296 := by omega
          have HP := Lib.hid hP
          have hsh : Op.shift .shl .i64 1 .i64 32 = pure (.int .i64 P) := by rw [hP]; kernel_rfl
          clear hP
          go_wp2_with fail
          refine (s_In 4 1 4 _).mono ?_
          rw [inR_yes (by omega) (by omega)]
          rintro e w2 ⟨rfl, rfl⟩
          go_wp2_with fail
          refine (s_Power 4 P (by rw [HP.out]; rfl) _).mono ?_
          rintro e w2 ⟨rfl, rfl⟩
          go_wp2_with fail
          go_ret
          exact ⟨ret_int (by rw [hfin.out, HP.out]; rfl), HB1.out⟩
      · have hg := Lib.hid (limit_size (l := l) (i := i) (by rw [← HR0.out]; exact hsz))
        go_wp2_with fail
        refine (s_In r.size 1 4 _).mono ?_
        rw [inR_no (by omega)]
        rintro e w2 ⟨rfl, rfl⟩
        clear hsz
        go_wp2_with fail
        go_ret
        exact ⟨ret_int (by rw [HF.out, hg.out]), HB1.out⟩
    · have hf := Lib.hid (limit_kind (l := l) (i := i) (by rw [← HR0.out]; exact hk))
      have hq1 : (r.kind == 1) = false := by simpa using hk
      have hq2 : (r.kind != 1) = true := by simpa using hk
      clear hk
      go_wp2_with fail
      go_ret
      exact ⟨ret_int (by rw [HF.out, hf.out]), HB1.out⟩

end Go.Proofs.YtkjjgpkegihmhaaGreatDoor

namespace Go.Proofs.YtkjjgpkegihmhaaGreatDoor
open Go.RowKit
set_option linter.unusedVariables false

theorem kid_no {l : List RuleD} {i k : Int} (h : ¬ (hasL l i = true ∧ 0 ≤ k ∧ k < ((ruleAt l i).kids.length : Int) ∧ hasL l ((ruleAt l i).kids.getD k.toNat 0) = true)) : kidL l i k = ⟨#[]⟩ := by unfold kidL; rw [if_neg h]
theorem kid_yes {l : List RuleD} {i k : Int} (h : hasL l i = true ∧ 0 ≤ k ∧ k < ((ruleAt l i).kids.length : Int) ∧ hasL l ((ruleAt l i).kids.getD k.toNat 0) = true) : kidL l i k = (ruleAt l ((ruleAt l i).kids.getD k.toNat 0)).name := by unfold kidL; rw [if_pos h]
theorem kids_cell {w : World} {v : Value} {l : List Int} {A : Option Addr} {n c : Nat} (h : Rd w v 1 l.length (cI l)) (hv : v = .slice A n c) {k : Int} (h0 : 0 ≤ k) (h1 : k < (l.length : Int)) :
    ∃ b off, A = some ⟨b, off, none⟩ ∧ w.cell? ⟨b, off + k.toNat, none⟩ = some (.int .i64 (l.getD k.toNat 0)) := by
  obtain ⟨_, A', c', e, _, _, hc⟩ := h
  rw [hv] at e
  injection e with e _ _
  subst e
  obtain ⟨b, off, hA, hcell⟩ := hc (by rw [cI_len]; omega)
  refine ⟨b, off, hA, ?_⟩
  have hk : k.toNat < l.length := by omega
  have := hcell k.toNat _ (cI_at hk)
  simpa [List.getD, hk] using this

set_option maxRecDepth 100000 in
set_option maxHeartbeats 8000000 in
theorem i_KidName (d : Value) (l : List RuleD) (i k : Int) (hi : -9223372036854775808 ≤ i ∧ i ≤ 9223372036854775807) (hk : -9223372036854775808 ≤ k ∧ k ≤ 9223372036854775807) (w : World) (hd : RdDesc w d l) :
    Calls Tryz.prog 90 #[d, .int .i64 i, .int .i64 k] w fun e w' => e = .returned (.string (kidL l i k)) ∧ Below w.heap.size w w' := by
  obtain ⟨v, rfl, hv⟩ := hd
  obtain ⟨A, c, rfl, hnc, hcm, hcell⟩ := hv.all
  unfold maxLen at hcm
  obtain ⟨F, hF⟩ : ∃ F, F = kidL l i k := ⟨_, rfl⟩
  rw [← hF]
  have no : ¬ (hasL l i = true ∧ 0 ≤ k ∧ k < ((ruleAt l i).kids.length : Int) ∧ hasL l ((ruleAt l i).kids.getD k.toNat 0) = true) → Hid (⟨#[]⟩ = F) := fun h => by show _ = _; rw [hF, kid_no h]
  have yes : (hasL l i = true ∧ 0 ≤ k ∧ k < ((ruleAt l i).kids.length : Int) ∧ hasL l ((ruleAt l i).kids.getD k.toNat 0) = true) → Hid ((ruleAt l ((ruleAt l i).kids.getD k.toNat 0)).name = F) := fun h => by show _ = _; rw [hF, kid_yes h]
  clear hF
  obtain ⟨w0, hw0⟩ : ∃ w0, w0 = w.alloc (.cells #[.slice A l.length c] 35) := ⟨_, rfl⟩
  have b0 : Below w.heap.size w w0 := by rw [hw0]; exact below_box
  have HC := Lib.hid (hcell.below b0)
  have HV := Lib.hid (hv.below b0)
  have x0 : w0.cell? ⟨w.heap.size, 0, none⟩ = some (.slice A l.length c) := by rw [hw0]; exact (Box.new w _ _).cell 0
  have B0 := Lib.hid b0
  have X0 := Lib.hid x0
  have W0 := Lib.hid hw0
  clear hcell hv x0 b0 hw0
  obtain ⟨H, hH⟩ : ∃ H, H = hasL l i := ⟨_, rfl⟩
  have hr := fun w h => i_hasRule (.agg #[.slice A l.length c]) l i w h
  rw [← hH] at hr
  have L1 := Lib.hid (fun x : Later w0 => Calls.later (hr x.world ⟨_, rfl, HV.out.below x.below⟩))
  have HH := Lib.hid hH
  clear hr hH
  cases H
  · have hfin := no (fun h => by rw [← HH.out] at h; simp at h)
    clear no yes
    have x0 := X0.out
    go_enter Tryz.func90, Tryz.ntmps90
    go_wp2_with fail
    rw [← W0.out]
    have lx := later_cell X0.out
    refine wp_region_later (by kernel_rfl) (by kernel_rfl) ?_
    repeat (go_big_quiet_step ((go_at_call 117; with_reducible exact L1.out _)))
    refine wpQuiet_nil ?_
    intro w1 hb1
    clear lx
    go_wp2_with fail
    go_ret
    exact ⟨ret_str hfin.out, Below.then_ B0.out hb1 (Nat.le_refl _)⟩
  · have hi0 := hasL_iff.1 HH.out.symm
    have h0 : 0 ≤ i := hi0.1
    have h1 : i < (l.length : Int) := hi0.2
    clear hi0
    obtain ⟨b, off, vb, vn, vt, vk, rfl, hr⟩ := HC.out.at_ HH.out.symm
    obtain ⟨⟨Ab, cb, rfl⟩, ⟨An, cn, rfl⟩, ⟨At, ct, rfl⟩, ⟨Ak, ck, rfl⟩⟩ := hr.slices
    obtain ⟨r, hr0⟩ : ∃ r, r = ruleAt l i := ⟨_, rfl⟩
    rw [← hr0] at hr no yes
    have HK7 := Lib.hid hr.c7
    have HRK := Lib.hid hr.rk
    obtain ⟨_, _, _, ek, hkc, hkm, _⟩ := hr.rk
    injection ek with e1 e2 e3
    rw [← e3] at hkc hkm
    clear e1 e2 e3
    unfold maxLen at hkm
    clear hr hr0
    by_cases hk0 : 0 ≤ k
    · have dk0 : decide (k < 0) = false := by simp; omega
      by_cases hk1 : k < (r.kids.length : Int)
      · have dk1 : decide ((r.kids.length : Int) ≤ k) = false := by simp; omega
        obtain ⟨bk, ok, rfl, hkid⟩ := kids_cell HRK.out rfl hk0 hk1
        obtain ⟨kid, hkid0⟩ : ∃ kid, kid = r.kids.getD k.toNat 0 := ⟨_, rfl⟩
        rw [← hkid0] at hkid no yes
        have HKC := Lib.hid hkid
        obtain ⟨H2, hH2⟩ : ∃ H2, H2 = hasL l kid := ⟨_, rfl⟩
        have hr2 := fun w h => i_hasRule (.agg #[.slice (some ⟨b, off, none⟩) l.length c]) l kid w h
        rw [← hH2] at hr2
        have L3 := Lib.hid (fun x : Later w0 => Calls.later (hr2 x.world ⟨_, rfl, HV.out.below x.below⟩))
        have HH2 := Lib.hid hH2
        clear hr2 hH2 hkid0 hkid
        cases H2
        · have hfin := no (fun h => by rw [← HH2.out] at h; simp at h)
          clear no yes
          have x0 := X0.out
          go_enter Tryz.func90, Tryz.ntmps90
          go_wp2_with fail
          rw [← W0.out]
          have lx := later_cell X0.out
          have lk := later_cell HK7.out
          have lc := later_cell HKC.out
          refine wp_region_later (by kernel_rfl) (by kernel_rfl) ?_
          repeat (go_big_quiet_step (first | (go_at_call 117; with_reducible exact L1.out _) | (go_at_call 117; with_reducible exact L3.out _)))
          refine wpQuiet_nil ?_
          intro w1 hb1
          clear lx lk lc
          go_wp2_with fail
          go_ret
          exact ⟨ret_str hfin.out, Below.then_ B0.out hb1 (Nat.le_refl _)⟩
        · have hfin := yes ⟨HH.out.symm, hk0, hk1, HH2.out.symm⟩
          have hi2 := hasL_iff.1 HH2.out.symm
          have h2 : 0 ≤ kid := hi2.1
          have h3 : kid < (l.length : Int) := hi2.2
          clear hi2
          obtain ⟨b', off', _, _, _, _, eb, hr'⟩ := HC.out.at_ HH2.out.symm
          injection eb with eb
          injection eb with eb1 eb2
          subst eb1; subst eb2
          have N0 := hr'.c0
          obtain ⟨nm, hnm⟩ : ∃ nm, nm = (ruleAt l kid).name := ⟨_, rfl⟩
          rw [← hnm] at N0 hfin
          have HN0 := Lib.hid N0
          clear hr' hnm N0 no yes
          have x0 := X0.out
          go_enter Tryz.func90, Tryz.ntmps90
          go_wp2_with fail
          rw [← W0.out]
          have lx := later_cell X0.out
          have lk := later_cell HK7.out
          have lc := later_cell HKC.out
          refine wp_region_later (by kernel_rfl) (by kernel_rfl) ?_
          repeat (go_big_quiet_step (first | (go_at_call 117; with_reducible exact L1.out _) | (go_at_call 117; with_reducible exact L3.out _)))
          refine wpQuiet_nil ?_
          intro w1 hb1
          clear lx lk lc
          have y0 := cell_after X0.out hb1
          have y1 := cell_after HK7.out hb1
          have y2 := cell_after HKC.out hb1
          have y3 := cell_after HN0.out hb1
          have Y0 := Lib.hid y0
          have Y1 := Lib.hid y1
          have Y2 := Lib.hid y2
          have Y3 := Lib.hid y3
          have HB1 := Lib.hid hb1
          clear hb1
          go_wp2_with fail
          have la := later_cell Y0.out
          have lb := later_cell Y1.out
          have lc := later_cell Y2.out
          have ld := later_cell Y3.out
          refine wp_region_later (by kernel_rfl) (by kernel_rfl) ?_
          repeat (go_big_quiet_step (fail))
          refine wpQuiet_nil ?_
          intro w2 hb2
          clear la lb lc ld
          go_wp2_with fail
          go_ret
          exact ⟨ret_str hfin.out, Below.then_ B0.out (Below.then_ HB1.out hb2 (Nat.le_refl _)) (Nat.le_refl _)⟩
      · have dk1 : decide ((r.kids.length : Int) ≤ k) = true := by simp; omega
        have hfin := no (fun h => hk1 h.2.2.1)
        clear no yes
        have x0 := X0.out
        go_enter Tryz.func90, Tryz.ntmps90
        go_wp2_with fail
        rw [← W0.out]
        have lx := later_cell X0.out
        have lk := later_cell HK7.out
        refine wp_region_later (by kernel_rfl) (by kernel_rfl) ?_
        repeat (go_big_quiet_step ((go_at_call 117; with_reducible exact L1.out _)))
        refine wpQuiet_nil ?_
        intro w1 hb1
        clear lx lk
        go_wp2_with fail
        go_ret
        exact ⟨ret_str hfin.out, Below.then_ B0.out hb1 (Nat.le_refl _)⟩
    · have dk0 : decide (k < 0) = true := by simp; omega
      have hfin := no (fun h => hk0 h.2.1)
      clear no yes
      have x0 := X0.out
      go_enter Tryz.func90, Tryz.ntmps90
      go_wp2_with fail
      rw [← W0.out]
      have lx := later_cell X0.out
      have lk := later_cell HK7.out
      refine wp_region_later (by kernel_rfl) (by kernel_rfl) ?_
      repeat (go_big_quiet_step ((go_at_call 117; with_reducible exact L1.out _)))
      refine wpQuiet_nil ?_
      intro w1 hb1
      clear lx lk
      go_wp2_with fail
      go_ret
      exact ⟨ret_str hfin.out, Below.then_ B0.out hb1 (Nat.le_refl _)⟩

set_option maxRecDepth 100000 in
set_option maxHeartbeats 8000000 in
theorem s_KidName (d : Value) (l : List RuleD) (i k : Int) (hi : -9223372036854775808 ≤ i ∧ i ≤ 9223372036854775807) (hk : -9223372036854775808 ≤ k ∧ k ≤ 9223372036854775807) (w : World) (hd : RdDesc w d l) :
    Calls Tryz.prog 78 #[d, .int .i64 i, .int .i64 k] w fun e w' => e = .returned (.string (kidL l i k)) ∧ Below w.heap.size w w' := by
  obtain ⟨v, rfl, hv⟩ := hd
  obtain ⟨A, c, rfl, hnc, hcm, hcell⟩ := hv.all
  unfold maxLen at hcm
  obtain ⟨F, hF⟩ : ∃ F, F = kidL l i k := ⟨_, rfl⟩
  rw [← hF]
  have no : ¬ (hasL l i = true ∧ 0 ≤ k ∧ k < ((ruleAt l i).kids.length : Int) ∧ hasL l ((ruleAt l i).kids.getD k.toNat 0) = true) → Hid (⟨#[]⟩ = F) := fun h => by show _ = _; rw [hF, kid_no h]
  have yes : (hasL l i = true ∧ 0 ≤ k ∧ k < ((ruleAt l i).kids.length : Int) ∧ hasL l ((ruleAt l i).kids.getD k.toNat 0) = true) → Hid ((ruleAt l ((ruleAt l i).kids.getD k.toNat 0)).name = F) := fun h => by show _ = _; rw [hF, kid_yes h]
  clear hF
  obtain ⟨w0, hw0⟩ : ∃ w0, w0 = w.alloc (.cells #[.slice A l.length c] 35) := ⟨_, rfl⟩
  have b0 : Below w.heap.size w w0 := by rw [hw0]; exact below_box
  have HC := Lib.hid (hcell.below b0)
  have HV := Lib.hid (hv.below b0)
  have x0 : w0.cell? ⟨w.heap.size, 0, none⟩ = some (.slice A l.length c) := by rw [hw0]; exact (Box.new w _ _).cell 0
  have B0 := Lib.hid b0
  have X0 := Lib.hid x0
  have W0 := Lib.hid hw0
  clear hcell hv x0 b0 hw0
  obtain ⟨H, hH⟩ : ∃ H, H = hasL l i := ⟨_, rfl⟩
  have hr := fun w => s_In i 0 ((l.length : Int) - 1) w
  rw [show inR i 0 ((l.length : Int) - 1) = H from (in_hasL l i).trans hH.symm] at hr
  have L1 := Lib.hid (fun x : Later w0 => Calls.later_same (hr x.world))
  have HH := Lib.hid hH
  clear hr hH
  cases H
  · have hfin := no (fun h => by rw [← HH.out] at h; simp at h)
    clear no yes
    have x0 := X0.out
    go_enter Tryz.func78, Tryz.ntmps78
    go_wp2_with fail
    rw [← W0.out]
    have lx := later_cell X0.out
    refine wp_region_later (by kernel_rfl) (by kernel_rfl) ?_
    repeat (go_big_quiet_step ((go_at_call 68; with_reducible exact L1.out _)))
    refine wpQuiet_nil ?_
    intro w1 hb1
    clear lx
    go_wp2_with fail
    go_ret
    exact ⟨ret_str hfin.out, Below.then_ B0.out hb1 (Nat.le_refl _)⟩
  · have hi0 := hasL_iff.1 HH.out.symm
    have h0 : 0 ≤ i := hi0.1
    have h1 : i < (l.length : Int) := hi0.2
    clear hi0
    obtain ⟨b, off, vb, vn, vt, vk, rfl, hr⟩ := HC.out.at_ HH.out.symm
    obtain ⟨⟨Ab, cb, rfl⟩, ⟨An, cn, rfl⟩, ⟨At, ct, rfl⟩, ⟨Ak, ck, rfl⟩⟩ := hr.slices
    obtain ⟨r, hr0⟩ : ∃ r, r = ruleAt l i := ⟨_, rfl⟩
    rw [← hr0] at hr no yes
    have HK7 := Lib.hid hr.c7
    have HRK := Lib.hid hr.rk
    obtain ⟨_, _, _, ek, hkc, hkm, _⟩ := hr.rk
    injection ek with e1 e2 e3
    rw [← e3] at hkc hkm
    clear e1 e2 e3
    unfold maxLen at hkm
    clear hr hr0
    obtain ⟨H1, hH1⟩ : ∃ H1, H1 = inR k 0 ((r.kids.length : Int) - 1) := ⟨_, rfl⟩
    have hr1 := fun w => s_In k 0 ((r.kids.length : Int) - 1) w
    rw [← hH1] at hr1
    have L2 := Lib.hid (fun x : Later w0 => Calls.later_same (hr1 x.world))
    have HH1 := Lib.hid hH1
    clear hr1 hH1
    cases H1
    · have hfin := no (fun h => by have := inR_iff.2 (show 0 ≤ k ∧ k ≤ (r.kids.length : Int) - 1 by omega); rw [← HH1.out] at this; simp at this)
      clear no yes
      have x0 := X0.out
      go_enter Tryz.func78, Tryz.ntmps78
      go_wp2_with fail
      rw [← W0.out]
      have lx := later_cell X0.out
      have lk := later_cell HK7.out
      refine wp_region_later (by kernel_rfl) (by kernel_rfl) ?_
      repeat (go_big_quiet_step (first | (go_at_call 68; with_reducible exact L1.out _) | (go_at_call 68; with_reducible exact L2.out _)))
      refine wpQuiet_nil ?_
      intro w1 hb1
      clear lx lk
      go_wp2_with fail
      go_ret
      exact ⟨ret_str hfin.out, Below.then_ B0.out hb1 (Nat.le_refl _)⟩
    · have hkk := inR_iff.1 HH1.out.symm
      have hk0 : 0 ≤ k := hkk.1
      have hk1 : k < (r.kids.length : Int) := by omega
      clear hkk
      obtain ⟨bk, ok, rfl, hkid⟩ := kids_cell HRK.out rfl hk0 hk1
      obtain ⟨kid, hkid0⟩ : ∃ kid, kid = r.kids.getD k.toNat 0 := ⟨_, rfl⟩
      rw [← hkid0] at hkid no yes
      have HKC := Lib.hid hkid
      obtain ⟨H2, hH2⟩ : ∃ H2, H2 = hasL l kid := ⟨_, rfl⟩
      have hr2 := fun w => s_In kid 0 ((l.length : Int) - 1) w
      rw [show inR kid 0 ((l.length : Int) - 1) = H2 from (in_hasL l kid).trans hH2.symm] at hr2
      have L3 := Lib.hid (fun x : Later w0 => Calls.later_same (hr2 x.world))
      have HH2 := Lib.hid hH2
      clear hr2 hH2 hkid0 hkid
      cases H2
      · have hfin := no (fun h => by rw [← HH2.out] at h; simp at h)
        clear no yes
        have x0 := X0.out
        go_enter Tryz.func78, Tryz.ntmps78
        go_wp2_with fail
        rw [← W0.out]
        have lx := later_cell X0.out
        have lk := later_cell HK7.out
        have lc := later_cell HKC.out
        refine wp_region_later (by kernel_rfl) (by kernel_rfl) ?_
        repeat (go_big_quiet_step (first | (go_at_call 68; with_reducible exact L1.out _) | (go_at_call 68; with_reducible exact L2.out _) | (go_at_call 68; with_reducible exact L3.out _)))
        refine wpQuiet_nil ?_
        intro w1 hb1
        clear lx lk lc
        go_wp2_with fail
        go_ret
        exact ⟨ret_str hfin.out, Below.then_ B0.out hb1 (Nat.le_refl _)⟩
      · have hfin := yes ⟨HH.out.symm, hk0, hk1, HH2.out.symm⟩
        have hi2 := hasL_iff.1 HH2.out.symm
        have h2 : 0 ≤ kid := hi2.1
        have h3 : kid < (l.length : Int) := hi2.2
        clear hi2
        obtain ⟨b', off', _, _, _, _, eb, hr'⟩ := HC.out.at_ HH2.out.symm
        injection eb with eb
        injection eb with eb1 eb2
        subst eb1; subst eb2
        have N0 := hr'.c0
        obtain ⟨nm, hnm⟩ : ∃ nm, nm = (ruleAt l kid).name := ⟨_, rfl⟩
        rw [← hnm] at N0 hfin
        have HN0 := Lib.hid N0
        clear hr' hnm N0 no yes
        have x0 := X0.out
        go_enter Tryz.func78, Tryz.ntmps78
        go_wp2_with fail
        rw [← W0.out]
        have lx := later_cell X0.out
        have lk := later_cell HK7.out
        have lc := later_cell HKC.out
        refine wp_region_later (by kernel_rfl) (by kernel_rfl) ?_
        repeat (go_big_quiet_step (first | (go_at_call 68; with_reducible exact L1.out _) | (go_at_call 68; with_reducible exact L2.out _) | (go_at_call 68; with_reducible exact L3.out _)))
        refine wpQuiet_nil ?_
        intro w1 hb1
        clear lx lk lc
        have y0 := cell_after X0.out hb1
        have y1 := cell_after HK7.out hb1
        have y2 := cell_after HKC.out hb1
        have y3 := cell_after HN0.out hb1
        have Y0 := Lib.hid y0
        have Y1 := Lib.hid y1
        have Y2 := Lib.hid y2
        have Y3 := Lib.hid y3
        have HB1 := Lib.hid hb1
        clear hb1
        go_wp2_with fail
        have la := later_cell Y0.out
        have lb := later_cell Y1.out
        have lc := later_cell Y2.out
        have ld := later_cell Y3.out
        refine wp_region_later (by kernel_rfl) (by kernel_rfl) ?_
        repeat (go_big_quiet_step (fail))
        refine wpQuiet_nil ?_
        intro w2 hb2
        clear la lb lc ld
        go_wp2_with fail
        go_ret
        exact ⟨ret_str hfin.out, Below.then_ B0.out (Below.then_ HB1.out hb2 (Nat.le_refl _)) (Nat.le_refl _)⟩

end Go.Proofs.YtkjjgpkegihmhaaGreatDoor
