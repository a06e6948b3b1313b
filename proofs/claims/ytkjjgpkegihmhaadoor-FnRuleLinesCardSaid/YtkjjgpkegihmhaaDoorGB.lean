/-
  Several texts in one: EqByte, EqString, EqInt, EqRule, EqDesc, ToRule, ToDesc, SzString, SzRule, OpenDesc, DescRead, DescLaw, Limit, KidName.
-/
import Derived.Test.YtkjjgpkegihmhaaDoorProg
import Derived.Test.YtkjjgpkegihmhaaDoorGA
import Derived.WalkKit
import Derived.WalkSpells
import Derived.WalkLawsBesides
import Derived.Lib.Hide
import Derived.Deep.QuietTactic
import Derived.BigQuiet
import Derived.Deep.RegionHeld3
import Derived.Deep.Slices
import Derived.BigGuard
namespace Go.Proofs.YtkjjgpkegihmhaaDoor
open Go.RowKit

set_option maxHeartbeats 1000000 in
theorem l_eqByteS (va vb : Value) (xs ys : List UInt8) (w : World) (ha : Rd w va 1 xs.length (cB xs)) (hb : Rd w vb 1 ys.length (cB ys)) :
    Calls Tryd.prog 101 #[va, vb] w fun e w' => e = .returned (.bool (decide (xs = ys))) ∧ Below w.heap.size w w' := by
  by_cases hlen : xs.length = ys.length
  · obtain ⟨n, hn⟩ : ∃ n, n = ys.length := ⟨_, rfl⟩
    rw [hlen, ← hn] at ha
    rw [← hn] at hb
    rw [← hn] at hlen
    obtain ⟨_, A, c, rfl, hnc, hcm, hcell⟩ := ha
    obtain ⟨_, A', c', rfl, hnc', hcm', hcell'⟩ := hb
    unfold maxLen at hcm hcm'
    have HA := Lib.hid hlen; clear hlen
    have HB := Lib.hid hn; clear hn
    have HC := Lib.hid hcell; clear hcell
    have HC' := Lib.hid hcell'; clear hcell'
    go_enter Tryd.func101, Tryd.ntmps101
    go_wp2_with fail
    go_loopw [5] (fun i wr => ∃ k : Nat, k ≤ n ∧ i = .int .i64 k ∧ xs.take k = ys.take k ∧ Below w.heap.size w wr) (fun i _ => n - (intOf i).toNat)
    case atStart => exact ⟨0, Nat.zero_le _, rfl, by simp, Below.refl _ _⟩
    case round =>
      obtain ⟨k, hk, rfl, htk, hbr⟩ := hrel
      have HT := Lib.hid htk; clear htk
      by_cases hlt : k < n
      · obtain ⟨b, off, rfl, hc⟩ := HC.out (by rw [cB_len, HA.out]; omega)
        obtain ⟨b', off', rfl, hc'⟩ := HC'.out (by rw [cB_len, ← HB.out]; omega)
        have hka : k < xs.length := by rw [HA.out]; exact hlt
        have hkb : k < ys.length := by rw [← HB.out]; exact hlt
        have hx0 := hc k _ (cB_at hka)
        have hy0 := hc' k _ (cB_at hkb)
        have hx1 := (hbr.cell (World.block_lt_of_cell? w _ hx0)).trans hx0
        have hy1 := (hbr.cell (World.block_lt_of_cell? w _ hy0)).trans hy0
        obtain ⟨x, hx⟩ : ∃ x, x = xs[k] := ⟨_, rfl⟩
        obtain ⟨y, hy⟩ : ∃ y, y = ys[k] := ⟨_, rfl⟩
        rw [← hx] at hx1
        rw [← hy] at hy1
        have HX := Lib.hid (show xs[k]? = some x by rw [List.getElem?_eq_getElem hka, hx])
        have HY := Lib.hid (show ys[k]? = some y by rw [List.getElem?_eq_getElem hkb, hy])
        have HBR := Lib.hid hbr
        have hlti : (k : Int) < (n : Int) := by omega
        have hk0 : (0 : Int) ≤ (k : Int) := by omega
        clear hx hy hx0 hy0 hc hc' hbr hka hkb
        by_cases hxy : x = y
        · have hq : (((x.toNat : Nat) : Int) == ((y.toNat : Nat) : Int)) = true := by rw [hxy]; simp
          have hq2 : (((x.toNat : Nat) : Int) != ((y.toNat : Nat) : Int)) = false := by rw [hxy]; simp
          have HXY := Lib.hid hxy
          clear hxy
          go_wp2_with fail
          go_quiet (fail)
          go_wp2_with fail
          go_roundw
          case rel =>
            refine ⟨k + 1, by omega, by go_num, ?_, below_drewN HBR.out _⟩
            rw [List.take_add_one, List.take_add_one, HT.out, HX.out, HY.out, HXY.out]
          case measure => simp [intOf]; omega
        · have hne : ((x.toNat : Nat) : Int) ≠ ((y.toNat : Nat) : Int) := fun e => hxy (UInt8.toNat_inj.1 (by omega))
          have hq : (((x.toNat : Nat) : Int) == ((y.toNat : Nat) : Int)) = false := by simpa using hne
          have hq2 : (((x.toNat : Nat) : Int) != ((y.toNat : Nat) : Int)) = true := by simpa using hne
          clear hne
          have HXY := Lib.hid hxy
          clear hxy
          go_wp2_with fail
          go_quiet (fail)
          go_wp2_with fail
          go_ret
          refine ⟨ret_bool ?_, below_drewN HBR.out _⟩
          symm
          rw [decide_eq_false_iff_not]
          intro e
          have h1 := HX.out
          rw [e, HY.out] at h1
          exact HXY.out (Option.some.inj h1).symm
      · obtain rfl : k = n := by omega
        have HBR := Lib.hid hbr
        clear hbr
        go_wp2_with fail
        go_ret
        refine ⟨ret_bool ?_, HBR.out⟩
        symm
        rw [decide_eq_true_iff]
        have := HT.out
        rwa [List.take_of_length_le (by rw [HA.out]; exact Nat.le_refl _), List.take_of_length_le (by rw [← HB.out]; exact Nat.le_refl _)] at this
  · obtain ⟨_, A, c, rfl, hnc, hcm, hcell⟩ := ha
    obtain ⟨_, A', c', rfl, hnc', hcm', hcell'⟩ := hb
    have hq : ((xs.length : Int) == (ys.length : Int)) = false := by rw [beq_eq_false_iff_ne]; omega
    have hq2 : ((xs.length : Int) != (ys.length : Int)) = true := by rw [bne_iff_ne]; omega
    have HL := Lib.hid hlen
    clear hlen hcell hcell'
    go_enter Tryd.func101, Tryd.ntmps101
    go_wp2_with fail
    go_ret
    refine ⟨ret_bool ?_, Below.refl _ _⟩
    symm
    rw [decide_eq_false_iff_not]
    intro e
    exact HL.out (by rw [e])

end Go.Proofs.YtkjjgpkegihmhaaDoor

namespace Go.Proofs.YtkjjgpkegihmhaaDoor
open Go.RowKit

set_option maxHeartbeats 1000000 in
theorem l_eqStringS (va vb : Value) (xs ys : List ByteArray) (w : World) (ha : Rd w va 1 xs.length (cS xs)) (hb : Rd w vb 1 ys.length (cS ys)) :
    Calls Tryd.prog 102 #[va, vb] w fun e w' => e = .returned (.bool (decide (xs = ys))) ∧ Below w.heap.size w w' := by
  by_cases hlen : xs.length = ys.length
  · obtain ⟨n, hn⟩ : ∃ n, n = ys.length := ⟨_, rfl⟩
    rw [hlen, ← hn] at ha
    rw [← hn] at hb
    rw [← hn] at hlen
    obtain ⟨_, A, c, rfl, hnc, hcm, hcell⟩ := ha
    obtain ⟨_, A', c', rfl, hnc', hcm', hcell'⟩ := hb
    unfold maxLen at hcm hcm'
    have HA := Lib.hid hlen; clear hlen
    have HB := Lib.hid hn; clear hn
    have HC := Lib.hid hcell; clear hcell
    have HC' := Lib.hid hcell'; clear hcell'
    go_enter Tryd.func102, Tryd.ntmps102
    go_wp2_with fail
    go_loopw [5] (fun i wr => ∃ k : Nat, k ≤ n ∧ i = .int .i64 k ∧ xs.take k = ys.take k ∧ Below w.heap.size w wr) (fun i _ => n - (intOf i).toNat)
    case atStart => exact ⟨0, Nat.zero_le _, rfl, by simp, Below.refl _ _⟩
    case round =>
      obtain ⟨k, hk, rfl, htk, hbr⟩ := hrel
      have HT := Lib.hid htk; clear htk
      by_cases hlt : k < n
      · obtain ⟨b, off, rfl, hc⟩ := HC.out (by rw [cS_len, HA.out]; omega)
        obtain ⟨b', off', rfl, hc'⟩ := HC'.out (by rw [cS_len, ← HB.out]; omega)
        have hka : k < xs.length := by rw [HA.out]; exact hlt
        have hkb : k < ys.length := by rw [← HB.out]; exact hlt
        have hx0 := hc k _ (cS_at hka)
        have hy0 := hc' k _ (cS_at hkb)
        have hx1 := (hbr.cell (World.block_lt_of_cell? w _ hx0)).trans hx0
        have hy1 := (hbr.cell (World.block_lt_of_cell? w _ hy0)).trans hy0
        obtain ⟨x, hx⟩ : ∃ x, x = xs[k] := ⟨_, rfl⟩
        obtain ⟨y, hy⟩ : ∃ y, y = ys[k] := ⟨_, rfl⟩
        rw [← hx] at hx1
        rw [← hy] at hy1
        have HX := Lib.hid (show xs[k]? = some x by rw [List.getElem?_eq_getElem hka, hx])
        have HY := Lib.hid (show ys[k]? = some y by rw [List.getElem?_eq_getElem hkb, hy])
        have HBR := Lib.hid hbr
        have hlti : (k : Int) < (n : Int) := by omega
        have hk0 : (0 : Int) ≤ (k : Int) := by omega
        clear hx hy hx0 hy0 hc hc' hbr hka hkb
        by_cases hxy : x = y
        · have hq : (x.toList == y.toList) = true := by rw [hxy]; simp
          have HXY := Lib.hid hxy
          clear hxy
          go_wp2_with fail
          go_quiet (fail)
          go_wp2_with fail
          go_roundw
          case rel =>
            refine ⟨k + 1, by omega, by go_num, ?_, below_drewN HBR.out _⟩
            rw [List.take_add_one, List.take_add_one, HT.out, HX.out, HY.out, HXY.out]
          case measure => simp [intOf]; omega
        · have hq : (x.toList == y.toList) = false := str_ne hxy
          have HXY := Lib.hid hxy
          clear hxy
          go_wp2_with fail
          go_quiet (fail)
          go_wp2_with fail
          go_ret
          refine ⟨ret_bool ?_, below_drewN HBR.out _⟩
          symm
          rw [decide_eq_false_iff_not]
          intro e
          have h1 := HX.out
          rw [e, HY.out] at h1
          exact HXY.out (Option.some.inj h1).symm
      · obtain rfl : k = n := by omega
        have HBR := Lib.hid hbr
        clear hbr
        go_wp2_with fail
        go_ret
        refine ⟨ret_bool ?_, HBR.out⟩
        symm
        rw [decide_eq_true_iff]
        have := HT.out
        rwa [List.take_of_length_le (by rw [HA.out]; exact Nat.le_refl _), List.take_of_length_le (by rw [← HB.out]; exact Nat.le_refl _)] at this
  · obtain ⟨_, A, c, rfl, hnc, hcm, hcell⟩ := ha
    obtain ⟨_, A', c', rfl, hnc', hcm', hcell'⟩ := hb
    have hq : ((xs.length : Int) == (ys.length : Int)) = false := by rw [beq_eq_false_iff_ne]; omega
    have hq2 : ((xs.length : Int) != (ys.length : Int)) = true := by rw [bne_iff_ne]; omega
    have HL := Lib.hid hlen
    clear hlen hcell hcell'
    go_enter Tryd.func102, Tryd.ntmps102
    go_wp2_with fail
    go_ret
    refine ⟨ret_bool ?_, Below.refl _ _⟩
    symm
    rw [decide_eq_false_iff_not]
    intro e
    exact HL.out (by rw [e])

end Go.Proofs.YtkjjgpkegihmhaaDoor

namespace Go.Proofs.YtkjjgpkegihmhaaDoor
open Go.RowKit

set_option maxHeartbeats 1000000 in
theorem l_eqIntS (va vb : Value) (xs ys : List Int) (w : World) (ha : Rd w va 1 xs.length (cI xs)) (hb : Rd w vb 1 ys.length (cI ys)) :
    Calls Tryd.prog 103 #[va, vb] w fun e w' => e = .returned (.bool (decide (xs = ys))) ∧ Below w.heap.size w w' := by
  by_cases hlen : xs.length = ys.length
  · obtain ⟨n, hn⟩ : ∃ n, n = ys.length := ⟨_, rfl⟩
    rw [hlen, ← hn] at ha
    rw [← hn] at hb
    rw [← hn] at hlen
    obtain ⟨_, A, c, rfl, hnc, hcm, hcell⟩ := ha
    obtain ⟨_, A', c', rfl, hnc', hcm', hcell'⟩ := hb
    unfold maxLen at hcm hcm'
    have HA := Lib.hid hlen; clear hlen
    have HB := Lib.hid hn; clear hn
    have HC := Lib.hid hcell; clear hcell
    have HC' := Lib.hid hcell'; clear hcell'
    go_enter Tryd.func103, Tryd.ntmps103
    go_wp2_with fail
    go_loopw [5] (fun i wr => ∃ k : Nat, k ≤ n ∧ i = .int .i64 k ∧ xs.take k = ys.take k ∧ Below w.heap.size w wr) (fun i _ => n - (intOf i).toNat)
    case atStart => exact ⟨0, Nat.zero_le _, rfl, by simp, Below.refl _ _⟩
    case round =>
      obtain ⟨k, hk, rfl, htk, hbr⟩ := hrel
      have HT := Lib.hid htk; clear htk
      by_cases hlt : k < n
      · obtain ⟨b, off, rfl, hc⟩ := HC.out (by rw [cI_len, HA.out]; omega)
        obtain ⟨b', off', rfl, hc'⟩ := HC'.out (by rw [cI_len, ← HB.out]; omega)
        have hka : k < xs.length := by rw [HA.out]; exact hlt
        have hkb : k < ys.length := by rw [← HB.out]; exact hlt
        have hx0 := hc k _ (cI_at hka)
        have hy0 := hc' k _ (cI_at hkb)
        have hx1 := (hbr.cell (World.block_lt_of_cell? w _ hx0)).trans hx0
        have hy1 := (hbr.cell (World.block_lt_of_cell? w _ hy0)).trans hy0
        obtain ⟨x, hx⟩ : ∃ x, x = xs[k] := ⟨_, rfl⟩
        obtain ⟨y, hy⟩ : ∃ y, y = ys[k] := ⟨_, rfl⟩
        rw [← hx] at hx1
        rw [← hy] at hy1
        have HX := Lib.hid (show xs[k]? = some x by rw [List.getElem?_eq_getElem hka, hx])
        have HY := Lib.hid (show ys[k]? = some y by rw [List.getElem?_eq_getElem hkb, hy])
        have HBR := Lib.hid hbr
        have hlti : (k : Int) < (n : Int) := by omega
        have hk0 : (0 : Int) ≤ (k : Int) := by omega
        clear hx hy hx0 hy0 hc hc' hbr hka hkb
        by_cases hxy : x = y
        · have hq : (x == y) = true := by rw [hxy]; simp
          have hq2 : (x != y) = false := by rw [hxy]; simp
          have HXY := Lib.hid hxy
          clear hxy
          go_wp2_with fail
          go_quiet (fail)
          go_wp2_with fail
          go_roundw
          case rel =>
            refine ⟨k + 1, by omega, by go_num, ?_, below_drewN HBR.out _⟩
            rw [List.take_add_one, List.take_add_one, HT.out, HX.out, HY.out, HXY.out]
          case measure => simp [intOf]; omega
        · have hq : (x == y) = false := by simpa using hxy
          have hq2 : (x != y) = true := by simpa using hxy
          have HXY := Lib.hid hxy
          clear hxy
          go_wp2_with fail
          go_quiet (fail)
          go_wp2_with fail
          go_ret
          refine ⟨ret_bool ?_, below_drewN HBR.out _⟩
          symm
          rw [decide_eq_false_iff_not]
          intro e
          have h1 := HX.out
          rw [e, HY.out] at h1
          exact HXY.out (Option.some.inj h1).symm
      · obtain rfl : k = n := by omega
        have HBR := Lib.hid hbr
        clear hbr
        go_wp2_with fail
        go_ret
        refine ⟨ret_bool ?_, HBR.out⟩
        symm
        rw [decide_eq_true_iff]
        have := HT.out
        rwa [List.take_of_length_le (by rw [HA.out]; exact Nat.le_refl _), List.take_of_length_le (by rw [← HB.out]; exact Nat.le_refl _)] at this
  · obtain ⟨_, A, c, rfl, hnc, hcm, hcell⟩ := ha
    obtain ⟨_, A', c', rfl, hnc', hcm', hcell'⟩ := hb
    have hq : ((xs.length : Int) == (ys.length : Int)) = false := by rw [beq_eq_false_iff_ne]; omega
    have hq2 : ((xs.length : Int) != (ys.length : Int)) = true := by rw [bne_iff_ne]; omega
    have HL := Lib.hid hlen
    clear hlen hcell hcell'
    go_enter Tryd.func103, Tryd.ntmps103
    go_wp2_with fail
    go_ret
    refine ⟨ret_bool ?_, Below.refl _ _⟩
    symm
    rw [decide_eq_false_iff_not]
    intro e
    exact HL.out (by rw [e])

end Go.Proofs.YtkjjgpkegihmhaaDoor

namespace Go.Proofs.YtkjjgpkegihmhaaDoor
open Go.RowKit

/-- A rule's value. -/
def ruleVal (r : RuleD) (vb vn vt vk : Value) : Value := .agg #[.string r.name, .int .i64 r.kind, .int .i64 r.size, .bool r.little, vb, vn, vt, vk]

theorem rdRule_parts {w : World} {r : RuleD} {vb vn vt vk : Value} (h : RdRule w (ruleCells r vb vn vt vk) r) :
    Rd w vb 1 r.bytes.length (cB r.bytes) ∧ Rd w vn 1 r.names.length (cS r.names) ∧ Rd w vt 1 r.tags.length (cI r.tags) ∧ Rd w vk 1 r.kids.length (cI r.kids) := by
  obtain ⟨vb', vn', vt', vk', e, hb, hn, ht, hk⟩ := h
  unfold ruleCells at e
  injection e with _ e; injection e with _ e; injection e with _ e; injection e with _ e; injection e with e1 e; injection e with e2 e; injection e with e3 e; injection e with e4 _
  subst e1; subst e2; subst e3; subst e4
  exact ⟨hb, hn, ht, hk⟩

theorem rule_ext {r q : RuleD} (h0 : r.name = q.name) (h1 : r.kind = q.kind) (h2 : r.size = q.size) (h3 : r.little = q.little) (h4 : r.bytes = q.bytes) (h5 : r.names = q.names) (h6 : r.tags = q.tags) (h7 : r.kids = q.kids) : r = q := by
  cases r; cases q; simp_all

set_option maxHeartbeats 4000000 in
theorem l_eqRule (r q : RuleD) (vb vn vt vk ub un ut uk : Value) (w : World) (hr : RdRule w (ruleCells r vb vn vt vk) r) (hq : RdRule w (ruleCells q ub un ut uk) q) :
    Calls Tryd.prog 69 #[.agg #[.string r.name, .int .i64 r.kind, .int .i64 r.size, .bool r.little, vb, vn, vt, vk], .agg #[.string q.name, .int .i64 q.kind, .int .i64 q.size, .bool q.little, ub, un, ut, uk]] w
      fun e w' => e = .returned (.bool (decide (r = q))) ∧ Below w.heap.size w w' := by
  have HA := ((Below.refl w.heap.size w).alloc (Nat.le_refl _) (.cells #[.string r.name, .int .i64 r.kind, .int .i64 r.size, .bool r.little, vb, vn, vt, vk] 43)).alloc (by simp) (.cells #[.string q.name, .int .i64 q.kind, .int .i64 q.size, .bool q.little, ub, un, ut, uk] 43)
  obtain ⟨hb, hn, ht, hk⟩ := rdRule_parts hr
  obtain ⟨gb, gn, gt, gk⟩ := rdRule_parts hq
  have HB := Lib.hid (hb.below HA)
  have HN := Lib.hid (hn.below HA)
  have HT := Lib.hid (ht.below HA)
  have HK := Lib.hid (hk.below HA)
  have GB := Lib.hid (gb.below HA)
  have GN := Lib.hid (gn.below HA)
  have GT := Lib.hid (gt.below HA)
  have GK := Lib.hid (gk.below HA)
  have HA' := Lib.hid HA
  have no : r ≠ q → Hid (false = decide (r = q)) := fun h => by show _ = _; symm; simpa using h
  have NO := Lib.hid no
  obtain ⟨D, hD⟩ : ∃ D, D = decide (r = q) := ⟨_, rfl⟩
  have HD := Lib.hid hD
  rw [← hD]
  clear HA hr hq hb hn ht hk gb gn gt gk no hD
  by_cases c0 : r.name = q.name
  · have x0 : (r.name.toList == q.name.toList) = true := by rw [c0]; simp
    have C0 := Lib.hid c0
    clear c0
    by_cases c1 : r.kind = q.kind
    · have x1 : (r.kind == q.kind) = true := by rw [c1]; simp
      have y1 : (r.kind != q.kind) = false := by rw [c1]; simp
      have C1 := Lib.hid c1
      clear c1
      by_cases c2 : r.size = q.size
      · have x2 : (r.size == q.size) = true := by rw [c2]; simp
        have y2 : (r.size != q.size) = false := by rw [c2]; simp
        have C2 := Lib.hid c2
        clear c2
        by_cases c3 : r.little = q.little
        · have x3 : (r.little == q.little) = true := by rw [c3]; simp
          have y3 : (r.little != q.little) = false := by rw [c3]; simp
          have C3 := Lib.hid c3
          clear c3
          go_enter Tryd.func69, Tryd.ntmps69
          go_wp2_with fail
          have BA0 : Box ((w.alloc (.cells #[.string r.name, .int .i64 r.kind, .int .i64 r.size, .bool r.little, vb, vn, vt, vk] 43)).alloc (.cells #[.string q.name, .int .i64 q.kind, .int .i64 q.size, .bool q.little, ub, un, ut, uk] 43)) w.heap.size 43 #[.string r.name, .int .i64 r.kind, .int .i64 r.size, .bool r.little, vb, vn, vt, vk] := (Box.new w _ _).alloc _
          have BB0 : Box ((w.alloc (.cells #[.string r.name, .int .i64 r.kind, .int .i64 r.size, .bool r.little, vb, vn, vt, vk] 43)).alloc (.cells #[.string q.name, .int .i64 q.kind, .int .i64 q.size, .bool q.little, ub, un, ut, uk] 43)) (w.heap.size + 1) 43 #[.string q.name, .int .i64 q.kind, .int .i64 q.size, .bool q.little, ub, un, ut, uk] := by simpa using Box.new (w.alloc (.cells #[.string r.name, .int .i64 r.kind, .int .i64 r.size, .bool r.little, vb, vn, vt, vk] 43)) 43 #[.string q.name, .int .i64 q.kind, .int .i64 q.size, .bool q.little, ub, un, ut, uk]
          have XA0 := Lib.hid BA0
          have XB0 := Lib.hid BB0
          clear BA0 BB0
          refine (l_eqByteS vb ub r.bytes q.bytes _ HB.out GB.out).mono ?_
          by_cases c4 : r.bytes = q.bytes
          · rw [decide_eq_true c4]
            have C4 := Lib.hid c4
            clear c4
            rintro e w1 ⟨rfl, hb1⟩
            have BA1 := XA0.out.below hb1
            have BB1 := XB0.out.below hb1
            have d1 : w1.cell? ⟨w.heap.size, 5, none⟩ = some vn := BA1.cell 5
            have d2 : w1.cell? ⟨w.heap.size + 1, 5, none⟩ = some un := BB1.cell 5
            have XA1 := Lib.hid BA1
            have XB1 := Lib.hid BB1
            have HB1 := Lib.hid hb1
            clear BA1 BB1 hb1
            go_wp2_with fail
            clear d1 d2
            refine (l_eqStringS vn un r.names q.names _ (HN.out.below HB1.out) (GN.out.below HB1.out)).mono ?_
            by_cases c5 : r.names = q.names
            · rw [decide_eq_true c5]
              have C5 := Lib.hid c5
              clear c5
              rintro e w2 ⟨rfl, hb2⟩
              have BA2 := XA1.out.below hb2
              have BB2 := XB1.out.below hb2
              have d1 : w2.cell? ⟨w.heap.size, 6, none⟩ = some vt := BA2.cell 6
              have d2 : w2.cell? ⟨w.heap.size + 1, 6, none⟩ = some ut := BB2.cell 6
              have XA2 := Lib.hid BA2
              have XB2 := Lib.hid BB2
              have HB2 := Lib.hid (Below.then_ HB1.out hb2 (Nat.le_refl _))
              clear BA2 BB2 hb2
              go_wp2_with fail
              clear d1 d2
              refine (l_eqIntS vt ut r.tags q.tags _ (HT.out.below HB2.out) (GT.out.below HB2.out)).mono ?_
              by_cases c6 : r.tags = q.tags
              · rw [decide_eq_true c6]
                have C6 := Lib.hid c6
                clear c6
                rintro e w3 ⟨rfl, hb3⟩
                have BA3 := XA2.out.below hb3
                have BB3 := XB2.out.below hb3
                have d1 : w3.cell? ⟨w.heap.size, 7, none⟩ = some vk := BA3.cell 7
                have d2 : w3.cell? ⟨w.heap.size + 1, 7, none⟩ = some uk := BB3.cell 7
                have XA3 := Lib.hid BA3
                have XB3 := Lib.hid BB3
                have HB3 := Lib.hid (Below.then_ HB2.out hb3 (Nat.le_refl _))
                clear BA3 BB3 hb3
                go_wp2_with fail
                clear d1 d2
                refine (l_eqIntS vk uk r.kids q.kids _ (HK.out.below HB3.out) (GK.out.below HB3.out)).mono ?_
                by_cases c7 : r.kids = q.kids
                · rw [decide_eq_true c7]
                  have C7 := Lib.hid c7
                  clear c7
                  rintro e w4 ⟨rfl, hb4⟩
                  have hy : Hid (true = D) := by show _ = _; rw [HD.out]; symm; simpa using rule_ext C0.out C1.out C2.out C3.out C4.out C5.out C6.out C7.out
                  have hbz := Below.then_ HA'.out (Below.then_ HB3.out hb4 (Nat.le_refl _)) (by simp)
                  go_wp2_with fail
                  go_ret
                  exact ⟨ret_bool hy.out, hbz⟩
                · rw [decide_eq_false c7]
                  have hy := NO.out (fun e => c7 (by rw [e]))
                  rintro e w4 ⟨rfl, hb4⟩
                  have hbz := Below.then_ HA'.out (Below.then_ HB3.out hb4 (Nat.le_refl _)) (by simp)
                  clear hb4
                  go_wp2_with fail
                  go_ret
                  exact ⟨ret_bool (by rw [HD.out]; exact hy.out), hbz⟩
              · rw [decide_eq_false c6]
                have hy := NO.out (fun e => c6 (by rw [e]))
                rintro e w3 ⟨rfl, hb3⟩
                have hbz := Below.then_ HA'.out (Below.then_ HB2.out hb3 (Nat.le_refl _)) (by simp)
                clear hb3
                go_wp2_with fail
                go_ret
                exact ⟨ret_bool (by rw [HD.out]; exact hy.out), hbz⟩
            · rw [decide_eq_false c5]
              have hy := NO.out (fun e => c5 (by rw [e]))
              rintro e w2 ⟨rfl, hb2⟩
              have hbz := Below.then_ HA'.out (Below.then_ HB1.out hb2 (Nat.le_refl _)) (by simp)
              clear hb2
              go_wp2_with fail
              go_ret
              exact ⟨ret_bool (by rw [HD.out]; exact hy.out), hbz⟩
          · rw [decide_eq_false c4]
            have hy := NO.out (fun e => c4 (by rw [e]))
            rintro e w1 ⟨rfl, hb1⟩
            have hbz := Below.then_ HA'.out hb1 (by simp)
            clear hb1
            go_wp2_with fail
            go_ret
            exact ⟨ret_bool (by rw [HD.out]; exact hy.out), hbz⟩
        · have x3 : (r.little == q.little) = false := by simpa using c3
          have y3 : (r.little != q.little) = true := by simpa using c3
          have hy := NO.out (fun e => c3 (by rw [e]))
          clear c3
          go_enter Tryd.func69, Tryd.ntmps69
          go_wp2_with fail
          go_ret
          exact ⟨ret_bool (by rw [HD.out]; exact hy.out), HA'.out⟩
      · have x2 : (r.size == q.size) = false := by simpa using c2
        have y2 : (r.size != q.size) = true := by simpa using c2
        have hy := NO.out (fun e => c2 (by rw [e]))
        clear c2
        go_enter Tryd.func69, Tryd.ntmps69
        go_wp2_with fail
        go_ret
        exact ⟨ret_bool (by rw [HD.out]; exact hy.out), HA'.out⟩
    · have x1 : (r.kind == q.kind) = false := by simpa using c1
      have y1 : (r.kind != q.kind) = true := by simpa using c1
      have hy := NO.out (fun e => c1 (by rw [e]))
      clear c1
      go_enter Tryd.func69, Tryd.ntmps69
      go_wp2_with fail
      go_ret
      exact ⟨ret_bool (by rw [HD.out]; exact hy.out), HA'.out⟩
  · have x0 : (r.name.toList == q.name.toList) = false := str_ne c0
    have hy := NO.out (fun e => c0 (by rw [e]))
    go_enter Tryd.func69, Tryd.ntmps69
    go_wp2_with fail
    go_ret
    exact ⟨ret_bool (by rw [HD.out]; exact hy.out), HA'.out⟩

end Go.Proofs.YtkjjgpkegihmhaaDoor

namespace Go.Proofs.YtkjjgpkegihmhaaDoor
open Go.RowKit

/-- The cells of a rule, as the walk asks for them. -/
abbrev Cells8 (w : World) (b o : Nat) (r : RuleD) (vb vn vt vk : Value) : Prop :=
  w.cell? ⟨b, o, none⟩ = some (.string r.name) ∧ w.cell? ⟨b, o + 1, none⟩ = some (.int .i64 r.kind) ∧ w.cell? ⟨b, o + 2, none⟩ = some (.int .i64 r.size) ∧ w.cell? ⟨b, o + 3, none⟩ = some (.bool r.little) ∧
  w.cell? ⟨b, o + 4, none⟩ = some vb ∧ w.cell? ⟨b, o + 5, none⟩ = some vn ∧ w.cell? ⟨b, o + 6, none⟩ = some vt ∧ w.cell? ⟨b, o + 7, none⟩ = some vk
theorem RuleCells.eight {w : World} {b o : Nat} {r : RuleD} {vb vn vt vk : Value} (h : RuleCells w b o r vb vn vt vk) : Cells8 w b o r vb vn vt vk := ⟨h.c0, h.c1, h.c2, h.c3, h.c4, h.c5, h.c6, h.c7⟩
theorem Cells8.two {w : World} {b o b' o' : Nat} {r q : RuleD} {vb vn vt vk ub un ut uk : Value} (h : Cells8 w b o r vb vn vt vk) (h' : Cells8 w b' o' q ub un ut uk) :
    w.cell? ⟨b, o, none⟩ = some (.string r.name) ∧ w.cell? ⟨b, o + 1, none⟩ = some (.int .i64 r.kind) ∧ w.cell? ⟨b, o + 2, none⟩ = some (.int .i64 r.size) ∧ w.cell? ⟨b, o + 3, none⟩ = some (.bool r.little) ∧ w.cell? ⟨b, o + 4, none⟩ = some vb ∧ w.cell? ⟨b, o + 5, none⟩ = some vn ∧ w.cell? ⟨b, o + 6, none⟩ = some vt ∧ w.cell? ⟨b, o + 7, none⟩ = some vk ∧ Cells8 w b' o' q ub un ut uk := by
  obtain ⟨h0, h1, h2, h3, h4, h5, h6, h7⟩ := h
  exact ⟨h0, h1, h2, h3, h4, h5, h6, h7, h'⟩
theorem RuleCells.rd {w : World} {b o : Nat} {r : RuleD} {vb vn vt vk : Value} (h : RuleCells w b o r vb vn vt vk) : RdRule w (ruleCells r vb vn vt vk) r := ⟨vb, vn, vt, vk, rfl, h.rb, h.rn, h.rt, h.rk⟩
theorem RuleCells.drew {w : World} {b o : Nat} {r : RuleD} {vb vn vt vk : Value} (h : RuleCells w b o r vb vn vt vk) : RuleCells w.drew b o r vb vn vt vk := h.keep fun _ _ => rfl

set_option maxHeartbeats 4000000 in
theorem l_eqRuleS (va vb : Value) (xs ys : List RuleD) (w : World) (ha : RdRules w va xs) (hb : RdRules w vb ys) :
    Calls Tryd.prog 45 #[va, vb] w fun e w' => e = .returned (.bool (decide (xs = ys))) ∧ Below w.heap.size w w' := by
  by_cases hlen : xs.length = ys.length
  · obtain ⟨n, hn⟩ : ∃ n, n = ys.length := ⟨_, rfl⟩
    obtain ⟨A, c, rfl, hnc, hcm, hcell⟩ := ha.all
    obtain ⟨A', c', rfl, hnc', hcm', hcell'⟩ := hb.all
    rw [hlen, ← hn] at hnc ⊢
    rw [← hn] at hnc' hlen
    unfold maxLen at hcm hcm'
    have HA := Lib.hid hlen; clear hlen
    have HB := Lib.hid hn; clear hn
    have HC := Lib.hid hcell; clear hcell
    have HC' := Lib.hid hcell'; clear hcell' ha hb
    obtain ⟨D, hD⟩ : ∃ D, D = decide (xs = ys) := ⟨_, rfl⟩
    have HD := Lib.hid hD
    rw [← hD]
    clear hD
    go_enter Tryd.func45, Tryd.ntmps45
    go_wp2_with fail
    go_loopw [5] (fun i wr => ∃ k : Nat, k ≤ n ∧ i = .int .i64 k ∧ xs.take k = ys.take k ∧ Below w.heap.size w wr) (fun i _ => n - (intOf i).toNat)
    case atStart => exact ⟨0, Nat.zero_le _, rfl, by simp, Below.refl _ _⟩
    case round =>
      obtain ⟨k, hk, rfl, htk, hbr⟩ := hrel
      have HT := Lib.hid htk; clear htk
      by_cases hlt : k < n
      · have hka : k < xs.length := by rw [HA.out]; exact hlt
        have hkb : k < ys.length := by rw [← HB.out]; exact hlt
        obtain ⟨b, off, rfl, hc⟩ := HC.out (by omega)
        obtain ⟨b', off', rfl, hc'⟩ := HC'.out (by omega)
        obtain ⟨vb, vn, vt, vk, hr⟩ := hc k hka
        obtain ⟨ub, un, ut, uk, hq⟩ := hc' k hkb
        have hr1 := hr.below hbr
        have hq1 := hq.below hbr
        obtain ⟨r, hr0⟩ : ∃ r, r = xs[k] := ⟨_, rfl⟩
        obtain ⟨q, hq0⟩ : ∃ q, q = ys[k] := ⟨_, rfl⟩
        rw [← hr0] at hr1
        rw [← hq0] at hq1
        have HX := Lib.hid (show xs[k]? = some r by rw [List.getElem?_eq_getElem hka, hr0])
        have HY := Lib.hid (show ys[k]? = some q by rw [List.getElem?_eq_getElem hkb, hq0])
        have HBR := Lib.hid hbr
        have hlti : (k : Int) < (n : Int) := by omega
        have hk0 : (0 : Int) ≤ (k : Int) := by omega
        have hr2 := Lib.hid hr1.drew.rd
        have hq2 := Lib.hid hq1.drew.rd
        have HR1 := Lib.hid hr1
        have HQ1 := Lib.hid hq1
        have cr := hr1.eight
        have cq := hq1.eight
        clear hr0 hq0 hr hq hc hc' hbr hka hkb hr1 hq1
        obtain ⟨D0, D1, D2, D3, D4, D5, D6, D7⟩ := cr
        obtain ⟨E0, E1, E2, E3, E4, E5, E6, E7⟩ := cq
        go_wp2_with fail
        go_region_held3 (fun w' => w'.cell? ⟨b, off + k * 8, none⟩ = some (.string r.name) ∧ w'.cell? ⟨b, off + k * 8 + 1, none⟩ = some (.int .i64 r.kind) ∧ w'.cell? ⟨b, off + k * 8 + 2, none⟩ = some (.int .i64 r.size) ∧ w'.cell? ⟨b, off + k * 8 + 3, none⟩ = some (.bool r.little) ∧ w'.cell? ⟨b, off + k * 8 + 4, none⟩ = some vb ∧ w'.cell? ⟨b, off + k * 8 + 5, none⟩ = some vn ∧ w'.cell? ⟨b, off + k * 8 + 6, none⟩ = some vt ∧ w'.cell? ⟨b, off + k * 8 + 7, none⟩ = some vk ∧ w'.cell? ⟨b', off' + k * 8, none⟩ = some (.string q.name) ∧ w'.cell? ⟨b', off' + k * 8 + 1, none⟩ = some (.int .i64 q.kind) ∧ w'.cell? ⟨b', off' + k * 8 + 2, none⟩ = some (.int .i64 q.size) ∧ w'.cell? ⟨b', off' + k * 8 + 3, none⟩ = some (.bool q.little) ∧ w'.cell? ⟨b', off' + k * 8 + 4, none⟩ = some ub ∧ w'.cell? ⟨b', off' + k * 8 + 5, none⟩ = some un ∧ w'.cell? ⟨b', off' + k * 8 + 6, none⟩ = some ut ∧ w'.cell? ⟨b', off' + k * 8 + 7, none⟩ = some uk)
          (first | go_keep | (exact Cells8.two (HR1.out.drew.below hbx).eight (HQ1.out.drew.below hbx).eight))
          ((go_at_call 69; refine (l_eqRule r q vb vn vt vk ub un ut uk _ hr2.out hq2.out).mono ?_; rintro e w1 ⟨rfl, hbx⟩))
        have hb1 : Below w.heap.size w w1 := Below.then_ HBR.out (Below.then_ (Below.refl wr.heap.size wr).drew hbx (Nat.le_refl _)) (Nat.le_refl _)
        clear hbx
        by_cases hxy : r = q
        · rw [decide_eq_true hxy]
          have HXY := Lib.hid hxy
          have HB1 := Lib.hid hb1
          clear hxy hb1 D0 D1 D2 D3 D4 D5 D6 D7 E0 E1 E2 E3 E4 E5 E6 E7
          go_wp2_with fail
          go_roundw
          case rel =>
            refine ⟨k + 1, by omega, by go_num, ?_, HB1.out⟩
            rw [List.take_add_one, List.take_add_one, HT.out, HX.out, HY.out, HXY.out]
          case measure => simp [intOf]; omega
        · rw [decide_eq_false hxy]
          have hfin : Hid (false = D) := by
            show _ = _
            rw [HD.out]; symm
            rw [decide_eq_false_iff_not]
            intro e
            have h1 := HX.out
            rw [e, HY.out] at h1
            exact hxy (Option.some.inj h1).symm
          have HB1 := Lib.hid hb1
          clear hxy hb1 D0 D1 D2 D3 D4 D5 D6 D7 E0 E1 E2 E3 E4 E5 E6 E7
          go_wp2_with fail
          go_ret
          exact ⟨ret_bool hfin.out, HB1.out⟩
      · obtain rfl : k = n := by omega
        have hfin : Hid (true = D) := by
          show _ = _
          rw [HD.out]; symm
          rw [decide_eq_true_iff]
          have := HT.out
          rwa [List.take_of_length_le (by rw [HA.out]; exact Nat.le_refl _), List.take_of_length_le (by rw [← HB.out]; exact Nat.le_refl _)] at this
        have HBR := Lib.hid hbr
        clear hbr
        go_wp2_with fail
        go_ret
        exact ⟨ret_bool hfin.out, HBR.out⟩
  · obtain ⟨A, c, rfl, hnc, hcm, _⟩ := ha.all
    obtain ⟨A', c', rfl, hnc', hcm', _⟩ := hb.all
    have hq : ((xs.length : Int) == (ys.length : Int)) = false := by rw [beq_eq_false_iff_ne]; omega
    have hq2 : ((xs.length : Int) != (ys.length : Int)) = true := by rw [bne_iff_ne]; omega
    have hfin : Hid (false = decide (xs = ys)) := by
      show _ = _
      symm
      rw [decide_eq_false_iff_not]
      intro e
      exact hlen (by rw [e])
    clear hlen ha hb
    go_enter Tryd.func45, Tryd.ntmps45
    go_wp2_with fail
    go_ret
    exact ⟨ret_bool hfin.out, Below.refl _ _⟩

set_option maxHeartbeats 2000000 in
theorem l_eqDescription (d e : Value) (xs ys : List RuleD) (w : World) (hd : RdDesc w d xs) (he : RdDesc w e ys) :
    Calls Tryd.prog 12 #[d, e] w fun e w' => e = .returned (.bool (decide (xs = ys))) ∧ Below w.heap.size w w' := by
  obtain ⟨v, rfl, hv⟩ := hd
  obtain ⟨u, rfl, hu⟩ := he
  have HA := ((Below.refl w.heap.size w).alloc (Nat.le_refl _) (.cells #[v] 29)).alloc (by simp) (.cells #[u] 29)
  have HV := Lib.hid (hv.below HA)
  have HU := Lib.hid (hu.below HA)
  have HA' := Lib.hid HA
  obtain ⟨D, hD⟩ : ∃ D, D = decide (xs = ys) := ⟨_, rfl⟩
  have EQ := Lib.hid (fun w hx hy => l_eqRuleS v u xs ys w hx hy)
  rw [← hD] at EQ ⊢
  clear HA hv hu hD
  go_enter Tryd.func12, Tryd.ntmps12
  go_wp2_with fail
  refine (EQ.out _ HV.out HU.out).mono ?_
  rintro e w1 ⟨rfl, hb1⟩
  have hbz := Below.then_ HA'.out hb1 (by simp)
  clear hb1
  cases D
  · go_wp2_with fail
    go_ret
    exact ⟨rfl, hbz⟩
  · go_wp2_with fail
    go_ret
    exact ⟨rfl, hbz⟩

end Go.Proofs.YtkjjgpkegihmhaaDoor

namespace Go.Proofs.YtkjjgpkegihmhaaDoor
open Go.RowKit

/-- Three blocks, one behind the other, each known whole. -/
def Three (w : World) (B : Nat) (t1 t2 t3 : TypeId) (b1 b2 b3 : Array Value) : Prop :=
  w.heap[B]? = some (.cells b1 t1 (0, 0)) ∧ w.heap[B + 1]? = some (.cells b2 t2 (0, 0)) ∧ w.heap[B + 1 + 1]? = some (.cells b3 t3 (0, 0))
section
variable {w w' : World} {B : Nat} {t1 t2 t3 : TypeId} {b1 b2 b3 : Array Value}
theorem Three.new (w : World) (t1 t2 t3 : TypeId) (b1 b2 b3 : Array Value) : Three (((w.alloc (.cells b1 t1)).alloc (.cells b2 t2)).alloc (.cells b3 t3)) w.heap.size t1 t2 t3 b1 b2 b3 := by
  refine ⟨?_, ?_, ?_⟩
  · rw [Below.heap_alloc _ _ _ (by simp; omega), Below.heap_alloc _ _ _ (by simp)]; exact heap_alloc_new w _
  · rw [Below.heap_alloc _ _ _ (by simp)]
    have := heap_alloc_new (w.alloc (.cells b1 t1)) (.cells b2 t2)
    simpa using this
  · have := heap_alloc_new ((w.alloc (.cells b1 t1)).alloc (.cells b2 t2)) (.cells b3 t3)
    simpa using this
theorem Three.lt (h : Three w B t1 t2 t3 b1 b2 b3) : B + 1 + 1 < w.heap.size := (Array.getElem?_eq_some_iff.1 h.2.2).1
theorem Three.below (h : Three w B t1 t2 t3 b1 b2 b3) (hb : Below w.heap.size w w') : Three w' B t1 t2 t3 b1 b2 b3 := by
  have hl := h.lt
  exact ⟨(hb.block _ (by omega)).trans h.1, (hb.block _ (by omega)).trans h.2.1, (hb.block _ hl).trans h.2.2⟩
theorem Three.set (h : Three w B t1 t2 t3 b1 b2 b3) (j : Nat) (v : Value) : Three (w.setCell ⟨B + 1 + 1, j, none⟩ v) B t1 t2 t3 b1 b2 (b3.setIfInBounds j v) := by
  refine ⟨?_, ?_, ?_⟩
  · rw [heap_setCell_other w ⟨B + 1 + 1, j, none⟩ B v (by show B ≠ B + 1 + 1; omega)]; exact h.1
  · rw [heap_setCell_other w ⟨B + 1 + 1, j, none⟩ (B + 1) v (by show B + 1 ≠ B + 1 + 1; omega)]; exact h.2.1
  · have := h.2.2
    simp [World.setCell, Array.getElem?_modify, this]
theorem Three.box (h : Three w B t1 t2 t3 b1 b2 b3) (j : Nat) : w.cell? ⟨B, j, none⟩ = b1[j]? := cell_of_row w B j b1 t1 (0, 0) h.1
theorem Three.res (h : Three w B t1 t2 t3 b1 b2 b3) (j : Nat) : w.cell? ⟨B + 1, j, none⟩ = b2[j]? := cell_of_row w (B + 1) j b2 t2 (0, 0) h.2.1
theorem Three.out (h : Three w B t1 t2 t3 b1 b2 b3) (j : Nat) : w.cell? ⟨B + 1 + 1, j, none⟩ = b3[j]? := cell_of_row w (B + 1 + 1) j b3 t3 (0, 0) h.2.2
theorem Three.fre (h : Three w B t1 t2 t3 b1 b2 b3) (j : Nat) : w.frozen? ⟨B + 1, j, none⟩ = false ∧ w.frozen? ⟨B + 1 + 1, j, none⟩ = false := by
  obtain ⟨h1, h2, h3⟩ := h
  exact ⟨by simp [World.frozen?, h2], by simp [World.frozen?, h3]⟩
end

/-- A new rule. -/
def MadeRule (r : RuleD) (w : World) (e : Ending) (w' : World) : Prop :=
  ∃ vb vn vt vk, e = .returned (.agg #[.string r.name, .int .i64 r.kind, .int .i64 r.size, .bool r.little, vb, vn, vt, vk]) ∧ OwnRule w' w.heap.size (ruleCells r vb vn vt vk) r ∧ (blocks (ruleCells r vb vn vt vk)).Nodup ∧ Below w.heap.size w w'

theorem blocks_nodup {r : RuleD} {vb vn vt vk : Value} {a b c d e : Nat} (h1 : ∀ k, vb.ownBlock = some k → a ≤ k ∧ k < b) (h2 : ∀ k, vn.ownBlock = some k → b ≤ k ∧ k < c) (h3 : ∀ k, vt.ownBlock = some k → c ≤ k ∧ k < d) (h4 : ∀ k, vk.ownBlock = some k → d ≤ k ∧ k < e)
    (hc : b ≤ c) (hd : c ≤ d) : (blocks (ruleCells r vb vn vt vk)).Nodup := by
  rw [blocks_rule]
  unfold blocks
  cases e1 : vb.ownBlock <;> cases e2 : vn.ownBlock <;> cases e3 : vt.ownBlock <;> cases e4 : vk.ownBlock <;> simp [e1, e2, e3, e4] <;>
    (try have g1 := h1 _ e1) <;> (try have g2 := h2 _ e2) <;> (try have g3 := h3 _ e3) <;> (try have g4 := h4 _ e4) <;> omega

theorem own_set {w : World} {base : Nat} {e : TypeId} {size n g j : Nat} {v u : Value} {xs : List Value} (h : w.ownsRow base e size v n xs) (hg : g < base) : (w.setCell ⟨g, j, none⟩ u).ownsRow base e size v n xs :=
  h.kept (row := some g) ⟨rfl, rfl, rfl, by simp [World.setCell], fun i _ hne => heap_setCell_other w ⟨g, j, none⟩ i u (fun e => hne (by simp [e]))⟩ (by
    right; intro e
    have := (h.lt g e).1
    omega)

/-- The world behind the last stores. -/
theorem own_nine {w : World} {base B : Nat} {e : TypeId} {size n : Nat} {v : Value} {xs : List Value} (h : w.ownsRow base e size v n xs) (h1 : B + 1 + 1 < base) (u u0 u1 u2 u3 u4 u5 u6 u7 : Value) :
    (((((((((w.setCell ⟨B + 1 + 1, 7, none⟩ u).setCell ⟨B + 1, 0, none⟩ u0).setCell ⟨B + 1, 1, none⟩ u1).setCell ⟨B + 1, 2, none⟩ u2).setCell ⟨B + 1, 3, none⟩ u3).setCell ⟨B + 1, 4, none⟩ u4).setCell ⟨B + 1, 5, none⟩ u5).setCell ⟨B + 1, 6, none⟩ u6).setCell ⟨B + 1, 7, none⟩ u7).ownsRow base e size v n xs :=
  have h2 : B + 1 < base := by omega
  own_set (own_set (own_set (own_set (own_set (own_set (own_set (own_set (own_set h h1) h2) h2) h2) h2) h2) h2) h2) h2
theorem below_nine {w0 w : World} {B : Nat} (h : Below B w0 w) (u u0 u1 u2 u3 u4 u5 u6 u7 : Value) :
    Below B w0 (((((((((w.setCell ⟨B + 1 + 1, 7, none⟩ u).setCell ⟨B + 1, 0, none⟩ u0).setCell ⟨B + 1, 1, none⟩ u1).setCell ⟨B + 1, 2, none⟩ u2).setCell ⟨B + 1, 3, none⟩ u3).setCell ⟨B + 1, 4, none⟩ u4).setCell ⟨B + 1, 5, none⟩ u5).setCell ⟨B + 1, 6, none⟩ u6).setCell ⟨B + 1, 7, none⟩ u7) :=
  have h1 : B ≤ B + 1 + 1 := by omega
  have h2 : B ≤ B + 1 := by omega
  ((((((((h.setCell (p := ⟨B + 1 + 1, 7, none⟩) h1 u).setCell (p := ⟨B + 1, 0, none⟩) h2 u0).setCell (p := ⟨B + 1, 1, none⟩) h2 u1).setCell (p := ⟨B + 1, 2, none⟩) h2 u2).setCell (p := ⟨B + 1, 3, none⟩) h2 u3).setCell (p := ⟨B + 1, 4, none⟩) h2 u4).setCell (p := ⟨B + 1, 5, none⟩) h2 u5).setCell (p := ⟨B + 1, 6, none⟩) h2 u6).setCell (p := ⟨B + 1, 7, none⟩) h2 u7

set_option maxHeartbeats 4000000 in
theorem l_toRule (r : RuleD) (vb vn vt vk : Value) (hs : r.bytes.length ≤ 1048576 ∧ r.names.length ≤ 1048576 ∧ r.tags.length ≤ 1048576 ∧ r.kids.length ≤ 1048576) (w : World) (h : RdRule w (ruleCells r vb vn vt vk) r) :
    Calls Tryd.prog 63 #[.agg #[.string r.name, .int .i64 r.kind, .int .i64 r.size, .bool r.little, vb, vn, vt, vk]] w (MadeRule r w) := by
  obtain ⟨vb', vn', vt', vk', e, hb, hn, ht, hk⟩ := h
  unfold ruleCells at e
  injection e with _ e; injection e with _ e; injection e with _ e; injection e with _ e; injection e with e1 e; injection e with e2 e; injection e with e3 e; injection e with e4 _
  subst e1; subst e2; subst e3; subst e4
  obtain ⟨hs1, hs2, hs3, hs4⟩ := hs
  have HB := Lib.hid hb
  have HN := Lib.hid hn
  have HT := Lib.hid ht
  have HK := Lib.hid hk
  clear hb hn ht hk
  go_enter Tryd.func63, Tryd.ntmps63
  go_wp2_with fail
  have hb0 : Below w.heap.size w (((w.alloc (.cells #[.string r.name, .int .i64 r.kind, .int .i64 r.size, .bool r.little, vb, vn, vt, vk] 77)).alloc (.cells #[.string ⟨#[]⟩, .int .i64 0, .int .i64 0, .bool false, .slice none 0 0, .slice none 0 0, .slice none 0 0, .slice none 0 0] 43)).alloc (.cells #[.string r.name, .int .i64 r.kind, .int .i64 r.size, .bool r.little, .slice none 0 0, .slice none 0 0, .slice none 0 0, .slice none 0 0] 43)) := (((Below.refl _ _).alloc (Nat.le_refl _) _).alloc (by simp) _).alloc (by simp; omega) _
  have T0 := Three.new w 77 43 43 #[.string r.name, .int .i64 r.kind, .int .i64 r.size, .bool r.little, vb, vn, vt, vk] #[.string ⟨#[]⟩, .int .i64 0, .int .i64 0, .bool false, .slice none 0 0, .slice none 0 0, .slice none 0 0, .slice none 0 0] #[.string r.name, .int .i64 r.kind, .int .i64 r.size, .bool r.little, .slice none 0 0, .slice none 0 0, .slice none 0 0, .slice none 0 0]
  have HT0 := Lib.hid T0
  have HB0 := Lib.hid hb0
  clear T0 hb0
  refine (l_toByteS vb r.bytes (by omega) _ (HB.out.below HB0.out)).mono ?_
  rintro e w1 ⟨u1, rfl, ho1, hb1⟩
  obtain ⟨A1, p1, rfl⟩ : ∃ A c, u1 = .slice A r.bytes.length c := by
    obtain ⟨_, A, c, h, _⟩ := Rd.of_own ho1
    exact ⟨A, c, h⟩
  have T1 := HT0.out.below hb1
  have hb1' := Below.then_ HB0.out hb1 (Nat.le_refl _)
  have hz1 := T1.lt
  have c1 : w1.cell? ⟨w.heap.size, 5, none⟩ = some vn := T1.box 5
  have c2 : w1.cell? ⟨w.heap.size + 1 + 1, 4, none⟩ = some (.slice none 0 0) := T1.out 4
  have f1 := (T1.fre 4).2
  have T1' := T1.set 4 (.slice A1 r.bytes.length p1)
  have hb1s := hb1'.setCell (p := ⟨w.heap.size + 1 + 1, 4, none⟩) (by show w.heap.size ≤ w.heap.size + 1 + 1; omega) (.slice A1 r.bytes.length p1)
  have HO1 := Lib.hid ho1
  have HT1 := Lib.hid T1'
  have HB1 := Lib.hid hb1s
  have hsz0 : w.heap.size + 3 ≤ w1.heap.size := by omega
  clear ho1 T1 T1' hb1s hb1' hb1
  go_wp2_with fail
  refine (l_toStringS vn r.names (by omega) _ (HN.out.below HB1.out)).mono ?_
  rintro e w2 ⟨u2, rfl, ho2, hb2⟩
  obtain ⟨A2, p2, rfl⟩ : ∃ A c, u2 = .slice A r.names.length c := by
    obtain ⟨_, A, c, h, _⟩ := Rd.of_own ho2
    exact ⟨A, c, h⟩
  have T2 := HT1.out.below hb2
  have hb2' := Below.then_ HB1.out hb2 (Nat.le_refl _)
  have hsz2 : w1.heap.size ≤ w2.heap.size := by have := hb2.size; simpa [World.setCell] using this
  have hz2 := T2.lt
  have d1 : w2.cell? ⟨w.heap.size, 6, none⟩ = some vt := T2.box 6
  have d2 : w2.cell? ⟨w.heap.size + 1 + 1, 5, none⟩ = some (.slice none 0 0) := T2.out 5
  have f2 := (T2.fre 5).2
  have T2' := T2.set 5 (.slice A2 r.names.length p2)
  have hb2s := hb2'.setCell (p := ⟨w.heap.size + 1 + 1, 5, none⟩) (by show w.heap.size ≤ w.heap.size + 1 + 1; omega) (.slice A2 r.names.length p2)
  have HO2 := Lib.hid ho2
  have HO12 := Lib.hid (own_below (own_set HO1.out (g := w.heap.size + 1 + 1) (j := 4) (u := .slice A1 r.bytes.length p1) (by simp)) hb2)
  have HT2 := Lib.hid T2'
  have HB2 := Lib.hid hb2s
  clear c1 c2 f1 ho2 T2 T2' hb2s hb2' hb2
  go_wp2_with fail
  refine (l_toIntS vt r.tags (by omega) _ (HT.out.below HB2.out)).mono ?_
  rintro e w3 ⟨u3, rfl, ho3, hb3⟩
  obtain ⟨A3, p3, rfl⟩ : ∃ A c, u3 = .slice A r.tags.length c := by
    obtain ⟨_, A, c, h, _⟩ := Rd.of_own ho3
    exact ⟨A, c, h⟩
  have T3 := HT2.out.below hb3
  have hb3' := Below.then_ HB2.out hb3 (Nat.le_refl _)
  have hsz3 : w2.heap.size ≤ w3.heap.size := by have := hb3.size; simpa [World.setCell] using this
  have e1 : w3.cell? ⟨w.heap.size, 7, none⟩ = some vk := T3.box 7
  have e2 : w3.cell? ⟨w.heap.size + 1 + 1, 6, none⟩ = some (.slice none 0 0) := T3.out 6
  have f3 := (T3.fre 6).2
  have T3' := T3.set 6 (.slice A3 r.tags.length p3)
  have hb3s := hb3'.setCell (p := ⟨w.heap.size + 1 + 1, 6, none⟩) (by show w.heap.size ≤ w.heap.size + 1 + 1; omega) (.slice A3 r.tags.length p3)
  have HO3 := Lib.hid ho3
  have HO13 := Lib.hid (own_below (own_set HO12.out (g := w.heap.size + 1 + 1) (j := 5) (u := .slice A2 r.names.length p2) (by simp)) hb3)
  have HO23 := Lib.hid (own_below (own_set HO2.out (g := w.heap.size + 1 + 1) (j := 5) (u := .slice A2 r.names.length p2) (by simp [World.setCell]; omega)) hb3)
  have HT3 := Lib.hid T3'
  have HB3 := Lib.hid hb3s
  clear d1 d2 f2 ho3 T3 T3' hb3s hb3' hb3
  go_wp2_with fail
  refine (l_toIntS vk r.kids (by omega) _ (HK.out.below HB3.out)).mono ?_
  rintro e w4 ⟨u4, rfl, ho4, hb4⟩
  obtain ⟨A4, p4, rfl⟩ : ∃ A c, u4 = .slice A r.kids.length c := by
    obtain ⟨_, A, c, h, _⟩ := Rd.of_own ho4
    exact ⟨A, c, h⟩
  have T4 := HT3.out.below hb4
  have hb4' := Below.then_ HB3.out hb4 (Nat.le_refl _)
  have hsz4 : w3.heap.size ≤ w4.heap.size := by have := hb4.size; simpa [World.setCell] using this
  have HO4 := Lib.hid ho4
  have HO14 := Lib.hid (own_below (own_set HO13.out (g := w.heap.size + 1 + 1) (j := 6) (u := .slice A3 r.tags.length p3) (by simp)) hb4)
  have HO24 := Lib.hid (own_below (own_set HO23.out (g := w.heap.size + 1 + 1) (j := 6) (u := .slice A3 r.tags.length p3) (by simp [World.setCell]; omega)) hb4)
  have HO34 := Lib.hid (own_below (own_set HO3.out (g := w.heap.size + 1 + 1) (j := 6) (u := .slice A3 r.tags.length p3) (by simp [World.setCell]; omega)) hb4)
  have HB4 := Lib.hid hb4'
  have g0 : w4.cell? ⟨w.heap.size + 1 + 1, 0, none⟩ = some (.string r.name) := T4.out 0
  have g1 : w4.cell? ⟨w.heap.size + 1 + 1, 1, none⟩ = some (.int .i64 r.kind) := T4.out 1
  have g2 : w4.cell? ⟨w.heap.size + 1 + 1, 2, none⟩ = some (.int .i64 r.size) := T4.out 2
  have g3 : w4.cell? ⟨w.heap.size + 1 + 1, 3, none⟩ = some (.bool r.little) := T4.out 3
  have g4 : w4.cell? ⟨w.heap.size + 1 + 1, 4, none⟩ = some (.slice A1 r.bytes.length p1) := T4.out 4
  have g5 : w4.cell? ⟨w.heap.size + 1 + 1, 5, none⟩ = some (.slice A2 r.names.length p2) := T4.out 5
  have g6 : w4.cell? ⟨w.heap.size + 1 + 1, 6, none⟩ = some (.slice A3 r.tags.length p3) := T4.out 6
  have g7 : w4.cell? ⟨w.heap.size + 1 + 1, 7, none⟩ = some (.slice none 0 0) := T4.out 7
  have r0 : w4.cell? ⟨w.heap.size + 1, 0, none⟩ = some (.string ⟨#[]⟩) := T4.res 0
  have r1 : w4.cell? ⟨w.heap.size + 1, 1, none⟩ = some (.int .i64 0) := T4.res 1
  have r2 : w4.cell? ⟨w.heap.size + 1, 2, none⟩ = some (.int .i64 0) := T4.res 2
  have r3 : w4.cell? ⟨w.heap.size + 1, 3, none⟩ = some (.bool false) := T4.res 3
  have r4 : w4.cell? ⟨w.heap.size + 1, 4, none⟩ = some (.slice none 0 0) := T4.res 4
  have r5 : w4.cell? ⟨w.heap.size + 1, 5, none⟩ = some (.slice none 0 0) := T4.res 5
  have r6 : w4.cell? ⟨w.heap.size + 1, 6, none⟩ = some (.slice none 0 0) := T4.res 6
  have r7 : w4.cell? ⟨w.heap.size + 1, 7, none⟩ = some (.slice none 0 0) := T4.res 7
  have f4 := (T4.fre 7).2
  have q0 := (T4.fre 0).1
  have q1 := (T4.fre 1).1
  have q2 := (T4.fre 2).1
  have q3 := (T4.fre 3).1
  have q4 := (T4.fre 4).1
  have q5 := (T4.fre 5).1
  have q6 := (T4.fre 6).1
  have q7 := (T4.fre 7).1
  clear e1 e2 f3 ho4 T4 hb4' hb4
  go_wp2_with fail
  refine bodyPost_ret (v := .agg #[.string r.name, .int .i64 r.kind, .int .i64 r.size, .bool r.little, .slice A1 r.bytes.length p1, .slice A2 r.names.length p2, .slice A3 r.tags.length p3, .slice A4 r.kids.length p4]) (by simp [results, Tryd.results63, go_sem, r0, r1, r2, r3, r4, r5, r6, r7]) rfl ?_
  have lt1 : ∀ k, (Value.slice A1 r.bytes.length p1).ownBlock = some k → w.heap.size + 3 ≤ k ∧ k < w1.heap.size := fun k hk => by have := HO1.out.lt k hk; simp at this; omega
  have lt2 : ∀ k, (Value.slice A2 r.names.length p2).ownBlock = some k → w1.heap.size ≤ k ∧ k < w2.heap.size := fun k hk => by have := HO2.out.lt k hk; simpa [World.setCell] using this
  have lt3 : ∀ k, (Value.slice A3 r.tags.length p3).ownBlock = some k → w2.heap.size ≤ k ∧ k < w3.heap.size := fun k hk => by have := HO3.out.lt k hk; simpa [World.setCell] using this
  have lt4 : ∀ k, (Value.slice A4 r.kids.length p4).ownBlock = some k → w3.heap.size ≤ k ∧ k < w4.heap.size := fun k hk => by have := HO4.out.lt k hk; simpa [World.setCell] using this
  refine ⟨_, _, _, _, rfl, ⟨_, _, _, _, rfl, ?_, ?_, ?_, ?_⟩, blocks_nodup lt1 lt2 lt3 lt4 hsz2 hsz3, ?_⟩
  · exact own_mono (own_nine (own_mono (base' := w.heap.size + 3) HO14.out (by simp)) (by omega) _ _ _ _ _ _ _ _ _) (by omega)
  · exact own_mono (own_nine (own_mono (base' := w.heap.size + 3) HO24.out (by simp [World.setCell]; omega)) (by omega) _ _ _ _ _ _ _ _ _) (by omega)
  · exact own_mono (own_nine (own_mono (base' := w.heap.size + 3) HO34.out (by simp [World.setCell]; omega)) (by omega) _ _ _ _ _ _ _ _ _) (by omega)
  · exact own_mono (own_nine (own_mono (base' := w.heap.size + 3) HO4.out (by simp [World.setCell]; omega)) (by omega) _ _ _ _ _ _ _ _ _) (by omega)
  · exact below_nine HB4.out _ _ _ _ _ _ _ _ _

end Go.Proofs.YtkjjgpkegihmhaaDoor

namespace Go.Proofs.YtkjjgpkegihmhaaDoor
open Go.RowKit

theorem info_Rule : (Tryd.prog.info? 43).map (fun i => (i.zero, i.size, i.bytes)) = some (some (.agg #[.string ⟨#[]⟩, .int .i64 0, .int .i64 0, .bool false, .slice none 0 0, .slice none 0 0, .slice none 0 0, .slice none 0 0]), 8, 136) := by kernel_rfl

def setMany : List Value → Nat → List Value → List Value
  | xs, _, [] => xs
  | xs, o, v :: r => setMany (xs.set o v) (o + 1) r
theorem setMany_at (vs : List Value) : ∀ (A Z : List Value), vs.length ≤ Z.length → setMany (A ++ Z) A.length vs = A ++ vs ++ Z.drop vs.length := by
  induction vs with
  | nil => intro A Z _; simp [setMany]
  | cons v r ih =>
    intro A Z h
    cases Z with
    | nil => simp at h
    | cons z Z =>
      have e : (A ++ z :: Z).set A.length v = (A ++ [v]) ++ Z := by simp
      have e2 : A.length + 1 = (A ++ [v]).length := by simp
      rw [setMany, e, e2, ih (A ++ [v]) Z (by simpa using h)]
      simp
theorem own_sets {base g n cap size : Nat} {e : TypeId} (vs : List Value) : ∀ (o : Nat) (w : World) (xs : List Value), w.ownsRow base e size (.slice (some ⟨g, 0, none⟩) n cap) n xs →
    (w.setCells g o vs).ownsRow base e size (.slice (some ⟨g, 0, none⟩) n cap) n (setMany xs o vs) ∧ w.grownBy (w.setCells g o vs) (some g) := by
  induction vs with
  | nil => intro o w xs h; exact ⟨h, World.grownBy.refl w _⟩
  | cons v r ih =>
    intro o w xs h
    have h1 := h.stored o v
    have h2 := ih (o + 1) _ _ h1.1
    exact ⟨h2.1, grown_trans' h1.2 h2.2⟩

/-- New rules. -/
def MadeRules (l : List RuleD) (w : World) (e : Ending) (w' : World) : Prop := ∃ v, e = .returned v ∧ OwnRules w' w.heap.size v l ∧ Below w.heap.size w w'

theorem own_heap {w : World} {base g n cap size : Nat} {e : TypeId} {xs : List Value} (h : w.ownsRow base e size (.slice (some ⟨g, 0, none⟩) n cap) n xs) : ∃ cur, w.heap[g]? = some (.cells cur e (0, 0)) := by
  rcases h.2 with ⟨h, _⟩ | ⟨g', cap', cur, hv, _, hg, _⟩
  · cases h
  · injection hv with hv _ _
    injection hv with hv
    injection hv with hv
    subst hv
    exact ⟨cur, hg⟩

/-- How much a rule may hold. -/
def RuleSmall (r : RuleD) : Prop := r.bytes.length ≤ 1048576 ∧ r.names.length ≤ 1048576 ∧ r.tags.length ≤ 1048576 ∧ r.kids.length ≤ 1048576

theorem rd_oneCell {w : World} {v : Value} {size n : Nat} {xs : List Value} (h : Rd w v size n xs) : v.oneCell' = true := by
  obtain ⟨_, A, c, rfl, _⟩ := h
  rfl
theorem rule_oneCell' {w : World} {cs : List Value} {r : RuleD} (h : RdRule w cs r) : ∀ v ∈ cs, v.oneCell' = true := by
  obtain ⟨vb, vn, vt, vk, rfl, h1, h2, h3, h4⟩ := h
  intro v hv
  simp only [ruleCells, List.mem_cons, List.not_mem_nil, or_false] at hv
  rcases hv with rfl | rfl | rfl | rfl | rfl | rfl | rfl | rfl
  · rfl
  · rfl
  · rfl
  · rfl
  · exact rd_oneCell h1
  · exact rd_oneCell h2
  · exact rd_oneCell h3
  · exact rd_oneCell h4
theorem rule_oneCell {w : World} {lo : Nat} {cs : List Value} {r : RuleD} (h : OwnRule w lo cs r) : ∀ v ∈ cs, v.oneCell' = true := rule_oneCell' h.rd

/-- The rounds' relation. -/
def RulesInv (w : World) (l : List RuleD) (zs : List Value) (k : Nat) (wr : World) : Prop :=
  ∃ css : List (List Value), css.length = k ∧ wr.ownsRow w.heap.size 43 8 (.slice (some ⟨w.heap.size, 0, none⟩) l.length l.length) l.length (css.flatten ++ zs.drop (k * 8)) ∧
    (∀ (i : Nat) (cs : List Value) (r : RuleD), css[i]? = some cs → l[i]? = some r → OwnRule wr (w.heap.size + 1) cs r) ∧ (∀ b ∈ blocks css.flatten, b < wr.heap.size) ∧ (blocks css.flatten).Nodup
theorem RulesInv.step {w wr w2 : World} {l : List RuleD} {zs : List Value} {k : Nat} (h : RulesInv w l zs k wr) (hk : k < l.length) (hz : zs.length = l.length * 8) {cs : List Value} (hcs : OwnRule w2 wr.heap.size cs l[k]) (hnd : (blocks cs).Nodup) (hb : Below wr.heap.size wr w2) (hw : w.heap.size < wr.heap.size) :
    RulesInv w l zs (k + 1) (w2.setCells w.heap.size (k * 8) cs) ∧ w2.grownBy (w2.setCells w.heap.size (k * 8) cs) (some w.heap.size) := by
  obtain ⟨css, hl, hown, hr, hlt, hn⟩ := h
  have h8 : ∀ cs ∈ css, cs.length = 8 := by
    intro cs hc
    obtain ⟨i, hi, rfl⟩ := List.getElem_of_mem hc
    exact (hr i css[i] l[i] (List.getElem?_eq_getElem hi) (List.getElem?_eq_getElem (by omega))).len
  have hfl := flat_len h8
  have hc8 := hcs.len
  have hown2 := own_below hown hb
  obtain ⟨cur, hcur⟩ := own_heap hown2
  have hst := own_sets cs (k * 8) w2 _ hown2
  have e : setMany (css.flatten ++ zs.drop (k * 8)) (k * 8) cs = (css ++ [cs]).flatten ++ zs.drop ((k + 1) * 8) := by
    have h0 : k * 8 = css.flatten.length := by rw [hfl, hl]
    rw [h0, setMany_at cs _ _ (by rw [List.length_drop, hfl, hl, hz, hc8]; omega), List.drop_drop, hc8, hfl]
    have e3 : css.length * 8 + 8 = (k + 1) * 8 := by omega
    rw [hl] at e3 ⊢
    rw [e3]
    simp
  rw [e] at hst
  refine ⟨⟨css ++ [cs], by simp [hl], hst.1, ?_, ?_, ?_⟩, hst.2⟩
  · intro i c r hi hlr
    rcases Nat.lt_or_ge i css.length with h1 | h1
    · rw [List.getElem?_append_left h1] at hi
      exact ((hr i c r hi hlr).below hb).kept hst.2 hcur (by decide) (by decide) (by decide)
    · rw [List.getElem?_append_right h1] at hi
      have h2 : i - css.length = 0 := by
        rcases Nat.eq_zero_or_pos (i - css.length) with h | h
        · exact h
        · rw [List.getElem?_eq_none (by simp; omega)] at hi; cases hi
      rw [h2] at hi
      simp at hi
      have h3 : i = k := by omega
      subst h3
      rw [List.getElem?_eq_getElem hk] at hlr
      cases hlr
      subst hi
      exact (hcs.mono (by omega)).kept hst.2 hcur (by decide) (by decide) (by decide)
  · intro b hb'
    have hsz := hst.2.size
    rw [List.flatten_append, blocks_append] at hb'
    rcases List.mem_append.1 hb' with h1 | h1
    · have := hlt b h1; have := hb.size; omega
    · have := (hcs.blocks_lt b (by simpa using h1)).2; omega
  · rw [List.flatten_append, blocks_append]
    rw [List.nodup_append]
    refine ⟨hn, by simpa using hnd, ?_⟩
    intro a ha b hb' hab
    have h1 := hlt a ha
    have h2 := (hcs.blocks_lt b (by simpa using hb')).1
    omega

set_option maxHeartbeats 2000000 in
theorem l_toRuleS (v : Value) (l : List RuleD) (hn : l.length ≤ 1048576) (hs : ∀ r ∈ l, RuleSmall r) (w : World) (h : RdRules w v l) :
    Calls Tryd.prog 38 #[v] w (MadeRules l w) := by
  obtain ⟨A, c, rfl, hnc, hcm, hcell⟩ := h
  unfold maxLen at hcm
  have HC := Lib.hid hcell; clear hcell
  obtain ⟨i0, hi, hz0, hz1, hz2⟩ := info_parts info_Rule
  go_enter Tryd.func38, Tryd.ntmps38
  go_wp2_with (at_make; refine wpList_make_full _ rfl (.tmp 6) (.tmp 6) 27 rfl w.heap.size 43 i0 (.agg #[.string ⟨#[]⟩, .int .i64 0, .int .i64 0, .bool false, .slice none 0 0, .slice none 0 0, .slice none 0 0, .slice none 0 0]) 8 Tryd.underlying27 hi hz0 hz1 .i64 .i64 _ _ l.length rfl rfl rfl rfl (by rw [hz2]; omega) (by unfold maxLen; omega) (Nat.le_refl _) ?_)
  intro w1 hown hgrow
  have hb1 : Below w.heap.size w w1 := (Below.refl _ _).grown hgrow (Nat.le_refl _) (fun k hk => by cases hk)
  obtain ⟨zs, hzs⟩ : ∃ zs, zs = (madeCells #[.string ⟨#[]⟩, .int .i64 0, .int .i64 0, .bool false, .slice none 0 0, .slice none 0 0, .slice none 0 0, .slice none 0 0] (l.length * 8)).toList := ⟨_, rfl⟩
  rw [← hzs] at hown
  have hzl : zs.length = l.length * 8 := hown.1
  have HZ := Lib.hid hzl
  have hlt1 : w.heap.size < w1.heap.size := by have := (hown.lt w.heap.size rfl).2; exact this
  have hinv0 : RulesInv w l zs 0 w1 := ⟨[], rfl, by simpa using hown, by simp, by simp [blocks], by simp [blocks]⟩
  have HI0 := Lib.hid hinv0
  clear hzs hgrow hi hz0 hz1 hz2 hzl hown hinv0
  go_wp2_with fail
  go_loopw [4] (fun i wr => ∃ k : Nat, k ≤ l.length ∧ i = .int .i64 k ∧ RulesInv w l zs k wr ∧ Below w.heap.size w wr ∧ w.heap.size < wr.heap.size)
    (fun i _ => l.length - (intOf i).toNat)
  case atStart => exact ⟨0, Nat.zero_le _, rfl, HI0.out, hb1, hlt1⟩
  case round =>
    obtain ⟨k, hk, rfl, hinv, hbr, hlr⟩ := hrel
    clear hb1
    by_cases hlt : k < l.length
    · obtain ⟨b, off, rfl, hc⟩ := HC.out (by omega)
      obtain ⟨cs, hr, hat⟩ := hc k hlt
      have hr' := hr.keep (w' := wr) fun _ hp => hbr.cell hp
      have hat' : wr.rangeAt b (off + k * 8) cs := fun j u hu => by rw [hbr.cell (World.block_lt_of_cell? w _ (hat j u hu))]; exact hat j u hu
      obtain ⟨vb, vn, vt, vk, rfl, _⟩ := hr
      have HR := Lib.hid hr'
      have HAT := Lib.hid hat'
      have HSM := Lib.hid (hs l[k] (List.getElem_mem hlt))
      have HI := Lib.hid hinv
      have HBR := Lib.hid hbr
      obtain ⟨r, hr0⟩ : ∃ r, r = l[k] := ⟨_, rfl⟩
      rw [← hr0] at HR HAT HSM
      have HRL := Lib.hid hr0
      clear hc hat hat' hr' hinv hbr hr0
      go_wp2_with (refine wpList_load_mid rfl 77 (.tmp 18) rfl b (off + k * 8) rfl _ _ HAT.out Tryd.underlying77 rfl (by kernel_rfl) ?_)
      refine (l_toRule r vb vn vt vk HSM.out _ HR.out).mono ?_
      rintro e w2 ⟨ub, un, ut, uk, rfl, hor, hnd, hb2⟩
      have hst := HI.out.step hlt HZ.out (by rw [← HRL.out]; exact hor) hnd hb2 hlr
      have hthere : w2.there w.heap.size (k * 8) (#[.string r.name, .int .i64 r.kind, .int .i64 r.size, .bool r.little, ub, un, ut, uk] : Array Value).size := by
        obtain ⟨css, _, hown, _⟩ := HI.out
        have hown2 := own_below hown hb2
        intro j hj0
        have hj : j < 8 := hj0
        have hlen := hown2.1
        have hin : k * 8 + j < (css.flatten ++ zs.drop (k * 8)).length := by rw [hlen]; omega
        refine ⟨?_, hown2.frozenAt _⟩
        rw [hown2.cellAt _ (by omega), List.getElem?_eq_getElem hin]
        rfl
      have hb3 : Below w.heap.size w (w2.setCells w.heap.size (k * 8) #[.string r.name, .int .i64 r.kind, .int .i64 r.size, .bool r.little, ub, un, ut, uk].toList) := (Below.then_ HBR.out hb2 (Nat.le_refl _)).grown hst.2 (by have := hb2.size; omega) (fun g hg => by injection hg with hg; omega)
      have hz3 : w.heap.size < (w2.setCells w.heap.size (k * 8) #[.string r.name, .int .i64 r.kind, .int .i64 r.size, .bool r.little, ub, un, ut, uk].toList).heap.size := by
        have h1 : w2.heap.size ≤ (w2.setCells w.heap.size (k * 8) #[.string r.name, .int .i64 r.kind, .int .i64 r.size, .bool r.little, ub, un, ut, uk].toList).heap.size := hst.2.size
        have h2 := hb2.size
        omega
      have hi3 : RulesInv w l zs (k + 1) (w2.setCells w.heap.size (k * 8) #[.string r.name, .int .i64 r.kind, .int .i64 r.size, .bool r.little, ub, un, ut, uk].toList) := hst.1
      have HZ3 := Lib.hid hz3
      have HI3 := Lib.hid hi3
      have HB3 := Lib.hid hb3
      have HTH := Lib.hid hthere
      have hone : (#[.string r.name, .int .i64 r.kind, .int .i64 r.size, .bool r.little, ub, un, ut, uk] : Array Value).all (·.oneCell') = true := all_oneCell_toArray (rule_oneCell hor)
      have HON := Lib.hid hone
      clear hor hnd hb2 hst hthere hone hz3 hi3 hb3
      go_wp2_with (refine wpList_store_mid rfl 43 (.tmp 21) (.tmp 20) rfl w.heap.size (k * 8) #[.string r.name, .int .i64 r.kind, .int .i64 r.size, .bool r.little, ub, un, ut, uk] rfl rfl ?_ (by kernel_rfl) ?_ ?_)
      · exact HTH.out
      · exact HON.out
      go_roundw
      case rel => exact ⟨k + 1, by omega, by go_num, HI3.out, HB3.out, HZ3.out⟩
      case measure => simp [intOf]; omega
    · obtain rfl : k = l.length := by omega
      have HI := Lib.hid hinv
      have HB := Lib.hid hbr
      clear hinv hbr
      go_wp2_with fail
      go_ret
      refine ⟨_, rfl, ?_, HB.out⟩
      obtain ⟨css, h1, h2, h3, _, h4⟩ := HI.out
      rw [List.drop_of_length_le (by rw [HZ.out]; exact Nat.le_refl _), List.append_nil] at h2
      exact ⟨css, h1, h2, fun i cs r hi hl => (h3 i cs r hi hl).mono (by omega), h4⟩

theorem OwnRules.setFar {w : World} {lo : Nat} {v : Value} {l : List RuleD} (h : OwnRules w lo v l) (g j : Nat) (u : Value) (hg : g < lo) : OwnRules (w.setCell ⟨g, j, none⟩ u) lo v l := by
  obtain ⟨css, hl, hown, hr, hn⟩ := h
  refine ⟨css, hl, own_set hown hg, fun i cs r hi hl => ?_, hn⟩
  obtain ⟨vb, vn, vt, vk, e, h1, h2, h3, h4⟩ := hr i cs r hi hl
  exact ⟨vb, vn, vt, vk, e, own_set h1 hg, own_set h2 hg, own_set h3 hg, own_set h4 hg⟩

/-- A new description. -/
def MadeDesc (l : List RuleD) (w : World) (e : Ending) (w' : World) : Prop := ∃ v, e = .returned (.agg #[v]) ∧ OwnRules w' w.heap.size v l ∧ Below w.heap.size w w'

set_option maxHeartbeats 2000000 in
theorem l_toDescription (d : Value) (l : List RuleD) (hn : l.length ≤ 1048576) (hs : ∀ r ∈ l, RuleSmall r) (w : World) (h : RdDesc w d l) :
    Calls Tryd.prog 10 #[d] w (MadeDesc l w) := by
  obtain ⟨v, rfl, hv⟩ := h
  have hb0 : Below w.heap.size w (((w.alloc (.cells #[v] 24)).alloc (.cells #[.slice none 0 0] 29)).alloc (.cells #[.slice none 0 0] 29)) := (((Below.refl _ _).alloc (Nat.le_refl _) _).alloc (by simp) _).alloc (by simp; omega) _
  have T0 := Three.new w 24 29 29 #[v] #[.slice none 0 0] #[.slice none 0 0]
  have HT0 := Lib.hid T0
  have HB0 := Lib.hid hb0
  have HV := Lib.hid hv
  clear T0 hb0 hv
  go_enter Tryd.func10, Tryd.ntmps10
  go_wp2_with fail
  refine (l_toRuleS v l hn hs _ (HV.out.below HB0.out)).mono ?_
  rintro e w1 ⟨u, rfl, ho1, hb1⟩
  obtain ⟨A1, p1, rfl⟩ : ∃ A c, u = .slice A l.length c := by
    obtain ⟨A, c, h, _⟩ := ho1.rd
    exact ⟨A, c, h⟩
  have T1 := HT0.out.below hb1
  have hb1' := Below.then_ HB0.out hb1 (Nat.le_refl _)
  have c2 : w1.cell? ⟨w.heap.size + 1 + 1, 0, none⟩ = some (.slice none 0 0) := T1.out 0
  have f2 := (T1.fre 0).2
  have r2 : w1.cell? ⟨w.heap.size + 1, 0, none⟩ = some (.slice none 0 0) := T1.res 0
  have q2 := (T1.fre 0).1
  have HT1 := Lib.hid T1
  have HO1 := Lib.hid ho1
  have HB1 := Lib.hid hb1'
  clear T1 ho1 hb1 hb1'
  go_wp2_with fail
  refine bodyPost_ret (v := .agg #[.slice A1 l.length p1]) (by simp [results, Tryd.results10, go_sem, r2]) rfl ?_
  refine ⟨_, rfl, ?_, ?_⟩
  · have hz : w.heap.size + 1 + 1 < w1.heap.size := HT1.out.lt
    have h := HO1.out.mono (lo' := w.heap.size + 1 + 1 + 1) (by simp)
    exact ((h.setFar (w.heap.size + 1 + 1) 0 _ (by omega)).setFar (w.heap.size + 1) 0 _ (by omega)).mono (by omega)
  · exact (HB1.out.setCell (p := ⟨w.heap.size + 1 + 1, 0, none⟩) (by show w.heap.size ≤ w.heap.size + 1 + 1; omega) _).setCell (p := ⟨w.heap.size + 1, 0, none⟩) (by show w.heap.size ≤ w.heap.size + 1; omega) _

end Go.Proofs.YtkjjgpkegihmhaaDoor

namespace Go.Proofs.YtkjjgpkegihmhaaDoor
open Go.RowKit

def total (l : List ByteArray) : Nat := (l.map (·.size)).sum
theorem total_step (l : List ByteArray) (k : Nat) (h : k < l.length) : total (l.take (k + 1)) = total (l.take k) + l[k].size := by
  unfold total
  rw [List.take_succ_eq_append_getElem h, List.map_append, List.sum_append]
  simp
theorem total_take (l : List ByteArray) (k : Nat) : total (l.take k) ≤ total l := by
  unfold total
  induction l generalizing k with
  | nil => simp
  | cons s r ih =>
    cases k with
    | zero => simp
    | succ k => have := ih k; simp at this ⊢; omega
theorem total_at (l : List ByteArray) (k : Nat) (h : k < l.length) : total (l.take k) + l[k].size ≤ total l := by
  rw [← total_step l k h]; exact total_take l _
theorem total_mem {l : List ByteArray} {s : ByteArray} (h : s ∈ l) : s.size ≤ total l := by
  obtain ⟨k, hk, rfl⟩ := List.getElem_of_mem h
  have := total_at l k hk
  omega

/-- What is left, or -1. -/
def szS (l : List ByteArray) (left : Int) : Int := if (l.length : Int) + total l ≤ left then left - l.length - total l else -1

set_option maxHeartbeats 1000000 in
theorem l_szStringS (v : Value) (l : List ByteArray) (left : Int) (h0 : 0 ≤ left) (h1 : left ≤ 1048576) (hs : ∀ s ∈ l, s.size ≤ maxLen) (w : World) (h : Rd w v 1 l.length (cS l)) :
    Calls Tryd.prog 84 #[v, .int .i64 left] w fun e w' => e = .returned (.int .i64 (szS l left)) ∧ w = w' := by
  obtain ⟨hl, A, c, rfl, hnc, hcm, hcell⟩ := h
  unfold maxLen at hcm
  clear hl
  have HC := Lib.hid hcell; clear hcell
  by_cases hlen : (l.length : Int) ≤ left
  · go_enter Tryd.func84, Tryd.ntmps84
    go_wp2_with fail
    go_loop [1, 5] (fun r i => ∃ k : Nat, k ≤ l.length ∧ i = .int .i64 k ∧ r = .int .i64 (left - l.length - total (l.take k)) ∧ (l.length : Int) + total (l.take k) ≤ left) (fun _ i => l.length - (intOf i).toNat)
    case atStart => exact ⟨0, Nat.zero_le _, rfl, by simp [total], by simpa [total] using hlen⟩
    case round =>
      obtain ⟨k, hk, rfl, rfl, hle⟩ := hrel
      by_cases hlt : k < l.length
      · obtain ⟨b, off, rfl, hc⟩ := HC.out (by rw [cS_len]; omega)
        have hck : w.cell? ⟨b, off + k, none⟩ = some (.string l[k]) := hc k _ (cS_at hlt)
        have hsz := hs l[k] (List.getElem_mem hlt)
        unfold maxLen at hsz
        have HST := Lib.hid (total_step l k hlt)
        have HAT := total_at l k hlt
        by_cases hgo : (l.length : Int) + total (l.take k) + l[k].size ≤ left
        · go_wp2_with fail
          go_round
          case rel => exact ⟨k + 1, by omega, by go_num, by rw [HST.out]; go_num, by rw [HST.out]; omega⟩
          case measure => simp [intOf]; omega
        · have hfin : Hid (szS l left = -1) := by show _ = _; unfold szS; rw [if_neg (by omega)]
          go_wp2_with fail
          go_ret
          exact ⟨ret_int hfin.out.symm, rfl⟩
      · obtain rfl : k = l.length := by omega
        have hfin : Hid (szS l left = left - l.length - total l) := by show _ = _; rw [List.take_length] at hle; unfold szS; rw [if_pos hle]
        go_wp2_with fail
        go_ret
        exact ⟨ret_int hfin.out.symm, rfl⟩
  · have hfin : Hid (szS l left = -1) := by show _ = _; unfold szS; rw [if_neg (by omega)]
    have hn := HC
    go_enter Tryd.func84, Tryd.ntmps84
    go_wp2_with fail
    go_ret
    exact ⟨ret_int hfin.out.symm, rfl⟩

end Go.Proofs.YtkjjgpkegihmhaaDoor

namespace Go.Proofs.YtkjjgpkegihmhaaDoor
open Go.RowKit

def szN (n : Nat) (left : Int) : Int := if (n : Int) ≤ left then left - n else -1
theorem szN_pos {n : Nat} {left : Int} (h : (n : Int) ≤ left) : szN n left = left - n := by unfold szN; rw [if_pos h]
theorem szN_neg {n : Nat} {left : Int} (h : ¬ (n : Int) ≤ left) : szN n left = -1 := by unfold szN; rw [if_neg h]
theorem szS_pos {l : List ByteArray} {left : Int} (h : (l.length : Int) + total l ≤ left) : szS l left = left - l.length - total l := by unfold szS; rw [if_pos h]
theorem szS_no {l : List ByteArray} {left : Int} (h : ¬ (l.length : Int) + total l ≤ left) : szS l left = -1 := by unfold szS; rw [if_neg h]

set_option maxHeartbeats 400000 in
theorem l_szByteS (v : Value) (l : List UInt8) (left : Int) (h0 : 0 ≤ left) (h1 : left ≤ 1048576) (w : World) (h : Rd w v 1 l.length (cB l)) :
    Calls Tryd.prog 83 #[v, .int .i64 left] w fun e w' => e = .returned (.int .i64 (szN l.length left)) ∧ w = w' := by
  obtain ⟨hl, A, c, rfl, hnc, hcm, hcell⟩ := h
  unfold maxLen at hcm
  clear hl hcell
  by_cases hle : (l.length : Int) ≤ left
  · have hf := Lib.hid (szN_pos hle)
    go_enter Tryd.func83, Tryd.ntmps83
    go_wp2_with fail
    go_ret
    exact ⟨ret_int (by rw [hf.out]), rfl⟩
  · have hf := Lib.hid (szN_neg hle)
    go_enter Tryd.func83, Tryd.ntmps83
    go_wp2_with fail
    go_ret
    exact ⟨ret_int (by rw [hf.out]), rfl⟩

set_option maxHeartbeats 400000 in
theorem l_szIntS (v : Value) (l : List Int) (left : Int) (h0 : 0 ≤ left) (h1 : left ≤ 1048576) (w : World) (h : Rd w v 1 l.length (cI l)) :
    Calls Tryd.prog 85 #[v, .int .i64 left] w fun e w' => e = .returned (.int .i64 (szN l.length left)) ∧ w = w' := by
  obtain ⟨hl, A, c, rfl, hnc, hcm, hcell⟩ := h
  unfold maxLen at hcm
  clear hl hcell
  by_cases hle : (l.length : Int) ≤ left
  · have hf := Lib.hid (szN_pos hle)
    go_enter Tryd.func85, Tryd.ntmps85
    go_wp2_with fail
    go_ret
    exact ⟨ret_int (by rw [hf.out]), rfl⟩
  · have hf := Lib.hid (szN_neg hle)
    go_enter Tryd.func85, Tryd.ntmps85
    go_wp2_with fail
    go_ret
    exact ⟨ret_int (by rw [hf.out]), rfl⟩

def ruleSize (r : RuleD) : Nat := r.name.size + r.bytes.length + r.names.length + total r.names + r.tags.length + r.kids.length
theorem szR_go {r : RuleD} {left : Int} (h : (ruleSize r : Int) ≤ left) : szN (ruleSize r) left = left - r.name.size - r.bytes.length - r.names.length - total r.names - r.tags.length - r.kids.length := by
  rw [szN_pos h]; unfold ruleSize; omega

set_option maxHeartbeats 2000000 in
theorem l_szRule (r : RuleD) (vb vn vt vk : Value) (left : Int) (h0 : 0 ≤ left) (h1 : left ≤ 1048576) (hf : RuleFits r) (w : World) (h : RdRule w (ruleCells r vb vn vt vk) r) :
    Calls Tryd.prog 60 #[.agg #[.string r.name, .int .i64 r.kind, .int .i64 r.size, .bool r.little, vb, vn, vt, vk], .int .i64 left] w fun e w' => e = .returned (.int .i64 (szN (ruleSize r) left)) ∧ Below w.heap.size w w' := by
  obtain ⟨vb', vn', vt', vk', e, hb, hn, ht, hk⟩ := h
  unfold ruleCells at e
  injection e with _ e; injection e with _ e; injection e with _ e; injection e with _ e; injection e with e1 e; injection e with e2 e; injection e with e3 e; injection e with e4 _
  subst e1; subst e2; subst e3; subst e4
  obtain ⟨hf1, hf2, _⟩ := hf
  unfold maxLen at hf1
  have HA := (Below.refl w.heap.size w).alloc (Nat.le_refl _) (.cells #[.string r.name, .int .i64 r.kind, .int .i64 r.size, .bool r.little, vb, vn, vt, vk] 77)
  have HB := Lib.hid (hb.below HA)
  have HN := Lib.hid (hn.below HA)
  have HT := Lib.hid (ht.below HA)
  have HK := Lib.hid (hk.below HA)
  have HA' := Lib.hid HA
  clear HA hb hn ht hk
  have no : ¬ ((ruleSize r : Nat) : Int) ≤ left → Hid (szN (ruleSize r) left = -1) := fun h => szN_neg h
  have yes : ((ruleSize r : Nat) : Int) ≤ left → Hid (szN (ruleSize r) left = left - r.name.size - r.bytes.length - r.names.length - total r.names - r.tags.length - r.kids.length) := fun h => szR_go h
  have hrs : ruleSize r = r.name.size + r.bytes.length + r.names.length + total r.names + r.tags.length + r.kids.length := rfl
  have HRS := Lib.hid hrs
  have HNO := Lib.hid no
  have HYES := Lib.hid yes
  clear no yes hrs
  by_cases c1 : (r.name.size : Int) ≤ left
  · go_enter Tryd.func60, Tryd.ntmps60
    go_wp2_with fail
    refine (l_szByteS vb r.bytes (left - r.name.size) (by omega) (by omega) _ HB.out).mono ?_
    by_cases c2 : (r.bytes.length : Int) ≤ left - r.name.size
    · rw [szN_pos c2]
      rintro e w' ⟨rfl, rfl⟩
      go_wp2_with fail
      refine (l_szStringS vn r.names _ (by omega) (by omega) hf2 _ HN.out).mono ?_
      by_cases c3 : (r.names.length : Int) + total r.names ≤ left - r.name.size - r.bytes.length
      · rw [szS_pos c3]
        rintro e w' ⟨rfl, rfl⟩
        go_wp2_with fail
        refine (l_szIntS vt r.tags _ (by omega) (by omega) _ HT.out).mono ?_
        by_cases c4 : (r.tags.length : Int) ≤ left - r.name.size - r.bytes.length - r.names.length - total r.names
        · rw [szN_pos c4]
          rintro e w' ⟨rfl, rfl⟩
          go_wp2_with fail
          refine (l_szIntS vk r.kids _ (by omega) (by omega) _ HK.out).mono ?_
          by_cases c5 : (r.kids.length : Int) ≤ left - r.name.size - r.bytes.length - r.names.length - total r.names - r.tags.length
          · have hy := HYES.out (by rw [HRS.out]; omega)
            rw [szN_pos c5]
            rintro e w' ⟨rfl, rfl⟩
            go_wp2_with fail
            go_ret
            exact ⟨ret_int (by rw [hy.out]), HA'.out⟩
          · have hy := HNO.out (by rw [HRS.out]; omega)
            rw [szN_neg c5]
            rintro e w' ⟨rfl, rfl⟩
            go_wp2_with fail
            go_ret
            exact ⟨ret_int (by rw [hy.out]), HA'.out⟩
        · have hy := HNO.out (by rw [HRS.out]; omega)
          rw [szN_neg c4]
          rintro e w' ⟨rfl, rfl⟩
          go_wp2_with fail
          go_ret
          exact ⟨ret_int (by rw [hy.out]), HA'.out⟩
      · have hy := HNO.out (by rw [HRS.out]; omega)
        rw [szS_no c3]
        rintro e w' ⟨rfl, rfl⟩
        go_wp2_with fail
        go_ret
        exact ⟨ret_int (by rw [hy.out]), HA'.out⟩
    · have hy := HNO.out (by rw [HRS.out]; omega)
      rw [szN_neg c2]
      rintro e w' ⟨rfl, rfl⟩
      go_wp2_with fail
      go_ret
      exact ⟨ret_int (by rw [hy.out]), HA'.out⟩
  · have hy := HNO.out (by rw [HRS.out]; omega)
    go_enter Tryd.func60, Tryd.ntmps60
    go_wp2_with fail
    go_ret
    exact ⟨ret_int (by rw [hy.out]), HA'.out⟩

def rulesSize (l : List RuleD) : Nat := (l.map ruleSize).sum
theorem rulesSize_step (l : List RuleD) (k : Nat) (h : k < l.length) : rulesSize (l.take (k + 1)) = rulesSize (l.take k) + ruleSize l[k] := by
  unfold rulesSize
  rw [List.take_succ_eq_append_getElem h, List.map_append, List.sum_append]
  simp
theorem rulesSize_take (l : List RuleD) (k : Nat) : rulesSize (l.take k) ≤ rulesSize l := by
  unfold rulesSize
  induction l generalizing k with
  | nil => simp
  | cons s r ih =>
    cases k with
    | zero => simp
    | succ k => have := ih k; simp at this ⊢; omega
theorem rulesSize_at (l : List RuleD) (k : Nat) (h : k < l.length) : rulesSize (l.take k) + ruleSize l[k] ≤ rulesSize l := by
  rw [← rulesSize_step l k h]; exact rulesSize_take l _
theorem rulesSize_mem {l : List RuleD} {r : RuleD} (h : r ∈ l) : ruleSize r ≤ rulesSize l := by
  obtain ⟨k, hk, rfl⟩ := List.getElem_of_mem h
  have := rulesSize_at l k hk
  omega
/-- The whole of a description. -/
def descSize (l : List RuleD) : Nat := l.length + rulesSize l

set_option maxHeartbeats 2000000 in
theorem l_szRuleS (v : Value) (l : List RuleD) (left : Int) (h0 : 0 ≤ left) (h1 : left ≤ 1048576) (hf : ∀ r ∈ l, RuleFits r) (w : World) (h : RdRules w v l) :
    Calls Tryd.prog 32 #[v, .int .i64 left] w fun e w' => e = .returned (.int .i64 (szN (descSize l) left)) ∧ Below w.heap.size w w' := by
  obtain ⟨A, c, rfl, hnc, hcm, hcell⟩ := h
  unfold maxLen at hcm
  have HC := Lib.hid hcell; clear hcell
  have hdl : descSize l = l.length + rulesSize l := rfl
  have HD := Lib.hid hdl
  clear hdl
  by_cases hlen : (l.length : Int) ≤ left
  · go_enter Tryd.func32, Tryd.ntmps32
    go_wp2_with fail
    go_loopw [1, 5] (fun r i wr => ∃ k : Nat, k ≤ l.length ∧ i = .int .i64 k ∧ r = .int .i64 (left - l.length - rulesSize (l.take k)) ∧ (l.length : Int) + rulesSize (l.take k) ≤ left ∧ Below w.heap.size w wr) (fun _ i _ => l.length - (intOf i).toNat)
    case atStart => exact ⟨0, Nat.zero_le _, rfl, by simp [rulesSize], by simpa [rulesSize] using hlen, Below.refl _ _⟩
    case round =>
      obtain ⟨k, hk, rfl, rfl, hle, hbr⟩ := hrel
      by_cases hlt : k < l.length
      · obtain ⟨b, off, rfl, hc⟩ := HC.out (by omega)
        obtain ⟨cs, hr, hat⟩ := hc k hlt
        have hr' := hr.keep (w' := wr) fun _ hp => hbr.cell hp
        have hat' : wr.rangeAt b (off + k * 8) cs := fun j u hu => by rw [hbr.cell (World.block_lt_of_cell? w _ (hat j u hu))]; exact hat j u hu
        have h8 := hr.len
        obtain ⟨vb, vn, vt, vk, rfl, _⟩ := hr
        have HR := Lib.hid hr'
        have HAT := Lib.hid hat'
        have HST := Lib.hid (rulesSize_step l k hlt)
        have HFT := hf l[k] (List.getElem_mem hlt)
        have hat2 := rulesSize_at l k hlt
        obtain ⟨r, hr0⟩ : ∃ r, r = l[k] := ⟨_, rfl⟩
        rw [← hr0] at HR HAT HST HFT hat2
        obtain ⟨S, hS⟩ : ∃ S, S = rulesSize (l.take k) := ⟨_, rfl⟩
        rw [← hS] at hle HST hat2 ⊢
        have HBR := Lib.hid hbr
        have HS := Lib.hid hS
        clear hc hat hat' hr' h8 hr0 hbr hS
        go_wp2_with (refine wpList_load_mid rfl 77 (.tmp 20) rfl b (off + k * 8) rfl _ _ HAT.out Tryd.underlying77 rfl (by kernel_rfl) ?_)
        refine (l_szRule r vb vn vt vk _ (by omega) (by omega) HFT _ HR.out).mono ?_
        by_cases hgo : ((ruleSize r : Nat) : Int) ≤ left - l.length - S
        · rw [szN_pos hgo]
          rintro e w2 ⟨rfl, hb2⟩
          have HB2 := Lib.hid (Below.then_ HBR.out hb2 (by have := HBR.out.size; omega))
          clear hb2
          go_wp2_with fail
          go_roundw
          case rel => exact ⟨k + 1, by omega, by go_num, by rw [HST.out]; go_num, by rw [HST.out]; omega, HB2.out⟩
          case measure => simp [intOf]; omega
        · have hfin : Hid (szN (descSize l) left = -1) := szN_neg (by rw [HD.out]; omega)
          rw [szN_neg hgo]
          rintro e w2 ⟨rfl, hb2⟩
          have HB2 := Lib.hid (Below.then_ HBR.out hb2 (by have := HBR.out.size; omega))
          clear hb2
          go_wp2_with fail
          go_ret
          exact ⟨ret_int hfin.out.symm, HB2.out⟩
      · obtain rfl : k = l.length := by omega
        rw [List.take_length] at hle ⊢
        have hfin : Hid (szN (descSize l) left = left - l.length - rulesSize l) := by show _ = _; rw [szN_pos (by rw [HD.out]; omega), HD.out]; omega
        go_wp2_with fail
        go_ret
        exact ⟨ret_int hfin.out.symm, hbr⟩
  · have hfin : Hid (szN (descSize l) left = -1) := szN_neg (by rw [HD.out]; omega)
    go_enter Tryd.func32, Tryd.ntmps32
    go_wp2_with fail
    go_ret
    exact ⟨ret_int hfin.out.symm, Below.refl _ _⟩

set_option maxHeartbeats 1000000 in
theorem l_szDescription (d : Value) (l : List RuleD) (left : Int) (h0 : 0 ≤ left) (h1 : left ≤ 1048576) (hf : ∀ r ∈ l, RuleFits r) (w : World) (h : RdDesc w d l) :
    Calls Tryd.prog 8 #[d, .int .i64 left] w fun e w' => e = .returned (.int .i64 (szN (descSize l) left)) ∧ Below w.heap.size w w' := by
  obtain ⟨v, rfl, hv⟩ := h
  have HA := (Below.refl w.heap.size w).alloc (Nat.le_refl _) (.cells #[v] 24)
  have HV := Lib.hid (hv.below HA)
  have HA' := Lib.hid HA
  clear hv HA
  by_cases hc : ((descSize l : Nat) : Int) ≤ left
  · have hy := Lib.hid (szN_pos hc)
    go_enter Tryd.func8, Tryd.ntmps8
    go_wp2_with fail
    refine (l_szRuleS v l left h0 h1 hf _ HV.out).mono ?_
    rw [hy.out]
    rintro e w2 ⟨rfl, hb2⟩
    go_wp2_with fail
    go_ret
    exact ⟨ret_int (by rw [hy.out]), Below.then_ HA'.out hb2 (by simp)⟩
  · have hy := Lib.hid (szN_neg hc)
    go_enter Tryd.func8, Tryd.ntmps8
    go_wp2_with fail
    refine (l_szRuleS v l left h0 h1 hf _ HV.out).mono ?_
    rw [hy.out]
    rintro e w2 ⟨rfl, hb2⟩
    go_wp2_with fail
    go_ret
    exact ⟨ret_int (by rw [hy.out]), Below.then_ HA'.out hb2 (by simp)⟩

end Go.Proofs.YtkjjgpkegihmhaaDoor

namespace Go.Proofs.YtkjjgpkegihmhaaDoor
open Go.RowKit Go.ChangeShapes Go.WideShapes Go.ChangeAt
set_option maxRecDepth 100000

section
variable {H : Type} {enc : TypeId × Value → H} {P : Program} {W : World} {t e : TypeId} {x : DataW H × List MemPlace} {cs : List Value} {fuel : Nat}

theorem cells_texts (ht : P.underlying t = some (.slice e)) (he : P.underlying e = some .string) (hc : P.cellsOf e = 1)
    (hf : DataW.trod enc P W 0 (fun _ => true) true fuel t cs = some x) : ∃ (v : Value) (l : List ByteArray), cs = [v] ∧ Rd W v 1 l.length (cS l) ∧ ∀ x ∈ l, x.size ≤ maxLen := by
  rcases open_strings ht he hc hf with ⟨hcs, _⟩ | ⟨x, len, c, ss, hcs, _, hl, hm, hz, _, hcell, hws⟩
  · exact ⟨_, [], hcs, ⟨by simp [cS], none, 0, rfl, Nat.le_refl _, Nat.zero_le _, fun h => by simp [cS] at h⟩, by simp⟩
  · simp only [if_true] at hz
    have hlen : (ss.take len).length = len := by simp; omega
    refine ⟨_, ss.take len, hcs, ?_, fun y hy => hws y (List.mem_of_mem_take hy)⟩
    rw [hlen]
    refine rd_of_cells (by rw [cS_len, hlen]) hl hm fun i u hu => ?_
    have hi : i < len := by
      have := (List.getElem?_eq_some_iff.1 hu).1
      rwa [cS_len, hlen] at this
    have hi' : i < ss.length := by omega
    rw [hcell i hi']
    simp [cS, hi, hi'] at hu
    simp [hi', hu]

theorem cells_nums (ht : P.underlying t = some (.slice e)) (he : P.underlying e = some (.int .i64)) (hc : P.cellsOf e = 1)
    (hf : DataW.trod enc P W 0 (fun _ => true) true fuel t cs = some x) : ∃ (v : Value) (l : List Int), cs = [v] ∧ Rd W v 1 l.length (cI l) ∧ ∀ x ∈ l, fits x := by
  rcases open_ints ht he hc hf with ⟨hcs, _⟩ | ⟨x, len, c, ss, hcs, _, hl, hm, hz, _, hcell, hws⟩
  · exact ⟨_, [], hcs, ⟨by simp [cI], none, 0, rfl, Nat.le_refl _, Nat.zero_le _, fun h => by simp [cI] at h⟩, by simp⟩
  · simp only [if_true] at hz
    have hlen : (ss.take len).length = len := by simp; omega
    refine ⟨_, ss.take len, hcs, ?_, fun y hy => wf_int (hws y (List.mem_of_mem_take hy))⟩
    rw [hlen]
    refine rd_of_cells (by rw [cI_len, hlen]) hl hm fun i u hu => ?_
    have hi : i < len := by
      have := (List.getElem?_eq_some_iff.1 hu).1
      rwa [cI_len, hlen] at this
    have hi' : i < ss.length := by omega
    rw [hcell i hi']
    simp [cI, hi, hi'] at hu
    simp [hi', hu]

theorem cells_bytes (ht : P.underlying t = some (.slice e)) (he : P.underlying e = some (.int .u8)) (hc : P.cellsOf e = 1)
    (hf : DataW.trod enc P W 0 (fun _ => true) true fuel t cs = some x) : ∃ (v : Value) (l : List UInt8), cs = [v] ∧ Rd W v 1 l.length (cB l) := by
  rcases open_ints ht he hc hf with ⟨hcs, _⟩ | ⟨x, len, c, zs, hcs, _, hl, hm, hz, _, hcell, hws⟩
  · exact ⟨_, [], hcs, ⟨by simp [cB], none, 0, rfl, Nat.le_refl _, Nat.zero_le _, fun h => by simp [cB] at h⟩⟩
  · simp only [if_true] at hz
    have hlen : ((zs.take len).map fun n => n.toNat.toUInt8).length = len := by simp; omega
    refine ⟨_, (zs.take len).map fun n => n.toNat.toUInt8, hcs, ?_⟩
    rw [hlen]
    refine rd_of_cells (by rw [cB_len, hlen]) hl hm fun i u hu => ?_
    have hi : i < len := by
      have := (List.getElem?_eq_some_iff.1 hu).1
      rwa [cB_len, hlen] at this
    have hi' : i < zs.length := by omega
    rw [hcell i hi']
    have hb := wf_u8 (hws zs[i] (List.getElem_mem hi'))
    have hz' : ((zs[i].toNat.toUInt8.toNat : Nat) : Int) = zs[i] := by
      have : zs[i].toNat < 256 := by omega
      simp [Nat.toUInt8, UInt8.toNat_ofNat', Nat.mod_eq_of_lt this]; omega
    simp [cB, hi, hi'] at hu
    rw [← hu]
    simp [hi']
    simpa using hz'.symm
end

section
variable {H : Type} {enc : TypeId × Value → H} {W : World} {x : DataW H × List MemPlace} {cs : List Value} {fuel : Nat}

theorem cells_cut {i j : Nat} {cs ds : List Value} (h : (cs.drop i).take j = ds) (k : Nat) (hk : k < j) : cs[i + k]? = ds[k]? := by
  subst h
  rw [List.getElem?_take, if_pos hk, List.getElem?_drop]

theorem open_rule (hf : DataW.trod enc Tryd.prog W 0 (fun _ => true) true fuel 77 cs = some x) : ∃ r, RdRule W cs r ∧ RuleFits r := by
  obtain ⟨xs, n, _, _, hl, hxl, h⟩ := DataW.trod_struct Tryd.underlying77 hf
  have hc8 : Tryd.prog.cellsOf 77 = 8 := by kernel_rfl
  have cs1 : Tryd.prog.cellsOf 9 = 1 := by kernel_rfl
  have ci1 : Tryd.prog.cellsOf 3 = 1 := by kernel_rfl
  have cb1 : Tryd.prog.cellsOf 4 = 1 := by kernel_rfl
  have cB1 : Tryd.prog.cellsOf 36 = 1 := by kernel_rfl
  have cS1 : Tryd.prog.cellsOf 39 = 1 := by kernel_rfl
  have cI1 : Tryd.prog.cellsOf 41 = 1 := by kernel_rfl
  have cu1 : Tryd.prog.cellsOf 5 = 1 := by kernel_rfl
  rw [hc8] at hl
  have hx8 : xs.length = 8 := hxl
  have at_ : ∀ i, i < 8 → ∃ y, xs[i]? = some y := fun i hi => ⟨_, List.getElem?_eq_getElem (by omega)⟩
  obtain ⟨y0, e0⟩ := at_ 0 (by omega)
  obtain ⟨y1, e1⟩ := at_ 1 (by omega)
  obtain ⟨y2, e2⟩ := at_ 2 (by omega)
  obtain ⟨y3, e3⟩ := at_ 3 (by omega)
  obtain ⟨y4, e4⟩ := at_ 4 (by omega)
  obtain ⟨y5, e5⟩ := at_ 5 (by omega)
  obtain ⟨y6, e6⟩ := at_ 6 (by omega)
  obtain ⟨y7, e7⟩ := at_ 7 (by omega)
  have f0 : DataW.trod enc Tryd.prog W 0 (fun _ => true) true n 9 ((cs.drop 0).take (Tryd.prog.cellsOf 9)) = some y0 := (h 0 _ rfl).trans e0
  have f1 : DataW.trod enc Tryd.prog W 0 (fun _ => true) true n 3 ((cs.drop 1).take (Tryd.prog.cellsOf 3)) = some y1 := (h 1 _ rfl).trans e1
  have f2 : DataW.trod enc Tryd.prog W 0 (fun _ => true) true n 3 ((cs.drop 2).take (Tryd.prog.cellsOf 3)) = some y2 := (h 2 _ rfl).trans e2
  have f3 : DataW.trod enc Tryd.prog W 0 (fun _ => true) true n 4 ((cs.drop 3).take (Tryd.prog.cellsOf 4)) = some y3 := (h 3 _ rfl).trans e3
  have f4 : DataW.trod enc Tryd.prog W 0 (fun _ => true) true n 36 ((cs.drop 4).take (Tryd.prog.cellsOf 36)) = some y4 := (h 4 _ rfl).trans e4
  have f5 : DataW.trod enc Tryd.prog W 0 (fun _ => true) true n 39 ((cs.drop 5).take (Tryd.prog.cellsOf 39)) = some y5 := (h 5 _ rfl).trans e5
  have f6 : DataW.trod enc Tryd.prog W 0 (fun _ => true) true n 41 ((cs.drop 6).take (Tryd.prog.cellsOf 41)) = some y6 := (h 6 _ rfl).trans e6
  have f7 : DataW.trod enc Tryd.prog W 0 (fun _ => true) true n 41 ((cs.drop 7).take (Tryd.prog.cellsOf 41)) = some y7 := (h 7 _ rfl).trans e7
  obtain ⟨nm, c0, _, z0⟩ := DataW.trod_string Tryd.underlying9 f0
  obtain ⟨kd, c1, _, z1⟩ := DataW.trod_int Tryd.underlying3 f1
  obtain ⟨sz, c2, _, z2⟩ := DataW.trod_int Tryd.underlying3 f2
  obtain ⟨lt, c3, _⟩ := DataW.trod_bool Tryd.underlying4 f3
  obtain ⟨vb, lb, c4, r4⟩ := cells_bytes Tryd.underlying36 Tryd.underlying5 cu1 f4
  obtain ⟨vn, ln, c5, r5, z5⟩ := cells_texts Tryd.underlying39 Tryd.underlying9 cs1 f5
  obtain ⟨vt, lt', c6, r6, z6⟩ := cells_nums Tryd.underlying41 Tryd.underlying3 ci1 f6
  obtain ⟨vk, lk, c7, r7, z7⟩ := cells_nums Tryd.underlying41 Tryd.underlying3 ci1 f7
  refine ⟨⟨nm, kd, sz, lt, lb, ln, lt', lk⟩, ⟨vb, vn, vt, vk, ?_, r4, r5, r6, r7⟩, ⟨z0, z5, wf_int z1, wf_int z2, z6, z7⟩⟩
  rw [cs1] at c0
  rw [ci1] at c1 c2
  rw [cb1] at c3
  rw [cB1] at c4
  rw [cS1] at c5
  rw [cI1] at c6 c7
  have g0 := cells_cut c0 0 (by omega)
  have g1 := cells_cut c1 0 (by omega)
  have g2 := cells_cut c2 0 (by omega)
  have g3 := cells_cut c3 0 (by omega)
  have g4 := cells_cut c4 0 (by omega)
  have g5 := cells_cut c5 0 (by omega)
  have g6 := cells_cut c6 0 (by omega)
  have g7 := cells_cut c7 0 (by omega)
  clear h f0 f1 f2 f3 f4 f5 f6 f7 c0 c1 c2 c3 c4 c5 c6 c7
  apply List.ext_getElem?
  intro i
  match i with
  | 0 => exact g0
  | 1 => exact g1
  | 2 => exact g2
  | 3 => exact g3
  | 4 => exact g4
  | 5 => exact g5
  | 6 => exact g6
  | 7 => exact g7
  | i + 8 => rw [List.getElem?_eq_none (by omega), List.getElem?_eq_none (by simp [ruleCells])]

theorem open_rules (hf : DataW.trod enc Tryd.prog W 0 (fun _ => true) true fuel 22 cs = some x) : ∃ (v : Value) (l : List RuleD), cs = [v] ∧ RdRules W v l ∧ ∀ r ∈ l, RuleFits r := by
  have hc8 : Tryd.prog.cellsOf 77 = 8 := by kernel_rfl
  rcases Go.Deep.open_slice Tryd.underlying22 hf with ⟨hcs, _⟩ | ⟨a, len, cap, m, n, D, Pl, rfl, _, hl, hm, hmm, _, hx⟩
  · exact ⟨_, [], hcs, ⟨none, 0, rfl, Nat.le_refl _, Nat.zero_le _, fun h => by simp at h⟩, by simp⟩
  · simp only [if_true] at hmm
    subst hmm
    rw [hc8] at hx
    have one : ∀ i, i < len → ∃ q : RuleD, ∃ cs, RdRule W cs q ∧ RuleFits q ∧ (∀ j u, cs[j]? = some u → W.cell? (a.add (i * 8 + j)) = some u) := by
      intro i hi
      obtain ⟨cs', h1, h2⟩ := hx i (by omega)
      obtain ⟨r, hr, hfit⟩ := open_rule h2
      refine ⟨r, cs', hr, hfit, fun j u hu => ?_⟩
      obtain ⟨_, hlen, hcell⟩ := World.cells?_some h1
      have hj : j < 8 := by
        have := (List.getElem?_eq_some_iff.1 hu).1
        omega
      rw [← Go.Deep.add_add, hcell j hj, hu]
    have nonempty : Inhabited RuleD := ⟨⟨⟨#[]⟩, 0, 0, false, [], [], [], []⟩⟩
    obtain ⟨F, hF⟩ := Go.Deep.choose_lt one
    refine ⟨_, (List.range len).map F, rfl, ?_, ?_⟩
    · have hll : ((List.range len).map F).length = len := by simp
      refine ⟨some a, m, by rw [hll], by rw [hll]; exact hl, hm, fun hp => ?_⟩
      rw [hll] at hp
      obtain ⟨b, off, spot⟩ := a
      have hsp : spot = none := by
        obtain ⟨cs', h1, _, h3⟩ := hF 0 hp
        obtain ⟨_, _, _, _, rfl, _⟩ := h1
        have h0 := h3 0 _ rfl
        simpa [Addr.add] using World.cell?_spot h0
      subst hsp
      refine ⟨b, off, rfl, fun i hi => ?_⟩
      rw [hll] at hi
      obtain ⟨cs', h1, _, h3⟩ := hF i hi
      refine ⟨cs', by simpa using h1, fun j u hu => ?_⟩
      have := h3 j u hu
      rw [add_at] at this
      rwa [Nat.add_assoc]
    · intro r hr
      obtain ⟨i, hi, rfl⟩ := List.mem_map.1 hr
      exact (hF i (List.mem_range.1 hi)).choose_spec.2.1

theorem open_desc {r : Reach} {base : Nat} {v : Value} {d : DataW H} {ps : List MemPlace} (hv : Value.okWide Tryd.prog W r base 24 v)
    (hd : DataW.Trod enc Tryd.prog W 0 (fun _ => true) true 24 v d ps) : ∃ l : List RuleD, RdDesc W v l ∧ ∀ r ∈ l, RuleFits r := by
  obtain ⟨cs, rfl, hsz⟩ := okWide_struct Tryd.underlying24 hv
  have hc1 : Tryd.prog.cellsOf 24 = 1 := by kernel_rfl
  have hr1 : Tryd.prog.cellsOf 22 = 1 := by kernel_rfl
  rw [hc1] at hsz
  obtain ⟨fuel, hf⟩ := hd
  obtain ⟨xs, n, _, _, hl, hxl, h⟩ := DataW.trod_struct Tryd.underlying24 hf
  have hx1 : xs.length = 1 := hxl
  have f0 : DataW.trod enc Tryd.prog W 0 (fun _ => true) true n 22 (((Value.agg cs).cells.toList.drop 0).take (Tryd.prog.cellsOf 22)) = some (xs[0]'(by omega)) := (h 0 _ rfl).trans (List.getElem?_eq_getElem (by omega))
  obtain ⟨u, l, hu, hr, hfit⟩ := open_rules f0
  refine ⟨l, ⟨u, ?_, hr⟩, hfit⟩
  rw [hr1] at hu
  obtain ⟨cs⟩ := cs
  match cs, hsz with
  | [c], _ =>
    have : [c] = [u] := by simpa [Value.cells] using hu
    rw [List.cons.inj this |>.1]
end

end Go.Proofs.YtkjjgpkegihmhaaDoor

namespace Go.Proofs.YtkjjgpkegihmhaaDoor
open Go.RowKit

theorem below_box {w : World} {v : Value} {t : TypeId} : Below w.heap.size w (w.alloc (.cells #[v] t)) := (Below.refl w.heap.size w).alloc (Nat.le_refl _) _

theorem str_eqs {s t : ByteArray} (h : s = t) : (s.toList == t.toList) = true := by rw [h]; simp

set_option maxHeartbeats 2000000 in
theorem s_FindRule (d : Value) (l : List RuleD) (s : ByteArray) (w : World) (hd : RdDesc w d l) :
    Calls Tryd.prog 23 #[d, .string s] w fun e w' => e = .returned (.int .i64 (findL l s)) ∧ Below w.heap.size w w' := by
  obtain ⟨v, rfl, hv⟩ := hd
  obtain ⟨A, c, rfl, hnc, hcm, hcell⟩ := hv.all
  unfold maxLen at hcm
  have HC := Lib.hid hcell
  clear hcell hv
  obtain ⟨F, hF⟩ : ∃ F, F = findL l s := ⟨_, rfl⟩
  have HF := Lib.hid hF
  rw [← hF]
  clear hF
  obtain ⟨n, hn⟩ : ∃ n, n = l.length := ⟨_, rfl⟩
  have HN := Lib.hid hn
  rw [← hn] at hnc ⊢
  clear hn
  go_enter Tryd.func23, Tryd.ntmps23
  go_wp2_with fail
  go_loopw [5] (fun i wr => ∃ k : Nat, k ≤ n ∧ i = .int .i64 k ∧ (∀ j (h : j < l.length), j < k → l[j].name ≠ s) ∧ wr = w.alloc (.cells #[.slice A n c] 29)) (fun i _ => n - (intOf i).toNat)
  case atStart => exact ⟨0, Nat.zero_le _, rfl, fun j _ h => absurd h (by omega), rfl⟩
  case round =>
    obtain ⟨k, hk, rfl, hno, rfl⟩ := hrel
    have HO := Lib.hid hno
    clear hno
    by_cases hlt : k < n
    · have hkl : k < l.length := by rw [← HN.out]; exact hlt
      obtain ⟨b, off, rfl, hc⟩ := HC.out (by omega)
      obtain ⟨vb, vn, vt, vk, hr⟩ := hc k hkl
      have D0 := (hr.below (below_box (v := .slice (some ⟨b, off, none⟩) n c) (t := 29))).c0
      obtain ⟨r, hr0⟩ : ∃ r, r = l[k] := ⟨_, rfl⟩
      rw [← hr0] at D0
      have HR := Lib.hid hr0
      clear hr hc hr0
      by_cases he : r.name = s
      · have hq := str_eqs he
        have hfin : Hid (F = k) := by show _ = _; rw [HF.out]; exact findL_at hkl HO.out (by rw [← HR.out]; exact he)
        clear he
        go_wp2_with fail
        go_ret
        exact ⟨ret_int hfin.out.symm, below_box⟩
      · have hq := str_ne he
        have hall : Hid (∀ j (h : j < l.length), j < k + 1 → l[j].name ≠ s) := by
          intro j hj hjk
          rcases Nat.lt_or_ge j k with h1 | h1
          · exact HO.out j hj h1
          · obtain rfl : j = k := by omega
            rw [← HR.out]; exact he
        clear he
        go_wp2_with fail
        go_roundw
        case rel => exact ⟨k + 1, by omega, by go_num, hall.out, by first | rfl | trivial⟩
        case measure => simp [intOf]; omega
    · obtain rfl : k = n := by omega
      have hfin : Hid (F = -1) := by show _ = _; rw [HF.out]; exact findL_none fun j hj => HO.out j hj (by have := HN.out; omega)
      go_wp2_with fail
      go_ret
      exact ⟨ret_int hfin.out.symm, below_box⟩

end Go.Proofs.YtkjjgpkegihmhaaDoor

namespace Go.Proofs.YtkjjgpkegihmhaaDoor
open Go.RowKit

theorem desc_len {l : List RuleD} (h : (descSize l : Int) ≤ 1048576) : l.length ≤ 1048576 := by unfold descSize at h; omega
theorem desc_small {l : List RuleD} (h : (descSize l : Int) ≤ 1048576) : ∀ r ∈ l, RuleSmall r := by
  intro r hr
  have h1 := rulesSize_mem hr
  unfold descSize at h
  unfold ruleSize at h1
  exact ⟨by omega, by omega, by omega, by omega⟩

end Go.Proofs.YtkjjgpkegihmhaaDoor

namespace Go.Proofs.YtkjjgpkegihmhaaDoor
open Go.RowKit
set_option linter.unusedVariables false

set_option maxHeartbeats 1000000 in
theorem i_hasRule (d : Value) (l : List RuleD) (i : Int) (w : World) (hd : RdDesc w d l) :
    Calls Tryd.prog 54 #[d, .int .i64 i] w fun e w' => e = .returned (.bool (hasL l i)) ∧ Below w.heap.size w w' := by
  obtain ⟨v, rfl, hv⟩ := hd
  obtain ⟨A, c, rfl, hnc, hcm, _⟩ := hv.all
  unfold maxLen at hcm
  obtain ⟨F, hF⟩ : ∃ F, F = hasL l i := ⟨_, rfl⟩
  have HF := Lib.hid hF
  rw [← hF]
  clear hF hv
  by_cases h0 : 0 ≤ i
  · by_cases h1 : i < (l.length : Int)
    · have hf := Lib.hid (hasL_yes h0 h1)
      go_enter Tryd.func54, Tryd.ntmps54
      go_wp2_with fail
      go_ret
      exact ⟨ret_bool (by rw [HF.out, hf.out]), below_box⟩
    · have hf := Lib.hid (hasL_no (l := l) (i := i) (by omega))
      go_enter Tryd.func54, Tryd.ntmps54
      go_wp2_with fail
      go_ret
      exact ⟨ret_bool (by rw [HF.out, hf.out]), below_box⟩
  · have hf := Lib.hid (hasL_no (l := l) (i := i) (by omega))
    go_enter Tryd.func54, Tryd.ntmps54
    go_wp2_with fail
    go_ret
    exact ⟨ret_bool (by rw [HF.out, hf.out]), below_box⟩

theorem in_hasL (l : List RuleD) (i : Int) : (decide (0 ≤ i) && decide (i ≤ (l.length : Int) - 1)) = hasL l i := by
  unfold hasL
  rw [Bool.eq_iff_iff]
  simp only [Bool.and_eq_true, decide_eq_true_eq]
  omega

theorem hasL_iff {l : List RuleD} {i : Int} : hasL l i = true ↔ 0 ≤ i ∧ i < l.length := by simp [hasL]
theorem limit_none {l : List RuleD} {i : Int} (h : hasL l i = false) : limitL l i = -1 := by unfold limitL; rw [h]; simp
theorem limit_kind {l : List RuleD} {i : Int} (h : (ruleAt l i).kind ≠ 1) : limitL l i = -1 := by unfold limitL; rw [if_neg (fun hh => h hh.2)]
theorem limit_size {l : List RuleD} {i : Int} (h : ¬ (1 ≤ (ruleAt l i).size ∧ (ruleAt l i).size ≤ 4)) : limitL l i = -1 := by
  unfold limitL limitOf
  repeat' split
  all_goals omega
theorem limit_is {l : List RuleD} {i : Int} (h : hasL l i = true) (hk : (ruleAt l i).kind = 1) : limitL l i = limitOf (ruleAt l i).size := by unfold limitL; rw [if_pos ⟨h, hk⟩]

theorem AllCells.at_ {w : World} {A : Option Addr} {l : List RuleD} (h : AllCells w A l) {i : Int} (hi : hasL l i = true) :
    ∃ b off vb vn vt vk, A = some ⟨b, off, none⟩ ∧ RuleCells w b (off + i.toNat * 8) (ruleAt l i) vb vn vt vk := by
  rw [hasL_iff] at hi
  obtain ⟨b, off, hA, hc⟩ := h (by omega)
  obtain ⟨vb, vn, vt, vk, hr⟩ := hc i.toNat (by omega)
  have e : ruleAt l i = l[i.toNat]'(by omega) := by
    have := ruleAt_eq (l := l) (k := i.toNat) (by omega)
    rwa [Int.toNat_of_nonneg hi.1] at this
  rw [← e] at hr
  exact ⟨b, off, vb, vn, vt, vk, hA, hr⟩

set_option maxHeartbeats 4000000 in
theorem i_IntegerLimit (d : Value) (l : List RuleD) (i : Int) (hi : -9223372036854775808 ≤ i ∧ i ≤ 9223372036854775807) (w : World) (hd : RdDesc w d l) :
    Calls Tryd.prog 94 #[d, .int .i64 i] w fun e w' => e = .returned (.int .i64 (limitL l i)) ∧ Below w.heap.size w w' := by
  obtain ⟨v, rfl, hv⟩ := hd
  obtain ⟨A, c, rfl, hnc, hcm, hcell⟩ := hv.all
  unfold maxLen at hcm
  obtain ⟨F, hF⟩ : ∃ F, F = limitL l i := ⟨_, rfl⟩
  have HF := Lib.hid hF
  rw [← hF]
  clear hF
  have HC := Lib.hid hcell
  have HV := Lib.hid hv
  have B0 := Box.new w 29 #[.slice A l.length c]
  have X0 := Lib.hid B0
  clear hcell hv B0
  obtain ⟨H, hH⟩ : ∃ H, H = hasL l i := ⟨_, rfl⟩
  have HR := Lib.hid (fun w h => i_hasRule (.agg #[.slice A l.length c]) l i w h)
  have HH := Lib.hid hH
  clear hH
  go_enter Tryd.func94, Tryd.ntmps94
  go_wp2_with fail
  refine (HR.out _ ⟨_, rfl, HV.out.below below_box⟩).mono ?_
  rw [← HH.out]
  rintro e w1 ⟨rfl, hb1⟩
  have HB1 := Lib.hid (Below.then_ below_box hb1 (Nat.le_refl _))
  have X1 := (X0.out.below hb1).cell 0
  have X1' : w1.cell? ⟨w.heap.size, 0, none⟩ = some (.slice A l.length c) := X1
  clear hb1 X1
  cases H
  · have hf := Lib.hid (limit_none HH.out.symm)
    go_wp2_with fail
    go_ret
    exact ⟨ret_int (by rw [HF.out, hf.out]), HB1.out⟩
  · obtain ⟨b, off, vb, vn, vt, vk, rfl, hr⟩ := (HC.out.below HB1.out).at_ HH.out.symm
    have D1 := hr.c1
    have D2 := hr.c2
    have hi0 := hasL_iff.1 HH.out.symm
    have h0 : 0 ≤ i := hi0.1
    have h1 : i < (l.length : Int) := hi0.2
    obtain ⟨r, hr0⟩ : ∃ r, r = ruleAt l i := ⟨_, rfl⟩
    rw [← hr0] at D1 D2
    have HR0 := Lib.hid hr0
    clear hr hi0 hr0
    by_cases hk : r.kind = 1
    · have hf := Lib.hid (limit_is HH.out.symm (by rw [← HR0.out]; exact hk))
      rw [hk] at D1
      clear hk
      by_cases hsz : 1 ≤ r.size ∧ r.size ≤ 4
      · have hcs : r.size = 1 ∨ r.size = 2 ∨ r.size = 3 ∨ r.size = 4 := by omega
        clear hsz
        rcases hcs with hs | hs | hs | hs
        · rw [hs] at D2
          have hfin : Hid (F = 255) := by show _ = _; rw [HF.out, hf.out, ← HR0.out, hs]; rfl
          clear hs
          obtain ⟨P, hP⟩ : ∃ P : Int, P = 256 := ⟨_, rfl⟩
          have hP1 : 1 ≤ P := by omega
          have hP2 : P ≤ 4294967296 := by omega
          have HP := Lib.hid hP
          have hsh : Op.shift .shl .i64 1 .i64 8 = pure (.int .i64 P) := by rw [hP]; kernel_rfl
          clear hP
          go_wp2_with fail
          refine (i_In 1 1 4 _).mono ?_
          rw [inR_yes (by omega) (by omega)]
          rintro e w2 ⟨rfl, rfl⟩
          go_wp2_with fail
          go_ret
          exact ⟨ret_int (by rw [hfin.out, HP.out]; rfl), HB1.out⟩
        · rw [hs] at D2
          have hfin : Hid (F = 65535) := by show _ = _; rw [HF.out, hf.out, ← HR0.out, hs]; rfl
          clear hs
          obtain ⟨P, hP⟩ : ∃ P : Int, P = 65536 := ⟨_, rfl⟩
          have hP1 : 1 ≤ P := by omega
          have hP2 : P ≤ 4294967296 := by omega
          have HP := Lib.hid hP
          have hsh : Op.shift .shl .i64 1 .i64 16 = pure (.int .i64 P) := by rw [hP]; kernel_rfl
          clear hP
          go_wp2_with fail
          refine (i_In 2 1 4 _).mono ?_
          rw [inR_yes (by omega) (by omega)]
          rintro e w2 ⟨rfl, rfl⟩
          go_wp2_with fail
          go_ret
          exact ⟨ret_int (by rw [hfin.out, HP.out]; rfl), HB1.out⟩
        · rw [hs] at D2
          have hfin : Hid (F = 16777215) := by show _ = _; rw [HF.out, hf.out, ← HR0.out, hs]; rfl
          clear hs
          obtain ⟨P, hP⟩ : ∃ P : Int, P = 16777216 := ⟨_, rfl⟩
          have hP1 : 1 ≤ P := by omega
          have hP2 : P ≤ 4294967296 := by omega
          have HP := Lib.hid hP
          have hsh : Op.shift .shl .i64 1 .i64 24 = pure (.int .i64 P) := by rw [hP]; kernel_rfl
          clear hP
          go_wp2_with fail
          refine (i_In 3 1 4 _).mono ?_
          rw [inR_yes (by omega) (by omega)]
          rintro e w2 ⟨rfl, rfl⟩
          go_wp2_with fail
          go_ret
          exact ⟨ret_int (by rw [hfin.out, HP.out]; rfl), HB1.out⟩
        · rw [hs] at D2
          have hfin : Hid (F = 4294967295) := by show _ = _; rw [HF.out, hf.out, ← HR0.out, hs]; rfl
          clear hs
          obtain ⟨P, hP⟩ : ∃ P : Int, P = 4294967296 := ⟨_, rfl⟩
          have hP1 : 1 ≤ P := by omega
          have hP2 : P ≤ 4294967296 := by omega
          have HP := Lib.hid hP
          have hsh : Op.shift .shl .i64 1 .i64 32 = pure (.int .i64 P) := by rw [hP]; kernel_rfl
          clear hP
          go_wp2_with fail
          refine (i_In 4 1 4 _).mono ?_
          rw [inR_yes (by omega) (by omega)]
          rintro e w2 ⟨rfl, rfl⟩
          go_wp2_with fail
          go_ret
          exact ⟨ret_int (by rw [hfin.out, HP.out]; rfl), HB1.out⟩
      · have hg := Lib.hid (limit_size (l := l) (i := i) (by rw [← HR0.out]; exact hsz))
        go_wp2_with fail
        refine (i_In r.size 1 4 _).mono ?_
        rw [inR_no (by omega)]
        rintro e w2 ⟨rfl, rfl⟩
        clear hsz
        go_wp2_with fail
        go_ret
        exact ⟨ret_int (by rw [HF.out, hg.out]), HB1.out⟩
    · have hf := Lib.hid (limit_kind (l := l) (i := i) (by rw [← HR0.out]; exact hk))
      have hq1 : (r.kind == 1) = false := by simpa using hk
      have hq2 : (r.kind != 1) = true := by simpa using hk
      clear hk
      go_wp2_with fail
      go_ret
      exact ⟨ret_int (by rw [HF.out, hf.out]), HB1.out⟩

theorem s_Power (n P : Int) (hP : P = 256 ^ n.toNat) (w : World) (hn : 1 ≤ n ∧ n ≤ 4 := by omega) : Calls Tryd.prog 114 #[.int .i64 n] w fun e w' => e = .returned (.int .i64 P) ∧ w = w' := by
  rcases (show n = 1 ∨ n = 2 ∨ n = 3 ∨ n = 4 by omega) with rfl | rfl | rfl | rfl <;> have HP := Lib.hid hP <;> clear hP <;>
  ( go_enter Tryd.func114, Tryd.ntmps114
    go_wp2_with fail
    go_ret
    exact ⟨ret_int (by rw [HP.out]; rfl), rfl⟩)

set_option maxHeartbeats 4000000 in
theorem s_IntegerLimit (d : Value) (l : List RuleD) (i : Int) (hi : -9223372036854775808 ≤ i ∧ i ≤ 9223372036854775807) (w : World) (hd : RdDesc w d l) :
    Calls Tryd.prog 87 #[d, .int .i64 i] w fun e w' => e = .returned (.int .i64 (limitL l i)) ∧ Below w.heap.size w w' := by
  obtain ⟨v, rfl, hv⟩ := hd
  obtain ⟨A, c, rfl, hnc, hcm, hcell⟩ := hv.all
  unfold maxLen at hcm
  obtain ⟨F, hF⟩ : ∃ F, F = limitL l i := ⟨_, rfl⟩
  have HF := Lib.hid hF
  rw [← hF]
  clear hF
  have HC := Lib.hid hcell
  have HV := Lib.hid hv
  have B0 := Box.new w 29 #[.slice A l.length c]
  have X0 := Lib.hid B0
  clear hcell hv B0
  obtain ⟨H, hH⟩ : ∃ H, H = hasL l i := ⟨_, rfl⟩
  have sin := fun w => s_In i 0 ((l.length : Int) - 1) w
  rw [show inR i 0 ((l.length : Int) - 1) = H from (in_hasL l i).trans hH.symm] at sin
  have HR := Lib.hid sin
  have HH := Lib.hid hH
  clear hH sin
  go_enter Tryd.func87, Tryd.ntmps87
  go_wp2_with fail
  refine (HR.out _).mono ?_
  rintro e w1 ⟨rfl, hw1⟩
  have hbx : Below w.heap.size w w1 := by rw [← hw1]; exact below_box
  have HB1 := Lib.hid hbx
  have X1' : w1.cell? ⟨w.heap.size, 0, none⟩ = some (.slice A l.length c) := by rw [← hw1]; exact X0.out.cell 0
  clear hbx hw1
  cases H
  · have hf := Lib.hid (limit_none HH.out.symm)
    go_wp2_with fail
    go_ret
    exact ⟨ret_int (by rw [HF.out, hf.out]), HB1.out⟩
  · obtain ⟨b, off, vb, vn, vt, vk, rfl, hr⟩ := (HC.out.below HB1.out).at_ HH.out.symm
    have D1 := hr.c1
    have D2 := hr.c2
    have hi0 := hasL_iff.1 HH.out.symm
    have h0 : 0 ≤ i := hi0.1
    have h1 : i < (l.length : Int) := hi0.2
    obtain ⟨r, hr0⟩ : ∃ r, r = ruleAt l i := ⟨_, rfl⟩
    rw [← hr0] at D1 D2
    have HR0 := Lib.hid hr0
    clear hr hi0 hr0
    by_cases hk : r.kind = 1
    · have hf := Lib.hid (limit_is HH.out.symm (by rw [← HR0.out]; exact hk))
      rw [hk] at D1
      clear hk
      by_cases hsz : 1 ≤ r.size ∧ r.size ≤ 4
      · have hcs : r.size = 1 ∨ r.size = 2 ∨ r.size = 3 ∨ r.size = 4 := by omega
        clear hsz
        rcases hcs with hs | hs | hs | hs
        · rw [hs] at D2
          have hfin : Hid (F = 255) := by show _ = _; rw [HF.out, hf.out, ← HR0.out, hs]; rfl
          clear hs
          obtain ⟨P, hP⟩ : ∃ P : Int, P = 256 := ⟨_, rfl⟩
          have hP1 : 1 ≤ P := by omega
          have hP2 : P ≤ 4294967296 := by omega
          have HP := Lib.hid hP
          have hsh : Op.shift .shl .i64 1 .i64 8 = pure (.int .i64 P) := by rw [hP]; kernel_rfl
          clear hP
          go_wp2_with fail
          refine (s_In 1 1 4 _).mono ?_
          rw [inR_yes (by omega) (by omega)]
          rintro e w2 ⟨rfl, rfl⟩
          go_wp2_with fail
          refine (s_Power 1 P (by rw [HP.out]; rfl) _).mono ?_
          rintro e w2 ⟨rfl, rfl⟩
          go_wp2_with fail
          go_ret
          exact ⟨ret_int (by rw [hfin.out, HP.out]; rfl), HB1.out⟩
        · rw [hs] at D2
          have hfin : Hid (F = 65535) := by show _ = _; rw [HF.out, hf.out, ← HR0.out, hs]; rfl
          clear hs
          obtain ⟨P, hP⟩ : ∃ P : Int, P = 65536 := ⟨_, rfl⟩
          have hP1 : 1 ≤ P := by omega
          have hP2 : P ≤ 4294967296 := by omega
          have HP := Lib.hid hP
          have hsh : Op.shift .shl .i64 1 .i64 16 = pure (.int .i64 P) := by rw [hP]; kernel_rfl
          clear hP
          go_wp2_with fail
          refine (s_In 2 1 4 _).mono ?_
          rw [inR_yes (by omega) (by omega)]
          rintro e w2 ⟨rfl, rfl⟩
          go_wp2_with fail
          refine (s_Power 2 P (by rw [HP.out]; rfl) _).mono ?_
          rintro e w2 ⟨rfl, rfl⟩
          go_wp2_with fail
          go_ret
          exact ⟨ret_int (by rw [hfin.out, HP.out]; rfl), HB1.out⟩
        · rw [hs] at D2
          have hfin : Hid (F = 16777215) := by show _ = _; rw [HF.out, hf.out, ← HR0.out, hs]; rfl
          clear hs
          obtain ⟨P, hP⟩ : ∃ P : Int, P = 16777216 := ⟨_, rfl⟩
          have hP1 : 1 ≤ P := by omega
          have hP2 : P ≤ 4294967296 := by omega
          have HP := Lib.hid hP
          have hsh : Op.shift .shl .i64 1 .i64 24 = pure (.int .i64 P) := by rw [hP]; kernel_rfl
          clear hP
          go_wp2_with fail
          refine (s_In 3 1 4 _).mono ?_
          rw [inR_yes (by omega) (by omega)]
          rintro e w2 ⟨rfl, rfl⟩
          go_wp2_with fail
          refine (s_Power 3 P (by rw [HP.out]; rfl) _).mono ?_
          rintro e w2 ⟨rfl, rfl⟩
          go_wp2_with fail
          go_ret
          exact ⟨ret_int (by rw [hfin.out, HP.out]; rfl), HB1.out⟩
        · rw [hs] at D2
          have hfin : Hid (F = 4294967295) := by show _ = _; rw [HF.out, hf.out, ← HR0.out, hs]; rfl
          clear hs
          obtain ⟨P, hP⟩ : ∃ P : Int, P = 4294967296 := ⟨_, rfl⟩
          have hP1 : 1 ≤ P := by omega
          have hP2 : P ≤ 4294967296 := by omega
          have HP := Lib.hid hP
          have hsh : Op.shift .shl .i64 1 .i64 32 = pure (.int .i64 P) := by rw [hP]; kernel_rfl
          clear hP
          go_wp2_with fail
          refine (s_In 4 1 4 _).mono ?_
          rw [inR_yes (by omega) (by omega)]
          rintro e w2 ⟨rfl, rfl⟩
          go_wp2_with fail
          refine (s_Power 4 P (by rw [HP.out]; rfl) _).mono ?_
          rintro e w2 ⟨rfl, rfl⟩
          go_wp2_with fail
          go_ret
          exact ⟨ret_int (by rw [hfin.out, HP.out]; rfl), HB1.out⟩
      · have hg := Lib.hid (limit_size (l := l) (i := i) (by rw [← HR0.out]; exact hsz))
        go_wp2_with fail
        refine (s_In r.size 1 4 _).mono ?_
        rw [inR_no (by omega)]
        rintro e w2 ⟨rfl, rfl⟩
        clear hsz
        go_wp2_with fail
        go_ret
        exact ⟨ret_int (by rw [HF.out, hg.out]), HB1.out⟩
    · have hf := Lib.hid (limit_kind (l := l) (i := i) (by rw [← HR0.out]; exact hk))
      have hq1 : (r.kind == 1) = false := by simpa using hk
      have hq2 : (r.kind != 1) = true := by simpa using hk
      clear hk
      go_wp2_with fail
      go_ret
      exact ⟨ret_int (by rw [HF.out, hf.out]), HB1.out⟩

end Go.Proofs.YtkjjgpkegihmhaaDoor

namespace Go.Proofs.YtkjjgpkegihmhaaDoor
open Go.RowKit
set_option linter.unusedVariables false

theorem kid_no {l : List RuleD} {i k : Int} (h : ¬ (hasL l i = true ∧ 0 ≤ k ∧ k < ((ruleAt l i).kids.length : Int) ∧ hasL l ((ruleAt l i).kids.getD k.toNat 0) = true)) : kidL l i k = ⟨#[]⟩ := by unfold kidL; rw [if_neg h]
theorem kid_yes {l : List RuleD} {i k : Int} (h : hasL l i = true ∧ 0 ≤ k ∧ k < ((ruleAt l i).kids.length : Int) ∧ hasL l ((ruleAt l i).kids.getD k.toNat 0) = true) : kidL l i k = (ruleAt l ((ruleAt l i).kids.getD k.toNat 0)).name := by unfold kidL; rw [if_pos h]
theorem kids_cell {w : World} {v : Value} {l : List Int} {A : Option Addr} {n c : Nat} (h : Rd w v 1 l.length (cI l)) (hv : v = .slice A n c) {k : Int} (h0 : 0 ≤ k) (h1 : k < (l.length : Int)) :
    ∃ b off, A = some ⟨b, off, none⟩ ∧ w.cell? ⟨b, off + k.toNat, none⟩ = some (.int .i64 (l.getD k.toNat 0)) := by
  obtain ⟨_, A', c', e, _, _, hc⟩ := h
  rw [hv] at e
  injection e with e _ _
  subst e
  obtain ⟨b, off, hA, hcell⟩ := hc (by rw [cI_len]; omega)
  refine ⟨b, off, hA, ?_⟩
  have hk : k.toNat < l.length := by omega
  have := hcell k.toNat _ (cI_at hk)
  simpa [List.getD, hk] using this

set_option maxRecDepth 100000 in
set_option maxHeartbeats 8000000 in
theorem i_KidName (d : Value) (l : List RuleD) (i k : Int) (hi : -9223372036854775808 ≤ i ∧ i ≤ 9223372036854775807) (hk : -9223372036854775808 ≤ k ∧ k ≤ 9223372036854775807) (w : World) (hd : RdDesc w d l) :
    Calls Tryd.prog 21 #[d, .int .i64 i, .int .i64 k] w fun e w' => e = .returned (.string (kidL l i k)) ∧ Below w.heap.size w w' := by
  obtain ⟨v, rfl, hv⟩ := hd
  obtain ⟨A, c, rfl, hnc, hcm, hcell⟩ := hv.all
  unfold maxLen at hcm
  obtain ⟨F, hF⟩ : ∃ F, F = kidL l i k := ⟨_, rfl⟩
  rw [← hF]
  have no : ¬ (hasL l i = true ∧ 0 ≤ k ∧ k < ((ruleAt l i).kids.length : Int) ∧ hasL l ((ruleAt l i).kids.getD k.toNat 0) = true) → Hid (⟨#[]⟩ = F) := fun h => by show _ = _; rw [hF, kid_no h]
  have yes : (hasL l i = true ∧ 0 ≤ k ∧ k < ((ruleAt l i).kids.length : Int) ∧ hasL l ((ruleAt l i).kids.getD k.toNat 0) = true) → Hid ((ruleAt l ((ruleAt l i).kids.getD k.toNat 0)).name = F) := fun h => by show _ = _; rw [hF, kid_yes h]
  clear hF
  obtain ⟨w0, hw0⟩ : ∃ w0, w0 = w.alloc (.cells #[.slice A l.length c] 29) := ⟨_, rfl⟩
  have b0 : Below w.heap.size w w0 := by rw [hw0]; exact below_box
  have HC := Lib.hid (hcell.below b0)
  have HV := Lib.hid (hv.below b0)
  have x0 : w0.cell? ⟨w.heap.size, 0, none⟩ = some (.slice A l.length c) := by rw [hw0]; exact (Box.new w _ _).cell 0
  have B0 := Lib.hid b0
  have X0 := Lib.hid x0
  have W0 := Lib.hid hw0
  clear hcell hv x0 b0 hw0
  obtain ⟨H, hH⟩ : ∃ H, H = hasL l i := ⟨_, rfl⟩
  have hr := fun w h => i_hasRule (.agg #[.slice A l.length c]) l i w h
  rw [← hH] at hr
  have L1 := Lib.hid (fun x : Later w0 => Calls.later (hr x.world ⟨_, rfl, HV.out.below x.below⟩))
  have HH := Lib.hid hH
  clear hr hH
  cases H
  · have hfin := no (fun h => by rw [← HH.out] at h; simp at h)
    clear no yes
    have x0 := X0.out
    go_enter Tryd.func21, Tryd.ntmps21
    go_wp2_with fail
    rw [← W0.out]
    have lx := later_cell X0.out
    refine wp_region_later (by kernel_rfl) (by kernel_rfl) ?_
    repeat (go_big_quiet_step ((go_at_call 54; with_reducible exact L1.out _)))
    refine wpQuiet_nil ?_
    intro w1 hb1
    clear lx
    go_wp2_with fail
    go_ret
    exact ⟨ret_str hfin.out, Below.then_ B0.out hb1 (Nat.le_refl _)⟩
  · have hi0 := hasL_iff.1 HH.out.symm
    have h0 : 0 ≤ i := hi0.1
    have h1 : i < (l.length : Int) := hi0.2
    clear hi0
    obtain ⟨b, off, vb, vn, vt, vk, rfl, hr⟩ := HC.out.at_ HH.out.symm
    obtain ⟨⟨Ab, cb, rfl⟩, ⟨An, cn, rfl⟩, ⟨At, ct, rfl⟩, ⟨Ak, ck, rfl⟩⟩ := hr.slices
    obtain ⟨r, hr0⟩ : ∃ r, r = ruleAt l i := ⟨_, rfl⟩
    rw [← hr0] at hr no yes
    have HK7 := Lib.hid hr.c7
    have HRK := Lib.hid hr.rk
    obtain ⟨_, _, _, ek, hkc, hkm, _⟩ := hr.rk
    injection ek with e1 e2 e3
    rw [← e3] at hkc hkm
    clear e1 e2 e3
    unfold maxLen at hkm
    clear hr hr0
    by_cases hk0 : 0 ≤ k
    · have dk0 : decide (k < 0) = false := by simp; omega
      by_cases hk1 : k < (r.kids.length : Int)
      · have dk1 : decide ((r.kids.length : Int) ≤ k) = false := by simp; omega
        obtain ⟨bk, ok, rfl, hkid⟩ := kids_cell HRK.out rfl hk0 hk1
        obtain ⟨kid, hkid0⟩ : ∃ kid, kid = r.kids.getD k.toNat 0 := ⟨_, rfl⟩
        rw [← hkid0] at hkid no yes
        have HKC := Lib.hid hkid
        obtain ⟨H2, hH2⟩ : ∃ H2, H2 = hasL l kid := ⟨_, rfl⟩
        have hr2 := fun w h => i_hasRule (.agg #[.slice (some ⟨b, off, none⟩) l.length c]) l kid w h
        rw [← hH2] at hr2
        have L3 := Lib.hid (fun x : Later w0 => Calls.later (hr2 x.world ⟨_, rfl, HV.out.below x.below⟩))
        have HH2 := Lib.hid hH2
        clear hr2 hH2 hkid0 hkid
        cases H2
        · have hfin := no (fun h => by rw [← HH2.out] at h; simp at h)
          clear no yes
          have x0 := X0.out
          go_enter Tryd.func21, Tryd.ntmps21
          go_wp2_with fail
          rw [← W0.out]
          have lx := later_cell X0.out
          have lk := later_cell HK7.out
          have lc := later_cell HKC.out
          refine wp_region_later (by kernel_rfl) (by kernel_rfl) ?_
          repeat (go_big_quiet_step (first | (go_at_call 54; with_reducible exact L1.out _) | (go_at_call 54; with_reducible exact L3.out _)))
          refine wpQuiet_nil ?_
          intro w1 hb1
          clear lx lk lc
          go_wp2_with fail
          go_ret
          exact ⟨ret_str hfin.out, Below.then_ B0.out hb1 (Nat.le_refl _)⟩
        · have hfin := yes ⟨HH.out.symm, hk0, hk1, HH2.out.symm⟩
          have hi2 := hasL_iff.1 HH2.out.symm
          have h2 : 0 ≤ kid := hi2.1
          have h3 : kid < (l.length : Int) := hi2.2
          clear hi2
          obtain ⟨b', off', _, _, _, _, eb, hr'⟩ := HC.out.at_ HH2.out.symm
          injection eb with eb
          injection eb with eb1 eb2
          subst eb1; subst eb2
          have N0 := hr'.c0
          obtain ⟨nm, hnm⟩ : ∃ nm, nm = (ruleAt l kid).name := ⟨_, rfl⟩
          rw [← hnm] at N0 hfin
          have HN0 := Lib.hid N0
          clear hr' hnm N0 no yes
          have x0 := X0.out
          go_enter Tryd.func21, Tryd.ntmps21
          go_wp2_with fail
          rw [← W0.out]
          have lx := later_cell X0.out
          have lk := later_cell HK7.out
          have lc := later_cell HKC.out
          refine wp_region_later (by kernel_rfl) (by kernel_rfl) ?_
          repeat (go_big_quiet_step (first | (go_at_call 54; with_reducible exact L1.out _) | (go_at_call 54; with_reducible exact L3.out _)))
          refine wpQuiet_nil ?_
          intro w1 hb1
          clear lx lk lc
          have y0 := cell_after X0.out hb1
          have y1 := cell_after HK7.out hb1
          have y2 := cell_after HKC.out hb1
          have y3 := cell_after HN0.out hb1
          have Y0 := Lib.hid y0
          have Y1 := Lib.hid y1
          have Y2 := Lib.hid y2
          have Y3 := Lib.hid y3
          have HB1 := Lib.hid hb1
          clear hb1
          go_wp2_with fail
          have la := later_cell Y0.out
          have lb := later_cell Y1.out
          have lc := later_cell Y2.out
          have ld := later_cell Y3.out
          refine wp_region_later (by kernel_rfl) (by kernel_rfl) ?_
          repeat (go_big_quiet_step (fail))
          refine wpQuiet_nil ?_
          intro w2 hb2
          clear la lb lc ld
          go_wp2_with fail
          go_ret
          exact ⟨ret_str hfin.out, Below.then_ B0.out (Below.then_ HB1.out hb2 (Nat.le_refl _)) (Nat.le_refl _)⟩
      · have dk1 : decide ((r.kids.length : Int) ≤ k) = true := by simp; omega
        have hfin := no (fun h => hk1 h.2.2.1)
        clear no yes
        have x0 := X0.out
        go_enter Tryd.func21, Tryd.ntmps21
        go_wp2_with fail
        rw [← W0.out]
        have lx := later_cell X0.out
        have lk := later_cell HK7.out
        refine wp_region_later (by kernel_rfl) (by kernel_rfl) ?_
        repeat (go_big_quiet_step ((go_at_call 54; with_reducible exact L1.out _)))
        refine wpQuiet_nil ?_
        intro w1 hb1
        clear lx lk
        go_wp2_with fail
        go_ret
        exact ⟨ret_str hfin.out, Below.then_ B0.out hb1 (Nat.le_refl _)⟩
    · have dk0 : decide (k < 0) = true := by simp; omega
      have hfin := no (fun h => hk0 h.2.1)
      clear no yes
      have x0 := X0.out
      go_enter Tryd.func21, Tryd.ntmps21
      go_wp2_with fail
      rw [← W0.out]
      have lx := later_cell X0.out
      have lk := later_cell HK7.out
      refine wp_region_later (by kernel_rfl) (by kernel_rfl) ?_
      repeat (go_big_quiet_step ((go_at_call 54; with_reducible exact L1.out _)))
      refine wpQuiet_nil ?_
      intro w1 hb1
      clear lx lk
      go_wp2_with fail
      go_ret
      exact ⟨ret_str hfin.out, Below.then_ B0.out hb1 (Nat.le_refl _)⟩

set_option maxRecDepth 100000 in
set_option maxHeartbeats 8000000 in
theorem s_KidName (d : Value) (l : List RuleD) (i k : Int) (hi : -9223372036854775808 ≤ i ∧ i ≤ 9223372036854775807) (hk : -9223372036854775808 ≤ k ∧ k ≤ 9223372036854775807) (w : World) (hd : RdDesc w d l) :
    Calls Tryd.prog 36 #[d, .int .i64 i, .int .i64 k] w fun e w' => e = .returned (.string (kidL l i k)) ∧ Below w.heap.size w w' := by
  obtain ⟨v, rfl, hv⟩ := hd
  obtain ⟨A, c, rfl, hnc, hcm, hcell⟩ := hv.all
  unfold maxLen at hcm
  obtain ⟨F, hF⟩ : ∃ F, F = kidL l i k := ⟨_, rfl⟩
  rw [← hF]
  have no : ¬ (hasL l i = true ∧ 0 ≤ k ∧ k < ((ruleAt l i).kids.length : Int) ∧ hasL l ((ruleAt l i).kids.getD k.toNat 0) = true) → Hid (⟨#[]⟩ = F) := fun h => by show _ = _; rw [hF, kid_no h]
  have yes : (hasL l i = true ∧ 0 ≤ k ∧ k < ((ruleAt l i).kids.length : Int) ∧ hasL l ((ruleAt l i).kids.getD k.toNat 0) = true) → Hid ((ruleAt l ((ruleAt l i).kids.getD k.toNat 0)).name = F) := fun h => by show _ = _; rw [hF, kid_yes h]
  clear hF
  obtain ⟨w0, hw0⟩ : ∃ w0, w0 = w.alloc (.cells #[.slice A l.length c] 29) := ⟨_, rfl⟩
  have b0 : Below w.heap.size w w0 := by rw [hw0]; exact below_box
  have HC := Lib.hid (hcell.below b0)
  have HV := Lib.hid (hv.below b0)
  have x0 : w0.cell? ⟨w.heap.size, 0, none⟩ = some (.slice A l.length c) := by rw [hw0]; exact (Box.new w _ _).cell 0
  have B0 := Lib.hid b0
  have X0 := Lib.hid x0
  have W0 := Lib.hid hw0
  clear hcell hv x0 b0 hw0
  obtain ⟨H, hH⟩ : ∃ H, H = hasL l i := ⟨_, rfl⟩
  have hr := fun w => s_In i 0 ((l.length : Int) - 1) w
  rw [show inR i 0 ((l.length : Int) - 1) = H from (in_hasL l i).trans hH.symm] at hr
  have L1 := Lib.hid (fun x : Later w0 => Calls.later_same (hr x.world))
  have HH := Lib.hid hH
  clear hr hH
  cases H
  · have hfin := no (fun h => by rw [← HH.out] at h; simp at h)
    clear no yes
    have x0 := X0.out
    go_enter Tryd.func36, Tryd.ntmps36
    go_wp2_with fail
    rw [← W0.out]
    have lx := later_cell X0.out
    refine wp_region_later (by kernel_rfl) (by kernel_rfl) ?_
    repeat (go_big_quiet_step ((go_at_call 53; with_reducible exact L1.out _)))
    refine wpQuiet_nil ?_
    intro w1 hb1
    clear lx
    go_wp2_with fail
    go_ret
    exact ⟨ret_str hfin.out, Below.then_ B0.out hb1 (Nat.le_refl _)⟩
  · have hi0 := hasL_iff.1 HH.out.symm
    have h0 : 0 ≤ i := hi0.1
    have h1 : i < (l.length : Int) := hi0.2
    clear hi0
    obtain ⟨b, off, vb, vn, vt, vk, rfl, hr⟩ := HC.out.at_ HH.out.symm
    obtain ⟨⟨Ab, cb, rfl⟩, ⟨An, cn, rfl⟩, ⟨At, ct, rfl⟩, ⟨Ak, ck, rfl⟩⟩ := hr.slices
    obtain ⟨r, hr0⟩ : ∃ r, r = ruleAt l i := ⟨_, rfl⟩
    rw [← hr0] at hr no yes
    have HK7 := Lib.hid hr.c7
    have HRK := Lib.hid hr.rk
    obtain ⟨_, _, _, ek, hkc, hkm, _⟩ := hr.rk
    injection ek with e1 e2 e3
    rw [← e3] at hkc hkm
    clear e1 e2 e3
    unfold maxLen at hkm
    clear hr hr0
    obtain ⟨H1, hH1⟩ : ∃ H1, H1 = inR k 0 ((r.kids.length : Int) - 1) := ⟨_, rfl⟩
    have hr1 := fun w => s_In k 0 ((r.kids.length : Int) - 1) w
    rw [← hH1] at hr1
    have L2 := Lib.hid (fun x : Later w0 => Calls.later_same (hr1 x.world))
    have HH1 := Lib.hid hH1
    clear hr1 hH1
    cases H1
    · have hfin := no (fun h => by have := inR_iff.2 (show 0 ≤ k ∧ k ≤ (r.kids.length : Int) - 1 by omega); rw [← HH1.out] at this; simp at this)
      clear no yes
      have x0 := X0.out
      go_enter Tryd.func36, Tryd.ntmps36
      go_wp2_with fail
      rw [← W0.out]
      have lx := later_cell X0.out
      have lk := later_cell HK7.out
      refine wp_region_later (by kernel_rfl) (by kernel_rfl) ?_
      repeat (go_big_quiet_step (first | (go_at_call 53; with_reducible exact L1.out _) | (go_at_call 53; with_reducible exact L2.out _)))
      refine wpQuiet_nil ?_
      intro w1 hb1
      clear lx lk
      go_wp2_with fail
      go_ret
      exact ⟨ret_str hfin.out, Below.then_ B0.out hb1 (Nat.le_refl _)⟩
    · have hkk := inR_iff.1 HH1.out.symm
      have hk0 : 0 ≤ k := hkk.1
      have hk1 : k < (r.kids.length : Int) := by omega
      clear hkk
      obtain ⟨bk, ok, rfl, hkid⟩ := kids_cell HRK.out rfl hk0 hk1
      obtain ⟨kid, hkid0⟩ : ∃ kid, kid = r.kids.getD k.toNat 0 := ⟨_, rfl⟩
      rw [← hkid0] at hkid no yes
      have HKC := Lib.hid hkid
      obtain ⟨H2, hH2⟩ : ∃ H2, H2 = hasL l kid := ⟨_, rfl⟩
      have hr2 := fun w => s_In kid 0 ((l.length : Int) - 1) w
      rw [show inR kid 0 ((l.length : Int) - 1) = H2 from (in_hasL l kid).trans hH2.symm] at hr2
      have L3 := Lib.hid (fun x : Later w0 => Calls.later_same (hr2 x.world))
      have HH2 := Lib.hid hH2
      clear hr2 hH2 hkid0 hkid
      cases H2
      · have hfin := no (fun h => by rw [← HH2.out] at h; simp at h)
        clear no yes
        have x0 := X0.out
        go_enter Tryd.func36, Tryd.ntmps36
        go_wp2_with fail
        rw [← W0.out]
        have lx := later_cell X0.out
        have lk := later_cell HK7.out
        have lc := later_cell HKC.out
        refine wp_region_later (by kernel_rfl) (by kernel_rfl) ?_
        repeat (go_big_quiet_step (first | (go_at_call 53; with_reducible exact L1.out _) | (go_at_call 53; with_reducible exact L2.out _) | (go_at_call 53; with_reducible exact L3.out _)))
        refine wpQuiet_nil ?_
        intro w1 hb1
        clear lx lk lc
        go_wp2_with fail
        go_ret
        exact ⟨ret_str hfin.out, Below.then_ B0.out hb1 (Nat.le_refl _)⟩
      · have hfin := yes ⟨HH.out.symm, hk0, hk1, HH2.out.symm⟩
        have hi2 := hasL_iff.1 HH2.out.symm
        have h2 : 0 ≤ kid := hi2.1
        have h3 : kid < (l.length : Int) := hi2.2
        clear hi2
        obtain ⟨b', off', _, _, _, _, eb, hr'⟩ := HC.out.at_ HH2.out.symm
        injection eb with eb
        injection eb with eb1 eb2
        subst eb1; subst eb2
        have N0 := hr'.c0
        obtain ⟨nm, hnm⟩ : ∃ nm, nm = (ruleAt l kid).name := ⟨_, rfl⟩
        rw [← hnm] at N0 hfin
        have HN0 := Lib.hid N0
        clear hr' hnm N0 no yes
        have x0 := X0.out
        go_enter Tryd.func36, Tryd.ntmps36
        go_wp2_with fail
        rw [← W0.out]
        have lx := later_cell X0.out
        have lk := later_cell HK7.out
        have lc := later_cell HKC.out
        refine wp_region_later (by kernel_rfl) (by kernel_rfl) ?_
        repeat (go_big_quiet_step (first | (go_at_call 53; with_reducible exact L1.out _) | (go_at_call 53; with_reducible exact L2.out _) | (go_at_call 53; with_reducible exact L3.out _)))
        refine wpQuiet_nil ?_
        intro w1 hb1
        clear lx lk lc
        have y0 := cell_after X0.out hb1
        have y1 := cell_after HK7.out hb1
        have y2 := cell_after HKC.out hb1
        have y3 := cell_after HN0.out hb1
        have Y0 := Lib.hid y0
        have Y1 := Lib.hid y1
        have Y2 := Lib.hid y2
        have Y3 := Lib.hid y3
        have HB1 := Lib.hid hb1
        clear hb1
        go_wp2_with fail
        have la := later_cell Y0.out
        have lb := later_cell Y1.out
        have lc := later_cell Y2.out
        have ld := later_cell Y3.out
        refine wp_region_later (by kernel_rfl) (by kernel_rfl) ?_
        repeat (go_big_quiet_step (fail))
        refine wpQuiet_nil ?_
        intro w2 hb2
        clear la lb lc ld
        go_wp2_with fail
        go_ret
        exact ⟨ret_str hfin.out, Below.then_ B0.out (Below.then_ HB1.out hb2 (Nat.le_refl _)) (Nat.le_refl _)⟩

end Go.Proofs.YtkjjgpkegihmhaaDoor
