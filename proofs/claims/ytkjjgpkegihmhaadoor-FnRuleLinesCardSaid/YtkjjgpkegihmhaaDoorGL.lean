/-
  Several texts in one: EqLists, SpecEqual, Equal, EqualRules, CountKind, DescNames.
-/
import Derived.Test.YtkjjgpkegihmhaaDoorProg
import Derived.Test.YtkjjgpkegihmhaaDoorGA
import Derived.WalkKit
import Derived.WalkSpells
import Derived.WalkLawsBesides
import Derived.Lib.Hide
import Derived.Deep.QuietTactic
import Derived.BigQuiet
import Derived.Test.YtkjjgpkegihmhaaDoorShelf
import Derived.Test.YtkjjgpkegihmhaaDoorGB
import Derived.BigGuard
import Derived.OwnWalk
namespace Go.Proofs.YtkjjgpkegihmhaaDoor
open Go.RowKit

set_option maxHeartbeats 1000000 in
theorem i_eqStrings (va vb : Value) (xs ys : List ByteArray) (w : World) (ha : Rd w va 1 xs.length (cS xs)) (hb : Rd w vb 1 ys.length (cS ys)) :
    Calls Tryd.prog 81 #[va, vb] w fun e w' => e = .returned (.bool (decide (xs = ys))) ∧ Below w.heap.size w w' := by
  by_cases hlen : xs.length = ys.length
  · obtain ⟨n, hn⟩ : ∃ n, n = ys.length := ⟨_, rfl⟩
    rw [hlen, ← hn] at ha
    rw [← hn] at hb
    rw [← hn] at hlen
    obtain ⟨_, A, c, rfl, hnc, hcm, hcell⟩ := ha
    obtain ⟨_, A', c', rfl, hnc', hcm', hcell'⟩ := hb
    unfold maxLen at hcm hcm'
    have HA := Lib.hid hlen; clear hlen
    have HB := Lib.hid hn; clear hn
    have HC := Lib.hid hcell; clear hcell
    have HC' := Lib.hid hcell'; clear hcell'
    go_enter Tryd.func81, Tryd.ntmps81
    go_wp2_with fail
    go_loopw [13] (fun i wr => ∃ k : Nat, k ≤ n ∧ i = .int .i64 k ∧ xs.take k = ys.take k ∧ Below w.heap.size w wr) (fun i _ => n - (intOf i).toNat)
    case atStart => exact ⟨0, Nat.zero_le _, rfl, by simp, Below.refl _ _⟩
    case round =>
      obtain ⟨k, hk, rfl, htk, hbr⟩ := hrel
      have HT := Lib.hid htk; clear htk
      by_cases hlt : k < n
      · obtain ⟨b, off, rfl, hc⟩ := HC.out (by rw [cS_len, HA.out]; omega)
        obtain ⟨b', off', rfl, hc'⟩ := HC'.out (by rw [cS_len, ← HB.out]; omega)
        have hka : k < xs.length := by rw [HA.out]; exact hlt
        have hkb : k < ys.length := by rw [← HB.out]; exact hlt
        have hx0 := hc k _ (cS_at hka)
        have hy0 := hc' k _ (cS_at hkb)
        have hx1 := (hbr.cell (World.block_lt_of_cell? w _ hx0)).trans hx0
        have hy1 := (hbr.cell (World.block_lt_of_cell? w _ hy0)).trans hy0
        obtain ⟨x, hx⟩ : ∃ x, x = xs[k] := ⟨_, rfl⟩
        obtain ⟨y, hy⟩ : ∃ y, y = ys[k] := ⟨_, rfl⟩
        rw [← hx] at hx1
        rw [← hy] at hy1
        have HX := Lib.hid (show xs[k]? = some x by rw [List.getElem?_eq_getElem hka, hx])
        have HY := Lib.hid (show ys[k]? = some y by rw [List.getElem?_eq_getElem hkb, hy])
        have HBR := Lib.hid hbr
        have hlti : (k : Int) < (n : Int) := by omega
        have hk0 : (0 : Int) ≤ (k : Int) := by omega
        clear hx hy hx0 hy0 hc hc' hbr hka hkb
        by_cases hxy : x = y
        · have hq : (x.toList == y.toList) = true := by rw [hxy]; simp
          have HXY := Lib.hid hxy
          clear hxy
          go_wp2_with fail
          go_quiet (fail)
          go_wp2_with fail
          go_roundw
          case rel =>
            refine ⟨k + 1, by omega, by go_num, ?_, below_drewN HBR.out _⟩
            rw [List.take_add_one, List.take_add_one, HT.out, HX.out, HY.out, HXY.out]
          case measure => simp [intOf]; omega
        · have hq : (x.toList == y.toList) = false := str_ne hxy
          have HXY := Lib.hid hxy
          clear hxy
          go_wp2_with fail
          go_quiet (fail)
          go_wp2_with fail
          go_ret
          refine ⟨ret_bool ?_, below_drewN HBR.out _⟩
          symm
          rw [decide_eq_false_iff_not]
          intro e
          have h1 := HX.out
          rw [e, HY.out] at h1
          exact HXY.out (Option.some.inj h1).symm
      · obtain rfl : k = n := by omega
        have HBR := Lib.hid hbr
        clear hbr
        go_wp2_with fail
        go_ret
        refine ⟨ret_bool ?_, HBR.out⟩
        symm
        rw [decide_eq_true_iff]
        have := HT.out
        rwa [List.take_of_length_le (by rw [HA.out]; exact Nat.le_refl _), List.take_of_length_le (by rw [← HB.out]; exact Nat.le_refl _)] at this
  · obtain ⟨_, A, c, rfl, hnc, hcm, hcell⟩ := ha
    obtain ⟨_, A', c', rfl, hnc', hcm', hcell'⟩ := hb
    have hq : ((xs.length : Int) == (ys.length : Int)) = false := by rw [beq_eq_false_iff_ne]; omega
    have hq2 : ((xs.length : Int) != (ys.length : Int)) = true := by rw [bne_iff_ne]; omega
    have HL := Lib.hid hlen
    clear hlen hcell hcell'
    go_enter Tryd.func81, Tryd.ntmps81
    go_wp2_with fail
    go_ret
    refine ⟨ret_bool ?_, Below.refl _ _⟩
    symm
    rw [decide_eq_false_iff_not]
    intro e
    exact HL.out (by rw [e])


set_option maxHeartbeats 1000000 in
theorem i_eqInts (va vb : Value) (xs ys : List Int) (w : World) (ha : Rd w va 1 xs.length (cI xs)) (hb : Rd w vb 1 ys.length (cI ys)) :
    Calls Tryd.prog 82 #[va, vb] w fun e w' => e = .returned (.bool (decide (xs = ys))) ∧ Below w.heap.size w w' := by
  by_cases hlen : xs.length = ys.length
  · obtain ⟨n, hn⟩ : ∃ n, n = ys.length := ⟨_, rfl⟩
    rw [hlen, ← hn] at ha
    rw [← hn] at hb
    rw [← hn] at hlen
    obtain ⟨_, A, c, rfl, hnc, hcm, hcell⟩ := ha
    obtain ⟨_, A', c', rfl, hnc', hcm', hcell'⟩ := hb
    unfold maxLen at hcm hcm'
    have HA := Lib.hid hlen; clear hlen
    have HB := Lib.hid hn; clear hn
    have HC := Lib.hid hcell; clear hcell
    have HC' := Lib.hid hcell'; clear hcell'
    go_enter Tryd.func82, Tryd.ntmps82
    go_wp2_with fail
    go_loopw [13] (fun i wr => ∃ k : Nat, k ≤ n ∧ i = .int .i64 k ∧ xs.take k = ys.take k ∧ Below w.heap.size w wr) (fun i _ => n - (intOf i).toNat)
    case atStart => exact ⟨0, Nat.zero_le _, rfl, by simp, Below.refl _ _⟩
    case round =>
      obtain ⟨k, hk, rfl, htk, hbr⟩ := hrel
      have HT := Lib.hid htk; clear htk
      by_cases hlt : k < n
      · obtain ⟨b, off, rfl, hc⟩ := HC.out (by rw [cI_len, HA.out]; omega)
        obtain ⟨b', off', rfl, hc'⟩ := HC'.out (by rw [cI_len, ← HB.out]; omega)
        have hka : k < xs.length := by rw [HA.out]; exact hlt
        have hkb : k < ys.length := by rw [← HB.out]; exact hlt
        have hx0 := hc k _ (cI_at hka)
        have hy0 := hc' k _ (cI_at hkb)
        have hx1 := (hbr.cell (World.block_lt_of_cell? w _ hx0)).trans hx0
        have hy1 := (hbr.cell (World.block_lt_of_cell? w _ hy0)).trans hy0
        obtain ⟨x, hx⟩ : ∃ x, x = xs[k] := ⟨_, rfl⟩
        obtain ⟨y, hy⟩ : ∃ y, y = ys[k] := ⟨_, rfl⟩
        rw [← hx] at hx1
        rw [← hy] at hy1
        have HX := Lib.hid (show xs[k]? = some x by rw [List.getElem?_eq_getElem hka, hx])
        have HY := Lib.hid (show ys[k]? = some y by rw [List.getElem?_eq_getElem hkb, hy])
        have HBR := Lib.hid hbr
        have hlti : (k : Int) < (n : Int) := by omega
        have hk0 : (0 : Int) ≤ (k : Int) := by omega
        clear hx hy hx0 hy0 hc hc' hbr hka hkb
        by_cases hxy : x = y
        · have hq : (x == y) = true := by rw [hxy]; simp
          have hq2 : (x != y) = false := by rw [hxy]; simp
          have HXY := Lib.hid hxy
          clear hxy
          go_wp2_with fail
          go_quiet (fail)
          go_wp2_with fail
          go_roundw
          case rel =>
            refine ⟨k + 1, by omega, by go_num, ?_, below_drewN HBR.out _⟩
            rw [List.take_add_one, List.take_add_one, HT.out, HX.out, HY.out, HXY.out]
          case measure => simp [intOf]; omega
        · have hq : (x == y) = false := by simpa using hxy
          have hq2 : (x != y) = true := by simpa using hxy
          have HXY := Lib.hid hxy
          clear hxy
          go_wp2_with fail
          go_quiet (fail)
          go_wp2_with fail
          go_ret
          refine ⟨ret_bool ?_, below_drewN HBR.out _⟩
          symm
          rw [decide_eq_false_iff_not]
          intro e
          have h1 := HX.out
          rw [e, HY.out] at h1
          exact HXY.out (Option.some.inj h1).symm
      · obtain rfl : k = n := by omega
        have HBR := Lib.hid hbr
        clear hbr
        go_wp2_with fail
        go_ret
        refine ⟨ret_bool ?_, HBR.out⟩
        symm
        rw [decide_eq_true_iff]
        have := HT.out
        rwa [List.take_of_length_le (by rw [HA.out]; exact Nat.le_refl _), List.take_of_length_le (by rw [← HB.out]; exact Nat.le_refl _)] at this
  · obtain ⟨_, A, c, rfl, hnc, hcm, hcell⟩ := ha
    obtain ⟨_, A', c', rfl, hnc', hcm', hcell'⟩ := hb
    have hq : ((xs.length : Int) == (ys.length : Int)) = false := by rw [beq_eq_false_iff_ne]; omega
    have hq2 : ((xs.length : Int) != (ys.length : Int)) = true := by rw [bne_iff_ne]; omega
    have HL := Lib.hid hlen
    clear hlen hcell hcell'
    go_enter Tryd.func82, Tryd.ntmps82
    go_wp2_with fail
    go_ret
    refine ⟨ret_bool ?_, Below.refl _ _⟩
    symm
    rw [decide_eq_false_iff_not]
    intro e
    exact HL.out (by rw [e])

end Go.Proofs.YtkjjgpkegihmhaaDoor

namespace Go.Proofs.YtkjjgpkegihmhaaDoor
open Go.RowKit

end Go.Proofs.YtkjjgpkegihmhaaDoor

namespace Go.Proofs.YtkjjgpkegihmhaaDoor
open Go.RowKit

theorem mkS_beq (a b : List UInt8) : ((mkS a).toList == (mkS b).toList) = decide (a = b) := by
  rw [Lib.toList_data, Lib.toList_data]
  simp only [mkS_list]
  rw [Bool.eq_iff_iff]
  simp

theorem nums_mk (l : List UInt8) : strOfNums (l.map fun b => (b.toNat : Int)) = mkS l := by
  unfold strOfNums mkS
  congr 2
  rw [List.map_map]
  conv => rhs; rw [← List.map_id l]
  apply List.map_congr_left
  intro b _
  simp
theorem nums_bytes (l : List UInt8) : Lib.bytesOf (l.map fun b => (b.toNat : Int)) = l := by
  unfold Lib.bytesOf
  rw [List.map_map]
  conv => rhs; rw [← List.map_id l]
  apply List.map_congr_left
  intro b _
  simp
set_option maxHeartbeats 1000000 in
theorem i_EqualBytes (va vb : Value) (xs ys : List UInt8) (n m : Nat) (w : World) (ha : Rd w va 1 n (cB xs)) (hb : Rd w vb 1 m (cB ys)) :
    Calls Tryd.prog 80 #[va, vb] w fun e w' => e = .returned (.bool (decide (xs = ys))) ∧ w = w' := by
  have c1 := conv_rd ha
  have c2 := conv_rd hb
  rw [← nums_mk] at c1 c2
  have h1 := Lib.hid c1
  have h2 := Lib.hid c2
  have heq : (xs == ys) = decide (xs = ys) := by rw [Bool.eq_iff_iff]; simp
  have HE := Lib.hid heq
  clear ha hb c1 c2 heq
  go_enter Tryd.func80, Tryd.ntmps80
  go_wp2_with fail
  refine (Tryd.bytes_Equal _ _ _ _ _ h1.out h2.out).mono ?_
  rw [nums_bytes, nums_bytes, HE.out]
  rintro e w' ⟨rfl, rfl⟩
  go_wp2_with fail
  go_ret
  exact ⟨rfl, rfl⟩

end Go.Proofs.YtkjjgpkegihmhaaDoor

namespace Go.Proofs.YtkjjgpkegihmhaaDoor
open Go.RowKit

theorem i_EqB (va vb : Value) (xs ys : List UInt8) (w : World) (ha : Rd w va 1 xs.length (cB xs)) (hb : Rd w vb 1 ys.length (cB ys)) :
    Calls Tryd.prog 80 #[va, vb] w fun e w' => e = .returned (.bool (decide (xs = ys))) ∧ Below w.heap.size w w' := by
  refine (i_EqualBytes va vb xs ys _ _ w ha hb).mono ?_
  rintro e w' ⟨rfl, rfl⟩
  exact ⟨rfl, Below.refl _ _⟩
theorem Cells8.more {w : World} {b o b' o' : Nat} {r q : RuleD} {vb vn vt vk ub un ut uk x y : Value} {p p' : Addr} (h : Cells8 w b o r vb vn vt vk) (h' : Cells8 w b' o' q ub un ut uk) (hx : w.cell? p = some x) (hy : w.cell? p' = some y) :
    w.cell? ⟨b, o, none⟩ = some (.string r.name) ∧ w.cell? ⟨b, o + 1, none⟩ = some (.int .i64 r.kind) ∧ w.cell? ⟨b, o + 2, none⟩ = some (.int .i64 r.size) ∧ w.cell? ⟨b, o + 3, none⟩ = some (.bool r.little) ∧ w.cell? ⟨b, o + 4, none⟩ = some vb ∧ w.cell? ⟨b, o + 5, none⟩ = some vn ∧ w.cell? ⟨b, o + 6, none⟩ = some vt ∧ w.cell? ⟨b, o + 7, none⟩ = some vk ∧
    w.cell? ⟨b', o', none⟩ = some (.string q.name) ∧ w.cell? ⟨b', o' + 1, none⟩ = some (.int .i64 q.kind) ∧ w.cell? ⟨b', o' + 2, none⟩ = some (.int .i64 q.size) ∧ w.cell? ⟨b', o' + 3, none⟩ = some (.bool q.little) ∧ w.cell? ⟨b', o' + 4, none⟩ = some ub ∧ w.cell? ⟨b', o' + 5, none⟩ = some un ∧ w.cell? ⟨b', o' + 6, none⟩ = some ut ∧ w.cell? ⟨b', o' + 7, none⟩ = some uk ∧
    w.cell? p = some x ∧ w.cell? p' = some y := by
  obtain ⟨h0, h1, h2, h3, h4, h5, h6, h7⟩ := h
  obtain ⟨g0, g1, g2, g3, g4, g5, g6, g7⟩ := h'
  exact ⟨h0, h1, h2, h3, h4, h5, h6, h7, g0, g1, g2, g3, g4, g5, g6, g7, hx, hy⟩

set_option maxHeartbeats 8000000 in
theorem i_equalRules (r q : RuleD) (vb vn vt vk ub un ut uk : Value) (w : World) (hr : RdRule w (ruleCells r vb vn vt vk) r) (hq : RdRule w (ruleCells q ub un ut uk) q) :
    Calls Tryd.prog 59 #[.agg #[.string r.name, .int .i64 r.kind, .int .i64 r.size, .bool r.little, vb, vn, vt, vk], .agg #[.string q.name, .int .i64 q.kind, .int .i64 q.size, .bool q.little, ub, un, ut, uk]] w
      fun e w' => e = .returned (.bool (decide (r = q))) ∧ Below w.heap.size w w' := by
  have HA := ((Below.refl w.heap.size w).alloc (Nat.le_refl _) (.cells #[.string r.name, .int .i64 r.kind, .int .i64 r.size, .bool r.little, vb, vn, vt, vk] 43)).alloc (by simp) (.cells #[.string q.name, .int .i64 q.kind, .int .i64 q.size, .bool q.little, ub, un, ut, uk] 43)
  obtain ⟨hb, hn, ht, hk⟩ := rdRule_parts hr
  obtain ⟨gb, gn, gt, gk⟩ := rdRule_parts hq
  have HB := Lib.hid (hb.below HA)
  have HN := Lib.hid (hn.below HA)
  have HT := Lib.hid (ht.below HA)
  have HK := Lib.hid (hk.below HA)
  have GB := Lib.hid (gb.below HA)
  have GN := Lib.hid (gn.below HA)
  have GT := Lib.hid (gt.below HA)
  have GK := Lib.hid (gk.below HA)
  have HA' := Lib.hid HA
  have no : r ≠ q → Hid (false = decide (r = q)) := fun h => by show _ = _; symm; simpa using h
  have NO := Lib.hid no
  obtain ⟨D, hD⟩ : ∃ D, D = decide (r = q) := ⟨_, rfl⟩
  have HD := Lib.hid hD
  rw [← hD]
  clear HA hr hq hb hn ht hk gb gn gt gk no hD
  by_cases c0 : r.name = q.name
  · have x0 : (r.name.toList == q.name.toList) = true := by rw [c0]; simp
    have C0 := Lib.hid c0
    clear c0
    by_cases c1 : r.kind = q.kind
    · have x1 : (r.kind == q.kind) = true := by rw [c1]; simp
      have C1 := Lib.hid c1
      clear c1
      by_cases c2 : r.size = q.size
      · have x2 : (r.size == q.size) = true := by rw [c2]; simp
        have C2 := Lib.hid c2
        clear c2
        by_cases c3 : r.little = q.little
        · have x3 : (r.little == q.little) = true := by rw [c3]; simp
          have C3 := Lib.hid c3
          clear c3
          go_enter Tryd.func59, Tryd.ntmps59
          go_wp2_with fail
          have BA0 : Box ((w.alloc (.cells #[.string r.name, .int .i64 r.kind, .int .i64 r.size, .bool r.little, vb, vn, vt, vk] 43)).alloc (.cells #[.string q.name, .int .i64 q.kind, .int .i64 q.size, .bool q.little, ub, un, ut, uk] 43)) w.heap.size 43 #[.string r.name, .int .i64 r.kind, .int .i64 r.size, .bool r.little, vb, vn, vt, vk] := (Box.new w _ _).alloc _
          have BB0 : Box ((w.alloc (.cells #[.string r.name, .int .i64 r.kind, .int .i64 r.size, .bool r.little, vb, vn, vt, vk] 43)).alloc (.cells #[.string q.name, .int .i64 q.kind, .int .i64 q.size, .bool q.little, ub, un, ut, uk] 43)) (w.heap.size + 1) 43 #[.string q.name, .int .i64 q.kind, .int .i64 q.size, .bool q.little, ub, un, ut, uk] := by simpa using Box.new (w.alloc (.cells #[.string r.name, .int .i64 r.kind, .int .i64 r.size, .bool r.little, vb, vn, vt, vk] 43)) 43 #[.string q.name, .int .i64 q.kind, .int .i64 q.size, .bool q.little, ub, un, ut, uk]
          have XA0 := Lib.hid BA0
          have XB0 := Lib.hid BB0
          clear BA0 BB0
          refine (i_EqB vb ub r.bytes q.bytes _ HB.out GB.out).mono ?_
          by_cases c4 : r.bytes = q.bytes
          · rw [decide_eq_true c4]
            have C4 := Lib.hid c4
            clear c4
            rintro e w1 ⟨rfl, hb1⟩
            have BA1 := XA0.out.below hb1
            have BB1 := XB0.out.below hb1
            have d1 : w1.cell? ⟨w.heap.size, 5, none⟩ = some vn := BA1.cell 5
            have d2 : w1.cell? ⟨w.heap.size + 1, 5, none⟩ = some un := BB1.cell 5
            have XA1 := Lib.hid BA1
            have XB1 := Lib.hid BB1
            have HB1 := Lib.hid hb1
            clear BA1 BB1 hb1
            go_wp2_with fail
            clear d1 d2
            refine (i_eqStrings vn un r.names q.names _ (HN.out.below HB1.out) (GN.out.below HB1.out)).mono ?_
            by_cases c5 : r.names = q.names
            · rw [decide_eq_true c5]
              have C5 := Lib.hid c5
              clear c5
              rintro e w2 ⟨rfl, hb2⟩
              have BA2 := XA1.out.below hb2
              have BB2 := XB1.out.below hb2
              have d1 : w2.cell? ⟨w.heap.size, 6, none⟩ = some vt := BA2.cell 6
              have d2 : w2.cell? ⟨w.heap.size + 1, 6, none⟩ = some ut := BB2.cell 6
              have XA2 := Lib.hid BA2
              have XB2 := Lib.hid BB2
              have HB2 := Lib.hid (Below.then_ HB1.out hb2 (Nat.le_refl _))
              clear BA2 BB2 hb2
              go_wp2_with fail
              clear d1 d2
              refine (i_eqInts vt ut r.tags q.tags _ (HT.out.below HB2.out) (GT.out.below HB2.out)).mono ?_
              by_cases c6 : r.tags = q.tags
              · rw [decide_eq_true c6]
                have C6 := Lib.hid c6
                clear c6
                rintro e w3 ⟨rfl, hb3⟩
                have BA3 := XA2.out.below hb3
                have BB3 := XB2.out.below hb3
                have d1 : w3.cell? ⟨w.heap.size, 7, none⟩ = some vk := BA3.cell 7
                have d2 : w3.cell? ⟨w.heap.size + 1, 7, none⟩ = some uk := BB3.cell 7
                have XA3 := Lib.hid BA3
                have XB3 := Lib.hid BB3
                have HB3 := Lib.hid (Below.then_ HB2.out hb3 (Nat.le_refl _))
                clear BA3 BB3 hb3
                go_wp2_with fail
                clear d1 d2
                refine (i_eqInts vk uk r.kids q.kids _ (HK.out.below HB3.out) (GK.out.below HB3.out)).mono ?_
                by_cases c7 : r.kids = q.kids
                · rw [decide_eq_true c7]
                  have C7 := Lib.hid c7
                  clear c7
                  rintro e w4 ⟨rfl, hb4⟩
                  have hy : Hid (true = D) := by show _ = _; rw [HD.out]; symm; simpa using rule_ext C0.out C1.out C2.out C3.out C4.out C5.out C6.out C7.out
                  have hbz := Below.then_ HA'.out (Below.then_ HB3.out hb4 (Nat.le_refl _)) (by simp)
                  go_wp2_with fail
                  go_ret
                  exact ⟨ret_bool hy.out, hbz⟩
                · rw [decide_eq_false c7]
                  have hy := NO.out (fun e => c7 (by rw [e]))
                  rintro e w4 ⟨rfl, hb4⟩
                  have hbz := Below.then_ HA'.out (Below.then_ HB3.out hb4 (Nat.le_refl _)) (by simp)
                  clear hb4
                  go_wp2_with fail
                  go_ret
                  exact ⟨ret_bool (by rw [HD.out]; exact hy.out), hbz⟩
              · rw [decide_eq_false c6]
                have hy := NO.out (fun e => c6 (by rw [e]))
                rintro e w3 ⟨rfl, hb3⟩
                have hbz := Below.then_ HA'.out (Below.then_ HB2.out hb3 (Nat.le_refl _)) (by simp)
                clear hb3
                go_wp2_with fail
                go_ret
                exact ⟨ret_bool (by rw [HD.out]; exact hy.out), hbz⟩
            · rw [decide_eq_false c5]
              have hy := NO.out (fun e => c5 (by rw [e]))
              rintro e w2 ⟨rfl, hb2⟩
              have hbz := Below.then_ HA'.out (Below.then_ HB1.out hb2 (Nat.le_refl _)) (by simp)
              clear hb2
              go_wp2_with fail
              go_ret
              exact ⟨ret_bool (by rw [HD.out]; exact hy.out), hbz⟩
          · rw [decide_eq_false c4]
            have hy := NO.out (fun e => c4 (by rw [e]))
            rintro e w1 ⟨rfl, hb1⟩
            have hbz := Below.then_ HA'.out hb1 (by simp)
            clear hb1
            go_wp2_with fail
            go_ret
            exact ⟨ret_bool (by rw [HD.out]; exact hy.out), hbz⟩
        · have x3 : (r.little == q.little) = false := by simpa using c3
          have hy := NO.out (fun e => c3 (by rw [e]))
          clear c3
          go_enter Tryd.func59, Tryd.ntmps59
          go_wp2_with fail
          go_ret
          exact ⟨ret_bool (by rw [HD.out]; exact hy.out), HA'.out⟩
      · have x2 : (r.size == q.size) = false := by simpa using c2
        have hy := NO.out (fun e => c2 (by rw [e]))
        clear c2
        go_enter Tryd.func59, Tryd.ntmps59
        go_wp2_with fail
        go_ret
        exact ⟨ret_bool (by rw [HD.out]; exact hy.out), HA'.out⟩
    · have x1 : (r.kind == q.kind) = false := by simpa using c1
      have hy := NO.out (fun e => c1 (by rw [e]))
      clear c1
      go_enter Tryd.func59, Tryd.ntmps59
      go_wp2_with fail
      go_ret
      exact ⟨ret_bool (by rw [HD.out]; exact hy.out), HA'.out⟩
  · have x0 : (r.name.toList == q.name.toList) = false := str_ne c0
    have hy := NO.out (fun e => c0 (by rw [e]))
    clear c0
    go_enter Tryd.func59, Tryd.ntmps59
    go_wp2_with fail
    go_ret
    exact ⟨ret_bool (by rw [HD.out]; exact hy.out), HA'.out⟩

set_option maxHeartbeats 8000000 in
theorem i_EqualDescriptions (d e : Value) (xs ys : List RuleD) (w : World) (hd : RdDesc w d xs) (he : RdDesc w e ys) :
    Calls Tryd.prog 29 #[d, e] w fun e w' => e = .returned (.bool (decide (xs = ys))) ∧ Below w.heap.size w w' := by
  obtain ⟨va, rfl, ha⟩ := hd
  obtain ⟨vb, rfl, hb⟩ := he
  by_cases hlen : xs.length = ys.length
  · obtain ⟨n, hn⟩ : ∃ n, n = ys.length := ⟨_, rfl⟩
    obtain ⟨A, c, rfl, hnc, hcm, hcell⟩ := ha.all
    obtain ⟨A', c', rfl, hnc', hcm', hcell'⟩ := hb.all
    rw [hlen, ← hn] at hnc ⊢
    rw [← hn] at hnc' hlen
    unfold maxLen at hcm hcm'
    have HA := Lib.hid hlen; clear hlen
    have HB := Lib.hid hn; clear hn
    have HC := Lib.hid hcell; clear hcell
    have HC' := Lib.hid hcell'; clear hcell' ha hb
    obtain ⟨D, hD⟩ : ∃ D, D = decide (xs = ys) := ⟨_, rfl⟩
    have HD := Lib.hid hD
    rw [← hD]
    clear hD
    obtain ⟨w0, hw0⟩ : ∃ w0, w0 = (w.alloc (.cells #[.slice A n c] 29)).alloc (.cells #[.slice A' n c'] 29) := ⟨_, rfl⟩
    have hb0 : Below w.heap.size w w0 := by rw [hw0]; exact below_box.alloc (by simp) _
    have p0 : Box w0 w.heap.size 29 #[.slice A n c] := by rw [hw0]; exact (Box.new w _ _).alloc _
    have q0 : Box w0 (w.heap.size + 1) 29 #[.slice A' n c'] := by rw [hw0]; simpa using Box.new (w.alloc (.cells #[.slice A n c] 29)) 29 #[.slice A' n c']
    have HB0 := Lib.hid hb0
    have P0 := Lib.hid p0
    have Q0 := Lib.hid q0
    have HW0 := Lib.hid hw0
    clear hb0 p0 q0 hw0
    go_enter Tryd.func29, Tryd.ntmps29
    go_wp2_with fail
    rw [← HW0.out]
    go_loopw [16] (fun i wr => ∃ k : Nat, k ≤ n ∧ i = .int .i64 k ∧ xs.take k = ys.take k ∧ Below w0.heap.size w0 wr) (fun i _ => n - (intOf i).toNat)
    case atStart => exact ⟨0, Nat.zero_le _, rfl, by simp, Below.refl _ _⟩
    case round =>
      obtain ⟨k, hk, rfl, htk, hbr⟩ := hrel
      have HT := Lib.hid htk; clear htk
      have p1 : wr.cell? ⟨w.heap.size, 0, none⟩ = some (.slice A n c) := (P0.out.below hbr).cell 0
      have q1 : wr.cell? ⟨w.heap.size + 1, 0, none⟩ = some (.slice A' n c') := (Q0.out.below hbr).cell 0
      have P1 := Lib.hid (P0.out.below hbr)
      have Q1 := Lib.hid (Q0.out.below hbr)
      have hbw := Below.then_ HB0.out hbr (Nat.le_refl _)
      by_cases hlt : k < n
      · have hka : k < xs.length := by rw [HA.out]; exact hlt
        have hkb : k < ys.length := by rw [← HB.out]; exact hlt
        obtain ⟨b, off, rfl, hc⟩ := HC.out (by omega)
        obtain ⟨b', off', rfl, hc'⟩ := HC'.out (by omega)
        obtain ⟨vb, vn, vt, vk, hr⟩ := hc k hka
        obtain ⟨ub, un, ut, uk, hq⟩ := hc' k hkb
        have hr1 := hr.below hbw
        have hq1 := hq.below hbw
        obtain ⟨r, hr0⟩ : ∃ r, r = xs[k] := ⟨_, rfl⟩
        obtain ⟨q, hq0⟩ : ∃ q, q = ys[k] := ⟨_, rfl⟩
        rw [← hr0] at hr1
        rw [← hq0] at hq1
        have HX := Lib.hid (show xs[k]? = some r by rw [List.getElem?_eq_getElem hka, hr0])
        have HY := Lib.hid (show ys[k]? = some q by rw [List.getElem?_eq_getElem hkb, hq0])
        have HBR := Lib.hid hbr
        have hlti : (k : Int) < (n : Int) := by omega
        have hk0 : (0 : Int) ≤ (k : Int) := by omega
        have hr2 := Lib.hid hr1.drew.rd
        have hq2 := Lib.hid hq1.drew.rd
        have HR1 := Lib.hid hr1
        have HQ1 := Lib.hid hq1
        have cr := hr1.eight
        have cq := hq1.eight
        clear hr0 hq0 hr hq hc hc' hbr hbw hka hkb hr1 hq1
        obtain ⟨D0, D1, D2, D3, D4, D5, D6, D7⟩ := cr
        obtain ⟨E0, E1, E2, E3, E4, E5, E6, E7⟩ := cq
        go_wp2_with fail
        go_region_held3 (fun w' => w'.cell? ⟨b, off + k * 8, none⟩ = some (.string r.name) ∧ w'.cell? ⟨b, off + k * 8 + 1, none⟩ = some (.int .i64 r.kind) ∧ w'.cell? ⟨b, off + k * 8 + 2, none⟩ = some (.int .i64 r.size) ∧ w'.cell? ⟨b, off + k * 8 + 3, none⟩ = some (.bool r.little) ∧ w'.cell? ⟨b, off + k * 8 + 4, none⟩ = some vb ∧ w'.cell? ⟨b, off + k * 8 + 5, none⟩ = some vn ∧ w'.cell? ⟨b, off + k * 8 + 6, none⟩ = some vt ∧ w'.cell? ⟨b, off + k * 8 + 7, none⟩ = some vk ∧ w'.cell? ⟨b', off' + k * 8, none⟩ = some (.string q.name) ∧ w'.cell? ⟨b', off' + k * 8 + 1, none⟩ = some (.int .i64 q.kind) ∧ w'.cell? ⟨b', off' + k * 8 + 2, none⟩ = some (.int .i64 q.size) ∧ w'.cell? ⟨b', off' + k * 8 + 3, none⟩ = some (.bool q.little) ∧ w'.cell? ⟨b', off' + k * 8 + 4, none⟩ = some ub ∧ w'.cell? ⟨b', off' + k * 8 + 5, none⟩ = some un ∧ w'.cell? ⟨b', off' + k * 8 + 6, none⟩ = some ut ∧ w'.cell? ⟨b', off' + k * 8 + 7, none⟩ = some uk ∧ w'.cell? ⟨w.heap.size, 0, none⟩ = some (.slice (some ⟨b, off, none⟩) n c) ∧ w'.cell? ⟨w.heap.size + 1, 0, none⟩ = some (.slice (some ⟨b', off', none⟩) n c'))
          (first | go_keep | (exact Cells8.more (HR1.out.drew.below hbx).eight (HQ1.out.drew.below hbx).eight ((P1.out.below (Below.then_ (Below.refl _ _).drew hbx (Nat.le_refl _))).cell 0) ((Q1.out.below (Below.then_ (Below.refl _ _).drew hbx (Nat.le_refl _))).cell 0)))
          ((go_at_call 59; refine (i_equalRules r q vb vn vt vk ub un ut uk _ hr2.out hq2.out).mono ?_; rintro e w1 ⟨rfl, hbx⟩))
        have hb1 : Below w0.heap.size w0 w1 := Below.then_ HBR.out (Below.then_ (Below.refl wr.heap.size wr).drew hbx (Nat.le_refl _)) (Nat.le_refl _)
        clear hbx
        by_cases hxy : r = q
        · rw [decide_eq_true hxy]
          have HXY := Lib.hid hxy
          have HB1 := Lib.hid hb1
          clear hxy hb1 p1 q1 D0 D1 D2 D3 D4 D5 D6 D7 E0 E1 E2 E3 E4 E5 E6 E7
          go_wp2_with fail
          go_roundw
          case rel =>
            refine ⟨k + 1, by omega, by go_num, ?_, HB1.out⟩
            rw [List.take_add_one, List.take_add_one, HT.out, HX.out, HY.out, HXY.out]
          case measure => simp [intOf]; omega
        · rw [decide_eq_false hxy]
          have hfin : Hid (false = D) := by
            show _ = _
            rw [HD.out]; symm
            rw [decide_eq_false_iff_not]
            intro e
            have h1 := HX.out
            rw [e, HY.out] at h1
            exact hxy (Option.some.inj h1).symm
          have HB1 := Lib.hid hb1
          clear hxy hb1 p1 q1 D0 D1 D2 D3 D4 D5 D6 D7 E0 E1 E2 E3 E4 E5 E6 E7
          go_wp2_with fail
          go_ret
          exact ⟨ret_bool hfin.out, Below.then_ HB0.out HB1.out (Nat.le_refl _)⟩
      · obtain rfl : k = n := by omega
        have hfin : Hid (true = D) := by
          show _ = _
          rw [HD.out]; symm
          rw [decide_eq_true_iff]
          have := HT.out
          rwa [List.take_of_length_le (by rw [HA.out]; exact Nat.le_refl _), List.take_of_length_le (by rw [← HB.out]; exact Nat.le_refl _)] at this
        have HBR := Lib.hid hbr
        clear hbr
        go_wp2_with fail
        go_ret
        exact ⟨ret_bool hfin.out, Below.then_ HB0.out HBR.out (Nat.le_refl _)⟩
  · obtain ⟨A, c, rfl, hnc, hcm, _⟩ := ha.all
    obtain ⟨A', c', rfl, hnc', hcm', _⟩ := hb.all
    have hq : ((xs.length : Int) == (ys.length : Int)) = false := by rw [beq_eq_false_iff_ne]; omega
    have hq2 : ((xs.length : Int) != (ys.length : Int)) = true := by rw [bne_iff_ne]; omega
    have hfin : Hid (false = decide (xs = ys)) := by
      show _ = _
      symm
      rw [decide_eq_false_iff_not]
      intro e
      exact hlen (by rw [e])
    clear hlen ha hb
    go_enter Tryd.func29, Tryd.ntmps29
    go_wp2_with fail
    go_ret
    exact ⟨ret_bool hfin.out, below_box.alloc (by simp) _⟩

end Go.Proofs.YtkjjgpkegihmhaaDoor

namespace Go.Proofs.YtkjjgpkegihmhaaDoor
open Go.RowKit

set_option maxHeartbeats 2000000 in
theorem i_CountKind (d : Value) (l : List RuleD) (s : Int) (w : World) (hd : RdDesc w d l) :
    Calls Tryd.prog 31 #[d, .int .i64 s] w fun e w' => e = .returned (.int .i64 (countL l s : Int)) ∧ Below w.heap.size w w' := by
  obtain ⟨v, rfl, hv⟩ := hd
  obtain ⟨A, c, rfl, hnc, hcm, hcell⟩ := hv.all
  unfold maxLen at hcm
  have HC := Lib.hid hcell
  clear hcell hv
  obtain ⟨F, hF⟩ : ∃ F : Int, F = (countL l s : Int) := ⟨_, rfl⟩
  have HF := Lib.hid hF
  rw [← hF]
  clear hF
  obtain ⟨n, hn⟩ : ∃ n, n = l.length := ⟨_, rfl⟩
  have HN := Lib.hid hn
  rw [← hn] at hnc ⊢
  clear hn
  go_enter Tryd.func31, Tryd.ntmps31
  go_wp2_with fail
  go_loopw [5, 11] (fun r i wr => ∃ k : Nat, ∃ q : Int, k ≤ n ∧ i = .int .i64 k ∧ r = .int .i64 q ∧ 0 ≤ q ∧ q ≤ k ∧ q = (countL (l.take k) s : Int) ∧ Below w.heap.size w wr) (fun _ i _ => n - (intOf i).toNat)
  case atStart => exact ⟨0, 0, Nat.zero_le _, rfl, rfl, by omega, by omega, by simp [countL], below_box⟩
  case round =>
    obtain ⟨k, q, hk, rfl, rfl, hq0, hqk, hq, hbr⟩ := hrel
    have HQ := Lib.hid hq
    clear hq
    by_cases hlt : k < n
    · have hkl : k < l.length := by rw [← HN.out]; exact hlt
      obtain ⟨b, off, rfl, hc⟩ := HC.out (by omega)
      obtain ⟨vb, vn, vt, vk, hr⟩ := hc k hkl
      obtain ⟨⟨Ab, cb, rfl⟩, ⟨An, cn, rfl⟩, ⟨At, ct, rfl⟩, ⟨Ak, ck, rfl⟩⟩ := hr.slices
      obtain ⟨D0, D1, D2, D3, D4, D5, D6, D7⟩ := (hr.below hbr).eight
      have HBR := Lib.hid hbr
      obtain ⟨r, hr0⟩ : ∃ r, r = l[k] := ⟨_, rfl⟩
      rw [← hr0] at D0 D1 D2 D3 D4 D5 D6 D7
      have HR := Lib.hid hr0
      clear hr hc hbr hr0
      by_cases he : r.kind = s
      · have hq1 : (r.kind == s) = true := by simp [he]
        have hst := Lib.hid (countL_yes (c := s) hkl (by rw [← HR.out]; exact he))
        clear he
        go_wp2_with fail
        go_roundw
        case rel => exact ⟨k + 1, q + 1, by omega, by go_num, rfl, by omega, by omega, by have := hst.out; have := HQ.out; omega, HBR.out.alloc HBR.out.size _⟩
        case measure => simp [intOf]; omega
      · have hq1 : (r.kind == s) = false := by simpa using he
        have hst := Lib.hid (countL_no (c := s) hkl (by rw [← HR.out]; exact he))
        clear he
        go_wp2_with fail
        go_roundw
        case rel => exact ⟨k + 1, q, by omega, by go_num, rfl, by omega, by omega, by have := hst.out; have := HQ.out; omega, HBR.out.alloc HBR.out.size _⟩
        case measure => simp [intOf]; omega
    · obtain rfl : k = n := by omega
      have hfin : Hid (q = F) := by
        show _ = _
        rw [HF.out, HQ.out, HN.out, List.take_length]
      go_wp2_with fail
      go_ret
      exact ⟨ret_int hfin.out, hbr⟩

end Go.Proofs.YtkjjgpkegihmhaaDoor

namespace Go.Proofs.YtkjjgpkegihmhaaDoor
open Go.RowKit
set_option linter.unusedVariables false

def namesL (l : List RuleD) : List ByteArray := l.map (·.name)
theorem namesL_len (l : List RuleD) : (namesL l).length = l.length := by simp [namesL]
theorem namesL_step {l : List RuleD} {k : Nat} (h : k < l.length) : cS (namesL (l.take (k + 1))) = cS (namesL (l.take k)) ++ cS [l[k].name] := by
  unfold namesL cS
  rw [List.take_succ_eq_append_getElem h, List.map_append, List.map_append]
  rfl

set_option maxHeartbeats 4000000 in
theorem i_DescriptionNames (d : Value) (l : List RuleD) (hn : l.length ≤ 1048576) (w : World) (hd : RdDesc w d l) :
    Calls Tryd.prog 25 #[d] w (Made 9 1 l.length (cS (namesL l)) w) := by
  obtain ⟨v, rfl, hv⟩ := hd
  obtain ⟨A, c, rfl, hnc, hcm, hcell⟩ := hv.all
  unfold maxLen at hcm
  have HC := Lib.hid hcell
  clear hcell hv
  obtain ⟨n, hnl⟩ : ∃ n, n = l.length := ⟨_, rfl⟩
  have HN := Lib.hid hnl
  have hn' : n ≤ 1048576 := by omega
  rw [← hnl] at hnc ⊢
  clear hnl hn
  obtain ⟨i0, hi, hz0, hz1, hz2⟩ := info_parts info_String
  go_enter Tryd.func25, Tryd.ntmps25
  go_wp2_with fail
  obtain ⟨w0, hw0⟩ : ∃ w0, w0 = (w.alloc (.cells #[.slice A n c] 29)) := ⟨_, rfl⟩
  have hown0 := World.ownsRow_lit (base := w.heap.size) (e := 9) (size := 1) (w.alloc (.cells #[.slice A n c] 29)) #[] 0 (by simp) (Nat.zero_le _) rfl
  have HB0 := Lib.hid ((below_box (w := w) (v := .slice A n c) (t := 29)).alloc (by simp) (.cells #[] 9))
  have HO0 := Lib.hid hown0
  clear hown0 hw0
  go_loopw [3, 10] (fun o i wr => ∃ k : Nat, k ≤ n ∧ i = .int .i64 k ∧ wr.ownsRow w.heap.size 9 1 o k (cS (namesL (l.take k))) ∧ Below w.heap.size w wr) (fun _ i _ => n - (intOf i).toNat)
  case atStart => exact ⟨0, Nat.zero_le _, rfl, by simpa [namesL, cS] using HO0.out, HB0.out⟩
  case round =>
    obtain ⟨k, hk, rfl, hownr, hbr⟩ := hrel
    by_cases hlt : k < n
    · have hkl : k < l.length := by rw [← HN.out]; exact hlt
      obtain ⟨b, off, rfl, hc⟩ := HC.out (by omega)
      obtain ⟨vb, vn, vt, vk, hr⟩ := hc k hkl
      obtain ⟨⟨Ab, cb, rfl⟩, ⟨An, cn, rfl⟩, ⟨At, ct, rfl⟩, ⟨Ak, ck, rfl⟩⟩ := hr.slices
      obtain ⟨D0, D1, D2, D3, D4, D5, D6, D7⟩ := (hr.below hbr).eight
      have HST := Lib.hid (namesL_step hkl)
      obtain ⟨r, hr0⟩ : ∃ r, r = l[k] := ⟨_, rfl⟩
      rw [← hr0] at D0 D1 D2 D3 D4 D5 D6 D7 HST
      have HB := Lib.hid hbr
      have HO := Lib.hid hownr
      have hlit := Rd.lit (wr.alloc (.cells #[.string r.name, .int .i64 r.kind, .int .i64 r.size, .bool r.little, .slice Ab r.bytes.length cb, .slice An r.names.length cn, .slice At r.tags.length ct, .slice Ak r.kids.length ck] 43)) (cS [r.name]) 9 1 rfl (by unfold maxLen; omega)
      rw [show (wr.alloc (.cells #[.string r.name, .int .i64 r.kind, .int .i64 r.size, .bool r.little, .slice Ab r.bytes.length cb, .slice An r.names.length cn, .slice At r.tags.length ct, .slice Ak r.kids.length ck] 43)).heap.size = wr.heap.size + 1 from by simp] at hlit
      have HL := Lib.hid hlit
      clear hr hc hbr hr0 hownr hlit
      go_wp2_with (at_builtin; refine wpList_append_rd _ rfl (.tmp 14) (.tmp 17) 39 rfl w.heap.size 9 i0 (.string ⟨#[]⟩) 1 16 Tryd.underlying39 hi hz0 hz1 hz2 rfl (by decide) _ k (cS (namesL (l.take k))) rfl ((HO.out.alloc _).alloc _) _ 1 (cS [r.name]) rfl ?c1 (cS_one _) (by unfold maxLen; omega) (by omega) (by have := HB.out.size; simp; omega) ?_)
      case c1 => exact HL.out
      intro v' w' hown' hgrow' _
      have HB' : Hid (Below w.heap.size w w') := own_grown_below ((HB.out.alloc HB.out.size _).alloc (by have := HB.out.size; simp; omega) _) ((HO.out.alloc _).alloc _) hgrow' (by have := HB.out.size; simp; omega) (Nat.le_refl _)
      have HO' := Lib.hid hown'
      clear hgrow' hown' D0 D1 D2 D3 D4 D5 D6 D7
      go_wp2_with fail
      go_roundw
      case rel => exact ⟨k + 1, by omega, by go_num, by rw [HST.out]; exact HO'.out, HB'.out⟩
      case measure => simp [intOf]; omega
    · obtain rfl : k = n := by omega
      have HO := Lib.hid hownr
      have HB := Lib.hid hbr
      clear hownr hbr
      go_wp2_with fail
      go_ret
      refine ⟨_, rfl, ?_, HB.out⟩
      have h := HO.out
      rwa [HN.out, List.take_length, ← HN.out] at h

end Go.Proofs.YtkjjgpkegihmhaaDoor
