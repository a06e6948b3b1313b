/-
  SpliceBytes, by both texts.
-/
import Derived.Test.YtmikekldelnbjaaProg
import Derived.Test.YtmikekldelnbjaaBase
import Derived.Test.YtmikekldelnbjaaRep
import Derived.Test.YtmikekldelnbjaaToByte
import Derived.Test.YtmikekldelnbjaaAppend
import Derived.Test.YtmikekldelnbjaaParseHex
import Derived.WalkKit
import Derived.WalkSpells
import Derived.WalkLawsBesides
import Derived.Lib.Hide
import Derived.IntWalk
import Derived.Deep.RegionHeld3
namespace Go.Proofs.Ytmikekldelnbjaa
open Go.RowKit

def spliceOk (l : List UInt8) (a r : Int) : Bool := decide (0 ≤ a) && decide (0 ≤ r) && decide (a ≤ l.length) && decide (r ≤ l.length - a)
def spliceL (l : List UInt8) (a r : Int) (ins : List UInt8) : List UInt8 := if spliceOk l a r then l.take a.toNat ++ ins ++ l.drop (a.toNat + r.toNat) else l

set_option maxHeartbeats 2000000 in
theorem i_Splice_mid (v u : Value) (l ins : List UInt8) (a r : Nat) (hn : l.length ≤ 4194304) (hm : ins.length ≤ 4194304) (har : a + r < l.length) (w : World) (hv : Rd w v 1 l.length (cB l)) (hu : Rd w u 1 ins.length (cB ins)) :
    Calls Try.prog 25 #[v, .int .i64 (a : Int), .int .i64 (r : Int), u] w (MadeP 5 1 (l.take a ++ ins ++ l.drop (a + r)).length (cB (l.take a ++ ins ++ l.drop (a + r))) true w) := by
  obtain ⟨i0, hi, hz0, hz1, hz2⟩ := info_parts info_Byte
  have HV := Lib.hid hv
  have HU := Lib.hid hu
  obtain ⟨_, A, c, rfl, hnc, hcm, hcell⟩ := hv
  obtain ⟨_, A', c', rfl, hnc', hcm', hcell'⟩ := hu
  unfold maxLen at hcm hcm'
  clear hcell hcell'
  have h1 : decide ((l.length : Int) < (a : Int)) = false := by simp; omega
  have h2 : decide ((l.length : Int) - (a : Int) < (r : Int)) = false := by simp; omega
  have h3 : decide ((a : Int) < 0) = false := by simp
  have h4 : decide ((r : Int) < 0) = false := by simp
  go_enter Try.func25, Try.ntmps25
  go_wp2_with (at_builtin; refine wpList_append_rd _ rfl (.tmp 34) (.tmp 38) 22 rfl w.heap.size 5 i0 (.int .u8 0) 1 1 Try.underlying22 hi hz0 hz1 hz2 rfl (by decide) _ 0 [] rfl (World.ownsRow_lit (base := w.heap.size) (e := 5) (size := 1) w #[] 0 (Nat.le_refl _) (Nat.zero_le _) rfl) _ a (cB (l.take a)) rfl ?c1 (cB_one _) (by unfold maxLen; omega) (by omega) (by simp) ?_)
  case c1 =>
    have h := HV.out.front (a := a) (c' := a) (by omega) (Nat.le_refl _) (by unfold maxLen; omega)
    rw [Nat.mul_one, ← cB_take] at h
    exact h.below ((Below.refl _ _).alloc (Nat.le_refl _) _)
  intro v1 w1 ho1 hg1 _
  have hb1 : Below w.heap.size w w1 := own_grown_below ((Below.refl _ _).alloc (Nat.le_refl _) _) (World.ownsRow_lit (base := w.heap.size) (e := 5) (size := 1) w #[] 0 (Nat.le_refl _) (Nat.zero_le _) rfl) hg1 (by simp) (Nat.le_refl _)
  clear hg1
  go_wp2_with (at_builtin; refine wpList_append_rd _ rfl (.tmp 40) (.tmp 41) 22 rfl w.heap.size 5 i0 (.int .u8 0) 1 1 Try.underlying22 hi hz0 hz1 hz2 rfl (by decide) v1 a (cB (l.take a)) rfl ho1 _ ins.length (cB ins) rfl (HU.out.below hb1) (cB_one _) (by unfold maxLen; omega) (by omega) hb1.size ?_)
  intro v2 w2 ho2 hg2 _
  have hb2 : Below w.heap.size w w2 := own_grown_below hb1 ho1 hg2 hb1.size (Nat.le_refl _)
  clear hg2
  go_wp2_with (at_builtin; refine wpList_append_rd _ rfl (.tmp 43) (.tmp 52) 22 rfl w.heap.size 5 i0 (.int .u8 0) 1 1 Try.underlying22 hi hz0 hz1 hz2 rfl (by decide) v2 (a + ins.length) (cB (l.take a) ++ cB ins) rfl ho2 _ (l.length - (a + r)) (cB (l.drop (a + r))) rfl ?c2 (cB_one _) (by unfold maxLen; omega) (by omega) hb2.size ?_)
  case c2 =>
    have h := HV.out.back (k := a + r) (c' := l.length - (a + r)) (Nat.le_refl _) (by unfold maxLen; omega)
    rw [Nat.mul_one, ← cB_drop] at h
    exact h.below hb2
  intro v3 w3 ho3 hg3 _
  have hb3 : Below w.heap.size w w3 := own_grown_below hb2 ho2 hg3 hb2.size (Nat.le_refl _)
  clear hg3
  go_wp2_with fail
  go_ret2
  refine ⟨_, rfl, ?_, hb3⟩
  have : (l.take a ++ ins ++ l.drop (a + r)).length = a + ins.length + (l.length - (a + r)) := by simp; omega
  rw [this, cB_append, cB_append, List.append_assoc]
  exact ho3


set_option maxHeartbeats 2000000 in
theorem i_Splice_end (v u : Value) (l ins : List UInt8) (a r : Nat) (hn : l.length ≤ 4194304) (hm : ins.length ≤ 4194304) (hend : l.length = a + r) (w : World) (hv : Rd w v 1 l.length (cB l)) (hu : Rd w u 1 ins.length (cB ins)) :
    Calls Try.prog 25 #[v, .int .i64 (a : Int), .int .i64 (r : Int), u] w (MadeP 5 1 (l.take a ++ ins ++ l.drop (a + r)).length (cB (l.take a ++ ins ++ l.drop (a + r))) true w) := by
  obtain ⟨i0, hi, hz0, hz1, hz2⟩ := info_parts info_Byte
  have HV := Lib.hid hv
  have HU := Lib.hid hu
  obtain ⟨_, A, c, rfl, hnc, hcm, hcell⟩ := hv
  obtain ⟨_, A', c', rfl, hnc', hcm', hcell'⟩ := hu
  unfold maxLen at hcm hcm'
  clear hcell hcell'
  have h1 : decide ((l.length : Int) < (a : Int)) = false := by simp; omega
  have h2 : decide ((l.length : Int) - (a : Int) < (r : Int)) = false := by simp; omega
  have h3 : decide ((a : Int) < 0) = false := by simp
  have h4 : decide ((r : Int) < 0) = false := by simp
  have Hend := Lib.hid hend
  have har : a + r ≤ l.length := by omega
  have hcc : (l.length : Int) = (a : Int) + (r : Int) := by omega
  have Hcc := Lib.hid hcc
  clear hend hcc
  go_enter Try.func25, Try.ntmps25
  go_wp2_with (at_builtin; refine wpList_append_rd _ rfl (.tmp 34) (.tmp 38) 22 rfl w.heap.size 5 i0 (.int .u8 0) 1 1 Try.underlying22 hi hz0 hz1 hz2 rfl (by decide) _ 0 [] rfl (World.ownsRow_lit (base := w.heap.size) (e := 5) (size := 1) w #[] 0 (Nat.le_refl _) (Nat.zero_le _) rfl) _ a (cB (l.take a)) rfl ?c1 (cB_one _) (by unfold maxLen; omega) (by omega) (by simp) ?_)
  case c1 =>
    have h := HV.out.front (a := a) (c' := a) (by omega) (Nat.le_refl _) (by unfold maxLen; omega)
    rw [Nat.mul_one, ← cB_take] at h
    exact h.below ((Below.refl _ _).alloc (Nat.le_refl _) _)
  intro v1 w1 ho1 hg1 _
  have hb1 : Below w.heap.size w w1 := own_grown_below ((Below.refl _ _).alloc (Nat.le_refl _) _) (World.ownsRow_lit (base := w.heap.size) (e := 5) (size := 1) w #[] 0 (Nat.le_refl _) (Nat.zero_le _) rfl) hg1 (by simp) (Nat.le_refl _)
  clear hg1
  go_wp2_with (at_builtin; refine wpList_append_rd _ rfl (.tmp 40) (.tmp 41) 22 rfl w.heap.size 5 i0 (.int .u8 0) 1 1 Try.underlying22 hi hz0 hz1 hz2 rfl (by decide) v1 a (cB (l.take a)) rfl ho1 _ ins.length (cB ins) rfl (HU.out.below hb1) (cB_one _) (by unfold maxLen; omega) (by omega) hb1.size ?_)
  intro v2 w2 ho2 hg2 _
  have hb2 : Below w.heap.size w w2 := own_grown_below hb1 ho1 hg2 hb1.size (Nat.le_refl _)
  clear hg2
  go_wp2_with (at_builtin; refine wpList_append_rd _ rfl (.tmp 43) (.tmp 52) 22 rfl w.heap.size 5 i0 (.int .u8 0) 1 1 Try.underlying22 hi hz0 hz1 hz2 rfl (by decide) v2 (a + ins.length) (cB (l.take a) ++ cB ins) rfl ho2 _ (l.length - (a + r)) (cB (l.drop (a + r))) rfl ?c2 (cB_one _) (by unfold maxLen; omega) (by omega) hb2.size ?_)
  case c2 =>
    have e : cB (l.drop (a + r)) = [] := by rw [List.drop_of_length_le (by have := Hend.out; omega)]; rfl
    rw [e]
    exact Rd.none_ _ _ _ (Nat.zero_le _)
  intro v3 w3 ho3 hg3 _
  have hb3 : Below w.heap.size w w3 := own_grown_below hb2 ho2 hg3 hb2.size (Nat.le_refl _)
  clear hg3
  go_wp2_with fail
  go_ret2
  refine ⟨_, rfl, ?_, hb3⟩
  have : (l.take a ++ ins ++ l.drop (a + r)).length = a + ins.length := by have := Hend.out; simp; omega
  rw [this, cB_append, cB_append, List.append_assoc]
  exact ho3


theorem spliceL_ok {l ins : List UInt8} {a r : Int} (h : spliceOk l a r = true) : spliceL l a r ins = l.take a.toNat ++ ins ++ l.drop (a.toNat + r.toNat) := by unfold spliceL; rw [if_pos h]
theorem spliceL_no {l ins : List UInt8} {a r : Int} (h : spliceOk l a r = false) : spliceL l a r ins = l := by unfold spliceL; rw [if_neg (by simp [h])]

set_option maxHeartbeats 2000000 in
theorem i_Splice_no (v u : Value) (l : List UInt8) (a r : Int) (ha : -9223372036854775808 ≤ a ∧ a ≤ 9223372036854775807) (hr : -9223372036854775808 ≤ r ∧ r ≤ 9223372036854775807) (hn : l.length ≤ 4194304) (hno : spliceOk l a r = false) (w : World) (hv : Rd w v 1 l.length (cB l)) :
    Calls Try.prog 25 #[v, .int .i64 a, .int .i64 r, u] w (MadeP 5 1 l.length (cB l) false w) := by
  obtain ⟨i0, hi, hz0, hz1, hz2⟩ := info_parts info_Byte
  have HV := Lib.hid hv
  obtain ⟨_, A, c, rfl, hnc, hcm, hcell⟩ := hv
  unfold maxLen at hcm
  clear hcell
  have hcase : a < 0 ∨ (0 ≤ a ∧ r < 0) ∨ (0 ≤ a ∧ 0 ≤ r ∧ (l.length : Int) < a) ∨ (0 ≤ a ∧ 0 ≤ r ∧ a ≤ l.length ∧ (l.length : Int) - a < r) := by
    simp [spliceOk] at hno; omega
  clear hno
  rcases hcase with h1 | ⟨h1, h2⟩ | ⟨h1, h2, h3⟩ | ⟨h1, h2, h3, h4⟩
  · have d1 : decide (a < 0) = true := by simpa using h1
    go_enter Try.func25, Try.ntmps25
    go_wp2_with (at_builtin; refine wpList_append_rd _ rfl (.tmp 31) (.tmp 32) 22 rfl w.heap.size 5 i0 (.int .u8 0) 1 1 Try.underlying22 hi hz0 hz1 hz2 rfl (by decide) _ 0 [] rfl (World.ownsRow_lit (base := w.heap.size) (e := 5) (size := 1) w #[] 0 (Nat.le_refl _) (Nat.zero_le _) rfl) _ l.length (cB l) rfl (HV.out.below ((Below.refl _ _).alloc (Nat.le_refl _) _)) (cB_one _) (by unfold maxLen; omega) (by omega) (by simp) ?_)
    intro v1 w1 ho1 hg1 _
    have hb1 : Below w.heap.size w w1 := own_grown_below ((Below.refl _ _).alloc (Nat.le_refl _) _) (World.ownsRow_lit (base := w.heap.size) (e := 5) (size := 1) w #[] 0 (Nat.le_refl _) (Nat.zero_le _) rfl) hg1 (by simp) (Nat.le_refl _)
    clear hg1
    go_wp2_with fail
    go_ret2
    exact ⟨_, rfl, ho1, hb1⟩
  · have d1 : decide (a < 0) = false := by simpa using h1
    have d2 : decide (r < 0) = true := by simpa using h2
    go_enter Try.func25, Try.ntmps25
    go_wp2_with (at_builtin; refine wpList_append_rd _ rfl (.tmp 31) (.tmp 32) 22 rfl w.heap.size 5 i0 (.int .u8 0) 1 1 Try.underlying22 hi hz0 hz1 hz2 rfl (by decide) _ 0 [] rfl (World.ownsRow_lit (base := w.heap.size) (e := 5) (size := 1) w #[] 0 (Nat.le_refl _) (Nat.zero_le _) rfl) _ l.length (cB l) rfl (HV.out.below ((Below.refl _ _).alloc (Nat.le_refl _) _)) (cB_one _) (by unfold maxLen; omega) (by omega) (by simp) ?_)
    intro v1 w1 ho1 hg1 _
    have hb1 : Below w.heap.size w w1 := own_grown_below ((Below.refl _ _).alloc (Nat.le_refl _) _) (World.ownsRow_lit (base := w.heap.size) (e := 5) (size := 1) w #[] 0 (Nat.le_refl _) (Nat.zero_le _) rfl) hg1 (by simp) (Nat.le_refl _)
    clear hg1
    go_wp2_with fail
    go_ret2
    exact ⟨_, rfl, ho1, hb1⟩
  · have d1 : decide (a < 0) = false := by simpa using h1
    have d2 : decide (r < 0) = false := by simpa using h2
    have d3 : decide ((l.length : Int) < a) = true := by simpa using h3
    go_enter Try.func25, Try.ntmps25
    go_wp2_with (at_builtin; refine wpList_append_rd _ rfl (.tmp 31) (.tmp 32) 22 rfl w.heap.size 5 i0 (.int .u8 0) 1 1 Try.underlying22 hi hz0 hz1 hz2 rfl (by decide) _ 0 [] rfl (World.ownsRow_lit (base := w.heap.size) (e := 5) (size := 1) w #[] 0 (Nat.le_refl _) (Nat.zero_le _) rfl) _ l.length (cB l) rfl (HV.out.below ((Below.refl _ _).alloc (Nat.le_refl _) _)) (cB_one _) (by unfold maxLen; omega) (by omega) (by simp) ?_)
    intro v1 w1 ho1 hg1 _
    have hb1 : Below w.heap.size w w1 := own_grown_below ((Below.refl _ _).alloc (Nat.le_refl _) _) (World.ownsRow_lit (base := w.heap.size) (e := 5) (size := 1) w #[] 0 (Nat.le_refl _) (Nat.zero_le _) rfl) hg1 (by simp) (Nat.le_refl _)
    clear hg1
    go_wp2_with fail
    go_ret2
    exact ⟨_, rfl, ho1, hb1⟩
  · have d1 : decide (a < 0) = false := by simpa using h1
    have d2 : decide (r < 0) = false := by simpa using h2
    have d3 : decide ((l.length : Int) < a) = false := by simpa using h3
    have d4 : decide ((l.length : Int) - a < r) = true := by simpa using h4
    go_enter Try.func25, Try.ntmps25
    go_wp2_with (at_builtin; refine wpList_append_rd _ rfl (.tmp 31) (.tmp 32) 22 rfl w.heap.size 5 i0 (.int .u8 0) 1 1 Try.underlying22 hi hz0 hz1 hz2 rfl (by decide) _ 0 [] rfl (World.ownsRow_lit (base := w.heap.size) (e := 5) (size := 1) w #[] 0 (Nat.le_refl _) (Nat.zero_le _) rfl) _ l.length (cB l) rfl (HV.out.below ((Below.refl _ _).alloc (Nat.le_refl _) _)) (cB_one _) (by unfold maxLen; omega) (by omega) (by simp) ?_)
    intro v1 w1 ho1 hg1 _
    have hb1 : Below w.heap.size w w1 := own_grown_below ((Below.refl _ _).alloc (Nat.le_refl _) _) (World.ownsRow_lit (base := w.heap.size) (e := 5) (size := 1) w #[] 0 (Nat.le_refl _) (Nat.zero_le _) rfl) hg1 (by simp) (Nat.le_refl _)
    clear hg1
    go_wp2_with fail
    go_ret2
    exact ⟨_, rfl, ho1, hb1⟩

set_option maxHeartbeats 1000000 in
theorem i_SpliceBytes (v u : Value) (l ins : List UInt8) (a r : Int) (ha : -9223372036854775808 ≤ a ∧ a ≤ 9223372036854775807) (hr : -9223372036854775808 ≤ r ∧ r ≤ 9223372036854775807) (hn : l.length ≤ 4194304) (hm : ins.length ≤ 4194304) (w : World) (hv : Rd w v 1 l.length (cB l)) (hu : Rd w u 1 ins.length (cB ins)) :
    Calls Try.prog 25 #[v, .int .i64 a, .int .i64 r, u] w (MadeP 5 1 (spliceL l a r ins).length (cB (spliceL l a r ins)) (spliceOk l a r) w) := by
  cases hok : spliceOk l a r with
  | false => rw [spliceL_no hok]; exact i_Splice_no v u l a r ha hr hn hok w hv
  | true =>
    rw [spliceL_ok hok]
    simp only [spliceOk, Bool.and_eq_true, decide_eq_true_eq] at hok
    obtain ⟨⟨⟨h1, h2⟩, h3⟩, h4⟩ := hok
    obtain ⟨x, rfl⟩ : ∃ x : Nat, a = x := ⟨a.toNat, by omega⟩
    obtain ⟨y, rfl⟩ : ∃ y : Nat, r = y := ⟨r.toNat, by omega⟩
    simp only [Int.toNat_natCast]
    by_cases he : l.length = x + y
    · exact i_Splice_end v u l ins x y hn hm he w hv hu
    · exact i_Splice_mid v u l ins x y hn hm (by omega) w hv hu


end Go.Proofs.Ytmikekldelnbjaa
