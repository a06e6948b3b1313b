/-
  SpliceBytes, by the statements' own text.
-/
import Derived.Test.YtmikekldelnbjaaProg
import Derived.Test.YtmikekldelnbjaaBase
import Derived.Test.YtmikekldelnbjaaRep
import Derived.Test.YtmikekldelnbjaaToByte
import Derived.Test.YtmikekldelnbjaaAppend
import Derived.Test.YtmikekldelnbjaaParseHex
import Derived.Test.YtmikekldelnbjaaSplice
import Derived.WalkKit
import Derived.WalkSpells
import Derived.WalkLawsBesides
import Derived.Lib.Hide
import Derived.IntWalk
import Derived.Deep.RegionHeld3
namespace Go.Proofs.Ytmikekldelnbjaa
open Go.RowKit

set_option maxHeartbeats 4000000 in
theorem s_Splice_mid (v u : Value) (l ins : List UInt8) (a r : Nat) (hn : l.length ≤ 4194304) (hm : ins.length ≤ 4194304) (har : a + r ≤ l.length) (w : World) (A : Option Addr) (c : Nat) (hva : v = .slice A l.length c) (hcc : ¬ c = a + r) (hv : Rd w v 1 l.length (cB l)) (hu : Rd w u 1 ins.length (cB ins)) :
    Calls Try.prog 24 #[v, .int .i64 (a : Int), .int .i64 (r : Int), u] w (MadeP 5 1 (l.take a ++ ins ++ l.drop (a + r)).length (cB (l.take a ++ ins ++ l.drop (a + r))) true w) := by
  subst hva
  obtain ⟨i0, hi, hz0, hz1, hz2⟩ := info_parts info_Byte
  have hlc : l.length ≤ c ∧ c ≤ maxLen := by
    obtain ⟨_, A', c', h, h1, h2, _⟩ := hv
    injection h with _ _ h
    subst h
    exact ⟨h1, h2⟩
  have HV := Lib.hid hv
  have HU := Lib.hid hu
  obtain ⟨hnc, hcm⟩ := hlc
  obtain ⟨_, A', c', rfl, hnc', hcm', hcell'⟩ := hu
  unfold maxLen at hcm hcm'
  clear hcell' hv
  have h1 : decide ((l.length : Int) < (r : Int)) = false := by simp; omega
  have h2 : decide ((l.length : Int) - (r : Int) < (a : Int)) = false := by simp; omega
  have h3 : decide ((a : Int) < 0) = false := by simp
  have h4 : decide ((r : Int) < 0) = false := by simp
  have HF : Hid (Rd w (.slice A a c) 1 a (cB (l.take a))) := by
    have h := HV.out.front (a := a) (c' := c) (by omega) (by omega) (by unfold maxLen; omega)
    rw [Nat.mul_one, ← cB_take] at h
    exact h
  have HK : Hid (Rd w (.slice (A.map (·.add (a + r))) (l.length - (a + r)) (c - (a + r))) 1 (l.length - (a + r)) (cB (l.drop (a + r)))) := by
    have h := HV.out.back (k := a + r) (c' := c - (a + r)) (by omega) (by unfold maxLen; omega)
    rw [Nat.mul_one, ← cB_drop] at h
    exact h
  have HF' := Lib.hid (HF.out.below ((Below.refl _ _).alloc (Nat.le_refl _) (.cells #[] 5)))
  have HL := Lib.hid (World.ownsRow_lit (base := w.heap.size) (e := 5) (size := 1) w #[] 0 (Nat.le_refl _) (Nat.zero_le _) rfl)
  have hlen : (l.take a ++ ins ++ l.drop (a + r)).length = 0 + a + ins.length + (l.length - (a + r)) := by simp; omega
  have HLEN := Lib.hid hlen
  clear hlen
  go_enter Try.func24, Try.ntmps24
  go_wp2_with fail
  have b1 : (0 : Int) ≤ (a : Int) := by omega
  have b2 : (a : Int) ≤ (c : Int) := by omega
  have b3 : (0 : Int) ≤ (a : Int) + (r : Int) := by omega
  have b4 : (a : Int) + (r : Int) ≤ (l.length : Int) := by omega
  have b5 : ((a : Int) + (r : Int)).toNat = a + r := by omega
  have b6 : IntKind.i64.wrap ((a : Int) + (r : Int)) = (a : Int) + (r : Int) := IntWalk.i64_in _ (by omega)
  go_region_held3 (fun _ => True) (trivial) (first | (refine step_append_rd _ (by rfl) (.tmp 33) (.tmp 36) 22 (by rfl) w.heap.size 5 i0 (.int .u8 0) 1 1 Try.underlying22 hi hz0 hz1 hz2 (by rfl) (by decide) _ 0 [] (by rfl) HL.out _ a (cB (l.take a)) (by rfl) HF'.out (cB_one _) (by unfold maxLen; omega) (by omega) (by simp) ?_; intro v1 w1 ho1 hg1 _; have hb1 : Below w.heap.size w w1 := own_grown_below (((Below.refl w.heap.size w).alloc (Nat.le_refl _) (.cells #[] 5)).drew) HL.out hg1 (by simp) (Nat.le_refl _); have HG1 := Lib.hid hg1; clear hg1) | (refine step_append_rd _ (by rfl) (.tmp 37) (.tmp 38) 22 (by rfl) w.heap.size 5 i0 (.int .u8 0) 1 1 Try.underlying22 hi hz0 hz1 hz2 (by rfl) (by decide) v1 (0 + a) ([] ++ cB (l.take a)) (by rfl) ho1 _ ins.length (cB ins) (by rfl) (HU.out.below hb1) (cB_one _) (by unfold maxLen; omega) (by omega) hb1.size ?_; intro v2 w2 ho2 hg2 _; have hb2 : Below w.heap.size w w2 := own_grown_below hb1 ho1 hg2 hb1.size (Nat.le_refl _); have HG2 := Lib.hid hg2; clear hg2) | (refine step_append_rd _ (by rfl) (.tmp 39) (.tmp 44) 22 (by rfl) w.heap.size 5 i0 (.int .u8 0) 1 1 Try.underlying22 hi hz0 hz1 hz2 (by rfl) (by decide) v2 (0 + a + ins.length) ([] ++ cB (l.take a) ++ cB ins) (by rfl) ho2 _ (l.length - (a + r)) (cB (l.drop (a + r))) (by rfl) (HK.out.below hb2) (cB_one _) (by unfold maxLen; omega) (by omega) hb2.size ?_; intro v3 w3 ho3 hg3 _; have hb3 : Below w.heap.size w w3 := own_grown_below hb2 ho2 hg3 hb2.size (Nat.le_refl _); have HG3 := Lib.hid hg3; clear hg3))
  all_goals
    clear b6
    have HO3 := Lib.hid ho3
    clear ho1 ho2 ho3
    go_wp2_with fail
    go_ret2
    refine ⟨_, rfl, ?_, hb3⟩
    have h := HO3.out
    rw [HLEN.out, cB_append, cB_append]
    exact h


set_option maxHeartbeats 4000000 in
theorem s_Splice_end (v u : Value) (l ins : List UInt8) (a r : Nat) (hn : l.length ≤ 4194304) (hm : ins.length ≤ 4194304) (har : a + r ≤ l.length) (w : World) (A : Option Addr) (hva : v = .slice A l.length (a + r)) (hv : Rd w v 1 l.length (cB l)) (hu : Rd w u 1 ins.length (cB ins)) :
    Calls Try.prog 24 #[v, .int .i64 (a : Int), .int .i64 (r : Int), u] w (MadeP 5 1 (l.take a ++ ins ++ l.drop (a + r)).length (cB (l.take a ++ ins ++ l.drop (a + r))) true w) := by
  subst hva
  obtain ⟨i0, hi, hz0, hz1, hz2⟩ := info_parts info_Byte
  have hlc : l.length ≤ a + r ∧ a + r ≤ maxLen := by
    obtain ⟨_, A', c', h, h1, h2, _⟩ := hv
    injection h with _ _ h
    subst h
    exact ⟨h1, h2⟩
  have HV := Lib.hid hv
  have HU := Lib.hid hu
  obtain ⟨hnc, hcm⟩ := hlc
  obtain ⟨_, A', c', rfl, hnc', hcm', hcell'⟩ := hu
  unfold maxLen at hcm hcm'
  clear hcell' hv
  have h1 : decide ((l.length : Int) < (r : Int)) = false := by simp; omega
  have h2 : decide ((l.length : Int) - (r : Int) < (a : Int)) = false := by simp; omega
  have h3 : decide ((a : Int) < 0) = false := by simp
  have h4 : decide ((r : Int) < 0) = false := by simp
  have HF : Hid (Rd w (.slice A a (a + r)) 1 a (cB (l.take a))) := by
    have h := HV.out.front (a := a) (c' := a + r) (by omega) (by omega) (by unfold maxLen; omega)
    rw [Nat.mul_one, ← cB_take] at h
    exact h
  have HK : Hid (Rd w (.slice A 0 0) 1 0 []) := Rd.none_ _ _ _ (Nat.zero_le _)
  have HF' := Lib.hid (HF.out.below ((Below.refl _ _).alloc (Nat.le_refl _) (.cells #[] 5)))
  have HL := Lib.hid (World.ownsRow_lit (base := w.heap.size) (e := 5) (size := 1) w #[] 0 (Nat.le_refl _) (Nat.zero_le _) rfl)
  have hlen : (l.take a ++ ins ++ l.drop (a + r)).length = 0 + a + ins.length + 0 := by simp; omega
  have HLEN := Lib.hid hlen
  clear hlen
  have HDR := Lib.hid (show cB (l.drop (a + r)) = [] by rw [List.drop_of_length_le (by omega)]; rfl)
  go_enter Try.func24, Try.ntmps24
  go_wp2_with fail
  have b1 : (0 : Int) ≤ (a : Int) := by omega
  have b2 : (a : Int) ≤ (a : Int) + (r : Int) := by omega
  have b3 : (0 : Int) ≤ (a : Int) + (r : Int) := by omega
  have b4 : (a : Int) + (r : Int) ≤ (l.length : Int) := by omega
  have b5 : ((a : Int) + (r : Int)).toNat = a + r := by omega
  have b6 : IntKind.i64.wrap ((a : Int) + (r : Int)) = (a : Int) + (r : Int) := IntWalk.i64_in _ (by omega)
  go_region_held3 (fun _ => True) (trivial) (first | (refine step_append_rd _ (by rfl) (.tmp 33) (.tmp 36) 22 (by rfl) w.heap.size 5 i0 (.int .u8 0) 1 1 Try.underlying22 hi hz0 hz1 hz2 (by rfl) (by decide) _ 0 [] (by rfl) HL.out _ a (cB (l.take a)) (by rfl) HF'.out (cB_one _) (by unfold maxLen; omega) (by omega) (by simp) ?_; intro v1 w1 ho1 hg1 _; have hb1 : Below w.heap.size w w1 := own_grown_below (((Below.refl w.heap.size w).alloc (Nat.le_refl _) (.cells #[] 5)).drew) HL.out hg1 (by simp) (Nat.le_refl _); have HG1 := Lib.hid hg1; clear hg1) | (refine step_append_rd _ (by rfl) (.tmp 37) (.tmp 38) 22 (by rfl) w.heap.size 5 i0 (.int .u8 0) 1 1 Try.underlying22 hi hz0 hz1 hz2 (by rfl) (by decide) v1 (0 + a) ([] ++ cB (l.take a)) (by rfl) ho1 _ ins.length (cB ins) (by rfl) (HU.out.below hb1) (cB_one _) (by unfold maxLen; omega) (by omega) hb1.size ?_; intro v2 w2 ho2 hg2 _; have hb2 : Below w.heap.size w w2 := own_grown_below hb1 ho1 hg2 hb1.size (Nat.le_refl _); have HG2 := Lib.hid hg2; clear hg2) | (refine step_append_rd _ (by rfl) (.tmp 39) (.tmp 44) 22 (by rfl) w.heap.size 5 i0 (.int .u8 0) 1 1 Try.underlying22 hi hz0 hz1 hz2 (by rfl) (by decide) v2 (0 + a + ins.length) ([] ++ cB (l.take a) ++ cB ins) (by rfl) ho2 _ 0 [] (by rfl) (HK.out.below hb2) (by simp) (by unfold maxLen; omega) (by omega) hb2.size ?_; intro v3 w3 ho3 hg3 _; have hb3 : Below w.heap.size w w3 := own_grown_below hb2 ho2 hg3 hb2.size (Nat.le_refl _); have HG3 := Lib.hid hg3; clear hg3))
  all_goals
    clear b6
    have HO3 := Lib.hid ho3
    clear ho1 ho2 ho3
    go_wp2_with fail
    go_ret2
    refine ⟨_, rfl, ?_, hb3⟩
    have h := HO3.out
    rw [HLEN.out, cB_append, cB_append, HDR.out]
    exact h

set_option maxHeartbeats 2000000 in
theorem s_Splice_no (v u : Value) (l : List UInt8) (a r : Int) (ha : -9223372036854775808 ≤ a ∧ a ≤ 9223372036854775807) (hr : -9223372036854775808 ≤ r ∧ r ≤ 9223372036854775807) (hn : l.length ≤ 4194304) (hno : spliceOk l a r = false) (w : World) (hv : Rd w v 1 l.length (cB l)) :
    Calls Try.prog 24 #[v, .int .i64 a, .int .i64 r, u] w (MadeP 5 1 l.length (cB l) false w) := by
  obtain ⟨i0, hi, hz0, hz1, hz2⟩ := info_parts info_Byte
  have HV := Lib.hid hv
  obtain ⟨_, A, c, rfl, hnc, hcm, hcell⟩ := hv
  unfold maxLen at hcm
  clear hcell
  have hcase : a < 0 ∨ (0 ≤ a ∧ r < 0) ∨ (0 ≤ a ∧ 0 ≤ r ∧ (l.length : Int) < r) ∨ (0 ≤ a ∧ 0 ≤ r ∧ r ≤ l.length ∧ (l.length : Int) - r < a) := by
    simp [spliceOk] at hno; omega
  clear hno
  rcases hcase with h1 | ⟨h1, h2⟩ | ⟨h1, h2, h3⟩ | ⟨h1, h2, h3, h4⟩
  · have d1 : decide (a < 0) = true := by simpa using h1
    go_enter Try.func24, Try.ntmps24
    go_wp2_with (at_builtin; refine wpList_append_rd _ rfl (.tmp 30) (.tmp 31) 22 rfl w.heap.size 5 i0 (.int .u8 0) 1 1 Try.underlying22 hi hz0 hz1 hz2 rfl (by decide) _ 0 [] rfl (World.ownsRow_lit (base := w.heap.size) (e := 5) (size := 1) w #[] 0 (Nat.le_refl _) (Nat.zero_le _) rfl) _ l.length (cB l) rfl (HV.out.below ((Below.refl _ _).alloc (Nat.le_refl _) _)) (cB_one _) (by unfold maxLen; omega) (by omega) (by simp) ?_)
    intro v1 w1 ho1 hg1 _
    have hb1 : Below w.heap.size w w1 := own_grown_below ((Below.refl _ _).alloc (Nat.le_refl _) _) (World.ownsRow_lit (base := w.heap.size) (e := 5) (size := 1) w #[] 0 (Nat.le_refl _) (Nat.zero_le _) rfl) hg1 (by simp) (Nat.le_refl _)
    clear hg1
    go_wp2_with fail
    go_ret2
    exact ⟨_, rfl, ho1, hb1⟩
  · have d1 : decide (a < 0) = false := by simpa using h1
    have d2 : decide (r < 0) = true := by simpa using h2
    go_enter Try.func24, Try.ntmps24
    go_wp2_with (at_builtin; refine wpList_append_rd _ rfl (.tmp 30) (.tmp 31) 22 rfl w.heap.size 5 i0 (.int .u8 0) 1 1 Try.underlying22 hi hz0 hz1 hz2 rfl (by decide) _ 0 [] rfl (World.ownsRow_lit (base := w.heap.size) (e := 5) (size := 1) w #[] 0 (Nat.le_refl _) (Nat.zero_le _) rfl) _ l.length (cB l) rfl (HV.out.below ((Below.refl _ _).alloc (Nat.le_refl _) _)) (cB_one _) (by unfold maxLen; omega) (by omega) (by simp) ?_)
    intro v1 w1 ho1 hg1 _
    have hb1 : Below w.heap.size w w1 := own_grown_below ((Below.refl _ _).alloc (Nat.le_refl _) _) (World.ownsRow_lit (base := w.heap.size) (e := 5) (size := 1) w #[] 0 (Nat.le_refl _) (Nat.zero_le _) rfl) hg1 (by simp) (Nat.le_refl _)
    clear hg1
    go_wp2_with fail
    go_ret2
    exact ⟨_, rfl, ho1, hb1⟩
  · have d1 : decide (a < 0) = false := by simpa using h1
    have d2 : decide (r < 0) = false := by simpa using h2
    have d3 : decide ((l.length : Int) < r) = true := by simpa using h3
    go_enter Try.func24, Try.ntmps24
    go_wp2_with (at_builtin; refine wpList_append_rd _ rfl (.tmp 30) (.tmp 31) 22 rfl w.heap.size 5 i0 (.int .u8 0) 1 1 Try.underlying22 hi hz0 hz1 hz2 rfl (by decide) _ 0 [] rfl (World.ownsRow_lit (base := w.heap.size) (e := 5) (size := 1) w #[] 0 (Nat.le_refl _) (Nat.zero_le _) rfl) _ l.length (cB l) rfl (HV.out.below ((Below.refl _ _).alloc (Nat.le_refl _) _)) (cB_one _) (by unfold maxLen; omega) (by omega) (by simp) ?_)
    intro v1 w1 ho1 hg1 _
    have hb1 : Below w.heap.size w w1 := own_grown_below ((Below.refl _ _).alloc (Nat.le_refl _) _) (World.ownsRow_lit (base := w.heap.size) (e := 5) (size := 1) w #[] 0 (Nat.le_refl _) (Nat.zero_le _) rfl) hg1 (by simp) (Nat.le_refl _)
    clear hg1
    go_wp2_with fail
    go_ret2
    exact ⟨_, rfl, ho1, hb1⟩
  · have d1 : decide (a < 0) = false := by simpa using h1
    have d2 : decide (r < 0) = false := by simpa using h2
    have d3 : decide ((l.length : Int) < r) = false := by simpa using h3
    have d4 : decide ((l.length : Int) - r < a) = true := by simpa using h4
    go_enter Try.func24, Try.ntmps24
    go_wp2_with (at_builtin; refine wpList_append_rd _ rfl (.tmp 30) (.tmp 31) 22 rfl w.heap.size 5 i0 (.int .u8 0) 1 1 Try.underlying22 hi hz0 hz1 hz2 rfl (by decide) _ 0 [] rfl (World.ownsRow_lit (base := w.heap.size) (e := 5) (size := 1) w #[] 0 (Nat.le_refl _) (Nat.zero_le _) rfl) _ l.length (cB l) rfl (HV.out.below ((Below.refl _ _).alloc (Nat.le_refl _) _)) (cB_one _) (by unfold maxLen; omega) (by omega) (by simp) ?_)
    intro v1 w1 ho1 hg1 _
    have hb1 : Below w.heap.size w w1 := own_grown_below ((Below.refl _ _).alloc (Nat.le_refl _) _) (World.ownsRow_lit (base := w.heap.size) (e := 5) (size := 1) w #[] 0 (Nat.le_refl _) (Nat.zero_le _) rfl) hg1 (by simp) (Nat.le_refl _)
    clear hg1
    go_wp2_with fail
    go_ret2
    exact ⟨_, rfl, ho1, hb1⟩

set_option maxHeartbeats 1000000 in
theorem s_SpliceBytes (v u : Value) (l ins : List UInt8) (a r : Int) (ha : -9223372036854775808 ≤ a ∧ a ≤ 9223372036854775807) (hr : -9223372036854775808 ≤ r ∧ r ≤ 9223372036854775807) (hn : l.length ≤ 4194304) (hm : ins.length ≤ 4194304) (w : World) (hv : Rd w v 1 l.length (cB l)) (hu : Rd w u 1 ins.length (cB ins)) :
    Calls Try.prog 24 #[v, .int .i64 a, .int .i64 r, u] w (MadeP 5 1 (spliceL l a r ins).length (cB (spliceL l a r ins)) (spliceOk l a r) w) := by
  cases hok : spliceOk l a r with
  | false => rw [spliceL_no hok]; exact s_Splice_no v u l a r ha hr hn hok w hv
  | true =>
    rw [spliceL_ok hok]
    simp only [spliceOk, Bool.and_eq_true, decide_eq_true_eq] at hok
    obtain ⟨⟨⟨h1, h2⟩, h3⟩, h4⟩ := hok
    obtain ⟨x, rfl⟩ : ∃ x : Nat, a = x := ⟨a.toNat, by omega⟩
    obtain ⟨y, rfl⟩ : ∃ y : Nat, r = y := ⟨r.toNat, by omega⟩
    simp only [Int.toNat_natCast]
    obtain ⟨A, c, hva⟩ : ∃ A c, v = .slice A l.length c := by
      obtain ⟨_, A, c, h, _⟩ := hv
      exact ⟨A, c, h⟩
    by_cases he : c = x + y
    · subst he
      exact s_Splice_end v u l ins x y hn hm (by omega) w A hva hv hu
    · exact s_Splice_mid v u l ins x y hn hm (by omega) w A c hva he hv hu

end Go.Proofs.Ytmikekldelnbjaa
