/-
  Draws of numbers and of their texts.
-/
import Derived.Test.YtfdjamobfhoeiaaDoorDrawInt
import Derived.Test.YtfdjamobfhoeiaaDoorFmtInt
namespace Go.Proofs.YtfdjamobfhoeiaaDoor
open Go.RowKit
set_option linter.unusedVariables false

/-- Any number. -/
def DrawsAny (g : Nat) (w : World) (e : Ending) (w' : World) : Prop := Draws (fun x => -9223372036854775808 ≤ x ∧ x ≤ 9223372036854775807) g w e w'
def Draws12 (g : Nat) (w : World) (e : Ending) (w' : World) : Prop := Draws (fun x => 0 ≤ x ∧ x ≤ 1000000000000) g w e w'
theorem Draws12.any {g : Nat} {w w' : World} {e : Ending} (h : Draws12 g w e w') : DrawsAny g w e w' := by
  obtain ⟨x, h1, ⟨h2, h3⟩, h4, h5⟩ := h
  exact ⟨x, h1, ⟨by omega, by omega⟩, h4, h5⟩

set_option maxHeartbeats 2000000 in
theorem s_l1Num (g : Nat) (w : World) (hc : Cur w g) :
    Calls Tryd.prog 18 #[.pointer (some ⟨g, 0, none⟩)] w (Draws12 g w) := by
  have hglt := hc.lt
  go_enter Tryd.func18, Tryd.ntmps18
  go_wp2_with fail
  refine (s_l1Below g _ (by omega) _ hc).mono ?_
  rintro e w1 ⟨x, rfl, ⟨hx1, hx2, _⟩, hc1, hg1⟩
  have hx3 := hx2 (by omega)
  have hgl1 := hc1.lt
  clear hx2
  by_cases h0 : x = 0
  · subst h0
    go_wp2_with fail
    refine (s_l1Below g _ (by omega) _ hc1).mono ?_
    rintro e w2 ⟨y, rfl, ⟨hy1, hy2, _⟩, hc2, hg2⟩
    have hy3 := hy2 (by omega)
    clear hy2
    go_wp2_with fail
    go_ret
    exact ⟨y, rfl, ⟨by omega, by omega⟩, hc2, grown_trans hg1 hg2⟩
  · have n0 : (x == 0) = false := by simpa using h0
    by_cases h1 : x = 1
    · subst h1
      have hlim := Lib.hid (show ∀ y ∈ ([0, 1, 127, 128, 2147483646, 2147483647, 1000000000000] : List Int), 0 ≤ y ∧ y ≤ 1000000000000 from by intro y hy; simp only [List.mem_cons, List.not_mem_nil, or_false] at hy; omega)
      clear h0 n0
      go_wp2_with fail
      refine (s_l1Int g _ [0, 1, 127, 128, 2147483646, 2147483647, 1000000000000] (by simp) (by simp) _ (hc1.below ((Below.refl _ _).alloc (Nat.le_refl _) _)) (Rd.lit _ (cI [0, 1, 127, 128, 2147483646, 2147483647, 1000000000000]) 3 7 rfl (by unfold maxLen; omega)) (by simp [Value.ownBlock]; omega)).mono ?_
      rintro e w2 ⟨y, rfl, hy, hc2, hg2⟩
      go_wp2_with fail
      go_ret
      exact ⟨y, rfl, hlim.out y hy, hc2, grown_trans (grown_alloc hg1 _) hg2⟩
    · have n1 : (x == 1) = false := by simpa using h1
      by_cases h2 : x = 2
      · subst h2
        clear h0 h1 n0 n1
        go_wp2_with fail
        refine (s_l1Below g _ (by omega) _ hc1).mono ?_
        rintro e w2 ⟨y, rfl, ⟨hy1, hy2, _⟩, hc2, hg2⟩
        have hy3 := hy2 (by omega)
        clear hy2
        go_wp2_with fail
        refine (s_l1Below g _ (by omega) _ hc2).mono ?_
        rintro e w3 ⟨z, rfl, ⟨hz1, hz2, _⟩, hc3, hg3⟩
        have hz3 := hz2 (by omega)
        clear hz2
        have hm0 : 0 ≤ y * z := Int.mul_nonneg hy1 hz1
        have hm1 : y * z ≤ 1000000000000 := by
          have h1 : y * z ≤ 999999 * z := Int.mul_le_mul_of_nonneg_right (by omega) hz1
          omega
        have hw : IntKind.i64.wrap (y * z) = y * z := IntWalk.i64_in _ (by omega)
        go_wp2_with fail
        go_ret
        exact ⟨y * z, by simp, ⟨hm0, hm1⟩, hc3, grown_trans (grown_trans hg1 hg2) hg3⟩
      · have n2 : (x == 2) = false := by simpa using h2
        go_wp2_with fail
        refine (s_l1Below g _ (by omega) _ hc1).mono ?_
        rintro e w2 ⟨y, rfl, ⟨hy1, hy2, _⟩, hc2, hg2⟩
        have hy3 := hy2 (by omega)
        clear hy2
        go_wp2_with fail
        go_ret
        exact ⟨y, rfl, ⟨by omega, by omega⟩, hc2, grown_trans hg1 hg2⟩

set_option maxHeartbeats 2000000 in
theorem s_l1Odd (g : Nat) (w : World) (hc : Cur w g) :
    Calls Tryd.prog 27 #[.pointer (some ⟨g, 0, none⟩)] w (DrawsAny g w) := by
  have hglt := hc.lt
  have hlim := Lib.hid (show ∀ y ∈ ([-1, 0, 1, 2, 255, 256, 65535, 2147483647, 2147483648, 4294967295, 4294967296, -2147483648, 9223372036854775807, -9223372036854775808] : List Int), -9223372036854775808 ≤ y ∧ y ≤ 9223372036854775807 from by intro y hy; simp only [List.mem_cons, List.not_mem_nil, or_false] at hy; omega)
  go_enter Tryd.func27, Tryd.ntmps27
  go_wp2_with fail
  refine (s_l1Int g _ [-1, 0, 1, 2, 255, 256, 65535, 2147483647, 2147483648, 4294967295, 4294967296, -2147483648, 9223372036854775807, -9223372036854775808] (by simp) (by simp) _ (hc.below ((Below.refl _ _).alloc (Nat.le_refl _) _)) (Rd.lit _ (cI [-1, 0, 1, 2, 255, 256, 65535, 2147483647, 2147483648, 4294967295, 4294967296, -2147483648, 9223372036854775807, -9223372036854775808]) 3 14 rfl (by unfold maxLen; omega)) (by simp [Value.ownBlock]; omega)).mono ?_
  rintro e w2 ⟨y, rfl, hy, hc2, hg2⟩
  go_wp2_with fail
  go_ret
  exact ⟨y, rfl, hlim.out y hy, hc2, grown_trans (grown_alloc (World.grownBy.refl w _) _) hg2⟩

set_option maxHeartbeats 2000000 in
theorem s_l1Raw (g : Nat) (w : World) (hc : Cur w g) :
    Calls Tryd.prog 24 #[.pointer (some ⟨g, 0, none⟩)] w (DrawsAny g w) := by
  have hlim := Lib.hid (show ∀ y ∈ ([-1, 1000000000000, 1000000000001] : List Int), -9223372036854775808 ≤ y ∧ y ≤ 9223372036854775807 from by intro y hy; simp only [List.mem_cons, List.not_mem_nil, or_false] at hy; omega)
  go_enter Tryd.func24, Tryd.ntmps24
  go_wp2_with fail
  refine (s_l1Once g _ (by omega) _ hc).mono ?_
  rintro e w1 ⟨b, rfl, hc1, hg1⟩
  have hgl1 := hc1.lt
  cases b
  · go_wp2_with fail
    refine (s_l1Int g _ [-1, 1000000000000, 1000000000001] (by simp) (by simp) _ (hc1.below ((Below.refl _ _).alloc (Nat.le_refl _) _)) (Rd.lit _ (cI [-1, 1000000000000, 1000000000001]) 3 3 rfl (by unfold maxLen; omega)) (by simp [Value.ownBlock]; omega)).mono ?_
    rintro e w2 ⟨y, rfl, hy, hc2, hg2⟩
    go_wp2_with fail
    go_ret
    exact ⟨y, rfl, hlim.out y hy, hc2, grown_trans (grown_alloc hg1 _) hg2⟩
  · go_wp2_with fail
    refine (s_l1Odd g _ hc1).mono ?_
    rintro e w2 ⟨y, rfl, hy, hc2, hg2⟩
    go_wp2_with fail
    go_ret
    exact ⟨y, rfl, hy, hc2, grown_trans hg1 hg2⟩

set_option maxHeartbeats 2000000 in
theorem s_l1One (g : Nat) (w : World) (hc : Cur w g) :
    Calls Tryd.prog 19 #[.pointer (some ⟨g, 0, none⟩)] w (DrawsAny g w) := by
  go_enter Tryd.func19, Tryd.ntmps19
  go_wp2_with fail
  refine (s_l1Once g _ (by omega) _ hc).mono ?_
  rintro e w1 ⟨b, rfl, hc1, hg1⟩
  cases b
  · go_wp2_with fail
    refine (s_l1Num g _ hc1).mono ?_
    rintro e w2 ⟨y, rfl, ⟨hy1, hy2⟩, hc2, hg2⟩
    go_wp2_with fail
    go_ret
    exact ⟨y, rfl, ⟨by omega, by omega⟩, hc2, grown_trans hg1 hg2⟩
  · go_wp2_with fail
    refine (s_l1Raw g _ hc1).mono ?_
    rintro e w2 ⟨y, rfl, hy, hc2, hg2⟩
    go_wp2_with fail
    go_ret
    exact ⟨y, rfl, hy, hc2, grown_trans hg1 hg2⟩

/-- One number, two numbers, a text, drawn. -/
def AnyInt (w : World) (e : Ending) (w' : World) : Prop := ∃ m : Int, e = .returned (.int .i64 m) ∧ (-9223372036854775808 ≤ m ∧ m ≤ 9223372036854775807) ∧ Below w.heap.size w w'
def AnyTwo (w : World) (e : Ending) (w' : World) : Prop := ∃ m n : Int, e = .returned (.tuple #[.int .i64 m, .int .i64 n]) ∧ (-9223372036854775808 ≤ m ∧ m ≤ 9223372036854775807) ∧ (-9223372036854775808 ≤ n ∧ n ≤ 9223372036854775807) ∧ Below w.heap.size w w'
def AnyStr (w : World) (e : Ending) (w' : World) : Prop := ∃ s : ByteArray, e = .returned (.string s) ∧ Below w.heap.size w w'

set_option maxHeartbeats 2000000 in
theorem s_DrawFormatInt (v : Value) (l : List UInt8) (hn : l.length ≤ 1048576) (w : World) (hr : Rd w v 1 l.length (cB l)) :
    Calls Tryd.prog 10 #[v] w (AnyInt w) := by
  go_enter Tryd.func10, Tryd.ntmps10
  go_wp2_with fail
  refine (s_l1New v l hn _ hr).mono ?_
  rintro e w1 ⟨g, rfl, hc1, hg1, hb1⟩
  go_wp2_with fail
  refine (s_l1One g _ hc1).mono ?_
  rintro e w2 ⟨m, rfl, hm, hc2, hk2⟩
  go_wp2_with fail
  go_ret
  exact ⟨m, rfl, hm, below_grown hb1 hk2 hb1.size hg1⟩

set_option maxHeartbeats 2000000 in
theorem s_DrawCeilDiv (v : Value) (l : List UInt8) (hn : l.length ≤ 1048576) (w : World) (hr : Rd w v 1 l.length (cB l)) :
    Calls Tryd.prog 11 #[v] w (AnyTwo w) := by
  go_enter Tryd.func11, Tryd.ntmps11
  go_wp2_with fail
  refine (s_l1New v l hn _ hr).mono ?_
  rintro e w1 ⟨g, rfl, hc1, hg1, hb1⟩
  go_wp2_with fail
  refine (s_l1One g _ hc1).mono ?_
  rintro e w2 ⟨m, rfl, hm, hc2, hk2⟩
  have hb2 := below_grown hb1 hk2 hb1.size hg1
  go_wp2_with fail
  refine (s_l1One g _ hc2).mono ?_
  rintro e w3 ⟨n, rfl, hn', hc3, hk3⟩
  have hb3 := below_grown hb2 hk3 hb2.size hg1
  go_wp2_with fail
  go_ret2
  exact ⟨m, n, rfl, hm, hn', hb3⟩

set_option maxHeartbeats 2000000 in
theorem s_DrawParseInt (v : Value) (l : List UInt8) (hn : l.length ≤ 1048576) (w : World) (hr : Rd w v 1 l.length (cB l)) :
    Calls Tryd.prog 8 #[v] w (AnyStr w) := by
  go_enter Tryd.func8, Tryd.ntmps8
  go_wp2_with fail
  refine (s_l1New v l hn _ hr).mono ?_
  rintro e w1 ⟨g, rfl, hc1, hg1, hb1⟩
  go_wp2_with fail
  refine (s_l1Once g _ (by omega) _ hc1).mono ?_
  rintro e w2 ⟨b, rfl, hc2, hk2⟩
  have hb2 := below_grown hb1 hk2 hb1.size hg1
  have hgl2 := hc2.lt
  cases b
  · go_wp2_with fail
    refine (s_l1Num g _ hc2).mono ?_
    rintro e w3 ⟨m, rfl, ⟨hm1, hm2⟩, hc3, hk3⟩
    have hb3 := below_grown hb2 hk3 hb2.size hg1
    go_wp2_with fail
    refine (s_FormatInt m ⟨by omega, by omega⟩ _).mono ?_
    rintro e w4 ⟨rfl, hb4⟩
    go_wp2_with fail
    go_ret
    exact ⟨_, rfl, Below.then_ hb3 hb4 (Nat.le_refl _)⟩
  · go_wp2_with fail
    refine (s_l1Str g _ [⟨#[]⟩, ⟨#[48]⟩, ⟨#[48, 48]⟩, ⟨#[45, 49]⟩, ⟨#[48, 49]⟩, ⟨#[55]⟩, ⟨#[49, 48, 48, 48, 48, 48, 48, 48, 48, 48, 48, 48, 48]⟩, ⟨#[49, 48, 48, 48, 48, 48, 48, 48, 48, 48, 48, 48, 49]⟩, ⟨#[57, 57, 57, 57, 57, 57, 57, 57, 57, 57, 57, 57, 57, 57]⟩, ⟨#[49, 120]⟩, ⟨#[32, 49]⟩] (by simp) (by simp) _ (hc2.below ((Below.refl _ _).alloc (Nat.le_refl _) _)) (Rd.lit _ (cS [⟨#[]⟩, ⟨#[48]⟩, ⟨#[48, 48]⟩, ⟨#[45, 49]⟩, ⟨#[48, 49]⟩, ⟨#[55]⟩, ⟨#[49, 48, 48, 48, 48, 48, 48, 48, 48, 48, 48, 48, 48]⟩, ⟨#[49, 48, 48, 48, 48, 48, 48, 48, 48, 48, 48, 48, 49]⟩, ⟨#[57, 57, 57, 57, 57, 57, 57, 57, 57, 57, 57, 57, 57, 57]⟩, ⟨#[49, 120]⟩, ⟨#[32, 49]⟩]) 9 11 rfl (by unfold maxLen; omega)) (by simp [Value.ownBlock]; omega)).mono ?_
    rintro e w3 ⟨s, rfl, _, hc3, hk3⟩
    have hb3 := below_grown (hb2.alloc hb2.size _) hk3 (by have := hb2.size; simp; omega) hg1
    go_wp2_with fail
    go_ret
    exact ⟨s, rfl, hb3⟩

end Go.Proofs.YtfdjamobfhoeiaaDoor
