/-
  l6Text and DrawParseDescription of the draws: some text.
-/
import Derived.Test.YtkjjgpkegihmhaaGreatDoorL4Desc
import Derived.Test.YtkjjgpkegihmhaaGreatDoorLawsPlain
import Derived.Test.YtkjjgpkegihmhaaGreatDoorLines
namespace Go.Proofs.YtkjjgpkegihmhaaGreatDoor
open Go.RowKit
set_option linter.unusedVariables false

def DrawsAny (most : Nat) (g : Nat) (w : World) (e : Ending) (w' : World) : Prop := ∃ s : ByteArray, e = .returned (.string s) ∧ s.size ≤ most ∧ Cur w' g ∧ w.grownBy w' (some g)
def SomeS (most : Nat) (w : World) (e : Ending) (w' : World) : Prop := ∃ s : ByteArray, e = .returned (.string s) ∧ s.size ≤ most ∧ Below w.heap.size w w'
def lineDraws : List ByteArray := [⟨#[]⟩, ⟨#[97]⟩, ⟨#[97, 32, 105, 110, 116, 101, 103, 101, 114]⟩, ⟨#[97, 32, 105, 110, 116, 101, 103, 101, 114, 32, 49]⟩, ⟨#[97, 32, 105, 110, 116, 101, 103, 101, 114, 32, 48, 49]⟩, ⟨#[97, 32, 105, 110, 116, 101, 103, 101, 114, 32, 50, 32, 108, 105, 116, 116, 108, 101]⟩, ⟨#[97, 32, 105, 110, 116, 101, 103, 101, 114, 32, 50, 32, 98, 105, 103]⟩, ⟨#[97, 32, 99, 111, 110, 115, 116]⟩, ⟨#[97, 32, 99, 111, 110, 115, 116, 32, 48]⟩, ⟨#[97, 32, 99, 111, 110, 115, 116, 32, 48, 48, 102, 102]⟩, ⟨#[97, 32, 102, 105, 120, 101, 100, 32, 48]⟩, ⟨#[97, 32, 102, 105, 120, 101, 100, 32, 51]⟩, ⟨#[97, 32, 116, 101, 114, 109, 105, 110, 97, 116, 101, 100, 32, 53, 99]⟩, ⟨#[97, 32, 116, 101, 114, 109, 105, 110, 97, 116, 101, 100, 32, 48, 97]⟩, ⟨#[97, 32, 119, 101, 105, 114, 100, 32, 49]⟩, ⟨#[97, 32, 115, 101, 113, 117, 101, 110, 99, 101]⟩, ⟨#[97, 32, 115, 101, 113, 117, 101, 110, 99, 101, 32, 112, 58]⟩, ⟨#[97, 32, 111, 112, 116, 105, 111, 110, 32, 98]⟩, ⟨#[35, 32, 97]⟩, ⟨#[97, 32, 99, 104, 111, 105, 99, 101]⟩, ⟨#[97, 32, 97, 114, 114, 97, 121, 32, 97, 48]⟩]
theorem lineDraws_size : ∀ s ∈ lineDraws, s.size ≤ 20 := by decide
def textDrawsD : List ByteArray := [⟨#[]⟩, ⟨#[10]⟩, ⟨#[120]⟩, ⟨#[32, 10, 35, 32, 98, 10]⟩]
theorem textDrawsD_size : ∀ s ∈ textDrawsD, s.size ≤ 20 := by decide

set_option maxRecDepth 100000 in
set_option maxHeartbeats 2000000 in
theorem s_l6Line0 (g : Nat) (w : World) (hc : Cur w g) :
    Calls Tryz.prog 98 #[.pointer (some ⟨g, 0, none⟩), .agg #[.slice none 0 0]] w (DrawsAny 20 g w) := by
  have hglt := hc.lt
  obtain ⟨w1, hw1⟩ : ∃ w1, w1 = w.alloc (.cells #[.slice none 0 0] 35) := ⟨_, rfl⟩
  have b1 : Below w.heap.size w w1 := by rw [hw1]; exact below_box
  have x1 : (w.alloc (.cells #[.slice none 0 0] 35)).cell? ⟨w.heap.size, 0, none⟩ = some (.slice none 0 0) := (Box.new w 35 #[.slice none 0 0]).cell 0
  have HC1 := Lib.hid (hc.below b1)
  have B1 := Lib.hid b1
  have hs1 : g < w1.heap.size := HC1.out.lt
  have E1 := Lib.hid (show w1.heap.size = w.heap.size + 1 by rw [hw1]; simp)
  have W1 := Lib.hid hw1
  clear hc b1 hw1
  go_enter Tryz.func98, Tryz.ntmps98
  go_wp2_with fail
  rw [← W1.out, ← E1.out]
  have hrd := Rd.lit w1 (cS lineDraws) 9 21 rfl (by unfold maxLen; omega)
  refine (s_l1Str g _ lineDraws (by decide) (by decide) _ (HC1.out.below ((Below.refl _ _).alloc (Nat.le_refl _) _)) hrd (by simp [Value.ownBlock]; omega)).mono ?_
  rintro e w2 ⟨s, rfl, hm, hc2, hk2⟩
  have hsz := lineDraws_size s hm
  have HG := Lib.hid (grown_trans (grown_alloc (grown_of_below B1.out) _) hk2 : w.grownBy w2 (some g))
  clear hm hrd hk2
  go_wp2_with fail
  go_ret
  exact ⟨s, rfl, hsz, hc2, HG.out⟩

set_option maxRecDepth 100000 in
set_option maxHeartbeats 8000000 in
theorem s_l6Text (g : Nat) (a w : World) (ht : Tab a) (hb : Below a.heap.size a w) (hg : a.heap.size ≤ g) (hc : Cur w g) :
    Calls Tryz.prog 64 #[.pointer (some ⟨g, 0, none⟩)] w fun e w' => ∃ s : ByteArray, e = .returned (.string s) ∧ s.size ≤ 11000 ∧ Below a.heap.size a w' := by
  have HT := Lib.hid ht
  have HB := Lib.hid hb
  have HC := Lib.hid hc
  have hgl := hc.lt
  clear ht hb hc
  go_enter Tryz.func64, Tryz.ntmps64
  go_wp2_with fail
  refine (s_l4Description g _ HC.out).mono ?_
  rintro e w1 ⟨A, c, l, rfl, ho, hd, h1, h6, hc1, hk1⟩
  have hv := hd.valid h1 h6
  have B1 := Lib.hid (below_grown HB.out hk1 HB.out.size hg)
  have hfd := fun w hT hD => s_FormatDescription (.agg #[.slice A l.length c]) l (by omega) (good_fits (by omega) hd.good) (good_small (by omega) hd.good) (good_names (by omega) hd.good) w hT hD
  have hsz := descT_small hv
  obtain ⟨T, hT⟩ : ∃ T, T = mkS (descT l) := ⟨_, rfl⟩
  rw [← hT] at hfd
  have hTs : T.size ≤ 10000 := by rw [hT, mkS_size]; exact hsz
  have FD := Lib.hid hfd
  have OW := Lib.hid ho
  have HC1 := Lib.hid hc1
  clear hd hv hfd hsz hT ho hc1 hk1
  go_wp2_with fail
  refine (FD.out _ (HT.out.below B1.out) ⟨_, rfl, OW.out.rd⟩).mono ?_
  rintro e w2 ⟨rfl, hb2⟩
  have B2 := Lib.hid (Below.then_ B1.out hb2 (Nat.le_refl _))
  have HC2 := Lib.hid (HC1.out.below hb2)
  clear hb2
  go_wp2_with fail
  refine (s_l1Below g 6 (by omega) _ HC2.out).mono ?_
  rintro e w3 ⟨n, rfl, ⟨hn1, hn2, _⟩, hc3, hk3⟩
  have hn3 := hn2 (by omega)
  have B3 := Lib.hid (below_grown B2.out hk3 B2.out.size hg)
  have HC3 := Lib.hid hc3
  have hgl3 := hc3.lt
  clear hn2 hc3 hk3
  have hcase : n = 0 ∨ n = 1 ∨ n = 2 ∨ n = 3 ∨ n = 4 ∨ n = 5 := by omega
  rcases hcase with rfl | rfl | rfl | rfl | rfl | rfl
  · go_wp2_with fail
    refine (s_l6Line0 g _ HC3.out).mono ?_
    rintro e w4 ⟨s, rfl, hs, hc4, hk4⟩
    have B4 := Lib.hid (below_grown B3.out hk4 B3.out.size hg)
    have z1 : ¬ (9223372036854775807 < T.size + s.size) := by omega
    have z2 : ¬ (9223372036854775807 < T.size + s.size + 1) := by omega
    clear hc4 hk4
    go_wp2_with fail
    go_ret
    exact ⟨_, rfl, by rw [ByteArray.size_append, ByteArray.size_append]; show T.size + s.size + 1 ≤ 11000; omega, B4.out⟩
  · have z1 : ¬ (9223372036854775807 < 9 + T.size) := by omega
    go_wp2_with fail
    go_ret
    exact ⟨_, rfl, by rw [ByteArray.size_append]; show 9 + T.size ≤ 11000; omega, B3.out⟩
  · go_wp2_with fail
    have hrd := Rd.lit w3 (cS textDrawsD) 9 4 rfl (by unfold maxLen; omega)
    refine (s_l1Str g _ textDrawsD (by decide) (by decide) _ (HC3.out.below ((Below.refl _ _).alloc (Nat.le_refl _) _)) hrd (by simp [Value.ownBlock]; omega)).mono ?_
    rintro e w4 ⟨s, rfl, hm, hc4, hk4⟩
    have hs := textDrawsD_size s hm
    have B4 := Lib.hid (below_grown (B3.out.alloc B3.out.size _) hk4 (by have := B3.out.size; simp; omega) hg)
    clear hc4 hk4 hm hrd
    go_wp2_with fail
    go_ret
    exact ⟨s, rfl, by omega, B4.out⟩
  · have z1 : ¬ (9223372036854775807 < T.size + 14) := by omega
    go_wp2_with fail
    go_ret
    exact ⟨_, rfl, by rw [ByteArray.size_append]; show T.size + 14 ≤ 11000; omega, B3.out⟩
  · go_wp2_with fail
    go_ret
    exact ⟨T, rfl, by omega, B3.out⟩
  · go_wp2_with fail
    go_ret
    exact ⟨T, rfl, by omega, B3.out⟩

set_option maxHeartbeats 2000000 in
theorem s_DrawParseDescription (v : Value) (l : List UInt8) (hn : l.length ≤ 1048576) (w : World) (ht : Tab w) (hr : Rd w v 1 l.length (cB l)) :
    Calls Tryz.prog 27 #[v] w (SomeS 11000 w) := by
  go_enter Tryz.func27, Tryz.ntmps27
  go_wp2_with fail
  refine (s_l1New v l hn _ hr).mono ?_
  rintro e w1 ⟨g, rfl, hc1, hg1, hb1⟩
  go_wp2_with fail
  refine (s_l6Text g w _ ht hb1 hg1 hc1).mono ?_
  rintro e w2 ⟨s, rfl, hs, hb2⟩
  go_wp2_with fail
  go_ret
  exact ⟨s, rfl, hs, hb2⟩

end Go.Proofs.YtkjjgpkegihmhaaGreatDoor
