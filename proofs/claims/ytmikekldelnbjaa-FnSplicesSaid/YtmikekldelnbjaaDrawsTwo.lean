/-
  The draws of the bytes' statements.
-/
import Derived.Test.YtmikekldelnbjaaDrawBytes
import Derived.Test.YtmikekldelnbjaaFormatHex
namespace Go.Proofs.Ytmikekldelnbjaa
open Go.RowKit

set_option maxHeartbeats 1000000 in
theorem s_l2Number (g : Nat) (w : World) (hc : Cur w g) :
    Calls Try.prog 51 #[.pointer (some ⟨g, 0, none⟩)] w (Draws (fun x => -1 ≤ x ∧ x ≤ 4294967296) g w) := by
  have hglt := hc.lt
  go_enter Try.func51, Try.ntmps51
  go_wp2_with fail
  refine (s_l1Below g _ (by omega) _ hc).mono ?_
  rintro e w1 ⟨x, rfl, ⟨hx1, hx2, _⟩, hc1, hg1⟩
  have hx3 := hx2 (by omega)
  have hgl1 := hc1.lt
  have hlim := Lib.hid (show ∀ y ∈ ([-1, 0, 1, 255, 256, 65535, 65536, 16777215, 16777216, 4294967295, 4294967296, x] : List Int), -1 ≤ y ∧ y ≤ 4294967296 from by intro y hy; simp only [List.mem_cons, List.not_mem_nil, or_false] at hy; omega)
  clear hx2
  go_wp2_with fail
  refine (s_l1Int g _ [-1, 0, 1, 255, 256, 65535, 65536, 16777215, 16777216, 4294967295, 4294967296, x] (by simp) (by simp) _ (hc1.below ((Below.refl _ _).alloc (Nat.le_refl _) _)) (Rd.lit _ (cI [-1, 0, 1, 255, 256, 65535, 65536, 16777215, 16777216, 4294967295, 4294967296, x]) 3 12 rfl (by unfold maxLen; omega)) (by simp [Value.ownBlock]; omega)).mono ?_
  rintro e w2 ⟨y, rfl, hy, hc2, hg2⟩
  go_wp2_with fail
  go_ret
  exact ⟨y, rfl, hlim.out y hy, hc2, grown_trans (grown_alloc hg1 _) hg2⟩

/-- A number and a size. -/
def DrawsNumSize (w : World) (e : Ending) (w' : World) : Prop := ∃ n s : Int, e = .returned (.tuple #[.int .i64 n, .int .i64 s]) ∧ (-1 ≤ n ∧ n ≤ 4294967296) ∧ (0 ≤ s ∧ s < 6) ∧ Below w.heap.size w w'

set_option maxHeartbeats 1000000 in
theorem s_DrawBigEndian (v : Value) (l : List UInt8) (hn : l.length ≤ 1048576) (w : World) (hr : Rd w v 1 l.length (cB l)) :
    Calls Try.prog 37 #[v] w (DrawsNumSize w) := by
  go_enter Try.func37, Try.ntmps37
  go_wp2_with fail
  refine (s_l1New v l hn _ hr).mono ?_
  rintro e w1 ⟨g, rfl, hc1, hg1, hb1⟩
  go_wp2_with fail
  refine (s_l2Number g _ hc1).mono ?_
  rintro e w2 ⟨n, rfl, hnr, hc2, hk2⟩
  have hb2 := below_grown hb1 hk2 hb1.size hg1
  go_wp2_with fail
  refine (s_l1Below g _ (by omega) _ hc2).mono ?_
  rintro e w3 ⟨s, rfl, ⟨hs1, hs2, _⟩, hc3, hk3⟩
  have hs3 := hs2 (by omega)
  have hb3 := below_grown hb2 hk3 hb2.size hg1
  clear hs2
  go_wp2_with fail
  go_ret2
  exact ⟨n, s, rfl, hnr, ⟨hs1, hs3⟩, hb3⟩

/-- Some row of few bytes. -/
def SomeBytes (most : Nat) (w : World) (e : Ending) (w' : World) : Prop := ∃ v l, e = .returned v ∧ l.length ≤ most ∧ w'.ownsRow w.heap.size 5 1 v l.length (cB l) ∧ Below w.heap.size w w'

set_option maxHeartbeats 1000000 in
theorem s_DrawFormatHex (v : Value) (l : List UInt8) (hn : l.length ≤ 1048576) (w : World) (hr : Rd w v 1 l.length (cB l)) :
    Calls Try.prog 39 #[v] w (SomeBytes 5 w) := by
  go_enter Try.func39, Try.ntmps39
  go_wp2_with fail
  refine (s_l1New v l hn _ hr).mono ?_
  rintro e w1 ⟨g, rfl, hc1, hg1, hb1⟩
  go_wp2_with fail
  refine (s_l1Below g _ (by omega) _ hc1).mono ?_
  rintro e w2 ⟨n, rfl, ⟨hs1, hs2, _⟩, hc2, hk2⟩
  have hs3 := hs2 (by omega)
  have hb2 := below_grown hb1 hk2 hb1.size hg1
  clear hs2
  go_wp2_with fail
  refine (s_l1Bytes g n (by omega) (by omega) _ hc2).mono ?_
  rintro e w3 ⟨v3, t, rfl, ht, ho, hc3, hk3⟩
  have hb3 := below_grown hb2 hk3 hb2.size hg1
  go_wp2_with fail
  go_ret
  exact ⟨v3, t, rfl, by omega, own_mono ho hb2.size, hb3⟩

/-- Some string of this length at most. -/
def SomeText (most : Nat) (w : World) (e : Ending) (w' : World) : Prop := ∃ s : ByteArray, e = .returned (.string s) ∧ s.size ≤ most ∧ Below w.heap.size w w'

def hexDraws : List ByteArray := [⟨#[]⟩, ⟨#[48]⟩, ⟨#[48, 48]⟩, ⟨#[102, 102]⟩, ⟨#[102, 70]⟩, ⟨#[48, 103]⟩, ⟨#[49, 50, 51]⟩, ⟨#[97, 49, 98, 50, 99, 51]⟩, ⟨#[32, 48, 48]⟩]
theorem hexDraws_size (s : ByteArray) (h : s ∈ hexDraws) : s.size ≤ 10 := by
  simp [hexDraws] at h
  rcases h with rfl | rfl | rfl | rfl | rfl | rfl | rfl | rfl | rfl <;> simp [ByteArray.size]

set_option maxHeartbeats 1000000 in
theorem s_DrawParseHex (v : Value) (l : List UInt8) (hn : l.length ≤ 1048576) (w : World) (hr : Rd w v 1 l.length (cB l)) :
    Calls Try.prog 40 #[v] w (SomeText 10 w) := by
  go_enter Try.func40, Try.ntmps40
  go_wp2_with fail
  refine (s_l1New v l hn _ hr).mono ?_
  rintro e w1 ⟨g, rfl, hc1, hg1, hb1⟩
  go_wp2_with fail
  refine (s_l1Once g _ (by omega) _ hc1).mono ?_
  rintro e w2 ⟨b, rfl, hc2, hk2⟩
  have hb2 := below_grown hb1 hk2 hb1.size hg1
  have hlt := hc2.lt
  cases b with
  | true =>
    go_wp2_with fail
    have hrd := Rd.lit w2 (cS hexDraws) 9 9 rfl (by unfold maxLen; omega)
    refine (s_l1Str g _ hexDraws (by decide) (by decide) _ (hc2.below ((Below.refl _ _).alloc (Nat.le_refl _) _)) hrd (by simp [Value.ownBlock]; omega)).mono ?_
    rintro e w3 ⟨s, rfl, hm, hc3, hk3⟩
    have hb3 := below_grown (hb2.alloc hb2.size _) hk3 (by have := hb2.size; simp; omega) hg1
    go_wp2_with fail
    go_ret
    exact ⟨s, rfl, hexDraws_size s hm, hb3⟩
  | false =>
    go_wp2_with fail
    refine (s_l1Below g _ (by omega) _ hc2).mono ?_
    rintro e w3 ⟨n, rfl, ⟨hs1, hs2, _⟩, hc3, hk3⟩
    have hs3 := hs2 (by omega)
    have hb3 := below_grown hb2 hk3 hb2.size hg1
    clear hs2
    go_wp2_with fail
    refine (s_l1Bytes g n (by omega) (by omega) _ hc3).mono ?_
    rintro e w4 ⟨v4, t, rfl, ht, ho, hc4, hk4⟩
    have hb4 := below_grown hb3 hk4 hb3.size hg1
    go_wp2_with fail
    refine (s_FormatHex v4 t (by omega) _ (Rd.of_own ho)).mono ?_
    rintro e w5 ⟨rfl, hb45⟩
    go_wp2_with fail
    go_ret
    exact ⟨_, rfl, by rw [mkS_size, hexL_len]; omega, Below.then_ hb4 hb45 (Nat.le_refl _)⟩

theorem results_four {fn : Func} {t u v x : Tmp} (h : fn.results = #[.tmp t, .tmp u, .tmp v, .tmp x]) (tmps : Array Value) (P : Program) (w : World) :
    (results fn tmps).run P w = .ok (.tuple #[tmps.getD t undef, tmps.getD u undef, tmps.getD v undef, tmps.getD x undef]) w := by
  simp [results, h]
/-- Bytes, two numbers, and bytes. -/
def DrawsSplice (w : World) (e : Ending) (w' : World) : Prop := ∃ v l i r u m, e = .returned (.tuple #[v, .int .i64 i, .int .i64 r, u]) ∧ l.length ≤ 6 ∧ m.length ≤ 3 ∧ (-1 ≤ i ∧ i ≤ 9223372036854775807) ∧ (-1 ≤ r ∧ r ≤ 9223372036854775807) ∧
  w'.ownsRow w.heap.size 5 1 v l.length (cB l) ∧ w'.ownsRow w.heap.size 5 1 u m.length (cB m) ∧ Below w.heap.size w w'

set_option maxHeartbeats 2000000 in
theorem s_DrawSpliceBytes (v : Value) (l : List UInt8) (hn : l.length ≤ 1048576) (w : World) (hr : Rd w v 1 l.length (cB l)) :
    Calls Try.prog 35 #[v] w (DrawsSplice w) := by
  go_enter Try.func35, Try.ntmps35
  go_wp2_with fail
  refine (s_l1New v l hn _ hr).mono ?_
  rintro e w1 ⟨g, rfl, hc1, hg1, hb1⟩
  go_wp2_with fail
  refine (s_l1Below g _ (by omega) _ hc1).mono ?_
  rintro e w2 ⟨n, rfl, ⟨hs1, hs2, _⟩, hc2, hk2⟩
  have hs3 := hs2 (by omega)
  have hb2 := below_grown hb1 hk2 hb1.size hg1
  clear hs2
  go_wp2_with fail
  refine (s_l1Bytes g n (by omega) (by omega) _ hc2).mono ?_
  rintro e w3 ⟨v3, t, rfl, ht, ho3, hc3, hk3⟩
  have hb3 := below_grown hb2 hk3 hb2.size hg1
  have hgt := hc2.lt
  have hv3 : ∀ k, v3.ownBlock = some k → k ≠ g := fun k hk => by have := (ho3.lt k hk).1; omega
  have htl : t.length ≤ 6 := by omega
  clear ht
  obtain ⟨B, cap, rfl⟩ : ∃ B cap, v3 = .slice B t.length cap := by
    obtain ⟨_, B, cap, h, _⟩ := Rd.of_own ho3
    exact ⟨B, cap, h⟩
  have hg3 := hc3.lt
  have hlim := Lib.hid (show ∀ y ∈ ([-1, 0, 1, (t.length : Int), (t.length : Int) + 1, 9223372036854775807] : List Int), -1 ≤ y ∧ y ≤ 9223372036854775807 from by intro y hy; simp only [List.mem_cons, List.not_mem_nil, or_false] at hy; omega)
  have hlim' := Lib.hid (show ∀ y ∈ ([-1, 0, 1, (t.length : Int), 9223372036854775807] : List Int), -1 ≤ y ∧ y ≤ 9223372036854775807 from by intro y hy; simp only [List.mem_cons, List.not_mem_nil, or_false] at hy; omega)
  go_wp2_with fail
  refine (s_l1Int g _ [-1, 0, 1, (t.length : Int), (t.length : Int) + 1, 9223372036854775807] (by simp) (by simp) _ (hc3.below ((Below.refl _ _).alloc (Nat.le_refl _) _)) (Rd.lit _ (cI [-1, 0, 1, (t.length : Int), (t.length : Int) + 1, 9223372036854775807]) 3 6 rfl (by unfold maxLen; omega)) (by simp [Value.ownBlock]; omega)).mono ?_
  rintro e w4 ⟨i, rfl, hi, hc4, hk4⟩
  have hi' := hlim.out i hi
  have ho4 := (own_below ho3 ((Below.refl _ _).alloc (Nat.le_refl _) _)).kept hk4 (.inr (fun e => hv3 g e rfl))
  have hb4 := below_grown (hb3.alloc hb3.size _) hk4 (by have := hb3.size; simp; omega) hg1
  have hg4 := hc4.lt
  clear hi
  go_wp2_with fail
  refine (s_l1Int g _ [-1, 0, 1, (t.length : Int), 9223372036854775807] (by simp) (by simp) _ (hc4.below ((Below.refl _ _).alloc (Nat.le_refl _) _)) (Rd.lit _ (cI [-1, 0, 1, (t.length : Int), 9223372036854775807]) 3 5 rfl (by unfold maxLen; omega)) (by simp [Value.ownBlock]; omega)).mono ?_
  rintro e w5 ⟨r, rfl, hr5, hc5, hk5⟩
  have hr' := hlim'.out r hr5
  have ho5 := (own_below ho4 ((Below.refl _ _).alloc (Nat.le_refl _) _)).kept hk5 (.inr (fun e => hv3 g e rfl))
  have hb5 := below_grown (hb4.alloc hb4.size _) hk5 (by have := hb4.size; simp; omega) hg1
  clear hr5
  go_wp2_with fail
  refine (s_l1Below g _ (by omega) _ hc5).mono ?_
  rintro e w6 ⟨n6, rfl, ⟨hm1, hm2, _⟩, hc6, hk6⟩
  have hm3 := hm2 (by omega)
  have hb6 := below_grown hb5 hk6 hb5.size hg1
  have ho6 := ho5.kept hk6 (.inr (fun e => hv3 g e rfl))
  clear hm2
  go_wp2_with fail
  refine (s_l1Bytes g n6 (by omega) (by omega) _ hc6).mono ?_
  rintro e w7 ⟨v7, t7, rfl, ht7, ho7, hc7, hk7⟩
  have hb7 := below_grown hb6 hk7 hb6.size hg1
  have ho6' := ho6.kept hk7 (.inr (fun e => hv3 g e rfl))
  go_wp2_with fail
  (try simp only [Exit.inBlock, Exit.then])
  refine bodyPost_ret (results_four rfl _ _ _) rfl ?_
  exact ⟨_, t, i, r, v7, t7, rfl, htl, by omega, hi', hr', own_mono ho6' hb2.size, own_mono ho7 hb6.size, hb7⟩

end Go.Proofs.Ytmikekldelnbjaa
