/-
  l4Names: are these names of parts, all different?
-/
import Derived.Test.YtcegbilfcblhfaaPlain
import Derived.Test.YtcegbilfcblhfaaName
import Derived.Test.YtcegbilfcblhfaaContains
import Derived.Test.YtcegbilfcblhfaaRange
import Derived.Test.YtcegbilfcblhfaaLater
namespace Go.Proofs.Ytcegbilfcblhfaa
open Go.RowKit
set_option linter.unusedVariables false

/-- Name j is a name, and no earlier one. -/
def nameGood (l : List ByteArray) (j : Nat) : Bool := match l[j]? with | some s => isName s.data.toList && !hasText (l.take j) s | none => true
def namesGood (l : List ByteArray) : Bool := (List.range l.length).all (nameGood l)
theorem nameGood_at {l : List ByteArray} {k : Nat} (h : k < l.length) : nameGood l k = (isName l[k].data.toList && !hasText (l.take k) l[k]) := by
  unfold nameGood; rw [List.getElem?_eq_getElem h]
theorem namesGood_all {l : List ByteArray} (h : ∀ j, j < l.length → nameGood l j = true) : namesGood l = true := by
  unfold namesGood
  rw [List.all_eq_true]
  intro j hj
  exact h j (List.mem_range.1 hj)
theorem namesGood_bad {l : List ByteArray} {k : Nat} (hk : k < l.length) (h : nameGood l k = false) : namesGood l = false := by
  unfold namesGood
  rw [List.all_eq_false]
  exact ⟨k, List.mem_range.2 hk, by simp [h]⟩

set_option maxRecDepth 100000 in
set_option maxHeartbeats 4000000 in
theorem s_l4Names (v : Value) (l : List ByteArray) (hsz : ∀ x ∈ l, x.size ≤ maxLen) (w : World) (h : Rd w v 1 l.length (cS l)) :
    Calls Try.prog 85 #[v] w fun e w' => e = .returned (.bool (namesGood l && inR l.length 1 8)) ∧ Below w.heap.size w w' := by
  have HH := Lib.hid h
  obtain ⟨_, A, c, rfl, hnc, hcm, hcell⟩ := h
  have HCM := Lib.hid hcm
  unfold maxLen at hcm
  have HC := Lib.hid hcell
  clear hcell
  obtain ⟨F, hF⟩ : ∃ F, F = namesGood l := ⟨_, rfl⟩
  have HF := Lib.hid hF
  obtain ⟨n, hn⟩ : ∃ n, n = l.length := ⟨_, rfl⟩
  have HN := Lib.hid hn
  have IR := Lib.hid (fun w => s_In (n : Int) 1 8 w)
  rw [← hn] at hnc ⊢
  rw [← hF]
  clear hF hn
  go_enter Try.func85, Try.ntmps85
  go_wp2_with fail
  go_loopw [3] (fun i wr => ∃ k : Nat, k ≤ n ∧ i = .int .i64 k ∧ (∀ j, j < k → nameGood l j = true) ∧ Below w.heap.size w wr) (fun i _ => n - (intOf i).toNat)
  case atStart => exact ⟨0, Nat.zero_le _, rfl, fun j h => absurd h (by omega), Below.refl _ _⟩
  case round =>
    obtain ⟨k, hk, rfl, hok, hbr⟩ := hrel
    have HO := Lib.hid hok
    clear hok
    by_cases hlt : k < n
    · have hkl : k < l.length := by rw [← HN.out]; exact hlt
      obtain ⟨b, off, rfl, hc⟩ := HC.out (by rw [cS_len]; omega)
      have hx := hc k _ (cS_at hkl)
      have hx1 := (hbr.cell (World.block_lt_of_cell? w _ hx)).trans hx
      have hfr := (HH.out.below hbr).front (a := k) (c' := c) (by omega) (by omega) HCM.out
      rw [Nat.mul_one, ← cS_take] at hfr
      have htl : (l.take k).length = k := by rw [List.length_take]; omega
      obtain ⟨s, hs⟩ : ∃ s, s = l[k] := ⟨_, rfl⟩
      have hss : s.size ≤ maxLen := by rw [hs]; exact hsz _ (List.getElem_mem hkl)
      have hg := nameGood_at hkl
      rw [← hs] at hx1 hg
      obtain ⟨I, hI⟩ : ∃ I, I = isName s.data.toList := ⟨_, rfl⟩
      obtain ⟨T, hT⟩ : ∃ T, T = hasText (l.take k) s := ⟨_, rfl⟩
      have c1 := fun w => s_IsName s hss w
      have c2 := fun w (h : Rd w (.slice (some ⟨b, off, none⟩) k c) 1 (l.take k).length (cS (l.take k))) => s_ContainsText (.slice (some ⟨b, off, none⟩) k c) (l.take k) s w h
      rw [← hI] at c1 hg
      rw [← hT] at c2 hg
      have L1 := Lib.hid (fun x : Later wr => Calls.later_same (c1 x.world))
      have L2 := Lib.hid (fun x : Later wr => Calls.later_same (c2 x.world (by rw [htl]; exact hfr.below x.below)))
      have la := later_cell hx1
      have HB := Lib.hid hbr
      have HG := Lib.hid hg
      have hlti : (k : Int) < (n : Int) := by omega
      have hkc : (k : Int) ≤ (c : Int) := by omega
      have hk0 : (0 : Int) ≤ (k : Int) := by omega
      clear hx hx1 hfr htl hs hss hg hI hT c1 c2 hbr hc
      cases I
      · have hfin : Hid (false = F) := by show _ = _; rw [HF.out]; exact (namesGood_bad hkl (by rw [HG.out]; rfl)).symm
        go_wp2_with fail
        refine wp_region_later (by kernel_rfl) (by kernel_rfl) ?_
        repeat (go_big_quiet_step (first | (go_at_call 64; with_reducible exact L1.out _) | (go_at_call 101; with_reducible exact L2.out _)))
        refine wpQuiet_nil ?_
        intro w1 hb1
        have HBZ := Lib.hid (Below.then_ HB.out hb1 (Nat.le_refl _))
        clear hb1 la
        go_wp2_with fail
        go_ret
        exact ⟨ret_bool (by rw [← hfin.out]; rfl), HBZ.out⟩
      · cases T
        · have hall : Hid (∀ j, j < k + 1 → nameGood l j = true) := by
            intro j hj
            rcases Nat.lt_or_ge j k with h1 | h1
            · exact HO.out j h1
            · obtain rfl : j = k := by omega
              rw [HG.out]; rfl
          go_wp2_with fail
          refine wp_region_later (by kernel_rfl) (by kernel_rfl) ?_
          repeat (go_big_quiet_step (first | (go_at_call 64; with_reducible exact L1.out _) | (go_at_call 101; with_reducible exact L2.out _)))
          refine wpQuiet_nil ?_
          intro w1 hb1
          have HBZ := Lib.hid (Below.then_ HB.out hb1 (Nat.le_refl _))
          clear hb1 la
          go_wp2_with fail
          go_roundw
          case rel => exact ⟨k + 1, by omega, by go_num, hall.out, HBZ.out⟩
          case measure => simp [intOf]; omega
        · have hfin : Hid (false = F) := by show _ = _; rw [HF.out]; exact (namesGood_bad hkl (by rw [HG.out]; rfl)).symm
          go_wp2_with fail
          refine wp_region_later (by kernel_rfl) (by kernel_rfl) ?_
          repeat (go_big_quiet_step (first | (go_at_call 64; with_reducible exact L1.out _) | (go_at_call 101; with_reducible exact L2.out _)))
          refine wpQuiet_nil ?_
          intro w1 hb1
          have HBZ := Lib.hid (Below.then_ HB.out hb1 (Nat.le_refl _))
          clear hb1 la
          go_wp2_with fail
          go_ret
          exact ⟨ret_bool (by rw [← hfin.out]; rfl), HBZ.out⟩
    · obtain rfl : k = n := by omega
      have hfin : Hid (F = true) := by show _ = _; rw [HF.out]; exact namesGood_all (fun j hj => HO.out j (by rw [HN.out]; exact hj))
      have HB := Lib.hid hbr
      clear hbr
      go_wp2_with fail
      refine (IR.out _).mono ?_
      rintro e w1 ⟨rfl, rfl⟩
      go_wp2_with fail
      go_ret
      exact ⟨ret_bool (by rw [hfin.out]; rfl), HB.out⟩

end Go.Proofs.Ytcegbilfcblhfaa
