/-
  DepthOf of the program.
-/
import Derived.Test.YtabdcngkdgadfaaGD
import Derived.Test.YtabdcngkdgadfaaGA
import Derived.Deep.RegionWith
namespace Go.Proofs.Ytabdcngkdgadfaa
open Go.RowKit
set_option linter.unusedVariables false

/-- The row of 24 numbers, the rest of it zero. -/
def dRow (xs : List Int) : Array Value := ((List.range 24).map fun j => Value.int .i64 (xs.getD j 0)).toArray
theorem dRow_size (xs : List Int) : (dRow xs).size = 24 := by simp [dRow]
theorem dRow_at (xs : List Int) {j : Nat} (h : j < 24) : (dRow xs)[j]? = some (.int .i64 (xs.getD j 0)) := by simp [dRow, h]
theorem dRow_ext {xs ys : List Int} (h : ∀ j, j < 24 → xs.getD j 0 = ys.getD j 0) : dRow xs = dRow ys := by
  unfold dRow
  congr 1
  apply List.map_congr_left
  intro j hj
  rw [h j (List.mem_range.1 hj)]
theorem getD_snoc (acc : List Int) (x : Int) (j : Nat) : (acc ++ [x]).getD j 0 = if j = acc.length then x else acc.getD j 0 := by
  rw [List.getD_eq_getElem?_getD, List.getD_eq_getElem?_getD]
  by_cases h : j < acc.length
  · rw [List.getElem?_append_left h, if_neg (by omega)]
  · by_cases h2 : j = acc.length
    · rw [if_pos h2, h2]; simp
    · rw [if_neg h2, List.getElem?_append_right (by omega), List.getElem?_eq_none (by simp; omega), List.getElem?_eq_none (by omega)]
theorem dRow_zero {acc : List Int} : dRow (acc ++ [0]) = dRow acc := dRow_ext fun j _ => by
  rw [getD_snoc]
  split
  · rename_i h
    rw [List.getD_eq_getElem?_getD, List.getElem?_eq_none (by omega)]; rfl
  · rfl
theorem dRow_set (acc : List Int) (x y : Int) : (dRow (acc ++ [x])).setIfInBounds acc.length (.int .i64 y) = dRow (acc ++ [y]) := by
  apply Array.ext
  · simp [dRow_size]
  · intro j h1 h2
    have hj : j < 24 := by rw [dRow_size] at h2; exact h2
    have e1 := dRow_at (acc ++ [x]) hj
    have e2 := dRow_at (acc ++ [y]) hj
    rw [getD_snoc] at e1 e2
    rw [Array.getElem?_eq_getElem (by rw [dRow_size]; exact hj)] at e1 e2
    rw [Array.getElem_setIfInBounds (by rw [dRow_size]; exact hj)]
    injection e1 with e1
    injection e2 with e2
    rw [e1, e2]
    by_cases h : acc.length = j
    · rw [if_pos h, if_pos h.symm]
    · rw [if_neg h, if_neg (Ne.symm h), if_neg (Ne.symm h)]
theorem dRow_nil : dRow [] = #[.int .i64 0, .int .i64 0, .int .i64 0, .int .i64 0, .int .i64 0, .int .i64 0, .int .i64 0, .int .i64 0, .int .i64 0, .int .i64 0, .int .i64 0, .int .i64 0, .int .i64 0, .int .i64 0, .int .i64 0, .int .i64 0, .int .i64 0, .int .i64 0, .int .i64 0, .int .i64 0, .int .i64 0, .int .i64 0, .int .i64 0, .int .i64 0] := by rfl

set_option maxHeartbeats 2000000 in
theorem i_known (d : Value) (l : List RuleD) (i : Int) (hi : -9223372036854775808 ≤ i ∧ i ≤ 9223372036854775807) (hfit : ∀ r ∈ l, RuleFits r) (hsm : ∀ r ∈ l, RuleSmall r) (w : World) (hd : RdDesc w d l) :
    Calls Try.prog 26 #[d, .int .i64 i] w fun e w' => e = .returned (.bool (validD l && hasL l i)) ∧ Below w.heap.size w w' := by
  obtain ⟨v, rfl, hv⟩ := hd
  obtain ⟨A, c, rfl, hnc, hcm, _⟩ := hv.all
  unfold maxLen at hcm
  obtain ⟨F, hF⟩ : ∃ F, F = (validD l && hasL l i) := ⟨_, rfl⟩
  rw [← hF]
  have HF := Lib.hid hF
  obtain ⟨H, hH⟩ : ∃ H, H = hasL l i := ⟨_, rfl⟩
  have hr := fun w h => i_hasRule (.agg #[.slice A l.length c]) l i w h
  rw [← hH] at hr
  have L1 := Lib.hid hr
  have HH := Lib.hid hH
  have iv := fun w h => i_IsValidDescription (.agg #[.slice A l.length c]) l hfit hsm w h
  obtain ⟨V, hV⟩ : ∃ V, V = validD l := ⟨_, rfl⟩
  rw [← hV] at iv
  have HVV := Lib.hid hV
  have IV := Lib.hid iv
  have HV := Lib.hid hv
  have X0 := Lib.hid (Box.new w 26 #[.slice A l.length c])
  have hfin : Hid ((V && H) = F) := by show _ = _; rw [HF.out, HH.out, HVV.out]
  clear hr hH iv hV hv hF hfit hsm
  go_enter Try.func26, Try.ntmps26
  go_wp2_with fail
  refine (IV.out _ ⟨_, rfl, HV.out.below below_box⟩).mono ?_
  rintro e w1 ⟨rfl, hb1⟩
  have B1 := Lib.hid (Below.then_ below_box hb1 (Nat.le_refl _))
  have x1 := (X0.out.below hb1).cell 0
  clear hb1
  cases V
  · go_wp2_with fail
    go_ret
    exact ⟨ret_bool hfin.out, B1.out⟩
  · go_wp2_with fail
    refine (L1.out _ ⟨_, rfl, HV.out.below B1.out⟩).mono ?_
    rintro e w2 ⟨rfl, hb2⟩
    have B2 := Lib.hid (Below.then_ B1.out hb2 (Nat.le_refl _))
    clear hb2
    go_wp2_with fail
    go_ret
    exact ⟨ret_bool hfin.out, B2.out⟩

end Go.Proofs.Ytabdcngkdgadfaa
