/-
  DepthOf of the program.
-/
import Derived.Test.YtcegbilfcblhfaaDepthPlain
import Derived.Test.YtcegbilfcblhfaaMaxs
import Derived.Deep.RegionWith
namespace Go.Proofs.Ytcegbilfcblhfaa
open Go.RowKit
set_option linter.unusedVariables false

/-- The row of 24 numbers, the rest of it zero. -/
def dRow (xs : List Int) : Array Value := ((List.range 24).map fun j => Value.int .i64 (xs.getD j 0)).toArray
theorem dRow_size (xs : List Int) : (dRow xs).size = 24 := by simp [dRow]
theorem dRow_at (xs : List Int) {j : Nat} (h : j < 24) : (dRow xs)[j]? = some (.int .i64 (xs.getD j 0)) := by simp [dRow, h]
theorem dRow_ext {xs ys : List Int} (h : ∀ j, j < 24 → xs.getD j 0 = ys.getD j 0) : dRow xs = dRow ys := by
  unfold dRow
  congr 1
  apply List.map_congr_left
  intro j hj
  rw [h j (List.mem_range.1 hj)]
theorem getD_snoc (acc : List Int) (x : Int) (j : Nat) : (acc ++ [x]).getD j 0 = if j = acc.length then x else acc.getD j 0 := by
  rw [List.getD_eq_getElem?_getD, List.getD_eq_getElem?_getD]
  by_cases h : j < acc.length
  · rw [List.getElem?_append_left h, if_neg (by omega)]
  · by_cases h2 : j = acc.length
    · rw [if_pos h2, h2]; simp
    · rw [if_neg h2, List.getElem?_append_right (by omega), List.getElem?_eq_none (by simp; omega), List.getElem?_eq_none (by omega)]
theorem dRow_zero {acc : List Int} : dRow (acc ++ [0]) = dRow acc := dRow_ext fun j _ => by
  rw [getD_snoc]
  split
  · rename_i h
    rw [List.getD_eq_getElem?_getD, List.getElem?_eq_none (by omega)]; rfl
  · rfl
theorem dRow_set (acc : List Int) (x y : Int) : (dRow (acc ++ [x])).setIfInBounds acc.length (.int .i64 y) = dRow (acc ++ [y]) := by
  apply Array.ext
  · simp [dRow_size]
  · intro j h1 h2
    have hj : j < 24 := by rw [dRow_size] at h2; exact h2
    have e1 := dRow_at (acc ++ [x]) hj
    have e2 := dRow_at (acc ++ [y]) hj
    rw [getD_snoc] at e1 e2
    rw [Array.getElem?_eq_getElem (by rw [dRow_size]; exact hj)] at e1 e2
    rw [Array.getElem_setIfInBounds (by rw [dRow_size]; exact hj)]
    injection e1 with e1
    injection e2 with e2
    rw [e1, e2]
    by_cases h : acc.length = j
    · rw [if_pos h, if_pos h.symm]
    · rw [if_neg h, if_neg (Ne.symm h), if_neg (Ne.symm h)]
theorem dRow_nil : dRow [] = #[.int .i64 0, .int .i64 0, .int .i64 0, .int .i64 0, .int .i64 0, .int .i64 0, .int .i64 0, .int .i64 0, .int .i64 0, .int .i64 0, .int .i64 0, .int .i64 0, .int .i64 0, .int .i64 0, .int .i64 0, .int .i64 0, .int .i64 0, .int .i64 0, .int .i64 0, .int .i64 0, .int .i64 0, .int .i64 0, .int .i64 0, .int .i64 0] := by rfl

set_option maxHeartbeats 2000000 in
theorem i_known (d : Value) (l : List RuleD) (i : Int) (hi : -9223372036854775808 ≤ i ∧ i ≤ 9223372036854775807) (hfit : ∀ r ∈ l, RuleFits r) (hsm : ∀ r ∈ l, RuleSmall r) (w : World) (hd : RdDesc w d l) :
    Calls Try.prog 69 #[d, .int .i64 i] w fun e w' => e = .returned (.bool (validD l && hasL l i)) ∧ Below w.heap.size w w' := by
  obtain ⟨v, rfl, hv⟩ := hd
  obtain ⟨A, c, rfl, hnc, hcm, _⟩ := hv.all
  unfold maxLen at hcm
  obtain ⟨F, hF⟩ : ∃ F, F = (validD l && hasL l i) := ⟨_, rfl⟩
  rw [← hF]
  have HF := Lib.hid hF
  obtain ⟨H, hH⟩ : ∃ H, H = hasL l i := ⟨_, rfl⟩
  have hr := fun w h => i_hasRule (.agg #[.slice A l.length c]) l i w h
  rw [← hH] at hr
  have L1 := Lib.hid hr
  have HH := Lib.hid hH
  have iv := fun w h => i_IsValidDescription (.agg #[.slice A l.length c]) l hfit hsm w h
  obtain ⟨V, hV⟩ : ∃ V, V = validD l := ⟨_, rfl⟩
  rw [← hV] at iv
  have HVV := Lib.hid hV
  have IV := Lib.hid iv
  have HV := Lib.hid hv
  have X0 := Lib.hid (Box.new w 29 #[.slice A l.length c])
  have hfin : Hid ((V && H) = F) := by show _ = _; rw [HF.out, HH.out, HVV.out]
  clear hr hH iv hV hv hF hfit hsm
  go_enter Try.func69, Try.ntmps69
  go_wp2_with fail
  refine (IV.out _ ⟨_, rfl, HV.out.below below_box⟩).mono ?_
  rintro e w1 ⟨rfl, hb1⟩
  have B1 := Lib.hid (Below.then_ below_box hb1 (Nat.le_refl _))
  have x1 := (X0.out.below hb1).cell 0
  clear hb1
  cases V
  · go_wp2_with fail
    go_ret
    exact ⟨ret_bool hfin.out, B1.out⟩
  · go_wp2_with fail
    refine (L1.out _ ⟨_, rfl, HV.out.below B1.out⟩).mono ?_
    rintro e w2 ⟨rfl, hb2⟩
    have B2 := Lib.hid (Below.then_ B1.out hb2 (Nat.le_refl _))
    clear hb2
    go_wp2_with fail
    go_ret
    exact ⟨ret_bool hfin.out, B2.out⟩

set_option maxRecDepth 100000 in
set_option maxHeartbeats 8000000 in
theorem i_DepthOf (d : Value) (l : List RuleD) (i : Int) (hi : -9223372036854775808 ≤ i ∧ i ≤ 9223372036854775807) (hfit : ∀ r ∈ l, RuleFits r) (hsm : ∀ r ∈ l, RuleSmall r) (w : World) (hd : RdDesc w d l) :
    Calls Try.prog 46 #[d, .int .i64 i] w fun e w' => e = .returned (.int .i64 (depthL l i)) ∧ Below w.heap.size w w' := by
  obtain ⟨v, rfl, hv⟩ := hd
  obtain ⟨A, c, rfl, hnc, hcm, hcell⟩ := hv.all
  unfold maxLen at hcm
  obtain ⟨F, hF⟩ : ∃ F, F = depthL l i := ⟨_, rfl⟩
  rw [← hF]
  obtain ⟨w0, hw0⟩ : ∃ w0, w0 = w.alloc (.cells #[.slice A l.length c] 29) := ⟨_, rfl⟩
  have b0 : Below w.heap.size w w0 := by rw [hw0]; exact below_box
  have HC := Lib.hid hcell
  have HV := Lib.hid hv
  have x0 : Box w0 w.heap.size 29 #[.slice A l.length c] := by rw [hw0]; exact Box.new w _ _
  have B0 := Lib.hid b0
  have X0 := Lib.hid x0
  have W0 := Lib.hid hw0
  have HF := Lib.hid hF
  have HSM := Lib.hid hsm
  obtain ⟨H, hH⟩ : ∃ H, H = (validD l && hasL l i) := ⟨_, rfl⟩
  have l7 := fun w h => i_known (.agg #[.slice A l.length c]) l i hi hfit hsm w h
  rw [← hH] at l7
  have L7 := Lib.hid l7
  have HH := Lib.hid (show H = (hasL l i && validD l) by rw [hH, Bool.and_comm])
  clear hcell hv x0 b0 hw0 hF hfit hsm l7 hH
  go_enter Try.func46, Try.ntmps46
  go_wp2_with fail
  rw [← W0.out]
  have x0 := X0.out.cell 0
  refine (L7.out _ ⟨_, rfl, HV.out.below B0.out⟩).mono ?_
  rintro e w1 ⟨rfl, hb1⟩
  have B1 := Lib.hid (Below.then_ B0.out hb1 (Nat.le_refl _))
  have X1 := Lib.hid (X0.out.below hb1)
  clear hb1 x0
  cases H
  · have hfin : Hid (0 = F) := by show _ = _; rw [HF.out]; unfold depthL; rw [← HH.out]; rfl
    go_wp2_with fail
    go_ret
    exact ⟨ret_int hfin.out, B1.out⟩
  · have hh := HH.out.symm
    rw [Bool.and_eq_true] at hh
    obtain ⟨m, rfl, hml⟩ := hasL_nat hh.1
    have hval := Lib.hid hh.2
    have hl24 := (valid_len hh.2).2
    have hfin : Hid ((depths l).getD m 0 = F) := by show _ = _; rw [HF.out]; unfold depthL; rw [← HH.out, Int.toNat_natCast]; rfl
    obtain ⟨n, hn⟩ : ∃ n, n = l.length := ⟨_, rfl⟩
    have HN := Lib.hid hn
    rw [← hn] at hnc hml hl24 X1
    obtain ⟨w2, hw2⟩ : ∃ w2, w2 = w1.alloc (.cells #[.int .i64 0, .int .i64 0, .int .i64 0, .int .i64 0, .int .i64 0, .int .i64 0, .int .i64 0, .int .i64 0, .int .i64 0, .int .i64 0, .int .i64 0, .int .i64 0, .int .i64 0, .int .i64 0, .int .i64 0, .int .i64 0, .int .i64 0, .int .i64 0, .int .i64 0, .int .i64 0, .int .i64 0, .int .i64 0, .int .i64 0, .int .i64 0] 68) := ⟨_, rfl⟩
    have Y2 := Lib.hid (show Box w2 w1.heap.size 68 (dRow []) by rw [hw2, dRow_nil]; exact Box.new _ _ _)
    have x1 : (w1.alloc (.cells #[.int .i64 0, .int .i64 0, .int .i64 0, .int .i64 0, .int .i64 0, .int .i64 0, .int .i64 0, .int .i64 0, .int .i64 0, .int .i64 0, .int .i64 0, .int .i64 0, .int .i64 0, .int .i64 0, .int .i64 0, .int .i64 0, .int .i64 0, .int .i64 0, .int .i64 0, .int .i64 0, .int .i64 0, .int .i64 0, .int .i64 0, .int .i64 0] 68)).cell? ⟨w.heap.size, 0, none⟩ = some (.slice A n c) := (X1.out.alloc _).cell 0
    have B2 := Lib.hid (show Below w1.heap.size w1 w2 by rw [hw2]; exact (Below.refl _ _).alloc (Nat.le_refl _) _)
    have W2 := Lib.hid hw2
    obtain ⟨g, hg⟩ : ∃ g, g = w1.heap.size := ⟨_, rfl⟩
    have HG := Lib.hid hg
    clear hh hn hw2
    go_wp2_with fail
    rw [← W2.out, ← HG.out]
    rw [← hg] at Y2 B2
    clear hg x1
    go_loopw [17] (fun i wr => ∃ k : Nat, k ≤ n ∧ i = .int .i64 k ∧ Below g w1 wr ∧ Box wr g 68 (dRow (depths (l.take k)))) (fun i _ => n - (intOf i).toNat)
    case atStart => exact ⟨0, Nat.zero_le _, rfl, B2.out, Y2.out⟩
    case round =>
      obtain ⟨k, hk, rfl, hbr, hyr⟩ := hrel
      have HBR := Lib.hid hbr
      have HBR1 := Lib.hid (show Below w1.heap.size w1 wr by rw [← HG.out]; exact hbr)
      have HYR := Lib.hid hyr
      clear hbr hyr
      by_cases hlt : k < n
      · have hkl : k < l.length := by rw [← HN.out]; omega
        obtain ⟨b, off, rfl, hcs⟩ := HC.out (by omega)
        obtain ⟨vb, vn, vt, vk, hr⟩ := hcs k hkl
        obtain ⟨r, hr0⟩ : ∃ r, r = l[k] := ⟨_, rfl⟩
        rw [← hr0] at hr
        have hps : r.kids.length ≤ 1048576 := by rw [hr0]; exact (HSM.out _ (List.getElem_mem hkl)).2.2.2
        obtain ⟨⟨Ab, cb, rfl⟩, ⟨An, cn, rfl⟩, ⟨At, ct, rfl⟩, ⟨Ak, ck, rfl⟩⟩ := hr.slices
        have hrr := (hr.below B1.out).below HBR1.out
        obtain ⟨D0, D1, D2, D3, D4, D5, D6, D7⟩ := hrr.eight
        have HRK := Lib.hid ((hr.below B1.out).rk)
        have hkn : (k : Int) < (n : Int) := by omega
        have hk0 : (0 : Int) ≤ (k : Int) := by omega
        have hkids : Hid (∀ j (h : j < r.kids.length), ∃ t : Nat, r.kids[j] = (t : Int) ∧ t < k) := by
          intro j hj
          subst hr0
          exact valid_kids hval.out hkl hj
        have HST : Hid (depths (l.take (k + 1)) = depths (l.take k) ++ [depthPart (depths (l.take k)) r.kids + 1]) := by rw [hr0]; exact depths_step hkl
        have HRG := Lib.hid (depths_take_range (Nat.le_of_lt hkl))
        have HDL := Lib.hid (depths_take_len (Nat.le_of_lt hkl))
        obtain ⟨acc, hacc⟩ : ∃ acc, acc = depths (l.take k) := ⟨_, rfl⟩
        rw [← hacc] at HST HRG HDL HYR
        obtain ⟨p, hp⟩ : ∃ p, p = r.kids.length := ⟨_, rfl⟩
        have HP := Lib.hid hp
        rw [← hp] at hps D7
        obtain ⟨w3, hw3⟩ : ∃ w3, w3 = wr.alloc (.cells #[.string r.name, .int .i64 r.kind, .int .i64 r.size, .bool r.little, .slice Ab r.bytes.length cb, .slice An r.names.length cn, .slice At r.tags.length ct, .slice Ak p ck] 56) := ⟨_, rfl⟩
        have Y3 := Lib.hid (show Box w3 g 68 (dRow (acc ++ [0])) by rw [hw3, dRow_zero]; exact HYR.out.alloc _)
        have B3 := Lib.hid (show Below g w1 w3 by rw [hw3]; exact HBR.out.alloc (by have := HBR.out.size; have := HYR.out.lt; omega) _)
        have W3 := Lib.hid hw3
        clear hcs hr hrr hr0 hacc hp hw3
        go_wp2_with fail
        rw [← W3.out]
        clear D0 D1 D2 D3 D4 D5 D6 D7
        go_loopw [25] (fun j wi => ∃ q : Nat, q ≤ p ∧ j = .int .i64 q ∧ Below g w1 wi ∧ Box wi g 68 (dRow (acc ++ [depthPart acc (r.kids.take q)]))) (fun j _ => p - (intOf j).toNat)
        case atStart => exact ⟨0, Nat.zero_le _, rfl, B3.out, Y3.out⟩
        case round =>
          obtain ⟨wi, hwi⟩ : ∃ wi : World, wi = wr := ⟨_, rfl⟩
          subst hwi
          obtain ⟨q, hq, rfl, hbi, hyi⟩ := hrel
          have HBI := Lib.hid hbi
          have HBI1 := Lib.hid (show Below w1.heap.size w1 wi by rw [← HG.out]; exact hbi)
          have HYI := Lib.hid hyi
          clear hbi hyi
          by_cases hlt2 : q < p
          · have hqr : q < r.kids.length := by rw [← HP.out]; exact hlt2
            obtain ⟨bk, ok, rfl, hkc⟩ := kids_at (HRK.out.below HBI1.out) (by omega)
            have hx := hkc q hqr
            obtain ⟨t, ht, htk⟩ := hkids.out q hqr
            rw [ht] at hx
            have HDP : Hid (depthPart acc (r.kids.take (q + 1)) = max (depthPart acc (r.kids.take q)) (acc.getD t 0)) := by
              have := depthPart_step (acc := acc) hqr
              rw [ht, Int.toNat_natCast] at this
              exact this
            have cx := HYI.out.cell k
            have cy := HYI.out.cell t
            have fx := HYI.out.frozen k
            rw [dRow_at _ (by omega), getD_snoc, if_pos HDL.out.symm] at cx
            rw [dRow_at _ (by omega), getD_snoc, if_neg (by rw [HDL.out]; omega)] at cy
            have hxr := depthPart_range HRG.out (by omega) (r.kids.take q)
            obtain ⟨y, hy0⟩ : ∃ y, y = acc.getD t 0 := ⟨_, rfl⟩
            rw [← hy0] at cy HDP
            obtain ⟨x, hx0⟩ : ∃ x, x = depthPart acc (r.kids.take q) := ⟨_, rfl⟩
            rw [← hx0] at HDP cx HYI hxr
            have hti : (t : Int) < 24 := by omega
            have ht0 : (0 : Int) ≤ (t : Int) := by omega
            have hki : (k : Int) < 24 := by omega
            have MX := Lib.hid (fun w => i_Max2 x y w)
            have HROW : Hid ((dRow (acc ++ [x])).setIfInBounds k (.int .i64 (max x y)) = dRow (acc ++ [depthPart acc (r.kids.take (q + 1))])) := by
              show _ = _
              rw [HDP.out, ← dRow_set acc x (max x y), HDL.out]
            clear hkc ht hy0 hx0
            go_wp2_with fail
            have c7 : ∀ w7, Below wi.drew.heap.size wi.drew w7 → w7.cell? ⟨g, k, none⟩ = some (.int .i64 x) := fun w7 hb7 => cell_after (show wi.drew.cell? _ = _ from cx) hb7
            have C7 := Lib.hid c7
            clear c7
            go_region_with ((go_at_call 70; refine (MX.out _).mono ?_; rintro e w7 ⟨rfl, hb7⟩; have B7 := Lib.hid (Below.then_ (HBI.out.drew) hb7 (Nat.le_of_eq HG.out)); have Y7 := Lib.hid ((HYI.out.drewN 1).below hb7); have f7 := Y7.out.frozen k; have c7 := C7.out w7 hb7; clear hb7))
            all_goals
              go_wp2_with fail
              go_roundw
              case rel => exact ⟨q + 1, by omega, by go_num, below_set B7.out (Nat.le_refl _) _, by rw [← HROW.out]; exact Y7.out.set k _⟩
              case measure => simp [intOf]; omega
          · obtain rfl : q = p := by omega
            have hfull : r.kids.take q = r.kids := List.take_of_length_le (by rw [HP.out]; exact Nat.le_refl _)
            rw [hfull] at HYI
            have cx := HYI.out.cell k
            have fx := HYI.out.frozen k
            rw [dRow_at _ (by omega), getD_snoc, if_pos HDL.out.symm] at cx
            have hxr := depthPart_range HRG.out (by omega) r.kids
            obtain ⟨x, hx0⟩ : ∃ x, x = depthPart acc r.kids := ⟨_, rfl⟩
            rw [← hx0] at HST cx HYI hxr
            have hki : (k : Int) < 24 := by omega
            have HROW : Hid ((dRow (acc ++ [x])).setIfInBounds k (.int .i64 (x + 1)) = dRow (depths (l.take (k + 1)))) := by
              show _ = _
              rw [HST.out, ← dRow_set acc x (x + 1), HDL.out]
            clear hfull hx0
            go_wp2_with fail
            go_roundw
            case rel => exact ⟨k + 1, by omega, by go_num, below_set HBI.out (Nat.le_refl _) _, by rw [← HROW.out]; exact HYI.out.set k _⟩
            case measure => simp [intOf]; omega
      · obtain rfl : k = n := by omega
        have cm := HYR.out.cell m
        rw [dRow_at _ (by omega), HN.out, List.take_length, hfin.out] at cm
        have hmi : (m : Int) < 24 := by omega
        have hm0 : (0 : Int) ≤ (m : Int) := by omega
        go_wp2_with fail
        go_ret
        exact ⟨rfl, Below.then_ B1.out HBR1.out (Nat.le_refl _)⟩

end Go.Proofs.Ytcegbilfcblhfaa
