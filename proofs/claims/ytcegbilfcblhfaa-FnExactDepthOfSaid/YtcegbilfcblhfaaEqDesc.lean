/-
  eqRuleS, eqDescription: two descriptions are compared, rule by rule.
-/
import Derived.Test.YtcegbilfcblhfaaEqRule
import Derived.Deep.RegionHeld3
namespace Go.Proofs.Ytcegbilfcblhfaa
open Go.RowKit

/-- The cells of a rule, as the walk asks for them. -/
abbrev Cells8 (w : World) (b o : Nat) (r : RuleD) (vb vn vt vk : Value) : Prop :=
  w.cell? ⟨b, o, none⟩ = some (.string r.name) ∧ w.cell? ⟨b, o + 1, none⟩ = some (.int .i64 r.kind) ∧ w.cell? ⟨b, o + 2, none⟩ = some (.int .i64 r.size) ∧ w.cell? ⟨b, o + 3, none⟩ = some (.bool r.little) ∧
  w.cell? ⟨b, o + 4, none⟩ = some vb ∧ w.cell? ⟨b, o + 5, none⟩ = some vn ∧ w.cell? ⟨b, o + 6, none⟩ = some vt ∧ w.cell? ⟨b, o + 7, none⟩ = some vk
theorem RuleCells.eight {w : World} {b o : Nat} {r : RuleD} {vb vn vt vk : Value} (h : RuleCells w b o r vb vn vt vk) : Cells8 w b o r vb vn vt vk := ⟨h.c0, h.c1, h.c2, h.c3, h.c4, h.c5, h.c6, h.c7⟩
theorem Cells8.two {w : World} {b o b' o' : Nat} {r q : RuleD} {vb vn vt vk ub un ut uk : Value} (h : Cells8 w b o r vb vn vt vk) (h' : Cells8 w b' o' q ub un ut uk) :
    w.cell? ⟨b, o, none⟩ = some (.string r.name) ∧ w.cell? ⟨b, o + 1, none⟩ = some (.int .i64 r.kind) ∧ w.cell? ⟨b, o + 2, none⟩ = some (.int .i64 r.size) ∧ w.cell? ⟨b, o + 3, none⟩ = some (.bool r.little) ∧ w.cell? ⟨b, o + 4, none⟩ = some vb ∧ w.cell? ⟨b, o + 5, none⟩ = some vn ∧ w.cell? ⟨b, o + 6, none⟩ = some vt ∧ w.cell? ⟨b, o + 7, none⟩ = some vk ∧ Cells8 w b' o' q ub un ut uk := by
  obtain ⟨h0, h1, h2, h3, h4, h5, h6, h7⟩ := h
  exact ⟨h0, h1, h2, h3, h4, h5, h6, h7, h'⟩
theorem RuleCells.rd {w : World} {b o : Nat} {r : RuleD} {vb vn vt vk : Value} (h : RuleCells w b o r vb vn vt vk) : RdRule w (ruleCells r vb vn vt vk) r := ⟨vb, vn, vt, vk, rfl, h.rb, h.rn, h.rt, h.rk⟩
theorem RuleCells.drew {w : World} {b o : Nat} {r : RuleD} {vb vn vt vk : Value} (h : RuleCells w b o r vb vn vt vk) : RuleCells w.drew b o r vb vn vt vk := h.keep fun _ _ => rfl

set_option maxHeartbeats 4000000 in
theorem l_eqRuleS (va vb : Value) (xs ys : List RuleD) (w : World) (ha : RdRules w va xs) (hb : RdRules w vb ys) :
    Calls Try.prog 49 #[va, vb] w fun e w' => e = .returned (.bool (decide (xs = ys))) ∧ Below w.heap.size w w' := by
  by_cases hlen : xs.length = ys.length
  · obtain ⟨n, hn⟩ : ∃ n, n = ys.length := ⟨_, rfl⟩
    obtain ⟨A, c, rfl, hnc, hcm, hcell⟩ := ha.all
    obtain ⟨A', c', rfl, hnc', hcm', hcell'⟩ := hb.all
    rw [hlen, ← hn] at hnc ⊢
    rw [← hn] at hnc' hlen
    unfold maxLen at hcm hcm'
    have HA := Lib.hid hlen; clear hlen
    have HB := Lib.hid hn; clear hn
    have HC := Lib.hid hcell; clear hcell
    have HC' := Lib.hid hcell'; clear hcell' ha hb
    obtain ⟨D, hD⟩ : ∃ D, D = decide (xs = ys) := ⟨_, rfl⟩
    have HD := Lib.hid hD
    rw [← hD]
    clear hD
    go_enter Try.func49, Try.ntmps49
    go_wp2_with fail
    go_loopw [5] (fun i wr => ∃ k : Nat, k ≤ n ∧ i = .int .i64 k ∧ xs.take k = ys.take k ∧ Below w.heap.size w wr) (fun i _ => n - (intOf i).toNat)
    case atStart => exact ⟨0, Nat.zero_le _, rfl, by simp, Below.refl _ _⟩
    case round =>
      obtain ⟨k, hk, rfl, htk, hbr⟩ := hrel
      have HT := Lib.hid htk; clear htk
      by_cases hlt : k < n
      · have hka : k < xs.length := by rw [HA.out]; exact hlt
        have hkb : k < ys.length := by rw [← HB.out]; exact hlt
        obtain ⟨b, off, rfl, hc⟩ := HC.out (by omega)
        obtain ⟨b', off', rfl, hc'⟩ := HC'.out (by omega)
        obtain ⟨vb, vn, vt, vk, hr⟩ := hc k hka
        obtain ⟨ub, un, ut, uk, hq⟩ := hc' k hkb
        have hr1 := hr.below hbr
        have hq1 := hq.below hbr
        obtain ⟨r, hr0⟩ : ∃ r, r = xs[k] := ⟨_, rfl⟩
        obtain ⟨q, hq0⟩ : ∃ q, q = ys[k] := ⟨_, rfl⟩
        rw [← hr0] at hr1
        rw [← hq0] at hq1
        have HX := Lib.hid (show xs[k]? = some r by rw [List.getElem?_eq_getElem hka, hr0])
        have HY := Lib.hid (show ys[k]? = some q by rw [List.getElem?_eq_getElem hkb, hq0])
        have HBR := Lib.hid hbr
        have hlti : (k : Int) < (n : Int) := by omega
        have hk0 : (0 : Int) ≤ (k : Int) := by omega
        have hr2 := Lib.hid hr1.drew.rd
        have hq2 := Lib.hid hq1.drew.rd
        have HR1 := Lib.hid hr1
        have HQ1 := Lib.hid hq1
        have cr := hr1.eight
        have cq := hq1.eight
        clear hr0 hq0 hr hq hc hc' hbr hka hkb hr1 hq1
        obtain ⟨D0, D1, D2, D3, D4, D5, D6, D7⟩ := cr
        obtain ⟨E0, E1, E2, E3, E4, E5, E6, E7⟩ := cq
        go_wp2_with fail
        go_region_held3 (fun w' => w'.cell? ⟨b, off + k * 8, none⟩ = some (.string r.name) ∧ w'.cell? ⟨b, off + k * 8 + 1, none⟩ = some (.int .i64 r.kind) ∧ w'.cell? ⟨b, off + k * 8 + 2, none⟩ = some (.int .i64 r.size) ∧ w'.cell? ⟨b, off + k * 8 + 3, none⟩ = some (.bool r.little) ∧ w'.cell? ⟨b, off + k * 8 + 4, none⟩ = some vb ∧ w'.cell? ⟨b, off + k * 8 + 5, none⟩ = some vn ∧ w'.cell? ⟨b, off + k * 8 + 6, none⟩ = some vt ∧ w'.cell? ⟨b, off + k * 8 + 7, none⟩ = some vk ∧ w'.cell? ⟨b', off' + k * 8, none⟩ = some (.string q.name) ∧ w'.cell? ⟨b', off' + k * 8 + 1, none⟩ = some (.int .i64 q.kind) ∧ w'.cell? ⟨b', off' + k * 8 + 2, none⟩ = some (.int .i64 q.size) ∧ w'.cell? ⟨b', off' + k * 8 + 3, none⟩ = some (.bool q.little) ∧ w'.cell? ⟨b', off' + k * 8 + 4, none⟩ = some ub ∧ w'.cell? ⟨b', off' + k * 8 + 5, none⟩ = some un ∧ w'.cell? ⟨b', off' + k * 8 + 6, none⟩ = some ut ∧ w'.cell? ⟨b', off' + k * 8 + 7, none⟩ = some uk)
          (first | go_keep | (exact Cells8.two (HR1.out.drew.below hbx).eight (HQ1.out.drew.below hbx).eight))
          ((go_at_call 73; refine (l_eqRule r q vb vn vt vk ub un ut uk _ hr2.out hq2.out).mono ?_; rintro e w1 ⟨rfl, hbx⟩))
        have hb1 : Below w.heap.size w w1 := Below.then_ HBR.out (Below.then_ (Below.refl wr.heap.size wr).drew hbx (Nat.le_refl _)) (Nat.le_refl _)
        clear hbx
        by_cases hxy : r = q
        · rw [decide_eq_true hxy]
          have HXY := Lib.hid hxy
          have HB1 := Lib.hid hb1
          clear hxy hb1 D0 D1 D2 D3 D4 D5 D6 D7 E0 E1 E2 E3 E4 E5 E6 E7
          go_wp2_with fail
          go_roundw
          case rel =>
            refine ⟨k + 1, by omega, by go_num, ?_, HB1.out⟩
            rw [List.take_add_one, List.take_add_one, HT.out, HX.out, HY.out, HXY.out]
          case measure => simp [intOf]; omega
        · rw [decide_eq_false hxy]
          have hfin : Hid (false = D) := by
            show _ = _
            rw [HD.out]; symm
            rw [decide_eq_false_iff_not]
            intro e
            have h1 := HX.out
            rw [e, HY.out] at h1
            exact hxy (Option.some.inj h1).symm
          have HB1 := Lib.hid hb1
          clear hxy hb1 D0 D1 D2 D3 D4 D5 D6 D7 E0 E1 E2 E3 E4 E5 E6 E7
          go_wp2_with fail
          go_ret
          exact ⟨ret_bool hfin.out, HB1.out⟩
      · obtain rfl : k = n := by omega
        have hfin : Hid (true = D) := by
          show _ = _
          rw [HD.out]; symm
          rw [decide_eq_true_iff]
          have := HT.out
          rwa [List.take_of_length_le (by rw [HA.out]; exact Nat.le_refl _), List.take_of_length_le (by rw [← HB.out]; exact Nat.le_refl _)] at this
        have HBR := Lib.hid hbr
        clear hbr
        go_wp2_with fail
        go_ret
        exact ⟨ret_bool hfin.out, HBR.out⟩
  · obtain ⟨A, c, rfl, hnc, hcm, _⟩ := ha.all
    obtain ⟨A', c', rfl, hnc', hcm', _⟩ := hb.all
    have hq : ((xs.length : Int) == (ys.length : Int)) = false := by rw [beq_eq_false_iff_ne]; omega
    have hq2 : ((xs.length : Int) != (ys.length : Int)) = true := by rw [bne_iff_ne]; omega
    have hfin : Hid (false = decide (xs = ys)) := by
      show _ = _
      symm
      rw [decide_eq_false_iff_not]
      intro e
      exact hlen (by rw [e])
    clear hlen ha hb
    go_enter Try.func49, Try.ntmps49
    go_wp2_with fail
    go_ret
    exact ⟨ret_bool hfin.out, Below.refl _ _⟩

set_option maxHeartbeats 2000000 in
theorem l_eqDescription (d e : Value) (xs ys : List RuleD) (w : World) (hd : RdDesc w d xs) (he : RdDesc w e ys) :
    Calls Try.prog 19 #[d, e] w fun e w' => e = .returned (.bool (decide (xs = ys))) ∧ Below w.heap.size w w' := by
  obtain ⟨v, rfl, hv⟩ := hd
  obtain ⟨u, rfl, hu⟩ := he
  have HA := ((Below.refl w.heap.size w).alloc (Nat.le_refl _) (.cells #[v] 29)).alloc (by simp) (.cells #[u] 29)
  have HV := Lib.hid (hv.below HA)
  have HU := Lib.hid (hu.below HA)
  have HA' := Lib.hid HA
  obtain ⟨D, hD⟩ : ∃ D, D = decide (xs = ys) := ⟨_, rfl⟩
  have EQ := Lib.hid (fun w hx hy => l_eqRuleS v u xs ys w hx hy)
  rw [← hD] at EQ ⊢
  clear HA hv hu hD
  go_enter Try.func19, Try.ntmps19
  go_wp2_with fail
  refine (EQ.out _ HV.out HU.out).mono ?_
  rintro e w1 ⟨rfl, hb1⟩
  have hbz := Below.then_ HA'.out hb1 (by simp)
  clear hb1
  cases D
  · go_wp2_with fail
    go_ret
    exact ⟨rfl, hbz⟩
  · go_wp2_with fail
    go_ret
    exact ⟨rfl, hbz⟩

end Go.Proofs.Ytcegbilfcblhfaa
