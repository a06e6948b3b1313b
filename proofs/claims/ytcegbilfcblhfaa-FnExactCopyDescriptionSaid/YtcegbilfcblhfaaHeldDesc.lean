/-
  heldRuleS, heldDescription: rules that hold their marks still.
-/
import Derived.Test.YtcegbilfcblhfaaMarkD
import Derived.Test.YtcegbilfcblhfaaLater
namespace Go.Proofs.Ytcegbilfcblhfaa
open Go.RowKit
set_option linter.unusedVariables false

theorem markedTo_full {l : List RuleD} {k j : Nat} (h : j < l.length) (h' : j < (markedTo l k l.length).length) : (markedTo l k l.length)[j] = markRule (k + countTo l j) l[j] := by
  unfold markedTo
  simp [h, ruleAt]
theorem countTo_le {l : List RuleD} {i : Nat} (h : i ≤ l.length) : countTo l i ≤ countTo l l.length := by
  have : ∀ d i, i + d = l.length → countTo l i ≤ countTo l l.length := by
    intro d
    induction d with
    | zero => intro i hi; rw [← hi]; exact Nat.le_refl _
    | succ d ih =>
      intro i hi
      have h1 := ih (i + 1) (by omega)
      rw [countTo_step l i (by omega)] at h1
      omega
  exact this (l.length - i) i (by omega)

set_option maxRecDepth 100000 in
set_option maxHeartbeats 8000000 in
theorem l_heldRuleS (v : Value) (l : List RuleD) (k : Nat) (hk : k + countTo l l.length ≤ 1099511627776) (w : World) (h : RdRules w v (markedTo l k l.length)) :
    Calls Try.prog 63 #[v, .int .i64 (k : Int)] w fun e w' => e = .returned (.int .i64 ((k + countTo l l.length : Nat) : Int)) ∧ Below w.heap.size w w' := by
  obtain ⟨A, c, rfl, hnc, hcm, hcell⟩ := h.all
  have HC := Lib.hid hcell
  rw [markedTo_len] at hnc ⊢
  unfold maxLen at hcm
  obtain ⟨n, hn⟩ : ∃ n, n = l.length := ⟨_, rfl⟩
  have HN := Lib.hid hn
  have HK := Lib.hid hk
  rw [← hn] at hnc ⊢
  clear hn hk hcell h
  go_enter Try.func63, Try.ntmps63
  go_wp2_with fail
  go_loopw [1, 5] (fun c i wr => ∃ j : Nat, ∃ q : Nat, j ≤ n ∧ i = .int .i64 j ∧ c = .int .i64 (q : Int) ∧ q = k + countTo l j ∧ Below w.heap.size w wr) (fun _ i _ => n - (intOf i).toNat)
  case atStart => exact ⟨0, k, Nat.zero_le _, rfl, rfl, by simp [countTo], Below.refl _ _⟩
  case round =>
    obtain ⟨j, q, hj, rfl, rfl, hq, hbr⟩ := hrel
    by_cases hlt : j < n
    · have hjl : j < l.length := by rw [← HN.out]; exact hlt
      have hst := countTo_step l j hjl
      have hle := countTo_le (l := l) (i := j + 1) (by omega)
      have hbound := HK.out
      have hjm : j < (markedTo l k l.length).length := by rw [markedTo_len]; exact hjl
      obtain ⟨b, off, rfl, hc⟩ := HC.out (by omega)
      obtain ⟨vb, vn, vt, vk, hr⟩ := hc j hjm
      rw [markedTo_full hjl hjm, ← hq] at hr
      obtain ⟨r, hr0⟩ : ∃ r, r = l[j] := ⟨_, rfl⟩
      rw [← hr0] at hst hr
      unfold ruleCount at hst
      have hqb : q + 4 + r.bytes.length + r.names.length + r.tags.length + r.kids.length ≤ 1099511627776 := by omega
      have hr1 := hr.below hbr
      have n0 : wr.cell? ⟨b, off + j * 8, none⟩ = some (.string (mkS (markT q))) := hr1.c0
      have la := later_cell n0
      have lm := fun x : Later wr => l_markText (q : Int) (by omega) (by omega) x.world
      rw [show ((q : Nat) : Int).toNat = q from by omega] at lm
      have L1 := Lib.hid (fun x : Later wr => Calls.later (lm x))
      have HR1 := Lib.hid hr1
      have HB := Lib.hid hbr
      have HST := Lib.hid hst
      have HQ := Lib.hid hq
      have hlti : (j : Int) < (n : Int) := by omega
      have hqq := str_eq (mkS (markT q))
      clear hst hle hbound hq hc hr hr0 hr1 hbr lm n0
      go_wp2_with fail
      refine wp_region_later (by kernel_rfl) (by kernel_rfl) ?_
      repeat (go_big_quiet_step ((go_at_call 58; with_reducible exact L1.out _)))
      refine wpQuiet_nil ?_
      intro w1 hb1
      have hr2 := HR1.out.below hb1
      have n1 : w1.cell? ⟨b, off + j * 8 + 1, none⟩ = some (.int .i64 ((q : Int) + 1)) := hr2.c1
      have n2 : w1.cell? ⟨b, off + j * 8 + 2, none⟩ = some (.int .i64 ((q : Int) + 1 + 1)) := hr2.c2
      have n3 : w1.cell? ⟨b, off + j * 8 + 3, none⟩ = some (.bool (((q : Int) + 1 + 1 + 1) % 3 == 0)) := hr2.c3
      have n4 : w1.cell? ⟨b, off + j * 8 + 4, none⟩ = some vb := hr2.c4
      have n5 : w1.cell? ⟨b, off + j * 8 + 5, none⟩ = some vn := hr2.c5
      have HR2 := Lib.hid hr2
      have HB1 := Lib.hid (Below.then_ HB.out hb1 (Nat.le_refl _))
      have r4 : Rd w1 vb 1 r.bytes.length (mkByte (q + 4) r.bytes.length) := by
        have h := hr2.rb
        rw [cB_marks]
        have e : (markRule q r).bytes.length = r.bytes.length := byteMarks_len _ _
        rw [e] at h
        exact h
      have H0 := l_heldByteS vb (q + 4) r.bytes.length (by omega) w1 r4
      obtain ⟨z0, hz0⟩ : ∃ z : Int, z = (((q + 4 : Nat) : Int) + (r.bytes.length : Int)) := ⟨_, rfl⟩
      have pz0 : 0 ≤ z0 := by omega
      rw [← hz0, show (((q + 4 : Nat) : Int)) = ((q : Int) + 1 + 1 + 1 + 1) from by omega] at H0
      have HH0 := Lib.hid H0
      have HZ0 := Lib.hid hz0
      clear la hb1 hr2 r4 H0 hz0 hqq
      go_wp2_with fail
      refine HH0.out.mono ?_
      rintro e w2 ⟨rfl, rfl⟩
      have r5 : Rd w1 vn 1 r.names.length (mkString (q + 4 + r.bytes.length) r.names.length) := by
        have h := HR2.out.rn
        rw [cS_marks]
        have e : (markRule q r).names.length = r.names.length := textMarks_len _ _
        rw [e] at h
        exact h
      have H1 := l_heldStringS vn (q + 4 + r.bytes.length) r.names.length (by omega) w1 r5
      obtain ⟨z1, hz1⟩ : ∃ z : Int, z = (((q + 4 + r.bytes.length : Nat) : Int) + (r.names.length : Int)) := ⟨_, rfl⟩
      have pz1 : 0 ≤ z1 := by omega
      rw [← hz1, show (((q + 4 + r.bytes.length : Nat) : Int)) = z0 from by rw [HZ0.out]; omega] at H1
      have HH1 := Lib.hid H1
      have HZ1 := Lib.hid hz1
      clear r5 H1 hz1
      go_wp2_with fail
      refine HH1.out.mono ?_
      rintro e w3 ⟨rfl, hb3⟩
      have hr3 := HR2.out.below hb3
      have HB3 := Lib.hid (Below.then_ HB1.out hb3 (Nat.le_refl _))
      have n6 : w3.cell? ⟨b, off + j * 8 + 6, none⟩ = some vt := hr3.c6
      have n7 : w3.cell? ⟨b, off + j * 8 + 7, none⟩ = some vk := hr3.c7
      have r6 : Rd w3 vt 1 r.tags.length (mkInt (q + 4 + r.bytes.length + r.names.length) r.tags.length) := by
        have h := hr3.rt
        rw [cI_marks]
        have e : (markRule q r).tags.length = r.tags.length := intMarks_len _ _
        rw [e] at h
        exact h
      have r7 : Rd w3 vk 1 r.kids.length (mkInt (q + 4 + r.bytes.length + r.names.length + r.tags.length) r.kids.length) := by
        have h := hr3.rk
        rw [cI_marks]
        have e : (markRule q r).kids.length = r.kids.length := intMarks_len _ _
        rw [e] at h
        exact h
      have H2 := l_heldIntS vt (q + 4 + r.bytes.length + r.names.length) r.tags.length (by omega) w3 r6
      obtain ⟨z2, hz2⟩ : ∃ z : Int, z = (((q + 4 + r.bytes.length + r.names.length : Nat) : Int) + (r.tags.length : Int)) := ⟨_, rfl⟩
      have pz2 : 0 ≤ z2 := by omega
      rw [← hz2, show (((q + 4 + r.bytes.length + r.names.length : Nat) : Int)) = z1 from by rw [HZ1.out]; omega] at H2
      have H3 := l_heldIntS vk (q + 4 + r.bytes.length + r.names.length + r.tags.length) r.kids.length (by omega) w3 r7
      obtain ⟨z3, hz3⟩ : ∃ z : Int, z = (((q + 4 + r.bytes.length + r.names.length + r.tags.length : Nat) : Int) + (r.kids.length : Int)) := ⟨_, rfl⟩
      have pz3 : 0 ≤ z3 := by omega
      rw [← hz3, show (((q + 4 + r.bytes.length + r.names.length + r.tags.length : Nat) : Int)) = z2 from by rw [hz2]; omega] at H3
      have HH2 := Lib.hid H2
      have HH3 := Lib.hid H3
      have HZ3 := Lib.hid hz3
      clear r6 r7 H2 H3 hz2 hz3 hb3 hr3 n1 n2 n3 n4 n5
      go_wp2_with fail
      refine HH2.out.mono ?_
      rintro e w4 ⟨rfl, rfl⟩
      go_wp2_with fail
      refine HH3.out.mono ?_
      rintro e w5 ⟨rfl, rfl⟩
      go_wp2_with fail
      go_roundw
      case rel =>
        refine ⟨j + 1, q + 4 + r.bytes.length + r.names.length + r.tags.length + r.kids.length, by omega, by go_num, ?_, ?_, HB3.out⟩
        · rw [HZ3.out]; simp
        · have := HST.out; have := HQ.out; omega
      case measure => simp [intOf]; omega
    · obtain rfl : j = n := by omega
      have HQ := Lib.hid hq
      have HB := Lib.hid hbr
      clear hq hbr
      go_wp2_with fail
      go_ret
      exact ⟨ret_int (by rw [HQ.out, HN.out]), HB.out⟩

set_option maxHeartbeats 2000000 in
theorem l_heldDescription (v : Value) (l : List RuleD) (k : Nat) (hk : k + countTo l l.length ≤ 1099511627776) (w : World) (h : RdRules w v (markedTo l k l.length)) :
    Calls Try.prog 40 #[.agg #[v], .int .i64 (k : Int)] w fun e w' => e = .returned (.int .i64 ((k + countTo l l.length : Nat) : Int)) ∧ Below w.heap.size w w' := by
  have hb0 := below_box (w := w) (v := v) (t := 29)
  have hc := l_heldRuleS v l k hk _ (h.below hb0)
  obtain ⟨z, hz⟩ : ∃ z : Int, z = ((k + countTo l l.length : Nat) : Int) := ⟨_, rfl⟩
  have hz0 : 0 ≤ z := by omega
  rw [← hz] at hc ⊢
  have HC := Lib.hid hc
  have HB := Lib.hid hb0
  clear hc hb0 hz h hk
  go_enter Try.func40, Try.ntmps40
  go_wp2_with fail
  refine HC.out.mono ?_
  rintro e w1 ⟨rfl, hb1⟩
  have HB1 := Lib.hid (Below.then_ HB.out hb1 (Nat.le_refl _))
  clear hb1
  go_wp2_with fail
  go_ret
  exact ⟨rfl, HB1.out⟩

end Go.Proofs.Ytcegbilfcblhfaa
