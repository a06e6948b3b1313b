/-
  validSequence of the program.
-/
import Derived.Test.YtcegbilfcblhfaaNames
namespace Go.Proofs.Ytcegbilfcblhfaa
open Go.RowKit
set_option linter.unusedVariables false

theorem plain_names (r : RuleD) : (r.size = 0 ∧ r.bytes.length = 0 ∧ r.tags.length = 0) ∨ ¬ (r.size = 0 ∧ r.bytes.length = 0 ∧ r.tags.length = 0) := Classical.em _

set_option maxRecDepth 100000 in
set_option maxHeartbeats 8000000 in
theorem i_validSequence (r : RuleD) (vb vn vt vk : Value) (w : World) (h : RdRule w (ruleCells r vb vn vt vk) r) :
    Calls Try.prog 88 #[.agg #[.string r.name, .int .i64 r.kind, .int .i64 r.size, .bool r.little, vb, vn, vt, vk]] w
      fun e w' => e = .returned (.bool (decide (r.size = 0 ∧ r.bytes.length = 0 ∧ r.tags.length = 0) && (decide (r.kids.length = r.names.length) && (inR r.kids.length 1 8 && namesGood r.names)))) ∧ Below w.heap.size w w' := by
  obtain ⟨⟨Ab, cb, rfl, lb1, lb2⟩, ⟨An, cn, rfl, ln1, ln2⟩, ⟨At, ct, rfl, lt1, lt2⟩, ⟨Ak, ck, rfl, lk1, lk2⟩⟩ := rule_forms h
  have HLN := Lib.hid ln2
  unfold maxLen at lb2 ln2 lt2 lk2
  obtain ⟨w0, hw0⟩ : ∃ w0, w0 = w.alloc (.cells #[.string r.name, .int .i64 r.kind, .int .i64 r.size, .bool r.little, .slice Ab r.bytes.length cb, .slice An r.names.length cn, .slice At r.tags.length ct, .slice Ak r.kids.length ck] 56) := ⟨_, rfl⟩
  have b0 : Below w.heap.size w w0 := by rw [hw0]; exact rule_box
  have x0 : Box w0 w.heap.size 56 #[.string r.name, .int .i64 r.kind, .int .i64 r.size, .bool r.little, .slice Ab r.bytes.length cb, .slice An r.names.length cn, .slice At r.tags.length ct, .slice Ak r.kids.length ck] := by rw [hw0]; exact Box.new _ _ _
  have PL := Lib.hid (i_plainNames r _ _ _ _ w0 (h.below b0))
  have RN := Lib.hid ((rdRule_parts h).2.1.below b0)
  have X0 := Lib.hid x0
  have B0 := Lib.hid b0
  have W0 := Lib.hid hw0
  obtain ⟨P, hP⟩ : ∃ P, P = decide (r.size = 0 ∧ r.bytes.length = 0 ∧ r.tags.length = 0) := ⟨_, rfl⟩
  obtain ⟨I, hI⟩ : ∃ I, I = inR r.kids.length 1 8 := ⟨_, rfl⟩
  obtain ⟨F, hF⟩ : ∃ F, F = namesGood r.names := ⟨_, rfl⟩
  obtain ⟨Q, hQ⟩ : ∃ Q, Q = decide (r.kids.length = r.names.length) := ⟨_, rfl⟩
  have ir := fun w => i_In (r.kids.length : Int) 1 8 w
  have pl := PL.out
  rw [← hP] at pl ⊢
  rw [← hI] at ir ⊢
  rw [← hF, ← hQ]
  have PLX := Lib.hid pl
  have IR := Lib.hid ir
  have HF := Lib.hid hF
  have HQ := Lib.hid hQ
  clear h x0 b0 hw0 hP hI hF hQ ir pl PL
  go_enter Try.func88, Try.ntmps88
  go_wp2_with fail
  rw [← W0.out]
  refine PLX.out.mono ?_
  rintro e w1 ⟨rfl, hb1⟩
  have X1 := Lib.hid (X0.out.below hb1)
  have B1 := Lib.hid (Below.then_ B0.out hb1 (Nat.le_refl _))
  have RN1 := Lib.hid (RN.out.below hb1)
  have k1 : w1.cell? ⟨w.heap.size, 7, none⟩ = some (.slice Ak r.kids.length ck) := X1.out.cell 7
  have n1 : w1.cell? ⟨w.heap.size, 5, none⟩ = some (.slice An r.names.length cn) := X1.out.cell 5
  clear hb1
  cases P
  · go_wp2_with fail
    go_ret
    exact ⟨rfl, B1.out⟩
  · by_cases hkn : r.kids.length = r.names.length
    · have e1 : ((r.kids.length : Int) == (r.names.length : Int)) = true := by rw [beq_iff_eq]; omega
      have e2 : ((r.kids.length : Int) != (r.names.length : Int)) = false := by simp [hkn]
      have hq : Hid (Q = true) := by show _ = _; rw [HQ.out]; exact decide_eq_true hkn
      clear hkn
      go_wp2_with fail
      refine (IR.out _).mono ?_
      rintro e w2 ⟨rfl, rfl⟩
      cases I
      · go_wp2_with fail
        go_ret
        exact ⟨ret_bool (by rw [hq.out]; rfl), B1.out⟩
      · obtain ⟨n, hn⟩ : ∃ n, n = r.names.length := ⟨_, rfl⟩
        have HN := Lib.hid hn
        obtain ⟨_, A', c', ev, _, _, hcell⟩ := RN1.out
        injection ev with ev1 ev2 ev3
        rw [← ev1] at hcell
        clear ev1 ev2 ev3
        have HC := Lib.hid hcell
        rw [← hn] at n1
        clear hcell hn k1
        go_wp2_with fail
        rw [← HN.out]
        go_loopw [27] (fun i wr => ∃ k : Nat, k ≤ n ∧ i = .int .i64 k ∧ (∀ j, j < k → nameGood r.names j = true) ∧ Below w1.heap.size w1 wr) (fun i _ => n - (intOf i).toNat)
        case atStart => exact ⟨0, Nat.zero_le _, rfl, fun j h => absurd h (by omega), Below.refl _ _⟩
        case round =>
          obtain ⟨k, hk, rfl, hok, hbr⟩ := hrel
          have HO := Lib.hid hok
          clear hok
          by_cases hlt : k < n
          · have hkl : k < r.names.length := by rw [← HN.out]; exact hlt
            obtain ⟨b, off, rfl, hc⟩ := HC.out (by rw [cS_len]; omega)
            have hx := hc k _ (cS_at hkl)
            have hx1 := (hbr.cell (World.block_lt_of_cell? w1 _ hx)).trans hx
            have hfr := (RN1.out.below hbr).front (a := k) (c' := cn) (by omega) (by omega) HLN.out
            rw [Nat.mul_one, ← cS_take] at hfr
            have htl : (r.names.take k).length = k := by rw [List.length_take]; omega
            obtain ⟨s, hs⟩ : ∃ s, s = r.names[k] := ⟨_, rfl⟩
            have hg := nameGood_at hkl
            rw [← hs] at hx1 hg
            obtain ⟨J, hJ⟩ : ∃ I, I = isName s.data.toList := ⟨_, rfl⟩
            obtain ⟨T, hT⟩ : ∃ T, T = hasText (r.names.take k) s := ⟨_, rfl⟩
            have c1 := fun w => i_IsName s w
            have c2 := fun w (h : Rd w (.slice (some ⟨b, off, none⟩) k cn) 1 (r.names.take k).length (cS (r.names.take k))) => i_ContainsText (.slice (some ⟨b, off, none⟩) k cn) (r.names.take k) s w h
            rw [← hJ] at c1 hg
            rw [← hT] at c2 hg
            have C1 := Lib.hid c1
            have C2 := Lib.hid (fun w (h : Rd w (.slice (some ⟨b, off, none⟩) k cn) 1 k (cS (r.names.take k))) => c2 w (by rw [htl]; exact h))
            have HFR := Lib.hid hfr
            have XR := Lib.hid (X1.out.below hbr)
            have HB := Lib.hid (Below.then_ B1.out hbr (Nat.le_refl _))
            have HBR := Lib.hid hbr
            have HG := Lib.hid hg
            have hkc : (k : Int) ≤ (cn : Int) := by omega
            clear hx hfr htl hs hg hJ hT c1 c2 hbr hc
            go_wp2_with fail
            refine (C1.out _).mono ?_
            rintro e w2 ⟨rfl, hb2⟩
            have n2 : w2.cell? ⟨w.heap.size, 5, none⟩ = some (.slice (some ⟨b, off, none⟩) n cn) := by rw [HN.out]; exact (XR.out.below hb2).cell 5
            have HF2 := Lib.hid (HFR.out.below hb2)
            have HB2 := Lib.hid (Below.then_ HB.out hb2 (Nat.le_refl _))
            have HBR2 := Lib.hid (Below.then_ HBR.out hb2 (Nat.le_refl _))
            clear hb2 hx1
            cases J
            · have hfin : Hid (false = F) := by show _ = _; rw [HF.out]; exact (namesGood_bad hkl (by rw [HG.out]; rfl)).symm
              go_wp2_with fail
              go_ret
              exact ⟨ret_bool (by rw [← hfin.out, hq.out]; rfl), HB2.out⟩
            · go_wp2_with fail
              refine (C2.out _ HF2.out).mono ?_
              rintro e w3 ⟨rfl, rfl⟩
              cases T
              · have hall : Hid (∀ j, j < k + 1 → nameGood r.names j = true) := by
                  intro j hj
                  rcases Nat.lt_or_ge j k with h1 | h1
                  · exact HO.out j h1
                  · obtain rfl : j = k := by omega
                    rw [HG.out]; rfl
                go_wp2_with fail
                go_roundw
                case rel => exact ⟨k + 1, by omega, by go_num, hall.out, HBR2.out⟩
                case measure => simp [intOf]; omega
              · have hfin : Hid (false = F) := by show _ = _; rw [HF.out]; exact (namesGood_bad hkl (by rw [HG.out]; rfl)).symm
                go_wp2_with fail
                go_ret
                exact ⟨ret_bool (by rw [← hfin.out, hq.out]; rfl), HB2.out⟩
          · obtain rfl : k = n := by omega
            have hfin : Hid (F = true) := by show _ = _; rw [HF.out]; exact namesGood_all (fun j hj => HO.out j (by rw [HN.out]; exact hj))
            have HB := Lib.hid (Below.then_ B1.out hbr (Nat.le_refl _))
            clear hbr
            go_wp2_with fail
            go_ret
            exact ⟨ret_bool (by rw [hfin.out, hq.out]; rfl), HB.out⟩
    · have e1 : ((r.kids.length : Int) == (r.names.length : Int)) = false := by rw [beq_eq_false_iff_ne]; omega
      have e2 : ((r.kids.length : Int) != (r.names.length : Int)) = true := by rw [bne_iff_ne]; omega
      have hq : Hid (Q = false) := by show _ = _; rw [HQ.out]; exact decide_eq_false hkn
      clear hkn
      go_wp2_with fail
      go_ret
      exact ⟨ret_bool (by rw [hq.out]; rfl), B1.out⟩

end Go.Proofs.Ytcegbilfcblhfaa
