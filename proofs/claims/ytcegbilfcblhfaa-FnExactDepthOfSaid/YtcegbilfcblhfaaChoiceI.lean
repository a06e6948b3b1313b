/-
  validChoice of the program.
-/
import Derived.Test.YtcegbilfcblhfaaTagsS
namespace Go.Proofs.Ytcegbilfcblhfaa
open Go.RowKit
set_option linter.unusedVariables false

set_option maxRecDepth 100000 in
set_option maxHeartbeats 8000000 in
theorem i_validChoice (d : Value) (ll : List RuleD) (r : RuleD) (vb vn vt vk : Value) (hf : ∀ x ∈ r.kids, fits x) (hts : r.tags.length ≤ 1048576) (w : World) (hd : RdDesc w d ll) (h : RdRule w (ruleCells r vb vn vt vk) r) :
    Calls Try.prog 89 #[d, .agg #[.string r.name, .int .i64 r.kind, .int .i64 r.size, .bool r.little, vb, vn, vt, vk]] w
      fun e w' => e = .returned (.bool (decide (r.size = 0 ∧ r.bytes.length = 0 ∧ r.names.length = 0 ∧ (r.kids.length : Int) = (r.tags.length : Int) + 1) && (inR r.tags.length 1 8 && (tagsGood r.tags (limitL ll (r.kids.getD 0 0)) && decide (0 < limitL ll (r.kids.getD 0 0)))))) ∧ Below w.heap.size w w' := by
  obtain ⟨v, rfl, hv⟩ := hd
  obtain ⟨⟨Ab, cb, rfl, lb1, lb2⟩, ⟨An, cn, rfl, ln1, ln2⟩, ⟨At, ct, rfl, lt1, lt2⟩, ⟨Ak, ck, rfl, lk1, lk2⟩⟩ := rule_forms h
  unfold maxLen at lb2 ln2 lt2 lk2
  obtain ⟨w0, hw0⟩ : ∃ w0, w0 = (w.alloc (.cells #[v] 29)).alloc (.cells #[.string r.name, .int .i64 r.kind, .int .i64 r.size, .bool r.little, .slice Ab r.bytes.length cb, .slice An r.names.length cn, .slice At r.tags.length ct, .slice Ak r.kids.length ck] 56) := ⟨_, rfl⟩
  have b0 : Below w.heap.size w w0 := by rw [hw0]; exact below_box.alloc (by simp) _
  have d0 : Box w0 w.heap.size 29 #[v] := by rw [hw0]; exact (Box.new _ _ _).alloc _
  have x0 : Box w0 (w.heap.size + 1) 56 #[.string r.name, .int .i64 r.kind, .int .i64 r.size, .bool r.little, .slice Ab r.bytes.length cb, .slice An r.names.length cn, .slice At r.tags.length ct, .slice Ak r.kids.length ck] := by
    rw [hw0]
    have := Box.new (w.alloc (.cells #[v] 29)) 56 #[.string r.name, .int .i64 r.kind, .int .i64 r.size, .bool r.little, .slice Ab r.bytes.length cb, .slice An r.names.length cn, .slice At r.tags.length ct, .slice Ak r.kids.length ck]
    rwa [show (w.alloc (.cells #[v] 29)).heap.size = w.heap.size + 1 from by simp] at this
  have RT := Lib.hid ((rdRule_parts h).2.2.1.below b0)
  have RK := Lib.hid ((rdRule_parts h).2.2.2.below b0)
  have HV := Lib.hid (hv.below b0)
  have X0 := Lib.hid x0
  have D0 := Lib.hid d0
  have B0 := Lib.hid b0
  have W0 := Lib.hid hw0
  have k0 : w0.cell? ⟨w.heap.size + 1, 7, none⟩ = some (.slice Ak r.kids.length ck) := x0.cell 7
  have t0 : w0.cell? ⟨w.heap.size + 1, 6, none⟩ = some (.slice At r.tags.length ct) := x0.cell 6
  have pl := i_plainTagsK r _ _ _ _ ((r.tags.length : Int) + 1) (by omega) w0 (h.below b0)
  obtain ⟨Q, hQ⟩ : ∃ Q, Q = decide (r.size = 0 ∧ r.bytes.length = 0 ∧ r.names.length = 0 ∧ (r.kids.length : Int) = (r.tags.length : Int) + 1) := ⟨_, rfl⟩
  rw [← hQ] at pl
  have PL := Lib.hid pl
  clear pl
  obtain ⟨I, hI⟩ : ∃ I, I = inR r.tags.length 1 8 := ⟨_, rfl⟩
  obtain ⟨M, hM⟩ : ∃ M, M = limitL ll (r.kids.getD 0 0) := ⟨_, rfl⟩
  obtain ⟨F, hF⟩ : ∃ F, F = tagsGood r.tags M := ⟨_, rfl⟩
  have ir := fun w => i_In (r.tags.length : Int) 1 8 w
  rw [← hI] at ir ⊢
  rw [← hQ, ← hM, ← hF]
  have IR := Lib.hid ir
  have HF := Lib.hid hF
  have HQ := Lib.hid hQ
  have HM := Lib.hid hM
  have HFIT := Lib.hid hf
  clear h hv x0 d0 b0 hw0 hI hF hQ hM ir hf
  go_enter Try.func89, Try.ntmps89
  go_wp2_with fail
  rw [← W0.out]
  refine PL.out.mono ?_
  rintro e w1 ⟨rfl, hb1⟩
  have X1 := Lib.hid (X0.out.below hb1)
  have D1 := Lib.hid (D0.out.below hb1)
  have B1 := Lib.hid (Below.then_ B0.out hb1 (Nat.le_refl _))
  have RT1 := Lib.hid (RT.out.below hb1)
  have RK1 := Lib.hid (RK.out.below hb1)
  have HV1 := Lib.hid (HV.out.below hb1)
  have k1 : w1.cell? ⟨w.heap.size + 1, 7, none⟩ = some (.slice Ak r.kids.length ck) := X1.out.cell 7
  have t1 : w1.cell? ⟨w.heap.size + 1, 6, none⟩ = some (.slice At r.tags.length ct) := X1.out.cell 6
  clear hb1 k0 t0
  cases Q
  · go_wp2_with fail
    go_ret
    exact ⟨rfl, B1.out⟩
  · have hkn : r.kids.length = r.tags.length + 1 := by
      have := of_decide_eq_true HQ.out.symm
      omega
    have HKN := Lib.hid hkn
    clear hkn
    go_wp2_with fail
    refine (IR.out _).mono ?_
    rintro e w2 ⟨rfl, hww⟩
    subst hww
    cases I
    · go_wp2_with fail
      go_ret
      exact ⟨rfl, B1.out⟩
    · have hkpos : 0 < r.kids.length := by have := HKN.out; omega
      obtain ⟨bk, ok, rfl, hkid⟩ := kids_cell RK1.out rfl (show (0 : Int) ≤ 0 by omega) (by omega)
      obtain ⟨kid, hkid0⟩ : ∃ kid, kid = r.kids.getD 0 0 := ⟨_, rfl⟩
      have hk1 : w1.cell? ⟨bk, ok, none⟩ = some (.int .i64 kid) := by rw [hkid0]; exact hkid
      have hfit : fits kid := by
        rw [hkid0]
        have : r.kids.getD 0 0 = r.kids[0] := by simp [List.getD, hkpos]
        rw [this]
        exact HFIT.out _ (List.getElem_mem hkpos)
      have il := fun w h => i_IntegerLimit (.agg #[v]) ll kid hfit w h
      rw [hkid0, ← HM.out] at il
      rw [← hkid0] at il
      have L1 := Lib.hid (fun x : Later w1 => Calls.later (il x.world ⟨_, rfl, HV1.out.below x.below⟩))
      have hkp : (0 : Int) < (r.kids.length : Int) := by omega
      have d1 : w1.cell? ⟨w.heap.size, 0, none⟩ = some v := D1.out.cell 0
      have la := later_cell k1
      have lb := later_cell d1
      have lc := later_cell hk1
      clear hkid hk1 hfit il hkid0
      go_wp2_with fail
      refine wp_region_later (by kernel_rfl) (by kernel_rfl) ?_
      repeat (go_big_quiet_step ((go_at_call 25; with_reducible exact L1.out _)))
      refine wpQuiet_nil ?_
      intro w2 hb2
      have X2 := Lib.hid (X1.out.below hb2)
      have B2 := Lib.hid (Below.then_ B1.out hb2 (Nat.le_refl _))
      have RT2 := Lib.hid (RT1.out.below hb2)
      have t2 : w2.cell? ⟨w.heap.size + 1, 6, none⟩ = some (.slice At r.tags.length ct) := X2.out.cell 6
      obtain ⟨n, hn⟩ : ∃ n, n = r.tags.length := ⟨_, rfl⟩
      have HN := Lib.hid hn
      rw [← hn] at t2
      clear hn la lb lc d1 k1 t1 hb2
      go_wp2_with fail
      go_loopw [31] (fun i wr => ∃ k : Nat, k ≤ n ∧ i = .int .i64 k ∧ (∀ j, j < k → tagGood r.tags M j = true) ∧ wr = w2) (fun i _ => n - (intOf i).toNat)
      case atStart => exact ⟨0, Nat.zero_le _, rfl, fun j h => absurd h (by omega), rfl⟩
      case round =>
        obtain ⟨k, hk, rfl, hok, rfl⟩ := hrel
        have HO := Lib.hid hok
        clear hok
        by_cases hlt : k < n
        · have hkl : k < r.tags.length := by rw [← HN.out]; exact hlt
          obtain ⟨bt, ot, eA, hct⟩ : ∃ bt ot, At = some ⟨bt, ot, none⟩ ∧ ∀ j (h : j < r.tags.length), wr.cell? ⟨bt, ot + j, none⟩ = some (.int .i64 r.tags[j]) := by
            obtain ⟨_, A9, c9, ev, _, _, hc9⟩ := RT2.out
            injection ev with ev1 _ _
            obtain ⟨b9, o9, eb, hc⟩ := hc9 (by rw [cI_len]; omega)
            exact ⟨b9, o9, by rw [ev1, eb], fun j h => hc j _ (cI_at h)⟩
          subst eA
          have hx1 := hct k hkl
          have hg := tagGood_at (lim := M) hkl
          obtain ⟨t, ht⟩ : ∃ t, t = r.tags[k] := ⟨_, rfl⟩
          rw [← ht] at hx1 hg
          obtain ⟨J, hJ⟩ : ∃ J, J = inR t 0 M := ⟨_, rfl⟩
          have c2 := fun w => i_In t 0 M w
          rw [← hJ] at c2 hg
          have C2 := Lib.hid c2
          have HG := Lib.hid hg
          have HX := Lib.hid hct
          clear hg hJ c2 hct ht
          go_wp2_with fail
          refine (C2.out _).mono ?_
          rintro e w3 ⟨rfl, hww⟩
          subst hww
          cases J
          · have hfin : Hid (false = F) := by show _ = _; rw [HF.out]; exact (tagsGood_bad hkl (by rw [HG.out]; rfl)).symm
            go_wp2_with fail
            go_ret
            exact ⟨ret_bool (by rw [← hfin.out]; rfl), B2.out⟩
          · by_cases hk00 : k = 0
            · have dk : decide ((0 : Int) < (k : Int)) = false := by simp; omega
              have dkn : decide (0 < k) = false := by simp; omega
              have hall : Hid (∀ j, j < k + 1 → tagGood r.tags M j = true) := by
                intro j hj
                rcases Nat.lt_or_ge j k with h1 | h1
                · exact HO.out j h1
                · obtain rfl : j = k := by omega
                  rw [HG.out, decide_eq_true hk00]; rfl
              clear hk00
              go_wp2_with fail
              go_roundw
              case rel => exact ⟨k + 1, by omega, by go_num, hall.out, by first | rfl | trivial⟩
              case measure => simp [intOf]; omega
            · have dk : decide ((0 : Int) < (k : Int)) = true := by simp; omega
              have dkn : decide (0 < k) = true := by simp; omega
              have hk1l : k - 1 < r.tags.length := by omega
              have hxp := HX.out (k - 1) hk1l
              have hgd : r.tags.getD (k - 1) 0 = r.tags[k - 1] := by simp [List.getD, hk1l]
              have hg2 := HG.out
              rw [hgd, decide_eq_false hk00] at hg2
              obtain ⟨tp, htp⟩ : ∃ tp, tp = r.tags[k - 1] := ⟨_, rfl⟩
              rw [← htp] at hxp hg2
              have HG2 := Lib.hid hg2
              have hkn1 : ((k : Int) - 1).toNat = k - 1 := by omega
              have hk1i : (0 : Int) ≤ (k : Int) - 1 := by omega
              have hk2i : (k : Int) - 1 < (n : Int) := by omega
              clear hgd hg2 htp
              by_cases hge : t ≤ tp
              · have dg : decide (t ≤ tp) = true := by simpa using hge
                have hfin : Hid (false = F) := by show _ = _; rw [HF.out]; exact (tagsGood_bad hkl (by rw [HG2.out, decide_eq_false (by omega)]; rfl)).symm
                clear hge hk00
                go_wp2_with fail
                go_ret
                exact ⟨ret_bool (by rw [← hfin.out]; rfl), B2.out⟩
              · have dg : decide (t ≤ tp) = false := by simpa using hge
                have hdt : Hid (decide (tp < t) = true) := by show _ = _; simp; omega
                have hall : Hid (∀ j, j < k + 1 → tagGood r.tags M j = true) := by
                  intro j hj
                  rcases Nat.lt_or_ge j k with h1 | h1
                  · exact HO.out j h1
                  · obtain rfl : j = k := by omega
                    rw [HG2.out, hdt.out]; rfl
                clear hge hk00
                go_wp2_with fail
                go_roundw
                case rel => exact ⟨k + 1, by omega, by go_num, hall.out, by first | rfl | trivial⟩
                case measure => simp [intOf]; omega
        · obtain rfl : k = n := by omega
          have hfin : Hid (F = true) := by show _ = _; rw [HF.out]; exact tagsGood_all (fun j hj => HO.out j (by rw [HN.out]; exact hj))
          go_wp2_with fail
          go_ret
          exact ⟨ret_bool (by rw [hfin.out]; rfl), B2.out⟩

end Go.Proofs.Ytcegbilfcblhfaa
