/-
  Several texts in one: TagsS, ChoiceI, Names, SeqI.
-/
import Derived.Test.YtkjjgpkegihmhaaGreatDoorPlain
import Derived.Test.YtkjjgpkegihmhaaGreatDoorGB
import Derived.Test.YtkjjgpkegihmhaaGreatDoorGA
namespace Go.Proofs.YtkjjgpkegihmhaaGreatDoor
open Go.RowKit
set_option linter.unusedVariables false

def tagGood (l : List Int) (lim : Int) (j : Nat) : Bool := match l[j]? with | some t => inR t 0 lim && (decide (j = 0) || decide (l.getD (j - 1) 0 < t)) | none => true
def tagsGood (l : List Int) (lim : Int) : Bool := (List.range l.length).all (tagGood l lim)
theorem tagGood_at {l : List Int} {lim : Int} {k : Nat} (h : k < l.length) : tagGood l lim k = (inR l[k] 0 lim && (decide (k = 0) || decide (l.getD (k - 1) 0 < l[k]))) := by
  unfold tagGood; rw [List.getElem?_eq_getElem h]
theorem tagsGood_all {l : List Int} {lim : Int} (h : ∀ j, j < l.length → tagGood l lim j = true) : tagsGood l lim = true := by
  unfold tagsGood
  rw [List.all_eq_true]
  intro j hj
  exact h j (List.mem_range.1 hj)
theorem tagsGood_bad {l : List Int} {lim : Int} {k : Nat} (hk : k < l.length) (h : tagGood l lim k = false) : tagsGood l lim = false := by
  unfold tagsGood
  rw [List.all_eq_false]
  exact ⟨k, List.mem_range.2 hk, by simp [h]⟩

set_option maxRecDepth 100000 in
set_option maxHeartbeats 8000000 in
theorem s_l4Tags (d : Value) (ll : List RuleD) (r : RuleD) (vb vn vt vk : Value) (hf : ∀ x ∈ r.kids, fits x) (hts : r.tags.length ≤ 1048576) (w : World) (hd : RdDesc w d ll) (h : RdRule w (ruleCells r vb vn vt vk) r) :
    Calls Tryz.prog 135 #[d, .agg #[.string r.name, .int .i64 r.kind, .int .i64 r.size, .bool r.little, vb, vn, vt, vk]] w
      fun e w' => e = .returned (.bool (decide (r.kids.length = r.tags.length + 1) && (inR r.tags.length 1 8 && tagsGood r.tags (limitL ll (r.kids.getD 0 0))))) ∧ Below w.heap.size w w' := by
  obtain ⟨v, rfl, hv⟩ := hd
  obtain ⟨⟨Ab, cb, rfl, lb1, lb2⟩, ⟨An, cn, rfl, ln1, ln2⟩, ⟨At, ct, rfl, lt1, lt2⟩, ⟨Ak, ck, rfl, lk1, lk2⟩⟩ := rule_forms h
  unfold maxLen at lb2 ln2 lt2 lk2
  obtain ⟨w0, hw0⟩ : ∃ w0, w0 = (w.alloc (.cells #[v] 35)).alloc (.cells #[.string r.name, .int .i64 r.kind, .int .i64 r.size, .bool r.little, .slice Ab r.bytes.length cb, .slice An r.names.length cn, .slice At r.tags.length ct, .slice Ak r.kids.length ck] 30) := ⟨_, rfl⟩
  have b0 : Below w.heap.size w w0 := by rw [hw0]; exact below_box.alloc (by simp) _
  have d0 : Box w0 w.heap.size 35 #[v] := by rw [hw0]; exact (Box.new _ _ _).alloc _
  have x0 : Box w0 (w.heap.size + 1) 30 #[.string r.name, .int .i64 r.kind, .int .i64 r.size, .bool r.little, .slice Ab r.bytes.length cb, .slice An r.names.length cn, .slice At r.tags.length ct, .slice Ak r.kids.length ck] := by
    rw [hw0]
    have := Box.new (w.alloc (.cells #[v] 35)) 30 #[.string r.name, .int .i64 r.kind, .int .i64 r.size, .bool r.little, .slice Ab r.bytes.length cb, .slice An r.names.length cn, .slice At r.tags.length ct, .slice Ak r.kids.length ck]
    rwa [show (w.alloc (.cells #[v] 35)).heap.size = w.heap.size + 1 from by simp] at this
  have RT := Lib.hid ((rdRule_parts h).2.2.1.below b0)
  have RK := Lib.hid ((rdRule_parts h).2.2.2.below b0)
  have HV := Lib.hid (hv.below b0)
  have X0 := Lib.hid x0
  have D0 := Lib.hid d0
  have B0 := Lib.hid b0
  have W0 := Lib.hid hw0
  have k0 : w0.cell? ⟨w.heap.size + 1, 7, none⟩ = some (.slice Ak r.kids.length ck) := x0.cell 7
  have t0 : w0.cell? ⟨w.heap.size + 1, 6, none⟩ = some (.slice At r.tags.length ct) := x0.cell 6
  obtain ⟨Q, hQ⟩ : ∃ Q, Q = decide (r.kids.length = r.tags.length + 1) := ⟨_, rfl⟩
  obtain ⟨I, hI⟩ : ∃ I, I = inR r.tags.length 1 8 := ⟨_, rfl⟩
  obtain ⟨M, hM⟩ : ∃ M, M = limitL ll (r.kids.getD 0 0) := ⟨_, rfl⟩
  obtain ⟨F, hF⟩ : ∃ F, F = tagsGood r.tags M := ⟨_, rfl⟩
  have ir := fun w => s_In (r.tags.length : Int) 1 8 w
  rw [← hI] at ir ⊢
  rw [← hQ, ← hM, ← hF]
  have IR := Lib.hid ir
  have HF := Lib.hid hF
  have HQ := Lib.hid hQ
  have HM := Lib.hid hM
  have HFIT := Lib.hid hf
  clear h hv x0 d0 b0 hw0 hI hF hQ hM ir hf
  go_enter Tryz.func135, Tryz.ntmps135
  by_cases hkn : r.kids.length = r.tags.length + 1
  · have e1 : ((r.kids.length : Int) == (r.tags.length : Int) + 1) = true := by rw [beq_iff_eq]; omega
    have e2 : ((r.kids.length : Int) != (r.tags.length : Int) + 1) = false := by simp [hkn]
    have hq : Hid (Q = true) := by show _ = _; rw [HQ.out]; exact decide_eq_true hkn
    have hkpos : 0 < r.kids.length := by omega
    have e3 : (r.kids.length : Int) = (r.tags.length : Int) + 1 := by omega
    clear hkn
    go_wp2_with fail
    rw [← W0.out]
    refine (IR.out _).mono ?_
    rintro e w1 ⟨rfl, hww⟩
    subst hww
    cases I
    · go_wp2_with fail
      go_ret
      exact ⟨ret_bool (by rw [hq.out]; rfl), B0.out⟩
    · obtain ⟨n, hn⟩ : ∃ n, n = r.tags.length := ⟨_, rfl⟩
      have HN := Lib.hid hn
      obtain ⟨bk, ok, rfl, hkid⟩ := kids_cell RK.out rfl (show (0 : Int) ≤ 0 by omega) (by omega)
      obtain ⟨kid, hkid0⟩ : ∃ kid, kid = r.kids.getD 0 0 := ⟨_, rfl⟩
      have hk1 : w0.cell? ⟨bk, ok, none⟩ = some (.int .i64 kid) := by rw [hkid0]; exact hkid
      have hfit : fits kid := by
        rw [hkid0]
        have : r.kids.getD 0 0 = r.kids[0] := by simp [List.getD, hkpos]
        rw [this]
        exact HFIT.out _ (List.getElem_mem hkpos)
      have il := fun w h => s_IntegerLimit (.agg #[v]) ll kid hfit w h
      rw [hkid0, ← HM.out] at il
      rw [← hkid0] at il
      have IL := Lib.hid il
      have HK1 := Lib.hid hk1
      rw [← hn] at t0 e1 e2 e3
      clear hn hkid hk1 hfit il k0 hkid0
      go_wp2_with fail
      go_loopw [5] (fun i wr => ∃ k : Nat, k ≤ n ∧ i = .int .i64 k ∧ (∀ j, j < k → tagGood r.tags M j = true) ∧ Below w0.heap.size w0 wr) (fun i _ => n - (intOf i).toNat)
      case atStart => exact ⟨0, Nat.zero_le _, rfl, fun j h => absurd h (by omega), Below.refl _ _⟩
      case round =>
        obtain ⟨k, hk, rfl, hok, hbr⟩ := hrel
        have HO := Lib.hid hok
        have tr : wr.cell? ⟨w.heap.size + 1, 6, none⟩ = some (.slice At n ct) := cell_after t0 hbr
        clear hok
        by_cases hlt : k < n
        · have hkl : k < r.tags.length := by rw [← HN.out]; exact hlt
          obtain ⟨bt, ot, eA, hct⟩ : ∃ bt ot, At = some ⟨bt, ot, none⟩ ∧ ∀ j (h : j < r.tags.length), w0.cell? ⟨bt, ot + j, none⟩ = some (.int .i64 r.tags[j]) := by
            obtain ⟨_, A9, c9, ev, _, _, hc9⟩ := RT.out
            injection ev with ev1 _ _
            obtain ⟨b9, o9, eb, hc⟩ := hc9 (by rw [cI_len]; omega)
            exact ⟨b9, o9, by rw [ev1, eb], fun j h => hc j _ (cI_at h)⟩
          subst eA
          have hx1 := cell_after (hct k hkl) hbr
          have kr : wr.cell? ⟨w.heap.size + 1, 7, none⟩ = some (.slice (some ⟨bk, ok, none⟩) r.kids.length ck) := (X0.out.below hbr).cell 7
          have dr : wr.cell? ⟨w.heap.size, 0, none⟩ = some v := (D0.out.below hbr).cell 0
          have kk : wr.cell? ⟨bk, ok, none⟩ = some (.int .i64 kid) := cell_after HK1.out hbr
          have hg := tagGood_at (lim := M) hkl
          obtain ⟨t, ht⟩ : ∃ t, t = r.tags[k] := ⟨_, rfl⟩
          rw [← ht] at hx1 hg
          obtain ⟨J, hJ⟩ : ∃ J, J = inR t 0 M := ⟨_, rfl⟩
          have c2 := fun w => s_In t 0 M w
          rw [← hJ] at c2 hg
          have L1 := Lib.hid (fun x : Later wr => Calls.later (IL.out x.world ⟨_, rfl, (HV.out.below hbr).below x.below⟩))
          have L2 := Lib.hid (fun x : Later wr => Calls.later_same (c2 x.world))
          have HB := Lib.hid (Below.then_ B0.out hbr (Nat.le_refl _))
          have HBR := Lib.hid hbr
          have HG := Lib.hid hg
          have la := later_cell hx1
          have lb := later_cell kr
          have lc := later_cell dr
          have ld := later_cell kk
          have le := later_cell tr
          have hlti : (k : Int) < (n : Int) := by omega
          have hk0 : (0 : Int) ≤ (k : Int) := by omega
          have HX := Lib.hid (fun j h => cell_after (hct j h) hbr)
          have hkp : (0 : Int) < (r.kids.length : Int) := by omega
          clear e3 hx1 kr dr kk hg hJ c2 hbr hct ht
          cases J
          · have hfin : Hid (false = F) := by show _ = _; rw [HF.out]; exact (tagsGood_bad hkl (by rw [HG.out]; rfl)).symm
            go_wp2_with fail
            refine wp_region_later (by kernel_rfl) (by kernel_rfl) ?_
            repeat (go_big_quiet_step (first | (go_at_call 133; with_reducible exact L1.out _) | (go_at_call 68; with_reducible exact L2.out _)))
            refine wpQuiet_nil ?_
            intro w2 hb2
            have HBZ := Lib.hid (Below.then_ HB.out hb2 (Nat.le_refl _))
            clear hb2 la lb lc ld le tr
            go_wp2_with fail
            go_ret
            exact ⟨ret_bool (by rw [← hfin.out, hq.out]; rfl), HBZ.out⟩
          · by_cases hk00 : k = 0
            · have dk : decide ((0 : Int) < (k : Int)) = false := by simp; omega
              have dkn : decide (0 < k) = false := by simp; omega
              have hall : Hid (∀ j, j < k + 1 → tagGood r.tags M j = true) := by
                intro j hj
                rcases Nat.lt_or_ge j k with h1 | h1
                · exact HO.out j h1
                · obtain rfl : j = k := by omega
                  rw [HG.out]
                  rw [decide_eq_true hk00]; rfl
              clear hk00
              go_wp2_with fail
              refine wp_region_later (by kernel_rfl) (by kernel_rfl) ?_
              repeat (go_big_quiet_step (first | (go_at_call 133; with_reducible exact L1.out _) | (go_at_call 68; with_reducible exact L2.out _)))
              refine wpQuiet_nil ?_
              intro w2 hb2
              have HBZ := Lib.hid (Below.then_ HB.out hb2 (Nat.le_refl _))
              have HBY := Lib.hid (Below.then_ HBR.out hb2 (Nat.le_refl _))
              clear hb2 la lb lc ld le tr
              go_wp2_with fail
              go_roundw
              case rel => exact ⟨k + 1, by omega, by go_num, hall.out, HBY.out⟩
              case measure => simp [intOf]; omega
            · have dk : decide ((0 : Int) < (k : Int)) = true := by simp; omega
              have dkn : decide (0 < k) = true := by simp; omega
              have hk1l : k - 1 < r.tags.length := by omega
              have hxp := HX.out (k - 1) hk1l
              have hgd : r.tags.getD (k - 1) 0 = r.tags[k - 1] := by simp [List.getD, hk1l]
              have hg2 := HG.out
              rw [hgd, decide_eq_false hk00] at hg2
              obtain ⟨tp, htp⟩ : ∃ tp, tp = r.tags[k - 1] := ⟨_, rfl⟩
              rw [← htp] at hxp hg2
              have HG2 := Lib.hid hg2
              have lf := later_cell hxp
              have hkn1 : ((k : Int) - 1).toNat = k - 1 := by omega
              have hk1i : (0 : Int) ≤ (k : Int) - 1 := by omega
              have hk2i : (k : Int) - 1 < (n : Int) := by omega
              clear hxp hgd hg2 htp
              by_cases hge : t ≤ tp
              · have dg : decide (t ≤ tp) = true := by simpa using hge
                have hfin : Hid (false = F) := by show _ = _; rw [HF.out]; exact (tagsGood_bad hkl (by rw [HG2.out, decide_eq_false (by omega)]; rfl)).symm
                clear hge hk00
                go_wp2_with fail
                refine wp_region_later (by kernel_rfl) (by kernel_rfl) ?_
                repeat (go_big_quiet_step (first | (go_at_call 133; with_reducible exact L1.out _) | (go_at_call 68; with_reducible exact L2.out _)))
                refine wpQuiet_nil ?_
                intro w2 hb2
                have HBZ := Lib.hid (Below.then_ HB.out hb2 (Nat.le_refl _))
                have HBY := Lib.hid (Below.then_ HBR.out hb2 (Nat.le_refl _))
                clear hb2 la lb lc ld le lf tr
                go_wp2_with fail
                go_ret
                exact ⟨ret_bool (by rw [← hfin.out, hq.out]; rfl), HBZ.out⟩
              · have dg : decide (t ≤ tp) = false := by simpa using hge
                have hdt : Hid (decide (tp < t) = true) := by show _ = _; simp; omega
                have hall : Hid (∀ j, j < k + 1 → tagGood r.tags M j = true) := by
                  intro j hj
                  rcases Nat.lt_or_ge j k with h1 | h1
                  · exact HO.out j h1
                  · obtain rfl : j = k := by omega
                    rw [HG.out]
                    rw [← HG.out, HG2.out, hdt.out]; rfl
                clear hge hk00
                go_wp2_with fail
                refine wp_region_later (by kernel_rfl) (by kernel_rfl) ?_
                repeat (go_big_quiet_step (first | (go_at_call 133; with_reducible exact L1.out _) | (go_at_call 68; with_reducible exact L2.out _)))
                refine wpQuiet_nil ?_
                intro w2 hb2
                have HBZ := Lib.hid (Below.then_ HB.out hb2 (Nat.le_refl _))
                have HBY := Lib.hid (Below.then_ HBR.out hb2 (Nat.le_refl _))
                clear lf
                clear hb2 la lb lc ld le tr
                go_wp2_with fail
                go_roundw
                case rel => exact ⟨k + 1, by omega, by go_num, hall.out, HBY.out⟩
                case measure => simp [intOf]; omega
        · obtain rfl : k = n := by omega
          have hfin : Hid (F = true) := by show _ = _; rw [HF.out]; exact tagsGood_all (fun j hj => HO.out j (by rw [HN.out]; exact hj))
          have HB := Lib.hid (Below.then_ B0.out hbr (Nat.le_refl _))
          clear hbr
          go_wp2_with fail
          go_ret
          exact ⟨ret_bool (by rw [hfin.out, hq.out]; rfl), HB.out⟩
  · have e1 : ((r.kids.length : Int) == (r.tags.length : Int) + 1) = false := by rw [beq_eq_false_iff_ne]; omega
    have e2 : ((r.kids.length : Int) != (r.tags.length : Int) + 1) = true := by rw [bne_iff_ne]; omega
    have hq : Hid (Q = false) := by show _ = _; rw [HQ.out]; exact decide_eq_false hkn
    have e3 : ¬ ((r.kids.length : Int) = (r.tags.length : Int) + 1) := by omega
    have e4 : decide ((r.kids.length : Int) = (r.tags.length : Int) + 1) = false := by simpa using e3
    have e5 : (!decide ((r.kids.length : Int) = (r.tags.length : Int) + 1)) = true := by rw [e4]; rfl
    go_wp2_with fail
    rw [← W0.out]
    go_ret
    exact ⟨ret_bool (by rw [hq.out]; rfl), B0.out⟩

end Go.Proofs.YtkjjgpkegihmhaaGreatDoor

namespace Go.Proofs.YtkjjgpkegihmhaaGreatDoor
open Go.RowKit
set_option linter.unusedVariables false

set_option maxRecDepth 100000 in
set_option maxHeartbeats 8000000 in
theorem i_validChoice (d : Value) (ll : List RuleD) (r : RuleD) (vb vn vt vk : Value) (hf : ∀ x ∈ r.kids, fits x) (hts : r.tags.length ≤ 1048576) (w : World) (hd : RdDesc w d ll) (h : RdRule w (ruleCells r vb vn vt vk) r) :
    Calls Tryz.prog 142 #[d, .agg #[.string r.name, .int .i64 r.kind, .int .i64 r.size, .bool r.little, vb, vn, vt, vk]] w
      fun e w' => e = .returned (.bool (decide (r.size = 0 ∧ r.bytes.length = 0 ∧ r.names.length = 0 ∧ (r.kids.length : Int) = (r.tags.length : Int) + 1) && (inR r.tags.length 1 8 && (tagsGood r.tags (limitL ll (r.kids.getD 0 0)) && decide (0 < limitL ll (r.kids.getD 0 0)))))) ∧ Below w.heap.size w w' := by
  obtain ⟨v, rfl, hv⟩ := hd
  obtain ⟨⟨Ab, cb, rfl, lb1, lb2⟩, ⟨An, cn, rfl, ln1, ln2⟩, ⟨At, ct, rfl, lt1, lt2⟩, ⟨Ak, ck, rfl, lk1, lk2⟩⟩ := rule_forms h
  unfold maxLen at lb2 ln2 lt2 lk2
  obtain ⟨w0, hw0⟩ : ∃ w0, w0 = (w.alloc (.cells #[v] 35)).alloc (.cells #[.string r.name, .int .i64 r.kind, .int .i64 r.size, .bool r.little, .slice Ab r.bytes.length cb, .slice An r.names.length cn, .slice At r.tags.length ct, .slice Ak r.kids.length ck] 30) := ⟨_, rfl⟩
  have b0 : Below w.heap.size w w0 := by rw [hw0]; exact below_box.alloc (by simp) _
  have d0 : Box w0 w.heap.size 35 #[v] := by rw [hw0]; exact (Box.new _ _ _).alloc _
  have x0 : Box w0 (w.heap.size + 1) 30 #[.string r.name, .int .i64 r.kind, .int .i64 r.size, .bool r.little, .slice Ab r.bytes.length cb, .slice An r.names.length cn, .slice At r.tags.length ct, .slice Ak r.kids.length ck] := by
    rw [hw0]
    have := Box.new (w.alloc (.cells #[v] 35)) 30 #[.string r.name, .int .i64 r.kind, .int .i64 r.size, .bool r.little, .slice Ab r.bytes.length cb, .slice An r.names.length cn, .slice At r.tags.length ct, .slice Ak r.kids.length ck]
    rwa [show (w.alloc (.cells #[v] 35)).heap.size = w.heap.size + 1 from by simp] at this
  have RT := Lib.hid ((rdRule_parts h).2.2.1.below b0)
  have RK := Lib.hid ((rdRule_parts h).2.2.2.below b0)
  have HV := Lib.hid (hv.below b0)
  have X0 := Lib.hid x0
  have D0 := Lib.hid d0
  have B0 := Lib.hid b0
  have W0 := Lib.hid hw0
  have k0 : w0.cell? ⟨w.heap.size + 1, 7, none⟩ = some (.slice Ak r.kids.length ck) := x0.cell 7
  have t0 : w0.cell? ⟨w.heap.size + 1, 6, none⟩ = some (.slice At r.tags.length ct) := x0.cell 6
  have pl := i_plainTagsK r _ _ _ _ ((r.tags.length : Int) + 1) (by omega) w0 (h.below b0)
  obtain ⟨Q, hQ⟩ : ∃ Q, Q = decide (r.size = 0 ∧ r.bytes.length = 0 ∧ r.names.length = 0 ∧ (r.kids.length : Int) = (r.tags.length : Int) + 1) := ⟨_, rfl⟩
  rw [← hQ] at pl
  have PL := Lib.hid pl
  clear pl
  obtain ⟨I, hI⟩ : ∃ I, I = inR r.tags.length 1 8 := ⟨_, rfl⟩
  obtain ⟨M, hM⟩ : ∃ M, M = limitL ll (r.kids.getD 0 0) := ⟨_, rfl⟩
  obtain ⟨F, hF⟩ : ∃ F, F = tagsGood r.tags M := ⟨_, rfl⟩
  have ir := fun w => i_In (r.tags.length : Int) 1 8 w
  rw [← hI] at ir ⊢
  rw [← hQ, ← hM, ← hF]
  have IR := Lib.hid ir
  have HF := Lib.hid hF
  have HQ := Lib.hid hQ
  have HM := Lib.hid hM
  have HFIT := Lib.hid hf
  clear h hv x0 d0 b0 hw0 hI hF hQ hM ir hf
  go_enter Tryz.func142, Tryz.ntmps142
  go_wp2_with fail
  rw [← W0.out]
  refine PL.out.mono ?_
  rintro e w1 ⟨rfl, hb1⟩
  have X1 := Lib.hid (X0.out.below hb1)
  have D1 := Lib.hid (D0.out.below hb1)
  have B1 := Lib.hid (Below.then_ B0.out hb1 (Nat.le_refl _))
  have RT1 := Lib.hid (RT.out.below hb1)
  have RK1 := Lib.hid (RK.out.below hb1)
  have HV1 := Lib.hid (HV.out.below hb1)
  have k1 : w1.cell? ⟨w.heap.size + 1, 7, none⟩ = some (.slice Ak r.kids.length ck) := X1.out.cell 7
  have t1 : w1.cell? ⟨w.heap.size + 1, 6, none⟩ = some (.slice At r.tags.length ct) := X1.out.cell 6
  clear hb1 k0 t0
  cases Q
  · go_wp2_with fail
    go_ret
    exact ⟨rfl, B1.out⟩
  · have hkn : r.kids.length = r.tags.length + 1 := by
      have := of_decide_eq_true HQ.out.symm
      omega
    have HKN := Lib.hid hkn
    clear hkn
    go_wp2_with fail
    refine (IR.out _).mono ?_
    rintro e w2 ⟨rfl, hww⟩
    subst hww
    cases I
    · go_wp2_with fail
      go_ret
      exact ⟨rfl, B1.out⟩
    · have hkpos : 0 < r.kids.length := by have := HKN.out; omega
      obtain ⟨bk, ok, rfl, hkid⟩ := kids_cell RK1.out rfl (show (0 : Int) ≤ 0 by omega) (by omega)
      obtain ⟨kid, hkid0⟩ : ∃ kid, kid = r.kids.getD 0 0 := ⟨_, rfl⟩
      have hk1 : w1.cell? ⟨bk, ok, none⟩ = some (.int .i64 kid) := by rw [hkid0]; exact hkid
      have hfit : fits kid := by
        rw [hkid0]
        have : r.kids.getD 0 0 = r.kids[0] := by simp [List.getD, hkpos]
        rw [this]
        exact HFIT.out _ (List.getElem_mem hkpos)
      have il := fun w h => i_IntegerLimit (.agg #[v]) ll kid hfit w h
      rw [hkid0, ← HM.out] at il
      rw [← hkid0] at il
      have L1 := Lib.hid (fun x : Later w1 => Calls.later (il x.world ⟨_, rfl, HV1.out.below x.below⟩))
      have hkp : (0 : Int) < (r.kids.length : Int) := by omega
      have d1 : w1.cell? ⟨w.heap.size, 0, none⟩ = some v := D1.out.cell 0
      have la := later_cell k1
      have lb := later_cell d1
      have lc := later_cell hk1
      clear hkid hk1 hfit il hkid0
      go_wp2_with fail
      refine wp_region_later (by kernel_rfl) (by kernel_rfl) ?_
      repeat (go_big_quiet_step ((go_at_call 140; with_reducible exact L1.out _)))
      refine wpQuiet_nil ?_
      intro w2 hb2
      have X2 := Lib.hid (X1.out.below hb2)
      have B2 := Lib.hid (Below.then_ B1.out hb2 (Nat.le_refl _))
      have RT2 := Lib.hid (RT1.out.below hb2)
      have t2 : w2.cell? ⟨w.heap.size + 1, 6, none⟩ = some (.slice At r.tags.length ct) := X2.out.cell 6
      obtain ⟨n, hn⟩ : ∃ n, n = r.tags.length := ⟨_, rfl⟩
      have HN := Lib.hid hn
      rw [← hn] at t2
      clear hn la lb lc d1 k1 t1 hb2
      go_wp2_with fail
      go_loopw [31] (fun i wr => ∃ k : Nat, k ≤ n ∧ i = .int .i64 k ∧ (∀ j, j < k → tagGood r.tags M j = true) ∧ wr = w2) (fun i _ => n - (intOf i).toNat)
      case atStart => exact ⟨0, Nat.zero_le _, rfl, fun j h => absurd h (by omega), rfl⟩
      case round =>
        obtain ⟨k, hk, rfl, hok, rfl⟩ := hrel
        have HO := Lib.hid hok
        clear hok
        by_cases hlt : k < n
        · have hkl : k < r.tags.length := by rw [← HN.out]; exact hlt
          obtain ⟨bt, ot, eA, hct⟩ : ∃ bt ot, At = some ⟨bt, ot, none⟩ ∧ ∀ j (h : j < r.tags.length), wr.cell? ⟨bt, ot + j, none⟩ = some (.int .i64 r.tags[j]) := by
            obtain ⟨_, A9, c9, ev, _, _, hc9⟩ := RT2.out
            injection ev with ev1 _ _
            obtain ⟨b9, o9, eb, hc⟩ := hc9 (by rw [cI_len]; omega)
            exact ⟨b9, o9, by rw [ev1, eb], fun j h => hc j _ (cI_at h)⟩
          subst eA
          have hx1 := hct k hkl
          have hg := tagGood_at (lim := M) hkl
          obtain ⟨t, ht⟩ : ∃ t, t = r.tags[k] := ⟨_, rfl⟩
          rw [← ht] at hx1 hg
          obtain ⟨J, hJ⟩ : ∃ J, J = inR t 0 M := ⟨_, rfl⟩
          have c2 := fun w => i_In t 0 M w
          rw [← hJ] at c2 hg
          have C2 := Lib.hid c2
          have HG := Lib.hid hg
          have HX := Lib.hid hct
          clear hg hJ c2 hct ht
          go_wp2_with fail
          refine (C2.out _).mono ?_
          rintro e w3 ⟨rfl, hww⟩
          subst hww
          cases J
          · have hfin : Hid (false = F) := by show _ = _; rw [HF.out]; exact (tagsGood_bad hkl (by rw [HG.out]; rfl)).symm
            go_wp2_with fail
            go_ret
            exact ⟨ret_bool (by rw [← hfin.out]; rfl), B2.out⟩
          · by_cases hk00 : k = 0
            · have dk : decide ((0 : Int) < (k : Int)) = false := by simp; omega
              have dkn : decide (0 < k) = false := by simp; omega
              have hall : Hid (∀ j, j < k + 1 → tagGood r.tags M j = true) := by
                intro j hj
                rcases Nat.lt_or_ge j k with h1 | h1
                · exact HO.out j h1
                · obtain rfl : j = k := by omega
                  rw [HG.out, decide_eq_true hk00]; rfl
              clear hk00
              go_wp2_with fail
              go_roundw
              case rel => exact ⟨k + 1, by omega, by go_num, hall.out, by first | rfl | trivial⟩
              case measure => simp [intOf]; omega
            · have dk : decide ((0 : Int) < (k : Int)) = true := by simp; omega
              have dkn : decide (0 < k) = true := by simp; omega
              have hk1l : k - 1 < r.tags.length := by omega
              have hxp := HX.out (k - 1) hk1l
              have hgd : r.tags.getD (k - 1) 0 = r.tags[k - 1] := by simp [List.getD, hk1l]
              have hg2 := HG.out
              rw [hgd, decide_eq_false hk00] at hg2
              obtain ⟨tp, htp⟩ : ∃ tp, tp = r.tags[k - 1] := ⟨_, rfl⟩
              rw [← htp] at hxp hg2
              have HG2 := Lib.hid hg2
              have hkn1 : ((k : Int) - 1).toNat = k - 1 := by omega
              have hk1i : (0 : Int) ≤ (k : Int) - 1 := by omega
              have hk2i : (k : Int) - 1 < (n : Int) := by omega
              clear hgd hg2 htp
              by_cases hge : t ≤ tp
              · have dg : decide (t ≤ tp) = true := by simpa using hge
                have hfin : Hid (false = F) := by show _ = _; rw [HF.out]; exact (tagsGood_bad hkl (by rw [HG2.out, decide_eq_false (by omega)]; rfl)).symm
                clear hge hk00
                go_wp2_with fail
                go_ret
                exact ⟨ret_bool (by rw [← hfin.out]; rfl), B2.out⟩
              · have dg : decide (t ≤ tp) = false := by simpa using hge
                have hdt : Hid (decide (tp < t) = true) := by show _ = _; simp; omega
                have hall : Hid (∀ j, j < k + 1 → tagGood r.tags M j = true) := by
                  intro j hj
                  rcases Nat.lt_or_ge j k with h1 | h1
                  · exact HO.out j h1
                  · obtain rfl : j = k := by omega
                    rw [HG2.out, hdt.out]; rfl
                clear hge hk00
                go_wp2_with fail
                go_roundw
                case rel => exact ⟨k + 1, by omega, by go_num, hall.out, by first | rfl | trivial⟩
                case measure => simp [intOf]; omega
        · obtain rfl : k = n := by omega
          have hfin : Hid (F = true) := by show _ = _; rw [HF.out]; exact tagsGood_all (fun j hj => HO.out j (by rw [HN.out]; exact hj))
          go_wp2_with fail
          go_ret
          exact ⟨ret_bool (by rw [hfin.out]; rfl), B2.out⟩

end Go.Proofs.YtkjjgpkegihmhaaGreatDoor

namespace Go.Proofs.YtkjjgpkegihmhaaGreatDoor
open Go.RowKit
set_option linter.unusedVariables false

def nameGood (l : List ByteArray) (j : Nat) : Bool := match l[j]? with | some s => isName s.data.toList && !hasText (l.take j) s | none => true
def namesGood (l : List ByteArray) : Bool := (List.range l.length).all (nameGood l)
theorem nameGood_at {l : List ByteArray} {k : Nat} (h : k < l.length) : nameGood l k = (isName l[k].data.toList && !hasText (l.take k) l[k]) := by
  unfold nameGood; rw [List.getElem?_eq_getElem h]
theorem namesGood_all {l : List ByteArray} (h : ∀ j, j < l.length → nameGood l j = true) : namesGood l = true := by
  unfold namesGood
  rw [List.all_eq_true]
  intro j hj
  exact h j (List.mem_range.1 hj)
theorem namesGood_bad {l : List ByteArray} {k : Nat} (hk : k < l.length) (h : nameGood l k = false) : namesGood l = false := by
  unfold namesGood
  rw [List.all_eq_false]
  exact ⟨k, List.mem_range.2 hk, by simp [h]⟩

set_option maxRecDepth 100000 in
set_option maxHeartbeats 4000000 in
theorem s_l4Names (v : Value) (l : List ByteArray) (hsz : ∀ x ∈ l, x.size ≤ maxLen) (w : World) (h : Rd w v 1 l.length (cS l)) :
    Calls Tryz.prog 134 #[v] w fun e w' => e = .returned (.bool (namesGood l && inR l.length 1 8)) ∧ Below w.heap.size w w' := by
  have HH := Lib.hid h
  obtain ⟨_, A, c, rfl, hnc, hcm, hcell⟩ := h
  have HCM := Lib.hid hcm
  unfold maxLen at hcm
  have HC := Lib.hid hcell
  clear hcell
  obtain ⟨F, hF⟩ : ∃ F, F = namesGood l := ⟨_, rfl⟩
  have HF := Lib.hid hF
  obtain ⟨n, hn⟩ : ∃ n, n = l.length := ⟨_, rfl⟩
  have HN := Lib.hid hn
  have IR := Lib.hid (fun w => s_In (n : Int) 1 8 w)
  rw [← hn] at hnc ⊢
  rw [← hF]
  clear hF hn
  go_enter Tryz.func134, Tryz.ntmps134
  go_wp2_with fail
  go_loopw [3] (fun i wr => ∃ k : Nat, k ≤ n ∧ i = .int .i64 k ∧ (∀ j, j < k → nameGood l j = true) ∧ Below w.heap.size w wr) (fun i _ => n - (intOf i).toNat)
  case atStart => exact ⟨0, Nat.zero_le _, rfl, fun j h => absurd h (by omega), Below.refl _ _⟩
  case round =>
    obtain ⟨k, hk, rfl, hok, hbr⟩ := hrel
    have HO := Lib.hid hok
    clear hok
    by_cases hlt : k < n
    · have hkl : k < l.length := by rw [← HN.out]; exact hlt
      obtain ⟨b, off, rfl, hc⟩ := HC.out (by rw [cS_len]; omega)
      have hx := hc k _ (cS_at hkl)
      have hx1 := (hbr.cell (World.block_lt_of_cell? w _ hx)).trans hx
      have hfr := (HH.out.below hbr).front (a := k) (c' := c) (by omega) (by omega) HCM.out
      rw [Nat.mul_one, ← cS_take] at hfr
      have htl : (l.take k).length = k := by rw [List.length_take]; omega
      obtain ⟨s, hs⟩ : ∃ s, s = l[k] := ⟨_, rfl⟩
      have hss : s.size ≤ maxLen := by rw [hs]; exact hsz _ (List.getElem_mem hkl)
      have hg := nameGood_at hkl
      rw [← hs] at hx1 hg
      obtain ⟨I, hI⟩ : ∃ I, I = isName s.data.toList := ⟨_, rfl⟩
      obtain ⟨T, hT⟩ : ∃ T, T = hasText (l.take k) s := ⟨_, rfl⟩
      have c1 := fun w => s_IsName s hss w
      have c2 := fun w (h : Rd w (.slice (some ⟨b, off, none⟩) k c) 1 (l.take k).length (cS (l.take k))) => s_ContainsText (.slice (some ⟨b, off, none⟩) k c) (l.take k) s w h
      rw [← hI] at c1 hg
      rw [← hT] at c2 hg
      have L1 := Lib.hid (fun x : Later wr => Calls.later_same (c1 x.world))
      have L2 := Lib.hid (fun x : Later wr => Calls.later_same (c2 x.world (by rw [htl]; exact hfr.below x.below)))
      have la := later_cell hx1
      have HB := Lib.hid hbr
      have HG := Lib.hid hg
      have hlti : (k : Int) < (n : Int) := by omega
      have hkc : (k : Int) ≤ (c : Int) := by omega
      have hk0 : (0 : Int) ≤ (k : Int) := by omega
      clear hx hx1 hfr htl hs hss hg hI hT c1 c2 hbr hc
      cases I
      · have hfin : Hid (false = F) := by show _ = _; rw [HF.out]; exact (namesGood_bad hkl (by rw [HG.out]; rfl)).symm
        go_wp2_with fail
        refine wp_region_later (by kernel_rfl) (by kernel_rfl) ?_
        repeat (go_big_quiet_step (first | (go_at_call 109; with_reducible exact L1.out _) | (go_at_call 147; with_reducible exact L2.out _)))
        refine wpQuiet_nil ?_
        intro w1 hb1
        have HBZ := Lib.hid (Below.then_ HB.out hb1 (Nat.le_refl _))
        clear hb1 la
        go_wp2_with fail
        go_ret
        exact ⟨ret_bool (by rw [← hfin.out]; rfl), HBZ.out⟩
      · cases T
        · have hall : Hid (∀ j, j < k + 1 → nameGood l j = true) := by
            intro j hj
            rcases Nat.lt_or_ge j k with h1 | h1
            · exact HO.out j h1
            · obtain rfl : j = k := by omega
              rw [HG.out]; rfl
          go_wp2_with fail
          refine wp_region_later (by kernel_rfl) (by kernel_rfl) ?_
          repeat (go_big_quiet_step (first | (go_at_call 109; with_reducible exact L1.out _) | (go_at_call 147; with_reducible exact L2.out _)))
          refine wpQuiet_nil ?_
          intro w1 hb1
          have HBZ := Lib.hid (Below.then_ HB.out hb1 (Nat.le_refl _))
          clear hb1 la
          go_wp2_with fail
          go_roundw
          case rel => exact ⟨k + 1, by omega, by go_num, hall.out, HBZ.out⟩
          case measure => simp [intOf]; omega
        · have hfin : Hid (false = F) := by show _ = _; rw [HF.out]; exact (namesGood_bad hkl (by rw [HG.out]; rfl)).symm
          go_wp2_with fail
          refine wp_region_later (by kernel_rfl) (by kernel_rfl) ?_
          repeat (go_big_quiet_step (first | (go_at_call 109; with_reducible exact L1.out _) | (go_at_call 147; with_reducible exact L2.out _)))
          refine wpQuiet_nil ?_
          intro w1 hb1
          have HBZ := Lib.hid (Below.then_ HB.out hb1 (Nat.le_refl _))
          clear hb1 la
          go_wp2_with fail
          go_ret
          exact ⟨ret_bool (by rw [← hfin.out]; rfl), HBZ.out⟩
    · obtain rfl : k = n := by omega
      have hfin : Hid (F = true) := by show _ = _; rw [HF.out]; exact namesGood_all (fun j hj => HO.out j (by rw [HN.out]; exact hj))
      have HB := Lib.hid hbr
      clear hbr
      go_wp2_with fail
      refine (IR.out _).mono ?_
      rintro e w1 ⟨rfl, rfl⟩
      go_wp2_with fail
      go_ret
      exact ⟨ret_bool (by rw [hfin.out]; rfl), HB.out⟩

end Go.Proofs.YtkjjgpkegihmhaaGreatDoor

namespace Go.Proofs.YtkjjgpkegihmhaaGreatDoor
open Go.RowKit
set_option linter.unusedVariables false

set_option maxRecDepth 100000 in
set_option maxHeartbeats 8000000 in
theorem i_validSequence (r : RuleD) (vb vn vt vk : Value) (w : World) (h : RdRule w (ruleCells r vb vn vt vk) r) :
    Calls Tryz.prog 141 #[.agg #[.string r.name, .int .i64 r.kind, .int .i64 r.size, .bool r.little, vb, vn, vt, vk]] w
      fun e w' => e = .returned (.bool (decide (r.size = 0 ∧ r.bytes.length = 0 ∧ r.tags.length = 0) && (decide (r.kids.length = r.names.length) && (inR r.kids.length 1 8 && namesGood r.names)))) ∧ Below w.heap.size w w' := by
  obtain ⟨⟨Ab, cb, rfl, lb1, lb2⟩, ⟨An, cn, rfl, ln1, ln2⟩, ⟨At, ct, rfl, lt1, lt2⟩, ⟨Ak, ck, rfl, lk1, lk2⟩⟩ := rule_forms h
  have HLN := Lib.hid ln2
  unfold maxLen at lb2 ln2 lt2 lk2
  obtain ⟨w0, hw0⟩ : ∃ w0, w0 = w.alloc (.cells #[.string r.name, .int .i64 r.kind, .int .i64 r.size, .bool r.little, .slice Ab r.bytes.length cb, .slice An r.names.length cn, .slice At r.tags.length ct, .slice Ak r.kids.length ck] 30) := ⟨_, rfl⟩
  have b0 : Below w.heap.size w w0 := by rw [hw0]; exact rule_box
  have x0 : Box w0 w.heap.size 30 #[.string r.name, .int .i64 r.kind, .int .i64 r.size, .bool r.little, .slice Ab r.bytes.length cb, .slice An r.names.length cn, .slice At r.tags.length ct, .slice Ak r.kids.length ck] := by rw [hw0]; exact Box.new _ _ _
  have PL := Lib.hid (i_plainNames r _ _ _ _ w0 (h.below b0))
  have RN := Lib.hid ((rdRule_parts h).2.1.below b0)
  have X0 := Lib.hid x0
  have B0 := Lib.hid b0
  have W0 := Lib.hid hw0
  obtain ⟨P, hP⟩ : ∃ P, P = decide (r.size = 0 ∧ r.bytes.length = 0 ∧ r.tags.length = 0) := ⟨_, rfl⟩
  obtain ⟨I, hI⟩ : ∃ I, I = inR r.kids.length 1 8 := ⟨_, rfl⟩
  obtain ⟨F, hF⟩ : ∃ F, F = namesGood r.names := ⟨_, rfl⟩
  obtain ⟨Q, hQ⟩ : ∃ Q, Q = decide (r.kids.length = r.names.length) := ⟨_, rfl⟩
  have ir := fun w => i_In (r.kids.length : Int) 1 8 w
  have pl := PL.out
  rw [← hP] at pl ⊢
  rw [← hI] at ir ⊢
  rw [← hF, ← hQ]
  have PLX := Lib.hid pl
  have IR := Lib.hid ir
  have HF := Lib.hid hF
  have HQ := Lib.hid hQ
  clear h x0 b0 hw0 hP hI hF hQ ir pl PL
  go_enter Tryz.func141, Tryz.ntmps141
  go_wp2_with fail
  rw [← W0.out]
  refine PLX.out.mono ?_
  rintro e w1 ⟨rfl, hb1⟩
  have X1 := Lib.hid (X0.out.below hb1)
  have B1 := Lib.hid (Below.then_ B0.out hb1 (Nat.le_refl _))
  have RN1 := Lib.hid (RN.out.below hb1)
  have k1 : w1.cell? ⟨w.heap.size, 7, none⟩ = some (.slice Ak r.kids.length ck) := X1.out.cell 7
  have n1 : w1.cell? ⟨w.heap.size, 5, none⟩ = some (.slice An r.names.length cn) := X1.out.cell 5
  clear hb1
  cases P
  · go_wp2_with fail
    go_ret
    exact ⟨rfl, B1.out⟩
  · by_cases hkn : r.kids.length = r.names.length
    · have e1 : ((r.kids.length : Int) == (r.names.length : Int)) = true := by rw [beq_iff_eq]; omega
      have e2 : ((r.kids.length : Int) != (r.names.length : Int)) = false := by simp [hkn]
      have hq : Hid (Q = true) := by show _ = _; rw [HQ.out]; exact decide_eq_true hkn
      clear hkn
      go_wp2_with fail
      refine (IR.out _).mono ?_
      rintro e w2 ⟨rfl, rfl⟩
      cases I
      · go_wp2_with fail
        go_ret
        exact ⟨ret_bool (by rw [hq.out]; rfl), B1.out⟩
      · obtain ⟨n, hn⟩ : ∃ n, n = r.names.length := ⟨_, rfl⟩
        have HN := Lib.hid hn
        obtain ⟨_, A', c', ev, _, _, hcell⟩ := RN1.out
        injection ev with ev1 ev2 ev3
        rw [← ev1] at hcell
        clear ev1 ev2 ev3
        have HC := Lib.hid hcell
        rw [← hn] at n1
        clear hcell hn k1
        go_wp2_with fail
        rw [← HN.out]
        go_loopw [27] (fun i wr => ∃ k : Nat, k ≤ n ∧ i = .int .i64 k ∧ (∀ j, j < k → nameGood r.names j = true) ∧ Below w1.heap.size w1 wr) (fun i _ => n - (intOf i).toNat)
        case atStart => exact ⟨0, Nat.zero_le _, rfl, fun j h => absurd h (by omega), Below.refl _ _⟩
        case round =>
          obtain ⟨k, hk, rfl, hok, hbr⟩ := hrel
          have HO := Lib.hid hok
          clear hok
          by_cases hlt : k < n
          · have hkl : k < r.names.length := by rw [← HN.out]; exact hlt
            obtain ⟨b, off, rfl, hc⟩ := HC.out (by rw [cS_len]; omega)
            have hx := hc k _ (cS_at hkl)
            have hx1 := (hbr.cell (World.block_lt_of_cell? w1 _ hx)).trans hx
            have hfr := (RN1.out.below hbr).front (a := k) (c' := cn) (by omega) (by omega) HLN.out
            rw [Nat.mul_one, ← cS_take] at hfr
            have htl : (r.names.take k).length = k := by rw [List.length_take]; omega
            obtain ⟨s, hs⟩ : ∃ s, s = r.names[k] := ⟨_, rfl⟩
            have hg := nameGood_at hkl
            rw [← hs] at hx1 hg
            obtain ⟨J, hJ⟩ : ∃ I, I = isName s.data.toList := ⟨_, rfl⟩
            obtain ⟨T, hT⟩ : ∃ T, T = hasText (r.names.take k) s := ⟨_, rfl⟩
            have c1 := fun w => i_IsName s w
            have c2 := fun w (h : Rd w (.slice (some ⟨b, off, none⟩) k cn) 1 (r.names.take k).length (cS (r.names.take k))) => i_ContainsText (.slice (some ⟨b, off, none⟩) k cn) (r.names.take k) s w h
            rw [← hJ] at c1 hg
            rw [← hT] at c2 hg
            have C1 := Lib.hid c1
            have C2 := Lib.hid (fun w (h : Rd w (.slice (some ⟨b, off, none⟩) k cn) 1 k (cS (r.names.take k))) => c2 w (by rw [htl]; exact h))
            have HFR := Lib.hid hfr
            have XR := Lib.hid (X1.out.below hbr)
            have HB := Lib.hid (Below.then_ B1.out hbr (Nat.le_refl _))
            have HBR := Lib.hid hbr
            have HG := Lib.hid hg
            have hkc : (k : Int) ≤ (cn : Int) := by omega
            clear hx hfr htl hs hg hJ hT c1 c2 hbr hc
            go_wp2_with fail
            refine (C1.out _).mono ?_
            rintro e w2 ⟨rfl, hb2⟩
            have n2 : w2.cell? ⟨w.heap.size, 5, none⟩ = some (.slice (some ⟨b, off, none⟩) n cn) := by rw [HN.out]; exact (XR.out.below hb2).cell 5
            have HF2 := Lib.hid (HFR.out.below hb2)
            have HB2 := Lib.hid (Below.then_ HB.out hb2 (Nat.le_refl _))
            have HBR2 := Lib.hid (Below.then_ HBR.out hb2 (Nat.le_refl _))
            clear hb2 hx1
            cases J
            · have hfin : Hid (false = F) := by show _ = _; rw [HF.out]; exact (namesGood_bad hkl (by rw [HG.out]; rfl)).symm
              go_wp2_with fail
              go_ret
              exact ⟨ret_bool (by rw [← hfin.out, hq.out]; rfl), HB2.out⟩
            · go_wp2_with fail
              refine (C2.out _ HF2.out).mono ?_
              rintro e w3 ⟨rfl, rfl⟩
              cases T
              · have hall : Hid (∀ j, j < k + 1 → nameGood r.names j = true) := by
                  intro j hj
                  rcases Nat.lt_or_ge j k with h1 | h1
                  · exact HO.out j h1
                  · obtain rfl : j = k := by omega
                    rw [HG.out]; rfl
                go_wp2_with fail
                go_roundw
                case rel => exact ⟨k + 1, by omega, by go_num, hall.out, HBR2.out⟩
                case measure => simp [intOf]; omega
              · have hfin : Hid (false = F) := by show _ = _; rw [HF.out]; exact (namesGood_bad hkl (by rw [HG.out]; rfl)).symm
                go_wp2_with fail
                go_ret
                exact ⟨ret_bool (by rw [← hfin.out, hq.out]; rfl), HB2.out⟩
          · obtain rfl : k = n := by omega
            have hfin : Hid (F = true) := by show _ = _; rw [HF.out]; exact namesGood_all (fun j hj => HO.out j (by rw [HN.out]; exact hj))
            have HB := Lib.hid (Below.then_ B1.out hbr (Nat.le_refl _))
            clear hbr
            go_wp2_with fail
            go_ret
            exact ⟨ret_bool (by rw [hfin.out, hq.out]; rfl), HB.out⟩
    · have e1 : ((r.kids.length : Int) == (r.names.length : Int)) = false := by rw [beq_eq_false_iff_ne]; omega
      have e2 : ((r.kids.length : Int) != (r.names.length : Int)) = true := by rw [bne_iff_ne]; omega
      have hq : Hid (Q = false) := by show _ = _; rw [HQ.out]; exact decide_eq_false hkn
      clear hkn
      go_wp2_with fail
      go_ret
      exact ⟨ret_bool (by rw [hq.out]; rfl), B1.out⟩

end Go.Proofs.YtkjjgpkegihmhaaGreatDoor
