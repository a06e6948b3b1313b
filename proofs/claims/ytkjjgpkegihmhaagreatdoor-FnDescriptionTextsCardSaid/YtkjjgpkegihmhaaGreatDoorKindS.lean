/-
  l4Kind of the reference: a theorem for each kind.
-/
import Derived.Test.YtkjjgpkegihmhaaGreatDoorGC
import Derived.Test.YtkjjgpkegihmhaaGreatDoorGA
namespace Go.Proofs.YtkjjgpkegihmhaaGreatDoor
open Go.RowKit
set_option linter.unusedVariables false

set_option maxRecDepth 100000 in
set_option maxHeartbeats 8000000 in
theorem s_kind1 (d : Value) (ll : List RuleD) (r : RuleD) (vb vn vt vk : Value) (hkd : r.kind = 1) (hf : ∀ x ∈ r.kids, fits x) (hts : r.tags.length ≤ 1048576) (hnm : ∀ x ∈ r.names, x.size ≤ maxLen) (w : World) (hd : RdDesc w d ll) (h : RdRule w (ruleCells r vb vn vt vk) r) :
    Calls Tryz.prog 110 #[d, .agg #[.string r.name, .int .i64 r.kind, .int .i64 r.size, .bool r.little, vb, vn, vt, vk]] w
      fun e w' => e = .returned (.bool (decide (r.bytes.length = 0 ∧ r.names.length = 0 ∧ r.tags.length = 0 ∧ (r.kids.length : Int) = 0 ∧ (r.little = true → r.kind = 1)) && (inR r.size 1 4 && (!r.little || decide (1 < r.size))))) ∧ Below w.heap.size w w' := by
  obtain ⟨v, rfl, hv⟩ := hd
  obtain ⟨⟨Ab, cb, rfl, lb1, lb2⟩, ⟨An, cn, rfl, ln1, ln2⟩, ⟨At, ct, rfl, lt1, lt2⟩, ⟨Ak, ck, rfl, lk1, lk2⟩⟩ := rule_forms h
  unfold maxLen at lb2 ln2 lt2 lk2
  obtain ⟨w0, hw0⟩ : ∃ w0, w0 = (w.alloc (.cells #[v] 35)).alloc (.cells #[.string r.name, .int .i64 1, .int .i64 r.size, .bool r.little, .slice Ab r.bytes.length cb, .slice An r.names.length cn, .slice At r.tags.length ct, .slice Ak r.kids.length ck] 30) := ⟨_, rfl⟩
  have b0 : Below w.heap.size w w0 := by rw [hw0]; exact below_box.alloc (by simp) _
  have d0 : Box w0 w.heap.size 35 #[v] := by rw [hw0]; exact (Box.new _ _ _).alloc _
  have x0 : Box w0 (w.heap.size + 1) 30 #[.string r.name, .int .i64 1, .int .i64 r.size, .bool r.little, .slice Ab r.bytes.length cb, .slice An r.names.length cn, .slice At r.tags.length ct, .slice Ak r.kids.length ck] := by
    rw [hw0]
    have := Box.new (w.alloc (.cells #[v] 35)) 30 #[.string r.name, .int .i64 1, .int .i64 r.size, .bool r.little, .slice Ab r.bytes.length cb, .slice An r.names.length cn, .slice At r.tags.length ct, .slice Ak r.kids.length ck]
    rwa [show (w.alloc (.cells #[v] 35)).heap.size = w.heap.size + 1 from by simp] at this
  have pl := s_plainSize r _ _ _ _ 0 (by omega) w0 (h.below b0)
  obtain ⟨Q, hQ⟩ : ∃ Q, Q = (decide (r.bytes.length = 0 ∧ r.names.length = 0 ∧ r.tags.length = 0 ∧ (r.kids.length : Int) = 0 ∧ (r.little = true → r.kind = 1))) := ⟨_, rfl⟩
  rw [← hQ] at pl ⊢
  rw [hkd] at pl ⊢
  have PL := Lib.hid pl
  have HQ := Lib.hid hQ
  have HV := Lib.hid (hv.below b0)
  have HR := Lib.hid (h.below b0)
  have X0 := Lib.hid x0
  have D0 := Lib.hid d0
  have B0 := Lib.hid b0
  have W0 := Lib.hid hw0
  have HFIT := Lib.hid hf
  have HNM := Lib.hid hnm
  have HTS := Lib.hid hts
  have HKD := Lib.hid hkd
  obtain ⟨I, hI⟩ : ∃ I, I = inR r.size 1 4 := ⟨_, rfl⟩
  have ir := fun w => s_In r.size 1 4 w
  rw [← hI] at ir ⊢
  have IR := Lib.hid ir
  clear ir hI
  obtain ⟨lit, hlit⟩ : ∃ lit, lit = r.little := ⟨_, rfl⟩
  rw [← hlit] at pl x0 hw0 ⊢
  have PL := Lib.hid pl
  have X0 := Lib.hid x0
  have W0 := Lib.hid hw0
  clear hlit
  clear pl hQ hv h x0 d0 b0 hw0 hf hnm hts hkd
  go_enter Tryz.func110, Tryz.ntmps110
  go_wp2_with fail
  rw [← W0.out]
  refine PL.out.mono ?_
  rintro e w1 ⟨rfl, hb1⟩
  have X1 := Lib.hid (X0.out.below hb1)
  have D1 := Lib.hid (D0.out.below hb1)
  have B1 := Lib.hid (Below.then_ B0.out hb1 (Nat.le_refl _))
  have HR1 := Lib.hid (HR.out.below hb1)
  have HV1 := Lib.hid (HV.out.below hb1)
  clear hb1
  cases Q
  · go_wp2_with fail
    go_ret
    exact ⟨rfl, B1.out⟩
  · have k1 := X1.out.cell 2
    have k2 := X1.out.cell 3
    go_wp2_with fail
    refine (IR.out _).mono ?_
    rintro e w2 ⟨rfl, hww⟩
    subst hww
    cases I
    · go_wp2_with fail
      go_ret
      exact ⟨rfl, B1.out⟩
    · cases lit
      · go_wp2_with fail
        go_ret
        exact ⟨rfl, B1.out⟩
      · by_cases hs : 1 < r.size
        · have hs1 : decide (1 < r.size) = true := by simpa using hs
          clear hs
          go_wp2_with fail
          go_ret
          exact ⟨ret_bool (by rw [hs1]; rfl), B1.out⟩
        · have hs1 : decide (1 < r.size) = false := by simpa using hs
          clear hs
          go_wp2_with fail
          go_ret
          exact ⟨ret_bool (by rw [hs1]; rfl), B1.out⟩

set_option maxRecDepth 100000 in
set_option maxHeartbeats 8000000 in
theorem s_kind2 (d : Value) (ll : List RuleD) (r : RuleD) (vb vn vt vk : Value) (hkd : r.kind = 2) (hf : ∀ x ∈ r.kids, fits x) (hts : r.tags.length ≤ 1048576) (hnm : ∀ x ∈ r.names, x.size ≤ maxLen) (w : World) (hd : RdDesc w d ll) (h : RdRule w (ruleCells r vb vn vt vk) r) :
    Calls Tryz.prog 110 #[d, .agg #[.string r.name, .int .i64 r.kind, .int .i64 r.size, .bool r.little, vb, vn, vt, vk]] w
      fun e w' => e = .returned (.bool (decide (r.size = 0 ∧ r.names.length = 0 ∧ r.tags.length = 0 ∧ (r.kids.length : Int) = 0 ∧ (r.little = true → r.kind = 1)) && (inR r.bytes.length 1 16))) ∧ Below w.heap.size w w' := by
  obtain ⟨v, rfl, hv⟩ := hd
  obtain ⟨⟨Ab, cb, rfl, lb1, lb2⟩, ⟨An, cn, rfl, ln1, ln2⟩, ⟨At, ct, rfl, lt1, lt2⟩, ⟨Ak, ck, rfl, lk1, lk2⟩⟩ := rule_forms h
  unfold maxLen at lb2 ln2 lt2 lk2
  obtain ⟨w0, hw0⟩ : ∃ w0, w0 = (w.alloc (.cells #[v] 35)).alloc (.cells #[.string r.name, .int .i64 2, .int .i64 r.size, .bool r.little, .slice Ab r.bytes.length cb, .slice An r.names.length cn, .slice At r.tags.length ct, .slice Ak r.kids.length ck] 30) := ⟨_, rfl⟩
  have b0 : Below w.heap.size w w0 := by rw [hw0]; exact below_box.alloc (by simp) _
  have d0 : Box w0 w.heap.size 35 #[v] := by rw [hw0]; exact (Box.new _ _ _).alloc _
  have x0 : Box w0 (w.heap.size + 1) 30 #[.string r.name, .int .i64 2, .int .i64 r.size, .bool r.little, .slice Ab r.bytes.length cb, .slice An r.names.length cn, .slice At r.tags.length ct, .slice Ak r.kids.length ck] := by
    rw [hw0]
    have := Box.new (w.alloc (.cells #[v] 35)) 30 #[.string r.name, .int .i64 2, .int .i64 r.size, .bool r.little, .slice Ab r.bytes.length cb, .slice An r.names.length cn, .slice At r.tags.length ct, .slice Ak r.kids.length ck]
    rwa [show (w.alloc (.cells #[v] 35)).heap.size = w.heap.size + 1 from by simp] at this
  have pl := s_plainBytes r _ _ _ _ 0 (by omega) w0 (h.below b0)
  obtain ⟨Q, hQ⟩ : ∃ Q, Q = (decide (r.size = 0 ∧ r.names.length = 0 ∧ r.tags.length = 0 ∧ (r.kids.length : Int) = 0 ∧ (r.little = true → r.kind = 1))) := ⟨_, rfl⟩
  rw [← hQ] at pl ⊢
  rw [hkd] at pl ⊢
  have PL := Lib.hid pl
  have HQ := Lib.hid hQ
  have HV := Lib.hid (hv.below b0)
  have HR := Lib.hid (h.below b0)
  have X0 := Lib.hid x0
  have D0 := Lib.hid d0
  have B0 := Lib.hid b0
  have W0 := Lib.hid hw0
  have HFIT := Lib.hid hf
  have HNM := Lib.hid hnm
  have HTS := Lib.hid hts
  have HKD := Lib.hid hkd
  obtain ⟨I, hI⟩ : ∃ I, I = inR (r.bytes.length : Int) 1 16 := ⟨_, rfl⟩
  have ir := fun w => s_In (r.bytes.length : Int) 1 16 w
  rw [← hI] at ir ⊢
  have IR := Lib.hid ir
  clear ir hI
  clear pl hQ hv h x0 d0 b0 hw0 hf hnm hts hkd
  go_enter Tryz.func110, Tryz.ntmps110
  go_wp2_with fail
  rw [← W0.out]
  refine PL.out.mono ?_
  rintro e w1 ⟨rfl, hb1⟩
  have X1 := Lib.hid (X0.out.below hb1)
  have D1 := Lib.hid (D0.out.below hb1)
  have B1 := Lib.hid (Below.then_ B0.out hb1 (Nat.le_refl _))
  have HR1 := Lib.hid (HR.out.below hb1)
  have HV1 := Lib.hid (HV.out.below hb1)
  clear hb1
  cases Q
  · go_wp2_with fail
    go_ret
    exact ⟨rfl, B1.out⟩
  · have k1 := X1.out.cell 4
    have k2 := X1.out.cell 3
    go_wp2_with fail
    refine (IR.out _).mono ?_
    rintro e w2 ⟨rfl, hww⟩
    subst hww
    go_wp2_with fail
    go_ret
    exact ⟨rfl, B1.out⟩

set_option maxRecDepth 100000 in
set_option maxHeartbeats 8000000 in
theorem s_kind3 (d : Value) (ll : List RuleD) (r : RuleD) (vb vn vt vk : Value) (hkd : r.kind = 3) (hf : ∀ x ∈ r.kids, fits x) (hts : r.tags.length ≤ 1048576) (hnm : ∀ x ∈ r.names, x.size ≤ maxLen) (w : World) (hd : RdDesc w d ll) (h : RdRule w (ruleCells r vb vn vt vk) r) :
    Calls Tryz.prog 110 #[d, .agg #[.string r.name, .int .i64 r.kind, .int .i64 r.size, .bool r.little, vb, vn, vt, vk]] w
      fun e w' => e = .returned (.bool (decide (r.bytes.length = 0 ∧ r.names.length = 0 ∧ r.tags.length = 0 ∧ (r.kids.length : Int) = 0 ∧ (r.little = true → r.kind = 1)) && (inR r.size 1 64))) ∧ Below w.heap.size w w' := by
  obtain ⟨v, rfl, hv⟩ := hd
  obtain ⟨⟨Ab, cb, rfl, lb1, lb2⟩, ⟨An, cn, rfl, ln1, ln2⟩, ⟨At, ct, rfl, lt1, lt2⟩, ⟨Ak, ck, rfl, lk1, lk2⟩⟩ := rule_forms h
  unfold maxLen at lb2 ln2 lt2 lk2
  obtain ⟨w0, hw0⟩ : ∃ w0, w0 = (w.alloc (.cells #[v] 35)).alloc (.cells #[.string r.name, .int .i64 3, .int .i64 r.size, .bool r.little, .slice Ab r.bytes.length cb, .slice An r.names.length cn, .slice At r.tags.length ct, .slice Ak r.kids.length ck] 30) := ⟨_, rfl⟩
  have b0 : Below w.heap.size w w0 := by rw [hw0]; exact below_box.alloc (by simp) _
  have d0 : Box w0 w.heap.size 35 #[v] := by rw [hw0]; exact (Box.new _ _ _).alloc _
  have x0 : Box w0 (w.heap.size + 1) 30 #[.string r.name, .int .i64 3, .int .i64 r.size, .bool r.little, .slice Ab r.bytes.length cb, .slice An r.names.length cn, .slice At r.tags.length ct, .slice Ak r.kids.length ck] := by
    rw [hw0]
    have := Box.new (w.alloc (.cells #[v] 35)) 30 #[.string r.name, .int .i64 3, .int .i64 r.size, .bool r.little, .slice Ab r.bytes.length cb, .slice An r.names.length cn, .slice At r.tags.length ct, .slice Ak r.kids.length ck]
    rwa [show (w.alloc (.cells #[v] 35)).heap.size = w.heap.size + 1 from by simp] at this
  have pl := s_plainSize r _ _ _ _ 0 (by omega) w0 (h.below b0)
  obtain ⟨Q, hQ⟩ : ∃ Q, Q = (decide (r.bytes.length = 0 ∧ r.names.length = 0 ∧ r.tags.length = 0 ∧ (r.kids.length : Int) = 0 ∧ (r.little = true → r.kind = 1))) := ⟨_, rfl⟩
  rw [← hQ] at pl ⊢
  rw [hkd] at pl ⊢
  have PL := Lib.hid pl
  have HQ := Lib.hid hQ
  have HV := Lib.hid (hv.below b0)
  have HR := Lib.hid (h.below b0)
  have X0 := Lib.hid x0
  have D0 := Lib.hid d0
  have B0 := Lib.hid b0
  have W0 := Lib.hid hw0
  have HFIT := Lib.hid hf
  have HNM := Lib.hid hnm
  have HTS := Lib.hid hts
  have HKD := Lib.hid hkd
  obtain ⟨I, hI⟩ : ∃ I, I = inR r.size 1 64 := ⟨_, rfl⟩
  have ir := fun w => s_In r.size 1 64 w
  rw [← hI] at ir ⊢
  have IR := Lib.hid ir
  clear ir hI
  clear pl hQ hv h x0 d0 b0 hw0 hf hnm hts hkd
  go_enter Tryz.func110, Tryz.ntmps110
  go_wp2_with fail
  rw [← W0.out]
  refine PL.out.mono ?_
  rintro e w1 ⟨rfl, hb1⟩
  have X1 := Lib.hid (X0.out.below hb1)
  have D1 := Lib.hid (D0.out.below hb1)
  have B1 := Lib.hid (Below.then_ B0.out hb1 (Nat.le_refl _))
  have HR1 := Lib.hid (HR.out.below hb1)
  have HV1 := Lib.hid (HV.out.below hb1)
  clear hb1
  cases Q
  · go_wp2_with fail
    go_ret
    exact ⟨rfl, B1.out⟩
  · have k1 := X1.out.cell 2
    have k2 := X1.out.cell 3
    go_wp2_with fail
    refine (IR.out _).mono ?_
    rintro e w2 ⟨rfl, hww⟩
    subst hww
    go_wp2_with fail
    go_ret
    exact ⟨rfl, B1.out⟩

set_option maxRecDepth 100000 in
set_option maxHeartbeats 8000000 in
theorem s_kind4 (d : Value) (ll : List RuleD) (r : RuleD) (vb vn vt vk : Value) (hkd : r.kind = 4) (hf : ∀ x ∈ r.kids, fits x) (hts : r.tags.length ≤ 1048576) (hnm : ∀ x ∈ r.names, x.size ≤ maxLen) (w : World) (hd : RdDesc w d ll) (h : RdRule w (ruleCells r vb vn vt vk) r) :
    Calls Tryz.prog 110 #[d, .agg #[.string r.name, .int .i64 r.kind, .int .i64 r.size, .bool r.little, vb, vn, vt, vk]] w
      fun e w' => e = .returned (.bool (decide (r.size = 0 ∧ r.bytes.length = 0 ∧ r.names.length = 0 ∧ r.tags.length = 0 ∧ (r.kids.length : Int) = 1 ∧ (r.little = true → r.kind = 1)) && (decide (0 < limitL ll (r.kids.getD 0 0))))) ∧ Below w.heap.size w w' := by
  obtain ⟨v, rfl, hv⟩ := hd
  obtain ⟨⟨Ab, cb, rfl, lb1, lb2⟩, ⟨An, cn, rfl, ln1, ln2⟩, ⟨At, ct, rfl, lt1, lt2⟩, ⟨Ak, ck, rfl, lk1, lk2⟩⟩ := rule_forms h
  unfold maxLen at lb2 ln2 lt2 lk2
  obtain ⟨w0, hw0⟩ : ∃ w0, w0 = (w.alloc (.cells #[v] 35)).alloc (.cells #[.string r.name, .int .i64 4, .int .i64 r.size, .bool r.little, .slice Ab r.bytes.length cb, .slice An r.names.length cn, .slice At r.tags.length ct, .slice Ak r.kids.length ck] 30) := ⟨_, rfl⟩
  have b0 : Below w.heap.size w w0 := by rw [hw0]; exact below_box.alloc (by simp) _
  have d0 : Box w0 w.heap.size 35 #[v] := by rw [hw0]; exact (Box.new _ _ _).alloc _
  have x0 : Box w0 (w.heap.size + 1) 30 #[.string r.name, .int .i64 4, .int .i64 r.size, .bool r.little, .slice Ab r.bytes.length cb, .slice An r.names.length cn, .slice At r.tags.length ct, .slice Ak r.kids.length ck] := by
    rw [hw0]
    have := Box.new (w.alloc (.cells #[v] 35)) 30 #[.string r.name, .int .i64 4, .int .i64 r.size, .bool r.little, .slice Ab r.bytes.length cb, .slice An r.names.length cn, .slice At r.tags.length ct, .slice Ak r.kids.length ck]
    rwa [show (w.alloc (.cells #[v] 35)).heap.size = w.heap.size + 1 from by simp] at this
  have pl := fun x : Later w0 => s_plainNone r _ _ _ _ 1 (by omega) x.world ((h.below b0).below x.below)
  obtain ⟨Q, hQ⟩ : ∃ Q, Q = (decide (r.size = 0 ∧ r.bytes.length = 0 ∧ r.names.length = 0 ∧ r.tags.length = 0 ∧ (r.kids.length : Int) = 1 ∧ (r.little = true → r.kind = 1))) := ⟨_, rfl⟩
  rw [← hQ] at pl ⊢
  rw [hkd] at pl ⊢
  have PL := Lib.hid (fun x : Later w0 => Calls.later (pl x))
  have HQ := Lib.hid hQ
  have D1 := d0.cell 0
  have hbox := x0
  have q0 := x0.cell 0
  have q1 := x0.cell 1
  have q2 := x0.cell 2
  have q3 := x0.cell 3
  have q4 := x0.cell 4
  have q5 := x0.cell 5
  have q6 := x0.cell 6
  have q7 := x0.cell 7
  have HV := Lib.hid (hv.below b0)
  have HR := Lib.hid (h.below b0)
  have X0 := Lib.hid x0
  have D0 := Lib.hid d0
  have B0 := Lib.hid b0
  have W0 := Lib.hid hw0
  have HFIT := Lib.hid hf
  have HNM := Lib.hid hnm
  have HTS := Lib.hid hts
  have HKD := Lib.hid hkd
  obtain ⟨M, hM⟩ : ∃ M, M = limitL ll (r.kids.getD 0 0) := ⟨_, rfl⟩
  rw [← hM]
  have HM := Lib.hid hM
  clear hM pl hQ hv h x0 d0 b0 hw0 hf hnm hts hkd hbox
  cases Q
  · have l0 := later_cell q0
    have l1 := later_cell q1
    have l2 := later_cell q2
    have l3 := later_cell q3
    have l4 := later_cell q4
    have l5 := later_cell q5
    have l6 := later_cell q6
    have l7 := later_cell q7
    have l8 := later_cell D1
    go_enter Tryz.func110, Tryz.ntmps110
    go_wp2_with fail
    rw [← W0.out]
    clear q0 q1 q2 q3 q4 q5 q6 q7 D1
    refine wp_region_later (by kernel_rfl) (by kernel_rfl) ?_
    repeat (go_big_quiet_step (first | (go_at_call 132; with_reducible exact PL.out _)))
    refine wpQuiet_nil ?_
    intro w1 hb1
    have B1 := Lib.hid (Below.then_ B0.out hb1 (Nat.le_refl _))
    clear l0 l1 l2 l3 l4 l5 l6 l7 l8 hb1
    go_wp2_with fail
    go_ret
    exact ⟨rfl, B1.out⟩
  · have hkn : (r.kids.length : Int) = 1 := by
      have := of_decide_eq_true HQ.out.symm
      omega
    have hkpos : 0 < r.kids.length := by omega
    obtain ⟨bk, ok, rfl, hkid⟩ := kids_cell (rdRule_parts HR.out).2.2.2 rfl (show (0 : Int) ≤ 0 by omega) (by omega)
    obtain ⟨kid, hkid0⟩ : ∃ kid, kid = r.kids.getD 0 0 := ⟨_, rfl⟩
    have hk1 : w0.cell? ⟨bk, ok, none⟩ = some (.int .i64 kid) := by rw [hkid0]; exact hkid
    have hfit : fits kid := by
      rw [hkid0]
      have : r.kids.getD 0 0 = r.kids[0] := by simp [List.getD, hkpos]
      rw [this]
      exact HFIT.out _ (List.getElem_mem hkpos)
    have il := fun w h => s_IntegerLimit (.agg #[v]) ll kid hfit w h
    rw [hkid0, ← HM.out] at il
    rw [← hkid0] at il
    have L1 := Lib.hid (fun x : Later w0 => Calls.later (il x.world ⟨_, rfl, HV.out.below x.below⟩))
    have hkp : (0 : Int) < (r.kids.length : Int) := by omega
    have l9 := later_cell hk1
    clear hkid hk1 hfit il hkid0 hkn
    by_cases hm : 0 < M
    · have hmd : decide (0 < M) = true := by simpa using hm
      clear hm
      have l0 := later_cell q0
      have l1 := later_cell q1
      have l2 := later_cell q2
      have l3 := later_cell q3
      have l4 := later_cell q4
      have l5 := later_cell q5
      have l6 := later_cell q6
      have l7 := later_cell q7
      have l8 := later_cell D1
      go_enter Tryz.func110, Tryz.ntmps110
      go_wp2_with fail
      rw [← W0.out]
      clear q0 q1 q2 q3 q4 q5 q6 q7 D1
      refine wp_region_later (by kernel_rfl) (by kernel_rfl) ?_
      repeat (go_big_quiet_step (first | (go_at_call 132; with_reducible exact PL.out _) | (go_at_call 133; with_reducible exact L1.out _)))
      refine wpQuiet_nil ?_
      intro w1 hb1
      have B1 := Lib.hid (Below.then_ B0.out hb1 (Nat.le_refl _))
      clear l9 l0 l1 l2 l3 l4 l5 l6 l7 l8 hb1
      go_wp2_with fail
      go_ret
      exact ⟨ret_bool (by first | rfl | (rw [hmd]; rfl)), B1.out⟩
    · have hmd : decide (0 < M) = false := by simpa using hm
      clear hm
      have l0 := later_cell q0
      have l1 := later_cell q1
      have l2 := later_cell q2
      have l3 := later_cell q3
      have l4 := later_cell q4
      have l5 := later_cell q5
      have l6 := later_cell q6
      have l7 := later_cell q7
      have l8 := later_cell D1
      go_enter Tryz.func110, Tryz.ntmps110
      go_wp2_with fail
      rw [← W0.out]
      clear q0 q1 q2 q3 q4 q5 q6 q7 D1
      refine wp_region_later (by kernel_rfl) (by kernel_rfl) ?_
      repeat (go_big_quiet_step (first | (go_at_call 132; with_reducible exact PL.out _) | (go_at_call 133; with_reducible exact L1.out _)))
      refine wpQuiet_nil ?_
      intro w1 hb1
      have B1 := Lib.hid (Below.then_ B0.out hb1 (Nat.le_refl _))
      clear l9 l0 l1 l2 l3 l4 l5 l6 l7 l8 hb1
      go_wp2_with fail
      go_ret
      exact ⟨ret_bool (by first | rfl | (rw [hmd]; rfl)), B1.out⟩

set_option maxRecDepth 100000 in
set_option maxHeartbeats 8000000 in
theorem s_kind5 (d : Value) (ll : List RuleD) (r : RuleD) (vb vn vt vk : Value) (hkd : r.kind = 5) (hf : ∀ x ∈ r.kids, fits x) (hts : r.tags.length ≤ 1048576) (hnm : ∀ x ∈ r.names, x.size ≤ maxLen) (w : World) (hd : RdDesc w d ll) (h : RdRule w (ruleCells r vb vn vt vk) r) :
    Calls Tryz.prog 110 #[d, .agg #[.string r.name, .int .i64 r.kind, .int .i64 r.size, .bool r.little, vb, vn, vt, vk]] w
      fun e w' => e = .returned (.bool (decide (r.size = 0 ∧ r.bytes.length = 0 ∧ r.names.length = 0 ∧ r.tags.length = 0 ∧ (r.kids.length : Int) = 2 ∧ (r.little = true → r.kind = 1)) && (decide (0 < limitL ll (r.kids.getD 0 0))))) ∧ Below w.heap.size w w' := by
  obtain ⟨v, rfl, hv⟩ := hd
  obtain ⟨⟨Ab, cb, rfl, lb1, lb2⟩, ⟨An, cn, rfl, ln1, ln2⟩, ⟨At, ct, rfl, lt1, lt2⟩, ⟨Ak, ck, rfl, lk1, lk2⟩⟩ := rule_forms h
  unfold maxLen at lb2 ln2 lt2 lk2
  obtain ⟨w0, hw0⟩ : ∃ w0, w0 = (w.alloc (.cells #[v] 35)).alloc (.cells #[.string r.name, .int .i64 5, .int .i64 r.size, .bool r.little, .slice Ab r.bytes.length cb, .slice An r.names.length cn, .slice At r.tags.length ct, .slice Ak r.kids.length ck] 30) := ⟨_, rfl⟩
  have b0 : Below w.heap.size w w0 := by rw [hw0]; exact below_box.alloc (by simp) _
  have d0 : Box w0 w.heap.size 35 #[v] := by rw [hw0]; exact (Box.new _ _ _).alloc _
  have x0 : Box w0 (w.heap.size + 1) 30 #[.string r.name, .int .i64 5, .int .i64 r.size, .bool r.little, .slice Ab r.bytes.length cb, .slice An r.names.length cn, .slice At r.tags.length ct, .slice Ak r.kids.length ck] := by
    rw [hw0]
    have := Box.new (w.alloc (.cells #[v] 35)) 30 #[.string r.name, .int .i64 5, .int .i64 r.size, .bool r.little, .slice Ab r.bytes.length cb, .slice An r.names.length cn, .slice At r.tags.length ct, .slice Ak r.kids.length ck]
    rwa [show (w.alloc (.cells #[v] 35)).heap.size = w.heap.size + 1 from by simp] at this
  have pl := fun x : Later w0 => s_plainNone r _ _ _ _ 2 (by omega) x.world ((h.below b0).below x.below)
  obtain ⟨Q, hQ⟩ : ∃ Q, Q = (decide (r.size = 0 ∧ r.bytes.length = 0 ∧ r.names.length = 0 ∧ r.tags.length = 0 ∧ (r.kids.length : Int) = 2 ∧ (r.little = true → r.kind = 1))) := ⟨_, rfl⟩
  rw [← hQ] at pl ⊢
  rw [hkd] at pl ⊢
  have PL := Lib.hid (fun x : Later w0 => Calls.later (pl x))
  have HQ := Lib.hid hQ
  have D1 := d0.cell 0
  have hbox := x0
  have q0 := x0.cell 0
  have q1 := x0.cell 1
  have q2 := x0.cell 2
  have q3 := x0.cell 3
  have q4 := x0.cell 4
  have q5 := x0.cell 5
  have q6 := x0.cell 6
  have q7 := x0.cell 7
  have HV := Lib.hid (hv.below b0)
  have HR := Lib.hid (h.below b0)
  have X0 := Lib.hid x0
  have D0 := Lib.hid d0
  have B0 := Lib.hid b0
  have W0 := Lib.hid hw0
  have HFIT := Lib.hid hf
  have HNM := Lib.hid hnm
  have HTS := Lib.hid hts
  have HKD := Lib.hid hkd
  obtain ⟨M, hM⟩ : ∃ M, M = limitL ll (r.kids.getD 0 0) := ⟨_, rfl⟩
  rw [← hM]
  have HM := Lib.hid hM
  clear hM pl hQ hv h x0 d0 b0 hw0 hf hnm hts hkd hbox
  cases Q
  · have l0 := later_cell q0
    have l1 := later_cell q1
    have l2 := later_cell q2
    have l3 := later_cell q3
    have l4 := later_cell q4
    have l5 := later_cell q5
    have l6 := later_cell q6
    have l7 := later_cell q7
    have l8 := later_cell D1
    go_enter Tryz.func110, Tryz.ntmps110
    go_wp2_with fail
    rw [← W0.out]
    clear q0 q1 q2 q3 q4 q5 q6 q7 D1
    refine wp_region_later (by kernel_rfl) (by kernel_rfl) ?_
    repeat (go_big_quiet_step (first | (go_at_call 132; with_reducible exact PL.out _)))
    refine wpQuiet_nil ?_
    intro w1 hb1
    have B1 := Lib.hid (Below.then_ B0.out hb1 (Nat.le_refl _))
    clear l0 l1 l2 l3 l4 l5 l6 l7 l8 hb1
    go_wp2_with fail
    go_ret
    exact ⟨rfl, B1.out⟩
  · have hkn : (r.kids.length : Int) = 2 := by
      have := of_decide_eq_true HQ.out.symm
      omega
    have hkpos : 0 < r.kids.length := by omega
    obtain ⟨bk, ok, rfl, hkid⟩ := kids_cell (rdRule_parts HR.out).2.2.2 rfl (show (0 : Int) ≤ 0 by omega) (by omega)
    obtain ⟨kid, hkid0⟩ : ∃ kid, kid = r.kids.getD 0 0 := ⟨_, rfl⟩
    have hk1 : w0.cell? ⟨bk, ok, none⟩ = some (.int .i64 kid) := by rw [hkid0]; exact hkid
    have hfit : fits kid := by
      rw [hkid0]
      have : r.kids.getD 0 0 = r.kids[0] := by simp [List.getD, hkpos]
      rw [this]
      exact HFIT.out _ (List.getElem_mem hkpos)
    have il := fun w h => s_IntegerLimit (.agg #[v]) ll kid hfit w h
    rw [hkid0, ← HM.out] at il
    rw [← hkid0] at il
    have L1 := Lib.hid (fun x : Later w0 => Calls.later (il x.world ⟨_, rfl, HV.out.below x.below⟩))
    have hkp : (0 : Int) < (r.kids.length : Int) := by omega
    have l9 := later_cell hk1
    clear hkid hk1 hfit il hkid0 hkn
    by_cases hm : 0 < M
    · have hmd : decide (0 < M) = true := by simpa using hm
      clear hm
      have l0 := later_cell q0
      have l1 := later_cell q1
      have l2 := later_cell q2
      have l3 := later_cell q3
      have l4 := later_cell q4
      have l5 := later_cell q5
      have l6 := later_cell q6
      have l7 := later_cell q7
      have l8 := later_cell D1
      go_enter Tryz.func110, Tryz.ntmps110
      go_wp2_with fail
      rw [← W0.out]
      clear q0 q1 q2 q3 q4 q5 q6 q7 D1
      refine wp_region_later (by kernel_rfl) (by kernel_rfl) ?_
      repeat (go_big_quiet_step (first | (go_at_call 132; with_reducible exact PL.out _) | (go_at_call 133; with_reducible exact L1.out _)))
      refine wpQuiet_nil ?_
      intro w1 hb1
      have B1 := Lib.hid (Below.then_ B0.out hb1 (Nat.le_refl _))
      clear l9 l0 l1 l2 l3 l4 l5 l6 l7 l8 hb1
      go_wp2_with fail
      go_ret
      exact ⟨ret_bool (by first | rfl | (rw [hmd]; rfl)), B1.out⟩
    · have hmd : decide (0 < M) = false := by simpa using hm
      clear hm
      have l0 := later_cell q0
      have l1 := later_cell q1
      have l2 := later_cell q2
      have l3 := later_cell q3
      have l4 := later_cell q4
      have l5 := later_cell q5
      have l6 := later_cell q6
      have l7 := later_cell q7
      have l8 := later_cell D1
      go_enter Tryz.func110, Tryz.ntmps110
      go_wp2_with fail
      rw [← W0.out]
      clear q0 q1 q2 q3 q4 q5 q6 q7 D1
      refine wp_region_later (by kernel_rfl) (by kernel_rfl) ?_
      repeat (go_big_quiet_step (first | (go_at_call 132; with_reducible exact PL.out _) | (go_at_call 133; with_reducible exact L1.out _)))
      refine wpQuiet_nil ?_
      intro w1 hb1
      have B1 := Lib.hid (Below.then_ B0.out hb1 (Nat.le_refl _))
      clear l9 l0 l1 l2 l3 l4 l5 l6 l7 l8 hb1
      go_wp2_with fail
      go_ret
      exact ⟨ret_bool (by first | rfl | (rw [hmd]; rfl)), B1.out⟩

set_option maxRecDepth 100000 in
set_option maxHeartbeats 8000000 in
theorem s_kind6 (d : Value) (ll : List RuleD) (r : RuleD) (vb vn vt vk : Value) (hkd : r.kind = 6) (hf : ∀ x ∈ r.kids, fits x) (hts : r.tags.length ≤ 1048576) (hnm : ∀ x ∈ r.names, x.size ≤ maxLen) (w : World) (hd : RdDesc w d ll) (h : RdRule w (ruleCells r vb vn vt vk) r) :
    Calls Tryz.prog 110 #[d, .agg #[.string r.name, .int .i64 r.kind, .int .i64 r.size, .bool r.little, vb, vn, vt, vk]] w
      fun e w' => e = .returned (.bool (decide (r.size = 0 ∧ r.bytes.length = 0 ∧ r.tags.length = 0 ∧ (r.kids.length : Int) = (r.names.length : Int) ∧ (r.little = true → r.kind = 1)) && (namesGood r.names && inR r.names.length 1 8))) ∧ Below w.heap.size w w' := by
  obtain ⟨v, rfl, hv⟩ := hd
  obtain ⟨⟨Ab, cb, rfl, lb1, lb2⟩, ⟨An, cn, rfl, ln1, ln2⟩, ⟨At, ct, rfl, lt1, lt2⟩, ⟨Ak, ck, rfl, lk1, lk2⟩⟩ := rule_forms h
  unfold maxLen at lb2 ln2 lt2 lk2
  obtain ⟨w0, hw0⟩ : ∃ w0, w0 = (w.alloc (.cells #[v] 35)).alloc (.cells #[.string r.name, .int .i64 6, .int .i64 r.size, .bool r.little, .slice Ab r.bytes.length cb, .slice An r.names.length cn, .slice At r.tags.length ct, .slice Ak r.kids.length ck] 30) := ⟨_, rfl⟩
  have b0 : Below w.heap.size w w0 := by rw [hw0]; exact below_box.alloc (by simp) _
  have d0 : Box w0 w.heap.size 35 #[v] := by rw [hw0]; exact (Box.new _ _ _).alloc _
  have x0 : Box w0 (w.heap.size + 1) 30 #[.string r.name, .int .i64 6, .int .i64 r.size, .bool r.little, .slice Ab r.bytes.length cb, .slice An r.names.length cn, .slice At r.tags.length ct, .slice Ak r.kids.length ck] := by
    rw [hw0]
    have := Box.new (w.alloc (.cells #[v] 35)) 30 #[.string r.name, .int .i64 6, .int .i64 r.size, .bool r.little, .slice Ab r.bytes.length cb, .slice An r.names.length cn, .slice At r.tags.length ct, .slice Ak r.kids.length ck]
    rwa [show (w.alloc (.cells #[v] 35)).heap.size = w.heap.size + 1 from by simp] at this
  have pl := s_plainNamesK r _ _ _ _ (r.names.length : Int) (by omega) w0 (h.below b0)
  obtain ⟨Q, hQ⟩ : ∃ Q, Q = (decide (r.size = 0 ∧ r.bytes.length = 0 ∧ r.tags.length = 0 ∧ (r.kids.length : Int) = (r.names.length : Int) ∧ (r.little = true → r.kind = 1))) := ⟨_, rfl⟩
  rw [← hQ] at pl ⊢
  rw [hkd] at pl ⊢
  have PL := Lib.hid pl
  have HQ := Lib.hid hQ
  have HV := Lib.hid (hv.below b0)
  have HR := Lib.hid (h.below b0)
  have X0 := Lib.hid x0
  have D0 := Lib.hid d0
  have B0 := Lib.hid b0
  have W0 := Lib.hid hw0
  have HFIT := Lib.hid hf
  have HNM := Lib.hid hnm
  have HTS := Lib.hid hts
  have HKD := Lib.hid hkd
  clear pl hQ hv h x0 d0 b0 hw0 hf hnm hts hkd
  go_enter Tryz.func110, Tryz.ntmps110
  go_wp2_with fail
  rw [← W0.out]
  refine PL.out.mono ?_
  rintro e w1 ⟨rfl, hb1⟩
  have X1 := Lib.hid (X0.out.below hb1)
  have D1 := Lib.hid (D0.out.below hb1)
  have B1 := Lib.hid (Below.then_ B0.out hb1 (Nat.le_refl _))
  have HR1 := Lib.hid (HR.out.below hb1)
  have HV1 := Lib.hid (HV.out.below hb1)
  clear hb1
  cases Q
  · go_wp2_with fail
    go_ret
    exact ⟨rfl, B1.out⟩
  · have k1 := X1.out.cell 5
    have nl := s_l4Names (.slice An r.names.length cn) r.names HNM.out w1 (rdRule_parts HR1.out).2.1
    have NL := Lib.hid nl
    clear nl
    go_wp2_with fail
    refine NL.out.mono ?_
    rintro e w2 ⟨rfl, hb2⟩
    have B2 := Lib.hid (Below.then_ B1.out hb2 (Nat.le_refl _))
    clear hb2
    go_wp2_with fail
    go_ret
    exact ⟨rfl, B2.out⟩

set_option maxRecDepth 100000 in
set_option maxHeartbeats 8000000 in
theorem s_kind7 (d : Value) (ll : List RuleD) (r : RuleD) (vb vn vt vk : Value) (hkd : r.kind = 7) (hf : ∀ x ∈ r.kids, fits x) (hts : r.tags.length ≤ 1048576) (hnm : ∀ x ∈ r.names, x.size ≤ maxLen) (w : World) (hd : RdDesc w d ll) (h : RdRule w (ruleCells r vb vn vt vk) r) :
    Calls Tryz.prog 110 #[d, .agg #[.string r.name, .int .i64 r.kind, .int .i64 r.size, .bool r.little, vb, vn, vt, vk]] w
      fun e w' => e = .returned (.bool (decide (r.size = 0 ∧ r.bytes.length = 0 ∧ r.names.length = 0 ∧ (r.little = true → r.kind = 1)) && (decide (r.kids.length = r.tags.length + 1) && (inR r.tags.length 1 8 && tagsGood r.tags (limitL ll (r.kids.getD 0 0)))))) ∧ Below w.heap.size w w' := by
  obtain ⟨v, rfl, hv⟩ := hd
  obtain ⟨⟨Ab, cb, rfl, lb1, lb2⟩, ⟨An, cn, rfl, ln1, ln2⟩, ⟨At, ct, rfl, lt1, lt2⟩, ⟨Ak, ck, rfl, lk1, lk2⟩⟩ := rule_forms h
  unfold maxLen at lb2 ln2 lt2 lk2
  obtain ⟨w0, hw0⟩ : ∃ w0, w0 = (w.alloc (.cells #[v] 35)).alloc (.cells #[.string r.name, .int .i64 7, .int .i64 r.size, .bool r.little, .slice Ab r.bytes.length cb, .slice An r.names.length cn, .slice At r.tags.length ct, .slice Ak r.kids.length ck] 30) := ⟨_, rfl⟩
  have b0 : Below w.heap.size w w0 := by rw [hw0]; exact below_box.alloc (by simp) _
  have d0 : Box w0 w.heap.size 35 #[v] := by rw [hw0]; exact (Box.new _ _ _).alloc _
  have x0 : Box w0 (w.heap.size + 1) 30 #[.string r.name, .int .i64 7, .int .i64 r.size, .bool r.little, .slice Ab r.bytes.length cb, .slice An r.names.length cn, .slice At r.tags.length ct, .slice Ak r.kids.length ck] := by
    rw [hw0]
    have := Box.new (w.alloc (.cells #[v] 35)) 30 #[.string r.name, .int .i64 7, .int .i64 r.size, .bool r.little, .slice Ab r.bytes.length cb, .slice An r.names.length cn, .slice At r.tags.length ct, .slice Ak r.kids.length ck]
    rwa [show (w.alloc (.cells #[v] 35)).heap.size = w.heap.size + 1 from by simp] at this
  have pl := s_plainTags r _ _ _ _  w0 (h.below b0)
  obtain ⟨Q, hQ⟩ : ∃ Q, Q = (decide (r.size = 0 ∧ r.bytes.length = 0 ∧ r.names.length = 0 ∧ (r.little = true → r.kind = 1))) := ⟨_, rfl⟩
  rw [← hQ] at pl ⊢
  rw [hkd] at pl ⊢
  have PL := Lib.hid pl
  have HQ := Lib.hid hQ
  have HV := Lib.hid (hv.below b0)
  have HR := Lib.hid (h.below b0)
  have X0 := Lib.hid x0
  have D0 := Lib.hid d0
  have B0 := Lib.hid b0
  have W0 := Lib.hid hw0
  have HFIT := Lib.hid hf
  have HNM := Lib.hid hnm
  have HTS := Lib.hid hts
  have HKD := Lib.hid hkd
  clear pl hQ hv h x0 d0 b0 hw0 hf hnm hts hkd
  go_enter Tryz.func110, Tryz.ntmps110
  go_wp2_with fail
  rw [← W0.out]
  refine PL.out.mono ?_
  rintro e w1 ⟨rfl, hb1⟩
  have X1 := Lib.hid (X0.out.below hb1)
  have D1 := Lib.hid (D0.out.below hb1)
  have B1 := Lib.hid (Below.then_ B0.out hb1 (Nat.le_refl _))
  have HR1 := Lib.hid (HR.out.below hb1)
  have HV1 := Lib.hid (HV.out.below hb1)
  clear hb1
  cases Q
  · go_wp2_with fail
    go_ret
    exact ⟨rfl, B1.out⟩
  · have k0 := X1.out.cell 0
    have k1 := X1.out.cell 1
    have k2 := X1.out.cell 2
    have k3 := X1.out.cell 3
    have k4 := X1.out.cell 4
    have k5 := X1.out.cell 5
    have k6 := X1.out.cell 6
    have k7 := X1.out.cell 7
    have k8 := D1.out.cell 0
    have nl := s_l4Tags (.agg #[v]) ll r _ _ _ _ HFIT.out HTS.out w1 ⟨_, rfl, HV1.out⟩ HR1.out
    rw [HKD.out] at nl
    have NL := Lib.hid nl
    clear nl
    go_wp2_with fail
    refine NL.out.mono ?_
    rintro e w2 ⟨rfl, hb2⟩
    have B2 := Lib.hid (Below.then_ B1.out hb2 (Nat.le_refl _))
    clear hb2
    go_wp2_with fail
    go_ret
    exact ⟨rfl, B2.out⟩

set_option maxRecDepth 100000 in
set_option maxHeartbeats 8000000 in
theorem s_kind8 (d : Value) (ll : List RuleD) (r : RuleD) (vb vn vt vk : Value) (hkd : r.kind = 8) (hf : ∀ x ∈ r.kids, fits x) (hts : r.tags.length ≤ 1048576) (hnm : ∀ x ∈ r.names, x.size ≤ maxLen) (w : World) (hd : RdDesc w d ll) (h : RdRule w (ruleCells r vb vn vt vk) r) :
    Calls Tryz.prog 110 #[d, .agg #[.string r.name, .int .i64 r.kind, .int .i64 r.size, .bool r.little, vb, vn, vt, vk]] w
      fun e w' => e = .returned (.bool (decide (r.size = 0 ∧ r.bytes.length = 0 ∧ r.names.length = 0 ∧ r.tags.length = 0 ∧ (r.kids.length : Int) = 1 ∧ (r.little = true → r.kind = 1)))) ∧ Below w.heap.size w w' := by
  obtain ⟨v, rfl, hv⟩ := hd
  obtain ⟨⟨Ab, cb, rfl, lb1, lb2⟩, ⟨An, cn, rfl, ln1, ln2⟩, ⟨At, ct, rfl, lt1, lt2⟩, ⟨Ak, ck, rfl, lk1, lk2⟩⟩ := rule_forms h
  unfold maxLen at lb2 ln2 lt2 lk2
  obtain ⟨w0, hw0⟩ : ∃ w0, w0 = (w.alloc (.cells #[v] 35)).alloc (.cells #[.string r.name, .int .i64 8, .int .i64 r.size, .bool r.little, .slice Ab r.bytes.length cb, .slice An r.names.length cn, .slice At r.tags.length ct, .slice Ak r.kids.length ck] 30) := ⟨_, rfl⟩
  have b0 : Below w.heap.size w w0 := by rw [hw0]; exact below_box.alloc (by simp) _
  have d0 : Box w0 w.heap.size 35 #[v] := by rw [hw0]; exact (Box.new _ _ _).alloc _
  have x0 : Box w0 (w.heap.size + 1) 30 #[.string r.name, .int .i64 8, .int .i64 r.size, .bool r.little, .slice Ab r.bytes.length cb, .slice An r.names.length cn, .slice At r.tags.length ct, .slice Ak r.kids.length ck] := by
    rw [hw0]
    have := Box.new (w.alloc (.cells #[v] 35)) 30 #[.string r.name, .int .i64 8, .int .i64 r.size, .bool r.little, .slice Ab r.bytes.length cb, .slice An r.names.length cn, .slice At r.tags.length ct, .slice Ak r.kids.length ck]
    rwa [show (w.alloc (.cells #[v] 35)).heap.size = w.heap.size + 1 from by simp] at this
  have pl := s_plainNone r _ _ _ _ 1 (by omega) w0 (h.below b0)
  obtain ⟨Q, hQ⟩ : ∃ Q, Q = (decide (r.size = 0 ∧ r.bytes.length = 0 ∧ r.names.length = 0 ∧ r.tags.length = 0 ∧ (r.kids.length : Int) = 1 ∧ (r.little = true → r.kind = 1))) := ⟨_, rfl⟩
  rw [← hQ] at pl ⊢
  rw [hkd] at pl ⊢
  have PL := Lib.hid pl
  have HQ := Lib.hid hQ
  have HV := Lib.hid (hv.below b0)
  have HR := Lib.hid (h.below b0)
  have X0 := Lib.hid x0
  have D0 := Lib.hid d0
  have B0 := Lib.hid b0
  have W0 := Lib.hid hw0
  have HFIT := Lib.hid hf
  have HNM := Lib.hid hnm
  have HTS := Lib.hid hts
  have HKD := Lib.hid hkd
  clear pl hQ hv h x0 d0 b0 hw0 hf hnm hts hkd
  go_enter Tryz.func110, Tryz.ntmps110
  go_wp2_with fail
  rw [← W0.out]
  refine PL.out.mono ?_
  rintro e w1 ⟨rfl, hb1⟩
  have X1 := Lib.hid (X0.out.below hb1)
  have D1 := Lib.hid (D0.out.below hb1)
  have B1 := Lib.hid (Below.then_ B0.out hb1 (Nat.le_refl _))
  have HR1 := Lib.hid (HR.out.below hb1)
  have HV1 := Lib.hid (HV.out.below hb1)
  clear hb1
  go_wp2_with fail
  go_ret
  exact ⟨rfl, B1.out⟩

set_option maxRecDepth 100000 in
set_option maxHeartbeats 8000000 in
theorem s_kind9 (d : Value) (ll : List RuleD) (r : RuleD) (vb vn vt vk : Value) (hkd : r.kind = 9) (hf : ∀ x ∈ r.kids, fits x) (hts : r.tags.length ≤ 1048576) (hnm : ∀ x ∈ r.names, x.size ≤ maxLen) (w : World) (hd : RdDesc w d ll) (h : RdRule w (ruleCells r vb vn vt vk) r) :
    Calls Tryz.prog 110 #[d, .agg #[.string r.name, .int .i64 r.kind, .int .i64 r.size, .bool r.little, vb, vn, vt, vk]] w
      fun e w' => e = .returned (.bool (decide (r.size = 0 ∧ r.bytes.length = 0 ∧ r.names.length = 0 ∧ r.tags.length = 0 ∧ (r.kids.length : Int) = 1 ∧ (r.little = true → r.kind = 1)))) ∧ Below w.heap.size w w' := by
  obtain ⟨v, rfl, hv⟩ := hd
  obtain ⟨⟨Ab, cb, rfl, lb1, lb2⟩, ⟨An, cn, rfl, ln1, ln2⟩, ⟨At, ct, rfl, lt1, lt2⟩, ⟨Ak, ck, rfl, lk1, lk2⟩⟩ := rule_forms h
  unfold maxLen at lb2 ln2 lt2 lk2
  obtain ⟨w0, hw0⟩ : ∃ w0, w0 = (w.alloc (.cells #[v] 35)).alloc (.cells #[.string r.name, .int .i64 9, .int .i64 r.size, .bool r.little, .slice Ab r.bytes.length cb, .slice An r.names.length cn, .slice At r.tags.length ct, .slice Ak r.kids.length ck] 30) := ⟨_, rfl⟩
  have b0 : Below w.heap.size w w0 := by rw [hw0]; exact below_box.alloc (by simp) _
  have d0 : Box w0 w.heap.size 35 #[v] := by rw [hw0]; exact (Box.new _ _ _).alloc _
  have x0 : Box w0 (w.heap.size + 1) 30 #[.string r.name, .int .i64 9, .int .i64 r.size, .bool r.little, .slice Ab r.bytes.length cb, .slice An r.names.length cn, .slice At r.tags.length ct, .slice Ak r.kids.length ck] := by
    rw [hw0]
    have := Box.new (w.alloc (.cells #[v] 35)) 30 #[.string r.name, .int .i64 9, .int .i64 r.size, .bool r.little, .slice Ab r.bytes.length cb, .slice An r.names.length cn, .slice At r.tags.length ct, .slice Ak r.kids.length ck]
    rwa [show (w.alloc (.cells #[v] 35)).heap.size = w.heap.size + 1 from by simp] at this
  have pl := s_plainNone r _ _ _ _ 1 (by omega) w0 (h.below b0)
  obtain ⟨Q, hQ⟩ : ∃ Q, Q = (decide (r.size = 0 ∧ r.bytes.length = 0 ∧ r.names.length = 0 ∧ r.tags.length = 0 ∧ (r.kids.length : Int) = 1 ∧ (r.little = true → r.kind = 1))) := ⟨_, rfl⟩
  rw [← hQ] at pl ⊢
  rw [hkd] at pl ⊢
  have PL := Lib.hid pl
  have HQ := Lib.hid hQ
  have HV := Lib.hid (hv.below b0)
  have HR := Lib.hid (h.below b0)
  have X0 := Lib.hid x0
  have D0 := Lib.hid d0
  have B0 := Lib.hid b0
  have W0 := Lib.hid hw0
  have HFIT := Lib.hid hf
  have HNM := Lib.hid hnm
  have HTS := Lib.hid hts
  have HKD := Lib.hid hkd
  clear pl hQ hv h x0 d0 b0 hw0 hf hnm hts hkd
  go_enter Tryz.func110, Tryz.ntmps110
  go_wp2_with fail
  rw [← W0.out]
  refine PL.out.mono ?_
  rintro e w1 ⟨rfl, hb1⟩
  have X1 := Lib.hid (X0.out.below hb1)
  have D1 := Lib.hid (D0.out.below hb1)
  have B1 := Lib.hid (Below.then_ B0.out hb1 (Nat.le_refl _))
  have HR1 := Lib.hid (HR.out.below hb1)
  have HV1 := Lib.hid (HV.out.below hb1)
  clear hb1
  go_wp2_with fail
  go_ret
  exact ⟨rfl, B1.out⟩

set_option maxRecDepth 100000 in
set_option maxHeartbeats 8000000 in
theorem s_kind10 (d : Value) (ll : List RuleD) (r : RuleD) (vb vn vt vk : Value) (hkd : r.kind = 10) (hf : ∀ x ∈ r.kids, fits x) (hts : r.tags.length ≤ 1048576) (hnm : ∀ x ∈ r.names, x.size ≤ maxLen) (w : World) (hd : RdDesc w d ll) (h : RdRule w (ruleCells r vb vn vt vk) r) :
    Calls Tryz.prog 110 #[d, .agg #[.string r.name, .int .i64 r.kind, .int .i64 r.size, .bool r.little, vb, vn, vt, vk]] w
      fun e w' => e = .returned (.bool (decide (r.size = 0 ∧ r.names.length = 0 ∧ r.tags.length = 0 ∧ (r.kids.length : Int) = 0 ∧ (r.little = true → r.kind = 1)) && (decide (r.bytes.length = 1) && !decide (r.bytes.getD 0 0 = 92)))) ∧ Below w.heap.size w w' := by
  obtain ⟨v, rfl, hv⟩ := hd
  obtain ⟨⟨Ab, cb, rfl, lb1, lb2⟩, ⟨An, cn, rfl, ln1, ln2⟩, ⟨At, ct, rfl, lt1, lt2⟩, ⟨Ak, ck, rfl, lk1, lk2⟩⟩ := rule_forms h
  unfold maxLen at lb2 ln2 lt2 lk2
  obtain ⟨w0, hw0⟩ : ∃ w0, w0 = (w.alloc (.cells #[v] 35)).alloc (.cells #[.string r.name, .int .i64 10, .int .i64 r.size, .bool r.little, .slice Ab r.bytes.length cb, .slice An r.names.length cn, .slice At r.tags.length ct, .slice Ak r.kids.length ck] 30) := ⟨_, rfl⟩
  have b0 : Below w.heap.size w w0 := by rw [hw0]; exact below_box.alloc (by simp) _
  have d0 : Box w0 w.heap.size 35 #[v] := by rw [hw0]; exact (Box.new _ _ _).alloc _
  have x0 : Box w0 (w.heap.size + 1) 30 #[.string r.name, .int .i64 10, .int .i64 r.size, .bool r.little, .slice Ab r.bytes.length cb, .slice An r.names.length cn, .slice At r.tags.length ct, .slice Ak r.kids.length ck] := by
    rw [hw0]
    have := Box.new (w.alloc (.cells #[v] 35)) 30 #[.string r.name, .int .i64 10, .int .i64 r.size, .bool r.little, .slice Ab r.bytes.length cb, .slice An r.names.length cn, .slice At r.tags.length ct, .slice Ak r.kids.length ck]
    rwa [show (w.alloc (.cells #[v] 35)).heap.size = w.heap.size + 1 from by simp] at this
  have pl := s_plainBytes r _ _ _ _ 0 (by omega) w0 (h.below b0)
  obtain ⟨Q, hQ⟩ : ∃ Q, Q = (decide (r.size = 0 ∧ r.names.length = 0 ∧ r.tags.length = 0 ∧ (r.kids.length : Int) = 0 ∧ (r.little = true → r.kind = 1))) := ⟨_, rfl⟩
  rw [← hQ] at pl ⊢
  rw [hkd] at pl ⊢
  have PL := Lib.hid pl
  have HQ := Lib.hid hQ
  have HV := Lib.hid (hv.below b0)
  have HR := Lib.hid (h.below b0)
  have X0 := Lib.hid x0
  have D0 := Lib.hid d0
  have B0 := Lib.hid b0
  have W0 := Lib.hid hw0
  have HFIT := Lib.hid hf
  have HNM := Lib.hid hnm
  have HTS := Lib.hid hts
  have HKD := Lib.hid hkd
  obtain ⟨u, hu⟩ : ∃ u, u = r.bytes.getD 0 0 := ⟨_, rfl⟩
  rw [← hu]
  have HU := Lib.hid hu
  clear hu
  clear pl hQ hv h x0 d0 b0 hw0 hf hnm hts hkd
  go_enter Tryz.func110, Tryz.ntmps110
  go_wp2_with fail
  rw [← W0.out]
  refine PL.out.mono ?_
  rintro e w1 ⟨rfl, hb1⟩
  have X1 := Lib.hid (X0.out.below hb1)
  have D1 := Lib.hid (D0.out.below hb1)
  have B1 := Lib.hid (Below.then_ B0.out hb1 (Nat.le_refl _))
  have HR1 := Lib.hid (HR.out.below hb1)
  have HV1 := Lib.hid (HV.out.below hb1)
  clear hb1
  cases Q
  · go_wp2_with fail
    go_ret
    exact ⟨rfl, B1.out⟩
  · have k1 := X1.out.cell 4
    by_cases hb : r.bytes.length = 1
    · have e1 : ((r.bytes.length : Int) == 1) = true := by rw [beq_iff_eq]; omega
      have e2 : decide (r.bytes.length = 1) = true := decide_eq_true hb
      obtain ⟨bb, ob, rfl, hbyte⟩ : ∃ b off, Ab = some ⟨b, off, none⟩ ∧ w1.cell? ⟨b, off, none⟩ = some (.int .u8 ((r.bytes.getD 0 0).toNat : Int)) := by
        obtain ⟨_, A9, c9, ev, _, _, hc9⟩ := (rdRule_parts HR1.out).1
        injection ev with ev1 _ _
        obtain ⟨b9, o9, eb, hc⟩ := hc9 (by rw [cB_len]; omega)
        have hl : 0 < r.bytes.length := by omega
        have hx := hc 0 _ (cB_at hl)
        rw [show r.bytes[0] = r.bytes.getD 0 0 from by simp [List.getD, hl]] at hx
        exact ⟨b9, o9, by rw [ev1, eb], hx⟩
      rw [← HU.out] at hbyte
      have hlb : (0 : Int) < (r.bytes.length : Int) := by omega
      clear hb
      by_cases h92 : u = 92
      · subst h92
        have h92 : ((92 : UInt8).toNat : Int) = 92 := rfl
        rw [h92] at hbyte
        go_wp2_with fail
        go_ret
        exact ⟨ret_bool (by simp), B1.out⟩
      · have e3 : (((u.toNat : Nat) : Int) == 92) = false := by
          rw [beq_eq_false_iff_ne]
          intro hc
          apply h92
          apply UInt8.toNat_inj.1
          have : (92 : UInt8).toNat = 92 := rfl
          omega
        have e4 : decide (u = 92) = false := decide_eq_false h92
        have e5 : decide (((u.toNat : Nat) : Int) = 92) = false := by
          have := beq_eq_false_iff_ne.1 e3
          exact decide_eq_false this
        have e6 : Hid (¬ ((u.toNat : Int) = 92)) := of_decide_eq_false e5
        clear h92
        go_wp2_with fail
        go_ret
        exact ⟨ret_bool (by simpa [e2, e4] using e6.out), B1.out⟩
    · have e1 : ((r.bytes.length : Int) == 1) = false := by rw [beq_eq_false_iff_ne]; omega
      have e2 : decide (r.bytes.length = 1) = false := decide_eq_false hb
      have e3 : decide ((r.bytes.length : Int) = 1) = false := by apply decide_eq_false; omega
      clear hb
      go_wp2_with fail
      go_ret
      exact ⟨ret_bool (by rw [e2]; simp), B1.out⟩

set_option maxRecDepth 100000 in
set_option maxHeartbeats 8000000 in
theorem s_kindNo (v : Value) (r : RuleD) (vb vn vt vk : Value) (hkd : ¬ (1 ≤ r.kind ∧ r.kind ≤ 10)) (w : World) :
    Calls Tryz.prog 110 #[.agg #[v], .agg #[.string r.name, .int .i64 r.kind, .int .i64 r.size, .bool r.little, vb, vn, vt, vk]] w
      fun e w' => e = .returned (.bool false) ∧ Below w.heap.size w w' := by
  obtain ⟨K, hK⟩ : ∃ K, K = r.kind := ⟨_, rfl⟩
  rw [← hK] at hkd ⊢
  clear hK
  have e1 : (K == 1) = false := by rw [beq_eq_false_iff_ne]; omega
  have f1 : decide (K = 1) = false := by apply decide_eq_false; omega
  have e2 : (K == 2) = false := by rw [beq_eq_false_iff_ne]; omega
  have f2 : decide (K = 2) = false := by apply decide_eq_false; omega
  have e3 : (K == 3) = false := by rw [beq_eq_false_iff_ne]; omega
  have f3 : decide (K = 3) = false := by apply decide_eq_false; omega
  have e4 : (K == 4) = false := by rw [beq_eq_false_iff_ne]; omega
  have f4 : decide (K = 4) = false := by apply decide_eq_false; omega
  have e5 : (K == 5) = false := by rw [beq_eq_false_iff_ne]; omega
  have f5 : decide (K = 5) = false := by apply decide_eq_false; omega
  have e6 : (K == 6) = false := by rw [beq_eq_false_iff_ne]; omega
  have f6 : decide (K = 6) = false := by apply decide_eq_false; omega
  have e7 : (K == 7) = false := by rw [beq_eq_false_iff_ne]; omega
  have f7 : decide (K = 7) = false := by apply decide_eq_false; omega
  have e8 : (K == 8) = false := by rw [beq_eq_false_iff_ne]; omega
  have f8 : decide (K = 8) = false := by apply decide_eq_false; omega
  have e9 : (K == 9) = false := by rw [beq_eq_false_iff_ne]; omega
  have f9 : decide (K = 9) = false := by apply decide_eq_false; omega
  have e10 : (K == 10) = false := by rw [beq_eq_false_iff_ne]; omega
  have f10 : decide (K = 10) = false := by apply decide_eq_false; omega
  have B0 := Lib.hid (show Below w.heap.size w ((w.alloc (.cells #[v] 35)).alloc (.cells #[.string r.name, .int .i64 K, .int .i64 r.size, .bool r.little, vb, vn, vt, vk] 30)) from below_box.alloc (by simp) _)
  clear hkd
  go_enter Tryz.func110, Tryz.ntmps110
  go_wp2_with fail
  go_ret
  exact ⟨rfl, B0.out⟩

end Go.Proofs.YtkjjgpkegihmhaaGreatDoor
