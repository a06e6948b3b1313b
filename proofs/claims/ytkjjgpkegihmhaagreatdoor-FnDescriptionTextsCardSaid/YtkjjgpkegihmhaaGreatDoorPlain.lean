/-
  plainRule, l4Shape: whether only the fields are used that a kind mentions.
-/
import Derived.Test.YtkjjgpkegihmhaaGreatDoorGB
import Derived.BigGuard
namespace Go.Proofs.YtkjjgpkegihmhaaGreatDoor
open Go.RowKit
set_option linter.unusedVariables false

theorem rule_box {w : World} {r : RuleD} {vb vn vt vk : Value} : Below w.heap.size w (w.alloc (.cells #[.string r.name, .int .i64 r.kind, .int .i64 r.size, .bool r.little, vb, vn, vt, vk] 30)) := (Below.refl _ _).alloc (Nat.le_refl _) _
theorem rule_forms {w : World} {r : RuleD} {vb vn vt vk : Value} (h : RdRule w (ruleCells r vb vn vt vk) r) :
    (∃ A c, vb = .slice A r.bytes.length c ∧ r.bytes.length ≤ c ∧ c ≤ maxLen) ∧ (∃ A c, vn = .slice A r.names.length c ∧ r.names.length ≤ c ∧ c ≤ maxLen) ∧ (∃ A c, vt = .slice A r.tags.length c ∧ r.tags.length ≤ c ∧ c ≤ maxLen) ∧ (∃ A c, vk = .slice A r.kids.length c ∧ r.kids.length ≤ c ∧ c ≤ maxLen) := by
  obtain ⟨⟨_, A1, c1, e1, f1, g1, _⟩, ⟨_, A2, c2, e2, f2, g2, _⟩, ⟨_, A3, c3, e3, f3, g3, _⟩, ⟨_, A4, c4, e4, f4, g4, _⟩⟩ := rdRule_parts h
  exact ⟨⟨A1, c1, e1, f1, g1⟩, ⟨A2, c2, e2, f2, g2⟩, ⟨A3, c3, e3, f3, g3⟩, ⟨A4, c4, e4, f4, g4⟩⟩

set_option maxHeartbeats 4000000 in
theorem i_plainSize (r : RuleD) (vb vn vt vk : Value) (k : Int) (hk : 0 ≤ k) (w : World) (h : RdRule w (ruleCells r vb vn vt vk) r) :
    Calls Tryz.prog 139 #[.agg #[.string r.name, .int .i64 r.kind, .int .i64 r.size, .bool r.little, vb, vn, vt, vk], .bool true, .bool false, .bool false, .bool false, .int .i64 k] w
      fun e w' => e = .returned (.bool (decide (r.bytes.length = 0 ∧ r.names.length = 0 ∧ r.tags.length = 0 ∧ (r.kids.length : Int) = k))) ∧ Below w.heap.size w w' := by
  obtain ⟨⟨Ab, cb, rfl, lb1, lb2⟩, ⟨An, cn, rfl, ln1, ln2⟩, ⟨At, ct, rfl, lt1, lt2⟩, ⟨Ak, ck, rfl, lk1, lk2⟩⟩ := rule_forms h
  unfold maxLen at lb2 ln2 lt2 lk2
  obtain ⟨D, hD⟩ : ∃ D, D = decide (r.bytes.length = 0 ∧ r.names.length = 0 ∧ r.tags.length = 0 ∧ (r.kids.length : Int) = k) := ⟨_, rfl⟩
  have yes : (r.bytes.length = 0 ∧ r.names.length = 0 ∧ r.tags.length = 0 ∧ (r.kids.length : Int) = k) → Hid (true = D) := fun h => by show _ = _; rw [hD]; exact (decide_eq_true h).symm
  have no : ¬ (r.bytes.length = 0 ∧ r.names.length = 0 ∧ r.tags.length = 0 ∧ (r.kids.length : Int) = k) → Hid (false = D) := fun h => by show _ = _; rw [hD]; exact (decide_eq_false h).symm
  rw [← hD]
  clear hD h
  have dk : decide (k < 0) = false := by simp; omega
  by_cases h0 : r.bytes.length = 0
  · have e0 : ((r.bytes.length : Int) == 0) = true := by rw [beq_iff_eq]; omega
    by_cases h1 : r.names.length = 0
    · have e1 : ((r.names.length : Int) == 0) = true := by rw [beq_iff_eq]; omega
      by_cases h2 : r.tags.length = 0
      · have e2 : ((r.tags.length : Int) == 0) = true := by rw [beq_iff_eq]; omega
        by_cases h3 : (r.kids.length : Int) = k
        · have e3 : ((r.kids.length : Int) == k) = true := by rw [beq_iff_eq]; omega
          have hfin := yes ⟨h0, h1, h2, h3⟩
          clear yes no h0 h1 h2 h3
          go_enter Tryz.func139, Tryz.ntmps139
          go_wp2_with fail
          go_ret
          exact ⟨ret_bool hfin.out, (Below.refl _ _).alloc (Nat.le_refl _) _⟩
        · have e3 : ((r.kids.length : Int) == k) = false := by rw [beq_eq_false_iff_ne]; omega
          have hfin := no (fun h => h3 h.2.2.2)
          clear yes no h3
          go_enter Tryz.func139, Tryz.ntmps139
          go_wp2_with fail
          go_ret
          exact ⟨ret_bool hfin.out, (Below.refl _ _).alloc (Nat.le_refl _) _⟩
      · have e2 : ((r.tags.length : Int) == 0) = false := by rw [beq_eq_false_iff_ne]; omega
        have hfin := no (fun h => h2 h.2.2.1)
        clear yes no h2
        go_enter Tryz.func139, Tryz.ntmps139
        go_wp2_with fail
        go_ret
        exact ⟨ret_bool hfin.out, (Below.refl _ _).alloc (Nat.le_refl _) _⟩
    · have e1 : ((r.names.length : Int) == 0) = false := by rw [beq_eq_false_iff_ne]; omega
      have hfin := no (fun h => h1 h.2.1)
      clear yes no h1
      go_enter Tryz.func139, Tryz.ntmps139
      go_wp2_with fail
      go_ret
      exact ⟨ret_bool hfin.out, (Below.refl _ _).alloc (Nat.le_refl _) _⟩
  · have e0 : ((r.bytes.length : Int) == 0) = false := by rw [beq_eq_false_iff_ne]; omega
    have hfin := no (fun h => h0 h.1)
    clear yes no h0
    go_enter Tryz.func139, Tryz.ntmps139
    go_wp2_with fail
    go_ret
    exact ⟨ret_bool hfin.out, (Below.refl _ _).alloc (Nat.le_refl _) _⟩

set_option maxHeartbeats 4000000 in
theorem i_plainBytes (r : RuleD) (vb vn vt vk : Value) (k : Int) (hk : 0 ≤ k) (w : World) (h : RdRule w (ruleCells r vb vn vt vk) r) :
    Calls Tryz.prog 139 #[.agg #[.string r.name, .int .i64 r.kind, .int .i64 r.size, .bool r.little, vb, vn, vt, vk], .bool false, .bool true, .bool false, .bool false, .int .i64 k] w
      fun e w' => e = .returned (.bool (decide (r.size = 0 ∧ r.names.length = 0 ∧ r.tags.length = 0 ∧ (r.kids.length : Int) = k))) ∧ Below w.heap.size w w' := by
  obtain ⟨⟨Ab, cb, rfl, lb1, lb2⟩, ⟨An, cn, rfl, ln1, ln2⟩, ⟨At, ct, rfl, lt1, lt2⟩, ⟨Ak, ck, rfl, lk1, lk2⟩⟩ := rule_forms h
  unfold maxLen at lb2 ln2 lt2 lk2
  obtain ⟨D, hD⟩ : ∃ D, D = decide (r.size = 0 ∧ r.names.length = 0 ∧ r.tags.length = 0 ∧ (r.kids.length : Int) = k) := ⟨_, rfl⟩
  have yes : (r.size = 0 ∧ r.names.length = 0 ∧ r.tags.length = 0 ∧ (r.kids.length : Int) = k) → Hid (true = D) := fun h => by show _ = _; rw [hD]; exact (decide_eq_true h).symm
  have no : ¬ (r.size = 0 ∧ r.names.length = 0 ∧ r.tags.length = 0 ∧ (r.kids.length : Int) = k) → Hid (false = D) := fun h => by show _ = _; rw [hD]; exact (decide_eq_false h).symm
  rw [← hD]
  clear hD h
  have dk : decide (k < 0) = false := by simp; omega
  by_cases h0 : r.size = 0
  · have e0 : (r.size == 0) = true := by rw [beq_iff_eq]; omega
    by_cases h1 : r.names.length = 0
    · have e1 : ((r.names.length : Int) == 0) = true := by rw [beq_iff_eq]; omega
      by_cases h2 : r.tags.length = 0
      · have e2 : ((r.tags.length : Int) == 0) = true := by rw [beq_iff_eq]; omega
        by_cases h3 : (r.kids.length : Int) = k
        · have e3 : ((r.kids.length : Int) == k) = true := by rw [beq_iff_eq]; omega
          have hfin := yes ⟨h0, h1, h2, h3⟩
          clear yes no h0 h1 h2 h3
          go_enter Tryz.func139, Tryz.ntmps139
          go_wp2_with fail
          go_ret
          exact ⟨ret_bool hfin.out, (Below.refl _ _).alloc (Nat.le_refl _) _⟩
        · have e3 : ((r.kids.length : Int) == k) = false := by rw [beq_eq_false_iff_ne]; omega
          have hfin := no (fun h => h3 h.2.2.2)
          clear yes no h3
          go_enter Tryz.func139, Tryz.ntmps139
          go_wp2_with fail
          go_ret
          exact ⟨ret_bool hfin.out, (Below.refl _ _).alloc (Nat.le_refl _) _⟩
      · have e2 : ((r.tags.length : Int) == 0) = false := by rw [beq_eq_false_iff_ne]; omega
        have hfin := no (fun h => h2 h.2.2.1)
        clear yes no h2
        go_enter Tryz.func139, Tryz.ntmps139
        go_wp2_with fail
        go_ret
        exact ⟨ret_bool hfin.out, (Below.refl _ _).alloc (Nat.le_refl _) _⟩
    · have e1 : ((r.names.length : Int) == 0) = false := by rw [beq_eq_false_iff_ne]; omega
      have hfin := no (fun h => h1 h.2.1)
      clear yes no h1
      go_enter Tryz.func139, Tryz.ntmps139
      go_wp2_with fail
      go_ret
      exact ⟨ret_bool hfin.out, (Below.refl _ _).alloc (Nat.le_refl _) _⟩
  · have e0 : (r.size == 0) = false := by rw [beq_eq_false_iff_ne]; omega
    have hfin := no (fun h => h0 h.1)
    clear yes no h0
    go_enter Tryz.func139, Tryz.ntmps139
    go_wp2_with fail
    go_ret
    exact ⟨ret_bool hfin.out, (Below.refl _ _).alloc (Nat.le_refl _) _⟩

set_option maxHeartbeats 4000000 in
theorem i_plainNone (r : RuleD) (vb vn vt vk : Value) (k : Int) (hk : 0 ≤ k) (w : World) (h : RdRule w (ruleCells r vb vn vt vk) r) :
    Calls Tryz.prog 139 #[.agg #[.string r.name, .int .i64 r.kind, .int .i64 r.size, .bool r.little, vb, vn, vt, vk], .bool false, .bool false, .bool false, .bool false, .int .i64 k] w
      fun e w' => e = .returned (.bool (decide (r.size = 0 ∧ r.bytes.length = 0 ∧ r.names.length = 0 ∧ r.tags.length = 0 ∧ (r.kids.length : Int) = k))) ∧ Below w.heap.size w w' := by
  obtain ⟨⟨Ab, cb, rfl, lb1, lb2⟩, ⟨An, cn, rfl, ln1, ln2⟩, ⟨At, ct, rfl, lt1, lt2⟩, ⟨Ak, ck, rfl, lk1, lk2⟩⟩ := rule_forms h
  unfold maxLen at lb2 ln2 lt2 lk2
  obtain ⟨D, hD⟩ : ∃ D, D = decide (r.size = 0 ∧ r.bytes.length = 0 ∧ r.names.length = 0 ∧ r.tags.length = 0 ∧ (r.kids.length : Int) = k) := ⟨_, rfl⟩
  have yes : (r.size = 0 ∧ r.bytes.length = 0 ∧ r.names.length = 0 ∧ r.tags.length = 0 ∧ (r.kids.length : Int) = k) → Hid (true = D) := fun h => by show _ = _; rw [hD]; exact (decide_eq_true h).symm
  have no : ¬ (r.size = 0 ∧ r.bytes.length = 0 ∧ r.names.length = 0 ∧ r.tags.length = 0 ∧ (r.kids.length : Int) = k) → Hid (false = D) := fun h => by show _ = _; rw [hD]; exact (decide_eq_false h).symm
  rw [← hD]
  clear hD h
  have dk : decide (k < 0) = false := by simp; omega
  by_cases h0 : r.size = 0
  · have e0 : (r.size == 0) = true := by rw [beq_iff_eq]; omega
    by_cases h1 : r.bytes.length = 0
    · have e1 : ((r.bytes.length : Int) == 0) = true := by rw [beq_iff_eq]; omega
      by_cases h2 : r.names.length = 0
      · have e2 : ((r.names.length : Int) == 0) = true := by rw [beq_iff_eq]; omega
        by_cases h3 : r.tags.length = 0
        · have e3 : ((r.tags.length : Int) == 0) = true := by rw [beq_iff_eq]; omega
          by_cases h4 : (r.kids.length : Int) = k
          · have e4 : ((r.kids.length : Int) == k) = true := by rw [beq_iff_eq]; omega
            have hfin := yes ⟨h0, h1, h2, h3, h4⟩
            clear yes no h0 h1 h2 h3 h4
            go_enter Tryz.func139, Tryz.ntmps139
            go_wp2_with fail
            go_ret
            exact ⟨ret_bool hfin.out, (Below.refl _ _).alloc (Nat.le_refl _) _⟩
          · have e4 : ((r.kids.length : Int) == k) = false := by rw [beq_eq_false_iff_ne]; omega
            have hfin := no (fun h => h4 h.2.2.2.2)
            clear yes no h4
            go_enter Tryz.func139, Tryz.ntmps139
            go_wp2_with fail
            go_ret
            exact ⟨ret_bool hfin.out, (Below.refl _ _).alloc (Nat.le_refl _) _⟩
        · have e3 : ((r.tags.length : Int) == 0) = false := by rw [beq_eq_false_iff_ne]; omega
          have hfin := no (fun h => h3 h.2.2.2.1)
          clear yes no h3
          go_enter Tryz.func139, Tryz.ntmps139
          go_wp2_with fail
          go_ret
          exact ⟨ret_bool hfin.out, (Below.refl _ _).alloc (Nat.le_refl _) _⟩
      · have e2 : ((r.names.length : Int) == 0) = false := by rw [beq_eq_false_iff_ne]; omega
        have hfin := no (fun h => h2 h.2.2.1)
        clear yes no h2
        go_enter Tryz.func139, Tryz.ntmps139
        go_wp2_with fail
        go_ret
        exact ⟨ret_bool hfin.out, (Below.refl _ _).alloc (Nat.le_refl _) _⟩
    · have e1 : ((r.bytes.length : Int) == 0) = false := by rw [beq_eq_false_iff_ne]; omega
      have hfin := no (fun h => h1 h.2.1)
      clear yes no h1
      go_enter Tryz.func139, Tryz.ntmps139
      go_wp2_with fail
      go_ret
      exact ⟨ret_bool hfin.out, (Below.refl _ _).alloc (Nat.le_refl _) _⟩
  · have e0 : (r.size == 0) = false := by rw [beq_eq_false_iff_ne]; omega
    have hfin := no (fun h => h0 h.1)
    clear yes no h0
    go_enter Tryz.func139, Tryz.ntmps139
    go_wp2_with fail
    go_ret
    exact ⟨ret_bool hfin.out, (Below.refl _ _).alloc (Nat.le_refl _) _⟩

set_option maxHeartbeats 4000000 in
theorem i_plainNames (r : RuleD) (vb vn vt vk : Value) (w : World) (h : RdRule w (ruleCells r vb vn vt vk) r) :
    Calls Tryz.prog 139 #[.agg #[.string r.name, .int .i64 r.kind, .int .i64 r.size, .bool r.little, vb, vn, vt, vk], .bool false, .bool false, .bool true, .bool false, .int .i64 (-1)] w
      fun e w' => e = .returned (.bool (decide (r.size = 0 ∧ r.bytes.length = 0 ∧ r.tags.length = 0))) ∧ Below w.heap.size w w' := by
  obtain ⟨⟨Ab, cb, rfl, lb1, lb2⟩, ⟨An, cn, rfl, ln1, ln2⟩, ⟨At, ct, rfl, lt1, lt2⟩, ⟨Ak, ck, rfl, lk1, lk2⟩⟩ := rule_forms h
  unfold maxLen at lb2 ln2 lt2 lk2
  obtain ⟨D, hD⟩ : ∃ D, D = decide (r.size = 0 ∧ r.bytes.length = 0 ∧ r.tags.length = 0) := ⟨_, rfl⟩
  have yes : (r.size = 0 ∧ r.bytes.length = 0 ∧ r.tags.length = 0) → Hid (true = D) := fun h => by show _ = _; rw [hD]; exact (decide_eq_true h).symm
  have no : ¬ (r.size = 0 ∧ r.bytes.length = 0 ∧ r.tags.length = 0) → Hid (false = D) := fun h => by show _ = _; rw [hD]; exact (decide_eq_false h).symm
  rw [← hD]
  clear hD h
  by_cases h0 : r.size = 0
  · have e0 : (r.size == 0) = true := by rw [beq_iff_eq]; omega
    by_cases h1 : r.bytes.length = 0
    · have e1 : ((r.bytes.length : Int) == 0) = true := by rw [beq_iff_eq]; omega
      by_cases h2 : r.tags.length = 0
      · have e2 : ((r.tags.length : Int) == 0) = true := by rw [beq_iff_eq]; omega
        have hfin := yes ⟨h0, h1, h2⟩
        clear yes no h0 h1 h2
        go_enter Tryz.func139, Tryz.ntmps139
        go_wp2_with fail
        go_ret
        exact ⟨ret_bool hfin.out, (Below.refl _ _).alloc (Nat.le_refl _) _⟩
      · have e2 : ((r.tags.length : Int) == 0) = false := by rw [beq_eq_false_iff_ne]; omega
        have hfin := no (fun h => h2 h.2.2)
        clear yes no h2
        go_enter Tryz.func139, Tryz.ntmps139
        go_wp2_with fail
        go_ret
        exact ⟨ret_bool hfin.out, (Below.refl _ _).alloc (Nat.le_refl _) _⟩
    · have e1 : ((r.bytes.length : Int) == 0) = false := by rw [beq_eq_false_iff_ne]; omega
      have hfin := no (fun h => h1 h.2.1)
      clear yes no h1
      go_enter Tryz.func139, Tryz.ntmps139
      go_wp2_with fail
      go_ret
      exact ⟨ret_bool hfin.out, (Below.refl _ _).alloc (Nat.le_refl _) _⟩
  · have e0 : (r.size == 0) = false := by rw [beq_eq_false_iff_ne]; omega
    have hfin := no (fun h => h0 h.1)
    clear yes no h0
    go_enter Tryz.func139, Tryz.ntmps139
    go_wp2_with fail
    go_ret
    exact ⟨ret_bool hfin.out, (Below.refl _ _).alloc (Nat.le_refl _) _⟩

set_option maxHeartbeats 4000000 in
theorem i_plainTagsK (r : RuleD) (vb vn vt vk : Value) (k : Int) (hk : 0 ≤ k) (w : World) (h : RdRule w (ruleCells r vb vn vt vk) r) :
    Calls Tryz.prog 139 #[.agg #[.string r.name, .int .i64 r.kind, .int .i64 r.size, .bool r.little, vb, vn, vt, vk], .bool false, .bool false, .bool false, .bool true, .int .i64 k] w
      fun e w' => e = .returned (.bool (decide (r.size = 0 ∧ r.bytes.length = 0 ∧ r.names.length = 0 ∧ (r.kids.length : Int) = k))) ∧ Below w.heap.size w w' := by
  obtain ⟨⟨Ab, cb, rfl, lb1, lb2⟩, ⟨An, cn, rfl, ln1, ln2⟩, ⟨At, ct, rfl, lt1, lt2⟩, ⟨Ak, ck, rfl, lk1, lk2⟩⟩ := rule_forms h
  unfold maxLen at lb2 ln2 lt2 lk2
  obtain ⟨D, hD⟩ : ∃ D, D = decide (r.size = 0 ∧ r.bytes.length = 0 ∧ r.names.length = 0 ∧ (r.kids.length : Int) = k) := ⟨_, rfl⟩
  have yes : (r.size = 0 ∧ r.bytes.length = 0 ∧ r.names.length = 0 ∧ (r.kids.length : Int) = k) → Hid (true = D) := fun h => by show _ = _; rw [hD]; exact (decide_eq_true h).symm
  have no : ¬ (r.size = 0 ∧ r.bytes.length = 0 ∧ r.names.length = 0 ∧ (r.kids.length : Int) = k) → Hid (false = D) := fun h => by show _ = _; rw [hD]; exact (decide_eq_false h).symm
  rw [← hD]
  clear hD h
  have dk : decide (k < 0) = false := by simp; omega
  by_cases h0 : r.size = 0
  · have e0 : (r.size == 0) = true := by rw [beq_iff_eq]; omega
    by_cases h1 : r.bytes.length = 0
    · have e1 : ((r.bytes.length : Int) == 0) = true := by rw [beq_iff_eq]; omega
      by_cases h2 : r.names.length = 0
      · have e2 : ((r.names.length : Int) == 0) = true := by rw [beq_iff_eq]; omega
        by_cases h3 : (r.kids.length : Int) = k
        · have e3 : ((r.kids.length : Int) == k) = true := by rw [beq_iff_eq]; omega
          have hfin := yes ⟨h0, h1, h2, h3⟩
          clear yes no h0 h1 h2 h3
          go_enter Tryz.func139, Tryz.ntmps139
          go_wp2_with fail
          go_ret
          exact ⟨ret_bool hfin.out, (Below.refl _ _).alloc (Nat.le_refl _) _⟩
        · have e3 : ((r.kids.length : Int) == k) = false := by rw [beq_eq_false_iff_ne]; omega
          have hfin := no (fun h => h3 h.2.2.2)
          clear yes no h3
          go_enter Tryz.func139, Tryz.ntmps139
          go_wp2_with fail
          go_ret
          exact ⟨ret_bool hfin.out, (Below.refl _ _).alloc (Nat.le_refl _) _⟩
      · have e2 : ((r.names.length : Int) == 0) = false := by rw [beq_eq_false_iff_ne]; omega
        have hfin := no (fun h => h2 h.2.2.1)
        clear yes no h2
        go_enter Tryz.func139, Tryz.ntmps139
        go_wp2_with fail
        go_ret
        exact ⟨ret_bool hfin.out, (Below.refl _ _).alloc (Nat.le_refl _) _⟩
    · have e1 : ((r.bytes.length : Int) == 0) = false := by rw [beq_eq_false_iff_ne]; omega
      have hfin := no (fun h => h1 h.2.1)
      clear yes no h1
      go_enter Tryz.func139, Tryz.ntmps139
      go_wp2_with fail
      go_ret
      exact ⟨ret_bool hfin.out, (Below.refl _ _).alloc (Nat.le_refl _) _⟩
  · have e0 : (r.size == 0) = false := by rw [beq_eq_false_iff_ne]; omega
    have hfin := no (fun h => h0 h.1)
    clear yes no h0
    go_enter Tryz.func139, Tryz.ntmps139
    go_wp2_with fail
    go_ret
    exact ⟨ret_bool hfin.out, (Below.refl _ _).alloc (Nat.le_refl _) _⟩

set_option maxHeartbeats 4000000 in
theorem s_plainSize (r : RuleD) (vb vn vt vk : Value) (k : Int) (hk : 0 ≤ k) (w : World) (h : RdRule w (ruleCells r vb vn vt vk) r) :
    Calls Tryz.prog 132 #[.agg #[.string r.name, .int .i64 r.kind, .int .i64 r.size, .bool r.little, vb, vn, vt, vk], .bool true, .bool false, .bool false, .bool false, .int .i64 k] w
      fun e w' => e = .returned (.bool (decide (r.bytes.length = 0 ∧ r.names.length = 0 ∧ r.tags.length = 0 ∧ (r.kids.length : Int) = k ∧ (r.little = true → r.kind = 1)))) ∧ Below w.heap.size w w' := by
  obtain ⟨⟨Ab, cb, rfl, lb1, lb2⟩, ⟨An, cn, rfl, ln1, ln2⟩, ⟨At, ct, rfl, lt1, lt2⟩, ⟨Ak, ck, rfl, lk1, lk2⟩⟩ := rule_forms h
  unfold maxLen at lb2 ln2 lt2 lk2
  obtain ⟨D, hD⟩ : ∃ D, D = decide (r.bytes.length = 0 ∧ r.names.length = 0 ∧ r.tags.length = 0 ∧ (r.kids.length : Int) = k ∧ (r.little = true → r.kind = 1)) := ⟨_, rfl⟩
  have yes : (r.bytes.length = 0 ∧ r.names.length = 0 ∧ r.tags.length = 0 ∧ (r.kids.length : Int) = k ∧ (r.little = true → r.kind = 1)) → Hid (true = D) := fun h => by show _ = _; rw [hD]; exact (decide_eq_true h).symm
  have no : ¬ (r.bytes.length = 0 ∧ r.names.length = 0 ∧ r.tags.length = 0 ∧ (r.kids.length : Int) = k ∧ (r.little = true → r.kind = 1)) → Hid (false = D) := fun h => by show _ = _; rw [hD]; exact (decide_eq_false h).symm
  rw [← hD]
  clear hD h
  have dk : decide (k < 0) = false := by simp; omega
  by_cases h0 : r.bytes.length = 0
  · have e0 : ((r.bytes.length : Int) == 0) = true := by rw [beq_iff_eq]; omega
    by_cases h1 : r.names.length = 0
    · have e1 : ((r.names.length : Int) == 0) = true := by rw [beq_iff_eq]; omega
      by_cases h2 : r.tags.length = 0
      · have e2 : ((r.tags.length : Int) == 0) = true := by rw [beq_iff_eq]; omega
        by_cases h3 : (r.kids.length : Int) = k
        · have e3 : ((r.kids.length : Int) == k) = true := by rw [beq_iff_eq]; omega
          by_cases hl : r.little = true
          · by_cases hkd : r.kind = 1
            · have e8 : (r.kind == 1) = true := by rw [hkd]; rfl
              have hfin := yes ⟨h0, h1, h2, h3, fun _ => hkd⟩
              clear yes no h0 h1 h2 h3 hkd
              go_enter Tryz.func132, Tryz.ntmps132
              go_wp2_with fail
              go_ret
              exact ⟨ret_bool hfin.out, (Below.refl _ _).alloc (Nat.le_refl _) _⟩
            · have e8 : (r.kind == 1) = false := by rw [beq_eq_false_iff_ne]; exact hkd
              have hfin := no (fun h => hkd (h.2.2.2.2 hl))
              clear yes no h0 h1 h2 h3 hkd
              go_enter Tryz.func132, Tryz.ntmps132
              go_wp2_with fail
              go_ret
              exact ⟨ret_bool hfin.out, (Below.refl _ _).alloc (Nat.le_refl _) _⟩
          · have hl' : r.little = false := by simpa using hl
            have hfin := yes ⟨h0, h1, h2, h3, fun h => absurd h hl⟩
            clear yes no h0 h1 h2 h3 hl
            go_enter Tryz.func132, Tryz.ntmps132
            go_wp2_with fail
            go_ret
            exact ⟨ret_bool hfin.out, (Below.refl _ _).alloc (Nat.le_refl _) _⟩
        · have e3 : ((r.kids.length : Int) == k) = false := by rw [beq_eq_false_iff_ne]; omega
          have hfin := no (fun h => h3 h.2.2.2.1)
          clear yes no h3
          go_enter Tryz.func132, Tryz.ntmps132
          go_wp2_with fail
          go_ret
          exact ⟨ret_bool hfin.out, (Below.refl _ _).alloc (Nat.le_refl _) _⟩
      · have e2 : ((r.tags.length : Int) == 0) = false := by rw [beq_eq_false_iff_ne]; omega
        have hfin := no (fun h => h2 h.2.2.1)
        clear yes no h2
        go_enter Tryz.func132, Tryz.ntmps132
        go_wp2_with fail
        go_ret
        exact ⟨ret_bool hfin.out, (Below.refl _ _).alloc (Nat.le_refl _) _⟩
    · have e1 : ((r.names.length : Int) == 0) = false := by rw [beq_eq_false_iff_ne]; omega
      have hfin := no (fun h => h1 h.2.1)
      clear yes no h1
      go_enter Tryz.func132, Tryz.ntmps132
      go_wp2_with fail
      go_ret
      exact ⟨ret_bool hfin.out, (Below.refl _ _).alloc (Nat.le_refl _) _⟩
  · have e0 : ((r.bytes.length : Int) == 0) = false := by rw [beq_eq_false_iff_ne]; omega
    have hfin := no (fun h => h0 h.1)
    clear yes no h0
    go_enter Tryz.func132, Tryz.ntmps132
    go_wp2_with fail
    go_ret
    exact ⟨ret_bool hfin.out, (Below.refl _ _).alloc (Nat.le_refl _) _⟩

set_option maxHeartbeats 4000000 in
theorem s_plainBytes (r : RuleD) (vb vn vt vk : Value) (k : Int) (hk : 0 ≤ k) (w : World) (h : RdRule w (ruleCells r vb vn vt vk) r) :
    Calls Tryz.prog 132 #[.agg #[.string r.name, .int .i64 r.kind, .int .i64 r.size, .bool r.little, vb, vn, vt, vk], .bool false, .bool true, .bool false, .bool false, .int .i64 k] w
      fun e w' => e = .returned (.bool (decide (r.size = 0 ∧ r.names.length = 0 ∧ r.tags.length = 0 ∧ (r.kids.length : Int) = k ∧ (r.little = true → r.kind = 1)))) ∧ Below w.heap.size w w' := by
  obtain ⟨⟨Ab, cb, rfl, lb1, lb2⟩, ⟨An, cn, rfl, ln1, ln2⟩, ⟨At, ct, rfl, lt1, lt2⟩, ⟨Ak, ck, rfl, lk1, lk2⟩⟩ := rule_forms h
  unfold maxLen at lb2 ln2 lt2 lk2
  obtain ⟨D, hD⟩ : ∃ D, D = decide (r.size = 0 ∧ r.names.length = 0 ∧ r.tags.length = 0 ∧ (r.kids.length : Int) = k ∧ (r.little = true → r.kind = 1)) := ⟨_, rfl⟩
  have yes : (r.size = 0 ∧ r.names.length = 0 ∧ r.tags.length = 0 ∧ (r.kids.length : Int) = k ∧ (r.little = true → r.kind = 1)) → Hid (true = D) := fun h => by show _ = _; rw [hD]; exact (decide_eq_true h).symm
  have no : ¬ (r.size = 0 ∧ r.names.length = 0 ∧ r.tags.length = 0 ∧ (r.kids.length : Int) = k ∧ (r.little = true → r.kind = 1)) → Hid (false = D) := fun h => by show _ = _; rw [hD]; exact (decide_eq_false h).symm
  rw [← hD]
  clear hD h
  have dk : decide (k < 0) = false := by simp; omega
  by_cases h0 : r.size = 0
  · have e0 : (r.size == 0) = true := by rw [beq_iff_eq]; omega
    by_cases h1 : r.names.length = 0
    · have e1 : ((r.names.length : Int) == 0) = true := by rw [beq_iff_eq]; omega
      by_cases h2 : r.tags.length = 0
      · have e2 : ((r.tags.length : Int) == 0) = true := by rw [beq_iff_eq]; omega
        by_cases h3 : (r.kids.length : Int) = k
        · have e3 : ((r.kids.length : Int) == k) = true := by rw [beq_iff_eq]; omega
          by_cases hl : r.little = true
          · by_cases hkd : r.kind = 1
            · have e8 : (r.kind == 1) = true := by rw [hkd]; rfl
              have hfin := yes ⟨h0, h1, h2, h3, fun _ => hkd⟩
              clear yes no h0 h1 h2 h3 hkd
              go_enter Tryz.func132, Tryz.ntmps132
              go_wp2_with fail
              go_ret
              exact ⟨ret_bool hfin.out, (Below.refl _ _).alloc (Nat.le_refl _) _⟩
            · have e8 : (r.kind == 1) = false := by rw [beq_eq_false_iff_ne]; exact hkd
              have hfin := no (fun h => hkd (h.2.2.2.2 hl))
              clear yes no h0 h1 h2 h3 hkd
              go_enter Tryz.func132, Tryz.ntmps132
              go_wp2_with fail
              go_ret
              exact ⟨ret_bool hfin.out, (Below.refl _ _).alloc (Nat.le_refl _) _⟩
          · have hl' : r.little = false := by simpa using hl
            have hfin := yes ⟨h0, h1, h2, h3, fun h => absurd h hl⟩
            clear yes no h0 h1 h2 h3 hl
            go_enter Tryz.func132, Tryz.ntmps132
            go_wp2_with fail
            go_ret
            exact ⟨ret_bool hfin.out, (Below.refl _ _).alloc (Nat.le_refl _) _⟩
        · have e3 : ((r.kids.length : Int) == k) = false := by rw [beq_eq_false_iff_ne]; omega
          have hfin := no (fun h => h3 h.2.2.2.1)
          clear yes no h3
          go_enter Tryz.func132, Tryz.ntmps132
          go_wp2_with fail
          go_ret
          exact ⟨ret_bool hfin.out, (Below.refl _ _).alloc (Nat.le_refl _) _⟩
      · have e2 : ((r.tags.length : Int) == 0) = false := by rw [beq_eq_false_iff_ne]; omega
        have hfin := no (fun h => h2 h.2.2.1)
        clear yes no h2
        go_enter Tryz.func132, Tryz.ntmps132
        go_wp2_with fail
        go_ret
        exact ⟨ret_bool hfin.out, (Below.refl _ _).alloc (Nat.le_refl _) _⟩
    · have e1 : ((r.names.length : Int) == 0) = false := by rw [beq_eq_false_iff_ne]; omega
      have hfin := no (fun h => h1 h.2.1)
      clear yes no h1
      go_enter Tryz.func132, Tryz.ntmps132
      go_wp2_with fail
      go_ret
      exact ⟨ret_bool hfin.out, (Below.refl _ _).alloc (Nat.le_refl _) _⟩
  · have e0 : (r.size == 0) = false := by rw [beq_eq_false_iff_ne]; omega
    have hfin := no (fun h => h0 h.1)
    clear yes no h0
    go_enter Tryz.func132, Tryz.ntmps132
    go_wp2_with fail
    go_ret
    exact ⟨ret_bool hfin.out, (Below.refl _ _).alloc (Nat.le_refl _) _⟩

set_option maxHeartbeats 4000000 in
theorem s_plainNone (r : RuleD) (vb vn vt vk : Value) (k : Int) (hk : 0 ≤ k) (w : World) (h : RdRule w (ruleCells r vb vn vt vk) r) :
    Calls Tryz.prog 132 #[.agg #[.string r.name, .int .i64 r.kind, .int .i64 r.size, .bool r.little, vb, vn, vt, vk], .bool false, .bool false, .bool false, .bool false, .int .i64 k] w
      fun e w' => e = .returned (.bool (decide (r.size = 0 ∧ r.bytes.length = 0 ∧ r.names.length = 0 ∧ r.tags.length = 0 ∧ (r.kids.length : Int) = k ∧ (r.little = true → r.kind = 1)))) ∧ Below w.heap.size w w' := by
  obtain ⟨⟨Ab, cb, rfl, lb1, lb2⟩, ⟨An, cn, rfl, ln1, ln2⟩, ⟨At, ct, rfl, lt1, lt2⟩, ⟨Ak, ck, rfl, lk1, lk2⟩⟩ := rule_forms h
  unfold maxLen at lb2 ln2 lt2 lk2
  obtain ⟨D, hD⟩ : ∃ D, D = decide (r.size = 0 ∧ r.bytes.length = 0 ∧ r.names.length = 0 ∧ r.tags.length = 0 ∧ (r.kids.length : Int) = k ∧ (r.little = true → r.kind = 1)) := ⟨_, rfl⟩
  have yes : (r.size = 0 ∧ r.bytes.length = 0 ∧ r.names.length = 0 ∧ r.tags.length = 0 ∧ (r.kids.length : Int) = k ∧ (r.little = true → r.kind = 1)) → Hid (true = D) := fun h => by show _ = _; rw [hD]; exact (decide_eq_true h).symm
  have no : ¬ (r.size = 0 ∧ r.bytes.length = 0 ∧ r.names.length = 0 ∧ r.tags.length = 0 ∧ (r.kids.length : Int) = k ∧ (r.little = true → r.kind = 1)) → Hid (false = D) := fun h => by show _ = _; rw [hD]; exact (decide_eq_false h).symm
  rw [← hD]
  clear hD h
  have dk : decide (k < 0) = false := by simp; omega
  by_cases h0 : r.size = 0
  · have e0 : (r.size == 0) = true := by rw [beq_iff_eq]; omega
    by_cases h1 : r.bytes.length = 0
    · have e1 : ((r.bytes.length : Int) == 0) = true := by rw [beq_iff_eq]; omega
      by_cases h2 : r.names.length = 0
      · have e2 : ((r.names.length : Int) == 0) = true := by rw [beq_iff_eq]; omega
        by_cases h3 : r.tags.length = 0
        · have e3 : ((r.tags.length : Int) == 0) = true := by rw [beq_iff_eq]; omega
          by_cases h4 : (r.kids.length : Int) = k
          · have e4 : ((r.kids.length : Int) == k) = true := by rw [beq_iff_eq]; omega
            by_cases hl : r.little = true
            · by_cases hkd : r.kind = 1
              · have e8 : (r.kind == 1) = true := by rw [hkd]; rfl
                have hfin := yes ⟨h0, h1, h2, h3, h4, fun _ => hkd⟩
                clear yes no h0 h1 h2 h3 h4 hkd
                go_enter Tryz.func132, Tryz.ntmps132
                go_wp2_with fail
                go_ret
                exact ⟨ret_bool hfin.out, (Below.refl _ _).alloc (Nat.le_refl _) _⟩
              · have e8 : (r.kind == 1) = false := by rw [beq_eq_false_iff_ne]; exact hkd
                have hfin := no (fun h => hkd (h.2.2.2.2.2 hl))
                clear yes no h0 h1 h2 h3 h4 hkd
                go_enter Tryz.func132, Tryz.ntmps132
                go_wp2_with fail
                go_ret
                exact ⟨ret_bool hfin.out, (Below.refl _ _).alloc (Nat.le_refl _) _⟩
            · have hl' : r.little = false := by simpa using hl
              have hfin := yes ⟨h0, h1, h2, h3, h4, fun h => absurd h hl⟩
              clear yes no h0 h1 h2 h3 h4 hl
              go_enter Tryz.func132, Tryz.ntmps132
              go_wp2_with fail
              go_ret
              exact ⟨ret_bool hfin.out, (Below.refl _ _).alloc (Nat.le_refl _) _⟩
          · have e4 : ((r.kids.length : Int) == k) = false := by rw [beq_eq_false_iff_ne]; omega
            have hfin := no (fun h => h4 h.2.2.2.2.1)
            clear yes no h4
            go_enter Tryz.func132, Tryz.ntmps132
            go_wp2_with fail
            go_ret
            exact ⟨ret_bool hfin.out, (Below.refl _ _).alloc (Nat.le_refl _) _⟩
        · have e3 : ((r.tags.length : Int) == 0) = false := by rw [beq_eq_false_iff_ne]; omega
          have hfin := no (fun h => h3 h.2.2.2.1)
          clear yes no h3
          go_enter Tryz.func132, Tryz.ntmps132
          go_wp2_with fail
          go_ret
          exact ⟨ret_bool hfin.out, (Below.refl _ _).alloc (Nat.le_refl _) _⟩
      · have e2 : ((r.names.length : Int) == 0) = false := by rw [beq_eq_false_iff_ne]; omega
        have hfin := no (fun h => h2 h.2.2.1)
        clear yes no h2
        go_enter Tryz.func132, Tryz.ntmps132
        go_wp2_with fail
        go_ret
        exact ⟨ret_bool hfin.out, (Below.refl _ _).alloc (Nat.le_refl _) _⟩
    · have e1 : ((r.bytes.length : Int) == 0) = false := by rw [beq_eq_false_iff_ne]; omega
      have hfin := no (fun h => h1 h.2.1)
      clear yes no h1
      go_enter Tryz.func132, Tryz.ntmps132
      go_wp2_with fail
      go_ret
      exact ⟨ret_bool hfin.out, (Below.refl _ _).alloc (Nat.le_refl _) _⟩
  · have e0 : (r.size == 0) = false := by rw [beq_eq_false_iff_ne]; omega
    have hfin := no (fun h => h0 h.1)
    clear yes no h0
    go_enter Tryz.func132, Tryz.ntmps132
    go_wp2_with fail
    go_ret
    exact ⟨ret_bool hfin.out, (Below.refl _ _).alloc (Nat.le_refl _) _⟩

set_option maxHeartbeats 4000000 in
theorem s_plainNamesK (r : RuleD) (vb vn vt vk : Value) (k : Int) (hk : 0 ≤ k) (w : World) (h : RdRule w (ruleCells r vb vn vt vk) r) :
    Calls Tryz.prog 132 #[.agg #[.string r.name, .int .i64 r.kind, .int .i64 r.size, .bool r.little, vb, vn, vt, vk], .bool false, .bool false, .bool true, .bool false, .int .i64 k] w
      fun e w' => e = .returned (.bool (decide (r.size = 0 ∧ r.bytes.length = 0 ∧ r.tags.length = 0 ∧ (r.kids.length : Int) = k ∧ (r.little = true → r.kind = 1)))) ∧ Below w.heap.size w w' := by
  obtain ⟨⟨Ab, cb, rfl, lb1, lb2⟩, ⟨An, cn, rfl, ln1, ln2⟩, ⟨At, ct, rfl, lt1, lt2⟩, ⟨Ak, ck, rfl, lk1, lk2⟩⟩ := rule_forms h
  unfold maxLen at lb2 ln2 lt2 lk2
  obtain ⟨D, hD⟩ : ∃ D, D = decide (r.size = 0 ∧ r.bytes.length = 0 ∧ r.tags.length = 0 ∧ (r.kids.length : Int) = k ∧ (r.little = true → r.kind = 1)) := ⟨_, rfl⟩
  have yes : (r.size = 0 ∧ r.bytes.length = 0 ∧ r.tags.length = 0 ∧ (r.kids.length : Int) = k ∧ (r.little = true → r.kind = 1)) → Hid (true = D) := fun h => by show _ = _; rw [hD]; exact (decide_eq_true h).symm
  have no : ¬ (r.size = 0 ∧ r.bytes.length = 0 ∧ r.tags.length = 0 ∧ (r.kids.length : Int) = k ∧ (r.little = true → r.kind = 1)) → Hid (false = D) := fun h => by show _ = _; rw [hD]; exact (decide_eq_false h).symm
  rw [← hD]
  clear hD h
  have dk : decide (k < 0) = false := by simp; omega
  by_cases h0 : r.size = 0
  · have e0 : (r.size == 0) = true := by rw [beq_iff_eq]; omega
    by_cases h1 : r.bytes.length = 0
    · have e1 : ((r.bytes.length : Int) == 0) = true := by rw [beq_iff_eq]; omega
      by_cases h2 : r.tags.length = 0
      · have e2 : ((r.tags.length : Int) == 0) = true := by rw [beq_iff_eq]; omega
        by_cases h3 : (r.kids.length : Int) = k
        · have e3 : ((r.kids.length : Int) == k) = true := by rw [beq_iff_eq]; omega
          by_cases hl : r.little = true
          · by_cases hkd : r.kind = 1
            · have e8 : (r.kind == 1) = true := by rw [hkd]; rfl
              have hfin := yes ⟨h0, h1, h2, h3, fun _ => hkd⟩
              clear yes no h0 h1 h2 h3 hkd
              go_enter Tryz.func132, Tryz.ntmps132
              go_wp2_with fail
              go_ret
              exact ⟨ret_bool hfin.out, (Below.refl _ _).alloc (Nat.le_refl _) _⟩
            · have e8 : (r.kind == 1) = false := by rw [beq_eq_false_iff_ne]; exact hkd
              have hfin := no (fun h => hkd (h.2.2.2.2 hl))
              clear yes no h0 h1 h2 h3 hkd
              go_enter Tryz.func132, Tryz.ntmps132
              go_wp2_with fail
              go_ret
              exact ⟨ret_bool hfin.out, (Below.refl _ _).alloc (Nat.le_refl _) _⟩
          · have hl' : r.little = false := by simpa using hl
            have hfin := yes ⟨h0, h1, h2, h3, fun h => absurd h hl⟩
            clear yes no h0 h1 h2 h3 hl
            go_enter Tryz.func132, Tryz.ntmps132
            go_wp2_with fail
            go_ret
            exact ⟨ret_bool hfin.out, (Below.refl _ _).alloc (Nat.le_refl _) _⟩
        · have e3 : ((r.kids.length : Int) == k) = false := by rw [beq_eq_false_iff_ne]; omega
          have hfin := no (fun h => h3 h.2.2.2.1)
          clear yes no h3
          go_enter Tryz.func132, Tryz.ntmps132
          go_wp2_with fail
          go_ret
          exact ⟨ret_bool hfin.out, (Below.refl _ _).alloc (Nat.le_refl _) _⟩
      · have e2 : ((r.tags.length : Int) == 0) = false := by rw [beq_eq_false_iff_ne]; omega
        have hfin := no (fun h => h2 h.2.2.1)
        clear yes no h2
        go_enter Tryz.func132, Tryz.ntmps132
        go_wp2_with fail
        go_ret
        exact ⟨ret_bool hfin.out, (Below.refl _ _).alloc (Nat.le_refl _) _⟩
    · have e1 : ((r.bytes.length : Int) == 0) = false := by rw [beq_eq_false_iff_ne]; omega
      have hfin := no (fun h => h1 h.2.1)
      clear yes no h1
      go_enter Tryz.func132, Tryz.ntmps132
      go_wp2_with fail
      go_ret
      exact ⟨ret_bool hfin.out, (Below.refl _ _).alloc (Nat.le_refl _) _⟩
  · have e0 : (r.size == 0) = false := by rw [beq_eq_false_iff_ne]; omega
    have hfin := no (fun h => h0 h.1)
    clear yes no h0
    go_enter Tryz.func132, Tryz.ntmps132
    go_wp2_with fail
    go_ret
    exact ⟨ret_bool hfin.out, (Below.refl _ _).alloc (Nat.le_refl _) _⟩

set_option maxHeartbeats 4000000 in
theorem s_plainTags (r : RuleD) (vb vn vt vk : Value) (w : World) (h : RdRule w (ruleCells r vb vn vt vk) r) :
    Calls Tryz.prog 132 #[.agg #[.string r.name, .int .i64 r.kind, .int .i64 r.size, .bool r.little, vb, vn, vt, vk], .bool false, .bool false, .bool false, .bool true, .int .i64 (-1)] w
      fun e w' => e = .returned (.bool (decide (r.size = 0 ∧ r.bytes.length = 0 ∧ r.names.length = 0 ∧ (r.little = true → r.kind = 1)))) ∧ Below w.heap.size w w' := by
  obtain ⟨⟨Ab, cb, rfl, lb1, lb2⟩, ⟨An, cn, rfl, ln1, ln2⟩, ⟨At, ct, rfl, lt1, lt2⟩, ⟨Ak, ck, rfl, lk1, lk2⟩⟩ := rule_forms h
  unfold maxLen at lb2 ln2 lt2 lk2
  obtain ⟨D, hD⟩ : ∃ D, D = decide (r.size = 0 ∧ r.bytes.length = 0 ∧ r.names.length = 0 ∧ (r.little = true → r.kind = 1)) := ⟨_, rfl⟩
  have yes : (r.size = 0 ∧ r.bytes.length = 0 ∧ r.names.length = 0 ∧ (r.little = true → r.kind = 1)) → Hid (true = D) := fun h => by show _ = _; rw [hD]; exact (decide_eq_true h).symm
  have no : ¬ (r.size = 0 ∧ r.bytes.length = 0 ∧ r.names.length = 0 ∧ (r.little = true → r.kind = 1)) → Hid (false = D) := fun h => by show _ = _; rw [hD]; exact (decide_eq_false h).symm
  rw [← hD]
  clear hD h
  by_cases h0 : r.size = 0
  · have e0 : (r.size == 0) = true := by rw [beq_iff_eq]; omega
    by_cases h1 : r.bytes.length = 0
    · have e1 : ((r.bytes.length : Int) == 0) = true := by rw [beq_iff_eq]; omega
      by_cases h2 : r.names.length = 0
      · have e2 : ((r.names.length : Int) == 0) = true := by rw [beq_iff_eq]; omega
        by_cases hl : r.little = true
        · by_cases hkd : r.kind = 1
          · have e8 : (r.kind == 1) = true := by rw [hkd]; rfl
            have hfin := yes ⟨h0, h1, h2, fun _ => hkd⟩
            clear yes no h0 h1 h2 hkd
            go_enter Tryz.func132, Tryz.ntmps132
            go_wp2_with fail
            go_ret
            exact ⟨ret_bool hfin.out, (Below.refl _ _).alloc (Nat.le_refl _) _⟩
          · have e8 : (r.kind == 1) = false := by rw [beq_eq_false_iff_ne]; exact hkd
            have hfin := no (fun h => hkd (h.2.2.2 hl))
            clear yes no h0 h1 h2 hkd
            go_enter Tryz.func132, Tryz.ntmps132
            go_wp2_with fail
            go_ret
            exact ⟨ret_bool hfin.out, (Below.refl _ _).alloc (Nat.le_refl _) _⟩
        · have hl' : r.little = false := by simpa using hl
          have hfin := yes ⟨h0, h1, h2, fun h => absurd h hl⟩
          clear yes no h0 h1 h2 hl
          go_enter Tryz.func132, Tryz.ntmps132
          go_wp2_with fail
          go_ret
          exact ⟨ret_bool hfin.out, (Below.refl _ _).alloc (Nat.le_refl _) _⟩
      · have e2 : ((r.names.length : Int) == 0) = false := by rw [beq_eq_false_iff_ne]; omega
        have hfin := no (fun h => h2 h.2.2.1)
        clear yes no h2
        go_enter Tryz.func132, Tryz.ntmps132
        go_wp2_with fail
        go_ret
        exact ⟨ret_bool hfin.out, (Below.refl _ _).alloc (Nat.le_refl _) _⟩
    · have e1 : ((r.bytes.length : Int) == 0) = false := by rw [beq_eq_false_iff_ne]; omega
      have hfin := no (fun h => h1 h.2.1)
      clear yes no h1
      go_enter Tryz.func132, Tryz.ntmps132
      go_wp2_with fail
      go_ret
      exact ⟨ret_bool hfin.out, (Below.refl _ _).alloc (Nat.le_refl _) _⟩
  · have e0 : (r.size == 0) = false := by rw [beq_eq_false_iff_ne]; omega
    have hfin := no (fun h => h0 h.1)
    clear yes no h0
    go_enter Tryz.func132, Tryz.ntmps132
    go_wp2_with fail
    go_ret
    exact ⟨ret_bool hfin.out, (Below.refl _ _).alloc (Nat.le_refl _) _⟩

end Go.Proofs.YtkjjgpkegihmhaaGreatDoor
