/-
  eqRule: two rules are compared, field by field.
-/
import Derived.Test.YtcegbilfcblhfaaProg
import Derived.Test.YtcegbilfcblhfaaDescPlain
import Derived.Test.YtcegbilfcblhfaaBox
import Derived.Test.YtcegbilfcblhfaaEqByte
import Derived.Test.YtcegbilfcblhfaaEqString
import Derived.Test.YtcegbilfcblhfaaEqInt
import Derived.WalkKit
import Derived.WalkSpells
import Derived.WalkLawsBesides
import Derived.Lib.Hide
import Derived.Deep.QuietTactic
import Derived.BigQuiet
namespace Go.Proofs.Ytcegbilfcblhfaa
open Go.RowKit

/-- A rule's value. -/
def ruleVal (r : RuleD) (vb vn vt vk : Value) : Value := .agg #[.string r.name, .int .i64 r.kind, .int .i64 r.size, .bool r.little, vb, vn, vt, vk]

theorem rdRule_parts {w : World} {r : RuleD} {vb vn vt vk : Value} (h : RdRule w (ruleCells r vb vn vt vk) r) :
    Rd w vb 1 r.bytes.length (cB r.bytes) ∧ Rd w vn 1 r.names.length (cS r.names) ∧ Rd w vt 1 r.tags.length (cI r.tags) ∧ Rd w vk 1 r.kids.length (cI r.kids) := by
  obtain ⟨vb', vn', vt', vk', e, hb, hn, ht, hk⟩ := h
  unfold ruleCells at e
  injection e with _ e; injection e with _ e; injection e with _ e; injection e with _ e; injection e with e1 e; injection e with e2 e; injection e with e3 e; injection e with e4 _
  subst e1; subst e2; subst e3; subst e4
  exact ⟨hb, hn, ht, hk⟩

theorem rule_ext {r q : RuleD} (h0 : r.name = q.name) (h1 : r.kind = q.kind) (h2 : r.size = q.size) (h3 : r.little = q.little) (h4 : r.bytes = q.bytes) (h5 : r.names = q.names) (h6 : r.tags = q.tags) (h7 : r.kids = q.kids) : r = q := by
  cases r; cases q; simp_all

set_option maxHeartbeats 4000000 in
theorem l_eqRule (r q : RuleD) (vb vn vt vk ub un ut uk : Value) (w : World) (hr : RdRule w (ruleCells r vb vn vt vk) r) (hq : RdRule w (ruleCells q ub un ut uk) q) :
    Calls Try.prog 73 #[.agg #[.string r.name, .int .i64 r.kind, .int .i64 r.size, .bool r.little, vb, vn, vt, vk], .agg #[.string q.name, .int .i64 q.kind, .int .i64 q.size, .bool q.little, ub, un, ut, uk]] w
      fun e w' => e = .returned (.bool (decide (r = q))) ∧ Below w.heap.size w w' := by
  have HA := ((Below.refl w.heap.size w).alloc (Nat.le_refl _) (.cells #[.string r.name, .int .i64 r.kind, .int .i64 r.size, .bool r.little, vb, vn, vt, vk] 56)).alloc (by simp) (.cells #[.string q.name, .int .i64 q.kind, .int .i64 q.size, .bool q.little, ub, un, ut, uk] 56)
  obtain ⟨hb, hn, ht, hk⟩ := rdRule_parts hr
  obtain ⟨gb, gn, gt, gk⟩ := rdRule_parts hq
  have HB := Lib.hid (hb.below HA)
  have HN := Lib.hid (hn.below HA)
  have HT := Lib.hid (ht.below HA)
  have HK := Lib.hid (hk.below HA)
  have GB := Lib.hid (gb.below HA)
  have GN := Lib.hid (gn.below HA)
  have GT := Lib.hid (gt.below HA)
  have GK := Lib.hid (gk.below HA)
  have HA' := Lib.hid HA
  have no : r ≠ q → Hid (false = decide (r = q)) := fun h => by show _ = _; symm; simpa using h
  have NO := Lib.hid no
  obtain ⟨D, hD⟩ : ∃ D, D = decide (r = q) := ⟨_, rfl⟩
  have HD := Lib.hid hD
  rw [← hD]
  clear HA hr hq hb hn ht hk gb gn gt gk no hD
  by_cases c0 : r.name = q.name
  · have x0 : (r.name.toList == q.name.toList) = true := by rw [c0]; simp
    have C0 := Lib.hid c0
    clear c0
    by_cases c1 : r.kind = q.kind
    · have x1 : (r.kind == q.kind) = true := by rw [c1]; simp
      have y1 : (r.kind != q.kind) = false := by rw [c1]; simp
      have C1 := Lib.hid c1
      clear c1
      by_cases c2 : r.size = q.size
      · have x2 : (r.size == q.size) = true := by rw [c2]; simp
        have y2 : (r.size != q.size) = false := by rw [c2]; simp
        have C2 := Lib.hid c2
        clear c2
        by_cases c3 : r.little = q.little
        · have x3 : (r.little == q.little) = true := by rw [c3]; simp
          have y3 : (r.little != q.little) = false := by rw [c3]; simp
          have C3 := Lib.hid c3
          clear c3
          go_enter Try.func73, Try.ntmps73
          go_wp2_with fail
          have BA0 : Box ((w.alloc (.cells #[.string r.name, .int .i64 r.kind, .int .i64 r.size, .bool r.little, vb, vn, vt, vk] 56)).alloc (.cells #[.string q.name, .int .i64 q.kind, .int .i64 q.size, .bool q.little, ub, un, ut, uk] 56)) w.heap.size 56 #[.string r.name, .int .i64 r.kind, .int .i64 r.size, .bool r.little, vb, vn, vt, vk] := (Box.new w _ _).alloc _
          have BB0 : Box ((w.alloc (.cells #[.string r.name, .int .i64 r.kind, .int .i64 r.size, .bool r.little, vb, vn, vt, vk] 56)).alloc (.cells #[.string q.name, .int .i64 q.kind, .int .i64 q.size, .bool q.little, ub, un, ut, uk] 56)) (w.heap.size + 1) 56 #[.string q.name, .int .i64 q.kind, .int .i64 q.size, .bool q.little, ub, un, ut, uk] := by simpa using Box.new (w.alloc (.cells #[.string r.name, .int .i64 r.kind, .int .i64 r.size, .bool r.little, vb, vn, vt, vk] 56)) 56 #[.string q.name, .int .i64 q.kind, .int .i64 q.size, .bool q.little, ub, un, ut, uk]
          have XA0 := Lib.hid BA0
          have XB0 := Lib.hid BB0
          clear BA0 BB0
          refine (l_eqByteS vb ub r.bytes q.bytes _ HB.out GB.out).mono ?_
          by_cases c4 : r.bytes = q.bytes
          · rw [decide_eq_true c4]
            have C4 := Lib.hid c4
            clear c4
            rintro e w1 ⟨rfl, hb1⟩
            have BA1 := XA0.out.below hb1
            have BB1 := XB0.out.below hb1
            have d1 : w1.cell? ⟨w.heap.size, 5, none⟩ = some vn := BA1.cell 5
            have d2 : w1.cell? ⟨w.heap.size + 1, 5, none⟩ = some un := BB1.cell 5
            have XA1 := Lib.hid BA1
            have XB1 := Lib.hid BB1
            have HB1 := Lib.hid hb1
            clear BA1 BB1 hb1
            go_wp2_with fail
            clear d1 d2
            refine (l_eqStringS vn un r.names q.names _ (HN.out.below HB1.out) (GN.out.below HB1.out)).mono ?_
            by_cases c5 : r.names = q.names
            · rw [decide_eq_true c5]
              have C5 := Lib.hid c5
              clear c5
              rintro e w2 ⟨rfl, hb2⟩
              have BA2 := XA1.out.below hb2
              have BB2 := XB1.out.below hb2
              have d1 : w2.cell? ⟨w.heap.size, 6, none⟩ = some vt := BA2.cell 6
              have d2 : w2.cell? ⟨w.heap.size + 1, 6, none⟩ = some ut := BB2.cell 6
              have XA2 := Lib.hid BA2
              have XB2 := Lib.hid BB2
              have HB2 := Lib.hid (Below.then_ HB1.out hb2 (Nat.le_refl _))
              clear BA2 BB2 hb2
              go_wp2_with fail
              clear d1 d2
              refine (l_eqIntS vt ut r.tags q.tags _ (HT.out.below HB2.out) (GT.out.below HB2.out)).mono ?_
              by_cases c6 : r.tags = q.tags
              · rw [decide_eq_true c6]
                have C6 := Lib.hid c6
                clear c6
                rintro e w3 ⟨rfl, hb3⟩
                have BA3 := XA2.out.below hb3
                have BB3 := XB2.out.below hb3
                have d1 : w3.cell? ⟨w.heap.size, 7, none⟩ = some vk := BA3.cell 7
                have d2 : w3.cell? ⟨w.heap.size + 1, 7, none⟩ = some uk := BB3.cell 7
                have XA3 := Lib.hid BA3
                have XB3 := Lib.hid BB3
                have HB3 := Lib.hid (Below.then_ HB2.out hb3 (Nat.le_refl _))
                clear BA3 BB3 hb3
                go_wp2_with fail
                clear d1 d2
                refine (l_eqIntS vk uk r.kids q.kids _ (HK.out.below HB3.out) (GK.out.below HB3.out)).mono ?_
                by_cases c7 : r.kids = q.kids
                · rw [decide_eq_true c7]
                  have C7 := Lib.hid c7
                  clear c7
                  rintro e w4 ⟨rfl, hb4⟩
                  have hy : Hid (true = D) := by show _ = _; rw [HD.out]; symm; simpa using rule_ext C0.out C1.out C2.out C3.out C4.out C5.out C6.out C7.out
                  have hbz := Below.then_ HA'.out (Below.then_ HB3.out hb4 (Nat.le_refl _)) (by simp)
                  go_wp2_with fail
                  go_ret
                  exact ⟨ret_bool hy.out, hbz⟩
                · rw [decide_eq_false c7]
                  have hy := NO.out (fun e => c7 (by rw [e]))
                  rintro e w4 ⟨rfl, hb4⟩
                  have hbz := Below.then_ HA'.out (Below.then_ HB3.out hb4 (Nat.le_refl _)) (by simp)
                  clear hb4
                  go_wp2_with fail
                  go_ret
                  exact ⟨ret_bool (by rw [HD.out]; exact hy.out), hbz⟩
              · rw [decide_eq_false c6]
                have hy := NO.out (fun e => c6 (by rw [e]))
                rintro e w3 ⟨rfl, hb3⟩
                have hbz := Below.then_ HA'.out (Below.then_ HB2.out hb3 (Nat.le_refl _)) (by simp)
                clear hb3
                go_wp2_with fail
                go_ret
                exact ⟨ret_bool (by rw [HD.out]; exact hy.out), hbz⟩
            · rw [decide_eq_false c5]
              have hy := NO.out (fun e => c5 (by rw [e]))
              rintro e w2 ⟨rfl, hb2⟩
              have hbz := Below.then_ HA'.out (Below.then_ HB1.out hb2 (Nat.le_refl _)) (by simp)
              clear hb2
              go_wp2_with fail
              go_ret
              exact ⟨ret_bool (by rw [HD.out]; exact hy.out), hbz⟩
          · rw [decide_eq_false c4]
            have hy := NO.out (fun e => c4 (by rw [e]))
            rintro e w1 ⟨rfl, hb1⟩
            have hbz := Below.then_ HA'.out hb1 (by simp)
            clear hb1
            go_wp2_with fail
            go_ret
            exact ⟨ret_bool (by rw [HD.out]; exact hy.out), hbz⟩
        · have x3 : (r.little == q.little) = false := by simpa using c3
          have y3 : (r.little != q.little) = true := by simpa using c3
          have hy := NO.out (fun e => c3 (by rw [e]))
          clear c3
          go_enter Try.func73, Try.ntmps73
          go_wp2_with fail
          go_ret
          exact ⟨ret_bool (by rw [HD.out]; exact hy.out), HA'.out⟩
      · have x2 : (r.size == q.size) = false := by simpa using c2
        have y2 : (r.size != q.size) = true := by simpa using c2
        have hy := NO.out (fun e => c2 (by rw [e]))
        clear c2
        go_enter Try.func73, Try.ntmps73
        go_wp2_with fail
        go_ret
        exact ⟨ret_bool (by rw [HD.out]; exact hy.out), HA'.out⟩
    · have x1 : (r.kind == q.kind) = false := by simpa using c1
      have y1 : (r.kind != q.kind) = true := by simpa using c1
      have hy := NO.out (fun e => c1 (by rw [e]))
      clear c1
      go_enter Try.func73, Try.ntmps73
      go_wp2_with fail
      go_ret
      exact ⟨ret_bool (by rw [HD.out]; exact hy.out), HA'.out⟩
  · have x0 : (r.name.toList == q.name.toList) = false := str_ne c0
    have hy := NO.out (fun e => c0 (by rw [e]))
    go_enter Try.func73, Try.ntmps73
    go_wp2_with fail
    go_ret
    exact ⟨ret_bool (by rw [HD.out]; exact hy.out), HA'.out⟩

end Go.Proofs.Ytcegbilfcblhfaa
