/-
  Two rules, two descriptions compared: l4Equal, equalRules, EqualDescriptions.
-/
import Derived.Test.YtkjjgpkegihmhaaGreatDoorGB
import Derived.Test.YtkjjgpkegihmhaaGreatDoorEqLists
import Derived.Test.YtkjjgpkegihmhaaGreatDoorSpecEqual
import Derived.Test.YtkjjgpkegihmhaaGreatDoorEqual
import Derived.BigGuard
namespace Go.Proofs.YtkjjgpkegihmhaaGreatDoor
open Go.RowKit

theorem i_EqB (va vb : Value) (xs ys : List UInt8) (w : World) (ha : Rd w va 1 xs.length (cB xs)) (hb : Rd w vb 1 ys.length (cB ys)) :
    Calls Tryz.prog 100 #[va, vb] w fun e w' => e = .returned (.bool (decide (xs = ys))) ∧ Below w.heap.size w w' := by
  refine (i_EqualBytes va vb xs ys _ _ w ha hb).mono ?_
  rintro e w' ⟨rfl, rfl⟩
  exact ⟨rfl, Below.refl _ _⟩
theorem Cells8.more {w : World} {b o b' o' : Nat} {r q : RuleD} {vb vn vt vk ub un ut uk x y : Value} {p p' : Addr} (h : Cells8 w b o r vb vn vt vk) (h' : Cells8 w b' o' q ub un ut uk) (hx : w.cell? p = some x) (hy : w.cell? p' = some y) :
    w.cell? ⟨b, o, none⟩ = some (.string r.name) ∧ w.cell? ⟨b, o + 1, none⟩ = some (.int .i64 r.kind) ∧ w.cell? ⟨b, o + 2, none⟩ = some (.int .i64 r.size) ∧ w.cell? ⟨b, o + 3, none⟩ = some (.bool r.little) ∧ w.cell? ⟨b, o + 4, none⟩ = some vb ∧ w.cell? ⟨b, o + 5, none⟩ = some vn ∧ w.cell? ⟨b, o + 6, none⟩ = some vt ∧ w.cell? ⟨b, o + 7, none⟩ = some vk ∧
    w.cell? ⟨b', o', none⟩ = some (.string q.name) ∧ w.cell? ⟨b', o' + 1, none⟩ = some (.int .i64 q.kind) ∧ w.cell? ⟨b', o' + 2, none⟩ = some (.int .i64 q.size) ∧ w.cell? ⟨b', o' + 3, none⟩ = some (.bool q.little) ∧ w.cell? ⟨b', o' + 4, none⟩ = some ub ∧ w.cell? ⟨b', o' + 5, none⟩ = some un ∧ w.cell? ⟨b', o' + 6, none⟩ = some ut ∧ w.cell? ⟨b', o' + 7, none⟩ = some uk ∧
    w.cell? p = some x ∧ w.cell? p' = some y := by
  obtain ⟨h0, h1, h2, h3, h4, h5, h6, h7⟩ := h
  obtain ⟨g0, g1, g2, g3, g4, g5, g6, g7⟩ := h'
  exact ⟨h0, h1, h2, h3, h4, h5, h6, h7, g0, g1, g2, g3, g4, g5, g6, g7, hx, hy⟩

set_option maxHeartbeats 8000000 in
theorem i_equalRules (r q : RuleD) (vb vn vt vk ub un ut uk : Value) (w : World) (hr : RdRule w (ruleCells r vb vn vt vk) r) (hq : RdRule w (ruleCells q ub un ut uk) q) :
    Calls Tryz.prog 65 #[.agg #[.string r.name, .int .i64 r.kind, .int .i64 r.size, .bool r.little, vb, vn, vt, vk], .agg #[.string q.name, .int .i64 q.kind, .int .i64 q.size, .bool q.little, ub, un, ut, uk]] w
      fun e w' => e = .returned (.bool (decide (r = q))) ∧ Below w.heap.size w w' := by
  have HA := ((Below.refl w.heap.size w).alloc (Nat.le_refl _) (.cells #[.string r.name, .int .i64 r.kind, .int .i64 r.size, .bool r.little, vb, vn, vt, vk] 30)).alloc (by simp) (.cells #[.string q.name, .int .i64 q.kind, .int .i64 q.size, .bool q.little, ub, un, ut, uk] 30)
  obtain ⟨hb, hn, ht, hk⟩ := rdRule_parts hr
  obtain ⟨gb, gn, gt, gk⟩ := rdRule_parts hq
  have HB := Lib.hid (hb.below HA)
  have HN := Lib.hid (hn.below HA)
  have HT := Lib.hid (ht.below HA)
  have HK := Lib.hid (hk.below HA)
  have GB := Lib.hid (gb.below HA)
  have GN := Lib.hid (gn.below HA)
  have GT := Lib.hid (gt.below HA)
  have GK := Lib.hid (gk.below HA)
  have HA' := Lib.hid HA
  have no : r ≠ q → Hid (false = decide (r = q)) := fun h => by show _ = _; symm; simpa using h
  have NO := Lib.hid no
  obtain ⟨D, hD⟩ : ∃ D, D = decide (r = q) := ⟨_, rfl⟩
  have HD := Lib.hid hD
  rw [← hD]
  clear HA hr hq hb hn ht hk gb gn gt gk no hD
  by_cases c0 : r.name = q.name
  · have x0 : (r.name.toList == q.name.toList) = true := by rw [c0]; simp
    have C0 := Lib.hid c0
    clear c0
    by_cases c1 : r.kind = q.kind
    · have x1 : (r.kind == q.kind) = true := by rw [c1]; simp
      have C1 := Lib.hid c1
      clear c1
      by_cases c2 : r.size = q.size
      · have x2 : (r.size == q.size) = true := by rw [c2]; simp
        have C2 := Lib.hid c2
        clear c2
        by_cases c3 : r.little = q.little
        · have x3 : (r.little == q.little) = true := by rw [c3]; simp
          have C3 := Lib.hid c3
          clear c3
          go_enter Tryz.func65, Tryz.ntmps65
          go_wp2_with fail
          have BA0 : Box ((w.alloc (.cells #[.string r.name, .int .i64 r.kind, .int .i64 r.size, .bool r.little, vb, vn, vt, vk] 30)).alloc (.cells #[.string q.name, .int .i64 q.kind, .int .i64 q.size, .bool q.little, ub, un, ut, uk] 30)) w.heap.size 30 #[.string r.name, .int .i64 r.kind, .int .i64 r.size, .bool r.little, vb, vn, vt, vk] := (Box.new w _ _).alloc _
          have BB0 : Box ((w.alloc (.cells #[.string r.name, .int .i64 r.kind, .int .i64 r.size, .bool r.little, vb, vn, vt, vk] 30)).alloc (.cells #[.string q.name, .int .i64 q.kind, .int .i64 q.size, .bool q.little, ub, un, ut, uk] 30)) (w.heap.size + 1) 30 #[.string q.name, .int .i64 q.kind, .int .i64 q.size, .bool q.little, ub, un, ut, uk] := by simpa using Box.new (w.alloc (.cells #[.string r.name, .int .i64 r.kind, .int .i64 r.size, .bool r.little, vb, vn, vt, vk] 30)) 30 #[.string q.name, .int .i64 q.kind, .int .i64 q.size, .bool q.little, ub, un, ut, uk]
          have XA0 := Lib.hid BA0
          have XB0 := Lib.hid BB0
          clear BA0 BB0
          refine (i_EqB vb ub r.bytes q.bytes _ HB.out GB.out).mono ?_
          by_cases c4 : r.bytes = q.bytes
          · rw [decide_eq_true c4]
            have C4 := Lib.hid c4
            clear c4
            rintro e w1 ⟨rfl, hb1⟩
            have BA1 := XA0.out.below hb1
            have BB1 := XB0.out.below hb1
            have d1 : w1.cell? ⟨w.heap.size, 5, none⟩ = some vn := BA1.cell 5
            have d2 : w1.cell? ⟨w.heap.size + 1, 5, none⟩ = some un := BB1.cell 5
            have XA1 := Lib.hid BA1
            have XB1 := Lib.hid BB1
            have HB1 := Lib.hid hb1
            clear BA1 BB1 hb1
            go_wp2_with fail
            clear d1 d2
            refine (i_eqStrings vn un r.names q.names _ (HN.out.below HB1.out) (GN.out.below HB1.out)).mono ?_
            by_cases c5 : r.names = q.names
            · rw [decide_eq_true c5]
              have C5 := Lib.hid c5
              clear c5
              rintro e w2 ⟨rfl, hb2⟩
              have BA2 := XA1.out.below hb2
              have BB2 := XB1.out.below hb2
              have d1 : w2.cell? ⟨w.heap.size, 6, none⟩ = some vt := BA2.cell 6
              have d2 : w2.cell? ⟨w.heap.size + 1, 6, none⟩ = some ut := BB2.cell 6
              have XA2 := Lib.hid BA2
              have XB2 := Lib.hid BB2
              have HB2 := Lib.hid (Below.then_ HB1.out hb2 (Nat.le_refl _))
              clear BA2 BB2 hb2
              go_wp2_with fail
              clear d1 d2
              refine (i_eqInts vt ut r.tags q.tags _ (HT.out.below HB2.out) (GT.out.below HB2.out)).mono ?_
              by_cases c6 : r.tags = q.tags
              · rw [decide_eq_true c6]
                have C6 := Lib.hid c6
                clear c6
                rintro e w3 ⟨rfl, hb3⟩
                have BA3 := XA2.out.below hb3
                have BB3 := XB2.out.below hb3
                have d1 : w3.cell? ⟨w.heap.size, 7, none⟩ = some vk := BA3.cell 7
                have d2 : w3.cell? ⟨w.heap.size + 1, 7, none⟩ = some uk := BB3.cell 7
                have XA3 := Lib.hid BA3
                have XB3 := Lib.hid BB3
                have HB3 := Lib.hid (Below.then_ HB2.out hb3 (Nat.le_refl _))
                clear BA3 BB3 hb3
                go_wp2_with fail
                clear d1 d2
                refine (i_eqInts vk uk r.kids q.kids _ (HK.out.below HB3.out) (GK.out.below HB3.out)).mono ?_
                by_cases c7 : r.kids = q.kids
                · rw [decide_eq_true c7]
                  have C7 := Lib.hid c7
                  clear c7
                  rintro e w4 ⟨rfl, hb4⟩
                  have hy : Hid (true = D) := by show _ = _; rw [HD.out]; symm; simpa using rule_ext C0.out C1.out C2.out C3.out C4.out C5.out C6.out C7.out
                  have hbz := Below.then_ HA'.out (Below.then_ HB3.out hb4 (Nat.le_refl _)) (by simp)
                  go_wp2_with fail
                  go_ret
                  exact ⟨ret_bool hy.out, hbz⟩
                · rw [decide_eq_false c7]
                  have hy := NO.out (fun e => c7 (by rw [e]))
                  rintro e w4 ⟨rfl, hb4⟩
                  have hbz := Below.then_ HA'.out (Below.then_ HB3.out hb4 (Nat.le_refl _)) (by simp)
                  clear hb4
                  go_wp2_with fail
                  go_ret
                  exact ⟨ret_bool (by rw [HD.out]; exact hy.out), hbz⟩
              · rw [decide_eq_false c6]
                have hy := NO.out (fun e => c6 (by rw [e]))
                rintro e w3 ⟨rfl, hb3⟩
                have hbz := Below.then_ HA'.out (Below.then_ HB2.out hb3 (Nat.le_refl _)) (by simp)
                clear hb3
                go_wp2_with fail
                go_ret
                exact ⟨ret_bool (by rw [HD.out]; exact hy.out), hbz⟩
            · rw [decide_eq_false c5]
              have hy := NO.out (fun e => c5 (by rw [e]))
              rintro e w2 ⟨rfl, hb2⟩
              have hbz := Below.then_ HA'.out (Below.then_ HB1.out hb2 (Nat.le_refl _)) (by simp)
              clear hb2
              go_wp2_with fail
              go_ret
              exact ⟨ret_bool (by rw [HD.out]; exact hy.out), hbz⟩
          · rw [decide_eq_false c4]
            have hy := NO.out (fun e => c4 (by rw [e]))
            rintro e w1 ⟨rfl, hb1⟩
            have hbz := Below.then_ HA'.out hb1 (by simp)
            clear hb1
            go_wp2_with fail
            go_ret
            exact ⟨ret_bool (by rw [HD.out]; exact hy.out), hbz⟩
        · have x3 : (r.little == q.little) = false := by simpa using c3
          have hy := NO.out (fun e => c3 (by rw [e]))
          clear c3
          go_enter Tryz.func65, Tryz.ntmps65
          go_wp2_with fail
          go_ret
          exact ⟨ret_bool (by rw [HD.out]; exact hy.out), HA'.out⟩
      · have x2 : (r.size == q.size) = false := by simpa using c2
        have hy := NO.out (fun e => c2 (by rw [e]))
        clear c2
        go_enter Tryz.func65, Tryz.ntmps65
        go_wp2_with fail
        go_ret
        exact ⟨ret_bool (by rw [HD.out]; exact hy.out), HA'.out⟩
    · have x1 : (r.kind == q.kind) = false := by simpa using c1
      have hy := NO.out (fun e => c1 (by rw [e]))
      clear c1
      go_enter Tryz.func65, Tryz.ntmps65
      go_wp2_with fail
      go_ret
      exact ⟨ret_bool (by rw [HD.out]; exact hy.out), HA'.out⟩
  · have x0 : (r.name.toList == q.name.toList) = false := str_ne c0
    have hy := NO.out (fun e => c0 (by rw [e]))
    clear c0
    go_enter Tryz.func65, Tryz.ntmps65
    go_wp2_with fail
    go_ret
    exact ⟨ret_bool (by rw [HD.out]; exact hy.out), HA'.out⟩

set_option maxHeartbeats 8000000 in
theorem i_EqualDescriptions (d e : Value) (xs ys : List RuleD) (w : World) (hd : RdDesc w d xs) (he : RdDesc w e ys) :
    Calls Tryz.prog 28 #[d, e] w fun e w' => e = .returned (.bool (decide (xs = ys))) ∧ Below w.heap.size w w' := by
  obtain ⟨va, rfl, ha⟩ := hd
  obtain ⟨vb, rfl, hb⟩ := he
  by_cases hlen : xs.length = ys.length
  · obtain ⟨n, hn⟩ : ∃ n, n = ys.length := ⟨_, rfl⟩
    obtain ⟨A, c, rfl, hnc, hcm, hcell⟩ := ha.all
    obtain ⟨A', c', rfl, hnc', hcm', hcell'⟩ := hb.all
    rw [hlen, ← hn] at hnc ⊢
    rw [← hn] at hnc' hlen
    unfold maxLen at hcm hcm'
    have HA := Lib.hid hlen; clear hlen
    have HB := Lib.hid hn; clear hn
    have HC := Lib.hid hcell; clear hcell
    have HC' := Lib.hid hcell'; clear hcell' ha hb
    obtain ⟨D, hD⟩ : ∃ D, D = decide (xs = ys) := ⟨_, rfl⟩
    have HD := Lib.hid hD
    rw [← hD]
    clear hD
    obtain ⟨w0, hw0⟩ : ∃ w0, w0 = (w.alloc (.cells #[.slice A n c] 35)).alloc (.cells #[.slice A' n c'] 35) := ⟨_, rfl⟩
    have hb0 : Below w.heap.size w w0 := by rw [hw0]; exact below_box.alloc (by simp) _
    have p0 : Box w0 w.heap.size 35 #[.slice A n c] := by rw [hw0]; exact (Box.new w _ _).alloc _
    have q0 : Box w0 (w.heap.size + 1) 35 #[.slice A' n c'] := by rw [hw0]; simpa using Box.new (w.alloc (.cells #[.slice A n c] 35)) 35 #[.slice A' n c']
    have HB0 := Lib.hid hb0
    have P0 := Lib.hid p0
    have Q0 := Lib.hid q0
    have HW0 := Lib.hid hw0
    clear hb0 p0 q0 hw0
    go_enter Tryz.func28, Tryz.ntmps28
    go_wp2_with fail
    rw [← HW0.out]
    go_loopw [16] (fun i wr => ∃ k : Nat, k ≤ n ∧ i = .int .i64 k ∧ xs.take k = ys.take k ∧ Below w0.heap.size w0 wr) (fun i _ => n - (intOf i).toNat)
    case atStart => exact ⟨0, Nat.zero_le _, rfl, by simp, Below.refl _ _⟩
    case round =>
      obtain ⟨k, hk, rfl, htk, hbr⟩ := hrel
      have HT := Lib.hid htk; clear htk
      have p1 : wr.cell? ⟨w.heap.size, 0, none⟩ = some (.slice A n c) := (P0.out.below hbr).cell 0
      have q1 : wr.cell? ⟨w.heap.size + 1, 0, none⟩ = some (.slice A' n c') := (Q0.out.below hbr).cell 0
      have P1 := Lib.hid (P0.out.below hbr)
      have Q1 := Lib.hid (Q0.out.below hbr)
      have hbw := Below.then_ HB0.out hbr (Nat.le_refl _)
      by_cases hlt : k < n
      · have hka : k < xs.length := by rw [HA.out]; exact hlt
        have hkb : k < ys.length := by rw [← HB.out]; exact hlt
        obtain ⟨b, off, rfl, hc⟩ := HC.out (by omega)
        obtain ⟨b', off', rfl, hc'⟩ := HC'.out (by omega)
        obtain ⟨vb, vn, vt, vk, hr⟩ := hc k hka
        obtain ⟨ub, un, ut, uk, hq⟩ := hc' k hkb
        have hr1 := hr.below hbw
        have hq1 := hq.below hbw
        obtain ⟨r, hr0⟩ : ∃ r, r = xs[k] := ⟨_, rfl⟩
        obtain ⟨q, hq0⟩ : ∃ q, q = ys[k] := ⟨_, rfl⟩
        rw [← hr0] at hr1
        rw [← hq0] at hq1
        have HX := Lib.hid (show xs[k]? = some r by rw [List.getElem?_eq_getElem hka, hr0])
        have HY := Lib.hid (show ys[k]? = some q by rw [List.getElem?_eq_getElem hkb, hq0])
        have HBR := Lib.hid hbr
        have hlti : (k : Int) < (n : Int) := by omega
        have hk0 : (0 : Int) ≤ (k : Int) := by omega
        have hr2 := Lib.hid hr1.drew.rd
        have hq2 := Lib.hid hq1.drew.rd
        have HR1 := Lib.hid hr1
        have HQ1 := Lib.hid hq1
        have cr := hr1.eight
        have cq := hq1.eight
        clear hr0 hq0 hr hq hc hc' hbr hbw hka hkb hr1 hq1
        obtain ⟨D0, D1, D2, D3, D4, D5, D6, D7⟩ := cr
        obtain ⟨E0, E1, E2, E3, E4, E5, E6, E7⟩ := cq
        go_wp2_with fail
        go_region_held3 (fun w' => w'.cell? ⟨b, off + k * 8, none⟩ = some (.string r.name) ∧ w'.cell? ⟨b, off + k * 8 + 1, none⟩ = some (.int .i64 r.kind) ∧ w'.cell? ⟨b, off + k * 8 + 2, none⟩ = some (.int .i64 r.size) ∧ w'.cell? ⟨b, off + k * 8 + 3, none⟩ = some (.bool r.little) ∧ w'.cell? ⟨b, off + k * 8 + 4, none⟩ = some vb ∧ w'.cell? ⟨b, off + k * 8 + 5, none⟩ = some vn ∧ w'.cell? ⟨b, off + k * 8 + 6, none⟩ = some vt ∧ w'.cell? ⟨b, off + k * 8 + 7, none⟩ = some vk ∧ w'.cell? ⟨b', off' + k * 8, none⟩ = some (.string q.name) ∧ w'.cell? ⟨b', off' + k * 8 + 1, none⟩ = some (.int .i64 q.kind) ∧ w'.cell? ⟨b', off' + k * 8 + 2, none⟩ = some (.int .i64 q.size) ∧ w'.cell? ⟨b', off' + k * 8 + 3, none⟩ = some (.bool q.little) ∧ w'.cell? ⟨b', off' + k * 8 + 4, none⟩ = some ub ∧ w'.cell? ⟨b', off' + k * 8 + 5, none⟩ = some un ∧ w'.cell? ⟨b', off' + k * 8 + 6, none⟩ = some ut ∧ w'.cell? ⟨b', off' + k * 8 + 7, none⟩ = some uk ∧ w'.cell? ⟨w.heap.size, 0, none⟩ = some (.slice (some ⟨b, off, none⟩) n c) ∧ w'.cell? ⟨w.heap.size + 1, 0, none⟩ = some (.slice (some ⟨b', off', none⟩) n c'))
          (first | go_keep | (exact Cells8.more (HR1.out.drew.below hbx).eight (HQ1.out.drew.below hbx).eight ((P1.out.below (Below.then_ (Below.refl _ _).drew hbx (Nat.le_refl _))).cell 0) ((Q1.out.below (Below.then_ (Below.refl _ _).drew hbx (Nat.le_refl _))).cell 0)))
          ((go_at_call 65; refine (i_equalRules r q vb vn vt vk ub un ut uk _ hr2.out hq2.out).mono ?_; rintro e w1 ⟨rfl, hbx⟩))
        have hb1 : Below w0.heap.size w0 w1 := Below.then_ HBR.out (Below.then_ (Below.refl wr.heap.size wr).drew hbx (Nat.le_refl _)) (Nat.le_refl _)
        clear hbx
        by_cases hxy : r = q
        · rw [decide_eq_true hxy]
          have HXY := Lib.hid hxy
          have HB1 := Lib.hid hb1
          clear hxy hb1 p1 q1 D0 D1 D2 D3 D4 D5 D6 D7 E0 E1 E2 E3 E4 E5 E6 E7
          go_wp2_with fail
          go_roundw
          case rel =>
            refine ⟨k + 1, by omega, by go_num, ?_, HB1.out⟩
            rw [List.take_add_one, List.take_add_one, HT.out, HX.out, HY.out, HXY.out]
          case measure => simp [intOf]; omega
        · rw [decide_eq_false hxy]
          have hfin : Hid (false = D) := by
            show _ = _
            rw [HD.out]; symm
            rw [decide_eq_false_iff_not]
            intro e
            have h1 := HX.out
            rw [e, HY.out] at h1
            exact hxy (Option.some.inj h1).symm
          have HB1 := Lib.hid hb1
          clear hxy hb1 p1 q1 D0 D1 D2 D3 D4 D5 D6 D7 E0 E1 E2 E3 E4 E5 E6 E7
          go_wp2_with fail
          go_ret
          exact ⟨ret_bool hfin.out, Below.then_ HB0.out HB1.out (Nat.le_refl _)⟩
      · obtain rfl : k = n := by omega
        have hfin : Hid (true = D) := by
          show _ = _
          rw [HD.out]; symm
          rw [decide_eq_true_iff]
          have := HT.out
          rwa [List.take_of_length_le (by rw [HA.out]; exact Nat.le_refl _), List.take_of_length_le (by rw [← HB.out]; exact Nat.le_refl _)] at this
        have HBR := Lib.hid hbr
        clear hbr
        go_wp2_with fail
        go_ret
        exact ⟨ret_bool hfin.out, Below.then_ HB0.out HBR.out (Nat.le_refl _)⟩
  · obtain ⟨A, c, rfl, hnc, hcm, _⟩ := ha.all
    obtain ⟨A', c', rfl, hnc', hcm', _⟩ := hb.all
    have hq : ((xs.length : Int) == (ys.length : Int)) = false := by rw [beq_eq_false_iff_ne]; omega
    have hq2 : ((xs.length : Int) != (ys.length : Int)) = true := by rw [bne_iff_ne]; omega
    have hfin : Hid (false = decide (xs = ys)) := by
      show _ = _
      symm
      rw [decide_eq_false_iff_not]
      intro e
      exact hlen (by rw [e])
    clear hlen ha hb
    go_enter Tryz.func28, Tryz.ntmps28
    go_wp2_with fail
    go_ret
    exact ⟨ret_bool hfin.out, below_box.alloc (by simp) _⟩

end Go.Proofs.YtkjjgpkegihmhaaGreatDoor
