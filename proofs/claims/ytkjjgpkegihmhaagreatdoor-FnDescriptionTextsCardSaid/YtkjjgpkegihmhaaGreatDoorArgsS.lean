/-
  l6Args of the reference.
-/
import Derived.Test.YtkjjgpkegihmhaaGreatDoorArgsPlain
import Derived.Test.YtkjjgpkegihmhaaGreatDoorGF
import Derived.Test.YtkjjgpkegihmhaaGreatDoorGI
import Derived.Deep.RegionHeld3
import Derived.BigGuard
namespace Go.Proofs.YtkjjgpkegihmhaaGreatDoor
open Go.RowKit
set_option linter.unusedVariables false

set_option maxRecDepth 100000 in
set_option maxHeartbeats 8000000 in
theorem s_args1 (d : Value) (l : List RuleD) (nm : ByteArray) (kd : Int) (va : Value) (ws : List ByteArray) (hkd : kd = 1) (hnm : nm.size ≤ 1048576) (hkr : 0 ≤ kd ∧ kd ≤ 10) (h1 : 1 ≤ ws.length) (hws : ws.length ≤ 1048576) (hsz : ∀ s ∈ ws, s.size ≤ 1048576) (hln : l.length ≤ 1048576) (w : World) (hd : RdDesc w d l) (hv : Rd w va 1 ws.length (cS ws)) :
    Calls Tryz.prog 33 #[d, .agg #[.string nm, .int .i64 kd, .int .i64 0, .bool false, .slice none 0 0, .slice none 0 0, .slice none 0 0, .slice none 0 0], va] w (MadeA ws.length (argsS l ⟨nm, kd, 0, false, [], [], [], []⟩ ws) w) := by
  subst hkd
  obtain ⟨v, rfl, hdv⟩ := hd
  obtain ⟨A, c, rfl, hnc, hcm, hcell⟩ := hdv.all
  obtain ⟨hvl, Av, cv, rfl, hvc, hvm, _⟩ := id hv
  unfold maxLen at hcm hvm
  have HV := Lib.hid hdv
  have HVA := Lib.hid hv
  have HSZ := Lib.hid hsz
  obtain ⟨O, hO⟩ : ∃ O, O = argsS l ⟨nm, 1, 0, false, [], [], [], []⟩ ws := ⟨_, rfl⟩
  rw [← hO]
  have FIT0 := Lib.hid (show ∀ (sz : Int) (li : Bool) (bs : List UInt8) (ns : List ByteArray) (ts ks : List Int), (0 ≤ sz ∧ sz ≤ 1000000000000) → (∀ x ∈ ns, x.size ≤ 1048576) → (∀ x ∈ ts, 0 ≤ x ∧ x ≤ 1000000000000) → (∀ x ∈ ks, 0 ≤ x ∧ x ≤ 1048576) → Fit ⟨nm, 1, sz, li, bs, ns, ts, ks⟩ from fun sz li bs ns ts ks a1 a2 a3 a4 => ⟨hnm, a2, hkr, a1, a3, a4⟩)
  obtain ⟨w1, hw1⟩ : ∃ w1, w1 = (((w.alloc (.cells #[.slice A l.length c] 35)).alloc (.cells #[.string nm, .int .i64 1, .int .i64 0, .bool false, .slice none 0 0, .slice none 0 0, .slice none 0 0, .slice none 0 0] 30)).alloc (.cells #[.string ⟨#[]⟩, .int .i64 0, .int .i64 0, .bool false, .slice none 0 0, .slice none 0 0, .slice none 0 0, .slice none 0 0] 30)) := ⟨_, rfl⟩
  have D1 := Lib.hid (show Box w1 w.heap.size 35 #[.slice A l.length c] by rw [hw1]; exact ((Box.new w _ _).alloc _).alloc _)
  have R1 := Lib.hid (show Box w1 (w.heap.size + 1) 30 #[.string nm, .int .i64 1, .int .i64 0, .bool false, .slice none 0 0, .slice none 0 0, .slice none 0 0, .slice none 0 0] by rw [hw1]; exact (box_new1 w _ _ _).alloc _)
  have Z1 := Lib.hid (show Box w1 (w.heap.size + 1 + 1) 30 #[.string ⟨#[]⟩, .int .i64 0, .int .i64 0, .bool false, .slice none 0 0, .slice none 0 0, .slice none 0 0, .slice none 0 0] by rw [hw1]; exact box_new2 w _ _ _ _)
  have B1 := Lib.hid (show Below w.heap.size w w1 by rw [hw1]; exact (((Below.refl _ _).alloc (Nat.le_refl _) _).alloc (by simp) _).alloc (by simp; omega) _)
  have W1 := Lib.hid hw1
  have Z0 := Lib.hid (show (0 : Int) ≤ 0 ∧ (0 : Int) ≤ 1000000000000 by omega)
  clear hdv hcell hvl hw1 hnm hkr hsz
  have HFC : Hid (O = numS ⟨nm, 1, 0, false, [], [], [], []⟩ ws) := by show _ = _; rw [hO]; unfold argsS; rw [if_pos (.inl rfl)]
  clear hO hv
  cases ws with
  | nil => simp at h1
  | cons x rest =>
    obtain ⟨n, hn⟩ : ∃ n, n = (x :: rest).length := ⟨_, rfl⟩
    have hnr : n = rest.length + 1 := hn
    rw [← hn] at hvc hws HVA ⊢
    obtain ⟨bn, on, rfl, hnc⟩ := texts_at (by have h := HVA.out; rw [hn] at h; exact h) (by simp)
    have hbn : bn < w.heap.size := World.block_lt_of_cell? w _ (hnc 0 (by simp))
    have Y0 := Lib.hid (cell_after (hnc 0 (by simp)) B1.out)
    rw [Nat.add_zero, List.getElem_cons_zero] at Y0
    have hsx := HSZ.out x List.mem_cons_self
    have h0i : (0 : Int) < (n : Int) := by omega
    have pi := fun w => s_ParseInt x (by unfold maxLen; omega) w
    have hnr2 := parseNum_range x.data.toList
    obtain ⟨num, hnum⟩ : ∃ num, num = parseNum x.data.toList := ⟨_, rfl⟩
    obtain ⟨iok, hiok⟩ : ∃ iok, iok = parseOk x.data.toList := ⟨_, rfl⟩
    rw [← hnum, ← hiok] at pi
    rw [← hnum] at hnr2
    have NR := Lib.hid hnr2
    have PI := Lib.hid pi
    obtain ⟨lit, hlit⟩ : ∃ lit, lit = decide (rest = [littleS]) := ⟨_, rfl⟩
    have HRES : Hid (O = if iok = true then some ⟨nm, 1, num, lit, [], [], [], []⟩ else none) := by
      show _ = _
      rw [HFC.out, hiok, hnum, hlit]; rfl
    by_cases h2 : rest.length = 1
    · obtain ⟨y, rfl⟩ : ∃ y, rest = [y] := List.length_eq_one_iff.1 h2
      have hn2 : n = 2 := by rw [hnr]; rfl
      have Y1 := Lib.hid (cell_after (hnc 1 (by simp)) B1.out)
      have hl0 : lit = decide (y = littleS) := by rw [hlit]; simp
      have hle : littleS.toList = [108, 105, 116, 116, 108, 101] := by rw [Lib.toList_data]; rfl
      have hq : (y.toList == [108, 105, 116, 116, 108, 101]) = lit := by
        rw [hl0, ← hle]
        by_cases he : y = littleS
        · rw [he]; simp
        · rw [str_ne he]; simp [he]
      subst hn2
      clear hnc pi hnum hiok hn hlit hnr hl0 hle hsx hnr2 h2 h1
      have nz0 : (((w.alloc (.cells #[.slice A l.length c] 35)).alloc (.cells #[.string nm, .int .i64 1, .int .i64 0, .bool false, .slice none 0 0, .slice none 0 0, .slice none 0 0, .slice none 0 0] 30)).alloc (.cells #[.string ⟨#[]⟩, .int .i64 0, .int .i64 0, .bool false, .slice none 0 0, .slice none 0 0, .slice none 0 0, .slice none 0 0] 30)).cell? ⟨bn, on, none⟩ = some (.string x) := by have h := Y0.out; rw [W1.out] at h; exact h
      go_enter Tryz.func33, Tryz.ntmps33
      go_wp2_with fail
      refine (PI.out _).mono ?_
      rintro e w5 ⟨rfl, hb5⟩
      rw [← W1.out] at hb5
      have B5 := Lib.hid (Below.then_ B1.out hb5 (Nat.le_refl _))
      have D5 := Lib.hid (D1.out.below hb5)
      have R5 := Lib.hid (R1.out.below hb5)
      have Z5 := Lib.hid (Z1.out.below hb5)
      have ny1 : (w5.setCell ⟨w.heap.size + 1, 2, none⟩ (.int .i64 num)).cell? ⟨bn, on + 1, none⟩ = some (.string y) := by rw [World.cell?_setCell_other _ _ _ _ (by intro e; injection e; omega)]; exact cell_after Y1.out hb5
      have y0 : w5.cell? ⟨w.heap.size + 1, 0, none⟩ = some (.string nm) := R5.out.cell 0
      have f0 : w5.frozen? ⟨w.heap.size + 1, 0, none⟩ = false := R5.out.frozen 0
      have y1 : w5.cell? ⟨w.heap.size + 1, 1, none⟩ = some (.int .i64 1) := R5.out.cell 1
      have f1 : w5.frozen? ⟨w.heap.size + 1, 1, none⟩ = false := R5.out.frozen 1
      have y2 : w5.cell? ⟨w.heap.size + 1, 2, none⟩ = some (.int .i64 0) := R5.out.cell 2
      have f2 : w5.frozen? ⟨w.heap.size + 1, 2, none⟩ = false := R5.out.frozen 2
      have y3 : w5.cell? ⟨w.heap.size + 1, 3, none⟩ = some (.bool false) := R5.out.cell 3
      have f3 : w5.frozen? ⟨w.heap.size + 1, 3, none⟩ = false := R5.out.frozen 3
      have y4 : w5.cell? ⟨w.heap.size + 1, 4, none⟩ = some (.slice none 0 0) := R5.out.cell 4
      have f4 : w5.frozen? ⟨w.heap.size + 1, 4, none⟩ = false := R5.out.frozen 4
      have y5 : w5.cell? ⟨w.heap.size + 1, 5, none⟩ = some (.slice none 0 0) := R5.out.cell 5
      have f5 : w5.frozen? ⟨w.heap.size + 1, 5, none⟩ = false := R5.out.frozen 5
      have y6 : w5.cell? ⟨w.heap.size + 1, 6, none⟩ = some (.slice none 0 0) := R5.out.cell 6
      have f6 : w5.frozen? ⟨w.heap.size + 1, 6, none⟩ = false := R5.out.frozen 6
      have y7 : w5.cell? ⟨w.heap.size + 1, 7, none⟩ = some (.slice none 0 0) := R5.out.cell 7
      have f7 : w5.frozen? ⟨w.heap.size + 1, 7, none⟩ = false := R5.out.frozen 7
      have z0 : w5.cell? ⟨w.heap.size + 1 + 1, 0, none⟩ = some (.string ⟨#[]⟩) := Z5.out.cell 0
      have q0 : w5.frozen? ⟨w.heap.size + 1 + 1, 0, none⟩ = false := Z5.out.frozen 0
      have z1 : w5.cell? ⟨w.heap.size + 1 + 1, 1, none⟩ = some (.int .i64 0) := Z5.out.cell 1
      have q1 : w5.frozen? ⟨w.heap.size + 1 + 1, 1, none⟩ = false := Z5.out.frozen 1
      have z2 : w5.cell? ⟨w.heap.size + 1 + 1, 2, none⟩ = some (.int .i64 0) := Z5.out.cell 2
      have q2 : w5.frozen? ⟨w.heap.size + 1 + 1, 2, none⟩ = false := Z5.out.frozen 2
      have z3 : w5.cell? ⟨w.heap.size + 1 + 1, 3, none⟩ = some (.bool false) := Z5.out.cell 3
      have q3 : w5.frozen? ⟨w.heap.size + 1 + 1, 3, none⟩ = false := Z5.out.frozen 3
      have z4 : w5.cell? ⟨w.heap.size + 1 + 1, 4, none⟩ = some (.slice none 0 0) := Z5.out.cell 4
      have q4 : w5.frozen? ⟨w.heap.size + 1 + 1, 4, none⟩ = false := Z5.out.frozen 4
      have z5 : w5.cell? ⟨w.heap.size + 1 + 1, 5, none⟩ = some (.slice none 0 0) := Z5.out.cell 5
      have q5 : w5.frozen? ⟨w.heap.size + 1 + 1, 5, none⟩ = false := Z5.out.frozen 5
      have z6 : w5.cell? ⟨w.heap.size + 1 + 1, 6, none⟩ = some (.slice none 0 0) := Z5.out.cell 6
      have q6 : w5.frozen? ⟨w.heap.size + 1 + 1, 6, none⟩ = false := Z5.out.frozen 6
      have z7 : w5.cell? ⟨w.heap.size + 1 + 1, 7, none⟩ = some (.slice none 0 0) := Z5.out.cell 7
      have q7 : w5.frozen? ⟨w.heap.size + 1 + 1, 7, none⟩ = false := Z5.out.frozen 7
      clear hb5 nz0
      cases iok
      · have hres : Hid (O = none) := by show _ = _; rw [HRES.out]; rfl
        go_wp2_with fail
        refine bodyPost_ret (v := .tuple #[.agg #[.string nm, .int .i64 1, .int .i64 num, .bool lit, .slice none 0 0, .slice none 0 0, .slice none 0 0, .slice none 0 0], .bool false]) (by simp [results, Tryz.results33, go_sem, z0, z1, z2, z3, z4, z5, z6, z7]) rfl ?_
        exact MadeA.mk_ (x := ⟨nm, 1, num, lit, [], [], [], []⟩) (by rw [hres.out]; rfl) ((((Rows4.nil w5 w.heap.size (r := ⟨nm, 1, num, lit, [], [], [], []⟩) rfl rfl rfl rfl).setBox (j := 2) (u := .int .i64 num) R5.out).setBox (j := 3) (u := .bool lit) (R5.out.set 2 (.int .i64 num))).all8 ((Z5.out.setOther ⟨w.heap.size + 1, 2, none⟩ (Nat.ne_of_gt (Nat.lt_succ_self _)) (.int .i64 num)).setOther ⟨w.heap.size + 1, 3, none⟩ (Nat.ne_of_gt (Nat.lt_succ_self _)) (.bool lit))) (Below.all8 (below_set (j := 3) (below_set (j := 2) B5.out (Nat.le_succ _) (.int .i64 num)) (Nat.le_succ _) (.bool lit)) (Nat.le_trans (Nat.le_succ _) (Nat.le_succ _)) _ _ _ _ _ _ _ _) (by intro y hy; rw [hres.out] at hy; cases hy)
      · have hres : Hid (O = some ⟨nm, 1, num, lit, [], [], [], []⟩) := by show _ = _; rw [HRES.out]; rfl
        go_wp2_with fail
        refine bodyPost_ret (v := .tuple #[.agg #[.string nm, .int .i64 1, .int .i64 num, .bool lit, .slice none 0 0, .slice none 0 0, .slice none 0 0, .slice none 0 0], .bool true]) (by simp [results, Tryz.results33, go_sem, z0, z1, z2, z3, z4, z5, z6, z7]) rfl ?_
        exact MadeA.mk_ (x := ⟨nm, 1, num, lit, [], [], [], []⟩) (by rw [hres.out]; rfl) ((((Rows4.nil w5 w.heap.size (r := ⟨nm, 1, num, lit, [], [], [], []⟩) rfl rfl rfl rfl).setBox (j := 2) (u := .int .i64 num) R5.out).setBox (j := 3) (u := .bool lit) (R5.out.set 2 (.int .i64 num))).all8 ((Z5.out.setOther ⟨w.heap.size + 1, 2, none⟩ (Nat.ne_of_gt (Nat.lt_succ_self _)) (.int .i64 num)).setOther ⟨w.heap.size + 1, 3, none⟩ (Nat.ne_of_gt (Nat.lt_succ_self _)) (.bool lit))) (Below.all8 (below_set (j := 3) (below_set (j := 2) B5.out (Nat.le_succ _) (.int .i64 num)) (Nat.le_succ _) (.bool lit)) (Nat.le_trans (Nat.le_succ _) (Nat.le_succ _)) _ _ _ _ _ _ _ _) (by intro y hy; rw [hres.out] at hy; injection hy with hy; exact ⟨hy, FIT0.out _ _ _ _ _ _ NR.out (by simp) (by simp) (by simp), by simp, by simp, by simp, by simp⟩)
    · have hl0 : lit = false := by rw [hlit]; exact decide_eq_false (by rintro rfl; simp at h2)
      have d1 : ((n : Int) == 2) = false := by rw [beq_eq_false_iff_ne]; omega
      have d2 : (n == 2) = false := by rw [beq_eq_false_iff_ne]; omega
      subst hl0
      clear hnc pi hnum hiok hn hlit hnr hsx hnr2 h2 h1
      have nz0 : (((w.alloc (.cells #[.slice A l.length c] 35)).alloc (.cells #[.string nm, .int .i64 1, .int .i64 0, .bool false, .slice none 0 0, .slice none 0 0, .slice none 0 0, .slice none 0 0] 30)).alloc (.cells #[.string ⟨#[]⟩, .int .i64 0, .int .i64 0, .bool false, .slice none 0 0, .slice none 0 0, .slice none 0 0, .slice none 0 0] 30)).cell? ⟨bn, on, none⟩ = some (.string x) := by have h := Y0.out; rw [W1.out] at h; exact h
      go_enter Tryz.func33, Tryz.ntmps33
      go_wp2_with fail
      refine (PI.out _).mono ?_
      rintro e w5 ⟨rfl, hb5⟩
      rw [← W1.out] at hb5
      have B5 := Lib.hid (Below.then_ B1.out hb5 (Nat.le_refl _))
      have D5 := Lib.hid (D1.out.below hb5)
      have R5 := Lib.hid (R1.out.below hb5)
      have Z5 := Lib.hid (Z1.out.below hb5)
      have y0 : w5.cell? ⟨w.heap.size + 1, 0, none⟩ = some (.string nm) := R5.out.cell 0
      have f0 : w5.frozen? ⟨w.heap.size + 1, 0, none⟩ = false := R5.out.frozen 0
      have y1 : w5.cell? ⟨w.heap.size + 1, 1, none⟩ = some (.int .i64 1) := R5.out.cell 1
      have f1 : w5.frozen? ⟨w.heap.size + 1, 1, none⟩ = false := R5.out.frozen 1
      have y2 : w5.cell? ⟨w.heap.size + 1, 2, none⟩ = some (.int .i64 0) := R5.out.cell 2
      have f2 : w5.frozen? ⟨w.heap.size + 1, 2, none⟩ = false := R5.out.frozen 2
      have y3 : w5.cell? ⟨w.heap.size + 1, 3, none⟩ = some (.bool false) := R5.out.cell 3
      have f3 : w5.frozen? ⟨w.heap.size + 1, 3, none⟩ = false := R5.out.frozen 3
      have y4 : w5.cell? ⟨w.heap.size + 1, 4, none⟩ = some (.slice none 0 0) := R5.out.cell 4
      have f4 : w5.frozen? ⟨w.heap.size + 1, 4, none⟩ = false := R5.out.frozen 4
      have y5 : w5.cell? ⟨w.heap.size + 1, 5, none⟩ = some (.slice none 0 0) := R5.out.cell 5
      have f5 : w5.frozen? ⟨w.heap.size + 1, 5, none⟩ = false := R5.out.frozen 5
      have y6 : w5.cell? ⟨w.heap.size + 1, 6, none⟩ = some (.slice none 0 0) := R5.out.cell 6
      have f6 : w5.frozen? ⟨w.heap.size + 1, 6, none⟩ = false := R5.out.frozen 6
      have y7 : w5.cell? ⟨w.heap.size + 1, 7, none⟩ = some (.slice none 0 0) := R5.out.cell 7
      have f7 : w5.frozen? ⟨w.heap.size + 1, 7, none⟩ = false := R5.out.frozen 7
      have z0 : w5.cell? ⟨w.heap.size + 1 + 1, 0, none⟩ = some (.string ⟨#[]⟩) := Z5.out.cell 0
      have q0 : w5.frozen? ⟨w.heap.size + 1 + 1, 0, none⟩ = false := Z5.out.frozen 0
      have z1 : w5.cell? ⟨w.heap.size + 1 + 1, 1, none⟩ = some (.int .i64 0) := Z5.out.cell 1
      have q1 : w5.frozen? ⟨w.heap.size + 1 + 1, 1, none⟩ = false := Z5.out.frozen 1
      have z2 : w5.cell? ⟨w.heap.size + 1 + 1, 2, none⟩ = some (.int .i64 0) := Z5.out.cell 2
      have q2 : w5.frozen? ⟨w.heap.size + 1 + 1, 2, none⟩ = false := Z5.out.frozen 2
      have z3 : w5.cell? ⟨w.heap.size + 1 + 1, 3, none⟩ = some (.bool false) := Z5.out.cell 3
      have q3 : w5.frozen? ⟨w.heap.size + 1 + 1, 3, none⟩ = false := Z5.out.frozen 3
      have z4 : w5.cell? ⟨w.heap.size + 1 + 1, 4, none⟩ = some (.slice none 0 0) := Z5.out.cell 4
      have q4 : w5.frozen? ⟨w.heap.size + 1 + 1, 4, none⟩ = false := Z5.out.frozen 4
      have z5 : w5.cell? ⟨w.heap.size + 1 + 1, 5, none⟩ = some (.slice none 0 0) := Z5.out.cell 5
      have q5 : w5.frozen? ⟨w.heap.size + 1 + 1, 5, none⟩ = false := Z5.out.frozen 5
      have z6 : w5.cell? ⟨w.heap.size + 1 + 1, 6, none⟩ = some (.slice none 0 0) := Z5.out.cell 6
      have q6 : w5.frozen? ⟨w.heap.size + 1 + 1, 6, none⟩ = false := Z5.out.frozen 6
      have z7 : w5.cell? ⟨w.heap.size + 1 + 1, 7, none⟩ = some (.slice none 0 0) := Z5.out.cell 7
      have q7 : w5.frozen? ⟨w.heap.size + 1 + 1, 7, none⟩ = false := Z5.out.frozen 7
      clear hb5 nz0
      cases iok
      · have hres : Hid (O = none) := by show _ = _; rw [HRES.out]; rfl
        go_wp2_with fail
        refine bodyPost_ret (v := .tuple #[.agg #[.string nm, .int .i64 1, .int .i64 num, .bool false, .slice none 0 0, .slice none 0 0, .slice none 0 0, .slice none 0 0], .bool false]) (by simp [results, Tryz.results33, go_sem, z0, z1, z2, z3, z4, z5, z6, z7]) rfl ?_
        exact MadeA.mk_ (x := ⟨nm, 1, num, false, [], [], [], []⟩) (by rw [hres.out]; rfl) ((((Rows4.nil w5 w.heap.size (r := ⟨nm, 1, num, false, [], [], [], []⟩) rfl rfl rfl rfl).setBox (j := 2) (u := .int .i64 num) R5.out).setBox (j := 3) (u := .bool false) (R5.out.set 2 (.int .i64 num))).all8 ((Z5.out.setOther ⟨w.heap.size + 1, 2, none⟩ (Nat.ne_of_gt (Nat.lt_succ_self _)) (.int .i64 num)).setOther ⟨w.heap.size + 1, 3, none⟩ (Nat.ne_of_gt (Nat.lt_succ_self _)) (.bool false))) (Below.all8 (below_set (j := 3) (below_set (j := 2) B5.out (Nat.le_succ _) (.int .i64 num)) (Nat.le_succ _) (.bool false)) (Nat.le_trans (Nat.le_succ _) (Nat.le_succ _)) _ _ _ _ _ _ _ _) (by intro y hy; rw [hres.out] at hy; cases hy)
      · have hres : Hid (O = some ⟨nm, 1, num, false, [], [], [], []⟩) := by show _ = _; rw [HRES.out]; rfl
        go_wp2_with fail
        refine bodyPost_ret (v := .tuple #[.agg #[.string nm, .int .i64 1, .int .i64 num, .bool false, .slice none 0 0, .slice none 0 0, .slice none 0 0, .slice none 0 0], .bool true]) (by simp [results, Tryz.results33, go_sem, z0, z1, z2, z3, z4, z5, z6, z7]) rfl ?_
        exact MadeA.mk_ (x := ⟨nm, 1, num, false, [], [], [], []⟩) (by rw [hres.out]; rfl) ((((Rows4.nil w5 w.heap.size (r := ⟨nm, 1, num, false, [], [], [], []⟩) rfl rfl rfl rfl).setBox (j := 2) (u := .int .i64 num) R5.out).setBox (j := 3) (u := .bool false) (R5.out.set 2 (.int .i64 num))).all8 ((Z5.out.setOther ⟨w.heap.size + 1, 2, none⟩ (Nat.ne_of_gt (Nat.lt_succ_self _)) (.int .i64 num)).setOther ⟨w.heap.size + 1, 3, none⟩ (Nat.ne_of_gt (Nat.lt_succ_self _)) (.bool false))) (Below.all8 (below_set (j := 3) (below_set (j := 2) B5.out (Nat.le_succ _) (.int .i64 num)) (Nat.le_succ _) (.bool false)) (Nat.le_trans (Nat.le_succ _) (Nat.le_succ _)) _ _ _ _ _ _ _ _) (by intro y hy; rw [hres.out] at hy; injection hy with hy; exact ⟨hy, FIT0.out _ _ _ _ _ _ NR.out (by simp) (by simp) (by simp), by simp, by simp, by simp, by simp⟩)

set_option maxRecDepth 100000 in
set_option maxHeartbeats 8000000 in
theorem s_args3 (d : Value) (l : List RuleD) (nm : ByteArray) (kd : Int) (va : Value) (ws : List ByteArray) (hkd : kd = 3) (hnm : nm.size ≤ 1048576) (hkr : 0 ≤ kd ∧ kd ≤ 10) (h1 : 1 ≤ ws.length) (hws : ws.length ≤ 1048576) (hsz : ∀ s ∈ ws, s.size ≤ 1048576) (hln : l.length ≤ 1048576) (w : World) (hd : RdDesc w d l) (hv : Rd w va 1 ws.length (cS ws)) :
    Calls Tryz.prog 33 #[d, .agg #[.string nm, .int .i64 kd, .int .i64 0, .bool false, .slice none 0 0, .slice none 0 0, .slice none 0 0, .slice none 0 0], va] w (MadeA ws.length (argsS l ⟨nm, kd, 0, false, [], [], [], []⟩ ws) w) := by
  subst hkd
  obtain ⟨v, rfl, hdv⟩ := hd
  obtain ⟨A, c, rfl, hnc, hcm, hcell⟩ := hdv.all
  obtain ⟨hvl, Av, cv, rfl, hvc, hvm, _⟩ := id hv
  unfold maxLen at hcm hvm
  have HV := Lib.hid hdv
  have HVA := Lib.hid hv
  have HSZ := Lib.hid hsz
  obtain ⟨O, hO⟩ : ∃ O, O = argsS l ⟨nm, 3, 0, false, [], [], [], []⟩ ws := ⟨_, rfl⟩
  rw [← hO]
  have FIT0 := Lib.hid (show ∀ (sz : Int) (li : Bool) (bs : List UInt8) (ns : List ByteArray) (ts ks : List Int), (0 ≤ sz ∧ sz ≤ 1000000000000) → (∀ x ∈ ns, x.size ≤ 1048576) → (∀ x ∈ ts, 0 ≤ x ∧ x ≤ 1000000000000) → (∀ x ∈ ks, 0 ≤ x ∧ x ≤ 1048576) → Fit ⟨nm, 3, sz, li, bs, ns, ts, ks⟩ from fun sz li bs ns ts ks a1 a2 a3 a4 => ⟨hnm, a2, hkr, a1, a3, a4⟩)
  obtain ⟨w1, hw1⟩ : ∃ w1, w1 = (((w.alloc (.cells #[.slice A l.length c] 35)).alloc (.cells #[.string nm, .int .i64 3, .int .i64 0, .bool false, .slice none 0 0, .slice none 0 0, .slice none 0 0, .slice none 0 0] 30)).alloc (.cells #[.string ⟨#[]⟩, .int .i64 0, .int .i64 0, .bool false, .slice none 0 0, .slice none 0 0, .slice none 0 0, .slice none 0 0] 30)) := ⟨_, rfl⟩
  have D1 := Lib.hid (show Box w1 w.heap.size 35 #[.slice A l.length c] by rw [hw1]; exact ((Box.new w _ _).alloc _).alloc _)
  have R1 := Lib.hid (show Box w1 (w.heap.size + 1) 30 #[.string nm, .int .i64 3, .int .i64 0, .bool false, .slice none 0 0, .slice none 0 0, .slice none 0 0, .slice none 0 0] by rw [hw1]; exact (box_new1 w _ _ _).alloc _)
  have Z1 := Lib.hid (show Box w1 (w.heap.size + 1 + 1) 30 #[.string ⟨#[]⟩, .int .i64 0, .int .i64 0, .bool false, .slice none 0 0, .slice none 0 0, .slice none 0 0, .slice none 0 0] by rw [hw1]; exact box_new2 w _ _ _ _)
  have B1 := Lib.hid (show Below w.heap.size w w1 by rw [hw1]; exact (((Below.refl _ _).alloc (Nat.le_refl _) _).alloc (by simp) _).alloc (by simp; omega) _)
  have W1 := Lib.hid hw1
  have Z0 := Lib.hid (show (0 : Int) ≤ 0 ∧ (0 : Int) ≤ 1000000000000 by omega)
  clear hdv hcell hvl hw1 hnm hkr hsz
  have HFC : Hid (O = numS ⟨nm, 3, 0, false, [], [], [], []⟩ ws) := by show _ = _; rw [hO]; unfold argsS; rw [if_pos (.inr rfl)]
  clear hO hv
  cases ws with
  | nil => simp at h1
  | cons x rest =>
    obtain ⟨n, hn⟩ : ∃ n, n = (x :: rest).length := ⟨_, rfl⟩
    have hnr : n = rest.length + 1 := hn
    rw [← hn] at hvc hws HVA ⊢
    obtain ⟨bn, on, rfl, hnc⟩ := texts_at (by have h := HVA.out; rw [hn] at h; exact h) (by simp)
    have hbn : bn < w.heap.size := World.block_lt_of_cell? w _ (hnc 0 (by simp))
    have Y0 := Lib.hid (cell_after (hnc 0 (by simp)) B1.out)
    rw [Nat.add_zero, List.getElem_cons_zero] at Y0
    have hsx := HSZ.out x List.mem_cons_self
    have h0i : (0 : Int) < (n : Int) := by omega
    have pi := fun w => s_ParseInt x (by unfold maxLen; omega) w
    have hnr2 := parseNum_range x.data.toList
    obtain ⟨num, hnum⟩ : ∃ num, num = parseNum x.data.toList := ⟨_, rfl⟩
    obtain ⟨iok, hiok⟩ : ∃ iok, iok = parseOk x.data.toList := ⟨_, rfl⟩
    rw [← hnum, ← hiok] at pi
    rw [← hnum] at hnr2
    have NR := Lib.hid hnr2
    have PI := Lib.hid pi
    obtain ⟨lit, hlit⟩ : ∃ lit, lit = decide (rest = [littleS]) := ⟨_, rfl⟩
    have HRES : Hid (O = if iok = true then some ⟨nm, 3, num, lit, [], [], [], []⟩ else none) := by
      show _ = _
      rw [HFC.out, hiok, hnum, hlit]; rfl
    by_cases h2 : rest.length = 1
    · obtain ⟨y, rfl⟩ : ∃ y, rest = [y] := List.length_eq_one_iff.1 h2
      have hn2 : n = 2 := by rw [hnr]; rfl
      have Y1 := Lib.hid (cell_after (hnc 1 (by simp)) B1.out)
      have hl0 : lit = decide (y = littleS) := by rw [hlit]; simp
      have hle : littleS.toList = [108, 105, 116, 116, 108, 101] := by rw [Lib.toList_data]; rfl
      have hq : (y.toList == [108, 105, 116, 116, 108, 101]) = lit := by
        rw [hl0, ← hle]
        by_cases he : y = littleS
        · rw [he]; simp
        · rw [str_ne he]; simp [he]
      subst hn2
      clear hnc pi hnum hiok hn hlit hnr hl0 hle hsx hnr2 h2 h1
      have nz0 : (((w.alloc (.cells #[.slice A l.length c] 35)).alloc (.cells #[.string nm, .int .i64 3, .int .i64 0, .bool false, .slice none 0 0, .slice none 0 0, .slice none 0 0, .slice none 0 0] 30)).alloc (.cells #[.string ⟨#[]⟩, .int .i64 0, .int .i64 0, .bool false, .slice none 0 0, .slice none 0 0, .slice none 0 0, .slice none 0 0] 30)).cell? ⟨bn, on, none⟩ = some (.string x) := by have h := Y0.out; rw [W1.out] at h; exact h
      go_enter Tryz.func33, Tryz.ntmps33
      go_wp2_with fail
      refine (PI.out _).mono ?_
      rintro e w5 ⟨rfl, hb5⟩
      rw [← W1.out] at hb5
      have B5 := Lib.hid (Below.then_ B1.out hb5 (Nat.le_refl _))
      have D5 := Lib.hid (D1.out.below hb5)
      have R5 := Lib.hid (R1.out.below hb5)
      have Z5 := Lib.hid (Z1.out.below hb5)
      have ny1 : (w5.setCell ⟨w.heap.size + 1, 2, none⟩ (.int .i64 num)).cell? ⟨bn, on + 1, none⟩ = some (.string y) := by rw [World.cell?_setCell_other _ _ _ _ (by intro e; injection e; omega)]; exact cell_after Y1.out hb5
      have y0 : w5.cell? ⟨w.heap.size + 1, 0, none⟩ = some (.string nm) := R5.out.cell 0
      have f0 : w5.frozen? ⟨w.heap.size + 1, 0, none⟩ = false := R5.out.frozen 0
      have y1 : w5.cell? ⟨w.heap.size + 1, 1, none⟩ = some (.int .i64 3) := R5.out.cell 1
      have f1 : w5.frozen? ⟨w.heap.size + 1, 1, none⟩ = false := R5.out.frozen 1
      have y2 : w5.cell? ⟨w.heap.size + 1, 2, none⟩ = some (.int .i64 0) := R5.out.cell 2
      have f2 : w5.frozen? ⟨w.heap.size + 1, 2, none⟩ = false := R5.out.frozen 2
      have y3 : w5.cell? ⟨w.heap.size + 1, 3, none⟩ = some (.bool false) := R5.out.cell 3
      have f3 : w5.frozen? ⟨w.heap.size + 1, 3, none⟩ = false := R5.out.frozen 3
      have y4 : w5.cell? ⟨w.heap.size + 1, 4, none⟩ = some (.slice none 0 0) := R5.out.cell 4
      have f4 : w5.frozen? ⟨w.heap.size + 1, 4, none⟩ = false := R5.out.frozen 4
      have y5 : w5.cell? ⟨w.heap.size + 1, 5, none⟩ = some (.slice none 0 0) := R5.out.cell 5
      have f5 : w5.frozen? ⟨w.heap.size + 1, 5, none⟩ = false := R5.out.frozen 5
      have y6 : w5.cell? ⟨w.heap.size + 1, 6, none⟩ = some (.slice none 0 0) := R5.out.cell 6
      have f6 : w5.frozen? ⟨w.heap.size + 1, 6, none⟩ = false := R5.out.frozen 6
      have y7 : w5.cell? ⟨w.heap.size + 1, 7, none⟩ = some (.slice none 0 0) := R5.out.cell 7
      have f7 : w5.frozen? ⟨w.heap.size + 1, 7, none⟩ = false := R5.out.frozen 7
      have z0 : w5.cell? ⟨w.heap.size + 1 + 1, 0, none⟩ = some (.string ⟨#[]⟩) := Z5.out.cell 0
      have q0 : w5.frozen? ⟨w.heap.size + 1 + 1, 0, none⟩ = false := Z5.out.frozen 0
      have z1 : w5.cell? ⟨w.heap.size + 1 + 1, 1, none⟩ = some (.int .i64 0) := Z5.out.cell 1
      have q1 : w5.frozen? ⟨w.heap.size + 1 + 1, 1, none⟩ = false := Z5.out.frozen 1
      have z2 : w5.cell? ⟨w.heap.size + 1 + 1, 2, none⟩ = some (.int .i64 0) := Z5.out.cell 2
      have q2 : w5.frozen? ⟨w.heap.size + 1 + 1, 2, none⟩ = false := Z5.out.frozen 2
      have z3 : w5.cell? ⟨w.heap.size + 1 + 1, 3, none⟩ = some (.bool false) := Z5.out.cell 3
      have q3 : w5.frozen? ⟨w.heap.size + 1 + 1, 3, none⟩ = false := Z5.out.frozen 3
      have z4 : w5.cell? ⟨w.heap.size + 1 + 1, 4, none⟩ = some (.slice none 0 0) := Z5.out.cell 4
      have q4 : w5.frozen? ⟨w.heap.size + 1 + 1, 4, none⟩ = false := Z5.out.frozen 4
      have z5 : w5.cell? ⟨w.heap.size + 1 + 1, 5, none⟩ = some (.slice none 0 0) := Z5.out.cell 5
      have q5 : w5.frozen? ⟨w.heap.size + 1 + 1, 5, none⟩ = false := Z5.out.frozen 5
      have z6 : w5.cell? ⟨w.heap.size + 1 + 1, 6, none⟩ = some (.slice none 0 0) := Z5.out.cell 6
      have q6 : w5.frozen? ⟨w.heap.size + 1 + 1, 6, none⟩ = false := Z5.out.frozen 6
      have z7 : w5.cell? ⟨w.heap.size + 1 + 1, 7, none⟩ = some (.slice none 0 0) := Z5.out.cell 7
      have q7 : w5.frozen? ⟨w.heap.size + 1 + 1, 7, none⟩ = false := Z5.out.frozen 7
      clear hb5 nz0
      cases iok
      · have hres : Hid (O = none) := by show _ = _; rw [HRES.out]; rfl
        go_wp2_with fail
        refine bodyPost_ret (v := .tuple #[.agg #[.string nm, .int .i64 3, .int .i64 num, .bool lit, .slice none 0 0, .slice none 0 0, .slice none 0 0, .slice none 0 0], .bool false]) (by simp [results, Tryz.results33, go_sem, z0, z1, z2, z3, z4, z5, z6, z7]) rfl ?_
        exact MadeA.mk_ (x := ⟨nm, 3, num, lit, [], [], [], []⟩) (by rw [hres.out]; rfl) ((((Rows4.nil w5 w.heap.size (r := ⟨nm, 3, num, lit, [], [], [], []⟩) rfl rfl rfl rfl).setBox (j := 2) (u := .int .i64 num) R5.out).setBox (j := 3) (u := .bool lit) (R5.out.set 2 (.int .i64 num))).all8 ((Z5.out.setOther ⟨w.heap.size + 1, 2, none⟩ (Nat.ne_of_gt (Nat.lt_succ_self _)) (.int .i64 num)).setOther ⟨w.heap.size + 1, 3, none⟩ (Nat.ne_of_gt (Nat.lt_succ_self _)) (.bool lit))) (Below.all8 (below_set (j := 3) (below_set (j := 2) B5.out (Nat.le_succ _) (.int .i64 num)) (Nat.le_succ _) (.bool lit)) (Nat.le_trans (Nat.le_succ _) (Nat.le_succ _)) _ _ _ _ _ _ _ _) (by intro y hy; rw [hres.out] at hy; cases hy)
      · have hres : Hid (O = some ⟨nm, 3, num, lit, [], [], [], []⟩) := by show _ = _; rw [HRES.out]; rfl
        go_wp2_with fail
        refine bodyPost_ret (v := .tuple #[.agg #[.string nm, .int .i64 3, .int .i64 num, .bool lit, .slice none 0 0, .slice none 0 0, .slice none 0 0, .slice none 0 0], .bool true]) (by simp [results, Tryz.results33, go_sem, z0, z1, z2, z3, z4, z5, z6, z7]) rfl ?_
        exact MadeA.mk_ (x := ⟨nm, 3, num, lit, [], [], [], []⟩) (by rw [hres.out]; rfl) ((((Rows4.nil w5 w.heap.size (r := ⟨nm, 3, num, lit, [], [], [], []⟩) rfl rfl rfl rfl).setBox (j := 2) (u := .int .i64 num) R5.out).setBox (j := 3) (u := .bool lit) (R5.out.set 2 (.int .i64 num))).all8 ((Z5.out.setOther ⟨w.heap.size + 1, 2, none⟩ (Nat.ne_of_gt (Nat.lt_succ_self _)) (.int .i64 num)).setOther ⟨w.heap.size + 1, 3, none⟩ (Nat.ne_of_gt (Nat.lt_succ_self _)) (.bool lit))) (Below.all8 (below_set (j := 3) (below_set (j := 2) B5.out (Nat.le_succ _) (.int .i64 num)) (Nat.le_succ _) (.bool lit)) (Nat.le_trans (Nat.le_succ _) (Nat.le_succ _)) _ _ _ _ _ _ _ _) (by intro y hy; rw [hres.out] at hy; injection hy with hy; exact ⟨hy, FIT0.out _ _ _ _ _ _ NR.out (by simp) (by simp) (by simp), by simp, by simp, by simp, by simp⟩)
    · have hl0 : lit = false := by rw [hlit]; exact decide_eq_false (by rintro rfl; simp at h2)
      have d1 : ((n : Int) == 2) = false := by rw [beq_eq_false_iff_ne]; omega
      have d2 : (n == 2) = false := by rw [beq_eq_false_iff_ne]; omega
      subst hl0
      clear hnc pi hnum hiok hn hlit hnr hsx hnr2 h2 h1
      have nz0 : (((w.alloc (.cells #[.slice A l.length c] 35)).alloc (.cells #[.string nm, .int .i64 3, .int .i64 0, .bool false, .slice none 0 0, .slice none 0 0, .slice none 0 0, .slice none 0 0] 30)).alloc (.cells #[.string ⟨#[]⟩, .int .i64 0, .int .i64 0, .bool false, .slice none 0 0, .slice none 0 0, .slice none 0 0, .slice none 0 0] 30)).cell? ⟨bn, on, none⟩ = some (.string x) := by have h := Y0.out; rw [W1.out] at h; exact h
      go_enter Tryz.func33, Tryz.ntmps33
      go_wp2_with fail
      refine (PI.out _).mono ?_
      rintro e w5 ⟨rfl, hb5⟩
      rw [← W1.out] at hb5
      have B5 := Lib.hid (Below.then_ B1.out hb5 (Nat.le_refl _))
      have D5 := Lib.hid (D1.out.below hb5)
      have R5 := Lib.hid (R1.out.below hb5)
      have Z5 := Lib.hid (Z1.out.below hb5)
      have y0 : w5.cell? ⟨w.heap.size + 1, 0, none⟩ = some (.string nm) := R5.out.cell 0
      have f0 : w5.frozen? ⟨w.heap.size + 1, 0, none⟩ = false := R5.out.frozen 0
      have y1 : w5.cell? ⟨w.heap.size + 1, 1, none⟩ = some (.int .i64 3) := R5.out.cell 1
      have f1 : w5.frozen? ⟨w.heap.size + 1, 1, none⟩ = false := R5.out.frozen 1
      have y2 : w5.cell? ⟨w.heap.size + 1, 2, none⟩ = some (.int .i64 0) := R5.out.cell 2
      have f2 : w5.frozen? ⟨w.heap.size + 1, 2, none⟩ = false := R5.out.frozen 2
      have y3 : w5.cell? ⟨w.heap.size + 1, 3, none⟩ = some (.bool false) := R5.out.cell 3
      have f3 : w5.frozen? ⟨w.heap.size + 1, 3, none⟩ = false := R5.out.frozen 3
      have y4 : w5.cell? ⟨w.heap.size + 1, 4, none⟩ = some (.slice none 0 0) := R5.out.cell 4
      have f4 : w5.frozen? ⟨w.heap.size + 1, 4, none⟩ = false := R5.out.frozen 4
      have y5 : w5.cell? ⟨w.heap.size + 1, 5, none⟩ = some (.slice none 0 0) := R5.out.cell 5
      have f5 : w5.frozen? ⟨w.heap.size + 1, 5, none⟩ = false := R5.out.frozen 5
      have y6 : w5.cell? ⟨w.heap.size + 1, 6, none⟩ = some (.slice none 0 0) := R5.out.cell 6
      have f6 : w5.frozen? ⟨w.heap.size + 1, 6, none⟩ = false := R5.out.frozen 6
      have y7 : w5.cell? ⟨w.heap.size + 1, 7, none⟩ = some (.slice none 0 0) := R5.out.cell 7
      have f7 : w5.frozen? ⟨w.heap.size + 1, 7, none⟩ = false := R5.out.frozen 7
      have z0 : w5.cell? ⟨w.heap.size + 1 + 1, 0, none⟩ = some (.string ⟨#[]⟩) := Z5.out.cell 0
      have q0 : w5.frozen? ⟨w.heap.size + 1 + 1, 0, none⟩ = false := Z5.out.frozen 0
      have z1 : w5.cell? ⟨w.heap.size + 1 + 1, 1, none⟩ = some (.int .i64 0) := Z5.out.cell 1
      have q1 : w5.frozen? ⟨w.heap.size + 1 + 1, 1, none⟩ = false := Z5.out.frozen 1
      have z2 : w5.cell? ⟨w.heap.size + 1 + 1, 2, none⟩ = some (.int .i64 0) := Z5.out.cell 2
      have q2 : w5.frozen? ⟨w.heap.size + 1 + 1, 2, none⟩ = false := Z5.out.frozen 2
      have z3 : w5.cell? ⟨w.heap.size + 1 + 1, 3, none⟩ = some (.bool false) := Z5.out.cell 3
      have q3 : w5.frozen? ⟨w.heap.size + 1 + 1, 3, none⟩ = false := Z5.out.frozen 3
      have z4 : w5.cell? ⟨w.heap.size + 1 + 1, 4, none⟩ = some (.slice none 0 0) := Z5.out.cell 4
      have q4 : w5.frozen? ⟨w.heap.size + 1 + 1, 4, none⟩ = false := Z5.out.frozen 4
      have z5 : w5.cell? ⟨w.heap.size + 1 + 1, 5, none⟩ = some (.slice none 0 0) := Z5.out.cell 5
      have q5 : w5.frozen? ⟨w.heap.size + 1 + 1, 5, none⟩ = false := Z5.out.frozen 5
      have z6 : w5.cell? ⟨w.heap.size + 1 + 1, 6, none⟩ = some (.slice none 0 0) := Z5.out.cell 6
      have q6 : w5.frozen? ⟨w.heap.size + 1 + 1, 6, none⟩ = false := Z5.out.frozen 6
      have z7 : w5.cell? ⟨w.heap.size + 1 + 1, 7, none⟩ = some (.slice none 0 0) := Z5.out.cell 7
      have q7 : w5.frozen? ⟨w.heap.size + 1 + 1, 7, none⟩ = false := Z5.out.frozen 7
      clear hb5 nz0
      cases iok
      · have hres : Hid (O = none) := by show _ = _; rw [HRES.out]; rfl
        go_wp2_with fail
        refine bodyPost_ret (v := .tuple #[.agg #[.string nm, .int .i64 3, .int .i64 num, .bool false, .slice none 0 0, .slice none 0 0, .slice none 0 0, .slice none 0 0], .bool false]) (by simp [results, Tryz.results33, go_sem, z0, z1, z2, z3, z4, z5, z6, z7]) rfl ?_
        exact MadeA.mk_ (x := ⟨nm, 3, num, false, [], [], [], []⟩) (by rw [hres.out]; rfl) ((((Rows4.nil w5 w.heap.size (r := ⟨nm, 3, num, false, [], [], [], []⟩) rfl rfl rfl rfl).setBox (j := 2) (u := .int .i64 num) R5.out).setBox (j := 3) (u := .bool false) (R5.out.set 2 (.int .i64 num))).all8 ((Z5.out.setOther ⟨w.heap.size + 1, 2, none⟩ (Nat.ne_of_gt (Nat.lt_succ_self _)) (.int .i64 num)).setOther ⟨w.heap.size + 1, 3, none⟩ (Nat.ne_of_gt (Nat.lt_succ_self _)) (.bool false))) (Below.all8 (below_set (j := 3) (below_set (j := 2) B5.out (Nat.le_succ _) (.int .i64 num)) (Nat.le_succ _) (.bool false)) (Nat.le_trans (Nat.le_succ _) (Nat.le_succ _)) _ _ _ _ _ _ _ _) (by intro y hy; rw [hres.out] at hy; cases hy)
      · have hres : Hid (O = some ⟨nm, 3, num, false, [], [], [], []⟩) := by show _ = _; rw [HRES.out]; rfl
        go_wp2_with fail
        refine bodyPost_ret (v := .tuple #[.agg #[.string nm, .int .i64 3, .int .i64 num, .bool false, .slice none 0 0, .slice none 0 0, .slice none 0 0, .slice none 0 0], .bool true]) (by simp [results, Tryz.results33, go_sem, z0, z1, z2, z3, z4, z5, z6, z7]) rfl ?_
        exact MadeA.mk_ (x := ⟨nm, 3, num, false, [], [], [], []⟩) (by rw [hres.out]; rfl) ((((Rows4.nil w5 w.heap.size (r := ⟨nm, 3, num, false, [], [], [], []⟩) rfl rfl rfl rfl).setBox (j := 2) (u := .int .i64 num) R5.out).setBox (j := 3) (u := .bool false) (R5.out.set 2 (.int .i64 num))).all8 ((Z5.out.setOther ⟨w.heap.size + 1, 2, none⟩ (Nat.ne_of_gt (Nat.lt_succ_self _)) (.int .i64 num)).setOther ⟨w.heap.size + 1, 3, none⟩ (Nat.ne_of_gt (Nat.lt_succ_self _)) (.bool false))) (Below.all8 (below_set (j := 3) (below_set (j := 2) B5.out (Nat.le_succ _) (.int .i64 num)) (Nat.le_succ _) (.bool false)) (Nat.le_trans (Nat.le_succ _) (Nat.le_succ _)) _ _ _ _ _ _ _ _) (by intro y hy; rw [hres.out] at hy; injection hy with hy; exact ⟨hy, FIT0.out _ _ _ _ _ _ NR.out (by simp) (by simp) (by simp), by simp, by simp, by simp, by simp⟩)

set_option maxRecDepth 100000 in
set_option maxHeartbeats 8000000 in
theorem s_args2 (d : Value) (l : List RuleD) (nm : ByteArray) (kd : Int) (va : Value) (ws : List ByteArray) (hkd : kd = 2) (hnm : nm.size ≤ 1048576) (hkr : 0 ≤ kd ∧ kd ≤ 10) (h1 : 1 ≤ ws.length) (hws : ws.length ≤ 1048576) (hsz : ∀ s ∈ ws, s.size ≤ 1048576) (hln : l.length ≤ 1048576) (w : World) (hd : RdDesc w d l) (hv : Rd w va 1 ws.length (cS ws)) :
    Calls Tryz.prog 33 #[d, .agg #[.string nm, .int .i64 kd, .int .i64 0, .bool false, .slice none 0 0, .slice none 0 0, .slice none 0 0, .slice none 0 0], va] w (MadeA ws.length (argsS l ⟨nm, kd, 0, false, [], [], [], []⟩ ws) w) := by
  subst hkd
  obtain ⟨v, rfl, hdv⟩ := hd
  obtain ⟨A, c, rfl, hnc, hcm, hcell⟩ := hdv.all
  obtain ⟨hvl, Av, cv, rfl, hvc, hvm, _⟩ := id hv
  unfold maxLen at hcm hvm
  have HV := Lib.hid hdv
  have HVA := Lib.hid hv
  have HSZ := Lib.hid hsz
  obtain ⟨O, hO⟩ : ∃ O, O = argsS l ⟨nm, 2, 0, false, [], [], [], []⟩ ws := ⟨_, rfl⟩
  rw [← hO]
  have FIT0 := Lib.hid (show ∀ (sz : Int) (li : Bool) (bs : List UInt8) (ns : List ByteArray) (ts ks : List Int), (0 ≤ sz ∧ sz ≤ 1000000000000) → (∀ x ∈ ns, x.size ≤ 1048576) → (∀ x ∈ ts, 0 ≤ x ∧ x ≤ 1000000000000) → (∀ x ∈ ks, 0 ≤ x ∧ x ≤ 1048576) → Fit ⟨nm, 2, sz, li, bs, ns, ts, ks⟩ from fun sz li bs ns ts ks a1 a2 a3 a4 => ⟨hnm, a2, hkr, a1, a3, a4⟩)
  obtain ⟨w1, hw1⟩ : ∃ w1, w1 = (((w.alloc (.cells #[.slice A l.length c] 35)).alloc (.cells #[.string nm, .int .i64 2, .int .i64 0, .bool false, .slice none 0 0, .slice none 0 0, .slice none 0 0, .slice none 0 0] 30)).alloc (.cells #[.string ⟨#[]⟩, .int .i64 0, .int .i64 0, .bool false, .slice none 0 0, .slice none 0 0, .slice none 0 0, .slice none 0 0] 30)) := ⟨_, rfl⟩
  have D1 := Lib.hid (show Box w1 w.heap.size 35 #[.slice A l.length c] by rw [hw1]; exact ((Box.new w _ _).alloc _).alloc _)
  have R1 := Lib.hid (show Box w1 (w.heap.size + 1) 30 #[.string nm, .int .i64 2, .int .i64 0, .bool false, .slice none 0 0, .slice none 0 0, .slice none 0 0, .slice none 0 0] by rw [hw1]; exact (box_new1 w _ _ _).alloc _)
  have Z1 := Lib.hid (show Box w1 (w.heap.size + 1 + 1) 30 #[.string ⟨#[]⟩, .int .i64 0, .int .i64 0, .bool false, .slice none 0 0, .slice none 0 0, .slice none 0 0, .slice none 0 0] by rw [hw1]; exact box_new2 w _ _ _ _)
  have B1 := Lib.hid (show Below w.heap.size w w1 by rw [hw1]; exact (((Below.refl _ _).alloc (Nat.le_refl _) _).alloc (by simp) _).alloc (by simp; omega) _)
  have W1 := Lib.hid hw1
  have Z0 := Lib.hid (show (0 : Int) ≤ 0 ∧ (0 : Int) ≤ 1000000000000 by omega)
  clear hdv hcell hvl hw1 hnm hkr hsz
  have HFC : Hid (O = hexP ⟨nm, 2, 0, false, [], [], [], []⟩ ws) := by show _ = _; rw [hO]; unfold argsS; rw [if_neg (by simp), if_pos (.inl rfl)]
  clear hO hv
  cases ws with
  | nil => simp at h1
  | cons x rest =>
    obtain ⟨n, hn⟩ : ∃ n, n = (x :: rest).length := ⟨_, rfl⟩
    have hnr : n = rest.length + 1 := hn
    rw [← hn] at hvc hws HVA ⊢
    obtain ⟨bn, on, rfl, hnc⟩ := texts_at (by have h := HVA.out; rw [hn] at h; exact h) (by simp)
    have Y0 := Lib.hid (cell_after (hnc 0 (by simp)) B1.out)
    rw [Nat.add_zero, List.getElem_cons_zero] at Y0
    have hsx := HSZ.out x List.mem_cons_self
    have h0i : (0 : Int) < (n : Int) := by omega
    have ph := fun w => s_ParseHex x (by omega) w
    have hbl := parseB_le x.data.toList
    rw [len_of] at hbl
    obtain ⟨bs, hbs⟩ : ∃ bs, bs = parseB x.data.toList := ⟨_, rfl⟩
    obtain ⟨iok, hiok⟩ : ∃ iok, iok = parseBOk x.data.toList := ⟨_, rfl⟩
    rw [← hbs, ← hiok] at ph
    rw [← hbs] at hbl
    have BL := Lib.hid (Nat.le_trans hbl hsx)
    have PH := Lib.hid ph
    have HRES : Hid (O = if iok = true then some ⟨nm, 2, 0, false, bs, [], [], []⟩ else none) := by
      show _ = _
      rw [HFC.out, hiok, hbs]; rfl
    clear hnc ph hbs hiok hn hnr hsx hbl h1
    have nz0 : (((w.alloc (.cells #[.slice A l.length c] 35)).alloc (.cells #[.string nm, .int .i64 2, .int .i64 0, .bool false, .slice none 0 0, .slice none 0 0, .slice none 0 0, .slice none 0 0] 30)).alloc (.cells #[.string ⟨#[]⟩, .int .i64 0, .int .i64 0, .bool false, .slice none 0 0, .slice none 0 0, .slice none 0 0, .slice none 0 0] 30)).cell? ⟨bn, on, none⟩ = some (.string x) := by have h := Y0.out; rw [W1.out] at h; exact h
    go_enter Tryz.func33, Tryz.ntmps33
    go_wp2_with fail
    refine (PH.out _).mono ?_
    rintro e w5 ⟨v5, rfl, hov, hb5⟩
    rw [← W1.out] at hov hb5
    have B5 := Lib.hid (Below.then_ B1.out hb5 (Nat.le_refl _))
    have D5 := Lib.hid (D1.out.below hb5)
    have R5 := Lib.hid (R1.out.below hb5)
    have Z5 := Lib.hid (Z1.out.below hb5)
    have OV := Lib.hid (own_mono hov B1.out.size)
    obtain ⟨_, A5, c5, rfl, _, _, _⟩ := Rd.of_own hov
    have y0 : w5.cell? ⟨w.heap.size + 1, 0, none⟩ = some (.string nm) := R5.out.cell 0
    have f0 : w5.frozen? ⟨w.heap.size + 1, 0, none⟩ = false := R5.out.frozen 0
    have y1 : w5.cell? ⟨w.heap.size + 1, 1, none⟩ = some (.int .i64 2) := R5.out.cell 1
    have f1 : w5.frozen? ⟨w.heap.size + 1, 1, none⟩ = false := R5.out.frozen 1
    have y2 : w5.cell? ⟨w.heap.size + 1, 2, none⟩ = some (.int .i64 0) := R5.out.cell 2
    have f2 : w5.frozen? ⟨w.heap.size + 1, 2, none⟩ = false := R5.out.frozen 2
    have y3 : w5.cell? ⟨w.heap.size + 1, 3, none⟩ = some (.bool false) := R5.out.cell 3
    have f3 : w5.frozen? ⟨w.heap.size + 1, 3, none⟩ = false := R5.out.frozen 3
    have y4 : w5.cell? ⟨w.heap.size + 1, 4, none⟩ = some (.slice none 0 0) := R5.out.cell 4
    have f4 : w5.frozen? ⟨w.heap.size + 1, 4, none⟩ = false := R5.out.frozen 4
    have y5 : w5.cell? ⟨w.heap.size + 1, 5, none⟩ = some (.slice none 0 0) := R5.out.cell 5
    have f5 : w5.frozen? ⟨w.heap.size + 1, 5, none⟩ = false := R5.out.frozen 5
    have y6 : w5.cell? ⟨w.heap.size + 1, 6, none⟩ = some (.slice none 0 0) := R5.out.cell 6
    have f6 : w5.frozen? ⟨w.heap.size + 1, 6, none⟩ = false := R5.out.frozen 6
    have y7 : w5.cell? ⟨w.heap.size + 1, 7, none⟩ = some (.slice none 0 0) := R5.out.cell 7
    have f7 : w5.frozen? ⟨w.heap.size + 1, 7, none⟩ = false := R5.out.frozen 7
    have z0 : w5.cell? ⟨w.heap.size + 1 + 1, 0, none⟩ = some (.string ⟨#[]⟩) := Z5.out.cell 0
    have q0 : w5.frozen? ⟨w.heap.size + 1 + 1, 0, none⟩ = false := Z5.out.frozen 0
    have z1 : w5.cell? ⟨w.heap.size + 1 + 1, 1, none⟩ = some (.int .i64 0) := Z5.out.cell 1
    have q1 : w5.frozen? ⟨w.heap.size + 1 + 1, 1, none⟩ = false := Z5.out.frozen 1
    have z2 : w5.cell? ⟨w.heap.size + 1 + 1, 2, none⟩ = some (.int .i64 0) := Z5.out.cell 2
    have q2 : w5.frozen? ⟨w.heap.size + 1 + 1, 2, none⟩ = false := Z5.out.frozen 2
    have z3 : w5.cell? ⟨w.heap.size + 1 + 1, 3, none⟩ = some (.bool false) := Z5.out.cell 3
    have q3 : w5.frozen? ⟨w.heap.size + 1 + 1, 3, none⟩ = false := Z5.out.frozen 3
    have z4 : w5.cell? ⟨w.heap.size + 1 + 1, 4, none⟩ = some (.slice none 0 0) := Z5.out.cell 4
    have q4 : w5.frozen? ⟨w.heap.size + 1 + 1, 4, none⟩ = false := Z5.out.frozen 4
    have z5 : w5.cell? ⟨w.heap.size + 1 + 1, 5, none⟩ = some (.slice none 0 0) := Z5.out.cell 5
    have q5 : w5.frozen? ⟨w.heap.size + 1 + 1, 5, none⟩ = false := Z5.out.frozen 5
    have z6 : w5.cell? ⟨w.heap.size + 1 + 1, 6, none⟩ = some (.slice none 0 0) := Z5.out.cell 6
    have q6 : w5.frozen? ⟨w.heap.size + 1 + 1, 6, none⟩ = false := Z5.out.frozen 6
    have z7 : w5.cell? ⟨w.heap.size + 1 + 1, 7, none⟩ = some (.slice none 0 0) := Z5.out.cell 7
    have q7 : w5.frozen? ⟨w.heap.size + 1 + 1, 7, none⟩ = false := Z5.out.frozen 7
    clear hb5 hov nz0
    cases iok
    · have hres : Hid (O = none) := by show _ = _; rw [HRES.out]; rfl
      go_wp2_with fail
      refine bodyPost_ret (v := .tuple #[.agg #[.string nm, .int .i64 2, .int .i64 0, .bool false, .slice A5 bs.length c5, .slice none 0 0, .slice none 0 0, .slice none 0 0], .bool false]) (by simp [results, Tryz.results33, go_sem, z0, z1, z2, z3, z4, z5, z6, z7]) rfl ?_
      exact MadeA.mk_ (x := ⟨nm, 2, 0, false, bs, [], [], []⟩) (by rw [hres.out]; rfl) (((show Rows4 w5 w.heap.size ⟨nm, 2, 0, false, bs, [], [], []⟩ (.slice A5 bs.length c5) (.slice none 0 0) (.slice none 0 0) (.slice none 0 0) from ⟨OV.out, World.ownsRow_nil _ _ _ _, World.ownsRow_nil _ _ _ _, World.ownsRow_nil _ _ _ _, .inl rfl⟩).setBox (j := 4) (u := .slice A5 bs.length c5) R5.out).all8 (Z5.out.setOther ⟨w.heap.size + 1, 4, none⟩ (Nat.ne_of_gt (Nat.lt_succ_self _)) (.slice A5 bs.length c5))) (Below.all8 (below_set (j := 4) B5.out (Nat.le_succ _) (.slice A5 bs.length c5)) (Nat.le_trans (Nat.le_succ _) (Nat.le_succ _)) _ _ _ _ _ _ _ _) (by intro y hy; rw [hres.out] at hy; cases hy)
    · have hres : Hid (O = some ⟨nm, 2, 0, false, bs, [], [], []⟩) := by show _ = _; rw [HRES.out]; rfl
      go_wp2_with fail
      refine bodyPost_ret (v := .tuple #[.agg #[.string nm, .int .i64 2, .int .i64 0, .bool false, .slice A5 bs.length c5, .slice none 0 0, .slice none 0 0, .slice none 0 0], .bool true]) (by simp [results, Tryz.results33, go_sem, z0, z1, z2, z3, z4, z5, z6, z7]) rfl ?_
      exact MadeA.mk_ (x := ⟨nm, 2, 0, false, bs, [], [], []⟩) (by rw [hres.out]; rfl) (((show Rows4 w5 w.heap.size ⟨nm, 2, 0, false, bs, [], [], []⟩ (.slice A5 bs.length c5) (.slice none 0 0) (.slice none 0 0) (.slice none 0 0) from ⟨OV.out, World.ownsRow_nil _ _ _ _, World.ownsRow_nil _ _ _ _, World.ownsRow_nil _ _ _ _, .inl rfl⟩).setBox (j := 4) (u := .slice A5 bs.length c5) R5.out).all8 (Z5.out.setOther ⟨w.heap.size + 1, 4, none⟩ (Nat.ne_of_gt (Nat.lt_succ_self _)) (.slice A5 bs.length c5))) (Below.all8 (below_set (j := 4) B5.out (Nat.le_succ _) (.slice A5 bs.length c5)) (Nat.le_trans (Nat.le_succ _) (Nat.le_succ _)) _ _ _ _ _ _ _ _) (by intro y hy; rw [hres.out] at hy; injection hy with hy; exact ⟨hy, FIT0.out _ _ _ _ _ _ Z0.out (by simp) (by simp) (by simp), BL.out, by simp, by simp, by simp⟩)

set_option maxRecDepth 100000 in
set_option maxHeartbeats 8000000 in
theorem s_args10 (d : Value) (l : List RuleD) (nm : ByteArray) (kd : Int) (va : Value) (ws : List ByteArray) (hkd : kd = 10) (hnm : nm.size ≤ 1048576) (hkr : 0 ≤ kd ∧ kd ≤ 10) (h1 : 1 ≤ ws.length) (hws : ws.length ≤ 1048576) (hsz : ∀ s ∈ ws, s.size ≤ 1048576) (hln : l.length ≤ 1048576) (w : World) (hd : RdDesc w d l) (hv : Rd w va 1 ws.length (cS ws)) :
    Calls Tryz.prog 33 #[d, .agg #[.string nm, .int .i64 kd, .int .i64 0, .bool false, .slice none 0 0, .slice none 0 0, .slice none 0 0, .slice none 0 0], va] w (MadeA ws.length (argsS l ⟨nm, kd, 0, false, [], [], [], []⟩ ws) w) := by
  subst hkd
  obtain ⟨v, rfl, hdv⟩ := hd
  obtain ⟨A, c, rfl, hnc, hcm, hcell⟩ := hdv.all
  obtain ⟨hvl, Av, cv, rfl, hvc, hvm, _⟩ := id hv
  unfold maxLen at hcm hvm
  have HV := Lib.hid hdv
  have HVA := Lib.hid hv
  have HSZ := Lib.hid hsz
  obtain ⟨O, hO⟩ : ∃ O, O = argsS l ⟨nm, 10, 0, false, [], [], [], []⟩ ws := ⟨_, rfl⟩
  rw [← hO]
  have FIT0 := Lib.hid (show ∀ (sz : Int) (li : Bool) (bs : List UInt8) (ns : List ByteArray) (ts ks : List Int), (0 ≤ sz ∧ sz ≤ 1000000000000) → (∀ x ∈ ns, x.size ≤ 1048576) → (∀ x ∈ ts, 0 ≤ x ∧ x ≤ 1000000000000) → (∀ x ∈ ks, 0 ≤ x ∧ x ≤ 1048576) → Fit ⟨nm, 10, sz, li, bs, ns, ts, ks⟩ from fun sz li bs ns ts ks a1 a2 a3 a4 => ⟨hnm, a2, hkr, a1, a3, a4⟩)
  obtain ⟨w1, hw1⟩ : ∃ w1, w1 = (((w.alloc (.cells #[.slice A l.length c] 35)).alloc (.cells #[.string nm, .int .i64 10, .int .i64 0, .bool false, .slice none 0 0, .slice none 0 0, .slice none 0 0, .slice none 0 0] 30)).alloc (.cells #[.string ⟨#[]⟩, .int .i64 0, .int .i64 0, .bool false, .slice none 0 0, .slice none 0 0, .slice none 0 0, .slice none 0 0] 30)) := ⟨_, rfl⟩
  have D1 := Lib.hid (show Box w1 w.heap.size 35 #[.slice A l.length c] by rw [hw1]; exact ((Box.new w _ _).alloc _).alloc _)
  have R1 := Lib.hid (show Box w1 (w.heap.size + 1) 30 #[.string nm, .int .i64 10, .int .i64 0, .bool false, .slice none 0 0, .slice none 0 0, .slice none 0 0, .slice none 0 0] by rw [hw1]; exact (box_new1 w _ _ _).alloc _)
  have Z1 := Lib.hid (show Box w1 (w.heap.size + 1 + 1) 30 #[.string ⟨#[]⟩, .int .i64 0, .int .i64 0, .bool false, .slice none 0 0, .slice none 0 0, .slice none 0 0, .slice none 0 0] by rw [hw1]; exact box_new2 w _ _ _ _)
  have B1 := Lib.hid (show Below w.heap.size w w1 by rw [hw1]; exact (((Below.refl _ _).alloc (Nat.le_refl _) _).alloc (by simp) _).alloc (by simp; omega) _)
  have W1 := Lib.hid hw1
  have Z0 := Lib.hid (show (0 : Int) ≤ 0 ∧ (0 : Int) ≤ 1000000000000 by omega)
  clear hdv hcell hvl hw1 hnm hkr hsz
  have HFC : Hid (O = hexP ⟨nm, 10, 0, false, [], [], [], []⟩ ws) := by show _ = _; rw [hO]; unfold argsS; rw [if_neg (by simp), if_pos (.inr rfl)]
  clear hO hv
  cases ws with
  | nil => simp at h1
  | cons x rest =>
    obtain ⟨n, hn⟩ : ∃ n, n = (x :: rest).length := ⟨_, rfl⟩
    have hnr : n = rest.length + 1 := hn
    rw [← hn] at hvc hws HVA ⊢
    obtain ⟨bn, on, rfl, hnc⟩ := texts_at (by have h := HVA.out; rw [hn] at h; exact h) (by simp)
    have Y0 := Lib.hid (cell_after (hnc 0 (by simp)) B1.out)
    rw [Nat.add_zero, List.getElem_cons_zero] at Y0
    have hsx := HSZ.out x List.mem_cons_self
    have h0i : (0 : Int) < (n : Int) := by omega
    have ph := fun w => s_ParseHex x (by omega) w
    have hbl := parseB_le x.data.toList
    rw [len_of] at hbl
    obtain ⟨bs, hbs⟩ : ∃ bs, bs = parseB x.data.toList := ⟨_, rfl⟩
    obtain ⟨iok, hiok⟩ : ∃ iok, iok = parseBOk x.data.toList := ⟨_, rfl⟩
    rw [← hbs, ← hiok] at ph
    rw [← hbs] at hbl
    have BL := Lib.hid (Nat.le_trans hbl hsx)
    have PH := Lib.hid ph
    have HRES : Hid (O = if iok = true then some ⟨nm, 10, 0, false, bs, [], [], []⟩ else none) := by
      show _ = _
      rw [HFC.out, hiok, hbs]; rfl
    clear hnc ph hbs hiok hn hnr hsx hbl h1
    have nz0 : (((w.alloc (.cells #[.slice A l.length c] 35)).alloc (.cells #[.string nm, .int .i64 10, .int .i64 0, .bool false, .slice none 0 0, .slice none 0 0, .slice none 0 0, .slice none 0 0] 30)).alloc (.cells #[.string ⟨#[]⟩, .int .i64 0, .int .i64 0, .bool false, .slice none 0 0, .slice none 0 0, .slice none 0 0, .slice none 0 0] 30)).cell? ⟨bn, on, none⟩ = some (.string x) := by have h := Y0.out; rw [W1.out] at h; exact h
    go_enter Tryz.func33, Tryz.ntmps33
    go_wp2_with fail
    refine (PH.out _).mono ?_
    rintro e w5 ⟨v5, rfl, hov, hb5⟩
    rw [← W1.out] at hov hb5
    have B5 := Lib.hid (Below.then_ B1.out hb5 (Nat.le_refl _))
    have D5 := Lib.hid (D1.out.below hb5)
    have R5 := Lib.hid (R1.out.below hb5)
    have Z5 := Lib.hid (Z1.out.below hb5)
    have OV := Lib.hid (own_mono hov B1.out.size)
    obtain ⟨_, A5, c5, rfl, _, _, _⟩ := Rd.of_own hov
    have y0 : w5.cell? ⟨w.heap.size + 1, 0, none⟩ = some (.string nm) := R5.out.cell 0
    have f0 : w5.frozen? ⟨w.heap.size + 1, 0, none⟩ = false := R5.out.frozen 0
    have y1 : w5.cell? ⟨w.heap.size + 1, 1, none⟩ = some (.int .i64 10) := R5.out.cell 1
    have f1 : w5.frozen? ⟨w.heap.size + 1, 1, none⟩ = false := R5.out.frozen 1
    have y2 : w5.cell? ⟨w.heap.size + 1, 2, none⟩ = some (.int .i64 0) := R5.out.cell 2
    have f2 : w5.frozen? ⟨w.heap.size + 1, 2, none⟩ = false := R5.out.frozen 2
    have y3 : w5.cell? ⟨w.heap.size + 1, 3, none⟩ = some (.bool false) := R5.out.cell 3
    have f3 : w5.frozen? ⟨w.heap.size + 1, 3, none⟩ = false := R5.out.frozen 3
    have y4 : w5.cell? ⟨w.heap.size + 1, 4, none⟩ = some (.slice none 0 0) := R5.out.cell 4
    have f4 : w5.frozen? ⟨w.heap.size + 1, 4, none⟩ = false := R5.out.frozen 4
    have y5 : w5.cell? ⟨w.heap.size + 1, 5, none⟩ = some (.slice none 0 0) := R5.out.cell 5
    have f5 : w5.frozen? ⟨w.heap.size + 1, 5, none⟩ = false := R5.out.frozen 5
    have y6 : w5.cell? ⟨w.heap.size + 1, 6, none⟩ = some (.slice none 0 0) := R5.out.cell 6
    have f6 : w5.frozen? ⟨w.heap.size + 1, 6, none⟩ = false := R5.out.frozen 6
    have y7 : w5.cell? ⟨w.heap.size + 1, 7, none⟩ = some (.slice none 0 0) := R5.out.cell 7
    have f7 : w5.frozen? ⟨w.heap.size + 1, 7, none⟩ = false := R5.out.frozen 7
    have z0 : w5.cell? ⟨w.heap.size + 1 + 1, 0, none⟩ = some (.string ⟨#[]⟩) := Z5.out.cell 0
    have q0 : w5.frozen? ⟨w.heap.size + 1 + 1, 0, none⟩ = false := Z5.out.frozen 0
    have z1 : w5.cell? ⟨w.heap.size + 1 + 1, 1, none⟩ = some (.int .i64 0) := Z5.out.cell 1
    have q1 : w5.frozen? ⟨w.heap.size + 1 + 1, 1, none⟩ = false := Z5.out.frozen 1
    have z2 : w5.cell? ⟨w.heap.size + 1 + 1, 2, none⟩ = some (.int .i64 0) := Z5.out.cell 2
    have q2 : w5.frozen? ⟨w.heap.size + 1 + 1, 2, none⟩ = false := Z5.out.frozen 2
    have z3 : w5.cell? ⟨w.heap.size + 1 + 1, 3, none⟩ = some (.bool false) := Z5.out.cell 3
    have q3 : w5.frozen? ⟨w.heap.size + 1 + 1, 3, none⟩ = false := Z5.out.frozen 3
    have z4 : w5.cell? ⟨w.heap.size + 1 + 1, 4, none⟩ = some (.slice none 0 0) := Z5.out.cell 4
    have q4 : w5.frozen? ⟨w.heap.size + 1 + 1, 4, none⟩ = false := Z5.out.frozen 4
    have z5 : w5.cell? ⟨w.heap.size + 1 + 1, 5, none⟩ = some (.slice none 0 0) := Z5.out.cell 5
    have q5 : w5.frozen? ⟨w.heap.size + 1 + 1, 5, none⟩ = false := Z5.out.frozen 5
    have z6 : w5.cell? ⟨w.heap.size + 1 + 1, 6, none⟩ = some (.slice none 0 0) := Z5.out.cell 6
    have q6 : w5.frozen? ⟨w.heap.size + 1 + 1, 6, none⟩ = false := Z5.out.frozen 6
    have z7 : w5.cell? ⟨w.heap.size + 1 + 1, 7, none⟩ = some (.slice none 0 0) := Z5.out.cell 7
    have q7 : w5.frozen? ⟨w.heap.size + 1 + 1, 7, none⟩ = false := Z5.out.frozen 7
    clear hb5 hov nz0
    cases iok
    · have hres : Hid (O = none) := by show _ = _; rw [HRES.out]; rfl
      go_wp2_with fail
      refine bodyPost_ret (v := .tuple #[.agg #[.string nm, .int .i64 10, .int .i64 0, .bool false, .slice A5 bs.length c5, .slice none 0 0, .slice none 0 0, .slice none 0 0], .bool false]) (by simp [results, Tryz.results33, go_sem, z0, z1, z2, z3, z4, z5, z6, z7]) rfl ?_
      exact MadeA.mk_ (x := ⟨nm, 10, 0, false, bs, [], [], []⟩) (by rw [hres.out]; rfl) (((show Rows4 w5 w.heap.size ⟨nm, 10, 0, false, bs, [], [], []⟩ (.slice A5 bs.length c5) (.slice none 0 0) (.slice none 0 0) (.slice none 0 0) from ⟨OV.out, World.ownsRow_nil _ _ _ _, World.ownsRow_nil _ _ _ _, World.ownsRow_nil _ _ _ _, .inl rfl⟩).setBox (j := 4) (u := .slice A5 bs.length c5) R5.out).all8 (Z5.out.setOther ⟨w.heap.size + 1, 4, none⟩ (Nat.ne_of_gt (Nat.lt_succ_self _)) (.slice A5 bs.length c5))) (Below.all8 (below_set (j := 4) B5.out (Nat.le_succ _) (.slice A5 bs.length c5)) (Nat.le_trans (Nat.le_succ _) (Nat.le_succ _)) _ _ _ _ _ _ _ _) (by intro y hy; rw [hres.out] at hy; cases hy)
    · have hres : Hid (O = some ⟨nm, 10, 0, false, bs, [], [], []⟩) := by show _ = _; rw [HRES.out]; rfl
      go_wp2_with fail
      refine bodyPost_ret (v := .tuple #[.agg #[.string nm, .int .i64 10, .int .i64 0, .bool false, .slice A5 bs.length c5, .slice none 0 0, .slice none 0 0, .slice none 0 0], .bool true]) (by simp [results, Tryz.results33, go_sem, z0, z1, z2, z3, z4, z5, z6, z7]) rfl ?_
      exact MadeA.mk_ (x := ⟨nm, 10, 0, false, bs, [], [], []⟩) (by rw [hres.out]; rfl) (((show Rows4 w5 w.heap.size ⟨nm, 10, 0, false, bs, [], [], []⟩ (.slice A5 bs.length c5) (.slice none 0 0) (.slice none 0 0) (.slice none 0 0) from ⟨OV.out, World.ownsRow_nil _ _ _ _, World.ownsRow_nil _ _ _ _, World.ownsRow_nil _ _ _ _, .inl rfl⟩).setBox (j := 4) (u := .slice A5 bs.length c5) R5.out).all8 (Z5.out.setOther ⟨w.heap.size + 1, 4, none⟩ (Nat.ne_of_gt (Nat.lt_succ_self _)) (.slice A5 bs.length c5))) (Below.all8 (below_set (j := 4) B5.out (Nat.le_succ _) (.slice A5 bs.length c5)) (Nat.le_trans (Nat.le_succ _) (Nat.le_succ _)) _ _ _ _ _ _ _ _) (by intro y hy; rw [hres.out] at hy; injection hy with hy; exact ⟨hy, FIT0.out _ _ _ _ _ _ Z0.out (by simp) (by simp) (by simp), BL.out, by simp, by simp, by simp⟩)

set_option maxRecDepth 100000 in
set_option maxHeartbeats 8000000 in
theorem s_args0 (d : Value) (l : List RuleD) (nm : ByteArray) (kd : Int) (va : Value) (ws : List ByteArray) (hkd : ¬ kd = 1 ∧ ¬ kd = 2 ∧ ¬ kd = 3 ∧ ¬ kd = 6 ∧ ¬ kd = 7 ∧ ¬ kd = 10) (hnm : nm.size ≤ 1048576) (hkr : 0 ≤ kd ∧ kd ≤ 10) (h1 : 1 ≤ ws.length) (hws : ws.length ≤ 1048576) (hsz : ∀ s ∈ ws, s.size ≤ 1048576) (hln : l.length ≤ 1048576) (w : World) (hd : RdDesc w d l) (hv : Rd w va 1 ws.length (cS ws)) :
    Calls Tryz.prog 33 #[d, .agg #[.string nm, .int .i64 kd, .int .i64 0, .bool false, .slice none 0 0, .slice none 0 0, .slice none 0 0, .slice none 0 0], va] w (MadeA ws.length (argsS l ⟨nm, kd, 0, false, [], [], [], []⟩ ws) w) := by
  obtain ⟨k1, k2, k3, k6, k7, k10⟩ := hkd
  obtain ⟨v, rfl, hdv⟩ := hd
  obtain ⟨A, c, rfl, hnc, hcm, hcell⟩ := hdv.all
  obtain ⟨hvl, Av, cv, rfl, hvc, hvm, _⟩ := id hv
  unfold maxLen at hcm hvm
  have HV := Lib.hid hdv
  have HVA := Lib.hid hv
  have HSZ := Lib.hid hsz
  obtain ⟨O, hO⟩ : ∃ O, O = argsS l ⟨nm, kd, 0, false, [], [], [], []⟩ ws := ⟨_, rfl⟩
  rw [← hO]
  have FIT0 := Lib.hid (show ∀ (sz : Int) (li : Bool) (bs : List UInt8) (ns : List ByteArray) (ts ks : List Int), (0 ≤ sz ∧ sz ≤ 1000000000000) → (∀ x ∈ ns, x.size ≤ 1048576) → (∀ x ∈ ts, 0 ≤ x ∧ x ≤ 1000000000000) → (∀ x ∈ ks, 0 ≤ x ∧ x ≤ 1048576) → Fit ⟨nm, kd, sz, li, bs, ns, ts, ks⟩ from fun sz li bs ns ts ks a1 a2 a3 a4 => ⟨hnm, a2, hkr, a1, a3, a4⟩)
  obtain ⟨w1, hw1⟩ : ∃ w1, w1 = (((w.alloc (.cells #[.slice A l.length c] 35)).alloc (.cells #[.string nm, .int .i64 kd, .int .i64 0, .bool false, .slice none 0 0, .slice none 0 0, .slice none 0 0, .slice none 0 0] 30)).alloc (.cells #[.string ⟨#[]⟩, .int .i64 0, .int .i64 0, .bool false, .slice none 0 0, .slice none 0 0, .slice none 0 0, .slice none 0 0] 30)) := ⟨_, rfl⟩
  have D1 := Lib.hid (show Box w1 w.heap.size 35 #[.slice A l.length c] by rw [hw1]; exact ((Box.new w _ _).alloc _).alloc _)
  have R1 := Lib.hid (show Box w1 (w.heap.size + 1) 30 #[.string nm, .int .i64 kd, .int .i64 0, .bool false, .slice none 0 0, .slice none 0 0, .slice none 0 0, .slice none 0 0] by rw [hw1]; exact (box_new1 w _ _ _).alloc _)
  have Z1 := Lib.hid (show Box w1 (w.heap.size + 1 + 1) 30 #[.string ⟨#[]⟩, .int .i64 0, .int .i64 0, .bool false, .slice none 0 0, .slice none 0 0, .slice none 0 0, .slice none 0 0] by rw [hw1]; exact box_new2 w _ _ _ _)
  have B1 := Lib.hid (show Below w.heap.size w w1 by rw [hw1]; exact (((Below.refl _ _).alloc (Nat.le_refl _) _).alloc (by simp) _).alloc (by simp; omega) _)
  have W1 := Lib.hid hw1
  have Z0 := Lib.hid (show (0 : Int) ≤ 0 ∧ (0 : Int) ≤ 1000000000000 by omega)
  clear hdv hcell hvl hw1 hnm hkr hsz
  have HFC : Hid (O = (kidsL l ws).map fun ks => ⟨nm, kd, 0, false, [], [], [], ks⟩) := by
    show _ = _
    rw [hO]; unfold argsS
    rw [if_neg (by show ¬ (kd = 1 ∨ kd = 3); omega), if_neg (by show ¬ (kd = 2 ∨ kd = 10); omega), if_neg (by show ¬ kd = 6; omega), if_neg (by show ¬ kd = 7; omega)]
  have e1 : (kd == 1) = false := by simpa using k1
  have e2 : (kd == 2) = false := by simpa using k2
  have e3 : (kd == 3) = false := by simpa using k3
  have e6 : (kd == 6) = false := by simpa using k6
  have e7 : (kd == 7) = false := by simpa using k7
  have e10 : (kd == 10) = false := by simpa using k10
  have KI := Lib.hid (fun w hd hv => s_l6Kids (.agg #[.slice A l.length c]) l (.slice Av ws.length cv) ws (by omega) w hd hv)
  have HWS := Lib.hid hws
  clear hO hv k1 k2 k3 k6 k7 k10
  go_enter Tryz.func33, Tryz.ntmps33
  go_wp2_with fail
  refine (KI.out _ ⟨_, rfl, HV.out.below (by rw [← W1.out]; exact B1.out)⟩ (HVA.out.below (by rw [← W1.out]; exact B1.out))).mono ?_
  rintro e w5 ⟨v5, xk, rfl, hov, hb5, hys, hxl⟩
  rw [← W1.out] at hov hb5
  have B5 := Lib.hid (Below.then_ B1.out hb5 (Nat.le_refl _))
  have D5 := Lib.hid (D1.out.below hb5)
  have R5 := Lib.hid (R1.out.below hb5)
  have Z5 := Lib.hid (Z1.out.below hb5)
  have OV := Lib.hid (own_mono hov B1.out.size)
  obtain ⟨_, A5, c5, rfl, _, _, _⟩ := Rd.of_own hov
  have HXL := Lib.hid hxl
  have y0 : w5.cell? ⟨w.heap.size + 1, 0, none⟩ = some (.string nm) := R5.out.cell 0
  have f0 : w5.frozen? ⟨w.heap.size + 1, 0, none⟩ = false := R5.out.frozen 0
  have y1 : w5.cell? ⟨w.heap.size + 1, 1, none⟩ = some (.int .i64 kd) := R5.out.cell 1
  have f1 : w5.frozen? ⟨w.heap.size + 1, 1, none⟩ = false := R5.out.frozen 1
  have y2 : w5.cell? ⟨w.heap.size + 1, 2, none⟩ = some (.int .i64 0) := R5.out.cell 2
  have f2 : w5.frozen? ⟨w.heap.size + 1, 2, none⟩ = false := R5.out.frozen 2
  have y3 : w5.cell? ⟨w.heap.size + 1, 3, none⟩ = some (.bool false) := R5.out.cell 3
  have f3 : w5.frozen? ⟨w.heap.size + 1, 3, none⟩ = false := R5.out.frozen 3
  have y4 : w5.cell? ⟨w.heap.size + 1, 4, none⟩ = some (.slice none 0 0) := R5.out.cell 4
  have f4 : w5.frozen? ⟨w.heap.size + 1, 4, none⟩ = false := R5.out.frozen 4
  have y5 : w5.cell? ⟨w.heap.size + 1, 5, none⟩ = some (.slice none 0 0) := R5.out.cell 5
  have f5 : w5.frozen? ⟨w.heap.size + 1, 5, none⟩ = false := R5.out.frozen 5
  have y6 : w5.cell? ⟨w.heap.size + 1, 6, none⟩ = some (.slice none 0 0) := R5.out.cell 6
  have f6 : w5.frozen? ⟨w.heap.size + 1, 6, none⟩ = false := R5.out.frozen 6
  have y7 : w5.cell? ⟨w.heap.size + 1, 7, none⟩ = some (.slice none 0 0) := R5.out.cell 7
  have f7 : w5.frozen? ⟨w.heap.size + 1, 7, none⟩ = false := R5.out.frozen 7
  have z0 : w5.cell? ⟨w.heap.size + 1 + 1, 0, none⟩ = some (.string ⟨#[]⟩) := Z5.out.cell 0
  have q0 : w5.frozen? ⟨w.heap.size + 1 + 1, 0, none⟩ = false := Z5.out.frozen 0
  have z1 : w5.cell? ⟨w.heap.size + 1 + 1, 1, none⟩ = some (.int .i64 0) := Z5.out.cell 1
  have q1 : w5.frozen? ⟨w.heap.size + 1 + 1, 1, none⟩ = false := Z5.out.frozen 1
  have z2 : w5.cell? ⟨w.heap.size + 1 + 1, 2, none⟩ = some (.int .i64 0) := Z5.out.cell 2
  have q2 : w5.frozen? ⟨w.heap.size + 1 + 1, 2, none⟩ = false := Z5.out.frozen 2
  have z3 : w5.cell? ⟨w.heap.size + 1 + 1, 3, none⟩ = some (.bool false) := Z5.out.cell 3
  have q3 : w5.frozen? ⟨w.heap.size + 1 + 1, 3, none⟩ = false := Z5.out.frozen 3
  have z4 : w5.cell? ⟨w.heap.size + 1 + 1, 4, none⟩ = some (.slice none 0 0) := Z5.out.cell 4
  have q4 : w5.frozen? ⟨w.heap.size + 1 + 1, 4, none⟩ = false := Z5.out.frozen 4
  have z5 : w5.cell? ⟨w.heap.size + 1 + 1, 5, none⟩ = some (.slice none 0 0) := Z5.out.cell 5
  have q5 : w5.frozen? ⟨w.heap.size + 1 + 1, 5, none⟩ = false := Z5.out.frozen 5
  have z6 : w5.cell? ⟨w.heap.size + 1 + 1, 6, none⟩ = some (.slice none 0 0) := Z5.out.cell 6
  have q6 : w5.frozen? ⟨w.heap.size + 1 + 1, 6, none⟩ = false := Z5.out.frozen 6
  have z7 : w5.cell? ⟨w.heap.size + 1 + 1, 7, none⟩ = some (.slice none 0 0) := Z5.out.cell 7
  have q7 : w5.frozen? ⟨w.heap.size + 1 + 1, 7, none⟩ = false := Z5.out.frozen 7
  clear hb5 hov hxl
  cases hk : kidsL l ws with
  | none =>
    have hres : Hid (O = none) := by show _ = _; rw [HFC.out, hk]; rfl
    rw [show (none : Option (List Int)).isSome = false from rfl]
    clear hk hys
    go_wp2_with fail
    refine bodyPost_ret (v := .tuple #[.agg #[.string nm, .int .i64 kd, .int .i64 0, .bool false, .slice none 0 0, .slice none 0 0, .slice none 0 0, .slice A5 xk.length c5], .bool false]) (by simp [results, Tryz.results33, go_sem, z0, z1, z2, z3, z4, z5, z6, z7]) rfl ?_
    exact MadeA.mk_ (x := ⟨nm, kd, 0, false, [], [], [], xk⟩) (by rw [hres.out]; rfl) (((show Rows4 w5 w.heap.size ⟨nm, kd, 0, false, [], [], [], xk⟩ (.slice none 0 0) (.slice none 0 0) (.slice none 0 0) (.slice A5 xk.length c5) from ⟨World.ownsRow_nil _ _ _ _, World.ownsRow_nil _ _ _ _, World.ownsRow_nil _ _ _ _, OV.out, .inl rfl⟩).setBox (j := 7) (u := .slice A5 xk.length c5) R5.out).all8 (Z5.out.setOther ⟨w.heap.size + 1, 7, none⟩ (Nat.ne_of_gt (Nat.lt_succ_self _)) (.slice A5 xk.length c5))) (Below.all8 (below_set (j := 7) B5.out (Nat.le_succ _) (.slice A5 xk.length c5)) (Nat.le_trans (Nat.le_succ _) (Nat.le_succ _)) _ _ _ _ _ _ _ _) (by intro y hy; rw [hres.out] at hy; cases hy)
  | some ks =>
    obtain rfl := hys ks hk
    have hres : Hid (O = some ⟨nm, kd, 0, false, [], [], [], xk⟩) := by show _ = _; rw [HFC.out, hk]; rfl
    have KM := Lib.hid (kidsL_mem hk)
    rw [show (some xk).isSome = true from rfl]
    clear hk hys
    go_wp2_with fail
    refine bodyPost_ret (v := .tuple #[.agg #[.string nm, .int .i64 kd, .int .i64 0, .bool false, .slice none 0 0, .slice none 0 0, .slice none 0 0, .slice A5 xk.length c5], .bool true]) (by simp [results, Tryz.results33, go_sem, z0, z1, z2, z3, z4, z5, z6, z7]) rfl ?_
    exact MadeA.mk_ (x := ⟨nm, kd, 0, false, [], [], [], xk⟩) (by rw [hres.out]; rfl) (((show Rows4 w5 w.heap.size ⟨nm, kd, 0, false, [], [], [], xk⟩ (.slice none 0 0) (.slice none 0 0) (.slice none 0 0) (.slice A5 xk.length c5) from ⟨World.ownsRow_nil _ _ _ _, World.ownsRow_nil _ _ _ _, World.ownsRow_nil _ _ _ _, OV.out, .inl rfl⟩).setBox (j := 7) (u := .slice A5 xk.length c5) R5.out).all8 (Z5.out.setOther ⟨w.heap.size + 1, 7, none⟩ (Nat.ne_of_gt (Nat.lt_succ_self _)) (.slice A5 xk.length c5))) (Below.all8 (below_set (j := 7) B5.out (Nat.le_succ _) (.slice A5 xk.length c5)) (Nat.le_trans (Nat.le_succ _) (Nat.le_succ _)) _ _ _ _ _ _ _ _) (by intro y hy; rw [hres.out] at hy; injection hy with hy; exact ⟨hy, FIT0.out _ _ _ _ _ _ Z0.out (by simp) (by simp) (fun x hx => by have := KM.out x hx; omega), by simp, by simp, by simp, HXL.out⟩)

set_option maxRecDepth 100000 in
set_option maxHeartbeats 8000000 in
theorem s_args6 (d : Value) (l : List RuleD) (nm : ByteArray) (kd : Int) (va : Value) (ws : List ByteArray) (hkd : kd = 6) (hnm : nm.size ≤ 1048576) (hkr : 0 ≤ kd ∧ kd ≤ 10) (h1 : 1 ≤ ws.length) (hws : ws.length ≤ 1048576) (hsz : ∀ s ∈ ws, s.size ≤ 1048576) (hln : l.length ≤ 1048576) (w : World) (hd : RdDesc w d l) (hv : Rd w va 1 ws.length (cS ws)) :
    Calls Tryz.prog 33 #[d, .agg #[.string nm, .int .i64 kd, .int .i64 0, .bool false, .slice none 0 0, .slice none 0 0, .slice none 0 0, .slice none 0 0], va] w (MadeA ws.length (argsS l ⟨nm, kd, 0, false, [], [], [], []⟩ ws) w) := by
  subst hkd
  obtain ⟨v, rfl, hdv⟩ := hd
  obtain ⟨A, c, rfl, hnc, hcm, hcell⟩ := hdv.all
  obtain ⟨hvl, Av, cv, rfl, hvc, hvm, _⟩ := id hv
  unfold maxLen at hcm hvm
  have HV := Lib.hid hdv
  have HVA := Lib.hid hv
  have HSZ := Lib.hid hsz
  obtain ⟨O, hO⟩ : ∃ O, O = argsS l ⟨nm, 6, 0, false, [], [], [], []⟩ ws := ⟨_, rfl⟩
  rw [← hO]
  have FIT0 := Lib.hid (show ∀ (sz : Int) (li : Bool) (bs : List UInt8) (ns : List ByteArray) (ts ks : List Int), (0 ≤ sz ∧ sz ≤ 1000000000000) → (∀ x ∈ ns, x.size ≤ 1048576) → (∀ x ∈ ts, 0 ≤ x ∧ x ≤ 1000000000000) → (∀ x ∈ ks, 0 ≤ x ∧ x ≤ 1048576) → Fit ⟨nm, 6, sz, li, bs, ns, ts, ks⟩ from fun sz li bs ns ts ks a1 a2 a3 a4 => ⟨hnm, a2, hkr, a1, a3, a4⟩)
  obtain ⟨w1, hw1⟩ : ∃ w1, w1 = (((w.alloc (.cells #[.slice A l.length c] 35)).alloc (.cells #[.string nm, .int .i64 6, .int .i64 0, .bool false, .slice none 0 0, .slice none 0 0, .slice none 0 0, .slice none 0 0] 30)).alloc (.cells #[.string ⟨#[]⟩, .int .i64 0, .int .i64 0, .bool false, .slice none 0 0, .slice none 0 0, .slice none 0 0, .slice none 0 0] 30)) := ⟨_, rfl⟩
  have D1 := Lib.hid (show Box w1 w.heap.size 35 #[.slice A l.length c] by rw [hw1]; exact ((Box.new w _ _).alloc _).alloc _)
  have R1 := Lib.hid (show Box w1 (w.heap.size + 1) 30 #[.string nm, .int .i64 6, .int .i64 0, .bool false, .slice none 0 0, .slice none 0 0, .slice none 0 0, .slice none 0 0] by rw [hw1]; exact (box_new1 w _ _ _).alloc _)
  have Z1 := Lib.hid (show Box w1 (w.heap.size + 1 + 1) 30 #[.string ⟨#[]⟩, .int .i64 0, .int .i64 0, .bool false, .slice none 0 0, .slice none 0 0, .slice none 0 0, .slice none 0 0] by rw [hw1]; exact box_new2 w _ _ _ _)
  have B1 := Lib.hid (show Below w.heap.size w w1 by rw [hw1]; exact (((Below.refl _ _).alloc (Nat.le_refl _) _).alloc (by simp) _).alloc (by simp; omega) _)
  have W1 := Lib.hid hw1
  have Z0 := Lib.hid (show (0 : Int) ≤ 0 ∧ (0 : Int) ≤ 1000000000000 by omega)
  clear hdv hcell hvl hw1 hnm hkr hsz
  have HFC : Hid (O = seqS l ⟨nm, 6, 0, false, [], [], [], []⟩ ws) := by show _ = _; rw [hO]; unfold argsS; rw [if_neg (by simp), if_neg (by simp), if_pos rfl]
  have PR := Lib.hid (fun w hv => s_l6Pairs (.slice Av ws.length cv) ws (by omega) (fun s hs => Nat.le_trans (HSZ.out s hs) (by omega)) w hv)
  have HWS := Lib.hid hws
  clear hO hv
  go_enter Tryz.func33, Tryz.ntmps33
  go_wp2_with fail
  refine (PR.out _ (HVA.out.below (by rw [← W1.out]; exact B1.out))).mono ?_
  rintro e w5 ⟨va5, vb5, xa, xb, rfl, hoa, hob, hb5, hall, hla, hlb, hqq⟩
  rw [← W1.out] at hoa hob hb5
  have B5 := Lib.hid (Below.then_ B1.out hb5 (Nat.le_refl _))
  have D5 := Lib.hid (D1.out.below hb5)
  have R5 := Lib.hid (R1.out.below hb5)
  have Z5 := Lib.hid (Z1.out.below hb5)
  obtain ⟨_, A5, c5, rfl, _, _, _⟩ := Rd.of_own hoa
  obtain ⟨_, A6, c6, rfl, _, _, _⟩ := Rd.of_own hob
  obtain ⟨w6, hw6⟩ : ∃ w6, w6 = w5.setCell ⟨w.heap.size + 1, 5, none⟩ (.slice A5 xa.length c5) := ⟨_, rfl⟩
  have OA := Lib.hid (show w6.ownsRow w.heap.size 9 1 (.slice A5 xa.length c5) xa.length (cS xa) by rw [hw6]; exact own_set_other4 (own_mono hoa B1.out.size) R5.out (by decide))
  have OB := Lib.hid (show w6.ownsRow w.heap.size 9 1 (.slice A6 xb.length c6) xb.length (cS xb) by rw [hw6]; exact own_set_other4 (own_mono hob B1.out.size) R5.out (by decide))
  have D6 := Lib.hid (show Box w6 w.heap.size 35 #[.slice A l.length c] by rw [hw6]; exact D5.out.setOther _ (by show w.heap.size ≠ w.heap.size + 1; omega) _)
  have R6 := Lib.hid (show Box w6 (w.heap.size + 1) 30 #[.string nm, .int .i64 6, .int .i64 0, .bool false, .slice none 0 0, .slice A5 xa.length c5, .slice none 0 0, .slice none 0 0] by rw [hw6]; exact R5.out.set 5 _)
  have Z6 := Lib.hid (show Box w6 (w.heap.size + 1 + 1) 30 #[.string ⟨#[]⟩, .int .i64 0, .int .i64 0, .bool false, .slice none 0 0, .slice none 0 0, .slice none 0 0, .slice none 0 0] by rw [hw6]; exact Z5.out.setOther _ (by show w.heap.size + 1 + 1 ≠ w.heap.size + 1; omega) _)
  have B6 := Lib.hid (show Below w.heap.size w w6 by rw [hw6]; exact below_set B5.out (Nat.le_succ _) _)
  have W6 := Lib.hid hw6
  have HALL := Lib.hid hall
  have HLA := Lib.hid hla
  have HLB := Lib.hid hlb
  have KI := Lib.hid (fun w hd hv => s_l6Kids (.agg #[.slice A l.length c]) l (.slice A6 xb.length c6) xb (by have := HWS.out; omega) w hd hv)
  have yd : (w5.setCell ⟨w.heap.size + 1, 5, none⟩ (.slice A5 xa.length c5)).cell? ⟨w.heap.size, 0, none⟩ = some (.slice A l.length c) := by rw [← hw6]; exact D6.out.cell 0
  have y0 : w5.cell? ⟨w.heap.size + 1, 0, none⟩ = some (.string nm) := R5.out.cell 0
  have f0 : w5.frozen? ⟨w.heap.size + 1, 0, none⟩ = false := R5.out.frozen 0
  have y1 : w5.cell? ⟨w.heap.size + 1, 1, none⟩ = some (.int .i64 6) := R5.out.cell 1
  have f1 : w5.frozen? ⟨w.heap.size + 1, 1, none⟩ = false := R5.out.frozen 1
  have y2 : w5.cell? ⟨w.heap.size + 1, 2, none⟩ = some (.int .i64 0) := R5.out.cell 2
  have f2 : w5.frozen? ⟨w.heap.size + 1, 2, none⟩ = false := R5.out.frozen 2
  have y3 : w5.cell? ⟨w.heap.size + 1, 3, none⟩ = some (.bool false) := R5.out.cell 3
  have f3 : w5.frozen? ⟨w.heap.size + 1, 3, none⟩ = false := R5.out.frozen 3
  have y4 : w5.cell? ⟨w.heap.size + 1, 4, none⟩ = some (.slice none 0 0) := R5.out.cell 4
  have f4 : w5.frozen? ⟨w.heap.size + 1, 4, none⟩ = false := R5.out.frozen 4
  have y5 : w5.cell? ⟨w.heap.size + 1, 5, none⟩ = some (.slice none 0 0) := R5.out.cell 5
  have f5 : w5.frozen? ⟨w.heap.size + 1, 5, none⟩ = false := R5.out.frozen 5
  have y6 : w5.cell? ⟨w.heap.size + 1, 6, none⟩ = some (.slice none 0 0) := R5.out.cell 6
  have f6 : w5.frozen? ⟨w.heap.size + 1, 6, none⟩ = false := R5.out.frozen 6
  have y7 : w5.cell? ⟨w.heap.size + 1, 7, none⟩ = some (.slice none 0 0) := R5.out.cell 7
  have f7 : w5.frozen? ⟨w.heap.size + 1, 7, none⟩ = false := R5.out.frozen 7
  obtain ⟨fn, hfn⟩ : ∃ fn, fn = ws.all sOk := ⟨_, rfl⟩
  have HFN := Lib.hid hfn
  rw [← hfn]
  clear hb5 hoa hob hall hla hlb hqq hw6 hfn
  go_wp2_with fail
  rw [← W6.out]
  refine (KI.out _ ⟨_, rfl, HV.out.below B6.out⟩ (Rd.of_own OB.out)).mono ?_
  rintro e w7 ⟨v7, xk, rfl, hov, hb7, hys, hxl⟩
  clear yd y0 f0 y1 f1 y2 f2 y3 f3 y4 f4 y5 f5 y6 f6 y7 f7
  have B7 := Lib.hid (Below.then_ B6.out hb7 (Nat.le_refl _))
  have OA7 := Lib.hid (own_below OA.out hb7)
  have OV := Lib.hid (own_mono hov B6.out.size)
  obtain ⟨_, A7, c7, rfl, _, _, _⟩ := Rd.of_own hov
  have R5 := Lib.hid (R6.out.below hb7)
  have Z5 := Lib.hid (Z6.out.below hb7)
  have HXL := Lib.hid hxl
  have y0 : w7.cell? ⟨w.heap.size + 1, 0, none⟩ = some (.string nm) := R5.out.cell 0
  have f0 : w7.frozen? ⟨w.heap.size + 1, 0, none⟩ = false := R5.out.frozen 0
  have y1 : w7.cell? ⟨w.heap.size + 1, 1, none⟩ = some (.int .i64 6) := R5.out.cell 1
  have f1 : w7.frozen? ⟨w.heap.size + 1, 1, none⟩ = false := R5.out.frozen 1
  have y2 : w7.cell? ⟨w.heap.size + 1, 2, none⟩ = some (.int .i64 0) := R5.out.cell 2
  have f2 : w7.frozen? ⟨w.heap.size + 1, 2, none⟩ = false := R5.out.frozen 2
  have y3 : w7.cell? ⟨w.heap.size + 1, 3, none⟩ = some (.bool false) := R5.out.cell 3
  have f3 : w7.frozen? ⟨w.heap.size + 1, 3, none⟩ = false := R5.out.frozen 3
  have y4 : w7.cell? ⟨w.heap.size + 1, 4, none⟩ = some (.slice none 0 0) := R5.out.cell 4
  have f4 : w7.frozen? ⟨w.heap.size + 1, 4, none⟩ = false := R5.out.frozen 4
  have y5 : w7.cell? ⟨w.heap.size + 1, 5, none⟩ = some (.slice A5 xa.length c5) := R5.out.cell 5
  have f5 : w7.frozen? ⟨w.heap.size + 1, 5, none⟩ = false := R5.out.frozen 5
  have y6 : w7.cell? ⟨w.heap.size + 1, 6, none⟩ = some (.slice none 0 0) := R5.out.cell 6
  have f6 : w7.frozen? ⟨w.heap.size + 1, 6, none⟩ = false := R5.out.frozen 6
  have y7 : w7.cell? ⟨w.heap.size + 1, 7, none⟩ = some (.slice none 0 0) := R5.out.cell 7
  have f7 : w7.frozen? ⟨w.heap.size + 1, 7, none⟩ = false := R5.out.frozen 7
  have z0 : w7.cell? ⟨w.heap.size + 1 + 1, 0, none⟩ = some (.string ⟨#[]⟩) := Z5.out.cell 0
  have q0 : w7.frozen? ⟨w.heap.size + 1 + 1, 0, none⟩ = false := Z5.out.frozen 0
  have z1 : w7.cell? ⟨w.heap.size + 1 + 1, 1, none⟩ = some (.int .i64 0) := Z5.out.cell 1
  have q1 : w7.frozen? ⟨w.heap.size + 1 + 1, 1, none⟩ = false := Z5.out.frozen 1
  have z2 : w7.cell? ⟨w.heap.size + 1 + 1, 2, none⟩ = some (.int .i64 0) := Z5.out.cell 2
  have q2 : w7.frozen? ⟨w.heap.size + 1 + 1, 2, none⟩ = false := Z5.out.frozen 2
  have z3 : w7.cell? ⟨w.heap.size + 1 + 1, 3, none⟩ = some (.bool false) := Z5.out.cell 3
  have q3 : w7.frozen? ⟨w.heap.size + 1 + 1, 3, none⟩ = false := Z5.out.frozen 3
  have z4 : w7.cell? ⟨w.heap.size + 1 + 1, 4, none⟩ = some (.slice none 0 0) := Z5.out.cell 4
  have q4 : w7.frozen? ⟨w.heap.size + 1 + 1, 4, none⟩ = false := Z5.out.frozen 4
  have z5 : w7.cell? ⟨w.heap.size + 1 + 1, 5, none⟩ = some (.slice none 0 0) := Z5.out.cell 5
  have q5 : w7.frozen? ⟨w.heap.size + 1 + 1, 5, none⟩ = false := Z5.out.frozen 5
  have z6 : w7.cell? ⟨w.heap.size + 1 + 1, 6, none⟩ = some (.slice none 0 0) := Z5.out.cell 6
  have q6 : w7.frozen? ⟨w.heap.size + 1 + 1, 6, none⟩ = false := Z5.out.frozen 6
  have z7 : w7.cell? ⟨w.heap.size + 1 + 1, 7, none⟩ = some (.slice none 0 0) := Z5.out.cell 7
  have q7 : w7.frozen? ⟨w.heap.size + 1 + 1, 7, none⟩ = false := Z5.out.frozen 7
  clear hb7 hov hxl
  obtain ⟨ko, hko⟩ : ∃ ko, ko = kidsL l xb := ⟨_, rfl⟩
  rw [← hko] at hys ⊢
  have HKO := Lib.hid hko
  have HYS := Lib.hid hys
  clear hko hys
  cases fn
  · have hres : Hid (O = none) := by show _ = _; rw [HFC.out]; unfold seqS; rw [if_neg (by rw [← HFN.out]; simp)]
    cases ko
    · rw [show (none : Option (List Int)).isSome = false from rfl]
      go_wp2_with fail
      refine bodyPost_ret (v := .tuple #[.agg #[.string nm, .int .i64 6, .int .i64 0, .bool false, .slice none 0 0, .slice A5 xa.length c5, .slice none 0 0, .slice A7 xk.length c7], .bool false]) (by simp [results, Tryz.results33, go_sem, z0, z1, z2, z3, z4, z5, z6, z7]) rfl ?_
      exact MadeA.mk_ (x := ⟨nm, 6, 0, false, [], xa, [], xk⟩) (by rw [hres.out]; rfl) (((show Rows4 w7 w.heap.size ⟨nm, 6, 0, false, [], xa, [], xk⟩ (.slice none 0 0) (.slice A5 xa.length c5) (.slice none 0 0) (.slice A7 xk.length c7) from ⟨World.ownsRow_nil _ _ _ _, OA7.out, World.ownsRow_nil _ _ _ _, OV.out, .inl rfl⟩).setBox (j := 7) (u := .slice A7 xk.length c7) R5.out).all8 (Z5.out.setOther ⟨w.heap.size + 1, 7, none⟩ (Nat.ne_of_gt (Nat.lt_succ_self _)) (.slice A7 xk.length c7))) (Below.all8 (below_set (j := 7) B7.out (Nat.le_succ _) (.slice A7 xk.length c7)) (Nat.le_trans (Nat.le_succ _) (Nat.le_succ _)) _ _ _ _ _ _ _ _) (by intro y hy; rw [hres.out] at hy; cases hy)
    · rename_i ks
      rw [show (some ks).isSome = true from rfl]
      go_wp2_with fail
      refine bodyPost_ret (v := .tuple #[.agg #[.string nm, .int .i64 6, .int .i64 0, .bool false, .slice none 0 0, .slice A5 xa.length c5, .slice none 0 0, .slice A7 xk.length c7], .bool false]) (by simp [results, Tryz.results33, go_sem, z0, z1, z2, z3, z4, z5, z6, z7]) rfl ?_
      exact MadeA.mk_ (x := ⟨nm, 6, 0, false, [], xa, [], xk⟩) (by rw [hres.out]; rfl) (((show Rows4 w7 w.heap.size ⟨nm, 6, 0, false, [], xa, [], xk⟩ (.slice none 0 0) (.slice A5 xa.length c5) (.slice none 0 0) (.slice A7 xk.length c7) from ⟨World.ownsRow_nil _ _ _ _, OA7.out, World.ownsRow_nil _ _ _ _, OV.out, .inl rfl⟩).setBox (j := 7) (u := .slice A7 xk.length c7) R5.out).all8 (Z5.out.setOther ⟨w.heap.size + 1, 7, none⟩ (Nat.ne_of_gt (Nat.lt_succ_self _)) (.slice A7 xk.length c7))) (Below.all8 (below_set (j := 7) B7.out (Nat.le_succ _) (.slice A7 xk.length c7)) (Nat.le_trans (Nat.le_succ _) (Nat.le_succ _)) _ _ _ _ _ _ _ _) (by intro y hy; rw [hres.out] at hy; cases hy)
  · have hxb : xb = ws.map sRight := (HALL.out HFN.out.symm).2
    have hxa : xa = ws.map sLeft := (HALL.out HFN.out.symm).1
    have HXB := Lib.hid hxb
    have HXA := Lib.hid hxa
    clear hxb hxa
    cases ko
    · have hres : Hid (O = none) := by show _ = _; rw [HFC.out]; unfold seqS; rw [if_pos HFN.out.symm, ← HXB.out, ← HKO.out]; rfl
      rw [show (none : Option (List Int)).isSome = false from rfl]
      go_wp2_with fail
      refine bodyPost_ret (v := .tuple #[.agg #[.string nm, .int .i64 6, .int .i64 0, .bool false, .slice none 0 0, .slice A5 xa.length c5, .slice none 0 0, .slice A7 xk.length c7], .bool false]) (by simp [results, Tryz.results33, go_sem, z0, z1, z2, z3, z4, z5, z6, z7]) rfl ?_
      exact MadeA.mk_ (x := ⟨nm, 6, 0, false, [], xa, [], xk⟩) (by rw [hres.out]; rfl) (((show Rows4 w7 w.heap.size ⟨nm, 6, 0, false, [], xa, [], xk⟩ (.slice none 0 0) (.slice A5 xa.length c5) (.slice none 0 0) (.slice A7 xk.length c7) from ⟨World.ownsRow_nil _ _ _ _, OA7.out, World.ownsRow_nil _ _ _ _, OV.out, .inl rfl⟩).setBox (j := 7) (u := .slice A7 xk.length c7) R5.out).all8 (Z5.out.setOther ⟨w.heap.size + 1, 7, none⟩ (Nat.ne_of_gt (Nat.lt_succ_self _)) (.slice A7 xk.length c7))) (Below.all8 (below_set (j := 7) B7.out (Nat.le_succ _) (.slice A7 xk.length c7)) (Nat.le_trans (Nat.le_succ _) (Nat.le_succ _)) _ _ _ _ _ _ _ _) (by intro y hy; rw [hres.out] at hy; cases hy)
    · rename_i ks
      obtain rfl := HYS.out ks rfl
      have hres : Hid (O = some ⟨nm, 6, 0, false, [], xa, [], xk⟩) := by show _ = _; rw [HFC.out]; unfold seqS; rw [if_pos HFN.out.symm, ← HXB.out, ← HKO.out, HXA.out]; rfl
      have KM := Lib.hid (kidsL_mem HKO.out.symm)
      have NM := Lib.hid (show ∀ x ∈ xa, x.size ≤ 1048576 from fun x hx => by
        rw [HXA.out] at hx
        obtain ⟨s, hs, rfl⟩ := List.mem_map.1 hx
        exact sLeft_le (HSZ.out s hs))
      rw [show (some xk).isSome = true from rfl]
      go_wp2_with fail
      refine bodyPost_ret (v := .tuple #[.agg #[.string nm, .int .i64 6, .int .i64 0, .bool false, .slice none 0 0, .slice A5 xa.length c5, .slice none 0 0, .slice A7 xk.length c7], .bool true]) (by simp [results, Tryz.results33, go_sem, z0, z1, z2, z3, z4, z5, z6, z7]) rfl ?_
      exact MadeA.mk_ (x := ⟨nm, 6, 0, false, [], xa, [], xk⟩) (by rw [hres.out]; rfl) (((show Rows4 w7 w.heap.size ⟨nm, 6, 0, false, [], xa, [], xk⟩ (.slice none 0 0) (.slice A5 xa.length c5) (.slice none 0 0) (.slice A7 xk.length c7) from ⟨World.ownsRow_nil _ _ _ _, OA7.out, World.ownsRow_nil _ _ _ _, OV.out, .inl rfl⟩).setBox (j := 7) (u := .slice A7 xk.length c7) R5.out).all8 (Z5.out.setOther ⟨w.heap.size + 1, 7, none⟩ (Nat.ne_of_gt (Nat.lt_succ_self _)) (.slice A7 xk.length c7))) (Below.all8 (below_set (j := 7) B7.out (Nat.le_succ _) (.slice A7 xk.length c7)) (Nat.le_trans (Nat.le_succ _) (Nat.le_succ _)) _ _ _ _ _ _ _ _) (by intro y hy; rw [hres.out] at hy; injection hy with hy; exact ⟨hy, FIT0.out _ _ _ _ _ _ Z0.out NM.out (by simp) (fun x hx => by have := KM.out x hx; omega), by simp, HLA.out, by simp, Nat.le_trans HXL.out HLB.out⟩)

end Go.Proofs.YtkjjgpkegihmhaaGreatDoor
