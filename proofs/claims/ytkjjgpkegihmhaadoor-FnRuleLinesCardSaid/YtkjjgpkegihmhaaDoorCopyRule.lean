/-
  copyRule, l4Rule: a rule that shares no memory.
-/
import Derived.Test.YtkjjgpkegihmhaaDoorGB
import Derived.Test.YtkjjgpkegihmhaaDoorGA
import Derived.OwnWalk
namespace Go.Proofs.YtkjjgpkegihmhaaDoor
open Go.RowKit
set_option linter.unusedVariables false

/-- Elements appended to a new empty slice: a copy. -/
theorem wpList_copy_rd {P : Program} {ops : Array Oper} {rest : List Oper} {o : Oper} {a : Act} {Q : Exit → Act → World → Prop} {w : World} (hgd : o.guard = none) (s x : Operand) (t : TypeId)
    (ho : o.op = .call { callee := .builtin .append, args := #[s, x], argTypes := #[t, t] })
    (e : TypeId) (i : TypeInfo) (z : Value) (bytes : Nat) (ht : P.underlying t = some (.slice e)) (hi : P.info? e = some i) (hz : i.zero = some z)
    (hsize : i.size = 1) (hby : i.bytes = bytes) (hzs : z.cells.size = 1) (hb16 : bytes ≤ 16)
    (g0 : Nat) (hg0 : g0 = w.heap.size) (hs : a.eval s = .slice (some ⟨g0, 0, none⟩) 0 0)
    (vx : Value) (m : Nat) (news : List Value) (hx : a.eval x = vx) (hr : Rd w vx 1 m news) (h1 : ∀ u ∈ news, u.oneCell' = true) (hm : m ≤ 1048576)
    (h : ∀ A c w', w'.ownsRow w.heap.size e 1 (.slice A m c) m news → Below w.heap.size w w' → wpList P ops Q rest (a.put o.dst (.slice A m c)) w') : wpList P ops Q (o :: rest) a (w.alloc (.cells #[] e)) := by
  have hown := World.ownsRow_lit (base := w.heap.size) (e := e) (size := 1) w #[] 0 (Nat.le_refl _) (Nat.zero_le _) rfl
  subst hg0
  refine wpList_append_rd _ hgd s x t ho w.heap.size e i z 1 bytes ht hi hz hsize hby hzs (by omega) _ 0 [] hs hown vx m news hx (hr.below ((Below.refl _ _).alloc (Nat.le_refl _) _)) h1 (by unfold maxLen; omega) ?_ (by simp) ?_
  · have : (0 + m) * bytes ≤ 1048576 * 16 := Nat.mul_le_mul (by omega) hb16
    omega
  · intro v' w' ho' hg' _
    have hb : Below w.heap.size w w' := own_grown_below ((Below.refl _ _).alloc (Nat.le_refl _) _) hown hg' (by simp) (Nat.le_refl _)
    rw [Nat.zero_add, List.nil_append] at ho'
    obtain ⟨_, A, c, hv, _⟩ := Rd.of_own ho'
    subst hv
    exact h A c w' ho' hb

theorem own_nineG {w : World} {base gs gr : Nat} {e : TypeId} {size n : Nat} {v : Value} {xs : List Value} (h : w.ownsRow base e size v n xs) (h1 : gs < base) (h2 : gr < base) (u u0 u1 u2 u3 u4 u5 u6 u7 : Value) :
    (((((((((w.setCell ⟨gs, 7, none⟩ u).setCell ⟨gr, 0, none⟩ u0).setCell ⟨gr, 1, none⟩ u1).setCell ⟨gr, 2, none⟩ u2).setCell ⟨gr, 3, none⟩ u3).setCell ⟨gr, 4, none⟩ u4).setCell ⟨gr, 5, none⟩ u5).setCell ⟨gr, 6, none⟩ u6).setCell ⟨gr, 7, none⟩ u7).ownsRow base e size v n xs :=
  own_set (own_set (own_set (own_set (own_set (own_set (own_set (own_set (own_set h h1) h2) h2) h2) h2) h2) h2) h2) h2
theorem below_nineG {w0 w : World} {B gs gr : Nat} (h : Below B w0 w) (h1 : B ≤ gs) (h2 : B ≤ gr) (u u0 u1 u2 u3 u4 u5 u6 u7 : Value) :
    Below B w0 (((((((((w.setCell ⟨gs, 7, none⟩ u).setCell ⟨gr, 0, none⟩ u0).setCell ⟨gr, 1, none⟩ u1).setCell ⟨gr, 2, none⟩ u2).setCell ⟨gr, 3, none⟩ u3).setCell ⟨gr, 4, none⟩ u4).setCell ⟨gr, 5, none⟩ u5).setCell ⟨gr, 6, none⟩ u6).setCell ⟨gr, 7, none⟩ u7) :=
  below_set (below_set (below_set (below_set (below_set (below_set (below_set (below_set (below_set h h1 u) h2 u0) h2 u1) h2 u2) h2 u3) h2 u4) h2 u5) h2 u6) h2 u7

set_option maxHeartbeats 8000000 in
theorem i_copyRule (r : RuleD) (vb vn vt vk : Value) (hs : r.bytes.length ≤ 1048576 ∧ r.names.length ≤ 1048576 ∧ r.tags.length ≤ 1048576 ∧ r.kids.length ≤ 1048576) (w : World) (h : RdRule w (ruleCells r vb vn vt vk) r) :
    Calls Tryd.prog 79 #[.agg #[.string r.name, .int .i64 r.kind, .int .i64 r.size, .bool r.little, vb, vn, vt, vk]] w (MadeRule r w) := by
  obtain ⟨hb, hn, ht, hk⟩ := rdRule_parts h
  obtain ⟨Ab, cb, rfl⟩ : ∃ A c, vb = .slice A r.bytes.length c := by obtain ⟨_, A, c, e, _⟩ := hb; exact ⟨A, c, e⟩
  obtain ⟨An, cn, rfl⟩ : ∃ A c, vn = .slice A r.names.length c := by obtain ⟨_, A, c, e, _⟩ := hn; exact ⟨A, c, e⟩
  obtain ⟨At, ct, rfl⟩ : ∃ A c, vt = .slice A r.tags.length c := by obtain ⟨_, A, c, e, _⟩ := ht; exact ⟨A, c, e⟩
  obtain ⟨Ak, ck, rfl⟩ : ∃ A c, vk = .slice A r.kids.length c := by obtain ⟨_, A, c, e, _⟩ := hk; exact ⟨A, c, e⟩
  obtain ⟨hs1, hs2, hs3, hs4⟩ := hs
  obtain ⟨w0, hw0⟩ : ∃ w0, w0 = ((w.alloc (.cells #[.string r.name, .int .i64 r.kind, .int .i64 r.size, .bool r.little, .slice Ab r.bytes.length cb, .slice An r.names.length cn, .slice At r.tags.length ct, .slice Ak r.kids.length ck] 43)).alloc (.cells #[.string ⟨#[]⟩, .int .i64 0, .int .i64 0, .bool false, .slice none 0 0, .slice none 0 0, .slice none 0 0, .slice none 0 0] 43)) := ⟨_, rfl⟩
  have z0 : w0.heap.size = w.heap.size + 2 := by rw [hw0]; simp
  have b0 : Below w.heap.size w w0 := by rw [hw0]; exact ((Below.refl _ _).alloc (Nat.le_refl _) _).alloc (by simp) _
  have pz : Box w0 (w.heap.size + 1) 43 #[.string ⟨#[]⟩, .int .i64 0, .int .i64 0, .bool false, .slice none 0 0, .slice none 0 0, .slice none 0 0, .slice none 0 0] := by
    rw [hw0]
    have := Box.new (w.alloc (.cells #[.string r.name, .int .i64 r.kind, .int .i64 r.size, .bool r.little, .slice Ab r.bytes.length cb, .slice An r.names.length cn, .slice At r.tags.length ct, .slice Ak r.kids.length ck] 43)) 43 #[.string ⟨#[]⟩, .int .i64 0, .int .i64 0, .bool false, .slice none 0 0, .slice none 0 0, .slice none 0 0, .slice none 0 0]
    rw [show (w.alloc (.cells #[.string r.name, .int .i64 r.kind, .int .i64 r.size, .bool r.little, .slice Ab r.bytes.length cb, .slice An r.names.length cn, .slice At r.tags.length ct, .slice Ak r.kids.length ck] 43)).heap.size = w.heap.size + 1 from by simp] at this
    exact this
  have pp : Box w0 w.heap.size 43 #[.string r.name, .int .i64 r.kind, .int .i64 r.size, .bool r.little, .slice Ab r.bytes.length cb, .slice An r.names.length cn, .slice At r.tags.length ct, .slice Ak r.kids.length ck] := by rw [hw0]; exact (Box.new w _ _).alloc _
  have RB := Lib.hid (hb.below b0)
  have RWRN := Lib.hid hn
  have RWRTT := Lib.hid ht
  have RWRK := Lib.hid hk
  have RN := Lib.hid (hn.below b0)
  have RTT := Lib.hid (ht.below b0)
  have RK := Lib.hid (hk.below b0)
  have Q0 := Lib.hid z0
  have HB0 := Lib.hid b0
  have PZ0 := Lib.hid pz
  have PP0 := Lib.hid pp

  have HW0 := Lib.hid hw0
  obtain ⟨ib, ib1, ib2, ib3, ib4⟩ := info_parts info_Byte
  obtain ⟨is, is1, is2, is3, is4⟩ := info_parts info_String
  obtain ⟨ii, ii1, ii2, ii3, ii4⟩ := info_parts info_Int
  clear h hb hn ht hk b0 pz pp z0 hw0
  go_enter Tryd.func79, Tryd.ntmps79
  have c0 : (((w.alloc (.cells #[.string r.name, .int .i64 r.kind, .int .i64 r.size, .bool r.little, .slice Ab r.bytes.length cb, .slice An r.names.length cn, .slice At r.tags.length ct, .slice Ak r.kids.length ck] 43)).alloc (.cells #[.string ⟨#[]⟩, .int .i64 0, .int .i64 0, .bool false, .slice none 0 0, .slice none 0 0, .slice none 0 0, .slice none 0 0] 43)).alloc (.cells #[] 5)).cell? ⟨w.heap.size, 4, none⟩ = some (.slice Ab r.bytes.length cb) := by rw [← HW0.out]; exact (PP0.out.alloc _).cell 4
  go_wp2_with (at_builtin; refine wpList_copy_rd rfl (.tmp 3) (.tmp 5) 36 rfl 5 ib (.int .u8 0) 1 Tryd.underlying36 ib1 ib2 ib3 ib4 rfl (by decide) _ ?hs rfl _ r.bytes.length (cB r.bytes) rfl (by rw [← HW0.out]; exact RB.out) (cB_one _) (by omega) ?_)
  case hs => simp
  intro A1 p1 w1 ho1 hb1
  rw [← HW0.out] at hb1
  rw [show w.heap.size + 1 + 1 = w0.heap.size from by rw [Q0.out]] at ho1 hb1
  have pp1 := PP0.out.below hb1
  have pz1 := PZ0.out.below hb1
  have HB1a := Below.then_ HB0.out hb1 (Nat.le_refl _)
  have sz1 : w0.heap.size ≤ w1.heap.size := by have := hb1.size; simpa [World.setCell] using this
  have s1 : w1.cell? ⟨w.heap.size, 4, none⟩ = some (.slice Ab r.bytes.length cb) := pp1.cell 4
  have f1 : w1.frozen? ⟨w.heap.size, 4, none⟩ = false := pp1.frozen 4
  have own1 := own_mono (base' := w.heap.size + 2) ho1 (by rw [Q0.out]; omega)
  have O1_1 := Lib.hid (own_set own1 (g := w.heap.size) (j := 4) (u := (.slice A1 r.bytes.length p1)) (by omega))
  have L1 := Lib.hid (fun b hb => ho1.lt b hb)
  have PP1 := Lib.hid (pp1.set 4 (.slice A1 r.bytes.length p1))
  have PZ1 := Lib.hid (pz1.setOther ⟨w.heap.size, 4, none⟩ (by show w.heap.size + 1 ≠ w.heap.size; omega) (.slice A1 r.bytes.length p1))
  have HB1 := Lib.hid (below_set (j := 4) HB1a (show w.heap.size ≤ w.heap.size by omega) (.slice A1 r.bytes.length p1))
  have SZ1 := Lib.hid (show w.heap.size + 2 ≤ w1.heap.size from by have := Q0.out; omega)
  have SS1 := Lib.hid sz1
  have RN1 := Lib.hid (RWRN.out.below HB1.out)
  have RTT1 := Lib.hid (RWRTT.out.below HB1.out)
  have RK1 := Lib.hid (RWRK.out.below HB1.out)
  clear ho1 hb1 pp1 pz1 HB1a sz1 own1 c0
  have c1 : ((w1.setCell ⟨w.heap.size, 4, none⟩ (.slice A1 r.bytes.length p1)).alloc (.cells #[] 9)).cell? ⟨w.heap.size, 5, none⟩ = some (.slice An r.names.length cn) := (PP1.out.alloc _).cell 5
  go_wp2_with (at_builtin; refine wpList_copy_rd rfl (.tmp 8) (.tmp 10) 39 rfl 9 is (.string ⟨#[]⟩) 16 Tryd.underlying39 is1 is2 is3 is4 rfl (by decide) _ ?hs rfl _ r.names.length (cS r.names) rfl RN1.out (cS_one _) (by omega) ?_)
  case hs => simp [World.setCell]
  intro A2 p2 w2 ho2 hb2
  have hz1 : w1.heap.size = (w1.setCell ⟨w.heap.size, 4, none⟩ (.slice A1 r.bytes.length p1)).heap.size := by simp [World.setCell]
  (try rw [hz1] at ho2)
  have hb2' : Below (w1.setCell ⟨w.heap.size, 4, none⟩ (.slice A1 r.bytes.length p1)).heap.size (w1.setCell ⟨w.heap.size, 4, none⟩ (.slice A1 r.bytes.length p1)) w2 := by first | exact hb2 | (rw [← hz1]; exact hb2)
  clear hz1
  replace hb2 := hb2'
  have pp2 := PP1.out.below hb2
  have pz2 := PZ1.out.below hb2
  have HB2a := Below.then_ HB1.out hb2 (Nat.le_refl _)
  have sz2 : w1.heap.size ≤ w2.heap.size := by have := hb2.size; simpa [World.setCell] using this
  have s2 : w2.cell? ⟨w.heap.size, 5, none⟩ = some (.slice An r.names.length cn) := pp2.cell 5
  have f2 : w2.frozen? ⟨w.heap.size, 5, none⟩ = false := pp2.frozen 5
  have own2 := own_mono (base' := w.heap.size + 2) ho2 (by have := SZ1.out; simp [World.setCell]; omega)
  have O1_2 := Lib.hid (own_set (own_below O1_1.out hb2) (g := w.heap.size) (j := 5) (u := (.slice A2 r.names.length p2)) (by omega))
  have O2_2 := Lib.hid (own_set own2 (g := w.heap.size) (j := 5) (u := (.slice A2 r.names.length p2)) (by omega))
  have L2 := Lib.hid (fun b hb => ho2.lt b hb)
  have PP2 := Lib.hid (pp2.set 5 (.slice A2 r.names.length p2))
  have PZ2 := Lib.hid (pz2.setOther ⟨w.heap.size, 5, none⟩ (by show w.heap.size + 1 ≠ w.heap.size; omega) (.slice A2 r.names.length p2))
  have HB2 := Lib.hid (below_set (j := 5) HB2a (show w.heap.size ≤ w.heap.size by omega) (.slice A2 r.names.length p2))
  have SZ2 := Lib.hid (show w.heap.size + 2 ≤ w2.heap.size from by have := SZ1.out; omega)
  have SS2 := Lib.hid sz2
  have RTT2 := Lib.hid (RWRTT.out.below HB2.out)
  have RK2 := Lib.hid (RWRK.out.below HB2.out)
  clear ho2 hb2 pp2 pz2 HB2a sz2 own2 c1 s1 f1
  have c2 : ((w2.setCell ⟨w.heap.size, 5, none⟩ (.slice A2 r.names.length p2)).alloc (.cells #[] 3)).cell? ⟨w.heap.size, 6, none⟩ = some (.slice At r.tags.length ct) := (PP2.out.alloc _).cell 6
  go_wp2_with (at_builtin; refine wpList_copy_rd rfl (.tmp 13) (.tmp 15) 41 rfl 3 ii (.int .i64 0) 8 Tryd.underlying41 ii1 ii2 ii3 ii4 rfl (by decide) _ ?hs rfl _ r.tags.length (cI r.tags) rfl RTT2.out (cI_one _) (by omega) ?_)
  case hs => simp [World.setCell]
  intro A3 p3 w3 ho3 hb3
  have hz2 : w2.heap.size = (w2.setCell ⟨w.heap.size, 5, none⟩ (.slice A2 r.names.length p2)).heap.size := by simp [World.setCell]
  (try rw [hz2] at ho3)
  have hb3' : Below (w2.setCell ⟨w.heap.size, 5, none⟩ (.slice A2 r.names.length p2)).heap.size (w2.setCell ⟨w.heap.size, 5, none⟩ (.slice A2 r.names.length p2)) w3 := by first | exact hb3 | (rw [← hz2]; exact hb3)
  clear hz2
  replace hb3 := hb3'
  have pp3 := PP2.out.below hb3
  have pz3 := PZ2.out.below hb3
  have HB3a := Below.then_ HB2.out hb3 (Nat.le_refl _)
  have sz3 : w2.heap.size ≤ w3.heap.size := by have := hb3.size; simpa [World.setCell] using this
  have s3 : w3.cell? ⟨w.heap.size, 6, none⟩ = some (.slice At r.tags.length ct) := pp3.cell 6
  have f3 : w3.frozen? ⟨w.heap.size, 6, none⟩ = false := pp3.frozen 6
  have own3 := own_mono (base' := w.heap.size + 2) ho3 (by have := SZ2.out; simp [World.setCell]; omega)
  have O1_3 := Lib.hid (own_set (own_below O1_2.out hb3) (g := w.heap.size) (j := 6) (u := (.slice A3 r.tags.length p3)) (by omega))
  have O2_3 := Lib.hid (own_set (own_below O2_2.out hb3) (g := w.heap.size) (j := 6) (u := (.slice A3 r.tags.length p3)) (by omega))
  have O3_3 := Lib.hid (own_set own3 (g := w.heap.size) (j := 6) (u := (.slice A3 r.tags.length p3)) (by omega))
  have L3 := Lib.hid (fun b hb => ho3.lt b hb)
  have PP3 := Lib.hid (pp3.set 6 (.slice A3 r.tags.length p3))
  have PZ3 := Lib.hid (pz3.setOther ⟨w.heap.size, 6, none⟩ (by show w.heap.size + 1 ≠ w.heap.size; omega) (.slice A3 r.tags.length p3))
  have HB3 := Lib.hid (below_set (j := 6) HB3a (show w.heap.size ≤ w.heap.size by omega) (.slice A3 r.tags.length p3))
  have SZ3 := Lib.hid (show w.heap.size + 2 ≤ w3.heap.size from by have := SZ2.out; omega)
  have SS3 := Lib.hid sz3
  have RK3 := Lib.hid (RWRK.out.below HB3.out)
  clear ho3 hb3 pp3 pz3 HB3a sz3 own3 c2 s2 f2
  have c3 : ((w3.setCell ⟨w.heap.size, 6, none⟩ (.slice A3 r.tags.length p3)).alloc (.cells #[] 3)).cell? ⟨w.heap.size, 7, none⟩ = some (.slice Ak r.kids.length ck) := (PP3.out.alloc _).cell 7
  go_wp2_with (at_builtin; refine wpList_copy_rd rfl (.tmp 18) (.tmp 20) 41 rfl 3 ii (.int .i64 0) 8 Tryd.underlying41 ii1 ii2 ii3 ii4 rfl (by decide) _ ?hs rfl _ r.kids.length (cI r.kids) rfl RK3.out (cI_one _) (by omega) ?_)
  case hs => simp [World.setCell]
  intro A4 p4 w4 ho4 hb4
  have hz3 : w3.heap.size = (w3.setCell ⟨w.heap.size, 6, none⟩ (.slice A3 r.tags.length p3)).heap.size := by simp [World.setCell]
  (try rw [hz3] at ho4)
  have hb4' : Below (w3.setCell ⟨w.heap.size, 6, none⟩ (.slice A3 r.tags.length p3)).heap.size (w3.setCell ⟨w.heap.size, 6, none⟩ (.slice A3 r.tags.length p3)) w4 := by first | exact hb4 | (rw [← hz3]; exact hb4)
  clear hz3
  replace hb4 := hb4'
  have pp4 := PP3.out.below hb4
  have pz4 := PZ3.out.below hb4
  have HB4a := Below.then_ HB3.out hb4 (Nat.le_refl _)
  have sz4 : w3.heap.size ≤ w4.heap.size := by have := hb4.size; simpa [World.setCell] using this
  have own4 := own_mono (base' := w.heap.size + 2) ho4 (by have := SZ3.out; simp [World.setCell]; omega)
  have O1_4 := Lib.hid (own_below O1_3.out hb4)
  have O2_4 := Lib.hid (own_below O2_3.out hb4)
  have O3_4 := Lib.hid (own_below O3_3.out hb4)
  have O4_4 := Lib.hid own4
  have L4 := Lib.hid (fun b hb => ho4.lt b hb)
  have HB4 := Lib.hid HB4a
  have SS4 := Lib.hid sz4
  have g0 : w4.cell? ⟨w.heap.size, 0, none⟩ = some (.string r.name) := pp4.cell 0
  have g1 : w4.cell? ⟨w.heap.size, 1, none⟩ = some (.int .i64 r.kind) := pp4.cell 1
  have g2 : w4.cell? ⟨w.heap.size, 2, none⟩ = some (.int .i64 r.size) := pp4.cell 2
  have g3 : w4.cell? ⟨w.heap.size, 3, none⟩ = some (.bool r.little) := pp4.cell 3
  have g4 : w4.cell? ⟨w.heap.size, 4, none⟩ = some ((.slice A1 r.bytes.length p1)) := pp4.cell 4
  have g5 : w4.cell? ⟨w.heap.size, 5, none⟩ = some ((.slice A2 r.names.length p2)) := pp4.cell 5
  have g6 : w4.cell? ⟨w.heap.size, 6, none⟩ = some ((.slice A3 r.tags.length p3)) := pp4.cell 6
  have g7 : w4.cell? ⟨w.heap.size, 7, none⟩ = some (.slice Ak r.kids.length ck) := pp4.cell 7
  have r0 : w4.cell? ⟨w.heap.size + 1, 0, none⟩ = some (.string ⟨#[]⟩) := pz4.cell 0
  have q0 : w4.frozen? ⟨w.heap.size + 1, 0, none⟩ = false := pz4.frozen 0
  have r1 : w4.cell? ⟨w.heap.size + 1, 1, none⟩ = some (.int .i64 0) := pz4.cell 1
  have q1 : w4.frozen? ⟨w.heap.size + 1, 1, none⟩ = false := pz4.frozen 1
  have r2 : w4.cell? ⟨w.heap.size + 1, 2, none⟩ = some (.int .i64 0) := pz4.cell 2
  have q2 : w4.frozen? ⟨w.heap.size + 1, 2, none⟩ = false := pz4.frozen 2
  have r3 : w4.cell? ⟨w.heap.size + 1, 3, none⟩ = some (.bool false) := pz4.cell 3
  have q3 : w4.frozen? ⟨w.heap.size + 1, 3, none⟩ = false := pz4.frozen 3
  have r4 : w4.cell? ⟨w.heap.size + 1, 4, none⟩ = some (.slice none 0 0) := pz4.cell 4
  have q4 : w4.frozen? ⟨w.heap.size + 1, 4, none⟩ = false := pz4.frozen 4
  have r5 : w4.cell? ⟨w.heap.size + 1, 5, none⟩ = some (.slice none 0 0) := pz4.cell 5
  have q5 : w4.frozen? ⟨w.heap.size + 1, 5, none⟩ = false := pz4.frozen 5
  have r6 : w4.cell? ⟨w.heap.size + 1, 6, none⟩ = some (.slice none 0 0) := pz4.cell 6
  have q6 : w4.frozen? ⟨w.heap.size + 1, 6, none⟩ = false := pz4.frozen 6
  have r7 : w4.cell? ⟨w.heap.size + 1, 7, none⟩ = some (.slice none 0 0) := pz4.cell 7
  have q7 : w4.frozen? ⟨w.heap.size + 1, 7, none⟩ = false := pz4.frozen 7
  have f4 : w4.frozen? ⟨w.heap.size, 7, none⟩ = false := pp4.frozen 7
  clear ho4 hb4 pp4 pz4 HB4a sz4 own4 c3 s3 f3
  go_wp2_with fail
  refine bodyPost_ret (v := .agg #[.string r.name, .int .i64 r.kind, .int .i64 r.size, .bool r.little, .slice A1 r.bytes.length p1, .slice A2 r.names.length p2, .slice A3 r.tags.length p3, .slice A4 r.kids.length p4]) (by simp [results, Tryd.results79, go_sem, r0, r1, r2, r3, r4, r5, r6, r7]) rfl ?_
  have lt1 : ∀ k, (Value.slice A1 r.bytes.length p1).ownBlock = some k → w0.heap.size ≤ k ∧ k < w1.heap.size := fun k hk => L1.out k hk
  have lt2 : ∀ k, (Value.slice A2 r.names.length p2).ownBlock = some k → w1.heap.size ≤ k ∧ k < w2.heap.size := fun k hk => by have := L2.out k hk; simpa [World.setCell] using this
  have lt3 : ∀ k, (Value.slice A3 r.tags.length p3).ownBlock = some k → w2.heap.size ≤ k ∧ k < w3.heap.size := fun k hk => by have := L3.out k hk; simpa [World.setCell] using this
  have lt4 : ∀ k, (Value.slice A4 r.kids.length p4).ownBlock = some k → w3.heap.size ≤ k ∧ k < w4.heap.size := fun k hk => by have := L4.out k hk; simpa [World.setCell] using this
  refine ⟨_, _, _, _, rfl, ⟨_, _, _, _, rfl, ?_, ?_, ?_, ?_⟩, blocks_nodup lt1 lt2 lt3 lt4 SS2.out SS3.out, ?_⟩
  · exact own_mono (own_nineG (gs := w.heap.size) (gr := w.heap.size + 1) O1_4.out (by omega) (by omega) _ _ _ _ _ _ _ _ _) (by omega)
  · exact own_mono (own_nineG (gs := w.heap.size) (gr := w.heap.size + 1) O2_4.out (by omega) (by omega) _ _ _ _ _ _ _ _ _) (by omega)
  · exact own_mono (own_nineG (gs := w.heap.size) (gr := w.heap.size + 1) O3_4.out (by omega) (by omega) _ _ _ _ _ _ _ _ _) (by omega)
  · exact own_mono (own_nineG (gs := w.heap.size) (gr := w.heap.size + 1) O4_4.out (by omega) (by omega) _ _ _ _ _ _ _ _ _) (by omega)
  · exact below_nineG (gs := w.heap.size) (gr := w.heap.size + 1) HB4.out (by omega) (by omega) _ _ _ _ _ _ _ _ _

end Go.Proofs.YtkjjgpkegihmhaaDoor
