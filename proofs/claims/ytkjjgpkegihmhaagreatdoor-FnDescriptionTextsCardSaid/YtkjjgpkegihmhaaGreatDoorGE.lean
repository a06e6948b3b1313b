/-
  Several texts in one: CopyRule, RulesAt, CopyDesc, PSt, MadeR, Longer, FieldsPlain, KindOf.
-/
import Derived.Test.YtkjjgpkegihmhaaGreatDoorGB
import Derived.Test.YtkjjgpkegihmhaaGreatDoorGA
import Derived.OwnWalk
import Derived.Deep.RegionLaw
import Derived.Lib.Hide
namespace Go.Proofs.YtkjjgpkegihmhaaGreatDoor
open Go.RowKit
set_option linter.unusedVariables false

theorem wpList_copy_rd {P : Program} {ops : Array Oper} {rest : List Oper} {o : Oper} {a : Act} {Q : Exit → Act → World → Prop} {w : World} (hgd : o.guard = none) (s x : Operand) (t : TypeId)
    (ho : o.op = .call { callee := .builtin .append, args := #[s, x], argTypes := #[t, t] })
    (e : TypeId) (i : TypeInfo) (z : Value) (bytes : Nat) (ht : P.underlying t = some (.slice e)) (hi : P.info? e = some i) (hz : i.zero = some z)
    (hsize : i.size = 1) (hby : i.bytes = bytes) (hzs : z.cells.size = 1) (hb16 : bytes ≤ 16)
    (g0 : Nat) (hg0 : g0 = w.heap.size) (hs : a.eval s = .slice (some ⟨g0, 0, none⟩) 0 0)
    (vx : Value) (m : Nat) (news : List Value) (hx : a.eval x = vx) (hr : Rd w vx 1 m news) (h1 : ∀ u ∈ news, u.oneCell' = true) (hm : m ≤ 1048576)
    (h : ∀ A c w', w'.ownsRow w.heap.size e 1 (.slice A m c) m news → Below w.heap.size w w' → wpList P ops Q rest (a.put o.dst (.slice A m c)) w') : wpList P ops Q (o :: rest) a (w.alloc (.cells #[] e)) := by
  have hown := World.ownsRow_lit (base := w.heap.size) (e := e) (size := 1) w #[] 0 (Nat.le_refl _) (Nat.zero_le _) rfl
  subst hg0
  refine wpList_append_rd _ hgd s x t ho w.heap.size e i z 1 bytes ht hi hz hsize hby hzs (by omega) _ 0 [] hs hown vx m news hx (hr.below ((Below.refl _ _).alloc (Nat.le_refl _) _)) h1 (by unfold maxLen; omega) ?_ (by simp) ?_
  · have : (0 + m) * bytes ≤ 1048576 * 16 := Nat.mul_le_mul (by omega) hb16
    omega
  · intro v' w' ho' hg' _
    have hb : Below w.heap.size w w' := own_grown_below ((Below.refl _ _).alloc (Nat.le_refl _) _) hown hg' (by simp) (Nat.le_refl _)
    rw [Nat.zero_add, List.nil_append] at ho'
    obtain ⟨_, A, c, hv, _⟩ := Rd.of_own ho'
    subst hv
    exact h A c w' ho' hb

theorem own_nineG {w : World} {base gs gr : Nat} {e : TypeId} {size n : Nat} {v : Value} {xs : List Value} (h : w.ownsRow base e size v n xs) (h1 : gs < base) (h2 : gr < base) (u u0 u1 u2 u3 u4 u5 u6 u7 : Value) :
    (((((((((w.setCell ⟨gs, 7, none⟩ u).setCell ⟨gr, 0, none⟩ u0).setCell ⟨gr, 1, none⟩ u1).setCell ⟨gr, 2, none⟩ u2).setCell ⟨gr, 3, none⟩ u3).setCell ⟨gr, 4, none⟩ u4).setCell ⟨gr, 5, none⟩ u5).setCell ⟨gr, 6, none⟩ u6).setCell ⟨gr, 7, none⟩ u7).ownsRow base e size v n xs :=
  own_set (own_set (own_set (own_set (own_set (own_set (own_set (own_set (own_set h h1) h2) h2) h2) h2) h2) h2) h2) h2
theorem below_nineG {w0 w : World} {B gs gr : Nat} (h : Below B w0 w) (h1 : B ≤ gs) (h2 : B ≤ gr) (u u0 u1 u2 u3 u4 u5 u6 u7 : Value) :
    Below B w0 (((((((((w.setCell ⟨gs, 7, none⟩ u).setCell ⟨gr, 0, none⟩ u0).setCell ⟨gr, 1, none⟩ u1).setCell ⟨gr, 2, none⟩ u2).setCell ⟨gr, 3, none⟩ u3).setCell ⟨gr, 4, none⟩ u4).setCell ⟨gr, 5, none⟩ u5).setCell ⟨gr, 6, none⟩ u6).setCell ⟨gr, 7, none⟩ u7) :=
  below_set (below_set (below_set (below_set (below_set (below_set (below_set (below_set (below_set h h1 u) h2 u0) h2 u1) h2 u2) h2 u3) h2 u4) h2 u5) h2 u6) h2 u7

set_option maxHeartbeats 8000000 in
theorem i_copyRule (r : RuleD) (vb vn vt vk : Value) (hs : r.bytes.length ≤ 1048576 ∧ r.names.length ≤ 1048576 ∧ r.tags.length ≤ 1048576 ∧ r.kids.length ≤ 1048576) (w : World) (h : RdRule w (ruleCells r vb vn vt vk) r) :
    Calls Tryz.prog 93 #[.agg #[.string r.name, .int .i64 r.kind, .int .i64 r.size, .bool r.little, vb, vn, vt, vk]] w (MadeRule r w) := by
  obtain ⟨hb, hn, ht, hk⟩ := rdRule_parts h
  obtain ⟨Ab, cb, rfl⟩ : ∃ A c, vb = .slice A r.bytes.length c := by obtain ⟨_, A, c, e, _⟩ := hb; exact ⟨A, c, e⟩
  obtain ⟨An, cn, rfl⟩ : ∃ A c, vn = .slice A r.names.length c := by obtain ⟨_, A, c, e, _⟩ := hn; exact ⟨A, c, e⟩
  obtain ⟨At, ct, rfl⟩ : ∃ A c, vt = .slice A r.tags.length c := by obtain ⟨_, A, c, e, _⟩ := ht; exact ⟨A, c, e⟩
  obtain ⟨Ak, ck, rfl⟩ : ∃ A c, vk = .slice A r.kids.length c := by obtain ⟨_, A, c, e, _⟩ := hk; exact ⟨A, c, e⟩
  obtain ⟨hs1, hs2, hs3, hs4⟩ := hs
  obtain ⟨w0, hw0⟩ : ∃ w0, w0 = ((w.alloc (.cells #[.string r.name, .int .i64 r.kind, .int .i64 r.size, .bool r.little, .slice Ab r.bytes.length cb, .slice An r.names.length cn, .slice At r.tags.length ct, .slice Ak r.kids.length ck] 30)).alloc (.cells #[.string ⟨#[]⟩, .int .i64 0, .int .i64 0, .bool false, .slice none 0 0, .slice none 0 0, .slice none 0 0, .slice none 0 0] 30)) := ⟨_, rfl⟩
  have z0 : w0.heap.size = w.heap.size + 2 := by rw [hw0]; simp
  have b0 : Below w.heap.size w w0 := by rw [hw0]; exact ((Below.refl _ _).alloc (Nat.le_refl _) _).alloc (by simp) _
  have pz : Box w0 (w.heap.size + 1) 30 #[.string ⟨#[]⟩, .int .i64 0, .int .i64 0, .bool false, .slice none 0 0, .slice none 0 0, .slice none 0 0, .slice none 0 0] := by
    rw [hw0]
    have := Box.new (w.alloc (.cells #[.string r.name, .int .i64 r.kind, .int .i64 r.size, .bool r.little, .slice Ab r.bytes.length cb, .slice An r.names.length cn, .slice At r.tags.length ct, .slice Ak r.kids.length ck] 30)) 30 #[.string ⟨#[]⟩, .int .i64 0, .int .i64 0, .bool false, .slice none 0 0, .slice none 0 0, .slice none 0 0, .slice none 0 0]
    rw [show (w.alloc (.cells #[.string r.name, .int .i64 r.kind, .int .i64 r.size, .bool r.little, .slice Ab r.bytes.length cb, .slice An r.names.length cn, .slice At r.tags.length ct, .slice Ak r.kids.length ck] 30)).heap.size = w.heap.size + 1 from by simp] at this
    exact this
  have pp : Box w0 w.heap.size 30 #[.string r.name, .int .i64 r.kind, .int .i64 r.size, .bool r.little, .slice Ab r.bytes.length cb, .slice An r.names.length cn, .slice At r.tags.length ct, .slice Ak r.kids.length ck] := by rw [hw0]; exact (Box.new w _ _).alloc _
  have RB := Lib.hid (hb.below b0)
  have RWRN := Lib.hid hn
  have RWRTT := Lib.hid ht
  have RWRK := Lib.hid hk
  have RN := Lib.hid (hn.below b0)
  have RTT := Lib.hid (ht.below b0)
  have RK := Lib.hid (hk.below b0)
  have Q0 := Lib.hid z0
  have HB0 := Lib.hid b0
  have PZ0 := Lib.hid pz
  have PP0 := Lib.hid pp

  have HW0 := Lib.hid hw0
  obtain ⟨ib, ib1, ib2, ib3, ib4⟩ := info_parts info_Byte
  obtain ⟨is, is1, is2, is3, is4⟩ := info_parts info_String
  obtain ⟨ii, ii1, ii2, ii3, ii4⟩ := info_parts info_Int
  clear h hb hn ht hk b0 pz pp z0 hw0
  go_enter Tryz.func93, Tryz.ntmps93
  have c0 : (((w.alloc (.cells #[.string r.name, .int .i64 r.kind, .int .i64 r.size, .bool r.little, .slice Ab r.bytes.length cb, .slice An r.names.length cn, .slice At r.tags.length ct, .slice Ak r.kids.length ck] 30)).alloc (.cells #[.string ⟨#[]⟩, .int .i64 0, .int .i64 0, .bool false, .slice none 0 0, .slice none 0 0, .slice none 0 0, .slice none 0 0] 30)).alloc (.cells #[] 5)).cell? ⟨w.heap.size, 4, none⟩ = some (.slice Ab r.bytes.length cb) := by rw [← HW0.out]; exact (PP0.out.alloc _).cell 4
  go_wp2_with (at_builtin; refine wpList_copy_rd rfl (.tmp 3) (.tmp 5) 26 rfl 5 ib (.int .u8 0) 1 Tryz.underlying26 ib1 ib2 ib3 ib4 rfl (by decide) _ ?hs rfl _ r.bytes.length (cB r.bytes) rfl (by rw [← HW0.out]; exact RB.out) (cB_one _) (by omega) ?_)
  case hs => simp
  intro A1 p1 w1 ho1 hb1
  rw [← HW0.out] at hb1
  rw [show w.heap.size + 1 + 1 = w0.heap.size from by rw [Q0.out]] at ho1 hb1
  have pp1 := PP0.out.below hb1
  have pz1 := PZ0.out.below hb1
  have HB1a := Below.then_ HB0.out hb1 (Nat.le_refl _)
  have sz1 : w0.heap.size ≤ w1.heap.size := by have := hb1.size; simpa [World.setCell] using this
  have s1 : w1.cell? ⟨w.heap.size, 4, none⟩ = some (.slice Ab r.bytes.length cb) := pp1.cell 4
  have f1 : w1.frozen? ⟨w.heap.size, 4, none⟩ = false := pp1.frozen 4
  have own1 := own_mono (base' := w.heap.size + 2) ho1 (by rw [Q0.out]; omega)
  have O1_1 := Lib.hid (own_set own1 (g := w.heap.size) (j := 4) (u := (.slice A1 r.bytes.length p1)) (by omega))
  have L1 := Lib.hid (fun b hb => ho1.lt b hb)
  have PP1 := Lib.hid (pp1.set 4 (.slice A1 r.bytes.length p1))
  have PZ1 := Lib.hid (pz1.setOther ⟨w.heap.size, 4, none⟩ (by show w.heap.size + 1 ≠ w.heap.size; omega) (.slice A1 r.bytes.length p1))
  have HB1 := Lib.hid (below_set (j := 4) HB1a (show w.heap.size ≤ w.heap.size by omega) (.slice A1 r.bytes.length p1))
  have SZ1 := Lib.hid (show w.heap.size + 2 ≤ w1.heap.size from by have := Q0.out; omega)
  have SS1 := Lib.hid sz1
  have RN1 := Lib.hid (RWRN.out.below HB1.out)
  have RTT1 := Lib.hid (RWRTT.out.below HB1.out)
  have RK1 := Lib.hid (RWRK.out.below HB1.out)
  clear ho1 hb1 pp1 pz1 HB1a sz1 own1 c0
  have c1 : ((w1.setCell ⟨w.heap.size, 4, none⟩ (.slice A1 r.bytes.length p1)).alloc (.cells #[] 9)).cell? ⟨w.heap.size, 5, none⟩ = some (.slice An r.names.length cn) := (PP1.out.alloc _).cell 5
  go_wp2_with (at_builtin; refine wpList_copy_rd rfl (.tmp 8) (.tmp 10) 27 rfl 9 is (.string ⟨#[]⟩) 16 Tryz.underlying27 is1 is2 is3 is4 rfl (by decide) _ ?hs rfl _ r.names.length (cS r.names) rfl RN1.out (cS_one _) (by omega) ?_)
  case hs => simp [World.setCell]
  intro A2 p2 w2 ho2 hb2
  have hz1 : w1.heap.size = (w1.setCell ⟨w.heap.size, 4, none⟩ (.slice A1 r.bytes.length p1)).heap.size := by simp [World.setCell]
  (try rw [hz1] at ho2)
  have hb2' : Below (w1.setCell ⟨w.heap.size, 4, none⟩ (.slice A1 r.bytes.length p1)).heap.size (w1.setCell ⟨w.heap.size, 4, none⟩ (.slice A1 r.bytes.length p1)) w2 := by first | exact hb2 | (rw [← hz1]; exact hb2)
  clear hz1
  replace hb2 := hb2'
  have pp2 := PP1.out.below hb2
  have pz2 := PZ1.out.below hb2
  have HB2a := Below.then_ HB1.out hb2 (Nat.le_refl _)
  have sz2 : w1.heap.size ≤ w2.heap.size := by have := hb2.size; simpa [World.setCell] using this
  have s2 : w2.cell? ⟨w.heap.size, 5, none⟩ = some (.slice An r.names.length cn) := pp2.cell 5
  have f2 : w2.frozen? ⟨w.heap.size, 5, none⟩ = false := pp2.frozen 5
  have own2 := own_mono (base' := w.heap.size + 2) ho2 (by have := SZ1.out; simp [World.setCell]; omega)
  have O1_2 := Lib.hid (own_set (own_below O1_1.out hb2) (g := w.heap.size) (j := 5) (u := (.slice A2 r.names.length p2)) (by omega))
  have O2_2 := Lib.hid (own_set own2 (g := w.heap.size) (j := 5) (u := (.slice A2 r.names.length p2)) (by omega))
  have L2 := Lib.hid (fun b hb => ho2.lt b hb)
  have PP2 := Lib.hid (pp2.set 5 (.slice A2 r.names.length p2))
  have PZ2 := Lib.hid (pz2.setOther ⟨w.heap.size, 5, none⟩ (by show w.heap.size + 1 ≠ w.heap.size; omega) (.slice A2 r.names.length p2))
  have HB2 := Lib.hid (below_set (j := 5) HB2a (show w.heap.size ≤ w.heap.size by omega) (.slice A2 r.names.length p2))
  have SZ2 := Lib.hid (show w.heap.size + 2 ≤ w2.heap.size from by have := SZ1.out; omega)
  have SS2 := Lib.hid sz2
  have RTT2 := Lib.hid (RWRTT.out.below HB2.out)
  have RK2 := Lib.hid (RWRK.out.below HB2.out)
  clear ho2 hb2 pp2 pz2 HB2a sz2 own2 c1 s1 f1
  have c2 : ((w2.setCell ⟨w.heap.size, 5, none⟩ (.slice A2 r.names.length p2)).alloc (.cells #[] 3)).cell? ⟨w.heap.size, 6, none⟩ = some (.slice At r.tags.length ct) := (PP2.out.alloc _).cell 6
  go_wp2_with (at_builtin; refine wpList_copy_rd rfl (.tmp 13) (.tmp 15) 28 rfl 3 ii (.int .i64 0) 8 Tryz.underlying28 ii1 ii2 ii3 ii4 rfl (by decide) _ ?hs rfl _ r.tags.length (cI r.tags) rfl RTT2.out (cI_one _) (by omega) ?_)
  case hs => simp [World.setCell]
  intro A3 p3 w3 ho3 hb3
  have hz2 : w2.heap.size = (w2.setCell ⟨w.heap.size, 5, none⟩ (.slice A2 r.names.length p2)).heap.size := by simp [World.setCell]
  (try rw [hz2] at ho3)
  have hb3' : Below (w2.setCell ⟨w.heap.size, 5, none⟩ (.slice A2 r.names.length p2)).heap.size (w2.setCell ⟨w.heap.size, 5, none⟩ (.slice A2 r.names.length p2)) w3 := by first | exact hb3 | (rw [← hz2]; exact hb3)
  clear hz2
  replace hb3 := hb3'
  have pp3 := PP2.out.below hb3
  have pz3 := PZ2.out.below hb3
  have HB3a := Below.then_ HB2.out hb3 (Nat.le_refl _)
  have sz3 : w2.heap.size ≤ w3.heap.size := by have := hb3.size; simpa [World.setCell] using this
  have s3 : w3.cell? ⟨w.heap.size, 6, none⟩ = some (.slice At r.tags.length ct) := pp3.cell 6
  have f3 : w3.frozen? ⟨w.heap.size, 6, none⟩ = false := pp3.frozen 6
  have own3 := own_mono (base' := w.heap.size + 2) ho3 (by have := SZ2.out; simp [World.setCell]; omega)
  have O1_3 := Lib.hid (own_set (own_below O1_2.out hb3) (g := w.heap.size) (j := 6) (u := (.slice A3 r.tags.length p3)) (by omega))
  have O2_3 := Lib.hid (own_set (own_below O2_2.out hb3) (g := w.heap.size) (j := 6) (u := (.slice A3 r.tags.length p3)) (by omega))
  have O3_3 := Lib.hid (own_set own3 (g := w.heap.size) (j := 6) (u := (.slice A3 r.tags.length p3)) (by omega))
  have L3 := Lib.hid (fun b hb => ho3.lt b hb)
  have PP3 := Lib.hid (pp3.set 6 (.slice A3 r.tags.length p3))
  have PZ3 := Lib.hid (pz3.setOther ⟨w.heap.size, 6, none⟩ (by show w.heap.size + 1 ≠ w.heap.size; omega) (.slice A3 r.tags.length p3))
  have HB3 := Lib.hid (below_set (j := 6) HB3a (show w.heap.size ≤ w.heap.size by omega) (.slice A3 r.tags.length p3))
  have SZ3 := Lib.hid (show w.heap.size + 2 ≤ w3.heap.size from by have := SZ2.out; omega)
  have SS3 := Lib.hid sz3
  have RK3 := Lib.hid (RWRK.out.below HB3.out)
  clear ho3 hb3 pp3 pz3 HB3a sz3 own3 c2 s2 f2
  have c3 : ((w3.setCell ⟨w.heap.size, 6, none⟩ (.slice A3 r.tags.length p3)).alloc (.cells #[] 3)).cell? ⟨w.heap.size, 7, none⟩ = some (.slice Ak r.kids.length ck) := (PP3.out.alloc _).cell 7
  go_wp2_with (at_builtin; refine wpList_copy_rd rfl (.tmp 18) (.tmp 20) 28 rfl 3 ii (.int .i64 0) 8 Tryz.underlying28 ii1 ii2 ii3 ii4 rfl (by decide) _ ?hs rfl _ r.kids.length (cI r.kids) rfl RK3.out (cI_one _) (by omega) ?_)
  case hs => simp [World.setCell]
  intro A4 p4 w4 ho4 hb4
  have hz3 : w3.heap.size = (w3.setCell ⟨w.heap.size, 6, none⟩ (.slice A3 r.tags.length p3)).heap.size := by simp [World.setCell]
  (try rw [hz3] at ho4)
  have hb4' : Below (w3.setCell ⟨w.heap.size, 6, none⟩ (.slice A3 r.tags.length p3)).heap.size (w3.setCell ⟨w.heap.size, 6, none⟩ (.slice A3 r.tags.length p3)) w4 := by first | exact hb4 | (rw [← hz3]; exact hb4)
  clear hz3
  replace hb4 := hb4'
  have pp4 := PP3.out.below hb4
  have pz4 := PZ3.out.below hb4
  have HB4a := Below.then_ HB3.out hb4 (Nat.le_refl _)
  have sz4 : w3.heap.size ≤ w4.heap.size := by have := hb4.size; simpa [World.setCell] using this
  have own4 := own_mono (base' := w.heap.size + 2) ho4 (by have := SZ3.out; simp [World.setCell]; omega)
  have O1_4 := Lib.hid (own_below O1_3.out hb4)
  have O2_4 := Lib.hid (own_below O2_3.out hb4)
  have O3_4 := Lib.hid (own_below O3_3.out hb4)
  have O4_4 := Lib.hid own4
  have L4 := Lib.hid (fun b hb => ho4.lt b hb)
  have HB4 := Lib.hid HB4a
  have SS4 := Lib.hid sz4
  have g0 : w4.cell? ⟨w.heap.size, 0, none⟩ = some (.string r.name) := pp4.cell 0
  have g1 : w4.cell? ⟨w.heap.size, 1, none⟩ = some (.int .i64 r.kind) := pp4.cell 1
  have g2 : w4.cell? ⟨w.heap.size, 2, none⟩ = some (.int .i64 r.size) := pp4.cell 2
  have g3 : w4.cell? ⟨w.heap.size, 3, none⟩ = some (.bool r.little) := pp4.cell 3
  have g4 : w4.cell? ⟨w.heap.size, 4, none⟩ = some ((.slice A1 r.bytes.length p1)) := pp4.cell 4
  have g5 : w4.cell? ⟨w.heap.size, 5, none⟩ = some ((.slice A2 r.names.length p2)) := pp4.cell 5
  have g6 : w4.cell? ⟨w.heap.size, 6, none⟩ = some ((.slice A3 r.tags.length p3)) := pp4.cell 6
  have g7 : w4.cell? ⟨w.heap.size, 7, none⟩ = some (.slice Ak r.kids.length ck) := pp4.cell 7
  have r0 : w4.cell? ⟨w.heap.size + 1, 0, none⟩ = some (.string ⟨#[]⟩) := pz4.cell 0
  have q0 : w4.frozen? ⟨w.heap.size + 1, 0, none⟩ = false := pz4.frozen 0
  have r1 : w4.cell? ⟨w.heap.size + 1, 1, none⟩ = some (.int .i64 0) := pz4.cell 1
  have q1 : w4.frozen? ⟨w.heap.size + 1, 1, none⟩ = false := pz4.frozen 1
  have r2 : w4.cell? ⟨w.heap.size + 1, 2, none⟩ = some (.int .i64 0) := pz4.cell 2
  have q2 : w4.frozen? ⟨w.heap.size + 1, 2, none⟩ = false := pz4.frozen 2
  have r3 : w4.cell? ⟨w.heap.size + 1, 3, none⟩ = some (.bool false) := pz4.cell 3
  have q3 : w4.frozen? ⟨w.heap.size + 1, 3, none⟩ = false := pz4.frozen 3
  have r4 : w4.cell? ⟨w.heap.size + 1, 4, none⟩ = some (.slice none 0 0) := pz4.cell 4
  have q4 : w4.frozen? ⟨w.heap.size + 1, 4, none⟩ = false := pz4.frozen 4
  have r5 : w4.cell? ⟨w.heap.size + 1, 5, none⟩ = some (.slice none 0 0) := pz4.cell 5
  have q5 : w4.frozen? ⟨w.heap.size + 1, 5, none⟩ = false := pz4.frozen 5
  have r6 : w4.cell? ⟨w.heap.size + 1, 6, none⟩ = some (.slice none 0 0) := pz4.cell 6
  have q6 : w4.frozen? ⟨w.heap.size + 1, 6, none⟩ = false := pz4.frozen 6
  have r7 : w4.cell? ⟨w.heap.size + 1, 7, none⟩ = some (.slice none 0 0) := pz4.cell 7
  have q7 : w4.frozen? ⟨w.heap.size + 1, 7, none⟩ = false := pz4.frozen 7
  have f4 : w4.frozen? ⟨w.heap.size, 7, none⟩ = false := pp4.frozen 7
  clear ho4 hb4 pp4 pz4 HB4a sz4 own4 c3 s3 f3
  go_wp2_with fail
  refine bodyPost_ret (v := .agg #[.string r.name, .int .i64 r.kind, .int .i64 r.size, .bool r.little, .slice A1 r.bytes.length p1, .slice A2 r.names.length p2, .slice A3 r.tags.length p3, .slice A4 r.kids.length p4]) (by simp [results, Tryz.results93, go_sem, r0, r1, r2, r3, r4, r5, r6, r7]) rfl ?_
  have lt1 : ∀ k, (Value.slice A1 r.bytes.length p1).ownBlock = some k → w0.heap.size ≤ k ∧ k < w1.heap.size := fun k hk => L1.out k hk
  have lt2 : ∀ k, (Value.slice A2 r.names.length p2).ownBlock = some k → w1.heap.size ≤ k ∧ k < w2.heap.size := fun k hk => by have := L2.out k hk; simpa [World.setCell] using this
  have lt3 : ∀ k, (Value.slice A3 r.tags.length p3).ownBlock = some k → w2.heap.size ≤ k ∧ k < w3.heap.size := fun k hk => by have := L3.out k hk; simpa [World.setCell] using this
  have lt4 : ∀ k, (Value.slice A4 r.kids.length p4).ownBlock = some k → w3.heap.size ≤ k ∧ k < w4.heap.size := fun k hk => by have := L4.out k hk; simpa [World.setCell] using this
  refine ⟨_, _, _, _, rfl, ⟨_, _, _, _, rfl, ?_, ?_, ?_, ?_⟩, blocks_nodup lt1 lt2 lt3 lt4 SS2.out SS3.out, ?_⟩
  · exact own_mono (own_nineG (gs := w.heap.size) (gr := w.heap.size + 1) O1_4.out (by omega) (by omega) _ _ _ _ _ _ _ _ _) (by omega)
  · exact own_mono (own_nineG (gs := w.heap.size) (gr := w.heap.size + 1) O2_4.out (by omega) (by omega) _ _ _ _ _ _ _ _ _) (by omega)
  · exact own_mono (own_nineG (gs := w.heap.size) (gr := w.heap.size + 1) O3_4.out (by omega) (by omega) _ _ _ _ _ _ _ _ _) (by omega)
  · exact own_mono (own_nineG (gs := w.heap.size) (gr := w.heap.size + 1) O4_4.out (by omega) (by omega) _ _ _ _ _ _ _ _ _) (by omega)
  · exact below_nineG (gs := w.heap.size) (gr := w.heap.size + 1) HB4.out (by omega) (by omega) _ _ _ _ _ _ _ _ _

set_option maxHeartbeats 8000000 in
theorem s_copyRule (r : RuleD) (vb vn vt vk : Value) (hs : r.bytes.length ≤ 1048576 ∧ r.names.length ≤ 1048576 ∧ r.tags.length ≤ 1048576 ∧ r.kids.length ≤ 1048576) (w : World) (h : RdRule w (ruleCells r vb vn vt vk) r) :
    Calls Tryz.prog 74 #[.agg #[.string r.name, .int .i64 r.kind, .int .i64 r.size, .bool r.little, vb, vn, vt, vk]] w (MadeRule r w) := by
  obtain ⟨hb, hn, ht, hk⟩ := rdRule_parts h
  obtain ⟨Ab, cb, rfl⟩ : ∃ A c, vb = .slice A r.bytes.length c := by obtain ⟨_, A, c, e, _⟩ := hb; exact ⟨A, c, e⟩
  obtain ⟨An, cn, rfl⟩ : ∃ A c, vn = .slice A r.names.length c := by obtain ⟨_, A, c, e, _⟩ := hn; exact ⟨A, c, e⟩
  obtain ⟨At, ct, rfl⟩ : ∃ A c, vt = .slice A r.tags.length c := by obtain ⟨_, A, c, e, _⟩ := ht; exact ⟨A, c, e⟩
  obtain ⟨Ak, ck, rfl⟩ : ∃ A c, vk = .slice A r.kids.length c := by obtain ⟨_, A, c, e, _⟩ := hk; exact ⟨A, c, e⟩
  obtain ⟨hs1, hs2, hs3, hs4⟩ := hs
  obtain ⟨w0, hw0⟩ : ∃ w0, w0 = (((w.alloc (.cells #[.string r.name, .int .i64 r.kind, .int .i64 r.size, .bool r.little, .slice Ab r.bytes.length cb, .slice An r.names.length cn, .slice At r.tags.length ct, .slice Ak r.kids.length ck] 30)).alloc (.cells #[.string ⟨#[]⟩, .int .i64 0, .int .i64 0, .bool false, .slice none 0 0, .slice none 0 0, .slice none 0 0, .slice none 0 0] 30)).alloc (.cells #[.string r.name, .int .i64 r.kind, .int .i64 r.size, .bool r.little, .slice Ab r.bytes.length cb, .slice An r.names.length cn, .slice At r.tags.length ct, .slice Ak r.kids.length ck] 30)) := ⟨_, rfl⟩
  have z0 : w0.heap.size = w.heap.size + 3 := by rw [hw0]; simp
  have b0 : Below w.heap.size w w0 := by rw [hw0]; exact (((Below.refl _ _).alloc (Nat.le_refl _) _).alloc (by simp) _).alloc (by simp; omega) _
  have pz : Box w0 (w.heap.size + 1) 30 #[.string ⟨#[]⟩, .int .i64 0, .int .i64 0, .bool false, .slice none 0 0, .slice none 0 0, .slice none 0 0, .slice none 0 0] := by
    rw [hw0]
    have := Box.new (w.alloc (.cells #[.string r.name, .int .i64 r.kind, .int .i64 r.size, .bool r.little, .slice Ab r.bytes.length cb, .slice An r.names.length cn, .slice At r.tags.length ct, .slice Ak r.kids.length ck] 30)) 30 #[.string ⟨#[]⟩, .int .i64 0, .int .i64 0, .bool false, .slice none 0 0, .slice none 0 0, .slice none 0 0, .slice none 0 0]
    rw [show (w.alloc (.cells #[.string r.name, .int .i64 r.kind, .int .i64 r.size, .bool r.little, .slice Ab r.bytes.length cb, .slice An r.names.length cn, .slice At r.tags.length ct, .slice Ak r.kids.length ck] 30)).heap.size = w.heap.size + 1 from by simp] at this
    exact this.alloc _
  have pp : Box w0 w.heap.size 30 #[.string r.name, .int .i64 r.kind, .int .i64 r.size, .bool r.little, .slice Ab r.bytes.length cb, .slice An r.names.length cn, .slice At r.tags.length ct, .slice Ak r.kids.length ck] := by rw [hw0]; exact ((Box.new w _ _).alloc _).alloc _
  have po : Box w0 (w.heap.size + 1 + 1) 30 #[.string r.name, .int .i64 r.kind, .int .i64 r.size, .bool r.little, .slice Ab r.bytes.length cb, .slice An r.names.length cn, .slice At r.tags.length ct, .slice Ak r.kids.length ck] := by
    rw [hw0]
    have := Box.new ((w.alloc (.cells #[.string r.name, .int .i64 r.kind, .int .i64 r.size, .bool r.little, .slice Ab r.bytes.length cb, .slice An r.names.length cn, .slice At r.tags.length ct, .slice Ak r.kids.length ck] 30)).alloc (.cells #[.string ⟨#[]⟩, .int .i64 0, .int .i64 0, .bool false, .slice none 0 0, .slice none 0 0, .slice none 0 0, .slice none 0 0] 30)) 30 #[.string r.name, .int .i64 r.kind, .int .i64 r.size, .bool r.little, .slice Ab r.bytes.length cb, .slice An r.names.length cn, .slice At r.tags.length ct, .slice Ak r.kids.length ck]
    rw [show ((w.alloc (.cells #[.string r.name, .int .i64 r.kind, .int .i64 r.size, .bool r.little, .slice Ab r.bytes.length cb, .slice An r.names.length cn, .slice At r.tags.length ct, .slice Ak r.kids.length ck] 30)).alloc (.cells #[.string ⟨#[]⟩, .int .i64 0, .int .i64 0, .bool false, .slice none 0 0, .slice none 0 0, .slice none 0 0, .slice none 0 0] 30)).heap.size = w.heap.size + 1 + 1 from by simp] at this
    exact this
  have RB := Lib.hid (hb.below b0)
  have RWRN := Lib.hid hn
  have RWRTT := Lib.hid ht
  have RWRK := Lib.hid hk
  have RN := Lib.hid (hn.below b0)
  have RTT := Lib.hid (ht.below b0)
  have RK := Lib.hid (hk.below b0)
  have Q0 := Lib.hid z0
  have HB0 := Lib.hid b0
  have PZ0 := Lib.hid pz
  have PP0 := Lib.hid pp
  have PO0 := Lib.hid po
  have HW0 := Lib.hid hw0
  obtain ⟨ib, ib1, ib2, ib3, ib4⟩ := info_parts info_Byte
  obtain ⟨is, is1, is2, is3, is4⟩ := info_parts info_String
  obtain ⟨ii, ii1, ii2, ii3, ii4⟩ := info_parts info_Int
  clear h hb hn ht hk b0 pz pp z0 hw0 po
  go_enter Tryz.func74, Tryz.ntmps74
  have c0 : ((((w.alloc (.cells #[.string r.name, .int .i64 r.kind, .int .i64 r.size, .bool r.little, .slice Ab r.bytes.length cb, .slice An r.names.length cn, .slice At r.tags.length ct, .slice Ak r.kids.length ck] 30)).alloc (.cells #[.string ⟨#[]⟩, .int .i64 0, .int .i64 0, .bool false, .slice none 0 0, .slice none 0 0, .slice none 0 0, .slice none 0 0] 30)).alloc (.cells #[.string r.name, .int .i64 r.kind, .int .i64 r.size, .bool r.little, .slice Ab r.bytes.length cb, .slice An r.names.length cn, .slice At r.tags.length ct, .slice Ak r.kids.length ck] 30)).alloc (.cells #[] 5)).cell? ⟨w.heap.size, 4, none⟩ = some (.slice Ab r.bytes.length cb) := by rw [← HW0.out]; exact (PP0.out.alloc _).cell 4
  go_wp2_with (at_builtin; refine wpList_copy_rd rfl (.tmp 5) (.tmp 7) 26 rfl 5 ib (.int .u8 0) 1 Tryz.underlying26 ib1 ib2 ib3 ib4 rfl (by decide) _ ?hs rfl _ r.bytes.length (cB r.bytes) rfl (by rw [← HW0.out]; exact RB.out) (cB_one _) (by omega) ?_)
  case hs => simp
  intro A1 p1 w1 ho1 hb1
  rw [← HW0.out] at hb1
  rw [show w.heap.size + 1 + 1 + 1 = w0.heap.size from by rw [Q0.out]] at ho1 hb1
  have pp1 := PP0.out.below hb1
  have pz1 := PZ0.out.below hb1
  have po1 := PO0.out.below hb1
  have HB1a := Below.then_ HB0.out hb1 (Nat.le_refl _)
  have sz1 : w0.heap.size ≤ w1.heap.size := by have := hb1.size; simpa [World.setCell] using this
  have s1 : w1.cell? ⟨w.heap.size + 1 + 1, 4, none⟩ = some (.slice Ab r.bytes.length cb) := po1.cell 4
  have f1 : w1.frozen? ⟨w.heap.size + 1 + 1, 4, none⟩ = false := po1.frozen 4
  have own1 := own_mono (base' := w.heap.size + 3) ho1 (by rw [Q0.out]; omega)
  have O1_1 := Lib.hid (own_set own1 (g := (w.heap.size + 1 + 1)) (j := 4) (u := (.slice A1 r.bytes.length p1)) (by omega))
  have L1 := Lib.hid (fun b hb => ho1.lt b hb)
  have PP1 := Lib.hid (pp1.setOther ⟨w.heap.size + 1 + 1, 4, none⟩ (by show w.heap.size ≠ w.heap.size + 1 + 1; omega) (.slice A1 r.bytes.length p1))
  have PO1 := Lib.hid (po1.set 4 (.slice A1 r.bytes.length p1))
  have PZ1 := Lib.hid (pz1.setOther ⟨w.heap.size + 1 + 1, 4, none⟩ (by show w.heap.size + 1 ≠ w.heap.size + 1 + 1; omega) (.slice A1 r.bytes.length p1))
  have HB1 := Lib.hid (below_set (j := 4) HB1a (show w.heap.size ≤ (w.heap.size + 1 + 1) by omega) (.slice A1 r.bytes.length p1))
  have SZ1 := Lib.hid (show w.heap.size + 3 ≤ w1.heap.size from by have := Q0.out; omega)
  have SS1 := Lib.hid sz1
  have RN1 := Lib.hid (RWRN.out.below HB1.out)
  have RTT1 := Lib.hid (RWRTT.out.below HB1.out)
  have RK1 := Lib.hid (RWRK.out.below HB1.out)
  clear ho1 hb1 pp1 pz1 HB1a sz1 own1 c0 po1
  have c1 : ((w1.setCell ⟨w.heap.size + 1 + 1, 4, none⟩ (.slice A1 r.bytes.length p1)).alloc (.cells #[] 9)).cell? ⟨w.heap.size, 5, none⟩ = some (.slice An r.names.length cn) := (PP1.out.alloc _).cell 5
  go_wp2_with (at_builtin; refine wpList_copy_rd rfl (.tmp 10) (.tmp 12) 27 rfl 9 is (.string ⟨#[]⟩) 16 Tryz.underlying27 is1 is2 is3 is4 rfl (by decide) _ ?hs rfl _ r.names.length (cS r.names) rfl RN1.out (cS_one _) (by omega) ?_)
  case hs => simp [World.setCell]
  intro A2 p2 w2 ho2 hb2
  have hz1 : w1.heap.size = (w1.setCell ⟨w.heap.size + 1 + 1, 4, none⟩ (.slice A1 r.bytes.length p1)).heap.size := by simp [World.setCell]
  (try rw [hz1] at ho2)
  have hb2' : Below (w1.setCell ⟨w.heap.size + 1 + 1, 4, none⟩ (.slice A1 r.bytes.length p1)).heap.size (w1.setCell ⟨w.heap.size + 1 + 1, 4, none⟩ (.slice A1 r.bytes.length p1)) w2 := by first | exact hb2 | (rw [← hz1]; exact hb2)
  clear hz1
  replace hb2 := hb2'
  have pp2 := PP1.out.below hb2
  have pz2 := PZ1.out.below hb2
  have po2 := PO1.out.below hb2
  have HB2a := Below.then_ HB1.out hb2 (Nat.le_refl _)
  have sz2 : w1.heap.size ≤ w2.heap.size := by have := hb2.size; simpa [World.setCell] using this
  have s2 : w2.cell? ⟨w.heap.size + 1 + 1, 5, none⟩ = some (.slice An r.names.length cn) := po2.cell 5
  have f2 : w2.frozen? ⟨w.heap.size + 1 + 1, 5, none⟩ = false := po2.frozen 5
  have own2 := own_mono (base' := w.heap.size + 3) ho2 (by have := SZ1.out; simp [World.setCell]; omega)
  have O1_2 := Lib.hid (own_set (own_below O1_1.out hb2) (g := (w.heap.size + 1 + 1)) (j := 5) (u := (.slice A2 r.names.length p2)) (by omega))
  have O2_2 := Lib.hid (own_set own2 (g := (w.heap.size + 1 + 1)) (j := 5) (u := (.slice A2 r.names.length p2)) (by omega))
  have L2 := Lib.hid (fun b hb => ho2.lt b hb)
  have PP2 := Lib.hid (pp2.setOther ⟨w.heap.size + 1 + 1, 5, none⟩ (by show w.heap.size ≠ w.heap.size + 1 + 1; omega) (.slice A2 r.names.length p2))
  have PO2 := Lib.hid (po2.set 5 (.slice A2 r.names.length p2))
  have PZ2 := Lib.hid (pz2.setOther ⟨w.heap.size + 1 + 1, 5, none⟩ (by show w.heap.size + 1 ≠ w.heap.size + 1 + 1; omega) (.slice A2 r.names.length p2))
  have HB2 := Lib.hid (below_set (j := 5) HB2a (show w.heap.size ≤ (w.heap.size + 1 + 1) by omega) (.slice A2 r.names.length p2))
  have SZ2 := Lib.hid (show w.heap.size + 3 ≤ w2.heap.size from by have := SZ1.out; omega)
  have SS2 := Lib.hid sz2
  have RTT2 := Lib.hid (RWRTT.out.below HB2.out)
  have RK2 := Lib.hid (RWRK.out.below HB2.out)
  clear ho2 hb2 pp2 pz2 HB2a sz2 own2 c1 po2 s1 f1
  have c2 : ((w2.setCell ⟨w.heap.size + 1 + 1, 5, none⟩ (.slice A2 r.names.length p2)).alloc (.cells #[] 3)).cell? ⟨w.heap.size, 6, none⟩ = some (.slice At r.tags.length ct) := (PP2.out.alloc _).cell 6
  go_wp2_with (at_builtin; refine wpList_copy_rd rfl (.tmp 15) (.tmp 17) 28 rfl 3 ii (.int .i64 0) 8 Tryz.underlying28 ii1 ii2 ii3 ii4 rfl (by decide) _ ?hs rfl _ r.tags.length (cI r.tags) rfl RTT2.out (cI_one _) (by omega) ?_)
  case hs => simp [World.setCell]
  intro A3 p3 w3 ho3 hb3
  have hz2 : w2.heap.size = (w2.setCell ⟨w.heap.size + 1 + 1, 5, none⟩ (.slice A2 r.names.length p2)).heap.size := by simp [World.setCell]
  (try rw [hz2] at ho3)
  have hb3' : Below (w2.setCell ⟨w.heap.size + 1 + 1, 5, none⟩ (.slice A2 r.names.length p2)).heap.size (w2.setCell ⟨w.heap.size + 1 + 1, 5, none⟩ (.slice A2 r.names.length p2)) w3 := by first | exact hb3 | (rw [← hz2]; exact hb3)
  clear hz2
  replace hb3 := hb3'
  have pp3 := PP2.out.below hb3
  have pz3 := PZ2.out.below hb3
  have po3 := PO2.out.below hb3
  have HB3a := Below.then_ HB2.out hb3 (Nat.le_refl _)
  have sz3 : w2.heap.size ≤ w3.heap.size := by have := hb3.size; simpa [World.setCell] using this
  have s3 : w3.cell? ⟨w.heap.size + 1 + 1, 6, none⟩ = some (.slice At r.tags.length ct) := po3.cell 6
  have f3 : w3.frozen? ⟨w.heap.size + 1 + 1, 6, none⟩ = false := po3.frozen 6
  have own3 := own_mono (base' := w.heap.size + 3) ho3 (by have := SZ2.out; simp [World.setCell]; omega)
  have O1_3 := Lib.hid (own_set (own_below O1_2.out hb3) (g := (w.heap.size + 1 + 1)) (j := 6) (u := (.slice A3 r.tags.length p3)) (by omega))
  have O2_3 := Lib.hid (own_set (own_below O2_2.out hb3) (g := (w.heap.size + 1 + 1)) (j := 6) (u := (.slice A3 r.tags.length p3)) (by omega))
  have O3_3 := Lib.hid (own_set own3 (g := (w.heap.size + 1 + 1)) (j := 6) (u := (.slice A3 r.tags.length p3)) (by omega))
  have L3 := Lib.hid (fun b hb => ho3.lt b hb)
  have PP3 := Lib.hid (pp3.setOther ⟨w.heap.size + 1 + 1, 6, none⟩ (by show w.heap.size ≠ w.heap.size + 1 + 1; omega) (.slice A3 r.tags.length p3))
  have PO3 := Lib.hid (po3.set 6 (.slice A3 r.tags.length p3))
  have PZ3 := Lib.hid (pz3.setOther ⟨w.heap.size + 1 + 1, 6, none⟩ (by show w.heap.size + 1 ≠ w.heap.size + 1 + 1; omega) (.slice A3 r.tags.length p3))
  have HB3 := Lib.hid (below_set (j := 6) HB3a (show w.heap.size ≤ (w.heap.size + 1 + 1) by omega) (.slice A3 r.tags.length p3))
  have SZ3 := Lib.hid (show w.heap.size + 3 ≤ w3.heap.size from by have := SZ2.out; omega)
  have SS3 := Lib.hid sz3
  have RK3 := Lib.hid (RWRK.out.below HB3.out)
  clear ho3 hb3 pp3 pz3 HB3a sz3 own3 c2 po3 s2 f2
  have c3 : ((w3.setCell ⟨w.heap.size + 1 + 1, 6, none⟩ (.slice A3 r.tags.length p3)).alloc (.cells #[] 3)).cell? ⟨w.heap.size, 7, none⟩ = some (.slice Ak r.kids.length ck) := (PP3.out.alloc _).cell 7
  go_wp2_with (at_builtin; refine wpList_copy_rd rfl (.tmp 20) (.tmp 22) 28 rfl 3 ii (.int .i64 0) 8 Tryz.underlying28 ii1 ii2 ii3 ii4 rfl (by decide) _ ?hs rfl _ r.kids.length (cI r.kids) rfl RK3.out (cI_one _) (by omega) ?_)
  case hs => simp [World.setCell]
  intro A4 p4 w4 ho4 hb4
  have hz3 : w3.heap.size = (w3.setCell ⟨w.heap.size + 1 + 1, 6, none⟩ (.slice A3 r.tags.length p3)).heap.size := by simp [World.setCell]
  (try rw [hz3] at ho4)
  have hb4' : Below (w3.setCell ⟨w.heap.size + 1 + 1, 6, none⟩ (.slice A3 r.tags.length p3)).heap.size (w3.setCell ⟨w.heap.size + 1 + 1, 6, none⟩ (.slice A3 r.tags.length p3)) w4 := by first | exact hb4 | (rw [← hz3]; exact hb4)
  clear hz3
  replace hb4 := hb4'
  have pp4 := PP3.out.below hb4
  have pz4 := PZ3.out.below hb4
  have po4 := PO3.out.below hb4
  have HB4a := Below.then_ HB3.out hb4 (Nat.le_refl _)
  have sz4 : w3.heap.size ≤ w4.heap.size := by have := hb4.size; simpa [World.setCell] using this
  have own4 := own_mono (base' := w.heap.size + 3) ho4 (by have := SZ3.out; simp [World.setCell]; omega)
  have O1_4 := Lib.hid (own_below O1_3.out hb4)
  have O2_4 := Lib.hid (own_below O2_3.out hb4)
  have O3_4 := Lib.hid (own_below O3_3.out hb4)
  have O4_4 := Lib.hid own4
  have L4 := Lib.hid (fun b hb => ho4.lt b hb)
  have HB4 := Lib.hid HB4a
  have SS4 := Lib.hid sz4
  have g0 : w4.cell? ⟨w.heap.size + 1 + 1, 0, none⟩ = some (.string r.name) := po4.cell 0
  have g1 : w4.cell? ⟨w.heap.size + 1 + 1, 1, none⟩ = some (.int .i64 r.kind) := po4.cell 1
  have g2 : w4.cell? ⟨w.heap.size + 1 + 1, 2, none⟩ = some (.int .i64 r.size) := po4.cell 2
  have g3 : w4.cell? ⟨w.heap.size + 1 + 1, 3, none⟩ = some (.bool r.little) := po4.cell 3
  have g4 : w4.cell? ⟨w.heap.size + 1 + 1, 4, none⟩ = some ((.slice A1 r.bytes.length p1)) := po4.cell 4
  have g5 : w4.cell? ⟨w.heap.size + 1 + 1, 5, none⟩ = some ((.slice A2 r.names.length p2)) := po4.cell 5
  have g6 : w4.cell? ⟨w.heap.size + 1 + 1, 6, none⟩ = some ((.slice A3 r.tags.length p3)) := po4.cell 6
  have g7 : w4.cell? ⟨w.heap.size + 1 + 1, 7, none⟩ = some (.slice Ak r.kids.length ck) := po4.cell 7
  have r0 : w4.cell? ⟨w.heap.size + 1, 0, none⟩ = some (.string ⟨#[]⟩) := pz4.cell 0
  have q0 : w4.frozen? ⟨w.heap.size + 1, 0, none⟩ = false := pz4.frozen 0
  have r1 : w4.cell? ⟨w.heap.size + 1, 1, none⟩ = some (.int .i64 0) := pz4.cell 1
  have q1 : w4.frozen? ⟨w.heap.size + 1, 1, none⟩ = false := pz4.frozen 1
  have r2 : w4.cell? ⟨w.heap.size + 1, 2, none⟩ = some (.int .i64 0) := pz4.cell 2
  have q2 : w4.frozen? ⟨w.heap.size + 1, 2, none⟩ = false := pz4.frozen 2
  have r3 : w4.cell? ⟨w.heap.size + 1, 3, none⟩ = some (.bool false) := pz4.cell 3
  have q3 : w4.frozen? ⟨w.heap.size + 1, 3, none⟩ = false := pz4.frozen 3
  have r4 : w4.cell? ⟨w.heap.size + 1, 4, none⟩ = some (.slice none 0 0) := pz4.cell 4
  have q4 : w4.frozen? ⟨w.heap.size + 1, 4, none⟩ = false := pz4.frozen 4
  have r5 : w4.cell? ⟨w.heap.size + 1, 5, none⟩ = some (.slice none 0 0) := pz4.cell 5
  have q5 : w4.frozen? ⟨w.heap.size + 1, 5, none⟩ = false := pz4.frozen 5
  have r6 : w4.cell? ⟨w.heap.size + 1, 6, none⟩ = some (.slice none 0 0) := pz4.cell 6
  have q6 : w4.frozen? ⟨w.heap.size + 1, 6, none⟩ = false := pz4.frozen 6
  have r7 : w4.cell? ⟨w.heap.size + 1, 7, none⟩ = some (.slice none 0 0) := pz4.cell 7
  have q7 : w4.frozen? ⟨w.heap.size + 1, 7, none⟩ = false := pz4.frozen 7
  have f4 : w4.frozen? ⟨w.heap.size + 1 + 1, 7, none⟩ = false := po4.frozen 7
  clear ho4 hb4 pp4 pz4 HB4a sz4 own4 c3 s3 f3 po4
  go_wp2_with fail
  refine bodyPost_ret (v := .agg #[.string r.name, .int .i64 r.kind, .int .i64 r.size, .bool r.little, .slice A1 r.bytes.length p1, .slice A2 r.names.length p2, .slice A3 r.tags.length p3, .slice A4 r.kids.length p4]) (by simp [results, Tryz.results74, go_sem, r0, r1, r2, r3, r4, r5, r6, r7]) rfl ?_
  have lt1 : ∀ k, (Value.slice A1 r.bytes.length p1).ownBlock = some k → w0.heap.size ≤ k ∧ k < w1.heap.size := fun k hk => L1.out k hk
  have lt2 : ∀ k, (Value.slice A2 r.names.length p2).ownBlock = some k → w1.heap.size ≤ k ∧ k < w2.heap.size := fun k hk => by have := L2.out k hk; simpa [World.setCell] using this
  have lt3 : ∀ k, (Value.slice A3 r.tags.length p3).ownBlock = some k → w2.heap.size ≤ k ∧ k < w3.heap.size := fun k hk => by have := L3.out k hk; simpa [World.setCell] using this
  have lt4 : ∀ k, (Value.slice A4 r.kids.length p4).ownBlock = some k → w3.heap.size ≤ k ∧ k < w4.heap.size := fun k hk => by have := L4.out k hk; simpa [World.setCell] using this
  refine ⟨_, _, _, _, rfl, ⟨_, _, _, _, rfl, ?_, ?_, ?_, ?_⟩, blocks_nodup lt1 lt2 lt3 lt4 SS2.out SS3.out, ?_⟩
  · exact own_mono (own_nineG (gs := (w.heap.size + 1 + 1)) (gr := w.heap.size + 1) O1_4.out (by omega) (by omega) _ _ _ _ _ _ _ _ _) (by omega)
  · exact own_mono (own_nineG (gs := (w.heap.size + 1 + 1)) (gr := w.heap.size + 1) O2_4.out (by omega) (by omega) _ _ _ _ _ _ _ _ _) (by omega)
  · exact own_mono (own_nineG (gs := (w.heap.size + 1 + 1)) (gr := w.heap.size + 1) O3_4.out (by omega) (by omega) _ _ _ _ _ _ _ _ _) (by omega)
  · exact own_mono (own_nineG (gs := (w.heap.size + 1 + 1)) (gr := w.heap.size + 1) O4_4.out (by omega) (by omega) _ _ _ _ _ _ _ _ _) (by omega)
  · exact below_nineG (gs := (w.heap.size + 1 + 1)) (gr := w.heap.size + 1) HB4.out (by omega) (by omega) _ _ _ _ _ _ _ _ _

end Go.Proofs.YtkjjgpkegihmhaaGreatDoor

namespace Go.Proofs.YtkjjgpkegihmhaaGreatDoor
open Go.RowKit
set_option linter.unusedVariables false

structure Within (lo hi : Nat) (w w' : World) : Prop where
  os : w'.os = w.os
  tape : w'.tape = w.tape
  output : w'.output = w.output
  size : w.heap.size ≤ w'.heap.size
  block : ∀ k, k < w.heap.size → (k < lo ∨ hi ≤ k) → w'.heap[k]? = w.heap[k]?
theorem blocks_flatten (css : List (List Value)) : blocks css.flatten = (css.map blocks).flatten := by
  induction css with
  | nil => rfl
  | cons c r ih => rw [List.flatten_cons, blocks_append, ih]; rfl
theorem OwnRule.kept_row {w w' : World} {lo : Nat} {cs : List Value} {r : RuleD} {row : Option Nat} (h : OwnRule w lo cs r) (hk : w.grownBy w' row) (hne : ∀ b ∈ blocks cs, some b ≠ row) : OwnRule w' lo cs r := by
  obtain ⟨vb, vn, vt, vk, rfl, h1, h2, h3, h4⟩ := h
  have key : ∀ v : Value, v ∈ [vb, vn, vt, vk] → v.ownBlock = none ∨ v.ownBlock ≠ row := by
    intro v hv
    cases hb : v.ownBlock with
    | none => exact .inl rfl
    | some b =>
      right
      have : b ∈ blocks (ruleCells r vb vn vt vk) := by
        rw [blocks_rule]
        exact List.mem_filterMap.2 ⟨v, hv, hb⟩
      exact hne b this
  exact ⟨vb, vn, vt, vk, rfl, h1.kept hk (key vb (by simp)), h2.kept hk (key vn (by simp)), h3.kept hk (key vt (by simp)), h4.kept hk (key vk (by simp))⟩

structure RulesAt (w : World) (lo hi g cap n : Nat) (css : List (List Value)) (rs : List RuleD) : Prop where
  len : css.length = n
  rlen : rs.length = n
  row : w.ownsRow lo 30 8 (.slice (some ⟨g, 0, none⟩) n cap) n css.flatten
  each : ∀ (i : Nat) (cs : List Value) (r : RuleD), css[i]? = some cs → rs[i]? = some r → OwnRule w lo cs r
  nodup : (blocks css.flatten).Nodup
  lt : ∀ b ∈ blocks css.flatten, b < hi
  ghi : g < hi

section
variable {w w' : World} {lo hi g cap n : Nat} {css : List (List Value)} {rs : List RuleD}
end
end Go.Proofs.YtkjjgpkegihmhaaGreatDoor
namespace Go.Proofs.YtkjjgpkegihmhaaGreatDoor
open Go.RowKit
set_option linter.unusedVariables false
theorem OwnRules.push {w1 w3 : World} {lo b0 : Nat} {vo v' : Value} {rs : List RuleD} {r : RuleD} {css : List (List Value)} {cs : List Value} (hl : css.length = rs.length)
    (hown1 : w1.ownsRow lo 30 8 vo rs.length css.flatten) (hr : ∀ (i : Nat) (cs : List Value) (r : RuleD), css[i]? = some cs → rs[i]? = some r → OwnRule w1 lo cs r)
    (hn : (blocks css.flatten).Nodup) (hlt : ∀ b ∈ blocks css.flatten, b < b0) (hc : OwnRule w1 b0 cs r) (hcn : (blocks cs).Nodup) (hlo : lo ≤ b0)
    (hown3 : w3.ownsRow lo 30 8 v' (rs.length + 1) (css.flatten ++ cs)) (hg : (w1.alloc (.cells cs.toArray 30)).grownBy w3 vo.ownBlock) : OwnRules w3 lo v' (rs ++ [r]) := by
  have hb : Below w1.heap.size w1 (w1.alloc (.cells cs.toArray 30)) := (Below.refl _ _).alloc (Nat.le_refl _) _
  have kept : ∀ {lo' : Nat} {ds : List Value} {q : RuleD}, OwnRule w1 lo' ds q → OwnRule w3 lo' ds q := by
    intro lo' ds q hq
    have hq1 := hq.below hb
    cases hv : vo.ownBlock with
    | none => rw [hv] at hg; exact hq1.kept_row hg (fun b _ e => by cases e)
    | some g =>
      rw [hv] at hg
      rcases hown1.2 with ⟨e, _⟩ | ⟨g', cap', cur, e, _, hh, _⟩
      · rw [e] at hv; cases hv
      · have : g' = g := by rw [e] at hv; simpa [Value.ownBlock] using hv
        subst this
        exact hq1.kept hg ((hb.block g' (Array.getElem?_eq_some_iff.1 hh).1).trans hh) (by decide) (by decide) (by decide)
  refine ⟨css ++ [cs], by simp [hl], ?_, ?_, ?_⟩
  · rw [List.flatten_append, List.length_append]
    simpa using hown3
  · intro i ds q hi hq
    rcases Nat.lt_or_ge i css.length with h1 | h1
    · rw [List.getElem?_append_left h1] at hi
      rw [List.getElem?_append_left (by omega)] at hq
      exact kept (hr i ds q hi hq)
    · rw [List.getElem?_append_right h1] at hi
      rw [List.getElem?_append_right (by omega)] at hq
      have h2 : i - css.length = 0 := by
        have := (List.getElem?_eq_some_iff.1 hi).1
        simp at this; omega
      have h3 : i - rs.length = 0 := by omega
      rw [h2] at hi
      rw [h3] at hq
      simp at hi hq
      subst hi; subst hq
      exact kept (hc.mono hlo)
  · rw [List.flatten_append, blocks_append, List.nodup_append]
    refine ⟨hn, by simpa using hcn, ?_⟩
    intro a ha b hb' hab
    have h1 := hlt a ha
    have h2 := (hc.blocks_lt b (by simpa using hb')).1
    omega

theorem rd_lit8 (w : World) (cs : List Value) (E : TypeId) (hn : cs.length = 8) : Rd (w.alloc (.cells cs.toArray E)) (.slice (some ⟨w.heap.size, 0, none⟩) 1 1) 8 1 cs := by
  have h := World.ownsRow_lit (base := 0) (e := E) (size := 8) w cs.toArray 1 (Nat.zero_le _) (by unfold maxLen; omega) (by simp [hn])
  simpa using Rd.of_own h

theorem OwnRules.parts {w : World} {lo : Nat} {v : Value} {l : List RuleD} (h : OwnRules w lo v l) : ∃ css : List (List Value), css.length = l.length ∧ w.ownsRow lo 30 8 v l.length css.flatten ∧
    (∀ (i : Nat) (cs : List Value) (r : RuleD), css[i]? = some cs → l[i]? = some r → OwnRule w lo cs r) ∧ (blocks css.flatten).Nodup ∧ ∀ b ∈ blocks css.flatten, b < w.heap.size := by
  obtain ⟨css, hl, hown, hr, hn⟩ := h
  refine ⟨css, hl, hown, hr, hn, ?_⟩
  intro b hb
  rw [blocks_flatten] at hb
  obtain ⟨bs, hbs, hbb⟩ := List.mem_flatten.1 hb
  obtain ⟨cs, hcs, rfl⟩ := List.mem_map.1 hbs
  obtain ⟨i, hi, rfl⟩ := List.getElem_of_mem hcs
  exact ((hr i css[i] l[i] (List.getElem?_eq_getElem hi) (List.getElem?_eq_getElem (by omega))).blocks_lt b hbb).2

set_option maxRecDepth 100000 in
set_option maxHeartbeats 8000000 in
theorem s_CopyDescription (d : Value) (l : List RuleD) (hln : l.length ≤ 1048576) (hsm : ∀ r ∈ l, RuleSmall r) (w : World) (hd : RdDesc w d l) :
    Calls Tryz.prog 34 #[d] w (MadeDesc l w) := by
  obtain ⟨v, rfl, hv⟩ := hd
  obtain ⟨A, c, rfl, hnc, hcm, hcell⟩ := hv.all
  unfold maxLen at hcm
  have HC := Lib.hid hcell
  clear hcell hv
  obtain ⟨n, hnl⟩ : ∃ n, n = l.length := ⟨_, rfl⟩
  have HN := Lib.hid hnl
  have hn' : n ≤ 1048576 := by omega
  rw [← hnl] at hnc ⊢
  clear hnl hln
  obtain ⟨i0, hi, hz0, hz1, hz2⟩ := info_parts info_Rule
  obtain ⟨w0, hw0⟩ : ∃ w0, w0 = (((w.alloc (.cells #[.slice A n c] 35)).alloc (.cells #[.slice none 0 0] 35)).alloc (.cells #[.slice none 0 0] 35)) := ⟨_, rfl⟩
  have z0 : w0.heap.size = w.heap.size + 1 + 1 + 1 := by rw [hw0]; simp
  have b0 : Below w.heap.size w w0 := by rw [hw0]; exact (((Below.refl _ _).alloc (Nat.le_refl _) _).alloc (by simp) _).alloc (by simp; omega) _
  have T0 := Three.new w 35 35 35 #[.slice A n c] #[.slice none 0 0] #[.slice none 0 0]
  rw [← hw0] at T0
  have P0 := Lib.hid (show Box w0 w.heap.size 35 #[.slice A n c] from T0.1)
  have Q0 := Lib.hid (show Box w0 (w.heap.size + 1) 35 #[.slice none 0 0] from T0.2.1)
  have O0 := Lib.hid (show Box w0 (w.heap.size + 1 + 1) 35 #[.slice none 0 0] from T0.2.2)
  have Z0 := Lib.hid z0
  have B0 := Lib.hid b0
  have W0 := Lib.hid hw0
  clear z0 b0 T0 hw0
  go_enter Tryz.func34, Tryz.ntmps34
  go_wp2_with fail
  rw [← W0.out]
  go_loopw [4] (fun i wr => ∃ k : Nat, k ≤ n ∧ i = .int .i64 k ∧ (∃ Ao co, Box wr (w.heap.size + 1 + 1) 35 #[.slice Ao k co] ∧ OwnRules wr w0.heap.size (.slice Ao k co) (l.take k)) ∧ Box wr (w.heap.size + 1) 35 #[.slice none 0 0] ∧ Box wr w.heap.size 35 #[.slice A n c] ∧ Below w.heap.size w wr ∧ w0.heap.size ≤ wr.heap.size) (fun i _ => n - (intOf i).toNat)
  case atStart => exact ⟨0, Nat.zero_le _, rfl, ⟨none, 0, O0.out, ⟨[], rfl, by simpa using World.ownsRow_nil w0 w0.heap.size 30 8, by simp, by simp [blocks]⟩⟩, Q0.out, P0.out, B0.out, Nat.le_refl _⟩
  case round =>
    obtain ⟨k, hk, rfl, ⟨Ao, co, bo, hor⟩, bq, bp, hbr, hsz⟩ := hrel
    have x0 : wr.cell? ⟨w.heap.size, 0, none⟩ = some (.slice A n c) := bp.cell 0
    by_cases hlt : k < n
    · have hkl : k < l.length := by rw [← HN.out]; exact hlt
      obtain ⟨b, off, rfl, hc⟩ := HC.out (by omega)
      obtain ⟨vb, vn, vt, vk, hr⟩ := hc k hkl
      have HSM := Lib.hid (hsm l[k] (List.getElem_mem hkl))
      have HTK := Lib.hid (List.take_succ_eq_append_getElem hkl)
      have hr1 := hr.below hbr
      obtain ⟨r, hr0⟩ : ∃ r, r = l[k] := ⟨_, rfl⟩
      rw [← hr0] at hr1 HSM HTK
      have cr := hr1.eight
      have cr2 := hr1.drew.eight
      have HR1 := Lib.hid hr1.drew.rd
      have x1 : wr.cell? ⟨w.heap.size + 1 + 1, 0, none⟩ = some (.slice Ao k co) := bo.cell 0
      obtain ⟨css, hcl, hown, hreach, hnod, hblt⟩ := (hor.below (Below.refl wr.heap.size wr).drew).parts
      have hkn : (l.take k).length = k := by rw [List.length_take]; omega
      rw [hkn] at hown hcl
      have HOWN := Lib.hid hown
      have HCL := Lib.hid hcl
      have HEA := Lib.hid hreach
      have HND := Lib.hid hnod
      have HBL := Lib.hid hblt
      have HKN := Lib.hid hkn
      have BO := Lib.hid bo
      have BQ := Lib.hid bq
      have BP := Lib.hid bp
      have HB := Lib.hid hbr
      have HSZ := Lib.hid hsz
      have DR := Lib.hid (Below.refl wr.heap.size wr).drew
      have hkb : k ≤ 1048576 := by omega
      clear hr hr0 hr1 hc hor bo bq bp hbr hsz hown hcl hreach hnod hblt hkn
      obtain ⟨D0, D1, D2, D3, D4, D5, D6, D7⟩ := cr
      go_wp2_with fail
      go_region_law (first
        | (refine step_append_rd _ (by rfl) (.tmp 14) (.tmp 21) 33 (by rfl) w0.heap.size 30 i0 (.agg #[.string ⟨#[]⟩, .int .i64 0, .int .i64 0, .bool false, .slice none 0 0, .slice none 0 0, .slice none 0 0, .slice none 0 0]) 8 136 Tryz.underlying33 hi hz0 hz1 hz2 (by rfl) (by decide) (.slice Ao k co) k css.flatten (by rfl) OWN1.out (.slice (some ⟨w1.heap.size, 0, none⟩) 1 1) 1 [.string r.name, .int .i64 r.kind, .int .i64 r.size, .bool r.little, ub, un, ut, uk] (by rfl) (rd_lit8 w1 _ _ rfl) ONE.out (by unfold maxLen; omega) (by omega) (by have := SZ1.out; simp; omega) ?_; intro v' w3 hown3 hg3 _; obtain ⟨A', c', rfl⟩ : ∃ A c, v' = .slice A (k + 1) c := (by obtain ⟨_, A, c, h, _⟩ := Rd.of_own hown3; exact ⟨A, c, h⟩); have y3 := BOX1.out _ hg3; have s3 : w3.cell? ⟨w.heap.size + 1 + 1, 0, none⟩ = some (.slice Ao k co) := y3.cell 0; have f3 : w3.frozen? ⟨w.heap.size + 1 + 1, 0, none⟩ = false := y3.frozen 0)
        | (go_simp; go_at_call 74; refine (s_copyRule r vb vn vt vk HSM.out _ HR1.out).mono ?_; rintro e w1 ⟨ub, un, ut, uk, rfl, hor, hnd, hb1⟩; have x2 : w1.cell? ⟨w.heap.size + 1 + 1, 0, none⟩ = some (.slice Ao k co) := ((BO.out.below DR.out).below hb1).cell 0; have x3 : (w1.alloc (.cells #[.string r.name, .int .i64 r.kind, .int .i64 r.size, .bool r.little, ub, un, ut, uk] 30)).cell? ⟨w.heap.size + 1 + 1, 0, none⟩ = some (.slice Ao k co) := (((BO.out.below DR.out).below hb1).alloc _).cell 0; have OWN1 := Lib.hid ((own_below HOWN.out hb1).alloc (.cells #[.string r.name, .int .i64 r.kind, .int .i64 r.size, .bool r.little, ub, un, ut, uk] 30)); have ONE : Hid (∀ u ∈ [.string r.name, .int .i64 r.kind, .int .i64 r.size, .bool r.little, ub, un, ut, uk], u.oneCell' = true) := rule_oneCell hor; have SZ1 : Hid (w0.heap.size ≤ w1.heap.size) := Nat.le_trans HSZ.out hb1.size; have BOX1 : Hid (∀ w3, (w1.alloc (.cells #[.string r.name, .int .i64 r.kind, .int .i64 r.size, .bool r.little, ub, un, ut, uk] 30)).grownBy w3 (.slice Ao k co : Value).ownBlock → Box w3 (w.heap.size + 1 + 1) 35 #[.slice Ao k co]) := fun w3 hg => (((BO.out.below DR.out).below hb1).alloc _).grown hg (fun e => by have h1 := (OWN1.out.lt _ e.symm).1; rw [Z0.out] at h1; omega)))
      all_goals
        have push : OwnRules w3 w0.heap.size (.slice A' (k + 1) c') (l.take k ++ [r]) := OwnRules.push (b0 := wr.drew.heap.size) (w1 := w1) (css := css) (cs := ruleCells r ub un ut uk) (vo := .slice Ao k co) (by rw [HKN.out]; exact HCL.out) (by rw [HKN.out]; exact own_below HOWN.out hb1) (fun i cs q h1 h2 => (HEA.out i cs q h1 h2).below hb1) HND.out HBL.out hor hnd HSZ.out (by rw [HKN.out]; exact hown3) hg3
        have hzz := Z0.out
        have ne : ∀ m, m < w0.heap.size → some m ≠ (Value.slice Ao k co).ownBlock := fun m hm e => by have h1 := (OWN1.out.lt _ e.symm).1; omega
        have bq3 := ((((BQ.out.below DR.out).below hb1).alloc (.cells #[.string r.name, .int .i64 r.kind, .int .i64 r.size, .bool r.little, ub, un, ut, uk] 30)).grown hg3 (ne _ (by omega))).setOther ⟨w.heap.size + 1 + 1, 0, none⟩ (by show w.heap.size + 1 ≠ w.heap.size + 1 + 1; omega) (.slice A' (k + 1) c')
        have bp3 := ((((BP.out.below DR.out).below hb1).alloc (.cells #[.string r.name, .int .i64 r.kind, .int .i64 r.size, .bool r.little, ub, un, ut, uk] 30)).grown hg3 (ne _ (by omega))).setOther ⟨w.heap.size + 1 + 1, 0, none⟩ (by show w.heap.size ≠ w.heap.size + 1 + 1; omega) (.slice A' (k + 1) c')
        have bo3 : Box (w3.setCell ⟨w.heap.size + 1 + 1, 0, none⟩ (.slice A' (k + 1) c')) (w.heap.size + 1 + 1) 35 #[.slice A' (k + 1) c'] := (BOX1.out w3 hg3).set 0 _
        have hbw1 := Below.then_ (Below.then_ HB.out DR.out (Nat.le_refl _)) hb1 (Nat.le_refl _)
        have hbw3 : Below w.heap.size w w3 := (hbw1.alloc hbw1.size (.cells #[.string r.name, .int .i64 r.kind, .int .i64 r.size, .bool r.little, ub, un, ut, uk] 30)).grown hg3 (by have := hbw1.size; simp; omega) (fun m hm => by have h1 := (OWN1.out.lt _ hm).1; omega)
        have HBZ := Lib.hid (below_set (j := 0) hbw3 (show w.heap.size ≤ w.heap.size + 1 + 1 by omega) (.slice A' (k + 1) c'))
        have hszz : w0.heap.size ≤ (w3.setCell ⟨w.heap.size + 1 + 1, 0, none⟩ (.slice A' (k + 1) c')).heap.size := by
          have h1 := SZ1.out
          have h2 := hg3.size
          simp [World.setCell] at h2 ⊢
          omega
        have HP := Lib.hid (push.setFar (w.heap.size + 1 + 1) 0 (.slice A' (k + 1) c') (by omega))
        have BQ3 := Lib.hid bq3
        have BP3 := Lib.hid bp3
        have BO3 := Lib.hid bo3
        have HSZZ := Lib.hid hszz
        clear push hzz ne bq3 bp3 bo3 hbw1 hbw3 hszz hown3 hg3 hor hnd hb1 x2 x3 s3 f3 y3 D0 D1 D2 D3 D4 D5 D6 D7 x0 x1
        go_wp2_with fail
        go_roundw
        case rel => exact ⟨k + 1, by omega, by go_num, ⟨A', c', BO3.out, by rw [HTK.out]; exact HP.out⟩, BQ3.out, BP3.out, HBZ.out, HSZZ.out⟩
        case measure => simp [intOf]; omega
    · obtain rfl : k = n := by omega
      have x1 : wr.cell? ⟨w.heap.size + 1 + 1, 0, none⟩ = some (.slice Ao k co) := bo.cell 0
      have x2 : wr.cell? ⟨w.heap.size + 1, 0, none⟩ = some (.slice none 0 0) := bq.cell 0
      have f2 : wr.frozen? ⟨w.heap.size + 1, 0, none⟩ = false := bq.frozen 0
      have HOR := Lib.hid hor
      have HB := Lib.hid hbr
      clear hor bo bq bp hbr hsz
      go_wp2_with fail
      refine bodyPost_ret (v := .agg #[.slice Ao k co]) (by simp [results, Tryz.results34, go_sem, x2]) rfl ?_
      refine ⟨_, rfl, ?_, below_set (j := 0) HB.out (show w.heap.size ≤ w.heap.size + 1 by omega) _⟩
      have h := HOR.out
      rw [HN.out, List.take_length] at h
      rw [HN.out]
      exact (h.setFar (w.heap.size + 1) 0 _ (by rw [Z0.out]; omega)).mono (by rw [Z0.out]; omega)

theorem OwnRules.setBox {w : World} {lo g : Nat} {v u : Value} {l : List RuleD} {cs : Array Value} (h : OwnRules w lo v l) (hg : Box w g 35 cs) : OwnRules (w.setCell ⟨g, 0, none⟩ u) lo v l := by
  obtain ⟨css, hl, hown, hr, hn⟩ := h
  have hk : w.grownBy (w.setCell ⟨g, 0, none⟩ u) (some g) := ⟨rfl, rfl, rfl, by simp [World.setCell], fun i _ hne => heap_setCell_other w ⟨g, 0, none⟩ i u (fun e => hne (by simp [e]))⟩
  exact ⟨css, hl, hown.kept hk (.inr (own_type hown hg (by decide))), fun i cs r hi hl => (hr i cs r hi hl).kept hk hg (by decide) (by decide) (by decide), hn⟩

set_option maxRecDepth 100000 in
set_option maxHeartbeats 8000000 in
theorem i_CopyDescription (d : Value) (l : List RuleD) (hln : l.length ≤ 1048576) (hsm : ∀ r ∈ l, RuleSmall r) (w : World) (hd : RdDesc w d l) :
    Calls Tryz.prog 54 #[d] w (MadeDesc l w) := by
  obtain ⟨v, rfl, hv⟩ := hd
  obtain ⟨A, c, rfl, hnc, hcm, hcell⟩ := hv.all
  unfold maxLen at hcm
  have HC := Lib.hid hcell
  clear hcell hv
  obtain ⟨n, hnl⟩ : ∃ n, n = l.length := ⟨_, rfl⟩
  have HN := Lib.hid hnl
  have hn' : n ≤ 1048576 := by omega
  rw [← hnl] at hnc ⊢
  clear hnl hln
  obtain ⟨i0, hi, hz0, hz1, hz2⟩ := info_parts info_Rule
  obtain ⟨wb, hwb⟩ : ∃ wb, wb = ((w.alloc (.cells #[.slice A n c] 35)).alloc (.cells #[.slice none 0 0] 35)) := ⟨_, rfl⟩
  have zb : wb.heap.size = w.heap.size + 1 + 1 := by rw [hwb]; simp
  have bb : Below w.heap.size w wb := by rw [hwb]; exact ((Below.refl _ _).alloc (Nat.le_refl _) _).alloc (by simp) _
  have qb : Box wb (w.heap.size + 1) 35 #[.slice none 0 0] := by
    rw [hwb]
    have := Box.new (w.alloc (.cells #[.slice A n c] 35)) 35 #[.slice none 0 0]
    rwa [show (w.alloc (.cells #[.slice A n c] 35)).heap.size = w.heap.size + 1 from by simp] at this
  have pb : Box wb w.heap.size 35 #[.slice A n c] := by rw [hwb]; exact (Box.new w _ _).alloc _
  have PB := Lib.hid pb
  have WB := Lib.hid hwb
  have ZB := Lib.hid zb
  have BB := Lib.hid bb
  have QB := Lib.hid qb
  clear hwb zb bb qb pb
  go_enter Tryz.func54, Tryz.ntmps54
  go_wp2_with (refine wpList_make_own _ rfl (.const (.int .i64 0)) (.tmp 8) 33 rfl (w.heap.size + 1 + 1) 30 i0 (.agg #[.string ⟨#[]⟩, .int .i64 0, .int .i64 0, .bool false, .slice none 0 0, .slice none 0 0, .slice none 0 0, .slice none 0 0]) 8 Tryz.underlying33 hi hz0 hz1 .i64 .i64 _ n rfl rfl rfl (by rw [hz2]; omega) (by unfold maxLen; omega) (by simp) ?_)
  intro wm hmo hmg
  rw [← WB.out] at hmg
  have hmo' : wm.ownsRow (w.heap.size + 1 + 1) 30 8 (.slice (some ⟨w.heap.size + 1 + 1, 0, none⟩) 0 n) 0 [] := by first | exact hmo | simpa using hmo
  obtain ⟨G, hG⟩ : ∃ G, G = wm.heap.size := ⟨_, rfl⟩
  obtain ⟨w0, hw0⟩ : ∃ w0, w0 = wm.alloc (.cells #[.slice (some ⟨w.heap.size + 1 + 1, 0, none⟩) 0 n] 35) := ⟨_, rfl⟩
  have bm : Below w.heap.size w wm := BB.out.grown hmg BB.out.size (fun k hk => by cases hk)
  have B0 := Lib.hid (show Below w.heap.size w w0 from by rw [hw0]; exact bm.alloc bm.size _)
  have O0 := Lib.hid (show Box w0 G 35 #[.slice (some ⟨w.heap.size + 1 + 1, 0, none⟩) 0 n] from by rw [hw0, hG]; exact Box.new _ _ _)
  have Q0 := Lib.hid (show Box w0 (w.heap.size + 1) 35 #[.slice none 0 0] from by rw [hw0]; exact (QB.out.grown hmg (fun e => by cases e)).alloc _)
  have R0 := Lib.hid (show w0.ownsRow (w.heap.size + 1 + 1) 30 8 (.slice (some ⟨w.heap.size + 1 + 1, 0, none⟩) 0 n) 0 [] from by rw [hw0]; exact hmo'.alloc _)
  have GB := Lib.hid (show w.heap.size + 1 + 1 ≤ G from by have h1 := hmg.size; rw [ZB.out] at h1; omega)
  have W0 := Lib.hid hw0
  have xd : (wm.alloc (.cells #[.slice (some ⟨w.heap.size + 1 + 1, 0, none⟩) 0 n] 35)).cell? ⟨w.heap.size, 0, none⟩ = some (.slice A n c) := ((PB.out.grown hmg (fun e => by cases e)).alloc _).cell 0
  have HG := Lib.hid hG
  clear hmo hmg hmo' bm hw0
  go_wp2_with fail
  rw [← W0.out, ← HG.out]
  clear hG xd
  go_loopw [14] (fun i wr => ∃ k : Nat, k ≤ n ∧ i = .int .i64 k ∧ (∃ Ao co, Box wr G 35 #[.slice Ao k co] ∧ OwnRules wr (w.heap.size + 1 + 1) (.slice Ao k co) (l.take k)) ∧ Box wr (w.heap.size + 1) 35 #[.slice none 0 0] ∧ Below w.heap.size w wr ∧ w0.heap.size ≤ wr.heap.size) (fun i _ => n - (intOf i).toNat)
  case atStart => exact ⟨0, Nat.zero_le _, rfl, ⟨_, _, O0.out, ⟨[], rfl, R0.out, by simp, by simp [blocks]⟩⟩, Q0.out, B0.out, Nat.le_refl _⟩
  case round =>
    obtain ⟨k, hk, rfl, ⟨Ao, co, bo, hor⟩, bq, hbr, hsz⟩ := hrel
    by_cases hlt : k < n
    · have hkl : k < l.length := by rw [← HN.out]; exact hlt
      obtain ⟨b, off, rfl, hc⟩ := HC.out (by omega)
      obtain ⟨vb, vn, vt, vk, hr⟩ := hc k hkl
      have HSM := Lib.hid (hsm l[k] (List.getElem_mem hkl))
      have HTK := Lib.hid (List.take_succ_eq_append_getElem hkl)
      have hr1 := hr.below hbr
      obtain ⟨r, hr0⟩ : ∃ r, r = l[k] := ⟨_, rfl⟩
      rw [← hr0] at hr1 HSM HTK
      obtain ⟨⟨Ab, cb, rfl⟩, ⟨An, cn, rfl⟩, ⟨At, ct, rfl⟩, ⟨Ak, ck, rfl⟩⟩ := hr1.slices
      have cr := hr1.eight
      obtain ⟨wa, hwa⟩ : ∃ wa, wa = wr.alloc (.cells #[.string r.name, .int .i64 r.kind, .int .i64 r.size, .bool r.little, .slice Ab r.bytes.length cb, .slice An r.names.length cn, .slice At r.tags.length ct, .slice Ak r.kids.length ck] 30) := ⟨_, rfl⟩
      have ba : Below wr.heap.size wr wa := by rw [hwa]; exact (Below.refl _ _).alloc (Nat.le_refl _) _
      have boxa : Box wa wr.heap.size 30 #[.string r.name, .int .i64 r.kind, .int .i64 r.size, .bool r.little, .slice Ab r.bytes.length cb, .slice An r.names.length cn, .slice At r.tags.length ct, .slice Ak r.kids.length ck] := by rw [hwa]; exact Box.new _ _ _
      have HR1 := Lib.hid (hr1.below ba).drew.rd
      have hoa := hor.below ba
      have boa := bo.below ba
      have bqa := bq.below ba
      have hba := Below.then_ hbr ba (Nat.le_refl _)
      have HWA := Lib.hid hwa
      obtain ⟨css, hcl, hown, hreach, hnod, hblt⟩ := (hoa.below (Below.refl wa.heap.size wa).drew).parts
      have hkn : (l.take k).length = k := by rw [List.length_take]; omega
      rw [hkn] at hown hcl
      have HOWN := Lib.hid hown
      have HCL := Lib.hid hcl
      have HEA := Lib.hid hreach
      have HND := Lib.hid hnod
      have HBL := Lib.hid hblt
      have HKN := Lib.hid hkn
      have BO := Lib.hid boa
      have BQ := Lib.hid bqa
      have HB := Lib.hid hba
      have HSZ := Lib.hid (Nat.le_trans hsz ba.size)
      have BXA := Lib.hid boxa
      have DR := Lib.hid (Below.refl wa.heap.size wa).drew
      have hkb : k ≤ 1048576 := by omega
      clear hr hr0 hr1 hc hor bo bq hbr hsz hown hcl hreach hnod hblt hkn ba boxa hoa boa bqa hba hwa
      obtain ⟨D0, D1, D2, D3, D4, D5, D6, D7⟩ := cr
      go_wp2_with fail
      rw [← HWA.out]
      have x1 : wa.cell? ⟨G, 0, none⟩ = some (.slice Ao k co) := BO.out.cell 0
      have y0 : wa.cell? ⟨wr.heap.size, 0, none⟩ = some (.string r.name) := BXA.out.cell 0
      have y1 : wa.cell? ⟨wr.heap.size, 1, none⟩ = some (.int .i64 r.kind) := BXA.out.cell 1
      have y2 : wa.cell? ⟨wr.heap.size, 2, none⟩ = some (.int .i64 r.size) := BXA.out.cell 2
      have y3 : wa.cell? ⟨wr.heap.size, 3, none⟩ = some (.bool r.little) := BXA.out.cell 3
      have y4 : wa.cell? ⟨wr.heap.size, 4, none⟩ = some (.slice Ab r.bytes.length cb) := BXA.out.cell 4
      have y5 : wa.cell? ⟨wr.heap.size, 5, none⟩ = some (.slice An r.names.length cn) := BXA.out.cell 5
      have y6 : wa.cell? ⟨wr.heap.size, 6, none⟩ = some (.slice At r.tags.length ct) := BXA.out.cell 6
      have y7 : wa.cell? ⟨wr.heap.size, 7, none⟩ = some (.slice Ak r.kids.length ck) := BXA.out.cell 7
      go_region_law (first
        | (refine step_append_rd _ (by rfl) (.tmp 19) (.tmp 22) 33 (by rfl) (w.heap.size + 1 + 1) 30 i0 (.agg #[.string ⟨#[]⟩, .int .i64 0, .int .i64 0, .bool false, .slice none 0 0, .slice none 0 0, .slice none 0 0, .slice none 0 0]) 8 136 Tryz.underlying33 hi hz0 hz1 hz2 (by rfl) (by decide) (.slice Ao k co) k css.flatten (by rfl) OWN1.out (.slice (some ⟨w1.heap.size, 0, none⟩) 1 1) 1 [.string r.name, .int .i64 r.kind, .int .i64 r.size, .bool r.little, ub, un, ut, uk] (by rfl) (rd_lit8 w1 _ _ rfl) ONE.out (by unfold maxLen; omega) (by omega) (by have := SZ1.out; simp; omega) ?_; intro v' w3 hown3 hg3 _; obtain ⟨A', c', rfl⟩ : ∃ A c, v' = .slice A (k + 1) c := (by obtain ⟨_, A, c, h, _⟩ := Rd.of_own hown3; exact ⟨A, c, h⟩); have s3 : w3.cell? ⟨G, 0, none⟩ = some (.slice Ao k co) := (BOX1.out _ hg3).cell 0; have f3 : w3.frozen? ⟨G, 0, none⟩ = false := (BOX1.out _ hg3).frozen 0)
        | (go_simp; go_at_call 93; refine (i_copyRule r _ _ _ _ HSM.out _ HR1.out).mono ?_; rintro e w1 ⟨ub, un, ut, uk, rfl, hor, hnd, hb1⟩; have x2 : w1.cell? ⟨G, 0, none⟩ = some (.slice Ao k co) := ((BO.out.below DR.out).below hb1).cell 0; have x3 : (w1.alloc (.cells #[.string r.name, .int .i64 r.kind, .int .i64 r.size, .bool r.little, ub, un, ut, uk] 30)).cell? ⟨G, 0, none⟩ = some (.slice Ao k co) := (((BO.out.below DR.out).below hb1).alloc _).cell 0; have OWN1 := Lib.hid ((own_below HOWN.out hb1).alloc (.cells #[.string r.name, .int .i64 r.kind, .int .i64 r.size, .bool r.little, ub, un, ut, uk] 30)); have ONE : Hid (∀ u ∈ [.string r.name, .int .i64 r.kind, .int .i64 r.size, .bool r.little, ub, un, ut, uk], u.oneCell' = true) := rule_oneCell hor; have SZ1 : Hid (w.heap.size + 1 + 1 ≤ w1.heap.size) := Nat.le_trans (by have h1 := HSZ.out; have h2 := B0.out.size; have h3 := GB.out; have h4 := O0.out.lt; show w.heap.size + 1 + 1 ≤ wa.heap.size; omega) hb1.size; have BOX1 : Hid (∀ w3, (w1.alloc (.cells #[.string r.name, .int .i64 r.kind, .int .i64 r.size, .bool r.little, ub, un, ut, uk] 30)).grownBy w3 (.slice Ao k co : Value).ownBlock → Box w3 G 35 #[.slice Ao k co]) := fun w3 hg => (((BO.out.below DR.out).below hb1).alloc _).grown hg (fun e => own_type OWN1.out (((BO.out.below DR.out).below hb1).alloc _) (by decide) e.symm)))
      all_goals
        have push : OwnRules w3 (w.heap.size + 1 + 1) (.slice A' (k + 1) c') (l.take k ++ [r]) := OwnRules.push (b0 := wa.drew.heap.size) (w1 := w1) (css := css) (cs := ruleCells r ub un ut uk) (vo := .slice Ao k co) (by rw [HKN.out]; exact HCL.out) (by rw [HKN.out]; exact own_below HOWN.out hb1) (fun i cs q h1 h2 => (HEA.out i cs q h1 h2).below hb1) HND.out HBL.out hor hnd (by have h1 := HSZ.out; have h3 := GB.out; have h4 := O0.out.lt; show w.heap.size + 1 + 1 ≤ wa.heap.size; omega) (by rw [HKN.out]; exact hown3) hg3
        have hzz := GB.out
        have ne : ∀ m, m < w.heap.size + 1 + 1 → some m ≠ (Value.slice Ao k co).ownBlock := fun m hm e => by have h1 := (OWN1.out.lt _ e.symm).1; omega
        have bq3 := ((((BQ.out.below DR.out).below hb1).alloc (.cells #[.string r.name, .int .i64 r.kind, .int .i64 r.size, .bool r.little, ub, un, ut, uk] 30)).grown hg3 (ne _ (by omega))).setOther ⟨G, 0, none⟩ (by show w.heap.size + 1 ≠ G; omega) (.slice A' (k + 1) c')
        have bo3 : Box (w3.setCell ⟨G, 0, none⟩ (.slice A' (k + 1) c')) G 35 #[.slice A' (k + 1) c'] := (BOX1.out w3 hg3).set 0 _
        have hbw1 := Below.then_ (Below.then_ HB.out DR.out (Nat.le_refl _)) hb1 (Nat.le_refl _)
        have hbw3 : Below w.heap.size w w3 := (hbw1.alloc hbw1.size (.cells #[.string r.name, .int .i64 r.kind, .int .i64 r.size, .bool r.little, ub, un, ut, uk] 30)).grown hg3 (by have := hbw1.size; simp; omega) (fun m hm => by have h1 := (OWN1.out.lt _ hm).1; omega)
        have HBZ := Lib.hid (below_set (j := 0) hbw3 (show w.heap.size ≤ G by omega) (.slice A' (k + 1) c'))
        have hszz : w0.heap.size ≤ (w3.setCell ⟨G, 0, none⟩ (.slice A' (k + 1) c')).heap.size := by
          have h1 := Nat.le_trans HSZ.out (show wa.heap.size ≤ w1.heap.size from hb1.size)
          have h2 := hg3.size
          simp [World.setCell] at h2 ⊢
          omega
        have HP := Lib.hid (push.setBox (u := .slice A' (k + 1) c') (BOX1.out w3 hg3))
        have BQ3 := Lib.hid bq3
        have BO3 := Lib.hid bo3
        have HSZZ := Lib.hid hszz
        clear push hzz ne bq3 bo3 hbw1 hbw3 hszz hown3 hg3 hor hnd hb1 x2 x3 s3 f3 D0 D1 D2 D3 D4 D5 D6 D7 x1
        go_wp2_with fail
        go_roundw
        case rel => exact ⟨k + 1, by omega, by go_num, ⟨A', c', BO3.out, by rw [HTK.out]; exact HP.out⟩, BQ3.out, HBZ.out, HSZZ.out⟩
        case measure => simp [intOf]; omega
    · obtain rfl : k = n := by omega
      have x1 : wr.cell? ⟨G, 0, none⟩ = some (.slice Ao k co) := bo.cell 0
      have x2 : wr.cell? ⟨w.heap.size + 1, 0, none⟩ = some (.slice none 0 0) := bq.cell 0
      have f2 : wr.frozen? ⟨w.heap.size + 1, 0, none⟩ = false := bq.frozen 0
      have HOR := Lib.hid hor
      have HB := Lib.hid hbr
      clear hor bo bq hbr hsz
      go_wp2_with fail
      refine bodyPost_ret (v := .agg #[.slice Ao k co]) (by simp [results, Tryz.results54, go_sem, x2]) rfl ?_
      refine ⟨_, rfl, ?_, below_set (j := 0) HB.out (show w.heap.size ≤ w.heap.size + 1 by omega) _⟩
      have h := HOR.out
      rw [HN.out, List.take_length] at h
      rw [HN.out]
      exact (h.setFar (w.heap.size + 1) 0 _ (by omega)).mono (by omega)

end Go.Proofs.YtkjjgpkegihmhaaGreatDoor

namespace Go.Proofs.YtkjjgpkegihmhaaGreatDoor
open Go.RowKit
set_option linter.unusedVariables false

theorem own_ne_type {w : World} {lo lo' : Nat} {e e' : TypeId} {size size' n n' : Nat} {v v' : Value} {xs xs' : List Value} (h : w.ownsRow lo e size v n xs) (h' : w.ownsRow lo' e' size' v' n' xs') (hne : e ≠ e') : v.ownBlock = none ∨ v.ownBlock ≠ v'.ownBlock := by
  rcases h'.2 with ⟨rfl, _⟩ | ⟨g, cap, cur, rfl, _, hg, _⟩
  · cases hv : v.ownBlock with
    | none => exact .inl rfl
    | some k => exact .inr (by simp [Value.ownBlock])
  · exact .inr (own_type h hg hne)

def rCells (r : RuleD) (vb vn vt vk : Value) : Array Value := #[.string r.name, .int .i64 r.kind, .int .i64 r.size, .bool r.little, vb, vn, vt, vk]
structure Rows4 (w : World) (lo : Nat) (r : RuleD) (vb vn vt vk : Value) : Prop where
  b : w.ownsRow lo 5 1 vb r.bytes.length (cB r.bytes)
  n : w.ownsRow lo 9 1 vn r.names.length (cS r.names)
  t : w.ownsRow lo 3 1 vt r.tags.length (cI r.tags)
  k : w.ownsRow lo 3 1 vk r.kids.length (cI r.kids)
  tk : vt.ownBlock = none ∨ vt.ownBlock ≠ vk.ownBlock
theorem Rows4.below {w w' : World} {lo : Nat} {r : RuleD} {vb vn vt vk : Value} (h : Rows4 w lo r vb vn vt vk) (hb : Below w.heap.size w w') : Rows4 w' lo r vb vn vt vk :=
  ⟨own_below h.b hb, own_below h.n hb, own_below h.t hb, own_below h.k hb, h.tk⟩
theorem Rows4.alloc {w : World} {lo : Nat} {r : RuleD} {vb vn vt vk : Value} (h : Rows4 w lo r vb vn vt vk) (ob : Obj) : Rows4 (w.alloc ob) lo r vb vn vt vk := h.below ((Below.refl _ _).alloc (Nat.le_refl _) _)
theorem Rows4.rule {w : World} {lo : Nat} {r : RuleD} {vb vn vt vk : Value} (h : Rows4 w lo r vb vn vt vk) : RdRule w (ruleCells r vb vn vt vk) r :=
  ⟨vb, vn, vt, vk, rfl, Rd.of_own h.b, Rd.of_own h.n, Rd.of_own h.t, Rd.of_own h.k⟩
theorem Rows4.setBox {w : World} {lo g j : Nat} {r : RuleD} {vb vn vt vk u : Value} {cs : Array Value} (h : Rows4 w lo r vb vn vt vk) (hx : Box w g 30 cs) : Rows4 (w.setCell ⟨g, j, none⟩ u) lo r vb vn vt vk := by
  have hk : w.grownBy (w.setCell ⟨g, j, none⟩ u) (some g) := by
    refine ⟨rfl, rfl, rfl, by simp [World.setCell], fun i hi hne => ?_⟩
    exact heap_setCell_other w ⟨g, j, none⟩ i u (fun e => hne (by rw [e]))
  exact ⟨h.b.kept hk (.inr (own_type h.b hx (by decide))), h.n.kept hk (.inr (own_type h.n hx (by decide))), h.t.kept hk (.inr (own_type h.t hx (by decide))), h.k.kept hk (.inr (own_type h.k hx (by decide))), h.tk⟩

structure PSt (w2 : World) (gr : Nat) (r : RuleD) (w : World) : Prop where
  st : ∃ vb vn vt vk, Box w gr 30 (rCells r vb vn vt vk) ∧ Rows4 w w2.heap.size r vb vn vt vk
  ge : w2.heap.size ≤ gr
  be : Below w2.heap.size w2 w
section
variable {w2 w w' : World} {gr : Nat} {r : RuleD}
theorem PSt.step (h : PSt w2 gr r w) (hb : Below w.heap.size w w') : PSt w2 gr r w' := by
  obtain ⟨vb, vn, vt, vk, hx, h4⟩ := h.st
  exact ⟨⟨vb, vn, vt, vk, hx.below hb, h4.below hb⟩, h.ge, h.be.trans (hb.mono h.be.size)⟩
theorem Rows4.pushKid {lo : Nat} {vb vn vt vk v' : Value} {ob : Obj} {k : Int} (h : Rows4 w lo r vb vn vt vk) (ho : w'.ownsRow lo 3 1 v' (r.kids.length + 1) (cI r.kids ++ cI [k]))
    (hg : (w.alloc ob).grownBy w' vk.ownBlock) (hp : v'.ownBlock = vk.ownBlock ∨ v'.ownBlock = some (w.alloc ob).heap.size) : Rows4 w' lo { r with kids := r.kids ++ [k] } vb vn vt v' := by
  have ha := h.alloc ob
  refine ⟨ha.b.kept hg (own_ne_type ha.b ha.k (by decide)), ha.n.kept hg (own_ne_type ha.n ha.k (by decide)), ha.t.kept hg ha.tk, ?_, ?_⟩
  · simpa [cI] using ho
  · rcases hp with e | e
    · rw [e]; exact h.tk
    · rw [e]
      cases hv : vt.ownBlock with
      | none => exact .inl rfl
      | some g =>
        refine .inr fun e2 => ?_
        have := (h.t.lt g hv).2
        have e3 : g = (w.alloc ob).heap.size := by simpa using e2
        simp at e3
        omega
theorem Rows4.pushTag {lo : Nat} {vb vn vt vk v' : Value} {ob : Obj} {k : Int} (h : Rows4 w lo r vb vn vt vk) (ho : w'.ownsRow lo 3 1 v' (r.tags.length + 1) (cI r.tags ++ cI [k]))
    (hg : (w.alloc ob).grownBy w' vt.ownBlock) (hp : v'.ownBlock = vt.ownBlock ∨ v'.ownBlock = some (w.alloc ob).heap.size) : Rows4 w' lo { r with tags := r.tags ++ [k] } vb vn v' vk := by
  have ha := h.alloc ob
  have hkt : vk.ownBlock = none ∨ vk.ownBlock ≠ vt.ownBlock := by
    rcases h.tk with e | e
    · rw [e]
      cases hv : vk.ownBlock with
      | none => exact .inl rfl
      | some g => exact .inr (by simp)
    · exact .inr (Ne.symm e)
  refine ⟨ha.b.kept hg (own_ne_type ha.b ha.t (by decide)), ha.n.kept hg (own_ne_type ha.n ha.t (by decide)), ?_, ha.k.kept hg hkt, ?_⟩
  · simpa [cI] using ho
  · rcases hp with e | e
    · rw [e]; exact h.tk
    · rw [e]
      refine .inr fun e2 => ?_
      have := (h.k.lt _ e2.symm).2
      simp at this
      omega
theorem Rows4.pushName {lo : Nat} {vb vn vt vk v' : Value} {ob : Obj} {s : ByteArray} (h : Rows4 w lo r vb vn vt vk) (ho : w'.ownsRow lo 9 1 v' (r.names.length + 1) (cS r.names ++ cS [s]))
    (hg : (w.alloc ob).grownBy w' vn.ownBlock) : Rows4 w' lo { r with names := r.names ++ [s] } vb v' vt vk := by
  have ha := h.alloc ob
  refine ⟨ha.b.kept hg (own_ne_type ha.b ha.n (by decide)), ?_, ha.t.kept hg (own_ne_type ha.t ha.n (by decide)), ha.k.kept hg (own_ne_type ha.k ha.n (by decide)), h.tk⟩
  simpa [cS] using ho
end

def Keep (w w' : World) : Prop := ∀ k T cs, T ≠ 5 → T ≠ 9 → T ≠ 3 → T ≠ 30 → Box w k T cs → Box w' k T cs
theorem Keep.trans {a b c : World} (h : Keep a b) (h' : Keep b c) : Keep a c := fun k T cs h1 h2 h3 h4 hx => h' k T cs h1 h2 h3 h4 (h k T cs h1 h2 h3 h4 hx)
theorem Keep.below {w w' : World} (h : Below w.heap.size w w') : Keep w w' := fun _ _ _ _ _ _ _ hx => hx.below h
theorem Keep.alloc (w : World) (ob : Obj) : Keep w (w.alloc ob) := fun _ _ _ _ _ _ _ hx => hx.alloc ob
theorem Keep.grown {w w' : World} {lo : Nat} {e : TypeId} {size n : Nat} {v : Value} {xs : List Value} (h : w.ownsRow lo e size v n xs) (he : e = 9 ∨ e = 3) (hg : w.grownBy w' v.ownBlock) : Keep w w' := fun k T cs _ h2 h3 _ hx =>
  hx.grown hg (fun e' => own_type h hx (by rcases he with rfl | rfl; exact Ne.symm h2; exact Ne.symm h3) e'.symm)
theorem Keep.set {w : World} {gr j : Nat} {u : Value} {cs : Array Value} (hb : Box w gr 30 cs) : Keep w (w.setCell ⟨gr, j, none⟩ u) := fun k T cs' _ _ _ h4 hx =>
  hx.setOther ⟨gr, j, none⟩ (fun e => by
    have e' : k = gr := e
    subst e'
    have a : w.heap[k]? = some (.cells cs' T (0, 0)) := hx
    have b : w.heap[k]? = some (.cells cs 30 (0, 0)) := hb
    rw [a] at b
    injection b with b
    injection b with _ b
    exact h4 b) u

end Go.Proofs.YtkjjgpkegihmhaaGreatDoor

namespace Go.Proofs.YtkjjgpkegihmhaaGreatDoor
open Go.RowKit
set_option linter.unusedVariables false

def rZ : RuleD := ⟨⟨#[]⟩, 0, 0, false, [], [], [], []⟩
def MadeR (o : Option RuleD) (w : World) (e : Ending) (w' : World) : Prop :=
  ∃ vb vn vt vk, e = .returned (.tuple #[.agg (rCells (o.getD rZ) vb vn vt vk), .bool o.isSome]) ∧ Rows4 w' w.heap.size (o.getD rZ) vb vn vt vk ∧ Below w.heap.size w w'
section
variable {w w' w2 wx : World} {lo gr : Nat} {r : RuleD} {vb vn vt vk : Value} {o : Option RuleD}
theorem Rows4.mono {lo' : Nat} (h : Rows4 w lo r vb vn vt vk) (hl : lo' ≤ lo) : Rows4 w lo' r vb vn vt vk := ⟨own_mono h.b hl, own_mono h.n hl, own_mono h.t hl, own_mono h.k hl, h.tk⟩
theorem Rows4.own (h : Rows4 w lo r vb vn vt vk) : OwnRule w lo (ruleCells r vb vn vt vk) r := ⟨vb, vn, vt, vk, rfl, h.b, h.n, h.t, h.k⟩
theorem Rows4.nodup (h : Rows4 w lo r vb vn vt vk) : (blocks (ruleCells r vb vn vt vk)).Nodup := by
  rw [blocks_rule]
  have n1 := own_ne_type h.b h.n (by decide)
  have n2 := own_ne_type h.b h.t (by decide)
  have n3 := own_ne_type h.b h.k (by decide)
  have n4 := own_ne_type h.n h.t (by decide)
  have n5 := own_ne_type h.n h.k (by decide)
  have n6 := h.tk
  unfold blocks
  revert n1 n2 n3 n4 n5 n6
  cases hb : vb.ownBlock <;> cases hn : vn.ownBlock <;> cases ht : vt.ownBlock <;> cases hk : vk.ownBlock <;> simp [List.filterMap, hb, hn, ht, hk] <;> intros <;> simp_all
theorem Rows4.nil (w : World) (lo : Nat) {r : RuleD} (h1 : r.bytes = []) (h2 : r.names = []) (h3 : r.tags = []) (h4 : r.kids = []) : Rows4 w lo r (.slice none 0 0) (.slice none 0 0) (.slice none 0 0) (.slice none 0 0) := by
  refine ⟨?_, ?_, ?_, ?_, .inl rfl⟩
  · rw [h1]; exact World.ownsRow_nil w lo _ 1
  · rw [h2]; exact World.ownsRow_nil w lo _ 1
  · rw [h3]; exact World.ownsRow_nil w lo _ 1
  · rw [h4]; exact World.ownsRow_nil w lo _ 1
theorem PSt.start (h1 : r.bytes = []) (h2 : r.names = []) (h3 : r.tags = []) (h4 : r.kids = []) (hx : Box wx gr 30 (rCells r (.slice none 0 0) (.slice none 0 0) (.slice none 0 0) (.slice none 0 0)))
    (hg : w2.heap.size ≤ gr) (hb : Below w2.heap.size w2 wx) : PSt w2 gr r wx := ⟨⟨_, _, _, _, hx, Rows4.nil wx _ h1 h2 h3 h4⟩, hg, hb⟩
theorem MadeR.yes (ho : o = some r) (h : Rows4 w' w.heap.size r vb vn vt vk) (hb : Below w.heap.size w w') : MadeR o w (.returned (.tuple #[.agg (rCells r vb vn vt vk), .bool true])) w' := by
  subst ho; exact ⟨_, _, _, _, rfl, h, hb⟩
theorem MadeR.no (ho : o = none) (hb : Below w.heap.size w w') : MadeR o w (.returned (.tuple #[.agg (rCells rZ (.slice none 0 0) (.slice none 0 0) (.slice none 0 0) (.slice none 0 0)), .bool false])) w' := by
  subst ho; exact ⟨_, _, _, _, rfl, Rows4.nil _ _ rfl rfl rfl rfl, hb⟩
theorem Box.all8 {g : Nat} {t : TypeId} {a0 a1 a2 a3 a4 a5 a6 a7 b0 b1 b2 b3 b4 b5 b6 b7 : Value} (h : Box w g t #[a0, a1, a2, a3, a4, a5, a6, a7]) :
    Box ((((((((w.setCell ⟨g, 0, none⟩ b0).setCell ⟨g, 1, none⟩ b1).setCell ⟨g, 2, none⟩ b2).setCell ⟨g, 3, none⟩ b3).setCell ⟨g, 4, none⟩ b4).setCell ⟨g, 5, none⟩ b5).setCell ⟨g, 6, none⟩ b6).setCell ⟨g, 7, none⟩ b7) g t #[b0, b1, b2, b3, b4, b5, b6, b7] := by
  have h0 : Box (w.setCell ⟨g, 0, none⟩ b0) g t #[b0, a1, a2, a3, a4, a5, a6, a7] := by have := h.set 0 b0; simpa using this
  have h1 : Box ((w.setCell ⟨g, 0, none⟩ b0).setCell ⟨g, 1, none⟩ b1) g t #[b0, b1, a2, a3, a4, a5, a6, a7] := by have := h0.set 1 b1; simpa using this
  have h2 : Box (((w.setCell ⟨g, 0, none⟩ b0).setCell ⟨g, 1, none⟩ b1).setCell ⟨g, 2, none⟩ b2) g t #[b0, b1, b2, a3, a4, a5, a6, a7] := by have := h1.set 2 b2; simpa using this
  have h3 : Box ((((w.setCell ⟨g, 0, none⟩ b0).setCell ⟨g, 1, none⟩ b1).setCell ⟨g, 2, none⟩ b2).setCell ⟨g, 3, none⟩ b3) g t #[b0, b1, b2, b3, a4, a5, a6, a7] := by have := h2.set 3 b3; simpa using this
  have h4 : Box (((((w.setCell ⟨g, 0, none⟩ b0).setCell ⟨g, 1, none⟩ b1).setCell ⟨g, 2, none⟩ b2).setCell ⟨g, 3, none⟩ b3).setCell ⟨g, 4, none⟩ b4) g t #[b0, b1, b2, b3, b4, a5, a6, a7] := by have := h3.set 4 b4; simpa using this
  have h5 : Box ((((((w.setCell ⟨g, 0, none⟩ b0).setCell ⟨g, 1, none⟩ b1).setCell ⟨g, 2, none⟩ b2).setCell ⟨g, 3, none⟩ b3).setCell ⟨g, 4, none⟩ b4).setCell ⟨g, 5, none⟩ b5) g t #[b0, b1, b2, b3, b4, b5, a6, a7] := by have := h4.set 5 b5; simpa using this
  have h6 : Box (((((((w.setCell ⟨g, 0, none⟩ b0).setCell ⟨g, 1, none⟩ b1).setCell ⟨g, 2, none⟩ b2).setCell ⟨g, 3, none⟩ b3).setCell ⟨g, 4, none⟩ b4).setCell ⟨g, 5, none⟩ b5).setCell ⟨g, 6, none⟩ b6) g t #[b0, b1, b2, b3, b4, b5, b6, a7] := by have := h5.set 6 b6; simpa using this
  have h7 : Box ((((((((w.setCell ⟨g, 0, none⟩ b0).setCell ⟨g, 1, none⟩ b1).setCell ⟨g, 2, none⟩ b2).setCell ⟨g, 3, none⟩ b3).setCell ⟨g, 4, none⟩ b4).setCell ⟨g, 5, none⟩ b5).setCell ⟨g, 6, none⟩ b6).setCell ⟨g, 7, none⟩ b7) g t #[b0, b1, b2, b3, b4, b5, b6, b7] := by have := h6.set 7 b7; simpa using this
  exact h7
theorem Below.all8 {B g : Nat} {w0 w : World} (h : Below B w0 w) (hg : B ≤ g) (b0 b1 b2 b3 b4 b5 b6 b7 : Value) :
    Below B w0 ((((((((w.setCell ⟨g, 0, none⟩ b0).setCell ⟨g, 1, none⟩ b1).setCell ⟨g, 2, none⟩ b2).setCell ⟨g, 3, none⟩ b3).setCell ⟨g, 4, none⟩ b4).setCell ⟨g, 5, none⟩ b5).setCell ⟨g, 6, none⟩ b6).setCell ⟨g, 7, none⟩ b7) :=
  below_set (below_set (below_set (below_set (below_set (below_set (below_set (below_set h hg _) hg _) hg _) hg _) hg _) hg _) hg _) hg _
end

end Go.Proofs.YtkjjgpkegihmhaaGreatDoor

namespace Go.Proofs.YtkjjgpkegihmhaaGreatDoor
open Go.RowKit
set_option linter.unusedVariables false

section
variable {w w0 W : World} {base K : Nat} {T : TypeId}
theorem Box.drew {g : Nat} {t : TypeId} {cs : Array Value} (h : Box w g t cs) : Box w.drew g t cs := h
theorem box_new0 (w : World) (t : TypeId) (cs : Array Value) : Box (w.alloc (.cells cs t)) w.heap.size t cs := Box.new w t cs
theorem box_new1 (w : World) (o : Obj) (t : TypeId) (cs : Array Value) : Box ((w.alloc o).alloc (.cells cs t)) (w.heap.size + 1) t cs := by
  have h := Box.new (w.alloc o) t cs
  rwa [show (w.alloc o).heap.size = w.heap.size + 1 by simp] at h
theorem box_new2 (w : World) (o o' : Obj) (t : TypeId) (cs : Array Value) : Box (((w.alloc o).alloc o').alloc (.cells cs t)) (w.heap.size + 1 + 1) t cs := by
  have h := Box.new ((w.alloc o).alloc o') t cs
  rwa [show ((w.alloc o).alloc o').heap.size = w.heap.size + 1 + 1 by simp] at h
theorem Box.grown_own {w8 : World} {lo size n : Nat} {e : TypeId} {v : Value} {xs : List Value} {cs : Array Value} (h : Box W K T cs) (ho : W.ownsRow lo e size v n xs) (hne : e ≠ T) (hg : W.grownBy w8 v.ownBlock) : Box w8 K T cs := h.grown hg (fun e => own_type ho h hne e.symm)
theorem own_empty {size : Nat} (h : Box W K T #[]) (hb : base ≤ K) : W.ownsRow base T size (.slice (some ⟨K, 0, none⟩) 0 0) 0 [] :=
  ⟨by simp, .inr ⟨K, 0, #[], rfl, hb, h, Nat.le_refl _, Nat.zero_le _, by simp, by simp⟩⟩
theorem rd_box8 {a0 a1 a2 a3 a4 a5 a6 a7 : Value} (h : Box W K T #[a0, a1, a2, a3, a4, a5, a6, a7]) : Rd W (.slice (some ⟨K, 0, none⟩) 1 1) 8 1 [a0, a1, a2, a3, a4, a5, a6, a7] := by
  have ho : W.ownsRow 0 T 8 (.slice (some ⟨K, 0, none⟩) 1 1) 1 [a0, a1, a2, a3, a4, a5, a6, a7] := ⟨by simp, .inr ⟨K, 1, _, rfl, Nat.zero_le _, h, Nat.le_refl _, by unfold maxLen; omega, by simp, by simp⟩⟩
  exact Rd.of_own ho
theorem RdRules.flat {A : Option Addr} {c : Nat} {l : List RuleD} (h : RdRules w (.slice A l.length c) l) :
    ∃ css : List (List Value), css.length = l.length ∧ (∀ (i : Nat) (cs : List Value) (r : RuleD), css[i]? = some cs → l[i]? = some r → RdRule w cs r) ∧ Rd w (.slice A l.length c) 8 l.length css.flatten ∧ ∀ u ∈ css.flatten, u.oneCell' = true := by
  obtain ⟨A', c', e, h1, h2, h3⟩ := h
  injection e with e1 _ e3
  subst e1; subst e3
  rcases Nat.eq_zero_or_pos l.length with h0 | h0
  · refine ⟨[], by simp [h0], by simp, ⟨by simp [h0], A, c, rfl, h1, h2, by simp⟩, by simp⟩
  · obtain ⟨b, off, hA, h4⟩ := h3 h0
    have key : ∃ f : Nat → List Value, ∀ (i : Nat) (h : i < l.length), RdRule w (f i) l[i] ∧ w.rangeAt b (off + i * 8) (f i) := by
      refine ⟨fun i => if h : i < l.length then (h4 i h).choose else [], fun i h => ?_⟩
      simp only [dif_pos h]
      exact (h4 i h).choose_spec
    obtain ⟨f, hf⟩ := key
    have hget : ∀ (i : Nat) (cs : List Value), ((List.range l.length).map f)[i]? = some cs → i < l.length ∧ cs = f i := by
      intro i cs hi
      obtain ⟨hlt, he⟩ := List.getElem?_eq_some_iff.1 hi
      simp at hlt he
      exact ⟨hlt, he.symm⟩
    have h8 : ∀ cs ∈ (List.range l.length).map f, cs.length = 8 := by
      intro cs hc
      obtain ⟨i, hi, rfl⟩ := List.mem_map.1 hc
      exact (hf i (List.mem_range.1 hi)).1.len
    have hfl : ((List.range l.length).map f).flatten.length = l.length * 8 := by rw [flat_len h8]; simp
    refine ⟨(List.range l.length).map f, by simp, fun i cs r hi hr => ?_, ⟨hfl, A, c, rfl, h1, h2, fun _ => ⟨b, off, hA, fun j u hu => ?_⟩⟩, fun u hu => ?_⟩
    · obtain ⟨hlt, rfl⟩ := hget i cs hi
      rw [List.getElem?_eq_getElem hlt] at hr
      injection hr with hr
      rw [← hr]
      exact (hf i hlt).1
    · have hj : j < l.length * 8 := by rw [← hfl]; exact (List.getElem?_eq_some_iff.1 hu).1
      have hi : j / 8 < l.length := by omega
      have hj8 : j % 8 < 8 := by omega
      have e : j = j / 8 * 8 + j % 8 := by omega
      have hfi : ((List.range l.length).map f)[j / 8]? = some (f (j / 8)) := by simp [hi]
      rw [e, flat_at h8 hfi _ hj8] at hu
      have := (hf (j / 8) hi).2 (j % 8) u hu
      rw [Nat.add_assoc, ← e] at this
      exact this
    · obtain ⟨cs, hc, hu⟩ := List.mem_flatten.1 hu
      obtain ⟨i, hi, rfl⟩ := List.mem_map.1 hc
      exact rule_oneCell' (hf i (List.mem_range.1 hi)).1 u hu
theorem RdRules.of_flat {v : Value} {l : List RuleD} {css : List (List Value)} (hl : css.length = l.length) (hown : w.ownsRow base T 8 v l.length css.flatten)
    (hr : ∀ (i : Nat) (cs : List Value) (r : RuleD), css[i]? = some cs → l[i]? = some r → RdRule w cs r) : RdRules w v l := by
  have h8 : ∀ cs ∈ css, cs.length = 8 := by
    intro cs hc
    obtain ⟨i, hi, rfl⟩ := List.getElem_of_mem hc
    exact (hr i css[i] l[i] (List.getElem?_eq_getElem hi) (List.getElem?_eq_getElem (by omega))).len
  obtain ⟨_, A, c, rfl, h1, h2, h3⟩ := Rd.of_own hown
  refine ⟨A, c, rfl, h1, h2, fun hp => ?_⟩
  obtain ⟨b, off, hA, hc⟩ := h3 (by rw [flat_len h8, hl]; omega)
  refine ⟨b, off, hA, fun i hi => ⟨css[i], hr i css[i] l[i] (List.getElem?_eq_getElem (by omega)) (List.getElem?_eq_getElem hi), fun j u hu => ?_⟩⟩
  have hj : j < 8 := by
    have := (List.getElem?_eq_some_iff.1 hu).1
    rwa [h8 _ (List.getElem_mem _)] at this
  rw [Nat.add_assoc]
  exact hc _ u (by rw [flat_at h8 (List.getElem?_eq_getElem (show i < css.length by omega)) j hj]; exact hu)

structure Both (w : World) (l : List RuleD) (r : RuleD) (css : List (List Value)) (rc : List Value) : Prop where
  ln : css.length = l.length
  all : ∀ (i : Nat) (cs : List Value) (r : RuleD), css[i]? = some cs → l[i]? = some r → RdRule w cs r
  one : RdRule w rc r
theorem Both.longer {l : List RuleD} {r : RuleD} {css : List (List Value)} {rc : List Value} {v : Value} (h : Both w0 l r css rc) (hb : Below w0.heap.size w0 W) (hown : W.ownsRow base T 8 v (l.length + 1) (css.flatten ++ rc)) : RdRules W v (l ++ [r]) := by
  refine RdRules.of_flat (T := T) (base := base) (css := css ++ [rc]) (by simp [h.ln]) (by rw [List.flatten_append, List.length_append]; simpa using hown) ?_
  intro i cs q hi hq
  rcases Nat.lt_or_ge i css.length with h1 | h1
  · rw [List.getElem?_append_left h1] at hi
    rw [List.getElem?_append_left (by rw [← h.ln]; exact h1)] at hq
    exact (h.all i cs q hi hq).below hb
  · rw [List.getElem?_append_right h1] at hi
    rw [List.getElem?_append_right (by rw [← h.ln]; exact h1)] at hq
    have h2 : i - css.length = 0 := by
      have := (List.getElem?_eq_some_iff.1 hi).1
      simp at this; omega
    have h3 : i - l.length = 0 := by rw [← h.ln]; exact h2
    rw [h2] at hi
    rw [h3] at hq
    simp at hi hq
    subst hi; subst hq
    exact h.one.below hb

theorem Rows4.all8 {lo g : Nat} {r : RuleD} {vb vn vt vk a0 a1 a2 a3 a4 a5 a6 a7 b0 b1 b2 b3 b4 b5 b6 b7 : Value} (h : Rows4 w lo r vb vn vt vk) (hx : Box w g 30 #[a0, a1, a2, a3, a4, a5, a6, a7]) :
    Rows4 ((((((((w.setCell ⟨g, 0, none⟩ b0).setCell ⟨g, 1, none⟩ b1).setCell ⟨g, 2, none⟩ b2).setCell ⟨g, 3, none⟩ b3).setCell ⟨g, 4, none⟩ b4).setCell ⟨g, 5, none⟩ b5).setCell ⟨g, 6, none⟩ b6).setCell ⟨g, 7, none⟩ b7) lo r vb vn vt vk := by
  have r0 := h.setBox (u := b0) (j := 0) hx
  have h0 : Box (w.setCell ⟨g, 0, none⟩ b0) g 30 #[b0, a1, a2, a3, a4, a5, a6, a7] := by have := hx.set 0 b0; simpa using this
  have r1 := r0.setBox (u := b1) (j := 1) h0
  have h1 : Box ((w.setCell ⟨g, 0, none⟩ b0).setCell ⟨g, 1, none⟩ b1) g 30 #[b0, b1, a2, a3, a4, a5, a6, a7] := by have := h0.set 1 b1; simpa using this
  have r2 := r1.setBox (u := b2) (j := 2) h1
  have h2 : Box (((w.setCell ⟨g, 0, none⟩ b0).setCell ⟨g, 1, none⟩ b1).setCell ⟨g, 2, none⟩ b2) g 30 #[b0, b1, b2, a3, a4, a5, a6, a7] := by have := h1.set 2 b2; simpa using this
  have r3 := r2.setBox (u := b3) (j := 3) h2
  have h3 : Box ((((w.setCell ⟨g, 0, none⟩ b0).setCell ⟨g, 1, none⟩ b1).setCell ⟨g, 2, none⟩ b2).setCell ⟨g, 3, none⟩ b3) g 30 #[b0, b1, b2, b3, a4, a5, a6, a7] := by have := h2.set 3 b3; simpa using this
  have r4 := r3.setBox (u := b4) (j := 4) h3
  have h4 : Box (((((w.setCell ⟨g, 0, none⟩ b0).setCell ⟨g, 1, none⟩ b1).setCell ⟨g, 2, none⟩ b2).setCell ⟨g, 3, none⟩ b3).setCell ⟨g, 4, none⟩ b4) g 30 #[b0, b1, b2, b3, b4, a5, a6, a7] := by have := h3.set 4 b4; simpa using this
  have r5 := r4.setBox (u := b5) (j := 5) h4
  have h5 : Box ((((((w.setCell ⟨g, 0, none⟩ b0).setCell ⟨g, 1, none⟩ b1).setCell ⟨g, 2, none⟩ b2).setCell ⟨g, 3, none⟩ b3).setCell ⟨g, 4, none⟩ b4).setCell ⟨g, 5, none⟩ b5) g 30 #[b0, b1, b2, b3, b4, b5, a6, a7] := by have := h4.set 5 b5; simpa using this
  have r6 := r5.setBox (u := b6) (j := 6) h5
  have h6 : Box (((((((w.setCell ⟨g, 0, none⟩ b0).setCell ⟨g, 1, none⟩ b1).setCell ⟨g, 2, none⟩ b2).setCell ⟨g, 3, none⟩ b3).setCell ⟨g, 4, none⟩ b4).setCell ⟨g, 5, none⟩ b5).setCell ⟨g, 6, none⟩ b6) g 30 #[b0, b1, b2, b3, b4, b5, b6, a7] := by have := h5.set 6 b6; simpa using this
  have r7 := r6.setBox (u := b7) (j := 7) h6
  exact r7
structure OwnAll (w : World) (lo : Nat) (l : List RuleD) (css : List (List Value)) : Prop where
  ln : css.length = l.length
  all : ∀ (i : Nat) (cs : List Value) (r : RuleD), css[i]? = some cs → l[i]? = some r → OwnRule w lo cs r
theorem OwnAll.below {lo : Nat} {l : List RuleD} {css : List (List Value)} (h : OwnAll w lo l css) (hb : Below w.heap.size w W) : OwnAll W lo l css := ⟨h.ln, fun i cs r h1 h2 => (h.all i cs r h1 h2).below hb⟩
theorem OwnAll.kept {lo g : Nat} {l : List RuleD} {css : List (List Value)} {T : TypeId} {cur : Array Value} (h : OwnAll w lo l css) (hk : w.grownBy W (some g)) (hg : Box w g T cur) (h1 : 5 ≠ T) (h2 : 9 ≠ T) (h3 : 3 ≠ T) : OwnAll W lo l css :=
  ⟨h.ln, fun i cs r a b => (h.all i cs r a b).kept hk hg h1 h2 h3⟩
theorem OwnAll.grown {lo lo' n : Nat} {l : List RuleD} {css : List (List Value)} {v : Value} {xs : List Value} (h : OwnAll w lo l css) (hown : w.ownsRow lo' 30 8 v n xs) (hk : w.grownBy W v.ownBlock) : OwnAll W lo l css := by
  refine ⟨h.ln, fun i cs r a b => ?_⟩
  have hq := h.all i cs r a b
  cases hv : v.ownBlock with
  | none => rw [hv] at hk; exact hq.kept_row hk (fun b _ e => by cases e)
  | some g =>
    rw [hv] at hk
    rcases hown.2 with ⟨e, _⟩ | ⟨g', cap', cur, e, _, hh, _⟩
    · rw [e] at hv; cases hv
    · have : g' = g := by rw [e] at hv; simpa [Value.ownBlock] using hv
      subst this
      exact hq.kept hk hh (by decide) (by decide) (by decide)
theorem OwnAll.push {lo : Nat} {l : List RuleD} {css : List (List Value)} {r : RuleD} {rc : List Value} (h : OwnAll w lo l css) (hr : OwnRule w lo rc r) : OwnAll w lo (l ++ [r]) (css ++ [rc]) := by
  refine ⟨by simp [h.ln], fun i cs q hi hq => ?_⟩
  rcases Nat.lt_or_ge i css.length with h1 | h1
  · rw [List.getElem?_append_left h1] at hi
    rw [List.getElem?_append_left (by rw [← h.ln]; exact h1)] at hq
    exact h.all i cs q hi hq
  · rw [List.getElem?_append_right h1] at hi
    rw [List.getElem?_append_right (by rw [← h.ln]; exact h1)] at hq
    have h2 : i - css.length = 0 := by
      have := (List.getElem?_eq_some_iff.1 hi).1
      simp at this; omega
    have h3 : i - l.length = 0 := by rw [← h.ln]; exact h2
    rw [h2] at hi
    rw [h3] at hq
    simp at hi hq
    subst hi; subst hq
    exact hr
theorem OwnAll.rd {lo : Nat} {l : List RuleD} {css : List (List Value)} {v : Value} (h : OwnAll w lo l css) (hown : w.ownsRow base T 8 v l.length css.flatten) : RdRules w v l :=
  RdRules.of_flat h.ln hown fun i cs r a b => (h.all i cs r a b).rd
theorem grown_setCell (w : World) (g j : Nat) (u : Value) : w.grownBy (w.setCell ⟨g, j, none⟩ u) (some g) := ⟨rfl, rfl, rfl, by simp [World.setCell], fun i _ hne => heap_setCell_other w ⟨g, j, none⟩ i u (fun e => hne (by simp [e]))⟩
theorem Rows4.keptBox {lo g : Nat} {r : RuleD} {vb vn vt vk : Value} {T : TypeId} {cur : Array Value} (h : Rows4 w lo r vb vn vt vk) (hk : w.grownBy W (some g)) (hg : Box w g T cur) (h1 : 5 ≠ T) (h2 : 9 ≠ T) (h3 : 3 ≠ T) : Rows4 W lo r vb vn vt vk :=
  ⟨h.b.kept hk (.inr (own_type h.b hg h1)), h.n.kept hk (.inr (own_type h.n hg h2)), h.t.kept hk (.inr (own_type h.t hg h3)), h.k.kept hk (.inr (own_type h.k hg h3)), h.tk⟩

def LSt (w0 : World) (l : List RuleD) (r : RuleD) (gl : Nat) (wx : World) : Prop :=
  ∃ A c, Box wx gl 35 #[.slice A (l.length + 1) c] ∧ RdRules wx (.slice A (l.length + 1) c) (l ++ [r]) ∧ Below w0.heap.size w0 wx
theorem LSt.new {l : List RuleD} {r : RuleD} {css : List (List Value)} {rc : List Value} {A : Option Addr} {c : Nat} (h : Both w0 l r css rc) (hb : Below w0.heap.size w0 W) (hown : W.ownsRow base T 8 (.slice A (l.length + 1) c) (l.length + 1) (css.flatten ++ rc)) :
    LSt w0 l r W.heap.size (W.alloc (.cells #[.slice A (l.length + 1) c] 35)) :=
  ⟨A, c, Box.new _ _ _, (h.longer hb hown).below ((Below.refl _ _).alloc (Nat.le_refl _) _), hb.alloc hb.size _⟩
theorem LSt.set {l : List RuleD} {r : RuleD} {css : List (List Value)} {rc : List Value} {A : Option Addr} {c gl : Nat} (h : Both w0 l r css rc) (hb : Below w0.heap.size w0 W) (hown : W.ownsRow base 30 8 (.slice A (l.length + 1) c) (l.length + 1) (css.flatten ++ rc))
    {u : Value} (hg : Box W gl 35 #[u]) (hl : w0.heap.size ≤ gl) : LSt w0 l r gl (W.setCell ⟨gl, 0, none⟩ (.slice A (l.length + 1) c)) := by
  have hk : W.grownBy (W.setCell ⟨gl, 0, none⟩ (.slice A (l.length + 1) c)) (some gl) := ⟨rfl, rfl, rfl, by simp [World.setCell], fun i _ hne => heap_setCell_other W ⟨gl, 0, none⟩ i _ (fun e => hne (by simp [e]))⟩
  have hb' := below_set (j := 0) hb hl (.slice A (l.length + 1) c)
  refine ⟨A, c, hg.set 0 _, h.longer (base := base) (T := 30) hb' (hown.kept hk (.inr (own_type hown hg (by decide)))), hb'⟩
end

end Go.Proofs.YtkjjgpkegihmhaaGreatDoor

namespace Go.Proofs.YtkjjgpkegihmhaaGreatDoor
open Go.RowKit
set_option linter.unusedVariables false

def kidsL (l : List RuleD) : List ByteArray → Option (List Int)
  | [] => some []
  | w :: ws => if 0 ≤ findL l w then (kidsL l ws).map (findL l w :: ·) else none
theorem kidsL_append (l : List RuleD) (a b : List ByteArray) : kidsL l (a ++ b) = (kidsL l a).bind fun x => (kidsL l b).map (x ++ ·) := by
  induction a with
  | nil => simp [kidsL]
  | cons w a ih =>
    simp only [List.cons_append, kidsL]
    split
    · rw [ih]
      cases kidsL l a with
      | none => rfl
      | some x =>
        cases kidsL l b with
        | none => rfl
        | some y => rfl
    · rfl
theorem kidsL_step {l : List RuleD} {ws : List ByteArray} {q : Nat} {ks : List Int} (h : q < ws.length) (hk : kidsL l (ws.take q) = some ks) (h0 : 0 ≤ findL l ws[q]) : kidsL l (ws.take (q + 1)) = some (ks ++ [findL l ws[q]]) := by
  rw [List.take_succ_eq_append_getElem h, kidsL_append, hk]
  simp [kidsL, h0]
theorem kidsL_bad {l : List RuleD} {ws : List ByteArray} {q : Nat} {ks : List Int} (h : q < ws.length) (hk : kidsL l (ws.take q) = some ks) (h0 : ¬ 0 ≤ findL l ws[q]) : kidsL l ws = none := by
  rw [← List.take_append_drop q ws, kidsL_append, hk, List.drop_eq_getElem_cons h]
  simp [kidsL, h0]
theorem kidsL_len {l : List RuleD} {ws : List ByteArray} {ks : List Int} (h : kidsL l ws = some ks) : ks.length = ws.length := by
  induction ws generalizing ks with
  | nil => simp [kidsL] at h; simp [← h]
  | cons w ws ih =>
    simp only [kidsL] at h
    split at h
    · obtain ⟨x, hx, rfl⟩ := Option.map_eq_some_iff.1 h
      simp [ih hx]
    · cases h
def kidsP (l : List RuleD) (r : RuleD) (ws : List ByteArray) : Option RuleD := (kidsL l ws).map fun ks => { r with kids := r.kids ++ ks }

def partP (l : List RuleD) (r : RuleD) (s : ByteArray) : Option RuleD :=
  if cutOk s.data.toList 58 = true ∧ 0 ≤ findL l (mkS (cutRight s.data.toList 58)) then
    if r.kind = 6 then some { r with kids := r.kids ++ [findL l (mkS (cutRight s.data.toList 58))], names := r.names ++ [mkS (cutLeft s.data.toList 58)] } else
    if parseOk (cutLeft s.data.toList 58) = true then some { r with kids := r.kids ++ [findL l (mkS (cutRight s.data.toList 58))], tags := r.tags ++ [parseNum (cutLeft s.data.toList 58)] } else none
  else none

def partsP (l : List RuleD) : RuleD → List ByteArray → Option RuleD
  | r, [] => some r
  | r, s :: ws => (partP l r s).bind fun r' => partsP l r' ws
theorem partsP_append (l : List RuleD) (a b : List ByteArray) : ∀ r, partsP l r (a ++ b) = (partsP l r a).bind fun r' => partsP l r' b := by
  induction a with
  | nil => intro r; rfl
  | cons s a ih =>
    intro r
    simp only [List.cons_append, partsP]
    cases partP l r s with
    | none => rfl
    | some r' => exact ih r'
theorem partP_len {l : List RuleD} {r r' : RuleD} {s : ByteArray} (h : partP l r s = some r') : r'.kids.length ≤ r.kids.length + 1 ∧ r'.names.length ≤ r.names.length + 1 ∧ r'.tags.length ≤ r.tags.length + 1 := by
  unfold partP at h
  split at h
  · split at h
    · injection h with h; subst h; simp
    · split at h
      · injection h with h; subst h; simp
      · cases h
  · cases h
theorem partsP_len {l : List RuleD} {ws : List ByteArray} : ∀ {r r' : RuleD}, partsP l r ws = some r' → r'.kids.length ≤ r.kids.length + ws.length ∧ r'.names.length ≤ r.names.length + ws.length ∧ r'.tags.length ≤ r.tags.length + ws.length := by
  induction ws with
  | nil => intro r r' h; injection h with h; subst h; simp
  | cons s ws ih =>
    intro r r' h
    simp only [partsP] at h
    obtain ⟨x, hx, h⟩ := Option.bind_eq_some_iff.1 h
    have h1 := partP_len hx
    have h2 := ih h
    simp only [List.length_cons]
    omega
theorem partsP_step {l : List RuleD} {r r1 r2 : RuleD} {ws : List ByteArray} {q : Nat} (h : q < ws.length) (h1 : partsP l r (ws.take q) = some r1) (h2 : partP l r1 ws[q] = some r2) : partsP l r (ws.take (q + 1)) = some r2 := by
  rw [List.take_succ_eq_append_getElem h, partsP_append, h1]
  simp [partsP, h2]
theorem partsP_bad {l : List RuleD} {r r1 : RuleD} {ws : List ByteArray} {q : Nat} (h : q < ws.length) (h1 : partsP l r (ws.take q) = some r1) (h2 : partP l r1 ws[q] = none) : partsP l r ws = none := by
  rw [← List.take_append_drop q ws, partsP_append, h1, List.drop_eq_getElem_cons h]
  simp [partsP, h2]

def littleS : ByteArray := ⟨#[108, 105, 116, 116, 108, 101]⟩
def numP (r : RuleD) : List ByteArray → Option RuleD
  | [] => none
  | x :: ws => if parseOk x.data.toList = true then some { r with size := parseNum x.data.toList, little := decide (ws.head? = some littleS) } else none
def hexP (r : RuleD) : List ByteArray → Option RuleD
  | [] => none
  | x :: _ => if parseBOk x.data.toList = true then some { r with bytes := parseB x.data.toList } else none
def choiceP (l : List RuleD) (r : RuleD) (ws : List ByteArray) : Option RuleD := if ws = [] then none else (kidsP l r (ws.take 1)).bind fun r' => partsP l r' (ws.drop 1)
def fieldsP (l : List RuleD) (r : RuleD) (ws : List ByteArray) : Option RuleD :=
  if r.kind = 1 ∨ r.kind = 3 then numP r ws else
  if r.kind = 2 ∨ r.kind = 10 then hexP r ws else
  if r.kind = 4 ∨ r.kind = 5 ∨ r.kind = 8 ∨ r.kind = 9 then kidsP l r ws else
  if r.kind = 6 then partsP l r ws else
  if r.kind = 7 then choiceP l r ws else none
theorem fields_num {l : List RuleD} {r : RuleD} {ws : List ByteArray} (h : r.kind = 1 ∨ r.kind = 3) : fieldsP l r ws = numP r ws := by unfold fieldsP; rw [if_pos h]
theorem fields_hex {l : List RuleD} {r : RuleD} {ws : List ByteArray} (h : r.kind = 2 ∨ r.kind = 10) : fieldsP l r ws = hexP r ws := by unfold fieldsP; rw [if_neg (by omega), if_pos h]
theorem fields_kids {l : List RuleD} {r : RuleD} {ws : List ByteArray} (h : r.kind = 4 ∨ r.kind = 5 ∨ r.kind = 8 ∨ r.kind = 9) : fieldsP l r ws = kidsP l r ws := by unfold fieldsP; rw [if_neg (by omega), if_neg (by omega), if_pos h]
theorem fields_parts {l : List RuleD} {r : RuleD} {ws : List ByteArray} (h : r.kind = 6) : fieldsP l r ws = partsP l r ws := by unfold fieldsP; rw [if_neg (by omega), if_neg (by omega), if_neg (by omega), if_pos h]
theorem fields_choice {l : List RuleD} {r : RuleD} {ws : List ByteArray} (h : r.kind = 7) : fieldsP l r ws = choiceP l r ws := by unfold fieldsP; rw [if_neg (by omega), if_neg (by omega), if_neg (by omega), if_neg (by omega), if_pos h]
theorem fields_no {l : List RuleD} {r : RuleD} {ws : List ByteArray} (h : ¬ (1 ≤ r.kind ∧ r.kind ≤ 10)) : fieldsP l r ws = none := by unfold fieldsP; rw [if_neg (by omega), if_neg (by omega), if_neg (by omega), if_neg (by omega), if_neg (by omega)]

end Go.Proofs.YtkjjgpkegihmhaaGreatDoor

namespace Go.Proofs.YtkjjgpkegihmhaaGreatDoor
open Go.RowKit
set_option linter.unusedVariables false

theorem kindNat_inj : ∀ i : Fin 10, ∀ j : Fin 10, kindNat (i.val + 1) = kindNat (j.val + 1) → i = j := by decide
def kindUpto (s : ByteArray) (k : Nat) : Int := (List.range k).foldl (fun a (j : Nat) => if kindNat (j + 1) = s then (j : Int) + 1 else a) 0
def kindOf (s : ByteArray) : Int := kindUpto s 10
theorem kindUpto_step (s : ByteArray) (k : Nat) : kindUpto s (k + 1) = if kindNat (k + 1) = s then (k : Int) + 1 else kindUpto s k := by
  unfold kindUpto
  rw [List.range_succ, List.foldl_append]
  rfl
theorem kindUpto_none {s : ByteArray} {k : Nat} (h : ∀ j, j < k → kindNat (j + 1) ≠ s) : kindUpto s k = 0 := by
  induction k with
  | zero => rfl
  | succ k ih => rw [kindUpto_step, if_neg (h k (by omega)), ih fun j hj => h j (by omega)]
theorem kindUpto_at {s : ByteArray} {k j : Nat} (hk : k ≤ 10) (hj : j < k) (h : kindNat (j + 1) = s) : kindUpto s k = (j : Int) + 1 := by
  induction k with
  | zero => omega
  | succ k ih =>
    rw [kindUpto_step]
    by_cases e : j = k
    · subst e; rw [if_pos h]
    · have hne : kindNat (k + 1) ≠ s := by
        intro h2
        have := kindNat_inj ⟨j, by omega⟩ ⟨k, by omega⟩ (h.trans h2.symm)
        exact e (by simpa using congrArg Fin.val this)
      rw [if_neg hne]
      exact ih (by omega) (by omega)
theorem kindUpto_range (s : ByteArray) (k : Nat) : 0 ≤ kindUpto s k ∧ kindUpto s k ≤ (k : Int) := by
  induction k with
  | zero => exact ⟨Int.le_refl _, Int.le_refl _⟩
  | succ k ih => rw [kindUpto_step]; split <;> omega
theorem kindOf_range (s : ByteArray) : 0 ≤ kindOf s ∧ kindOf s ≤ 10 := kindUpto_range s 10
theorem kindName_nat (k : Nat) : kindName ((k : Int) + 1) = kindNat (k + 1) := by
  unfold kindName
  congr 1
theorem kind_isName {k : Int} (h1 : 1 ≤ k) (h3 : k ≤ 10) : isName (kindName k).data.toList = true := by
  unfold kindName
  have hd : ∀ a < 11, 1 ≤ a → isName (kindNat a).data.toList = true := by decide
  exact hd k.toNat (by omega) (by omega)

end Go.Proofs.YtkjjgpkegihmhaaGreatDoor
