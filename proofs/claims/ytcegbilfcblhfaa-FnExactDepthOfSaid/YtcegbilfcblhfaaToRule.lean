/-
  toRule, toRuleS, toDescription: a copy of a description, in new memory.
-/
import Derived.Test.YtcegbilfcblhfaaProg
import Derived.Test.YtcegbilfcblhfaaRule
import Derived.Test.YtcegbilfcblhfaaToString
import Derived.Test.YtcegbilfcblhfaaToByte
import Derived.Test.YtcegbilfcblhfaaToInt
import Derived.WalkKit
import Derived.WalkSpells
import Derived.WalkLawsBesides
import Derived.Lib.Hide
namespace Go.Proofs.Ytcegbilfcblhfaa
open Go.RowKit

/-- Three blocks, one behind the other, each known whole. -/
def Three (w : World) (B : Nat) (t1 t2 t3 : TypeId) (b1 b2 b3 : Array Value) : Prop :=
  w.heap[B]? = some (.cells b1 t1 (0, 0)) ∧ w.heap[B + 1]? = some (.cells b2 t2 (0, 0)) ∧ w.heap[B + 1 + 1]? = some (.cells b3 t3 (0, 0))
section
variable {w w' : World} {B : Nat} {t1 t2 t3 : TypeId} {b1 b2 b3 : Array Value}
theorem Three.new (w : World) (t1 t2 t3 : TypeId) (b1 b2 b3 : Array Value) : Three (((w.alloc (.cells b1 t1)).alloc (.cells b2 t2)).alloc (.cells b3 t3)) w.heap.size t1 t2 t3 b1 b2 b3 := by
  refine ⟨?_, ?_, ?_⟩
  · rw [Below.heap_alloc _ _ _ (by simp; omega), Below.heap_alloc _ _ _ (by simp)]; exact heap_alloc_new w _
  · rw [Below.heap_alloc _ _ _ (by simp)]
    have := heap_alloc_new (w.alloc (.cells b1 t1)) (.cells b2 t2)
    simpa using this
  · have := heap_alloc_new ((w.alloc (.cells b1 t1)).alloc (.cells b2 t2)) (.cells b3 t3)
    simpa using this
theorem Three.lt (h : Three w B t1 t2 t3 b1 b2 b3) : B + 1 + 1 < w.heap.size := (Array.getElem?_eq_some_iff.1 h.2.2).1
theorem Three.below (h : Three w B t1 t2 t3 b1 b2 b3) (hb : Below w.heap.size w w') : Three w' B t1 t2 t3 b1 b2 b3 := by
  have hl := h.lt
  exact ⟨(hb.block _ (by omega)).trans h.1, (hb.block _ (by omega)).trans h.2.1, (hb.block _ hl).trans h.2.2⟩
theorem Three.set (h : Three w B t1 t2 t3 b1 b2 b3) (j : Nat) (v : Value) : Three (w.setCell ⟨B + 1 + 1, j, none⟩ v) B t1 t2 t3 b1 b2 (b3.setIfInBounds j v) := by
  refine ⟨?_, ?_, ?_⟩
  · rw [heap_setCell_other w ⟨B + 1 + 1, j, none⟩ B v (by show B ≠ B + 1 + 1; omega)]; exact h.1
  · rw [heap_setCell_other w ⟨B + 1 + 1, j, none⟩ (B + 1) v (by show B + 1 ≠ B + 1 + 1; omega)]; exact h.2.1
  · have := h.2.2
    simp [World.setCell, Array.getElem?_modify, this]
theorem Three.box (h : Three w B t1 t2 t3 b1 b2 b3) (j : Nat) : w.cell? ⟨B, j, none⟩ = b1[j]? := cell_of_row w B j b1 t1 (0, 0) h.1
theorem Three.res (h : Three w B t1 t2 t3 b1 b2 b3) (j : Nat) : w.cell? ⟨B + 1, j, none⟩ = b2[j]? := cell_of_row w (B + 1) j b2 t2 (0, 0) h.2.1
theorem Three.out (h : Three w B t1 t2 t3 b1 b2 b3) (j : Nat) : w.cell? ⟨B + 1 + 1, j, none⟩ = b3[j]? := cell_of_row w (B + 1 + 1) j b3 t3 (0, 0) h.2.2
theorem Three.fre (h : Three w B t1 t2 t3 b1 b2 b3) (j : Nat) : w.frozen? ⟨B + 1, j, none⟩ = false ∧ w.frozen? ⟨B + 1 + 1, j, none⟩ = false := by
  obtain ⟨h1, h2, h3⟩ := h
  exact ⟨by simp [World.frozen?, h2], by simp [World.frozen?, h3]⟩
end

/-- A new rule. -/
def MadeRule (r : RuleD) (w : World) (e : Ending) (w' : World) : Prop :=
  ∃ vb vn vt vk, e = .returned (.agg #[.string r.name, .int .i64 r.kind, .int .i64 r.size, .bool r.little, vb, vn, vt, vk]) ∧ OwnRule w' w.heap.size (ruleCells r vb vn vt vk) r ∧ (blocks (ruleCells r vb vn vt vk)).Nodup ∧ Below w.heap.size w w'

theorem blocks_nodup {r : RuleD} {vb vn vt vk : Value} {a b c d e : Nat} (h1 : ∀ k, vb.ownBlock = some k → a ≤ k ∧ k < b) (h2 : ∀ k, vn.ownBlock = some k → b ≤ k ∧ k < c) (h3 : ∀ k, vt.ownBlock = some k → c ≤ k ∧ k < d) (h4 : ∀ k, vk.ownBlock = some k → d ≤ k ∧ k < e)
    (hc : b ≤ c) (hd : c ≤ d) : (blocks (ruleCells r vb vn vt vk)).Nodup := by
  rw [blocks_rule]
  unfold blocks
  cases e1 : vb.ownBlock <;> cases e2 : vn.ownBlock <;> cases e3 : vt.ownBlock <;> cases e4 : vk.ownBlock <;> simp [e1, e2, e3, e4] <;>
    (try have g1 := h1 _ e1) <;> (try have g2 := h2 _ e2) <;> (try have g3 := h3 _ e3) <;> (try have g4 := h4 _ e4) <;> omega

theorem own_set {w : World} {base : Nat} {e : TypeId} {size n g j : Nat} {v u : Value} {xs : List Value} (h : w.ownsRow base e size v n xs) (hg : g < base) : (w.setCell ⟨g, j, none⟩ u).ownsRow base e size v n xs :=
  h.kept (row := some g) ⟨rfl, rfl, rfl, by simp [World.setCell], fun i _ hne => heap_setCell_other w ⟨g, j, none⟩ i u (fun e => hne (by simp [e]))⟩ (by
    right; intro e
    have := (h.lt g e).1
    omega)

/-- The world behind the last stores. -/
theorem own_nine {w : World} {base B : Nat} {e : TypeId} {size n : Nat} {v : Value} {xs : List Value} (h : w.ownsRow base e size v n xs) (h1 : B + 1 + 1 < base) (u u0 u1 u2 u3 u4 u5 u6 u7 : Value) :
    (((((((((w.setCell ⟨B + 1 + 1, 7, none⟩ u).setCell ⟨B + 1, 0, none⟩ u0).setCell ⟨B + 1, 1, none⟩ u1).setCell ⟨B + 1, 2, none⟩ u2).setCell ⟨B + 1, 3, none⟩ u3).setCell ⟨B + 1, 4, none⟩ u4).setCell ⟨B + 1, 5, none⟩ u5).setCell ⟨B + 1, 6, none⟩ u6).setCell ⟨B + 1, 7, none⟩ u7).ownsRow base e size v n xs :=
  have h2 : B + 1 < base := by omega
  own_set (own_set (own_set (own_set (own_set (own_set (own_set (own_set (own_set h h1) h2) h2) h2) h2) h2) h2) h2) h2
theorem below_nine {w0 w : World} {B : Nat} (h : Below B w0 w) (u u0 u1 u2 u3 u4 u5 u6 u7 : Value) :
    Below B w0 (((((((((w.setCell ⟨B + 1 + 1, 7, none⟩ u).setCell ⟨B + 1, 0, none⟩ u0).setCell ⟨B + 1, 1, none⟩ u1).setCell ⟨B + 1, 2, none⟩ u2).setCell ⟨B + 1, 3, none⟩ u3).setCell ⟨B + 1, 4, none⟩ u4).setCell ⟨B + 1, 5, none⟩ u5).setCell ⟨B + 1, 6, none⟩ u6).setCell ⟨B + 1, 7, none⟩ u7) :=
  have h1 : B ≤ B + 1 + 1 := by omega
  have h2 : B ≤ B + 1 := by omega
  ((((((((h.setCell (p := ⟨B + 1 + 1, 7, none⟩) h1 u).setCell (p := ⟨B + 1, 0, none⟩) h2 u0).setCell (p := ⟨B + 1, 1, none⟩) h2 u1).setCell (p := ⟨B + 1, 2, none⟩) h2 u2).setCell (p := ⟨B + 1, 3, none⟩) h2 u3).setCell (p := ⟨B + 1, 4, none⟩) h2 u4).setCell (p := ⟨B + 1, 5, none⟩) h2 u5).setCell (p := ⟨B + 1, 6, none⟩) h2 u6).setCell (p := ⟨B + 1, 7, none⟩) h2 u7

set_option maxHeartbeats 4000000 in
theorem l_toRule (r : RuleD) (vb vn vt vk : Value) (hs : r.bytes.length ≤ 1048576 ∧ r.names.length ≤ 1048576 ∧ r.tags.length ≤ 1048576 ∧ r.kids.length ≤ 1048576) (w : World) (h : RdRule w (ruleCells r vb vn vt vk) r) :
    Calls Try.prog 72 #[.agg #[.string r.name, .int .i64 r.kind, .int .i64 r.size, .bool r.little, vb, vn, vt, vk]] w (MadeRule r w) := by
  obtain ⟨vb', vn', vt', vk', e, hb, hn, ht, hk⟩ := h
  unfold ruleCells at e
  injection e with _ e; injection e with _ e; injection e with _ e; injection e with _ e; injection e with e1 e; injection e with e2 e; injection e with e3 e; injection e with e4 _
  subst e1; subst e2; subst e3; subst e4
  obtain ⟨hs1, hs2, hs3, hs4⟩ := hs
  have HB := Lib.hid hb
  have HN := Lib.hid hn
  have HT := Lib.hid ht
  have HK := Lib.hid hk
  clear hb hn ht hk
  go_enter Try.func72, Try.ntmps72
  go_wp2_with fail
  have hb0 : Below w.heap.size w (((w.alloc (.cells #[.string r.name, .int .i64 r.kind, .int .i64 r.size, .bool r.little, vb, vn, vt, vk] 70)).alloc (.cells #[.string ⟨#[]⟩, .int .i64 0, .int .i64 0, .bool false, .slice none 0 0, .slice none 0 0, .slice none 0 0, .slice none 0 0] 56)).alloc (.cells #[.string r.name, .int .i64 r.kind, .int .i64 r.size, .bool r.little, .slice none 0 0, .slice none 0 0, .slice none 0 0, .slice none 0 0] 56)) := (((Below.refl _ _).alloc (Nat.le_refl _) _).alloc (by simp) _).alloc (by simp; omega) _
  have T0 := Three.new w 70 56 56 #[.string r.name, .int .i64 r.kind, .int .i64 r.size, .bool r.little, vb, vn, vt, vk] #[.string ⟨#[]⟩, .int .i64 0, .int .i64 0, .bool false, .slice none 0 0, .slice none 0 0, .slice none 0 0, .slice none 0 0] #[.string r.name, .int .i64 r.kind, .int .i64 r.size, .bool r.little, .slice none 0 0, .slice none 0 0, .slice none 0 0, .slice none 0 0]
  have HT0 := Lib.hid T0
  have HB0 := Lib.hid hb0
  clear T0 hb0
  refine (l_toByteS vb r.bytes (by omega) _ (HB.out.below HB0.out)).mono ?_
  rintro e w1 ⟨u1, rfl, ho1, hb1⟩
  obtain ⟨A1, p1, rfl⟩ : ∃ A c, u1 = .slice A r.bytes.length c := by
    obtain ⟨_, A, c, h, _⟩ := Rd.of_own ho1
    exact ⟨A, c, h⟩
  have T1 := HT0.out.below hb1
  have hb1' := Below.then_ HB0.out hb1 (Nat.le_refl _)
  have hz1 := T1.lt
  have c1 : w1.cell? ⟨w.heap.size, 5, none⟩ = some vn := T1.box 5
  have c2 : w1.cell? ⟨w.heap.size + 1 + 1, 4, none⟩ = some (.slice none 0 0) := T1.out 4
  have f1 := (T1.fre 4).2
  have T1' := T1.set 4 (.slice A1 r.bytes.length p1)
  have hb1s := hb1'.setCell (p := ⟨w.heap.size + 1 + 1, 4, none⟩) (by show w.heap.size ≤ w.heap.size + 1 + 1; omega) (.slice A1 r.bytes.length p1)
  have HO1 := Lib.hid ho1
  have HT1 := Lib.hid T1'
  have HB1 := Lib.hid hb1s
  have hsz0 : w.heap.size + 3 ≤ w1.heap.size := by omega
  clear ho1 T1 T1' hb1s hb1' hb1
  go_wp2_with fail
  refine (l_toStringS vn r.names (by omega) _ (HN.out.below HB1.out)).mono ?_
  rintro e w2 ⟨u2, rfl, ho2, hb2⟩
  obtain ⟨A2, p2, rfl⟩ : ∃ A c, u2 = .slice A r.names.length c := by
    obtain ⟨_, A, c, h, _⟩ := Rd.of_own ho2
    exact ⟨A, c, h⟩
  have T2 := HT1.out.below hb2
  have hb2' := Below.then_ HB1.out hb2 (Nat.le_refl _)
  have hsz2 : w1.heap.size ≤ w2.heap.size := by have := hb2.size; simpa [World.setCell] using this
  have hz2 := T2.lt
  have d1 : w2.cell? ⟨w.heap.size, 6, none⟩ = some vt := T2.box 6
  have d2 : w2.cell? ⟨w.heap.size + 1 + 1, 5, none⟩ = some (.slice none 0 0) := T2.out 5
  have f2 := (T2.fre 5).2
  have T2' := T2.set 5 (.slice A2 r.names.length p2)
  have hb2s := hb2'.setCell (p := ⟨w.heap.size + 1 + 1, 5, none⟩) (by show w.heap.size ≤ w.heap.size + 1 + 1; omega) (.slice A2 r.names.length p2)
  have HO2 := Lib.hid ho2
  have HO12 := Lib.hid (own_below (own_set HO1.out (g := w.heap.size + 1 + 1) (j := 4) (u := .slice A1 r.bytes.length p1) (by simp)) hb2)
  have HT2 := Lib.hid T2'
  have HB2 := Lib.hid hb2s
  clear c1 c2 f1 ho2 T2 T2' hb2s hb2' hb2
  go_wp2_with fail
  refine (l_toIntS vt r.tags (by omega) _ (HT.out.below HB2.out)).mono ?_
  rintro e w3 ⟨u3, rfl, ho3, hb3⟩
  obtain ⟨A3, p3, rfl⟩ : ∃ A c, u3 = .slice A r.tags.length c := by
    obtain ⟨_, A, c, h, _⟩ := Rd.of_own ho3
    exact ⟨A, c, h⟩
  have T3 := HT2.out.below hb3
  have hb3' := Below.then_ HB2.out hb3 (Nat.le_refl _)
  have hsz3 : w2.heap.size ≤ w3.heap.size := by have := hb3.size; simpa [World.setCell] using this
  have e1 : w3.cell? ⟨w.heap.size, 7, none⟩ = some vk := T3.box 7
  have e2 : w3.cell? ⟨w.heap.size + 1 + 1, 6, none⟩ = some (.slice none 0 0) := T3.out 6
  have f3 := (T3.fre 6).2
  have T3' := T3.set 6 (.slice A3 r.tags.length p3)
  have hb3s := hb3'.setCell (p := ⟨w.heap.size + 1 + 1, 6, none⟩) (by show w.heap.size ≤ w.heap.size + 1 + 1; omega) (.slice A3 r.tags.length p3)
  have HO3 := Lib.hid ho3
  have HO13 := Lib.hid (own_below (own_set HO12.out (g := w.heap.size + 1 + 1) (j := 5) (u := .slice A2 r.names.length p2) (by simp)) hb3)
  have HO23 := Lib.hid (own_below (own_set HO2.out (g := w.heap.size + 1 + 1) (j := 5) (u := .slice A2 r.names.length p2) (by simp [World.setCell]; omega)) hb3)
  have HT3 := Lib.hid T3'
  have HB3 := Lib.hid hb3s
  clear d1 d2 f2 ho3 T3 T3' hb3s hb3' hb3
  go_wp2_with fail
  refine (l_toIntS vk r.kids (by omega) _ (HK.out.below HB3.out)).mono ?_
  rintro e w4 ⟨u4, rfl, ho4, hb4⟩
  obtain ⟨A4, p4, rfl⟩ : ∃ A c, u4 = .slice A r.kids.length c := by
    obtain ⟨_, A, c, h, _⟩ := Rd.of_own ho4
    exact ⟨A, c, h⟩
  have T4 := HT3.out.below hb4
  have hb4' := Below.then_ HB3.out hb4 (Nat.le_refl _)
  have hsz4 : w3.heap.size ≤ w4.heap.size := by have := hb4.size; simpa [World.setCell] using this
  have HO4 := Lib.hid ho4
  have HO14 := Lib.hid (own_below (own_set HO13.out (g := w.heap.size + 1 + 1) (j := 6) (u := .slice A3 r.tags.length p3) (by simp)) hb4)
  have HO24 := Lib.hid (own_below (own_set HO23.out (g := w.heap.size + 1 + 1) (j := 6) (u := .slice A3 r.tags.length p3) (by simp [World.setCell]; omega)) hb4)
  have HO34 := Lib.hid (own_below (own_set HO3.out (g := w.heap.size + 1 + 1) (j := 6) (u := .slice A3 r.tags.length p3) (by simp [World.setCell]; omega)) hb4)
  have HB4 := Lib.hid hb4'
  have g0 : w4.cell? ⟨w.heap.size + 1 + 1, 0, none⟩ = some (.string r.name) := T4.out 0
  have g1 : w4.cell? ⟨w.heap.size + 1 + 1, 1, none⟩ = some (.int .i64 r.kind) := T4.out 1
  have g2 : w4.cell? ⟨w.heap.size + 1 + 1, 2, none⟩ = some (.int .i64 r.size) := T4.out 2
  have g3 : w4.cell? ⟨w.heap.size + 1 + 1, 3, none⟩ = some (.bool r.little) := T4.out 3
  have g4 : w4.cell? ⟨w.heap.size + 1 + 1, 4, none⟩ = some (.slice A1 r.bytes.length p1) := T4.out 4
  have g5 : w4.cell? ⟨w.heap.size + 1 + 1, 5, none⟩ = some (.slice A2 r.names.length p2) := T4.out 5
  have g6 : w4.cell? ⟨w.heap.size + 1 + 1, 6, none⟩ = some (.slice A3 r.tags.length p3) := T4.out 6
  have g7 : w4.cell? ⟨w.heap.size + 1 + 1, 7, none⟩ = some (.slice none 0 0) := T4.out 7
  have r0 : w4.cell? ⟨w.heap.size + 1, 0, none⟩ = some (.string ⟨#[]⟩) := T4.res 0
  have r1 : w4.cell? ⟨w.heap.size + 1, 1, none⟩ = some (.int .i64 0) := T4.res 1
  have r2 : w4.cell? ⟨w.heap.size + 1, 2, none⟩ = some (.int .i64 0) := T4.res 2
  have r3 : w4.cell? ⟨w.heap.size + 1, 3, none⟩ = some (.bool false) := T4.res 3
  have r4 : w4.cell? ⟨w.heap.size + 1, 4, none⟩ = some (.slice none 0 0) := T4.res 4
  have r5 : w4.cell? ⟨w.heap.size + 1, 5, none⟩ = some (.slice none 0 0) := T4.res 5
  have r6 : w4.cell? ⟨w.heap.size + 1, 6, none⟩ = some (.slice none 0 0) := T4.res 6
  have r7 : w4.cell? ⟨w.heap.size + 1, 7, none⟩ = some (.slice none 0 0) := T4.res 7
  have f4 := (T4.fre 7).2
  have q0 := (T4.fre 0).1
  have q1 := (T4.fre 1).1
  have q2 := (T4.fre 2).1
  have q3 := (T4.fre 3).1
  have q4 := (T4.fre 4).1
  have q5 := (T4.fre 5).1
  have q6 := (T4.fre 6).1
  have q7 := (T4.fre 7).1
  clear e1 e2 f3 ho4 T4 hb4' hb4
  go_wp2_with fail
  refine bodyPost_ret (v := .agg #[.string r.name, .int .i64 r.kind, .int .i64 r.size, .bool r.little, .slice A1 r.bytes.length p1, .slice A2 r.names.length p2, .slice A3 r.tags.length p3, .slice A4 r.kids.length p4]) (by simp [results, Try.results72, go_sem, r0, r1, r2, r3, r4, r5, r6, r7]) rfl ?_
  have lt1 : ∀ k, (Value.slice A1 r.bytes.length p1).ownBlock = some k → w.heap.size + 3 ≤ k ∧ k < w1.heap.size := fun k hk => by have := HO1.out.lt k hk; simp at this; omega
  have lt2 : ∀ k, (Value.slice A2 r.names.length p2).ownBlock = some k → w1.heap.size ≤ k ∧ k < w2.heap.size := fun k hk => by have := HO2.out.lt k hk; simpa [World.setCell] using this
  have lt3 : ∀ k, (Value.slice A3 r.tags.length p3).ownBlock = some k → w2.heap.size ≤ k ∧ k < w3.heap.size := fun k hk => by have := HO3.out.lt k hk; simpa [World.setCell] using this
  have lt4 : ∀ k, (Value.slice A4 r.kids.length p4).ownBlock = some k → w3.heap.size ≤ k ∧ k < w4.heap.size := fun k hk => by have := HO4.out.lt k hk; simpa [World.setCell] using this
  refine ⟨_, _, _, _, rfl, ⟨_, _, _, _, rfl, ?_, ?_, ?_, ?_⟩, blocks_nodup lt1 lt2 lt3 lt4 hsz2 hsz3, ?_⟩
  · exact own_mono (own_nine (own_mono (base' := w.heap.size + 3) HO14.out (by simp)) (by omega) _ _ _ _ _ _ _ _ _) (by omega)
  · exact own_mono (own_nine (own_mono (base' := w.heap.size + 3) HO24.out (by simp [World.setCell]; omega)) (by omega) _ _ _ _ _ _ _ _ _) (by omega)
  · exact own_mono (own_nine (own_mono (base' := w.heap.size + 3) HO34.out (by simp [World.setCell]; omega)) (by omega) _ _ _ _ _ _ _ _ _) (by omega)
  · exact own_mono (own_nine (own_mono (base' := w.heap.size + 3) HO4.out (by simp [World.setCell]; omega)) (by omega) _ _ _ _ _ _ _ _ _) (by omega)
  · exact below_nine HB4.out _ _ _ _ _ _ _ _ _

end Go.Proofs.Ytcegbilfcblhfaa
