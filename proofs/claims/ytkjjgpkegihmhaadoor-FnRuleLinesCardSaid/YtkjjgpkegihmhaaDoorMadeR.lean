/-
  What the parsers of rules leave: a rule of the call's own, with a yes or no.
-/
import Derived.Test.YtkjjgpkegihmhaaDoorPSt
import Derived.Test.YtkjjgpkegihmhaaDoorCopyDesc
namespace Go.Proofs.YtkjjgpkegihmhaaDoor
open Go.RowKit
set_option linter.unusedVariables false

/-- The zero rule. -/
def rZ : RuleD := ⟨⟨#[]⟩, 0, 0, false, [], [], [], []⟩
def MadeR (o : Option RuleD) (w : World) (e : Ending) (w' : World) : Prop :=
  ∃ vb vn vt vk, e = .returned (.tuple #[.agg (rCells (o.getD rZ) vb vn vt vk), .bool o.isSome]) ∧ Rows4 w' w.heap.size (o.getD rZ) vb vn vt vk ∧ Below w.heap.size w w'
section
variable {w w' w2 wx : World} {lo gr : Nat} {r : RuleD} {vb vn vt vk : Value} {o : Option RuleD}
theorem Rows4.mono {lo' : Nat} (h : Rows4 w lo r vb vn vt vk) (hl : lo' ≤ lo) : Rows4 w lo' r vb vn vt vk := ⟨own_mono h.b hl, own_mono h.n hl, own_mono h.t hl, own_mono h.k hl, h.tk⟩
theorem Rows4.own (h : Rows4 w lo r vb vn vt vk) : OwnRule w lo (ruleCells r vb vn vt vk) r := ⟨vb, vn, vt, vk, rfl, h.b, h.n, h.t, h.k⟩
theorem Rows4.nodup (h : Rows4 w lo r vb vn vt vk) : (blocks (ruleCells r vb vn vt vk)).Nodup := by
  rw [blocks_rule]
  have n1 := own_ne_type h.b h.n (by decide)
  have n2 := own_ne_type h.b h.t (by decide)
  have n3 := own_ne_type h.b h.k (by decide)
  have n4 := own_ne_type h.n h.t (by decide)
  have n5 := own_ne_type h.n h.k (by decide)
  have n6 := h.tk
  unfold blocks
  revert n1 n2 n3 n4 n5 n6
  cases hb : vb.ownBlock <;> cases hn : vn.ownBlock <;> cases ht : vt.ownBlock <;> cases hk : vk.ownBlock <;> simp [List.filterMap, hb, hn, ht, hk] <;> intros <;> simp_all
theorem Rows4.nil (w : World) (lo : Nat) {r : RuleD} (h1 : r.bytes = []) (h2 : r.names = []) (h3 : r.tags = []) (h4 : r.kids = []) : Rows4 w lo r (.slice none 0 0) (.slice none 0 0) (.slice none 0 0) (.slice none 0 0) := by
  refine ⟨?_, ?_, ?_, ?_, .inl rfl⟩
  · rw [h1]; exact World.ownsRow_nil w lo _ 1
  · rw [h2]; exact World.ownsRow_nil w lo _ 1
  · rw [h3]; exact World.ownsRow_nil w lo _ 1
  · rw [h4]; exact World.ownsRow_nil w lo _ 1
theorem PSt.start (h1 : r.bytes = []) (h2 : r.names = []) (h3 : r.tags = []) (h4 : r.kids = []) (hx : Box wx gr 43 (rCells r (.slice none 0 0) (.slice none 0 0) (.slice none 0 0) (.slice none 0 0)))
    (hg : w2.heap.size ≤ gr) (hb : Below w2.heap.size w2 wx) : PSt w2 gr r wx := ⟨⟨_, _, _, _, hx, Rows4.nil wx _ h1 h2 h3 h4⟩, hg, hb⟩
theorem MadeR.yes (ho : o = some r) (h : Rows4 w' w.heap.size r vb vn vt vk) (hb : Below w.heap.size w w') : MadeR o w (.returned (.tuple #[.agg (rCells r vb vn vt vk), .bool true])) w' := by
  subst ho; exact ⟨_, _, _, _, rfl, h, hb⟩
theorem MadeR.no (ho : o = none) (hb : Below w.heap.size w w') : MadeR o w (.returned (.tuple #[.agg (rCells rZ (.slice none 0 0) (.slice none 0 0) (.slice none 0 0) (.slice none 0 0)), .bool false])) w' := by
  subst ho; exact ⟨_, _, _, _, rfl, Rows4.nil _ _ rfl rfl rfl rfl, hb⟩
/-- The cells of a rule, stored over those of another. -/
theorem Box.all8 {g : Nat} {t : TypeId} {a0 a1 a2 a3 a4 a5 a6 a7 b0 b1 b2 b3 b4 b5 b6 b7 : Value} (h : Box w g t #[a0, a1, a2, a3, a4, a5, a6, a7]) :
    Box ((((((((w.setCell ⟨g, 0, none⟩ b0).setCell ⟨g, 1, none⟩ b1).setCell ⟨g, 2, none⟩ b2).setCell ⟨g, 3, none⟩ b3).setCell ⟨g, 4, none⟩ b4).setCell ⟨g, 5, none⟩ b5).setCell ⟨g, 6, none⟩ b6).setCell ⟨g, 7, none⟩ b7) g t #[b0, b1, b2, b3, b4, b5, b6, b7] := by
  have h0 : Box (w.setCell ⟨g, 0, none⟩ b0) g t #[b0, a1, a2, a3, a4, a5, a6, a7] := by have := h.set 0 b0; simpa using this
  have h1 : Box ((w.setCell ⟨g, 0, none⟩ b0).setCell ⟨g, 1, none⟩ b1) g t #[b0, b1, a2, a3, a4, a5, a6, a7] := by have := h0.set 1 b1; simpa using this
  have h2 : Box (((w.setCell ⟨g, 0, none⟩ b0).setCell ⟨g, 1, none⟩ b1).setCell ⟨g, 2, none⟩ b2) g t #[b0, b1, b2, a3, a4, a5, a6, a7] := by have := h1.set 2 b2; simpa using this
  have h3 : Box ((((w.setCell ⟨g, 0, none⟩ b0).setCell ⟨g, 1, none⟩ b1).setCell ⟨g, 2, none⟩ b2).setCell ⟨g, 3, none⟩ b3) g t #[b0, b1, b2, b3, a4, a5, a6, a7] := by have := h2.set 3 b3; simpa using this
  have h4 : Box (((((w.setCell ⟨g, 0, none⟩ b0).setCell ⟨g, 1, none⟩ b1).setCell ⟨g, 2, none⟩ b2).setCell ⟨g, 3, none⟩ b3).setCell ⟨g, 4, none⟩ b4) g t #[b0, b1, b2, b3, b4, a5, a6, a7] := by have := h3.set 4 b4; simpa using this
  have h5 : Box ((((((w.setCell ⟨g, 0, none⟩ b0).setCell ⟨g, 1, none⟩ b1).setCell ⟨g, 2, none⟩ b2).setCell ⟨g, 3, none⟩ b3).setCell ⟨g, 4, none⟩ b4).setCell ⟨g, 5, none⟩ b5) g t #[b0, b1, b2, b3, b4, b5, a6, a7] := by have := h4.set 5 b5; simpa using this
  have h6 : Box (((((((w.setCell ⟨g, 0, none⟩ b0).setCell ⟨g, 1, none⟩ b1).setCell ⟨g, 2, none⟩ b2).setCell ⟨g, 3, none⟩ b3).setCell ⟨g, 4, none⟩ b4).setCell ⟨g, 5, none⟩ b5).setCell ⟨g, 6, none⟩ b6) g t #[b0, b1, b2, b3, b4, b5, b6, a7] := by have := h5.set 6 b6; simpa using this
  have h7 : Box ((((((((w.setCell ⟨g, 0, none⟩ b0).setCell ⟨g, 1, none⟩ b1).setCell ⟨g, 2, none⟩ b2).setCell ⟨g, 3, none⟩ b3).setCell ⟨g, 4, none⟩ b4).setCell ⟨g, 5, none⟩ b5).setCell ⟨g, 6, none⟩ b6).setCell ⟨g, 7, none⟩ b7) g t #[b0, b1, b2, b3, b4, b5, b6, b7] := by have := h6.set 7 b7; simpa using this
  exact h7
theorem Below.all8 {B g : Nat} {w0 w : World} (h : Below B w0 w) (hg : B ≤ g) (b0 b1 b2 b3 b4 b5 b6 b7 : Value) :
    Below B w0 ((((((((w.setCell ⟨g, 0, none⟩ b0).setCell ⟨g, 1, none⟩ b1).setCell ⟨g, 2, none⟩ b2).setCell ⟨g, 3, none⟩ b3).setCell ⟨g, 4, none⟩ b4).setCell ⟨g, 5, none⟩ b5).setCell ⟨g, 6, none⟩ b6).setCell ⟨g, 7, none⟩ b7) :=
  below_set (below_set (below_set (below_set (below_set (below_set (below_set (below_set h hg _) hg _) hg _) hg _) hg _) hg _) hg _) hg _
end

end Go.Proofs.YtkjjgpkegihmhaaDoor
