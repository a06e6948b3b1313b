/-
  What the draws of rules leave: the cursor's block is written, the rest is new.
-/
import Derived.Test.YtkjjgpkegihmhaaGreatDoorDrawInt
import Derived.Test.YtkjjgpkegihmhaaGreatDoorDrawBytes
import Derived.Test.YtkjjgpkegihmhaaGreatDoorDrawPlain
import Derived.Test.YtkjjgpkegihmhaaGreatDoorGE
namespace Go.Proofs.YtkjjgpkegihmhaaGreatDoor
open Go.RowKit
set_option linter.unusedVariables false

section
variable {w w' a : World} {g b lo : Nat}
theorem Cur.box (h : Cur w g) : ∃ cs, Box w g 95 cs := by
  obtain ⟨A, n, c, i, h, hg, _⟩ := h
  exact ⟨_, hg⟩
theorem Box.drawn {T : TypeId} {cs : Array Value} (h : Box w b T cs) (hk : w.grownBy w' (some g)) (hne : b ≠ g) : Box w' b T cs := h.grown hk (fun e => hne (by injection e))
theorem own_drawn {e : TypeId} {size n : Nat} {v : Value} {xs : List Value} (h : w.ownsRow lo e size v n xs) (hc : Cur w g) (hk : w.grownBy w' (some g)) (hne : e ≠ 95) : w'.ownsRow lo e size v n xs := by
  obtain ⟨cs, hb⟩ := hc.box
  exact h.kept hk (.inr (own_type h hb hne))
theorem OwnRules.drawn {v : Value} {l : List RuleD} (h : OwnRules w lo v l) (hc : Cur w g) (hk : w.grownBy w' (some g)) : OwnRules w' lo v l := by
  obtain ⟨cs, hb⟩ := hc.box
  obtain ⟨css, hl, hown, hr, hn⟩ := h
  exact ⟨css, hl, hown.kept hk (.inr (own_type hown hb (by decide))), fun i c r h1 h2 => (hr i c r h1 h2).kept hk hb (by decide) (by decide) (by decide), hn⟩
theorem grown_of_below {row : Option Nat} (h : Below w.heap.size w w') : w.grownBy w' row := ⟨h.os, h.tape, h.output, h.size, fun k hk _ => h.block k hk⟩
theorem grown_then (h : a.grownBy w (some g)) (hb : Below w.heap.size w w') : a.grownBy w' (some g) :=
  ⟨hb.os.trans h.os, hb.tape.trans h.tape, hb.output.trans h.output, Nat.le_trans h.size hb.size, fun i hi hne => (hb.block i (Nat.lt_of_lt_of_le hi h.size)).trans (h.block i hi hne)⟩
theorem grown_new {j : Nat} {u : Value} (h : a.grownBy w (some g)) (hb : a.heap.size ≤ b) : a.grownBy (w.setCell ⟨b, j, none⟩ u) (some g) :=
  ⟨h.os, h.tape, h.output, by simpa [World.setCell] using h.size, fun i hi hne => (heap_setCell_other w ⟨b, j, none⟩ i u (by show i ≠ b; omega)).trans (h.block i hi hne)⟩
theorem Cur.new {j : Nat} {u : Value} (h : Cur w g) (hb : g < b) : Cur (w.setCell ⟨b, j, none⟩ u) g :=
  h.grown (grown_setCell w b j u) (fun e => by injection e with e; omega) (fun k hk e => by injection e with e; omega)
theorem grown_all8 {u0 u1 u2 u3 u4 u5 u6 u7 : Value} (h : a.grownBy w (some g)) (hb : a.heap.size ≤ b) : a.grownBy ((((((((w.setCell ⟨b, 0, none⟩ u0).setCell ⟨b, 1, none⟩ u1).setCell ⟨b, 2, none⟩ u2).setCell ⟨b, 3, none⟩ u3).setCell ⟨b, 4, none⟩ u4).setCell ⟨b, 5, none⟩ u5).setCell ⟨b, 6, none⟩ u6).setCell ⟨b, 7, none⟩ u7) (some g) :=
  grown_new (grown_new (grown_new (grown_new (grown_new (grown_new (grown_new (grown_new h hb) hb) hb) hb) hb) hb) hb) hb
theorem Cur.all8 {u0 u1 u2 u3 u4 u5 u6 u7 : Value} (h : Cur w g) (hb : g < b) : Cur ((((((((w.setCell ⟨b, 0, none⟩ u0).setCell ⟨b, 1, none⟩ u1).setCell ⟨b, 2, none⟩ u2).setCell ⟨b, 3, none⟩ u3).setCell ⟨b, 4, none⟩ u4).setCell ⟨b, 5, none⟩ u5).setCell ⟨b, 6, none⟩ u6).setCell ⟨b, 7, none⟩ u7) g :=
  (((((((h.new hb).new hb).new hb).new hb).new hb).new hb).new hb).new hb
end

def DrewR (k : Int) (l : List RuleD) (g : Nat) (w : World) (e : Ending) (w' : World) : Prop :=
  ∃ r vb vn vt vk, e = .returned (.agg (rCells r vb vn vt vk)) ∧ Rows4 w' w.heap.size r vb vn vt vk ∧ DrawnR l k r ∧ Cur w' g ∧ w.grownBy w' (some g)
theorem DrewR.mk_ {k : Int} {l : List RuleD} {g : Nat} {w w' : World} {r : RuleD} {vb vn vt vk : Value} (h4 : Rows4 w' w.heap.size r vb vn vt vk) (hd : DrawnR l k r) (hc : Cur w' g) (hg : w.grownBy w' (some g)) : DrewR k l g w (.returned (.agg (rCells r vb vn vt vk))) w' := ⟨r, vb, vn, vt, vk, rfl, h4, hd, hc, hg⟩
def makeNames : List ByteArray := [⟨#[97]⟩, ⟨#[105, 116, 101, 109]⟩, ⟨#[98]⟩, ⟨#[104, 101, 97, 100]⟩, ⟨#[120]⟩]
theorem name_of {nm0 s2 : ByteArray} {n : Nat} (h : nm0 ∈ makeNames) (h2 : s2 = mkS (fmtInt (n : Int))) : NameN n (nm0 ++ s2) ∧ nm0.size ≤ 4 := by
  have e : (nm0 ++ s2).data.toList = nm0.data.toList ++ fmtInt (n : Int) := by rw [h2]; simp [ByteArray.data_append, mkS]
  simp only [makeNames, List.mem_cons, List.not_mem_nil, or_false] at h
  rcases h with rfl | rfl | rfl | rfl | rfl
  · exact ⟨⟨[97], by simp [preS], e⟩, by decide⟩
  · exact ⟨⟨[105, 116, 101, 109], by simp [preS], e⟩, by decide⟩
  · exact ⟨⟨[98], by simp [preS], e⟩, by decide⟩
  · exact ⟨⟨[104, 101, 97, 100], by simp [preS], e⟩, by decide⟩
  · exact ⟨⟨[120], by simp [preS], e⟩, by decide⟩

end Go.Proofs.YtkjjgpkegihmhaaGreatDoor
