/-
  One block of the call's own, known whole: a boxed parameter, a struct variable.
-/
import Derived.Test.YtcegbilfcblhfaaBase
import Derived.Test.YtcegbilfcblhfaaRep
import Derived.Deep.MidRow
import Derived.Deep.QuietTactic
import Derived.BigQuiet
namespace Go.Proofs.Ytcegbilfcblhfaa
open Go.RowKit

/-- Block g holds these cells. -/
def Box (w : World) (g : Nat) (t : TypeId) (cs : Array Value) : Prop := w.heap[g]? = some (.cells cs t (0, 0))
section
variable {w w' : World} {g : Nat} {t : TypeId} {cs : Array Value}
theorem Box.new (w : World) (t : TypeId) (cs : Array Value) : Box (w.alloc (.cells cs t)) w.heap.size t cs := heap_alloc_new w _
theorem Box.lt (h : Box w g t cs) : g < w.heap.size := (Array.getElem?_eq_some_iff.1 h).1
theorem Box.cell (h : Box w g t cs) (j : Nat) : w.cell? ⟨g, j, none⟩ = cs[j]? := cell_of_row w g j cs t (0, 0) h
theorem Box.frozen (h : Box w g t cs) (j : Nat) : w.frozen? ⟨g, j, none⟩ = false := by
  have h' : w.heap[g]? = some (.cells cs t (0, 0)) := h
  simp [World.frozen?, h']
theorem Box.alloc (h : Box w g t cs) (ob : Obj) : Box (w.alloc ob) g t cs := (Below.heap_alloc _ _ _ h.lt).trans h
theorem Box.below (h : Box w g t cs) (hb : Below w.heap.size w w') : Box w' g t cs := (hb.block _ h.lt).trans h
theorem Box.grown {row : Option Nat} (h : Box w g t cs) (hb : w.grownBy w' row) (hne : some g ≠ row) : Box w' g t cs := (hb.block _ h.lt hne).trans h
theorem Box.drewN (h : Box w g t cs) (n : Nat) : Box (w.drewN n) g t cs := h
theorem Box.setOther (h : Box w g t cs) (p : Addr) (hp : g ≠ p.block) (u : Value) : Box (w.setCell p u) g t cs := (heap_setCell_other w p g u hp).trans h
theorem Box.set (h : Box w g t cs) (j : Nat) (u : Value) : Box (w.setCell ⟨g, j, none⟩ u) g t (cs.setIfInBounds j u) := by
  have h' : w.heap[g]? = some (.cells cs t (0, 0)) := h
  show (w.setCell ⟨g, j, none⟩ u).heap[g]? = _
  simp [World.setCell, Array.getElem?_modify, h']
theorem Box.there (h : Box w g t cs) (n : Nat) (hn : n ≤ cs.size) : w.there g 0 n := fun j hj => by
  rw [Nat.zero_add]
  refine ⟨?_, h.frozen j⟩
  rw [h.cell j, Array.getElem?_eq_getElem (by omega)]
  rfl
theorem Box.range (h : Box w g t cs) : w.rangeAt g 0 cs.toList := fun j u hu => by
  rw [Nat.zero_add, h.cell j]
  simpa using hu
end

theorem below_set {w0 w : World} {B g j : Nat} (h : Below B w0 w) (hg : B ≤ g) (u : Value) : Below B w0 (w.setCell ⟨g, j, none⟩ u) := h.setCell (p := ⟨g, j, none⟩) hg u

end Go.Proofs.Ytcegbilfcblhfaa
