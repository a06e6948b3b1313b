/-
  A region that draws its order, whose operations only read what was there and whose callees leave what was there as it was: one walk, in the order of the text. The class of worlds: those below.
-/
import Derived.Test.YtcegbilfcblhfaaBase
import Derived.Test.YtcegbilfcblhfaaRep
import Derived.Deep.QuietTactic
import Derived.BigQuiet
namespace Go.Proofs.Ytcegbilfcblhfaa
open Go.RowKit

/-- A world that comes later. -/
structure Later (w0 : World) where
  world : World
  below : Below w0.heap.size w0 world

instance (w0 : World) : Nonempty (Later w0) := ⟨⟨w0, Below.refl _ _⟩⟩

theorem cell_after {w0 w1 : World} {p : Addr} {u : Value} (h : w0.cell? p = some u) (hb : Below w0.heap.size w0 w1) : w1.cell? p = some u := (hb.cell (World.block_lt_of_cell? w0 _ h)).trans h
theorem later_cell {w0 : World} {p : Addr} {u : Value} (h : w0.cell? p = some u) : ∀ x : Later w0, x.world.cell? p = some u := fun x => cell_after h x.below

theorem wp_region_later {P : Program} {id : Nat} {Q : Exit → Act → World → Prop} {a : Act} {w : World} {l : List Oper} (hm : P.follows .mixedOrders = true) (hB : Region.lexB .any l.toArray = true)
    (h : wpQuiet P l.toArray (fun w' => ∃ x : Later w, w' = x.world) (fun a' => ∀ w', Below w.heap.size w w' → Q .normal a' w') l a) : (Code.region id l.toArray true).wp P Q a w := by
  refine wp_region_quiet (C := fun w' => ∃ x : Later w, w' = x.world) hm hB ⟨⟨_, (Below.refl w.heap.size w).drew⟩, rfl⟩ ?_
  have e : (fun a' => ∀ w', (∃ x : Later w, w' = x.world) → Q .normal a' w') = (fun a' => ∀ w', Below w.heap.size w w' → Q .normal a' w') := by
    funext a'
    apply propext
    constructor
    · intro h w' hb
      exact h w' ⟨⟨w', hb⟩, rfl⟩
    · rintro h w' ⟨x, rfl⟩
      exact h _ x.below
  rw [e]
  simpa using h

/-- A callee's contract in such a walk. -/
theorem Calls.later {P : Program} {f : FuncId} {args : Array Value} {w0 : World} {x : Later w0} {v : Value} (h : Calls P f args x.world fun e w' => e = .returned v ∧ Below x.world.heap.size x.world w') :
    Calls P f args x.world fun e w'' => e = .returned v ∧ ∃ y : Later w0, w'' = y.world :=
  h.mono fun _ w' ⟨he, hb⟩ => ⟨he, ⟨w', Below.then_ x.below hb (Nat.le_refl _)⟩, rfl⟩
theorem Calls.later_same {P : Program} {f : FuncId} {args : Array Value} {w0 : World} {x : Later w0} {v : Value} (h : Calls P f args x.world fun e w' => e = .returned v ∧ x.world = w') :
    Calls P f args x.world fun e w'' => e = .returned v ∧ ∃ y : Later w0, w'' = y.world :=
  h.mono fun _ _ ⟨he, hb⟩ => ⟨he, x, hb.symm⟩

end Go.Proofs.Ytcegbilfcblhfaa
