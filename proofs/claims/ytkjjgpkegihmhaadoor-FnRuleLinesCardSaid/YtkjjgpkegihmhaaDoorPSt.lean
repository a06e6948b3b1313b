/-
  A rule of the call's own behind a pointer, its four slices the call's own: what is read of it, and what append and store leave.
-/
import Derived.Test.YtkjjgpkegihmhaaDoorGA
import Derived.OwnWalk
import Derived.Lib.Hide
namespace Go.Proofs.YtkjjgpkegihmhaaDoor
open Go.RowKit
set_option linter.unusedVariables false

theorem own_ne_type {w : World} {lo lo' : Nat} {e e' : TypeId} {size size' n n' : Nat} {v v' : Value} {xs xs' : List Value} (h : w.ownsRow lo e size v n xs) (h' : w.ownsRow lo' e' size' v' n' xs') (hne : e ≠ e') : v.ownBlock = none ∨ v.ownBlock ≠ v'.ownBlock := by
  rcases h'.2 with ⟨rfl, _⟩ | ⟨g, cap, cur, rfl, _, hg, _⟩
  · cases hv : v.ownBlock with
    | none => exact .inl rfl
    | some k => exact .inr (by simp [Value.ownBlock])
  · exact .inr (own_type h hg hne)

/-- The cells of a rule. -/
def rCells (r : RuleD) (vb vn vt vk : Value) : Array Value := #[.string r.name, .int .i64 r.kind, .int .i64 r.size, .bool r.little, vb, vn, vt, vk]
/-- The four slices of a rule, the call's own from lo on. -/
structure Rows4 (w : World) (lo : Nat) (r : RuleD) (vb vn vt vk : Value) : Prop where
  b : w.ownsRow lo 5 1 vb r.bytes.length (cB r.bytes)
  n : w.ownsRow lo 9 1 vn r.names.length (cS r.names)
  t : w.ownsRow lo 3 1 vt r.tags.length (cI r.tags)
  k : w.ownsRow lo 3 1 vk r.kids.length (cI r.kids)
  tk : vt.ownBlock = none ∨ vt.ownBlock ≠ vk.ownBlock
theorem Rows4.below {w w' : World} {lo : Nat} {r : RuleD} {vb vn vt vk : Value} (h : Rows4 w lo r vb vn vt vk) (hb : Below w.heap.size w w') : Rows4 w' lo r vb vn vt vk :=
  ⟨own_below h.b hb, own_below h.n hb, own_below h.t hb, own_below h.k hb, h.tk⟩
theorem Rows4.alloc {w : World} {lo : Nat} {r : RuleD} {vb vn vt vk : Value} (h : Rows4 w lo r vb vn vt vk) (ob : Obj) : Rows4 (w.alloc ob) lo r vb vn vt vk := h.below ((Below.refl _ _).alloc (Nat.le_refl _) _)
theorem Rows4.rule {w : World} {lo : Nat} {r : RuleD} {vb vn vt vk : Value} (h : Rows4 w lo r vb vn vt vk) : RdRule w (ruleCells r vb vn vt vk) r :=
  ⟨vb, vn, vt, vk, rfl, Rd.of_own h.b, Rd.of_own h.n, Rd.of_own h.t, Rd.of_own h.k⟩
/-- A cell of another type's block is written: the rows stay. -/
theorem Rows4.setBox {w : World} {lo g j : Nat} {r : RuleD} {vb vn vt vk u : Value} {cs : Array Value} (h : Rows4 w lo r vb vn vt vk) (hx : Box w g 43 cs) : Rows4 (w.setCell ⟨g, j, none⟩ u) lo r vb vn vt vk := by
  have hk : w.grownBy (w.setCell ⟨g, j, none⟩ u) (some g) := by
    refine ⟨rfl, rfl, rfl, by simp [World.setCell], fun i hi hne => ?_⟩
    exact heap_setCell_other w ⟨g, j, none⟩ i u (fun e => hne (by rw [e]))
  exact ⟨h.b.kept hk (.inr (own_type h.b hx (by decide))), h.n.kept hk (.inr (own_type h.n hx (by decide))), h.t.kept hk (.inr (own_type h.t hx (by decide))), h.k.kept hk (.inr (own_type h.k hx (by decide))), h.tk⟩

/-- The state behind a pointer to a rule. -/
structure PSt (w2 : World) (gr : Nat) (r : RuleD) (w : World) : Prop where
  st : ∃ vb vn vt vk, Box w gr 43 (rCells r vb vn vt vk) ∧ Rows4 w w2.heap.size r vb vn vt vk
  ge : w2.heap.size ≤ gr
  be : Below w2.heap.size w2 w
section
variable {w2 w w' : World} {gr : Nat} {r : RuleD}
theorem PSt.step (h : PSt w2 gr r w) (hb : Below w.heap.size w w') : PSt w2 gr r w' := by
  obtain ⟨vb, vn, vt, vk, hx, h4⟩ := h.st
  exact ⟨⟨vb, vn, vt, vk, hx.below hb, h4.below hb⟩, h.ge, h.be.trans (hb.mono h.be.size)⟩
theorem PSt.from (h : PSt w2 gr r w) {w0 : World} (hw : Below w0.heap.size w0 w2) : Below w0.heap.size w0 w := Below.then_ hw h.be (Nat.le_refl _)

/-- append to the kids, stored back. -/
theorem Rows4.pushKid {lo : Nat} {vb vn vt vk v' : Value} {ob : Obj} {k : Int} (h : Rows4 w lo r vb vn vt vk) (ho : w'.ownsRow lo 3 1 v' (r.kids.length + 1) (cI r.kids ++ cI [k]))
    (hg : (w.alloc ob).grownBy w' vk.ownBlock) (hp : v'.ownBlock = vk.ownBlock ∨ v'.ownBlock = some (w.alloc ob).heap.size) : Rows4 w' lo { r with kids := r.kids ++ [k] } vb vn vt v' := by
  have ha := h.alloc ob
  refine ⟨ha.b.kept hg (own_ne_type ha.b ha.k (by decide)), ha.n.kept hg (own_ne_type ha.n ha.k (by decide)), ha.t.kept hg ha.tk, ?_, ?_⟩
  · simpa [cI] using ho
  · rcases hp with e | e
    · rw [e]; exact h.tk
    · rw [e]
      cases hv : vt.ownBlock with
      | none => exact .inl rfl
      | some g =>
        refine .inr fun e2 => ?_
        have := (h.t.lt g hv).2
        have e3 : g = (w.alloc ob).heap.size := by simpa using e2
        simp at e3
        omega
theorem Rows4.pushTag {lo : Nat} {vb vn vt vk v' : Value} {ob : Obj} {k : Int} (h : Rows4 w lo r vb vn vt vk) (ho : w'.ownsRow lo 3 1 v' (r.tags.length + 1) (cI r.tags ++ cI [k]))
    (hg : (w.alloc ob).grownBy w' vt.ownBlock) (hp : v'.ownBlock = vt.ownBlock ∨ v'.ownBlock = some (w.alloc ob).heap.size) : Rows4 w' lo { r with tags := r.tags ++ [k] } vb vn v' vk := by
  have ha := h.alloc ob
  have hkt : vk.ownBlock = none ∨ vk.ownBlock ≠ vt.ownBlock := by
    rcases h.tk with e | e
    · rw [e]
      cases hv : vk.ownBlock with
      | none => exact .inl rfl
      | some g => exact .inr (by simp)
    · exact .inr (Ne.symm e)
  refine ⟨ha.b.kept hg (own_ne_type ha.b ha.t (by decide)), ha.n.kept hg (own_ne_type ha.n ha.t (by decide)), ?_, ha.k.kept hg hkt, ?_⟩
  · simpa [cI] using ho
  · rcases hp with e | e
    · rw [e]; exact h.tk
    · rw [e]
      refine .inr fun e2 => ?_
      have := (h.k.lt _ e2.symm).2
      simp at this
      omega
theorem Rows4.pushName {lo : Nat} {vb vn vt vk v' : Value} {ob : Obj} {s : ByteArray} (h : Rows4 w lo r vb vn vt vk) (ho : w'.ownsRow lo 9 1 v' (r.names.length + 1) (cS r.names ++ cS [s]))
    (hg : (w.alloc ob).grownBy w' vn.ownBlock) : Rows4 w' lo { r with names := r.names ++ [s] } vb v' vt vk := by
  have ha := h.alloc ob
  refine ⟨ha.b.kept hg (own_ne_type ha.b ha.n (by decide)), ?_, ha.t.kept hg (own_ne_type ha.t ha.n (by decide)), ha.k.kept hg (own_ne_type ha.k ha.n (by decide)), h.tk⟩
  simpa [cS] using ho
end

/-- Blocks of other types than a rule's and its slices' stay as they were. -/
def Keep (w w' : World) : Prop := ∀ k T cs, T ≠ 5 → T ≠ 9 → T ≠ 3 → T ≠ 43 → Box w k T cs → Box w' k T cs
theorem Keep.refl (w : World) : Keep w w := fun _ _ _ _ _ _ _ h => h
theorem Keep.trans {a b c : World} (h : Keep a b) (h' : Keep b c) : Keep a c := fun k T cs h1 h2 h3 h4 hx => h' k T cs h1 h2 h3 h4 (h k T cs h1 h2 h3 h4 hx)
theorem Keep.below {w w' : World} (h : Below w.heap.size w w') : Keep w w' := fun _ _ _ _ _ _ _ hx => hx.below h
theorem Keep.alloc (w : World) (ob : Obj) : Keep w (w.alloc ob) := fun _ _ _ _ _ _ _ hx => hx.alloc ob
theorem Keep.grown {w w' : World} {lo : Nat} {e : TypeId} {size n : Nat} {v : Value} {xs : List Value} (h : w.ownsRow lo e size v n xs) (he : e = 9 ∨ e = 3) (hg : w.grownBy w' v.ownBlock) : Keep w w' := fun k T cs _ h2 h3 _ hx =>
  hx.grown hg (fun e' => own_type h hx (by rcases he with rfl | rfl; exact Ne.symm h2; exact Ne.symm h3) e'.symm)
theorem Keep.set {w : World} {gr j : Nat} {u : Value} {cs : Array Value} (hb : Box w gr 43 cs) : Keep w (w.setCell ⟨gr, j, none⟩ u) := fun k T cs' _ _ _ h4 hx =>
  hx.setOther ⟨gr, j, none⟩ (fun e => by
    have e' : k = gr := e
    subst e'
    have a : w.heap[k]? = some (.cells cs' T (0, 0)) := hx
    have b : w.heap[k]? = some (.cells cs 43 (0, 0)) := hb
    rw [a] at b
    injection b with b
    injection b with _ b
    exact h4 b) u

end Go.Proofs.YtkjjgpkegihmhaaDoor
