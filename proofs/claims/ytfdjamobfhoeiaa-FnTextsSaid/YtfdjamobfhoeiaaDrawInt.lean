/-
  Draws of numbers from a list.
-/
import Derived.Test.YtfdjamobfhoeiaaDraw
namespace Go.Proofs.Ytfdjamobfhoeiaa
open Go.RowKit

/-- Only block g, of the blocks that stood in a, has changed; then one's own row is written. -/
theorem grown_own {a w w' : World} {g : Nat} {v : Value} {base : Nat} {e : TypeId} {size n : Nat} {xs : List Value} (h : a.grownBy w (some g)) (hown : w.ownsRow base e size v n xs) (hb : a.heap.size ≤ base) (hk : w.grownBy w' v.ownBlock) : a.grownBy w' (some g) :=
  ⟨hk.os.trans h.os, hk.tape.trans h.tape, hk.output.trans h.output, Nat.le_trans h.size hk.size, fun i hi hne => by
    rw [hk.block i (Nat.lt_of_lt_of_le hi h.size) (fun e => by have := (hown.lt i e.symm).1; omega)]
    exact h.block i hi hne⟩
theorem grown_alloc {a w : World} {row : Option Nat} (h : a.grownBy w row) (b : _) : a.grownBy (w.alloc b) row :=
  ⟨h.os, h.tape, h.output, by have := h.size; simp; omega, fun i hi hne => by
    rw [← h.block i hi hne]
    exact ((Below.refl w.heap.size w).alloc (Nat.le_refl _) b).block i (Nat.lt_of_lt_of_le hi h.size)⟩

/-- One of a list of numbers. -/
def DrawsInt (l : List Int) (g : Nat) (w : World) (e : Ending) (w' : World) : Prop := ∃ x : Int, e = .returned (.int .i64 x) ∧ x ∈ l ∧ Cur w' g ∧ w.grownBy w' (some g)

set_option maxHeartbeats 1000000 in
theorem s_l1Int (g : Nat) (v : Value) (l : List Int) (hl0 : 0 < l.length) (hl1 : l.length ≤ 256) (w : World) (hc : Cur w g) (hr : Rd w v 1 l.length (cI l)) (hv : v.ownBlock ≠ some g) :
    Calls Try.prog 35 #[.pointer (some ⟨g, 0, none⟩), v] w (DrawsInt l g w) := by
  obtain ⟨_, A, c, rfl, hnc, hcm, hcell⟩ := hr
  obtain ⟨b, off, rfl, hcl⟩ := hcell (by rw [cI_len]; exact hl0)
  unfold maxLen at hcm
  have HC := Lib.hid hcl
  clear hcl hcell
  go_enter Try.func35, Try.ntmps35
  go_wp2_with fail
  refine (s_l1Below g _ (by omega) _ hc).mono ?_
  rintro e w1 ⟨x, rfl, ⟨hx1, hx2, _⟩, hc1, hg1⟩
  have hxl := hx2 (by omega)
  have hxn : x.toNat < l.length := by omega
  have hcx : w1.cell? ⟨b, off + x.toNat, none⟩ = some (.int .i64 l[x.toNat]) := hg1.cell (HC.out _ _ (cI_at hxn)) (by simpa [Value.ownBlock] using hv)
  clear hx2
  go_wp2_with fail
  go_ret
  exact ⟨_, rfl, List.getElem_mem hxn, hc1, hg1⟩

end Go.Proofs.Ytfdjamobfhoeiaa
