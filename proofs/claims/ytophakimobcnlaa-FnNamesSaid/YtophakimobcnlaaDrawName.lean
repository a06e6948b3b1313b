/-
  DrawIsName: some string.
-/
import Derived.Test.YtophakimobcnlaaDraw
namespace Go.Proofs.Ytophakimobcnlaa
open Go.RowKit

def SomeStr (w : World) (e : Ending) (w' : World) : Prop := ∃ s : ByteArray, e = .returned (.string s) ∧ s.size ≤ maxLen ∧ Below w.heap.size w w'

def nameDraws : List ByteArray := [⟨#[]⟩, ⟨#[97]⟩, ⟨#[97, 49]⟩, ⟨#[49, 97]⟩, ⟨#[97, 98, 99, 100, 101, 102, 103, 104, 105, 106, 107, 108]⟩, ⟨#[97, 98, 99, 100, 101, 102, 103, 104, 105, 106, 107, 108, 109]⟩, ⟨#[65, 98]⟩, ⟨#[97, 32, 98]⟩, ⟨#[97, 95, 98]⟩, ⟨#[105, 116, 101, 109]⟩]

theorem nameDraws_size (s : ByteArray) (h : s ∈ nameDraws) : s.size ≤ maxLen := by
  unfold maxLen
  simp [nameDraws] at h
  rcases h with rfl | rfl | rfl | rfl | rfl | rfl | rfl | rfl | rfl | rfl <;> simp [ByteArray.size]

set_option maxHeartbeats 1000000 in
theorem s_DrawIsName (v : Value) (l : List UInt8) (hn : l.length ≤ 1048576) (w : World) (hr : Rd w v 1 l.length (cB l)) :
    Calls Try.prog 39 #[v] w (SomeStr w) := by
  go_enter Try.func39, Try.ntmps39
  go_wp2_with fail
  refine (s_l1New v l hn _ hr).mono ?_
  rintro e w1 ⟨g, rfl, hc1, hg1, hb1⟩
  go_wp2_with fail
  have hrd := Rd.lit w1 (cS nameDraws) 9 10 rfl (by unfold maxLen; omega)
  have hlt := hc1.lt
  refine (s_l1Str g _ nameDraws (by decide) (by decide) _ (hc1.below ((Below.refl _ _).alloc (Nat.le_refl _) _)) hrd (by simp [Value.ownBlock]; omega)).mono ?_
  rintro e w2 ⟨s, rfl, hm, hc2, hk2⟩
  go_wp2_with fail
  go_ret
  exact ⟨s, rfl, nameDraws_size s hm, below_grown (hb1.alloc hb1.size _) hk2 (by have := hb1.size; simp; omega) hg1⟩

end Go.Proofs.Ytophakimobcnlaa
