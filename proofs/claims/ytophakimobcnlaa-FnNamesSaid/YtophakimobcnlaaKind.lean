/-
  The names of kinds, by both texts.
-/
import Derived.Test.YtophakimobcnlaaProg
import Derived.Test.YtophakimobcnlaaBase
import Derived.WalkKit
import Derived.WalkSpells
import Derived.WalkLawsBesides
namespace Go.Proofs.Ytophakimobcnlaa
open Go.RowKit

def kindNat : Nat → ByteArray
  | 1 => ⟨#[105, 110, 116, 101, 103, 101, 114]⟩
  | 2 => ⟨#[99, 111, 110, 115, 116]⟩
  | 3 => ⟨#[102, 105, 120, 101, 100]⟩
  | 4 => ⟨#[115, 105, 122, 101, 100]⟩
  | 5 => ⟨#[97, 114, 114, 97, 121]⟩
  | 6 => ⟨#[115, 101, 113, 117, 101, 110, 99, 101]⟩
  | 7 => ⟨#[99, 104, 111, 105, 99, 101]⟩
  | 8 => ⟨#[111, 112, 116, 105, 111, 110]⟩
  | 9 => ⟨#[99, 104, 101, 99, 107, 101, 100]⟩
  | 10 => ⟨#[116, 101, 114, 109, 105, 110, 97, 116, 101, 100]⟩
  | _ => ⟨#[]⟩
def kindName (k : Int) : ByteArray := kindNat k.toNat
theorem kindName_out {k : Int} (h : k < 1 ∨ 10 < k) : kindName k = ⟨#[]⟩ := by
  unfold kindName
  rcases (by omega : k.toNat = 0 ∨ 10 < k.toNat) with h | h
  · rw [h]; rfl
  · unfold kindNat
    split <;> first | rfl | omega

set_option maxHeartbeats 2000000 in
theorem s_KindName (k : Int) (w : World) :
    Calls Try.prog 19 #[.int .i64 k] w fun e w' => e = .returned (.string (kindName k)) ∧ Below w.heap.size w w' := by
  by_cases h : 1 ≤ k ∧ k ≤ 10
  · obtain ⟨h1, h2⟩ := h
    rcases (by omega : k = 1 ∨ k = 2 ∨ k = 3 ∨ k = 4 ∨ k = 5 ∨ k = 6 ∨ k = 7 ∨ k = 8 ∨ k = 9 ∨ k = 10) with rfl | rfl | rfl | rfl | rfl | rfl | rfl | rfl | rfl | rfl
    all_goals
      clear h1 h2
      go_enter Try.func19, Try.ntmps19
      go_wp2
      go_ret
      exact ⟨rfl, (Below.refl _ _).alloc (Nat.le_refl _) _⟩
  · by_cases h1 : 1 ≤ k
    · have h2 : 10 < k := by omega
      have hd : decide (k ≤ 10) = false := by simp; omega
      clear h
      have hn : Hid (kindName k = ⟨#[]⟩) := kindName_out (by omega)
      go_enter Try.func19, Try.ntmps19
      go_wp2
      go_ret
      exact ⟨ret_str hn.out.symm, (Below.refl _ _).alloc (Nat.le_refl _) _⟩
    · have h2 : k < 1 := by omega
      have hd : decide (1 ≤ k) = false := by simp; omega
      clear h h1
      have hn : Hid (kindName k = ⟨#[]⟩) := kindName_out (by omega)
      go_enter Try.func19, Try.ntmps19
      go_wp2
      go_ret
      exact ⟨ret_str hn.out.symm, (Below.refl _ _).alloc (Nat.le_refl _) _⟩

set_option maxHeartbeats 2000000 in
theorem i_KindName (k : Int) (w : World) :
    Calls Try.prog 20 #[.int .i64 k] w fun e w' => e = .returned (.string (kindName k)) ∧ Below w.heap.size w w' := by
  by_cases h : 1 ≤ k ∧ k ≤ 10
  · obtain ⟨h1, h2⟩ := h
    rcases (by omega : k = 1 ∨ k = 2 ∨ k = 3 ∨ k = 4 ∨ k = 5 ∨ k = 6 ∨ k = 7 ∨ k = 8 ∨ k = 9 ∨ k = 10) with rfl | rfl | rfl | rfl | rfl | rfl | rfl | rfl | rfl | rfl
    all_goals
      clear h1 h2
      go_enter Try.func20, Try.ntmps20
      go_wp2
      go_ret
      exact ⟨rfl, (Below.refl _ _).alloc (Nat.le_refl _) _⟩
  · by_cases h1 : 1 ≤ k
    · have h2 : 10 < k := by omega
      have hd : decide (k ≤ 10) = false := by simp; omega
      clear h
      have hn : Hid (kindName k = ⟨#[]⟩) := kindName_out (by omega)
      go_enter Try.func20, Try.ntmps20
      go_wp2
      go_ret
      exact ⟨ret_str hn.out.symm, Below.refl _ _⟩
    · have h2 : k < 1 := by omega
      have hd : decide (1 ≤ k) = false := by simp; omega
      clear h h1
      have hn : Hid (kindName k = ⟨#[]⟩) := kindName_out (by omega)
      go_enter Try.func20, Try.ntmps20
      go_wp2
      go_ret
      exact ⟨ret_str hn.out.symm, Below.refl _ _⟩

end Go.Proofs.Ytophakimobcnlaa
