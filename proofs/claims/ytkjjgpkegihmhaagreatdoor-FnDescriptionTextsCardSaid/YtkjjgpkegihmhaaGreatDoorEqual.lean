/-
  The program's EqualBytes: by bytes.Equal.
-/
import Derived.Test.YtkjjgpkegihmhaaGreatDoorProg
import Derived.Test.YtkjjgpkegihmhaaGreatDoorGA
import Derived.Test.YtkjjgpkegihmhaaGreatDoorShelf
import Derived.WalkSpells
import Derived.WalkLawsBesides
import Derived.Lib.Hide
namespace Go.Proofs.YtkjjgpkegihmhaaGreatDoor
open Go.RowKit

theorem nums_mk (l : List UInt8) : strOfNums (l.map fun b => (b.toNat : Int)) = mkS l := by
  unfold strOfNums mkS
  congr 2
  rw [List.map_map]
  conv => rhs; rw [← List.map_id l]
  apply List.map_congr_left
  intro b _
  simp
theorem nums_bytes (l : List UInt8) : Lib.bytesOf (l.map fun b => (b.toNat : Int)) = l := by
  unfold Lib.bytesOf
  rw [List.map_map]
  conv => rhs; rw [← List.map_id l]
  apply List.map_congr_left
  intro b _
  simp
set_option maxHeartbeats 1000000 in
theorem i_EqualBytes (va vb : Value) (xs ys : List UInt8) (n m : Nat) (w : World) (ha : Rd w va 1 n (cB xs)) (hb : Rd w vb 1 m (cB ys)) :
    Calls Tryz.prog 100 #[va, vb] w fun e w' => e = .returned (.bool (decide (xs = ys))) ∧ w = w' := by
  have c1 := conv_rd ha
  have c2 := conv_rd hb
  rw [← nums_mk] at c1 c2
  have h1 := Lib.hid c1
  have h2 := Lib.hid c2
  have heq : (xs == ys) = decide (xs = ys) := by rw [Bool.eq_iff_iff]; simp
  have HE := Lib.hid heq
  clear ha hb c1 c2 heq
  go_enter Tryz.func100, Tryz.ntmps100
  go_wp2_with fail
  refine (Tryz.bytes_Equal _ _ _ _ _ h1.out h2.out).mono ?_
  rw [nums_bytes, nums_bytes, HE.out]
  rintro e w' ⟨rfl, rfl⟩
  go_wp2_with fail
  go_ret
  exact ⟨rfl, rfl⟩

end Go.Proofs.YtkjjgpkegihmhaaGreatDoor
