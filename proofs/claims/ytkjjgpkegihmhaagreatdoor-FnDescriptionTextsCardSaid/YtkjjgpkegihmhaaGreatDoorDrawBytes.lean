/-
  Draws of bytes.
-/
import Derived.Test.YtkjjgpkegihmhaaGreatDoorDrawInt
import Derived.Test.YtkjjgpkegihmhaaGreatDoorGA
namespace Go.Proofs.YtkjjgpkegihmhaaGreatDoor
open Go.RowKit

def DrawsBytes (n : Nat) (g : Nat) (w : World) (e : Ending) (w' : World) : Prop :=
  ∃ v l, e = .returned v ∧ l.length = n ∧ w'.ownsRow w.heap.size 5 1 v l.length (cB l) ∧ Cur w' g ∧ w.grownBy w' (some g)

set_option maxHeartbeats 2000000 in
theorem s_l1Bytes (g : Nat) (n : Int) (hn : n ≤ 65536) (hn' : -9223372036854775808 ≤ n) (w : World) (hc : Cur w g) :
    Calls Tryz.prog 125 #[.pointer (some ⟨g, 0, none⟩), .int .i64 n] w (DrawsBytes n.toNat g w) := by
  obtain ⟨i0, hi, hz0, hz1, hz2⟩ := info_parts info_Byte
  have hglt := hc.lt
  have HC := Lib.hid hc
  clear hc
  go_enter Tryz.func125, Tryz.ntmps125
  go_wp2_with fail
  have hown0 := World.ownsRow_lit (base := w.heap.size) (e := 5) (size := 1) w #[] 0 (Nat.le_refl _) (Nat.zero_le _) rfl
  go_loopw [5, 6] (fun o i wr => ∃ (k : Nat) (t : List UInt8), k ≤ n.toNat ∧ i = .int .i64 k ∧ t.length = k ∧ wr.ownsRow w.heap.size 5 1 o t.length (cB t) ∧ Cur wr g ∧ w.grownBy wr (some g))
    (fun _ i _ => n.toNat - (intOf i).toNat)
  case atStart => exact ⟨0, [], Nat.zero_le _, rfl, rfl, hown0, HC.out.below ((Below.refl _ _).alloc (Nat.le_refl _) _), grown_alloc (World.grownBy.refl w _) _⟩
  case round =>
    obtain ⟨k, t, hk, rfl, htl, hownr, hcr, hgr⟩ := hrel
    have HT := Lib.hid htl
    have HO := Lib.hid hownr
    have HG := Lib.hid hgr
    clear hown0 htl hownr hgr
    by_cases hlt : k < n.toNat
    · have hd : decide ((k : Int) < n) = true := by simp; omega
      go_wp2_with fail
      refine (s_l1Byte g _ hcr).mono ?_
      rintro e w1 ⟨x, rfl, ⟨hx1, hx2⟩, hc1, hg1⟩
      have hox : w1.ownsRow w.heap.size 5 1 _ t.length (cB t) := HO.out.kept hg1 (by right; intro e; have := (HO.out.lt g e).1; omega)
      have HOX := Lib.hid hox
      have HG1 := Lib.hid (grown_trans HG.out hg1)
      clear hox hg1
      have hx8 : IntKind.u8.wrap x = x := by rw [IntKind.wrap_u8]; omega
      have hxb : cB [x.toNat.toUInt8] = [.int .u8 x] := by simp [cB, Nat.toUInt8, UInt8.toNat_ofNat']; omega
      have HXB := Lib.hid hxb
      clear hxb
      go_wp2_with (at_builtin; go_loud (refine wpList_append_rd _ rfl (.tmp 13) (.tmp 17) 26 rfl w.heap.size 5 i0 (.int .u8 0) 1 1 Tryz.underlying26 hi hz0 hz1 hz2 rfl (by decide) _ t.length (cB t) rfl (own_below HOX.out ((Below.refl _ _).alloc (Nat.le_refl _) _)) _ 1 [.int .u8 x] rfl (Rd.lit _ [.int .u8 x] 5 1 rfl (by unfold maxLen; omega)) (by simp [Value.oneCell']) (by have := HT.out; unfold maxLen; omega) (by have := HT.out; omega) (by have := HG1.out.size; simp; omega) ?_))
      intro v2 w2 ho2 hg2 _
      have hc2 : Cur w2 g := by
        refine (hc1.below ((Below.refl _ _).alloc (Nat.le_refl _) _)).grown hg2 ?_ ?_
        · intro e; have := (HOX.out.lt g e.symm).1; omega
        · intro b hb e; have := (HOX.out.lt b e.symm).1; omega
      have HG2 := Lib.hid (grown_own (grown_alloc HG1.out _) (own_below HOX.out ((Below.refl _ _).alloc (Nat.le_refl _) (.cells #[.int .u8 x] 5))) (Nat.le_refl _) hg2)
      have HO2 := Lib.hid ho2
      clear hg2 ho2
      go_wp2_with fail
      go_roundw
      case rel => exact ⟨k + 1, t ++ [x.toNat.toUInt8], by omega, by go_num, by simp [HT.out], by rw [cB_append, HXB.out]; simpa using HO2.out, hc2, HG2.out⟩
      case measure => simp [intOf]; omega
    · have hd : decide ((k : Int) < n) = false := by simp; omega
      go_wp2_with fail
      go_ret
      exact ⟨_, t, rfl, by rw [HT.out]; omega, HO.out, hcr, HG.out⟩

end Go.Proofs.YtkjjgpkegihmhaaGreatDoor
