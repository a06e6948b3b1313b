/-
  markByteS: the elements of a slice of the call's own are written over by marks; heldByteS: a slice that holds its marks still.
-/
import Derived.Test.YtcegbilfcblhfaaProg
import Derived.Test.YtcegbilfcblhfaaBase
import Derived.Test.YtcegbilfcblhfaaRep
import Derived.WalkKit
import Derived.WalkSpells
import Derived.WalkLawsBesides
import Derived.Lib.Hide
namespace Go.Proofs.Ytcegbilfcblhfaa
open Go.RowKit

def mkByte (k n : Nat) : List Value := (List.range n).map fun i : Nat => .int .u8 (((k : Int) + (i : Int)) % 256)
theorem mkByte_len (k n : Nat) : (mkByte k n).length = n := by simp [mkByte]
theorem mkByte_at (k : Nat) {n j : Nat} (h : j < n) : (mkByte k n)[j]? = some (.int .u8 (((k : Int) + (j : Int)) % 256)) := by simp [mkByte, h]

/-- What a mark leaves. -/
def MarkedB (E : TypeId) (base : Nat) (v : Value) (n : Nat) (cs : List Value) (r : Int) (w : World) (e : Ending) (w' : World) : Prop :=
  e = .returned (.int .i64 r) ∧ w'.ownsRow base E 1 v n cs ∧ w.grownBy w' v.ownBlock

set_option maxHeartbeats 1000000 in
theorem l_markByteS (v : Value) (base k n : Nat) (xs : List Value) (hk : k + n ≤ 1099511627776) (w : World) (hown : w.ownsRow base 5 1 v n xs) :
    Calls Try.prog 74 #[v, .int .i64 (k : Int)] w (MarkedB 5 base v n (mkByte k n) ((k : Int) + (n : Int)) w) := by
  have hxl : xs.length = n := by rw [hown.1]; omega
  rcases hown.2 with ⟨rfl, rfl⟩ | ⟨g, cap, cur, rfl, hbg, hg, hnc, hcm, hcs, htake⟩
  · go_enter Try.func74, Try.ntmps74
    go_wp2_with fail
    refine wp_loop_rounds 1 ?_
    rw [rounds_succ]
    go_wp2_with fail
    go_ret
    exact ⟨ret_int (by simp), by simpa [mkByte] using World.ownsRow_nil w base 5 1, World.grownBy.refl w _⟩
  · unfold maxLen at hcm
    have HXL := Lib.hid hxl
    clear hg hcs htake hxl
    go_enter Try.func74, Try.ntmps74
    go_wp2_with fail
    go_loopw [1, 5] (fun c i wr => ∃ j : Nat, j ≤ n ∧ i = .int .i64 j ∧ c = .int .i64 ((k : Int) + (j : Int)) ∧ wr.ownsRow base 5 1 (.slice (some ⟨g, 0, none⟩) n cap) n ((mkByte k n).take j ++ xs.drop j) ∧ w.grownBy wr (some g))
      (fun _ i _ => n - (intOf i).toNat)
    case atStart => exact ⟨0, Nat.zero_le _, rfl, by simp, by simpa using hown, World.grownBy.refl w _⟩
    case round =>
      obtain ⟨j, hj, rfl, rfl, hownr, hgr⟩ := hrel
      clear hown
      by_cases hlt : j < n
      · have hzk : j < ((mkByte k n).take j ++ xs.drop j).length := by rw [hownr.1]; omega
        have hce : wr.cell? ⟨g, j, none⟩ = some (((mkByte k n).take j ++ xs.drop j)[j]) := by rw [hownr.cellAt j (by omega), List.getElem?_eq_getElem hzk]
        have hfe : wr.frozen? ⟨g, j, none⟩ = false := hownr.frozenAt j
        obtain ⟨old, hold⟩ : ∃ old, old = ((mkByte k n).take j ++ xs.drop j)[j] := ⟨_, rfl⟩
        rw [← hold] at hce
        have HS := Lib.hid (hownr.stored j (.int .u8 (((k : Int) + (j : Int)) % 256)))
        have HG := Lib.hid hgr
        clear hold hzk hownr hgr
        go_wp2_with fail
        go_roundw
        case rel =>
          obtain ⟨h1, h2⟩ := HS.out
          rw [take_set (mkByte k n) xs j _ (by rw [mkByte_len]; omega) (by rw [mkByte_len]; exact HXL.out) (mkByte_at k hlt)] at h1
          exact ⟨j + 1, by omega, by go_num, by go_num, h1, grown_trans' HG.out h2⟩
        case measure => simp [intOf]; omega
      · obtain rfl : j = n := by omega
        have HO := Lib.hid hownr
        have HG := Lib.hid hgr
        clear hownr hgr
        go_wp2_with fail
        go_ret
        refine ⟨rfl, ?_, HG.out⟩
        have h1 := HO.out
        rwa [List.take_of_length_le (by rw [mkByte_len]; exact Nat.le_refl _), List.drop_of_length_le (by rw [HXL.out]; exact Nat.le_refl _), List.append_nil] at h1

set_option maxHeartbeats 1000000 in
theorem l_heldByteS (v : Value) (k n : Nat) (hk : k + n ≤ 1099511627776) (w : World) (h : Rd w v 1 n (mkByte k n)) :
    Calls Try.prog 82 #[v, .int .i64 (k : Int)] w fun e w' => e = .returned (.int .i64 ((k : Int) + (n : Int))) ∧ w = w' := by
  obtain ⟨_, A, c, rfl, hnc, hcm, hcell⟩ := h
  unfold maxLen at hcm
  have HC := Lib.hid hcell; clear hcell
  go_enter Try.func82, Try.ntmps82
  go_wp2_with fail
  go_loop [1, 5] (fun c i => ∃ j : Nat, j ≤ n ∧ i = .int .i64 j ∧ c = .int .i64 ((k : Int) + (j : Int))) (fun _ i => n - (intOf i).toNat)
  case atStart => exact ⟨0, Nat.zero_le _, rfl, by simp⟩
  case round =>
    obtain ⟨j, hj, rfl, rfl⟩ := hrel
    by_cases hlt : j < n
    · obtain ⟨b, off, rfl, hc⟩ := HC.out (by rw [mkByte_len]; omega)
      have hcl : w.cell? ⟨b, off + j, none⟩ = some (.int .u8 (((k : Int) + (j : Int)) % 256)) := hc j _ (mkByte_at k hlt)
      clear hc
      go_wp2_with fail
      go_round
      case rel => exact ⟨j + 1, by omega, by go_num, by go_num⟩
      case measure => simp [intOf]; omega
    · obtain rfl : j = n := by omega
      go_wp2_with fail
      go_ret
      exact ⟨rfl, rfl⟩

end Go.Proofs.Ytcegbilfcblhfaa
