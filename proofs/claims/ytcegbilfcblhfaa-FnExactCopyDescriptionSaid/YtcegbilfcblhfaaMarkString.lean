/-
  markStringS: the elements of a slice of the call's own are written over by marks; heldStringS: a slice that holds its marks still.
-/
import Derived.Test.YtcegbilfcblhfaaProg
import Derived.Test.YtcegbilfcblhfaaBase
import Derived.Test.YtcegbilfcblhfaaRep
import Derived.Test.YtcegbilfcblhfaaMarkText
import Derived.WalkKit
import Derived.WalkSpells
import Derived.WalkLawsBesides
import Derived.Lib.Hide
import Derived.Deep.RegionHeld3
import Derived.Deep.DrawnRows
namespace Go.Proofs.Ytcegbilfcblhfaa
open Go.RowKit

def mkString (k n : Nat) : List Value := (List.range n).map fun i : Nat => .string (mkS (markT (k + i)))
theorem mkString_len (k n : Nat) : (mkString k n).length = n := by simp [mkString]
theorem mkString_at (k : Nat) {n j : Nat} (h : j < n) : (mkString k n)[j]? = some (.string (mkS (markT (k + j)))) := by simp [mkString, h]

/-- What a mark leaves. -/
def MarkedS (E : TypeId) (base : Nat) (v : Value) (n : Nat) (cs : List Value) (r : Int) (w : World) (e : Ending) (w' : World) : Prop :=
  e = .returned (.int .i64 r) ∧ w'.ownsRow base E 1 v n cs ∧ w.grownBy w' v.ownBlock

theorem grown_below {a w w' : World} {row : Option Nat} (h : a.grownBy w row) (hb : Below w.heap.size w w') : a.grownBy w' row :=
  ⟨hb.os.trans h.os, hb.tape.trans h.tape, hb.output.trans h.output, Nat.le_trans h.size hb.size, fun i hi hn => (hb.block i (Nat.lt_of_lt_of_le hi h.size)).trans (h.block i hi hn)⟩

set_option maxHeartbeats 1000000 in
theorem l_markStringS (v : Value) (base k n : Nat) (xs : List Value) (hk : k + n ≤ 1099511627776) (w : World) (hown : w.ownsRow base 9 1 v n xs) :
    Calls Try.prog 34 #[v, .int .i64 (k : Int)] w (MarkedS 9 base v n (mkString k n) ((k : Int) + (n : Int)) w) := by
  have hxl : xs.length = n := by rw [hown.1]; omega
  rcases hown.2 with ⟨rfl, rfl⟩ | ⟨g, cap, cur, rfl, hbg, hg, hnc, hcm, hcs, htake⟩
  · go_enter Try.func34, Try.ntmps34
    go_wp2_with fail
    refine wp_loop_rounds 1 ?_
    rw [rounds_succ]
    go_wp2_with fail
    go_ret
    exact ⟨ret_int (by simp), by simpa [mkString] using World.ownsRow_nil w base 9 1, World.grownBy.refl w _⟩
  · unfold maxLen at hcm
    have HXL := Lib.hid hxl
    clear hg hcs htake hxl
    go_enter Try.func34, Try.ntmps34
    go_wp2_with fail
    go_loopw [1, 5] (fun c i wr => ∃ j : Nat, j ≤ n ∧ i = .int .i64 j ∧ c = .int .i64 ((k : Int) + (j : Int)) ∧ wr.ownsRow base 9 1 (.slice (some ⟨g, 0, none⟩) n cap) n ((mkString k n).take j ++ xs.drop j) ∧ w.grownBy wr (some g))
      (fun _ i _ => n - (intOf i).toNat)
    case atStart => exact ⟨0, Nat.zero_le _, rfl, by simp, by simpa using hown, World.grownBy.refl w _⟩
    case round =>
      obtain ⟨j, hj, rfl, rfl, hownr, hgr⟩ := hrel
      clear hown
      by_cases hlt : j < n
      · have HO := Lib.hid hownr
        have HG := Lib.hid hgr
        clear hownr hgr
        go_wp2_with fail
        refine (l_markText _ (by omega) (by omega) _).mono ?_
        rw [show ((k : Int) + (j : Int)).toNat = k + j from by omega]
        rintro e w1 ⟨rfl, hb1⟩
        have hown1 := own_below HO.out hb1
        have hzk : j < ((mkString k n).take j ++ xs.drop j).length := by rw [hown1.1]; omega
        have hce : w1.cell? ⟨g, j, none⟩ = some (((mkString k n).take j ++ xs.drop j)[j]) := by rw [hown1.cellAt j (by omega), List.getElem?_eq_getElem hzk]
        have hfe : w1.frozen? ⟨g, j, none⟩ = false := hown1.frozenAt j
        obtain ⟨old, hold⟩ : ∃ old, old = ((mkString k n).take j ++ xs.drop j)[j] := ⟨_, rfl⟩
        rw [← hold] at hce
        have HS := Lib.hid (hown1.stored j (.string (mkS (markT (k + j)))))
        have HG1 := Lib.hid (grown_below HG.out hb1)
        clear hold hzk hown1 hb1
        go_wp2_with fail
        go_roundw
        case rel =>
          obtain ⟨h1, h2⟩ := HS.out
          rw [take_set (mkString k n) xs j _ (by rw [mkString_len]; omega) (by rw [mkString_len]; exact HXL.out) (mkString_at k hlt)] at h1
          exact ⟨j + 1, by omega, by go_num, by go_num, h1, grown_trans' HG1.out h2⟩
        case measure => simp [intOf]; omega
      · obtain rfl : j = n := by omega
        have HO := Lib.hid hownr
        have HG := Lib.hid hgr
        clear hownr hgr
        go_wp2_with fail
        go_ret
        refine ⟨rfl, ?_, HG.out⟩
        have h1 := HO.out
        rwa [List.take_of_length_le (by rw [mkString_len]; exact Nat.le_refl _), List.drop_of_length_le (by rw [HXL.out]; exact Nat.le_refl _), List.append_nil] at h1

theorem str_eq (s : ByteArray) : (s.toList == s.toList) = true := by simp
theorem cell_later2 {w0 w1 : World} {p : Addr} {u : Value} (hb : Below w0.heap.size w0 w1) (h : w0.cell? p = some u) : w1.cell? p = some u := (hb.cell (World.block_lt_of_cell? w0 _ h)).trans h

set_option maxHeartbeats 1000000 in
theorem l_heldStringS (v : Value) (k n : Nat) (hk : k + n ≤ 1099511627776) (w : World) (h : Rd w v 1 n (mkString k n)) :
    Calls Try.prog 35 #[v, .int .i64 (k : Int)] w fun e w' => e = .returned (.int .i64 ((k : Int) + (n : Int))) ∧ Below w.heap.size w w' := by
  obtain ⟨_, A, c, rfl, hnc, hcm, hcell⟩ := h
  unfold maxLen at hcm
  have HC := Lib.hid hcell; clear hcell
  go_enter Try.func35, Try.ntmps35
  go_wp2_with fail
  go_loopw [1, 5] (fun c i wr => ∃ j : Nat, j ≤ n ∧ i = .int .i64 j ∧ c = .int .i64 ((k : Int) + (j : Int)) ∧ Below w.heap.size w wr) (fun _ i _ => n - (intOf i).toNat)
  case atStart => exact ⟨0, Nat.zero_le _, rfl, by simp, Below.refl _ _⟩
  case round =>
    obtain ⟨j, hj, rfl, rfl, hbr⟩ := hrel
    by_cases hlt : j < n
    · obtain ⟨b, off, rfl, hc⟩ := HC.out (by rw [mkString_len]; omega)
      have hcl : w.cell? ⟨b, off + j, none⟩ = some (.string (mkS (markT (k + j)))) := hc j _ (mkString_at k hlt)
      have hcr : wr.cell? ⟨b, off + j, none⟩ = some (.string (mkS (markT (k + j)))) := (hbr.cell (World.block_lt_of_cell? w _ hcl)).trans hcl
      have HCR := Lib.hid hcr
      have HB := Lib.hid hbr
      have hlti : (j : Int) < (n : Int) := by omega
      clear hc hcl hcr hbr
      go_wp2_with fail
      have hkj : ((k : Int) + (j : Int)).toNat = k + j := by omega
      have HKJ := Lib.hid hkj
      have HCB := Lib.hid (World.block_lt_of_cell? wr _ HCR.out)
      have hq := str_eq (mkS (markT (k + j)))
      have hcr := HCR.out
      clear hkj
      go_region_held3 (fun w' => w'.cell? ⟨b, off + j, none⟩ = some (.string (mkS (markT (k + j))))) (first | go_keep | (exact cell_later2 hbx HCR.out)) ((go_at_call 58; refine (l_markText _ (by omega) (by omega) _).mono ?_; rw [HKJ.out]; rintro e w1 ⟨rfl, hbx⟩))
      go_wp2_with fail
      go_roundw
      case rel => exact ⟨j + 1, by omega, by go_num, by go_num, Below.then_ HB.out.drew hbx (Nat.le_refl _)⟩
      case measure => simp [intOf]; omega
    · obtain rfl : j = n := by omega
      go_wp2_with fail
      go_ret
      exact ⟨rfl, hbr⟩

end Go.Proofs.Ytcegbilfcblhfaa
