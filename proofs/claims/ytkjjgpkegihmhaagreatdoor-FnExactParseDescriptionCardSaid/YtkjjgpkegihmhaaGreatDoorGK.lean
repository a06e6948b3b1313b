/-
  Several texts in one: MarkText, MarkByte, MarkString, MarkInt, MarkDesc, MarkD, HeldDesc, MarksPlain, AddMarks.
-/
import Derived.Test.YtkjjgpkegihmhaaGreatDoorProg
import Derived.Test.YtkjjgpkegihmhaaGreatDoorGA
import Derived.WalkKit
import Derived.WalkSpells
import Derived.WalkLawsBesides
import Derived.Lib.Hide
import Derived.Deep.RegionHeld3
import Derived.Deep.DrawnRows
import Derived.Test.YtkjjgpkegihmhaaGreatDoorGE
import Derived.Test.YtkjjgpkegihmhaaGreatDoorGB
import Derived.Test.YtkjjgpkegihmhaaGreatDoorGH
namespace Go.Proofs.YtkjjgpkegihmhaaGreatDoor
open Go.RowKit
attribute [local go_sem] mkS_append mkS_size

def markT (k : Nat) : List UInt8 := 109 :: fmtInt (k : Int)
theorem markT_zero : markT 0 = [109, 48] := by simp [markT, fmtInt]
theorem markT_pos {k : Nat} (h : 0 < k) : markT k = 109 :: dec k := by
  unfold markT fmtInt
  rw [if_neg (by omega), if_neg (by omega), Int.natAbs_natCast]
theorem markT_len {k : Nat} (h : k ≤ 1099511627776) : (markT k).length ≤ 14 := by
  rcases Nat.eq_zero_or_pos k with rfl | h0
  · rw [markT_zero]; simp
  · rw [markT_pos h0]
    have := dec_len 13 k (by omega)
    simp; omega

set_option maxHeartbeats 1000000 in
theorem l_markText (n : Int) (h0 : 0 ≤ n) (h1 : n ≤ 1099511627776) (w : World) :
    Calls Tryz.prog 92 #[.int .i64 n] w fun e w' => e = .returned (.string (mkS (markT n.toNat))) ∧ Below w.heap.size w w' := by
  by_cases hz : n ≤ 0
  · obtain rfl : n = 0 := by omega
    go_enter Tryz.func92, Tryz.ntmps92
    go_wp2_with fail
    go_ret
    exact ⟨ret_str (by rw [show (0 : Int).toNat = 0 from rfl, markT_zero]; rfl), Below.refl _ _⟩
  · have hlen : (dec n.toNat).length ≤ 13 := dec_len 13 _ (by omega)
    have hpos := Lib.hid (show 0 < n.toNat by omega)
    go_enter Tryz.func92, Tryz.ntmps92
    go_wp2_with fail
    go_loopw [0, 3] (fun x s wr => ∃ (q : Int) (t : List UInt8), x = .int .i64 q ∧ s = .string (mkS t) ∧ 0 ≤ q ∧ q ≤ 1099511627776 ∧ dec n.toNat = dec q.natAbs ++ t ∧ Below w.heap.size w wr)
      (fun x _ _ => (intOf x).natAbs)
    case atStart => exact ⟨n, [], rfl, rfl, h0, h1, by rw [List.append_nil]; congr 1; omega, Below.refl _ _⟩
    case round =>
      obtain ⟨q, t, rfl, rfl, hq1, hq2, hqt, hbr⟩ := hrel
      have hlt : t.length ≤ 13 := by rw [hqt] at hlen; simp at hlen; omega
      have hcv := conv_one wr
      have HT := Lib.hid hqt
      have HB := Lib.hid hbr
      clear hqt hbr
      by_cases hq : 0 < q
      · have HS := Lib.hid (dec_step (show q ≠ 0 by omega) t)
        have HD := Lib.hid (show q.tdiv 10 = q / 10 from Int.tdiv_eq_ediv_of_nonneg (by omega))
        go_wp2_with fail
        go_roundw
        case rel =>
          refine ⟨_, digit (q.natAbs % 10) :: t, rfl, ?_, ?_, ?_, ?_, (HB.out.alloc HB.out.size _)⟩
          · rw [digit_of _ (q.natAbs % 10) (by omega)]
          · omega
          · omega
          · rw [HT.out, HS.out, HD.out]
        case measure => simp [intOf]; omega
      · obtain rfl : q = 0 := by omega
        have hfin : Hid (t = dec n.toNat) := by show _ = _; rw [HT.out, show (0 : Int).natAbs = 0 from rfl, dec_zero, List.nil_append]
        go_wp2_with fail
        go_ret
        exact ⟨ret_str (by rw [hfin.out, markT_pos hpos.out]; rfl), HB.out⟩

end Go.Proofs.YtkjjgpkegihmhaaGreatDoor

namespace Go.Proofs.YtkjjgpkegihmhaaGreatDoor
open Go.RowKit

def mkByte (k n : Nat) : List Value := (List.range n).map fun i : Nat => .int .u8 (((k : Int) + (i : Int)) % 256)
theorem mkByte_len (k n : Nat) : (mkByte k n).length = n := by simp [mkByte]
theorem mkByte_at (k : Nat) {n j : Nat} (h : j < n) : (mkByte k n)[j]? = some (.int .u8 (((k : Int) + (j : Int)) % 256)) := by simp [mkByte, h]

/-- What a mark leaves. -/
def MarkedB (E : TypeId) (base : Nat) (v : Value) (n : Nat) (cs : List Value) (r : Int) (w : World) (e : Ending) (w' : World) : Prop :=
  e = .returned (.int .i64 r) ∧ w'.ownsRow base E 1 v n cs ∧ w.grownBy w' v.ownBlock

set_option maxHeartbeats 1000000 in
theorem l_markByteS (v : Value) (base k n : Nat) (xs : List Value) (hk : k + n ≤ 1099511627776) (w : World) (hown : w.ownsRow base 5 1 v n xs) :
    Calls Tryz.prog 48 #[v, .int .i64 (k : Int)] w (MarkedB 5 base v n (mkByte k n) ((k : Int) + (n : Int)) w) := by
  have hxl : xs.length = n := by rw [hown.1]; omega
  rcases hown.2 with ⟨rfl, rfl⟩ | ⟨g, cap, cur, rfl, hbg, hg, hnc, hcm, hcs, htake⟩
  · go_enter Tryz.func48, Tryz.ntmps48
    go_wp2_with fail
    refine wp_loop_rounds 1 ?_
    rw [rounds_succ]
    go_wp2_with fail
    go_ret
    exact ⟨ret_int (by simp), by simpa [mkByte] using World.ownsRow_nil w base 5 1, World.grownBy.refl w _⟩
  · unfold maxLen at hcm
    have HXL := Lib.hid hxl
    clear hg hcs htake hxl
    go_enter Tryz.func48, Tryz.ntmps48
    go_wp2_with fail
    go_loopw [1, 5] (fun c i wr => ∃ j : Nat, j ≤ n ∧ i = .int .i64 j ∧ c = .int .i64 ((k : Int) + (j : Int)) ∧ wr.ownsRow base 5 1 (.slice (some ⟨g, 0, none⟩) n cap) n ((mkByte k n).take j ++ xs.drop j) ∧ w.grownBy wr (some g))
      (fun _ i _ => n - (intOf i).toNat)
    case atStart => exact ⟨0, Nat.zero_le _, rfl, by simp, by simpa using hown, World.grownBy.refl w _⟩
    case round =>
      obtain ⟨j, hj, rfl, rfl, hownr, hgr⟩ := hrel
      clear hown
      by_cases hlt : j < n
      · have hzk : j < ((mkByte k n).take j ++ xs.drop j).length := by rw [hownr.1]; omega
        have hce : wr.cell? ⟨g, j, none⟩ = some (((mkByte k n).take j ++ xs.drop j)[j]) := by rw [hownr.cellAt j (by omega), List.getElem?_eq_getElem hzk]
        have hfe : wr.frozen? ⟨g, j, none⟩ = false := hownr.frozenAt j
        obtain ⟨old, hold⟩ : ∃ old, old = ((mkByte k n).take j ++ xs.drop j)[j] := ⟨_, rfl⟩
        rw [← hold] at hce
        have HS := Lib.hid (hownr.stored j (.int .u8 (((k : Int) + (j : Int)) % 256)))
        have HG := Lib.hid hgr
        clear hold hzk hownr hgr
        go_wp2_with fail
        go_roundw
        case rel =>
          obtain ⟨h1, h2⟩ := HS.out
          rw [take_set (mkByte k n) xs j _ (by rw [mkByte_len]; omega) (by rw [mkByte_len]; exact HXL.out) (mkByte_at k hlt)] at h1
          exact ⟨j + 1, by omega, by go_num, by go_num, h1, grown_trans' HG.out h2⟩
        case measure => simp [intOf]; omega
      · obtain rfl : j = n := by omega
        have HO := Lib.hid hownr
        have HG := Lib.hid hgr
        clear hownr hgr
        go_wp2_with fail
        go_ret
        refine ⟨rfl, ?_, HG.out⟩
        have h1 := HO.out
        rwa [List.take_of_length_le (by rw [mkByte_len]; exact Nat.le_refl _), List.drop_of_length_le (by rw [HXL.out]; exact Nat.le_refl _), List.append_nil] at h1

set_option maxHeartbeats 1000000 in
theorem l_heldByteS (v : Value) (k n : Nat) (hk : k + n ≤ 1099511627776) (w : World) (h : Rd w v 1 n (mkByte k n)) :
    Calls Tryz.prog 51 #[v, .int .i64 (k : Int)] w fun e w' => e = .returned (.int .i64 ((k : Int) + (n : Int))) ∧ w = w' := by
  obtain ⟨_, A, c, rfl, hnc, hcm, hcell⟩ := h
  unfold maxLen at hcm
  have HC := Lib.hid hcell; clear hcell
  go_enter Tryz.func51, Tryz.ntmps51
  go_wp2_with fail
  go_loop [1, 5] (fun c i => ∃ j : Nat, j ≤ n ∧ i = .int .i64 j ∧ c = .int .i64 ((k : Int) + (j : Int))) (fun _ i => n - (intOf i).toNat)
  case atStart => exact ⟨0, Nat.zero_le _, rfl, by simp⟩
  case round =>
    obtain ⟨j, hj, rfl, rfl⟩ := hrel
    by_cases hlt : j < n
    · obtain ⟨b, off, rfl, hc⟩ := HC.out (by rw [mkByte_len]; omega)
      have hcl : w.cell? ⟨b, off + j, none⟩ = some (.int .u8 (((k : Int) + (j : Int)) % 256)) := hc j _ (mkByte_at k hlt)
      clear hc
      go_wp2_with fail
      go_round
      case rel => exact ⟨j + 1, by omega, by go_num, by go_num⟩
      case measure => simp [intOf]; omega
    · obtain rfl : j = n := by omega
      go_wp2_with fail
      go_ret
      exact ⟨rfl, rfl⟩

end Go.Proofs.YtkjjgpkegihmhaaGreatDoor

namespace Go.Proofs.YtkjjgpkegihmhaaGreatDoor
open Go.RowKit

def mkString (k n : Nat) : List Value := (List.range n).map fun i : Nat => .string (mkS (markT (k + i)))
theorem mkString_len (k n : Nat) : (mkString k n).length = n := by simp [mkString]
theorem mkString_at (k : Nat) {n j : Nat} (h : j < n) : (mkString k n)[j]? = some (.string (mkS (markT (k + j)))) := by simp [mkString, h]

/-- What a mark leaves. -/
def MarkedS (E : TypeId) (base : Nat) (v : Value) (n : Nat) (cs : List Value) (r : Int) (w : World) (e : Ending) (w' : World) : Prop :=
  e = .returned (.int .i64 r) ∧ w'.ownsRow base E 1 v n cs ∧ w.grownBy w' v.ownBlock

theorem grown_belowM {a w w' : World} {row : Option Nat} (h : a.grownBy w row) (hb : Below w.heap.size w w') : a.grownBy w' row :=
  ⟨hb.os.trans h.os, hb.tape.trans h.tape, hb.output.trans h.output, Nat.le_trans h.size hb.size, fun i hi hn => (hb.block i (Nat.lt_of_lt_of_le hi h.size)).trans (h.block i hi hn)⟩

set_option maxHeartbeats 1000000 in
theorem l_markStringS (v : Value) (base k n : Nat) (xs : List Value) (hk : k + n ≤ 1099511627776) (w : World) (hown : w.ownsRow base 9 1 v n xs) :
    Calls Tryz.prog 49 #[v, .int .i64 (k : Int)] w (MarkedS 9 base v n (mkString k n) ((k : Int) + (n : Int)) w) := by
  have hxl : xs.length = n := by rw [hown.1]; omega
  rcases hown.2 with ⟨rfl, rfl⟩ | ⟨g, cap, cur, rfl, hbg, hg, hnc, hcm, hcs, htake⟩
  · go_enter Tryz.func49, Tryz.ntmps49
    go_wp2_with fail
    refine wp_loop_rounds 1 ?_
    rw [rounds_succ]
    go_wp2_with fail
    go_ret
    exact ⟨ret_int (by simp), by simpa [mkString] using World.ownsRow_nil w base 9 1, World.grownBy.refl w _⟩
  · unfold maxLen at hcm
    have HXL := Lib.hid hxl
    clear hg hcs htake hxl
    go_enter Tryz.func49, Tryz.ntmps49
    go_wp2_with fail
    go_loopw [1, 5] (fun c i wr => ∃ j : Nat, j ≤ n ∧ i = .int .i64 j ∧ c = .int .i64 ((k : Int) + (j : Int)) ∧ wr.ownsRow base 9 1 (.slice (some ⟨g, 0, none⟩) n cap) n ((mkString k n).take j ++ xs.drop j) ∧ w.grownBy wr (some g))
      (fun _ i _ => n - (intOf i).toNat)
    case atStart => exact ⟨0, Nat.zero_le _, rfl, by simp, by simpa using hown, World.grownBy.refl w _⟩
    case round =>
      obtain ⟨j, hj, rfl, rfl, hownr, hgr⟩ := hrel
      clear hown
      by_cases hlt : j < n
      · have HO := Lib.hid hownr
        have HG := Lib.hid hgr
        clear hownr hgr
        go_wp2_with fail
        refine (l_markText _ (by omega) (by omega) _).mono ?_
        rw [show ((k : Int) + (j : Int)).toNat = k + j from by omega]
        rintro e w1 ⟨rfl, hb1⟩
        have hown1 := own_below HO.out hb1
        have hzk : j < ((mkString k n).take j ++ xs.drop j).length := by rw [hown1.1]; omega
        have hce : w1.cell? ⟨g, j, none⟩ = some (((mkString k n).take j ++ xs.drop j)[j]) := by rw [hown1.cellAt j (by omega), List.getElem?_eq_getElem hzk]
        have hfe : w1.frozen? ⟨g, j, none⟩ = false := hown1.frozenAt j
        obtain ⟨old, hold⟩ : ∃ old, old = ((mkString k n).take j ++ xs.drop j)[j] := ⟨_, rfl⟩
        rw [← hold] at hce
        have HS := Lib.hid (hown1.stored j (.string (mkS (markT (k + j)))))
        have HG1 := Lib.hid (grown_belowM HG.out hb1)
        clear hold hzk hown1 hb1
        go_wp2_with fail
        go_roundw
        case rel =>
          obtain ⟨h1, h2⟩ := HS.out
          rw [take_set (mkString k n) xs j _ (by rw [mkString_len]; omega) (by rw [mkString_len]; exact HXL.out) (mkString_at k hlt)] at h1
          exact ⟨j + 1, by omega, by go_num, by go_num, h1, grown_trans' HG1.out h2⟩
        case measure => simp [intOf]; omega
      · obtain rfl : j = n := by omega
        have HO := Lib.hid hownr
        have HG := Lib.hid hgr
        clear hownr hgr
        go_wp2_with fail
        go_ret
        refine ⟨rfl, ?_, HG.out⟩
        have h1 := HO.out
        rwa [List.take_of_length_le (by rw [mkString_len]; exact Nat.le_refl _), List.drop_of_length_le (by rw [HXL.out]; exact Nat.le_refl _), List.append_nil] at h1

theorem str_eq (s : ByteArray) : (s.toList == s.toList) = true := by simp
theorem cell_later2 {w0 w1 : World} {p : Addr} {u : Value} (hb : Below w0.heap.size w0 w1) (h : w0.cell? p = some u) : w1.cell? p = some u := (hb.cell (World.block_lt_of_cell? w0 _ h)).trans h

set_option maxHeartbeats 1000000 in
theorem l_heldStringS (v : Value) (k n : Nat) (hk : k + n ≤ 1099511627776) (w : World) (h : Rd w v 1 n (mkString k n)) :
    Calls Tryz.prog 52 #[v, .int .i64 (k : Int)] w fun e w' => e = .returned (.int .i64 ((k : Int) + (n : Int))) ∧ Below w.heap.size w w' := by
  obtain ⟨_, A, c, rfl, hnc, hcm, hcell⟩ := h
  unfold maxLen at hcm
  have HC := Lib.hid hcell; clear hcell
  go_enter Tryz.func52, Tryz.ntmps52
  go_wp2_with fail
  go_loopw [1, 5] (fun c i wr => ∃ j : Nat, j ≤ n ∧ i = .int .i64 j ∧ c = .int .i64 ((k : Int) + (j : Int)) ∧ Below w.heap.size w wr) (fun _ i _ => n - (intOf i).toNat)
  case atStart => exact ⟨0, Nat.zero_le _, rfl, by simp, Below.refl _ _⟩
  case round =>
    obtain ⟨j, hj, rfl, rfl, hbr⟩ := hrel
    by_cases hlt : j < n
    · obtain ⟨b, off, rfl, hc⟩ := HC.out (by rw [mkString_len]; omega)
      have hcl : w.cell? ⟨b, off + j, none⟩ = some (.string (mkS (markT (k + j)))) := hc j _ (mkString_at k hlt)
      have hcr : wr.cell? ⟨b, off + j, none⟩ = some (.string (mkS (markT (k + j)))) := (hbr.cell (World.block_lt_of_cell? w _ hcl)).trans hcl
      have HCR := Lib.hid hcr
      have HB := Lib.hid hbr
      have hlti : (j : Int) < (n : Int) := by omega
      clear hc hcl hcr hbr
      go_wp2_with fail
      have hkj : ((k : Int) + (j : Int)).toNat = k + j := by omega
      have HKJ := Lib.hid hkj
      have HCB := Lib.hid (World.block_lt_of_cell? wr _ HCR.out)
      have hq := str_eq (mkS (markT (k + j)))
      have hcr := HCR.out
      clear hkj
      go_region_held3 (fun w' => w'.cell? ⟨b, off + j, none⟩ = some (.string (mkS (markT (k + j))))) (first | go_keep | (exact cell_later2 hbx HCR.out)) ((go_at_call 92; refine (l_markText _ (by omega) (by omega) _).mono ?_; rw [HKJ.out]; rintro e w1 ⟨rfl, hbx⟩))
      go_wp2_with fail
      go_roundw
      case rel => exact ⟨j + 1, by omega, by go_num, by go_num, Below.then_ HB.out.drew hbx (Nat.le_refl _)⟩
      case measure => simp [intOf]; omega
    · obtain rfl : j = n := by omega
      go_wp2_with fail
      go_ret
      exact ⟨rfl, hbr⟩

end Go.Proofs.YtkjjgpkegihmhaaGreatDoor

namespace Go.Proofs.YtkjjgpkegihmhaaGreatDoor
open Go.RowKit

def mkInt (k n : Nat) : List Value := (List.range n).map fun i : Nat => .int .i64 ((k : Int) + (i : Int))
theorem mkInt_len (k n : Nat) : (mkInt k n).length = n := by simp [mkInt]
theorem mkInt_at (k : Nat) {n j : Nat} (h : j < n) : (mkInt k n)[j]? = some (.int .i64 ((k : Int) + (j : Int))) := by simp [mkInt, h]

/-- What a mark leaves. -/
def MarkedI (E : TypeId) (base : Nat) (v : Value) (n : Nat) (cs : List Value) (r : Int) (w : World) (e : Ending) (w' : World) : Prop :=
  e = .returned (.int .i64 r) ∧ w'.ownsRow base E 1 v n cs ∧ w.grownBy w' v.ownBlock

set_option maxHeartbeats 1000000 in
theorem l_markIntS (v : Value) (base k n : Nat) (xs : List Value) (hk : k + n ≤ 1099511627776) (w : World) (hown : w.ownsRow base 3 1 v n xs) :
    Calls Tryz.prog 50 #[v, .int .i64 (k : Int)] w (MarkedI 3 base v n (mkInt k n) ((k : Int) + (n : Int)) w) := by
  have hxl : xs.length = n := by rw [hown.1]; omega
  rcases hown.2 with ⟨rfl, rfl⟩ | ⟨g, cap, cur, rfl, hbg, hg, hnc, hcm, hcs, htake⟩
  · go_enter Tryz.func50, Tryz.ntmps50
    go_wp2_with fail
    refine wp_loop_rounds 1 ?_
    rw [rounds_succ]
    go_wp2_with fail
    go_ret
    exact ⟨ret_int (by simp), by simpa [mkInt] using World.ownsRow_nil w base 3 1, World.grownBy.refl w _⟩
  · unfold maxLen at hcm
    have HXL := Lib.hid hxl
    clear hg hcs htake hxl
    go_enter Tryz.func50, Tryz.ntmps50
    go_wp2_with fail
    go_loopw [1, 5] (fun c i wr => ∃ j : Nat, j ≤ n ∧ i = .int .i64 j ∧ c = .int .i64 ((k : Int) + (j : Int)) ∧ wr.ownsRow base 3 1 (.slice (some ⟨g, 0, none⟩) n cap) n ((mkInt k n).take j ++ xs.drop j) ∧ w.grownBy wr (some g))
      (fun _ i _ => n - (intOf i).toNat)
    case atStart => exact ⟨0, Nat.zero_le _, rfl, by simp, by simpa using hown, World.grownBy.refl w _⟩
    case round =>
      obtain ⟨j, hj, rfl, rfl, hownr, hgr⟩ := hrel
      clear hown
      by_cases hlt : j < n
      · have hzk : j < ((mkInt k n).take j ++ xs.drop j).length := by rw [hownr.1]; omega
        have hce : wr.cell? ⟨g, j, none⟩ = some (((mkInt k n).take j ++ xs.drop j)[j]) := by rw [hownr.cellAt j (by omega), List.getElem?_eq_getElem hzk]
        have hfe : wr.frozen? ⟨g, j, none⟩ = false := hownr.frozenAt j
        obtain ⟨old, hold⟩ : ∃ old, old = ((mkInt k n).take j ++ xs.drop j)[j] := ⟨_, rfl⟩
        rw [← hold] at hce
        have HS := Lib.hid (hownr.stored j (.int .i64 ((k : Int) + (j : Int))))
        have HG := Lib.hid hgr
        clear hold hzk hownr hgr
        go_wp2_with fail
        go_roundw
        case rel =>
          obtain ⟨h1, h2⟩ := HS.out
          rw [take_set (mkInt k n) xs j _ (by rw [mkInt_len]; omega) (by rw [mkInt_len]; exact HXL.out) (mkInt_at k hlt)] at h1
          exact ⟨j + 1, by omega, by go_num, by go_num, h1, grown_trans' HG.out h2⟩
        case measure => simp [intOf]; omega
      · obtain rfl : j = n := by omega
        have HO := Lib.hid hownr
        have HG := Lib.hid hgr
        clear hownr hgr
        go_wp2_with fail
        go_ret
        refine ⟨rfl, ?_, HG.out⟩
        have h1 := HO.out
        rwa [List.take_of_length_le (by rw [mkInt_len]; exact Nat.le_refl _), List.drop_of_length_le (by rw [HXL.out]; exact Nat.le_refl _), List.append_nil] at h1

set_option maxHeartbeats 1000000 in
theorem l_heldIntS (v : Value) (k n : Nat) (hk : k + n ≤ 1099511627776) (w : World) (h : Rd w v 1 n (mkInt k n)) :
    Calls Tryz.prog 53 #[v, .int .i64 (k : Int)] w fun e w' => e = .returned (.int .i64 ((k : Int) + (n : Int))) ∧ w = w' := by
  obtain ⟨_, A, c, rfl, hnc, hcm, hcell⟩ := h
  unfold maxLen at hcm
  have HC := Lib.hid hcell; clear hcell
  go_enter Tryz.func53, Tryz.ntmps53
  go_wp2_with fail
  go_loop [1, 5] (fun c i => ∃ j : Nat, j ≤ n ∧ i = .int .i64 j ∧ c = .int .i64 ((k : Int) + (j : Int))) (fun _ i => n - (intOf i).toNat)
  case atStart => exact ⟨0, Nat.zero_le _, rfl, by simp⟩
  case round =>
    obtain ⟨j, hj, rfl, rfl⟩ := hrel
    by_cases hlt : j < n
    · obtain ⟨b, off, rfl, hc⟩ := HC.out (by rw [mkInt_len]; omega)
      have hcl : w.cell? ⟨b, off + j, none⟩ = some (.int .i64 ((k : Int) + (j : Int))) := hc j _ (mkInt_at k hlt)
      clear hc
      go_wp2_with fail
      go_round
      case rel => exact ⟨j + 1, by omega, by go_num, by go_num⟩
      case measure => simp [intOf]; omega
    · obtain rfl : j = n := by omega
      go_wp2_with fail
      go_ret
      exact ⟨rfl, rfl⟩

end Go.Proofs.YtkjjgpkegihmhaaGreatDoor

namespace Go.Proofs.YtkjjgpkegihmhaaGreatDoor
open Go.RowKit
set_option linter.unusedVariables false

def byteMarks (k n : Nat) : List UInt8 := (List.range n).map fun i => UInt8.ofNat ((k + i) % 256)
def textMarks (k n : Nat) : List ByteArray := (List.range n).map fun i => mkS (markT (k + i))
def intMarks (k n : Nat) : List Int := (List.range n).map fun i : Nat => ((k : Int) + (i : Int))
theorem byteMarks_len (k n : Nat) : (byteMarks k n).length = n := by simp [byteMarks]
theorem textMarks_len (k n : Nat) : (textMarks k n).length = n := by simp [textMarks]
theorem intMarks_len (k n : Nat) : (intMarks k n).length = n := by simp [intMarks]
theorem cB_marks (k n : Nat) : mkByte k n = cB (byteMarks k n) := by
  unfold mkByte cB byteMarks
  rw [List.map_map]
  refine List.map_congr_left fun i _ => ?_
  show Value.int .u8 (((k : Int) + (i : Int)) % 256) = .int .u8 ((UInt8.ofNat ((k + i) % 256)).toNat : Int)
  rw [UInt8.toNat_ofNat', Nat.mod_mod]
  congr 1
theorem cS_marks (k n : Nat) : mkString k n = cS (textMarks k n) := by
  unfold mkString cS textMarks
  rw [List.map_map]
  rfl
theorem cI_marks (k n : Nat) : mkInt k n = cI (intMarks k n) := by
  unfold mkInt cI intMarks
  rw [List.map_map]
  rfl

/-- A rule with its marks. -/
def markRule (k : Nat) (r : RuleD) : RuleD :=
  { name := mkS (markT k), kind := (k : Int) + 1, size := (k : Int) + 1 + 1, little := ((k : Int) + 1 + 1 + 1) % 3 == 0, bytes := byteMarks (k + 4) r.bytes.length, names := textMarks (k + 4 + r.bytes.length) r.names.length,
    tags := intMarks (k + 4 + r.bytes.length + r.names.length) r.tags.length, kids := intMarks (k + 4 + r.bytes.length + r.names.length + r.tags.length) r.kids.length }
def ruleCount (r : RuleD) : Nat := 4 + r.bytes.length + r.names.length + r.tags.length + r.kids.length
def countTo (l : List RuleD) (i : Nat) : Nat := ((l.take i).map ruleCount).sum
theorem countTo_step (l : List RuleD) (i : Nat) (h : i < l.length) : countTo l (i + 1) = countTo l i + ruleCount l[i] := by
  unfold countTo
  rw [List.take_succ_eq_append_getElem h, List.map_append, List.sum_append]
  simp
/-- The rules, those below i with their marks. -/
def markedTo (l : List RuleD) (k i : Nat) : List RuleD := (List.range l.length).map fun j => if j < i then markRule (k + countTo l j) (ruleAt l j) else ruleAt l j
theorem markedTo_len (l : List RuleD) (k i : Nat) : (markedTo l k i).length = l.length := by simp [markedTo]
theorem markedTo_zero (l : List RuleD) (k : Nat) : markedTo l k 0 = l := by
  apply List.ext_getElem?
  intro j
  unfold markedTo
  by_cases hj : j < l.length
  · simp [hj, ruleAt]
  · simp [hj]
theorem markedTo_at {l : List RuleD} {k i : Nat} (h : i < l.length) : (markedTo l k i)[i]? = some l[i] := by
  unfold markedTo
  simp [h, ruleAt]
theorem markedTo_step {l : List RuleD} {k i : Nat} (h : i < l.length) : (markedTo l k i).set i (markRule (k + countTo l i) l[i]) = markedTo l k (i + 1) := by
  apply List.ext_getElem?
  intro j
  by_cases hij : i = j
  · subst hij
    rw [List.getElem?_set_self (by rw [markedTo_len]; exact h)]
    unfold markedTo
    simp [h, ruleAt]
  · rw [List.getElem?_set_ne hij]
    unfold markedTo
    by_cases hj : j < l.length
    · simp only [List.getElem?_map, List.getElem?_range hj, Option.map_some]
      congr 1
      by_cases h1 : j < i
      · rw [if_pos h1, if_pos (by omega)]
      · rw [if_neg h1, if_neg (by omega)]
    · rw [List.getElem?_eq_none (by simp; omega), List.getElem?_eq_none (by simp; omega)]

section
variable {w w' : World} {lo hi g cap n : Nat} {css : List (List Value)} {rs : List RuleD}
theorem RulesAt.parts (h : RulesAt w lo hi g cap n css rs) {i : Nat} {r : RuleD} {vb vn vt vk : Value} (hi' : css[i]? = some (ruleCells r vb vn vt vk)) (hr : rs[i]? = some r) :
    w.ownsRow lo 5 1 vb r.bytes.length (cB r.bytes) ∧ w.ownsRow lo 9 1 vn r.names.length (cS r.names) ∧ w.ownsRow lo 3 1 vt r.tags.length (cI r.tags) ∧ w.ownsRow lo 3 1 vk r.kids.length (cI r.kids) := by
  obtain ⟨vb', vn', vt', vk', e, k1, k2, k3, k4⟩ := h.each i _ r hi' hr
  unfold ruleCells at e
  injection e with _ e; injection e with _ e; injection e with _ e; injection e with _ e; injection e with e1 e; injection e with e2 e; injection e with e3 e; injection e with e4 _
  subst e1; subst e2; subst e3; subst e4
  exact ⟨k1, k2, k3, k4⟩
theorem RulesAt.own_in (h : RulesAt w lo hi g cap n css rs) {i : Nat} {r : RuleD} {vb vn vt vk : Value} (hi' : css[i]? = some (ruleCells r vb vn vt vk)) (hr : rs[i]? = some r) :
    ∀ v ∈ [vb, vn, vt, vk], ∀ b, v.ownBlock = some b → lo ≤ b ∧ b < hi := by
  intro v hv b hb
  obtain ⟨k1, k2, k3, k4⟩ := h.parts hi' hr
  have hm : b ∈ blocks (ruleCells r vb vn vt vk) := by rw [blocks_rule]; exact List.mem_filterMap.2 ⟨v, hv, hb⟩
  refine ⟨?_, h.lt b (h.mem_blocks hi' b hm)⟩
  simp only [List.mem_cons, List.not_mem_nil, or_false] at hv
  rcases hv with rfl | rfl | rfl | rfl
  · exact (k1.lt b hb).1
  · exact (k2.lt b hb).1
  · exact (k3.lt b hb).1
  · exact (k4.lt b hb).1
theorem set_at {α : Type} {l : List α} {i : Nat} {x : α} (h : i < l.length) : (l.set i x)[i]? = some x := List.getElem?_set_self h
theorem RulesAt.lt_ (h : RulesAt w lo hi g cap n css rs) {i : Nat} {cs : List Value} (hi' : css[i]? = some cs) : i < n := by
  have := h.len
  have := (List.getElem?_eq_some_iff.1 hi').1
  omega
theorem RulesAt.store2 {i j : Nat} {r r' : RuleD} {vb vn vt vk u : Value} (h : RulesAt w lo hi g cap n css (rs.set i r)) (hj : j < 8) (hi' : css[i]? = some (ruleCells r vb vn vt vk))
    (hset : (ruleCells r vb vn vt vk).set j u = ruleCells r' vb vn vt vk) (h1 : r'.bytes = r.bytes) (h2 : r'.names = r.names) (h3 : r'.tags = r.tags) (h4 : r'.kids = r.kids) :
    (∃ css2, css2[i]? = some (ruleCells r' vb vn vt vk) ∧ RulesAt (w.setCell ⟨g, i * 8 + j, none⟩ u) lo hi g cap n css2 (rs.set i r')) ∧ Within lo hi w (w.setCell ⟨g, i * 8 + j, none⟩ u) := by
  have hil := h.lt_ hi'
  have hl : i < rs.length := by have := h.rlen; simp at this; omega
  obtain ⟨a, b⟩ := h.store hj hi' (set_at hl) hset h1 h2 h3 h4
  rw [List.set_set] at a
  refine ⟨⟨_, set_at (by have := h.len; omega), a⟩, Within.of_grown b (fun k hk => ?_)⟩
  cases hk
  exact ⟨h.glo, h.ghi⟩
theorem RulesAt.bytes2 {i : Nat} {r : RuleD} {vb vn vt vk : Value} (h : RulesAt w lo hi g cap n css (rs.set i r)) (hi' : css[i]? = some (ruleCells r vb vn vt vk)) (xs : List UInt8) (hx : xs.length = r.bytes.length)
    (ho : w'.ownsRow lo 5 1 vb r.bytes.length (cB xs)) (hg : w.grownBy w' vb.ownBlock) :
    RulesAt w' lo hi g cap n css (rs.set i { r with bytes := xs }) ∧ css[i]? = some (ruleCells { r with bytes := xs } vb vn vt vk) ∧ Within lo hi w w' := by
  have hil := h.lt_ hi'
  have hl : i < rs.length := by have := h.rlen; simp at this; omega
  have a := h.bytes hi' (set_at hl) xs hx ho hg
  rw [List.set_set] at a
  exact ⟨a, hi', Within.of_grown hg (fun b hb => h.own_in hi' (set_at hl) vb (by simp) b hb)⟩
theorem RulesAt.names2 {i : Nat} {r : RuleD} {vb vn vt vk : Value} (h : RulesAt w lo hi g cap n css (rs.set i r)) (hi' : css[i]? = some (ruleCells r vb vn vt vk)) (xs : List ByteArray) (hx : xs.length = r.names.length)
    (ho : w'.ownsRow lo 9 1 vn r.names.length (cS xs)) (hg : w.grownBy w' vn.ownBlock) :
    RulesAt w' lo hi g cap n css (rs.set i { r with names := xs }) ∧ css[i]? = some (ruleCells { r with names := xs } vb vn vt vk) ∧ Within lo hi w w' := by
  have hil := h.lt_ hi'
  have hl : i < rs.length := by have := h.rlen; simp at this; omega
  have a := h.names hi' (set_at hl) xs hx ho hg
  rw [List.set_set] at a
  exact ⟨a, hi', Within.of_grown hg (fun b hb => h.own_in hi' (set_at hl) vn (by simp) b hb)⟩
theorem RulesAt.tags2 {i : Nat} {r : RuleD} {vb vn vt vk : Value} (h : RulesAt w lo hi g cap n css (rs.set i r)) (hi' : css[i]? = some (ruleCells r vb vn vt vk)) (xs : List Int) (hx : xs.length = r.tags.length)
    (ho : w'.ownsRow lo 3 1 vt r.tags.length (cI xs)) (hg : w.grownBy w' vt.ownBlock) :
    RulesAt w' lo hi g cap n css (rs.set i { r with tags := xs }) ∧ css[i]? = some (ruleCells { r with tags := xs } vb vn vt vk) ∧ Within lo hi w w' := by
  have hil := h.lt_ hi'
  have hl : i < rs.length := by have := h.rlen; simp at this; omega
  have a := h.tags hi' (set_at hl) xs hx ho hg
  rw [List.set_set] at a
  exact ⟨a, hi', Within.of_grown hg (fun b hb => h.own_in hi' (set_at hl) vt (by simp) b hb)⟩
theorem RulesAt.kids2 {i : Nat} {r : RuleD} {vb vn vt vk : Value} (h : RulesAt w lo hi g cap n css (rs.set i r)) (hi' : css[i]? = some (ruleCells r vb vn vt vk)) (xs : List Int) (hx : xs.length = r.kids.length)
    (ho : w'.ownsRow lo 3 1 vk r.kids.length (cI xs)) (hg : w.grownBy w' vk.ownBlock) :
    RulesAt w' lo hi g cap n css (rs.set i { r with kids := xs }) ∧ css[i]? = some (ruleCells { r with kids := xs } vb vn vt vk) ∧ Within lo hi w w' := by
  have hil := h.lt_ hi'
  have hl : i < rs.length := by have := h.rlen; simp at this; omega
  have a := h.kids hi' (set_at hl) xs hx ho hg
  rw [List.set_set] at a
  exact ⟨a, hi', Within.of_grown hg (fun b hb => h.own_in hi' (set_at hl) vk (by simp) b hb)⟩
end

set_option maxHeartbeats 8000000 in
theorem l_markRuleS (lo hi g cap : Nat) (css : List (List Value)) (l : List RuleD) (k : Nat) (hk : k + countTo l l.length ≤ 1099511627776) (hcap : l.length ≤ cap ∧ cap ≤ maxLen) (w : World) (h : RulesAt w lo hi g cap l.length css l) :
    Calls Tryz.prog 47 #[.slice (some ⟨g, 0, none⟩) l.length cap, .int .i64 (k : Int)] w
      fun e w' => e = .returned (.int .i64 ((k + countTo l l.length : Nat) : Int)) ∧ (∃ css', RulesAt w' lo hi g cap l.length css' (markedTo l k l.length)) ∧ Within lo hi w w' := by
  obtain ⟨hc1, hc2⟩ := hcap
  unfold maxLen at hc2
  have H := Lib.hid h
  clear h
  obtain ⟨n, hn⟩ : ∃ n, n = l.length := ⟨_, rfl⟩
  have HN := Lib.hid hn
  have cle : ∀ i, i ≤ n → countTo l i ≤ countTo l l.length := by
    intro i hi
    have : ∀ d i, i + d = n → countTo l i ≤ countTo l l.length := by
      intro d
      induction d with
      | zero => intro i hi; rw [← hn, ← hi]; exact Nat.le_refl _
      | succ d ih =>
        intro i hi
        have h1 := ih (i + 1) (by omega)
        rw [countTo_step l i (by omega)] at h1
        omega
    exact this (n - i) i (by omega)
  have CLE := Lib.hid cle
  have HK := Lib.hid hk
  rw [← hn] at hc1 ⊢
  clear hn cle hk
  go_enter Tryz.func47, Tryz.ntmps47
  go_wp2_with fail
  go_loopw [1, 5] (fun c i wr => ∃ j : Nat, ∃ q : Nat, j ≤ n ∧ i = .int .i64 j ∧ c = .int .i64 (q : Int) ∧ q = k + countTo l j ∧ (∃ css', RulesAt wr lo hi g cap n css' (markedTo l k j)) ∧ Within lo hi w wr) (fun _ i _ => n - (intOf i).toNat)
  case atStart => exact ⟨0, k, Nat.zero_le _, rfl, rfl, by simp [countTo], ⟨css, by rw [markedTo_zero, HN.out]; exact H.out⟩, Within.refl _ _ _⟩
  case round =>
    obtain ⟨j, q, hj, rfl, rfl, hq, ⟨css', hra⟩, hwi⟩ := hrel
    by_cases hlt : j < n
    · have hjl : j < l.length := by rw [← HN.out]; exact hlt
      have hst := countTo_step l j hjl
      have hle := CLE.out (j + 1) (by omega)
      have hbound := HK.out
      obtain ⟨r, hr0⟩ : ∃ r, r = l[j] := ⟨_, rfl⟩
      have hrj : (markedTo l k j)[j]? = some r := by rw [markedTo_at hjl, hr0]
      rw [← hr0] at hst
      unfold ruleCount at hst
      have hqb : q + 4 + r.bytes.length + r.names.length + r.tags.length + r.kids.length ≤ 1099511627776 := by omega
      obtain ⟨vb, vn, vt, vk, hcs, ob, on, ot, ok⟩ := hra.slots hrj
      have HRA := Lib.hid hra
      have HWI := Lib.hid hwi
      have HST := Lib.hid hst
      have HQ := Lib.hid hq
      have HCS := Lib.hid hcs
      have HRJ := Lib.hid hrj
      have HR0 := Lib.hid hr0
      have HLT := Lib.hid hjl
      clear hst hle hbound hq hcs ob on ot ok hra hwi hrj hr0
      go_wp2_with fail
      refine (l_markText _ (by omega) (by omega) _).mono ?_
      rw [show ((q : Nat) : Int).toNat = q from by omega]
      rintro e w1 ⟨rfl, hb1⟩
      have ra1 := HRA.out.below hb1
      have HW1 := Lib.hid (HWI.out.trans (Within.of_below hb1))
      obtain ⟨a0, f0⟩ := ra1.cell HCS.out 0 (by omega)
      obtain ⟨a1, f1⟩ := ra1.cell HCS.out 1 (by omega)
      obtain ⟨a2, f2⟩ := ra1.cell HCS.out 2 (by omega)
      obtain ⟨a3, f3⟩ := ra1.cell HCS.out 3 (by omega)
      obtain ⟨a4, f4⟩ := ra1.cell HCS.out 4 (by omega)
      have b0 : w1.cell? ⟨g, j * 8, none⟩ = some (.string r.name) := a0
      have b1 : w1.cell? ⟨g, j * 8 + 1, none⟩ = some (.int .i64 r.kind) := a1
      have b2 : w1.cell? ⟨g, j * 8 + 2, none⟩ = some (.int .i64 r.size) := a2
      have b3 : w1.cell? ⟨g, j * 8 + 3, none⟩ = some (.bool r.little) := a3
      have b4 : w1.cell? ⟨g, j * 8 + 4, none⟩ = some vb := a4
      have g0 : w1.frozen? ⟨g, j * 8, none⟩ = false := f0
      have ra0 : RulesAt w1 lo hi g cap n css' ((markedTo l k j).set j r) := by
        have e : (markedTo l k j).set j r = markedTo l k j := by
          obtain ⟨h1, h2⟩ := List.getElem?_eq_some_iff.1 HRJ.out
          rw [← h2, List.set_getElem_self]
        rw [e]; exact ra1
      obtain ⟨⟨cs0, hc0, ra0⟩, wi0⟩ := ra0.store2 (j := 0) (r' := { r with name := mkS (markT q) }) (u := .string (mkS (markT q))) (by omega) HCS.out rfl rfl rfl rfl rfl
      obtain ⟨⟨cs1, hc1', ra2⟩, wi1⟩ := ra0.store2 (j := 1) (r' := { r with name := mkS (markT q), kind := (q : Int) + 1 }) (u := .int .i64 ((q : Int) + 1)) (by omega) hc0 rfl rfl rfl rfl rfl
      obtain ⟨⟨cs2, hc2', ra3⟩, wi2⟩ := ra2.store2 (j := 2) (r' := { r with name := mkS (markT q), kind := (q : Int) + 1, size := (q : Int) + 1 + 1 }) (u := .int .i64 ((q : Int) + 1 + 1)) (by omega) hc1' rfl rfl rfl rfl rfl
      obtain ⟨⟨cs3, hc3', ra4⟩, wi3⟩ := ra3.store2 (j := 3) (r' := { r with name := mkS (markT q), kind := (q : Int) + 1, size := (q : Int) + 1 + 1, little := ((q : Int) + 1 + 1 + 1) % 3 == 0 }) (u := .bool (((q : Int) + 1 + 1 + 1) % 3 == 0)) (by omega) hc2' rfl rfl rfl rfl rfl
      obtain ⟨w2, hw2⟩ : ∃ w2, w2 = (((w1.setCell ⟨g, j * 8, none⟩ (.string (mkS (markT q)))).setCell ⟨g, j * 8 + 1, none⟩ (.int .i64 ((q : Int) + 1))).setCell ⟨g, j * 8 + 2, none⟩ (.int .i64 ((q : Int) + 1 + 1))).setCell ⟨g, j * 8 + 3, none⟩ (.bool (((q : Int) + 1 + 1 + 1) % 3 == 0)) := ⟨_, rfl⟩
      have ra5 : RulesAt w2 lo hi g cap n cs3 ((markedTo l k j).set j { r with name := mkS (markT q), kind := (q : Int) + 1, size := (q : Int) + 1 + 1, little := ((q : Int) + 1 + 1 + 1) % 3 == 0 }) := by rw [hw2]; exact ra4
      have wi5 : Within lo hi w w2 := by rw [hw2]; exact (((HW1.out.trans wi0).trans wi1).trans wi2).trans wi3
      have HW2 := Lib.hid hw2
      have RA5 := Lib.hid ra5
      have WI5 := Lib.hid wi5
      have HC3 := Lib.hid hc3'
      have hml : j < (markedTo l k j).length := by rw [markedTo_len]; exact hjl
      have HML := Lib.hid hml
      clear a0 a1 a2 a3 a4 f0 f4 hb1 ra1 ra0 ra2 ra3 ra4 ra5 wi0 wi1 wi2 wi3 wi5 hc0 hc1' hc2' hc3' hw2 hml
      go_wp2_with fail
      rw [← HW2.out]
      obtain ⟨p01, p02, p03, p04⟩ := RA5.out.parts HC3.out (set_at HML.out)
      have M0 := l_markByteS vb lo (q + 4) r.bytes.length _ (by omega) w2 p01
      obtain ⟨z0, hz0⟩ : ∃ z : Int, z = (((q + 4 : Nat) : Int) + (r.bytes.length : Int)) := ⟨_, rfl⟩
      rw [cB_marks, ← hz0, show (((q + 4 : Nat) : Int)) = ((q : Int) + 1 + 1 + 1 + 1) from by omega] at M0
      have HM0 := Lib.hid M0
      have HZ0 := Lib.hid hz0
      clear p01 p02 p03 p04 M0 hz0
      refine HM0.out.mono ?_
      rintro e w3 ⟨rfl, ho0, hg0⟩
      obtain ⟨rb0, rc0, rw0⟩ := RA5.out.bytes2 HC3.out (byteMarks (q + 4) r.bytes.length) (byteMarks_len _ _) ho0 hg0
      obtain ⟨x0, y0⟩ := rb0.cell rc0 5 (by omega)
      have e0 : w3.cell? ⟨g, j * 8 + 5, none⟩ = some vn := x0
      have RB0 := Lib.hid rb0
      have RC0 := Lib.hid rc0
      have RW0 := Lib.hid (WI5.out.trans rw0)
      clear rb0 rc0 rw0 ho0 hg0 x0 y0
      go_wp2_with fail
      obtain ⟨p11, p12, p13, p14⟩ := RB0.out.parts RC0.out (set_at HML.out)
      have M1 := l_markStringS vn lo (q + 4 + r.bytes.length) r.names.length _ (by omega) w3 p12
      obtain ⟨z1, hz1⟩ : ∃ z : Int, z = (((q + 4 + r.bytes.length : Nat) : Int) + (r.names.length : Int)) := ⟨_, rfl⟩
      rw [cS_marks, ← hz1, show (((q + 4 + r.bytes.length : Nat) : Int)) = z0 from by rw [HZ0.out]; omega] at M1
      have HM1 := Lib.hid M1
      have HZ1 := Lib.hid hz1
      clear p11 p12 p13 p14 M1 hz1
      refine HM1.out.mono ?_
      rintro e w4 ⟨rfl, ho1, hg1⟩
      obtain ⟨rb1, rc1, rw1⟩ := RB0.out.names2 RC0.out (textMarks (q + 4 + r.bytes.length) r.names.length) (textMarks_len _ _) ho1 hg1
      obtain ⟨x1, y1⟩ := rb1.cell rc1 6 (by omega)
      have e1 : w4.cell? ⟨g, j * 8 + 6, none⟩ = some vt := x1
      have RB1 := Lib.hid rb1
      have RC1 := Lib.hid rc1
      have RW1 := Lib.hid (RW0.out.trans rw1)
      clear rb1 rc1 rw1 ho1 hg1 x1 y1
      go_wp2_with fail
      obtain ⟨p21, p22, p23, p24⟩ := RB1.out.parts RC1.out (set_at HML.out)
      have M2 := l_markIntS vt lo (q + 4 + r.bytes.length + r.names.length) r.tags.length _ (by omega) w4 p23
      obtain ⟨z2, hz2⟩ : ∃ z : Int, z = (((q + 4 + r.bytes.length + r.names.length : Nat) : Int) + (r.tags.length : Int)) := ⟨_, rfl⟩
      rw [cI_marks, ← hz2, show (((q + 4 + r.bytes.length + r.names.length : Nat) : Int)) = z1 from by rw [HZ1.out]; omega] at M2
      have HM2 := Lib.hid M2
      have HZ2 := Lib.hid hz2
      clear p21 p22 p23 p24 M2 hz2
      refine HM2.out.mono ?_
      rintro e w5 ⟨rfl, ho2, hg2⟩
      obtain ⟨rb2, rc2, rw2⟩ := RB1.out.tags2 RC1.out (intMarks (q + 4 + r.bytes.length + r.names.length) r.tags.length) (intMarks_len _ _) ho2 hg2
      obtain ⟨x2, y2⟩ := rb2.cell rc2 7 (by omega)
      have e2 : w5.cell? ⟨g, j * 8 + 7, none⟩ = some vk := x2
      have RB2 := Lib.hid rb2
      have RC2 := Lib.hid rc2
      have RW2 := Lib.hid (RW1.out.trans rw2)
      clear rb2 rc2 rw2 ho2 hg2 x2 y2
      go_wp2_with fail
      obtain ⟨p31, p32, p33, p34⟩ := RB2.out.parts RC2.out (set_at HML.out)
      have M3 := l_markIntS vk lo (q + 4 + r.bytes.length + r.names.length + r.tags.length) r.kids.length _ (by omega) w5 p34
      obtain ⟨z3, hz3⟩ : ∃ z : Int, z = (((q + 4 + r.bytes.length + r.names.length + r.tags.length : Nat) : Int) + (r.kids.length : Int)) := ⟨_, rfl⟩
      rw [cI_marks, ← hz3, show (((q + 4 + r.bytes.length + r.names.length + r.tags.length : Nat) : Int)) = z2 from by rw [HZ2.out]; omega] at M3
      have HM3 := Lib.hid M3
      have HZ3 := Lib.hid hz3
      clear p31 p32 p33 p34 M3 hz3
      refine HM3.out.mono ?_
      rintro e w6 ⟨rfl, ho3, hg3⟩
      obtain ⟨rb3, rc3, rw3⟩ := RB2.out.kids2 RC2.out (intMarks (q + 4 + r.bytes.length + r.names.length + r.tags.length) r.kids.length) (intMarks_len _ _) ho3 hg3
      have RB3 := Lib.hid rb3
      have RC3 := Lib.hid rc3
      have RW3 := Lib.hid (RW2.out.trans rw3)
      clear rb3 rc3 rw3 ho3 hg3
      go_wp2_with fail
      go_roundw
      case rel =>
        refine ⟨j + 1, q + 4 + r.bytes.length + r.names.length + r.tags.length + r.kids.length, by omega, by go_num, ?_, ?_, ⟨cs3, ?_⟩, RW3.out⟩
        · rw [HZ3.out]; simp
        · have := HST.out; have := HQ.out; omega
        · have h := RB3.out
          have e : markRule (k + countTo l j) l[j] = _ := rfl
          rw [← markedTo_step HLT.out, ← HR0.out, ← HQ.out]
          exact h
      case measure => simp [intOf]; omega
    · obtain rfl : j = n := by omega
      have HRA := Lib.hid hra
      have HWI := Lib.hid hwi
      have HQ := Lib.hid hq
      clear hra hwi hq
      go_wp2_with fail
      go_ret
      refine ⟨ret_int (by rw [HQ.out, HN.out]), ⟨css', ?_⟩, HWI.out⟩
      have h := HRA.out
      rwa [show markedTo l k j = markedTo l k l.length from by rw [HN.out]] at h

end Go.Proofs.YtkjjgpkegihmhaaGreatDoor

namespace Go.Proofs.YtkjjgpkegihmhaaGreatDoor
open Go.RowKit
set_option linter.unusedVariables false

/-- Rules of the call's own, in blocks from lo on and below hi. -/
def OwnIn (w : World) (lo hi : Nat) (v : Value) (l : List RuleD) : Prop :=
  (v = .slice none 0 0 ∧ l = []) ∨ ∃ g cap css, v = .slice (some ⟨g, 0, none⟩) l.length cap ∧ l.length ≤ cap ∧ cap ≤ maxLen ∧ RulesAt w lo hi g cap l.length css l
theorem OwnIn.of_own {w : World} {lo : Nat} {v : Value} {l : List RuleD} (h : OwnRules w lo v l) : OwnIn w lo w.heap.size v l := by
  obtain ⟨css, hl, hown, hr, hn⟩ := h
  have h8 : ∀ cs ∈ css, cs.length = 8 := by
    intro cs hc
    obtain ⟨i, hi, rfl⟩ := List.getElem_of_mem hc
    exact (hr i css[i] l[i] (List.getElem?_eq_getElem hi) (List.getElem?_eq_getElem (by omega))).len
  have hown' := hown
  rcases hown.2 with ⟨rfl, hx⟩ | ⟨g, cap, cur, rfl, hbg, hg, hnc, hcm, _⟩
  · left
    refine ⟨?_, ?_⟩
    · have : l.length = 0 := by omega
      first | rfl | rw [this]
    · exact List.eq_nil_of_length_eq_zero (by omega)
  · right
    refine ⟨g, cap, css, rfl, hnc, hcm, ⟨hl, rfl, hown', hr, hn, ?_, (hown'.lt g rfl).2⟩⟩
    intro b hb
    rw [blocks_flatten] at hb
    obtain ⟨bs, hbs, hbb⟩ := List.mem_flatten.1 hb
    obtain ⟨cs, hcs, rfl⟩ := List.mem_map.1 hbs
    obtain ⟨i, hi, rfl⟩ := List.getElem_of_mem hcs
    exact ((hr i css[i] l[i] (List.getElem?_eq_getElem hi) (List.getElem?_eq_getElem (by omega))).blocks_lt b hbb).2
theorem OwnIn.below {w w' : World} {lo hi : Nat} {v : Value} {l : List RuleD} (h : OwnIn w lo hi v l) (hb : Below w.heap.size w w') : OwnIn w' lo hi v l := by
  rcases h with h | ⟨g, cap, css, e, h1, h2, h3⟩
  · exact .inl h
  · exact .inr ⟨g, cap, css, e, h1, h2, h3.below hb⟩
theorem OwnIn.rd {w : World} {lo hi : Nat} {v : Value} {l : List RuleD} (h : OwnIn w lo hi v l) : RdRules w v l := by
  rcases h with ⟨rfl, rfl⟩ | ⟨g, cap, css, rfl, h1, h2, h3⟩
  · exact ⟨none, 0, rfl, Nat.le_refl _, Nat.zero_le _, fun h => by simp at h⟩
  · exact (OwnRules.rd (lo := lo) ⟨css, h3.len, h3.row, h3.each, h3.nodup⟩)

theorem countTo_all (l : List RuleD) : countTo l l.length = (l.map ruleCount).sum := by unfold countTo; rw [List.take_length]
theorem countTo_size (l : List RuleD) : countTo l l.length ≤ 4 * l.length + rulesSize l := by
  rw [countTo_all]
  unfold rulesSize
  induction l with
  | nil => simp
  | cons r t ih =>
    simp only [List.map_cons, List.sum_cons, List.length_cons]
    have : ruleCount r ≤ 4 + ruleSize r := by unfold ruleCount ruleSize; omega
    omega

set_option maxHeartbeats 2000000 in
theorem l_markRuleS_nil (k : Nat) (w : World) :
    Calls Tryz.prog 47 #[.slice none 0 0, .int .i64 (k : Int)] w fun e w' => e = .returned (.int .i64 (k : Int)) ∧ w = w' := by
  go_enter Tryz.func47, Tryz.ntmps47
  go_wp2_with fail
  refine wp_loop_rounds 1 ?_
  rw [rounds_succ]
  go_wp2_with fail
  go_ret
  exact ⟨rfl, rfl⟩

set_option maxHeartbeats 2000000 in
theorem l_markDescription (v : Value) (lo hi : Nat) (l : List RuleD) (k : Nat) (hk : k + countTo l l.length ≤ 1099511627776) (w : World) (h : OwnIn w lo hi v l) :
    Calls Tryz.prog 14 #[.agg #[v], .int .i64 (k : Int)] w
      fun e w' => e = .returned (.int .i64 ((k + countTo l l.length : Nat) : Int)) ∧ OwnIn w' lo hi v (markedTo l k l.length) ∧ Within lo hi w w' := by
  have H := Lib.hid (h.below (below_box (v := v) (t := 35)))
  have W0 := Lib.hid (Within.of_below (lo := lo) (hi := hi) (below_box (w := w) (v := v) (t := 35)))
  obtain ⟨z, hz⟩ : ∃ z : Int, z = ((k + countTo l l.length : Nat) : Int) := ⟨_, rfl⟩
  have HZ := Lib.hid hz
  have HK := Lib.hid hk
  rw [← hz]
  clear hz hk
  rcases h with ⟨rfl, rfl⟩ | ⟨g, cap, css, rfl, h1, h2, h3⟩
  · go_enter Tryz.func14, Tryz.ntmps14
    go_wp2_with fail
    refine (l_markRuleS_nil k _).mono ?_
    rintro e w1 ⟨rfl, rfl⟩
    go_wp2_with fail
    go_ret
    refine ⟨ret_int (by rw [HZ.out]; simp [countTo]), .inl ⟨rfl, by simp [markedTo]⟩, W0.out⟩
  · have hra := h3.below (below_box (v := .slice (some ⟨g, 0, none⟩) l.length cap) (t := 35))
    have MR := Lib.hid (l_markRuleS lo hi g cap css l k HK.out ⟨h1, h2⟩ _ hra)
    have HC := Lib.hid (And.intro h1 h2)
    unfold maxLen at h2
    clear h3 hra
    go_enter Tryz.func14, Tryz.ntmps14
    go_wp2_with fail
    refine MR.out.mono ?_
    rw [← HZ.out]
    rintro e w1 ⟨rfl, ⟨css', hra⟩, hwi⟩
    have HRA := Lib.hid hra
    have HWI := Lib.hid hwi
    clear hra hwi
    go_wp2_with fail
    go_ret
    refine ⟨rfl, .inr ⟨g, cap, css', ?_, ?_, HC.out.2, ?_⟩, W0.out.trans HWI.out⟩
    · rw [markedTo_len]
    · rw [markedTo_len]; exact HC.out.1
    · rw [markedTo_len]; exact HRA.out

/-! What stays. -/
section
variable {w w' : World} {lo hi : Nat}
theorem own_within {base : Nat} {e : TypeId} {size n : Nat} {v : Value} {xs : List Value} (h : w.ownsRow base e size v n xs) (hw : Within lo hi w w') (ha : ∀ k, v.ownBlock = some k → k < lo ∨ hi ≤ k) : w'.ownsRow base e size v n xs := by
  refine ⟨h.1, ?_⟩
  rcases h.2 with h2 | ⟨g, cap, cur, hv, hbg, hg, r⟩
  · exact .inl h2
  · refine .inr ⟨g, cap, cur, hv, hbg, ?_, r⟩
    rw [hw.block g (Array.getElem?_eq_some_iff.1 hg).1 (ha g (by rw [hv]; rfl))]
    exact hg
theorem Box.within {g : Nat} {t : TypeId} {cs : Array Value} (h : Box w g t cs) (hw : Within lo hi w w') (ha : g < lo ∨ hi ≤ g) : Box w' g t cs := (hw.block _ h.lt ha).trans h
end

end Go.Proofs.YtkjjgpkegihmhaaGreatDoor

namespace Go.Proofs.YtkjjgpkegihmhaaGreatDoor
open Go.RowKit
set_option linter.unusedVariables false

theorem markedTo_full {l : List RuleD} {k j : Nat} (h : j < l.length) (h' : j < (markedTo l k l.length).length) : (markedTo l k l.length)[j] = markRule (k + countTo l j) l[j] := by
  unfold markedTo
  simp [h, ruleAt]
theorem countTo_le {l : List RuleD} {i : Nat} (h : i ≤ l.length) : countTo l i ≤ countTo l l.length := by
  have : ∀ d i, i + d = l.length → countTo l i ≤ countTo l l.length := by
    intro d
    induction d with
    | zero => intro i hi; rw [← hi]; exact Nat.le_refl _
    | succ d ih =>
      intro i hi
      have h1 := ih (i + 1) (by omega)
      rw [countTo_step l i (by omega)] at h1
      omega
  exact this (l.length - i) i (by omega)

set_option maxRecDepth 100000 in
set_option maxHeartbeats 8000000 in
theorem l_heldRuleS (v : Value) (l : List RuleD) (k : Nat) (hk : k + countTo l l.length ≤ 1099511627776) (w : World) (h : RdRules w v (markedTo l k l.length)) :
    Calls Tryz.prog 55 #[v, .int .i64 (k : Int)] w fun e w' => e = .returned (.int .i64 ((k + countTo l l.length : Nat) : Int)) ∧ Below w.heap.size w w' := by
  obtain ⟨A, c, rfl, hnc, hcm, hcell⟩ := h.all
  have HC := Lib.hid hcell
  rw [markedTo_len] at hnc ⊢
  unfold maxLen at hcm
  obtain ⟨n, hn⟩ : ∃ n, n = l.length := ⟨_, rfl⟩
  have HN := Lib.hid hn
  have HK := Lib.hid hk
  rw [← hn] at hnc ⊢
  clear hn hk hcell h
  go_enter Tryz.func55, Tryz.ntmps55
  go_wp2_with fail
  go_loopw [1, 5] (fun c i wr => ∃ j : Nat, ∃ q : Nat, j ≤ n ∧ i = .int .i64 j ∧ c = .int .i64 (q : Int) ∧ q = k + countTo l j ∧ Below w.heap.size w wr) (fun _ i _ => n - (intOf i).toNat)
  case atStart => exact ⟨0, k, Nat.zero_le _, rfl, rfl, by simp [countTo], Below.refl _ _⟩
  case round =>
    obtain ⟨j, q, hj, rfl, rfl, hq, hbr⟩ := hrel
    by_cases hlt : j < n
    · have hjl : j < l.length := by rw [← HN.out]; exact hlt
      have hst := countTo_step l j hjl
      have hle := countTo_le (l := l) (i := j + 1) (by omega)
      have hbound := HK.out
      have hjm : j < (markedTo l k l.length).length := by rw [markedTo_len]; exact hjl
      obtain ⟨b, off, rfl, hc⟩ := HC.out (by omega)
      obtain ⟨vb, vn, vt, vk, hr⟩ := hc j hjm
      rw [markedTo_full hjl hjm, ← hq] at hr
      obtain ⟨r, hr0⟩ : ∃ r, r = l[j] := ⟨_, rfl⟩
      rw [← hr0] at hst hr
      unfold ruleCount at hst
      have hqb : q + 4 + r.bytes.length + r.names.length + r.tags.length + r.kids.length ≤ 1099511627776 := by omega
      have hr1 := hr.below hbr
      have n0 : wr.cell? ⟨b, off + j * 8, none⟩ = some (.string (mkS (markT q))) := hr1.c0
      have la := later_cell n0
      have lm := fun x : Later wr => l_markText (q : Int) (by omega) (by omega) x.world
      rw [show ((q : Nat) : Int).toNat = q from by omega] at lm
      have L1 := Lib.hid (fun x : Later wr => Calls.later (lm x))
      have HR1 := Lib.hid hr1
      have HB := Lib.hid hbr
      have HST := Lib.hid hst
      have HQ := Lib.hid hq
      have hlti : (j : Int) < (n : Int) := by omega
      have hqq := str_eq (mkS (markT q))
      clear hst hle hbound hq hc hr hr0 hr1 hbr lm n0
      go_wp2_with fail
      refine wp_region_later (by kernel_rfl) (by kernel_rfl) ?_
      repeat (go_big_quiet_step ((go_at_call 92; with_reducible exact L1.out _)))
      refine wpQuiet_nil ?_
      intro w1 hb1
      have hr2 := HR1.out.below hb1
      have n1 : w1.cell? ⟨b, off + j * 8 + 1, none⟩ = some (.int .i64 ((q : Int) + 1)) := hr2.c1
      have n2 : w1.cell? ⟨b, off + j * 8 + 2, none⟩ = some (.int .i64 ((q : Int) + 1 + 1)) := hr2.c2
      have n3 : w1.cell? ⟨b, off + j * 8 + 3, none⟩ = some (.bool (((q : Int) + 1 + 1 + 1) % 3 == 0)) := hr2.c3
      have n4 : w1.cell? ⟨b, off + j * 8 + 4, none⟩ = some vb := hr2.c4
      have n5 : w1.cell? ⟨b, off + j * 8 + 5, none⟩ = some vn := hr2.c5
      have HR2 := Lib.hid hr2
      have HB1 := Lib.hid (Below.then_ HB.out hb1 (Nat.le_refl _))
      have r4 : Rd w1 vb 1 r.bytes.length (mkByte (q + 4) r.bytes.length) := by
        have h := hr2.rb
        rw [cB_marks]
        have e : (markRule q r).bytes.length = r.bytes.length := byteMarks_len _ _
        rw [e] at h
        exact h
      have H0 := l_heldByteS vb (q + 4) r.bytes.length (by omega) w1 r4
      obtain ⟨z0, hz0⟩ : ∃ z : Int, z = (((q + 4 : Nat) : Int) + (r.bytes.length : Int)) := ⟨_, rfl⟩
      have pz0 : 0 ≤ z0 := by omega
      rw [← hz0, show (((q + 4 : Nat) : Int)) = ((q : Int) + 1 + 1 + 1 + 1) from by omega] at H0
      have HH0 := Lib.hid H0
      have HZ0 := Lib.hid hz0
      clear la hb1 hr2 r4 H0 hz0 hqq
      go_wp2_with fail
      refine HH0.out.mono ?_
      rintro e w2 ⟨rfl, rfl⟩
      have r5 : Rd w1 vn 1 r.names.length (mkString (q + 4 + r.bytes.length) r.names.length) := by
        have h := HR2.out.rn
        rw [cS_marks]
        have e : (markRule q r).names.length = r.names.length := textMarks_len _ _
        rw [e] at h
        exact h
      have H1 := l_heldStringS vn (q + 4 + r.bytes.length) r.names.length (by omega) w1 r5
      obtain ⟨z1, hz1⟩ : ∃ z : Int, z = (((q + 4 + r.bytes.length : Nat) : Int) + (r.names.length : Int)) := ⟨_, rfl⟩
      have pz1 : 0 ≤ z1 := by omega
      rw [← hz1, show (((q + 4 + r.bytes.length : Nat) : Int)) = z0 from by rw [HZ0.out]; omega] at H1
      have HH1 := Lib.hid H1
      have HZ1 := Lib.hid hz1
      clear r5 H1 hz1
      go_wp2_with fail
      refine HH1.out.mono ?_
      rintro e w3 ⟨rfl, hb3⟩
      have hr3 := HR2.out.below hb3
      have HB3 := Lib.hid (Below.then_ HB1.out hb3 (Nat.le_refl _))
      have n6 : w3.cell? ⟨b, off + j * 8 + 6, none⟩ = some vt := hr3.c6
      have n7 : w3.cell? ⟨b, off + j * 8 + 7, none⟩ = some vk := hr3.c7
      have r6 : Rd w3 vt 1 r.tags.length (mkInt (q + 4 + r.bytes.length + r.names.length) r.tags.length) := by
        have h := hr3.rt
        rw [cI_marks]
        have e : (markRule q r).tags.length = r.tags.length := intMarks_len _ _
        rw [e] at h
        exact h
      have r7 : Rd w3 vk 1 r.kids.length (mkInt (q + 4 + r.bytes.length + r.names.length + r.tags.length) r.kids.length) := by
        have h := hr3.rk
        rw [cI_marks]
        have e : (markRule q r).kids.length = r.kids.length := intMarks_len _ _
        rw [e] at h
        exact h
      have H2 := l_heldIntS vt (q + 4 + r.bytes.length + r.names.length) r.tags.length (by omega) w3 r6
      obtain ⟨z2, hz2⟩ : ∃ z : Int, z = (((q + 4 + r.bytes.length + r.names.length : Nat) : Int) + (r.tags.length : Int)) := ⟨_, rfl⟩
      have pz2 : 0 ≤ z2 := by omega
      rw [← hz2, show (((q + 4 + r.bytes.length + r.names.length : Nat) : Int)) = z1 from by rw [HZ1.out]; omega] at H2
      have H3 := l_heldIntS vk (q + 4 + r.bytes.length + r.names.length + r.tags.length) r.kids.length (by omega) w3 r7
      obtain ⟨z3, hz3⟩ : ∃ z : Int, z = (((q + 4 + r.bytes.length + r.names.length + r.tags.length : Nat) : Int) + (r.kids.length : Int)) := ⟨_, rfl⟩
      have pz3 : 0 ≤ z3 := by omega
      rw [← hz3, show (((q + 4 + r.bytes.length + r.names.length + r.tags.length : Nat) : Int)) = z2 from by rw [hz2]; omega] at H3
      have HH2 := Lib.hid H2
      have HH3 := Lib.hid H3
      have HZ3 := Lib.hid hz3
      clear r6 r7 H2 H3 hz2 hz3 hb3 hr3 n1 n2 n3 n4 n5
      go_wp2_with fail
      refine HH2.out.mono ?_
      rintro e w4 ⟨rfl, rfl⟩
      go_wp2_with fail
      refine HH3.out.mono ?_
      rintro e w5 ⟨rfl, rfl⟩
      go_wp2_with fail
      go_roundw
      case rel =>
        refine ⟨j + 1, q + 4 + r.bytes.length + r.names.length + r.tags.length + r.kids.length, by omega, by go_num, ?_, ?_, HB3.out⟩
        · rw [HZ3.out]; simp
        · have := HST.out; have := HQ.out; omega
      case measure => simp [intOf]; omega
    · obtain rfl : j = n := by omega
      have HQ := Lib.hid hq
      have HB := Lib.hid hbr
      clear hq hbr
      go_wp2_with fail
      go_ret
      exact ⟨ret_int (by rw [HQ.out, HN.out]), HB.out⟩

set_option maxHeartbeats 2000000 in
theorem l_heldDescription (v : Value) (l : List RuleD) (k : Nat) (hk : k + countTo l l.length ≤ 1099511627776) (w : World) (h : RdRules w v (markedTo l k l.length)) :
    Calls Tryz.prog 19 #[.agg #[v], .int .i64 (k : Int)] w fun e w' => e = .returned (.int .i64 ((k + countTo l l.length : Nat) : Int)) ∧ Below w.heap.size w w' := by
  have hb0 := below_box (w := w) (v := v) (t := 35)
  have hc := l_heldRuleS v l k hk _ (h.below hb0)
  obtain ⟨z, hz⟩ : ∃ z : Int, z = ((k + countTo l l.length : Nat) : Int) := ⟨_, rfl⟩
  have hz0 : 0 ≤ z := by omega
  rw [← hz] at hc ⊢
  have HC := Lib.hid hc
  have HB := Lib.hid hb0
  clear hc hb0 hz h hk
  go_enter Tryz.func19, Tryz.ntmps19
  go_wp2_with fail
  refine HC.out.mono ?_
  rintro e w1 ⟨rfl, hb1⟩
  have HB1 := Lib.hid (Below.then_ HB.out hb1 (Nat.le_refl _))
  clear hb1
  go_wp2_with fail
  go_ret
  exact ⟨rfl, HB1.out⟩

end Go.Proofs.YtkjjgpkegihmhaaGreatDoor

namespace Go.Proofs.YtkjjgpkegihmhaaGreatDoor
open Go.RowKit
set_option linter.unusedVariables false

theorem descGo_fine : ∀ (ss : List (List UInt8)) (l : List RuleD) (i : Nat), rulesGood l = true → l.length ≤ 24 → rulesGood (descGo l i ss).1 = true ∧ (descGo l i ss).1.length ≤ 24 := by
  intro ss
  induction ss with
  | nil =>
    intro l i h1 h2
    rw [descGo]
    split
    · exact ⟨rulesGood_nil, by simp⟩
    · exact ⟨h1, h2⟩
  | cons s ss ih =>
    intro l i h1 h2
    rw [descGo]
    split
    · exact ih l _ h1 h2
    · split
      · rename_i l' ha
        have h3 := addL_good h1 ha
        exact ih l' _ h3.1 h3.2
      · exact ⟨rulesGood_nil, by simp⟩
theorem descP_fine (t : List UInt8) : rulesGood (descP t).1 = true ∧ (descP t).1.length ≤ 24 := descGo_fine _ _ _ rulesGood_nil (by simp)

theorem countTo_small {l : List RuleD} (h : ∀ r ∈ l, RuleSmall r) : ∀ i, i ≤ l.length → countTo l i ≤ i * 4194308 := by
  intro i
  induction i with
  | zero => intro _; simp [countTo]
  | succ i ih =>
    intro hi
    rw [countTo_step l i (by omega)]
    have h1 := ih (by omega)
    have h2 := h l[i] (List.getElem_mem (by omega))
    have h3 : ruleCount l[i] ≤ 4194308 := by
      unfold RuleSmall at h2
      unfold ruleCount
      omega
    omega
theorem descP_marks (t : List UInt8) : 1 + countTo (descP t).1 (descP t).1.length ≤ 1099511627776 := by
  obtain ⟨h1, h2⟩ := descP_fine t
  have := countTo_small (good_small (by omega) h1) _ (Nat.le_refl _)
  omega

theorem OwnIn.within {w w' : World} {lo hi lo' hi' : Nat} {v : Value} {l : List RuleD} (h : OwnIn w lo' hi' v l) (hw : Within lo hi w w') (ha : hi ≤ lo' ∨ hi' ≤ lo) : OwnIn w' lo' hi' v l := by
  rcases h with h | ⟨g, cap, css, e, h1, h2, h3⟩
  · exact .inl h
  · refine .inr ⟨g, cap, css, e, h1, h2, ⟨h3.len, h3.rlen, ?_, ?_, h3.nodup, h3.lt, h3.ghi⟩⟩
    · exact own_within h3.row hw (fun k hk => by
        have e1 := (h3.row.lt k hk).1
        have e2 : k = g := by simpa [Value.ownBlock] using hk.symm
        have := h3.ghi
        omega)
    · intro i cs r hi' hr
      have hblk := (h3.each i cs r hi' hr).blocks_lt
      have hlt := h3.mem_blocks hi'
      obtain ⟨vb, vn, vt, vk, rfl, k1, k2, k3, k4⟩ := h3.each i cs r hi' hr
      have far : ∀ u ∈ [vb, vn, vt, vk], ∀ k, u.ownBlock = some k → k < lo ∨ hi ≤ k := by
        intro u hu k hk
        have hm : k ∈ blocks (ruleCells r vb vn vt vk) := by rw [blocks_rule]; exact List.mem_filterMap.2 ⟨u, hu, hk⟩
        have e1 := (hblk k hm).1
        have e2 := h3.lt k (hlt k hm)
        omega
      exact ⟨vb, vn, vt, vk, rfl, own_within k1 hw (far vb (by simp)), own_within k2 hw (far vn (by simp)), own_within k3 hw (far vt (by simp)), own_within k4 hw (far vk (by simp))⟩

end Go.Proofs.YtkjjgpkegihmhaaGreatDoor

namespace Go.Proofs.YtkjjgpkegihmhaaGreatDoor
open Go.RowKit
set_option linter.unusedVariables false

theorem countTo_push (l : List RuleD) (r : RuleD) : countTo (l ++ [r]) (l ++ [r]).length = countTo l l.length + ruleCount r := by
  rw [countTo_all, countTo_all]
  simp
theorem ruleCount_small {r : RuleD} (h : RuleSmall r) : ruleCount r ≤ 4194308 := by
  unfold RuleSmall at h
  unfold ruleCount
  omega
theorem parse_small {l : List RuleD} {s : List UInt8} {r : RuleD} (hl : l.length ≤ 1048575) (h : parseI l s = some r) : RuleSmall r := by
  have h1 := (parse_sound h).1
  have h2 := (valid_fits (by simp; omega) h1).2.1
  rw [ruleAt_new] at h2
  exact h2
theorem addL_marks {l : List RuleD} {s : List UInt8} (hsz : (descSize l : Int) ≤ 1048576) : 1 + countTo ((addL l s).getD l) ((addL l s).getD l).length ≤ 1099511627776 := by
  have h1 := countTo_size l
  cases h : addL l s with
  | none =>
    rw [Option.getD_none]
    unfold descSize at hsz
    omega
  | some l' =>
    rw [Option.getD_some]
    obtain ⟨r, hr, hlt, rfl⟩ := addL_some h
    have h2 := ruleCount_small (parse_small (by omega) hr)
    rw [countTo_push]
    unfold descSize at hsz
    omega

end Go.Proofs.YtkjjgpkegihmhaaGreatDoor
