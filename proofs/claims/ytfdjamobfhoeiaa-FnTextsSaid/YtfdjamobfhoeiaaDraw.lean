/-
  The cursor of the draws: a block of three cells: the code, a place, a number. Each draw gives some number in its range; only the cursor's block is written.
-/
import Derived.Test.YtfdjamobfhoeiaaProg
import Derived.Test.YtfdjamobfhoeiaaBase
import Derived.Test.YtfdjamobfhoeiaaRep
import Derived.WalkKit
import Derived.WalkSpells
import Derived.WalkLawsBesides
import Derived.Lib.Hide
import Derived.Deep.QuietTactic
import Derived.BigQuiet
import Derived.Laws.BitsAllLaws
namespace Go.Proofs.Ytfdjamobfhoeiaa
open Go.RowKit

theorem and_255 (a : Int) : 0 ≤ bits .and .i64 a 255 ∧ bits .and .i64 a 255 ≤ 255 := by
  have h : (BitVec.ofInt 64 a &&& BitVec.ofInt 64 255).toNat ≤ 255 := by
    rw [BitVec.toNat_and]
    exact Nat.le_trans Nat.and_le_right (by decide)
  have e : bits .and .i64 a 255 = ((BitVec.ofInt 64 a &&& BitVec.ofInt 64 255).toNat : Int) := by
    show IntKind.i64.wrap ((BitVec.ofInt 64 a &&& BitVec.ofInt 64 255).toNat : Int) = _
    rw [IntKind.wrap_i64]
    omega
  rw [e]; omega
theorem and_range (a b : Int) : -9223372036854775808 ≤ bits .and .i64 a b ∧ bits .and .i64 a b ≤ 9223372036854775807 := by
  have e : bits .and .i64 a b = IntKind.i64.wrap ((BitVec.ofInt 64 a &&& BitVec.ofInt 64 b).toNat : Int) := rfl
  rw [e, IntKind.wrap_i64]
  omega
theorem wrap64_range (n : Int) : -9223372036854775808 ≤ wrap64 n ∧ wrap64 n ≤ 9223372036854775807 := by
  unfold wrap64; omega

/-- Block g is a cursor. -/
def Cur (w : World) (g : Nat) : Prop :=
  ∃ (A : Option Addr) (n c : Nat) (i h : Int), w.heap[g]? = some (.cells #[.slice A n c, .int .i64 i, .int .i64 h] 56 (0, 0)) ∧ 0 ≤ i ∧ i ≤ n ∧ n ≤ 1048576 ∧ -9223372036854775808 ≤ h ∧ h ≤ 9223372036854775807 ∧
    ∀ j, j < n → ∃ b off x, A = some ⟨b, off, none⟩ ∧ b < g ∧ w.cell? ⟨b, off + j, none⟩ = some (.int .u8 x) ∧ 0 ≤ x ∧ x ≤ 255

def Draws (p : Int → Prop) (g : Nat) (w : World) (e : Ending) (w' : World) : Prop := ∃ x : Int, e = .returned (.int .i64 x) ∧ p x ∧ Cur w' g ∧ w.grownBy w' (some g)

theorem grown_trans {a b c : World} {g : Option Nat} (h : a.grownBy b g) (k : b.grownBy c g) : a.grownBy c g :=
  ⟨k.os.trans h.os, k.tape.trans h.tape, k.output.trans h.output, Nat.le_trans h.size k.size, fun i hi hne => (k.block i (Nat.lt_of_lt_of_le hi h.size) hne).trans (h.block i hi hne)⟩
theorem grown_set (w : World) (g k : Nat) (u : Value) : w.grownBy (w.setCell ⟨g, k, none⟩ u) (some g) :=
  ⟨rfl, rfl, rfl, by simp [World.setCell], fun i _ hne => heap_setCell_other w ⟨g, k, none⟩ i u (fun e => hne (by simp [e]))⟩
theorem grown_drewN {a w : World} {row : Option Nat} (h : a.grownBy w row) (n : Nat) : a.grownBy (w.drewN n) row := ⟨h.os, h.tape, h.output, h.size, h.block⟩

theorem Cur.mk_ {w w' : World} {g : Nat} {A : Option Addr} {n c : Nat} {i h : Int} (hg : w'.heap[g]? = some (.cells #[.slice A n c, .int .i64 i, .int .i64 h] 56 (0, 0)))
    (h1 : 0 ≤ i) (h2 : i ≤ n) (h3 : n ≤ 1048576) (h4 : -9223372036854775808 ≤ h) (h5 : h ≤ 9223372036854775807)
    (hc : ∀ j, j < n → ∃ b off x, A = some ⟨b, off, none⟩ ∧ b < g ∧ w.cell? ⟨b, off + j, none⟩ = some (.int .u8 x) ∧ 0 ≤ x ∧ x ≤ 255) (hk : w.grownBy w' (some g)) : Cur w' g := by
  refine ⟨A, n, c, i, h, hg, h1, h2, h3, h4, h5, fun j hj => ?_⟩
  obtain ⟨b, off, x, hA, hb, hx, hx'⟩ := hc j hj
  exact ⟨b, off, x, hA, hb, hk.cell hx (by intro e; have e := Option.some.inj e; simp at e; omega), hx'⟩

set_option maxHeartbeats 2000000 in
theorem s_l1Byte (g : Nat) (w : World) (hc : Cur w g) :
    Calls Try.prog 45 #[.pointer (some ⟨g, 0, none⟩)] w (Draws (fun x => 0 ≤ x ∧ x ≤ 255) g w) := by
  obtain ⟨A, n, c, i, h, hg, hi0, hin, hn, hh1, hh2, hcells⟩ := hc
  have c0 : w.cell? ⟨g, 0, none⟩ = some (.slice A n c) := by rw [cell_of_row w g 0 _ _ _ hg]; rfl
  have c1 : w.cell? ⟨g, 1, none⟩ = some (.int .i64 i) := by rw [cell_of_row w g 1 _ _ _ hg]; rfl
  have c2 : w.cell? ⟨g, 2, none⟩ = some (.int .i64 h) := by rw [cell_of_row w g 2 _ _ _ hg]; rfl
  have f0 : ∀ k, w.frozen? ⟨g, k, none⟩ = false := fun k => by simp [World.frozen?, hg]
  have f1 := f0 1
  have f2 := f0 2
  have HG := Lib.hid hg
  have HC := Lib.hid hcells
  clear hg hcells f0
  go_enter Try.func45, Try.ntmps45
  go_wp2_with fail
  go_quiet (fail)
  go_wp2_with fail
  obtain ⟨hH1, hH2⟩ := wrap64_range (wrap64 (h * 6364136223846793005) + 1442695040888963407)
  generalize wrap64 (wrap64 (h * 6364136223846793005) + 1442695040888963407) = H at *
  obtain ⟨hx1, hx2⟩ := and_255 (bits BinOp.xor IntKind.i64 (H / 8589934592) (H / 140737488355328))
  generalize bits BinOp.and IntKind.i64 (bits BinOp.xor IntKind.i64 (H / 8589934592) (H / 140737488355328)) 255 = x at *
  by_cases hlt : i < n
  · obtain ⟨b, off, y, rfl, hbg, hy, hy1, hy2⟩ := HC.out i.toNat (by omega)
    have hne : (⟨b, off + i.toNat, none⟩ : Addr) ≠ ⟨g, 2, none⟩ := by intro e; injection e; omega
    have hbne : b ≠ g := by omega
    go_quiet (fail)
    go_wp2_with fail
    have hy' : ((w.setCell ⟨g, 2, none⟩ (Value.int IntKind.i64 H)).cell? ⟨b, off + i.toNat, none⟩) = some (.int .u8 y) := by rw [World.cell?_setCell_other w _ _ _ hne.symm]; exact hy
    obtain ⟨hz1, hz2⟩ := and_255 (x + y)
    go_quiet (fail)
    go_wp2_with fail
    go_ret
    refine ⟨_, rfl, ⟨hz1, hz2⟩, ?_, ?_⟩
    · have e1 := heap_setCell_same w g 2 _ _ (Value.int IntKind.i64 H) HG.out
      exact Cur.mk_ (i := i + 1) (heap_setCell_same _ g 1 _ _ _ e1) (by omega) (by omega) hn hH1 hH2 HC.out (grown_trans (grown_drewN (grown_set w g 2 _) _) (grown_set _ g 1 _))
    · exact grown_trans (grown_drewN (grown_set w g 2 _) _) (grown_set _ g 1 _)
  · obtain rfl : i = n := by omega
    go_quiet (fail)
    go_wp2_with fail
    go_ret
    refine ⟨x, rfl, ⟨hx1, hx2⟩, ?_, ?_⟩
    · exact Cur.mk_ (heap_setCell_same w g 2 _ _ (Value.int IntKind.i64 H) HG.out) (by omega) (by omega) hn hH1 hH2 HC.out (grown_drewN (grown_set w g 2 _) _)
    · exact grown_drewN (grown_set w g 2 _) _

set_option maxHeartbeats 2000000 in
/-- 0 .. n-1, or 0. -/
theorem s_l1Below (g : Nat) (n : Int) (hn : n ≤ 16777216) (w : World) (hc : Cur w g) :
    Calls Try.prog 40 #[.pointer (some ⟨g, 0, none⟩), .int .i64 n] w (Draws (fun x => 0 ≤ x ∧ (0 < n → x < n) ∧ (n ≤ 0 → x = 0)) g w) := by
  by_cases h0 : n ≤ 0
  · go_enter Try.func40, Try.ntmps40
    go_wp2_with fail
    go_ret
    exact ⟨0, rfl, ⟨by omega, by omega, by omega⟩, hc, World.grownBy.refl w _⟩
  · by_cases h1 : n ≤ 256
    · go_enter Try.func40, Try.ntmps40
      go_wp2_with fail
      refine (s_l1Byte g _ hc).mono ?_
      rintro e w1 ⟨x, rfl, ⟨hx1, hx2⟩, hc1, hg1⟩
      go_wp2_with fail
      go_ret
      exact ⟨_, rfl, ⟨Int.emod_nonneg _ (by omega), fun _ => Int.emod_lt_of_pos _ (by omega), by omega⟩, hc1, hg1⟩
    · have hd : decide (n ≤ 256) = false := by simp; omega
      go_enter Try.func40, Try.ntmps40
      go_wp2_with fail
      refine (s_l1Byte g _ hc).mono ?_
      rintro e w1 ⟨x, rfl, ⟨hx1, hx2⟩, hc1, hg1⟩
      go_wp2_with fail
      refine (s_l1Byte g _ hc1).mono ?_
      rintro e w2 ⟨y, rfl, ⟨hy1, hy2⟩, hc2, hg2⟩
      go_wp2_with fail
      refine (s_l1Byte g _ hc2).mono ?_
      rintro e w3 ⟨z, rfl, ⟨hz1, hz2⟩, hc3, hg3⟩
      go_wp2_with fail
      go_ret
      exact ⟨_, rfl, ⟨Int.emod_nonneg _ (by omega), fun _ => Int.emod_lt_of_pos _ (by omega), by omega⟩, hc3, grown_trans (grown_trans hg1 hg2) hg3⟩

theorem Cur.grown {w w' : World} {g : Nat} {row : Option Nat} (h : Cur w g) (hk : w.grownBy w' row) (hr : some g ≠ row) (hr' : ∀ b, b < g → some b ≠ row) : Cur w' g := by
  obtain ⟨A, n, c, i, h, hg, h1, h2, h3, h4, h5, hc⟩ := h
  refine ⟨A, n, c, i, h, (hk.block g (Array.getElem?_eq_some_iff.1 hg).1 hr).trans hg, h1, h2, h3, h4, h5, fun j hj => ?_⟩
  obtain ⟨b, off, x, hA, hb, hx, hx'⟩ := hc j hj
  exact ⟨b, off, x, hA, hb, hk.cell hx (hr' b hb), hx'⟩
theorem Cur.below {w w' : World} {g : Nat} (h : Cur w g) (hb : Below w.heap.size w w') : Cur w' g :=
  h.grown (row := none) ⟨hb.os, hb.tape, hb.output, hb.size, fun k hk _ => hb.block k hk⟩ (by simp) (by simp)
theorem Cur.lt {w : World} {g : Nat} (h : Cur w g) : g < w.heap.size := by
  obtain ⟨A, n, c, i, h, hg, _⟩ := h
  exact (Array.getElem?_eq_some_iff.1 hg).1
theorem below_grown {B : Nat} {a w w' : World} {g : Nat} (h : Below B a w) (hk : w.grownBy w' (some g)) (hB : B ≤ w.heap.size) (hg : B ≤ g) : Below B a w' :=
  h.grown hk hB (fun k e => by injection e with e; omega)

def DrawsBool (g : Nat) (w : World) (e : Ending) (w' : World) : Prop := ∃ b : Bool, e = .returned (.bool b) ∧ Cur w' g ∧ w.grownBy w' (some g)

set_option maxHeartbeats 1000000 in

/-- One of a list of strings. -/
def DrawsStr (l : List ByteArray) (g : Nat) (w : World) (e : Ending) (w' : World) : Prop := ∃ s : ByteArray, e = .returned (.string s) ∧ s ∈ l ∧ Cur w' g ∧ w.grownBy w' (some g)

set_option maxHeartbeats 1000000 in
theorem s_l1Str (g : Nat) (v : Value) (l : List ByteArray) (hl0 : 0 < l.length) (hl1 : l.length ≤ 256) (w : World) (hc : Cur w g) (hr : Rd w v 1 l.length (cS l)) (hv : v.ownBlock ≠ some g) :
    Calls Try.prog 41 #[.pointer (some ⟨g, 0, none⟩), v] w (DrawsStr l g w) := by
  obtain ⟨_, A, c, rfl, hnc, hcm, hcell⟩ := hr
  obtain ⟨b, off, rfl, hcl⟩ := hcell (by rw [cS_len]; exact hl0)
  unfold maxLen at hcm
  have HC := Lib.hid hcl
  clear hcl hcell
  go_enter Try.func41, Try.ntmps41
  go_wp2_with fail
  refine (s_l1Below g _ (by omega) _ hc).mono ?_
  rintro e w1 ⟨x, rfl, ⟨hx1, hx2, _⟩, hc1, hg1⟩
  have hxl := hx2 (by omega)
  have hxn : x.toNat < l.length := by omega
  have hcx : w1.cell? ⟨b, off + x.toNat, none⟩ = some (.string l[x.toNat]) := hg1.cell (HC.out _ _ (cS_at hxn)) (by simpa [Value.ownBlock] using hv)
  clear hx2
  go_wp2_with fail
  go_ret
  exact ⟨_, rfl, List.getElem_mem hxn, hc1, hg1⟩

/-- A new cursor over a code. -/
def NewCur (w : World) (e : Ending) (w' : World) : Prop := ∃ g, e = .returned (.pointer (some ⟨g, 0, none⟩)) ∧ Cur w' g ∧ w.heap.size ≤ g ∧ Below w.heap.size w w'

set_option maxRecDepth 100000 in
set_option maxHeartbeats 1000000 in
theorem s_l1New (v : Value) (l : List UInt8) (hn : l.length ≤ 1048576) (w : World) (hr : Rd w v 1 l.length (cB l)) :
    Calls Try.prog 33 #[v] w (NewCur w) := by
  obtain ⟨_, A, c, rfl, hnc, hcm, hcell⟩ := hr
  unfold maxLen at hcm
  have HC := Lib.hid hcell
  clear hcell
  go_enter Try.func33, Try.ntmps33
  go_wp2_with fail
  go_loop [3, 4] (fun h i => ∃ (k : Nat) (q : Int), k ≤ l.length ∧ i = .int .i64 k ∧ h = .int .i64 q ∧ -9223372036854775808 ≤ q ∧ q ≤ 9223372036854775807) (fun _ i => l.length - (intOf i).toNat)
  case atStart => exact ⟨0, _, Nat.zero_le _, rfl, rfl, by omega, by omega⟩
  case round =>
    obtain ⟨k, q, hk, rfl, rfl, hq1, hq2⟩ := hrel
    by_cases hlt : k < l.length
    · by_cases h4 : k < 4000
      · obtain ⟨b, off, rfl, hc⟩ := HC.out (by rw [cB_len]; omega)
        have hcl : w.cell? ⟨b, off + k, none⟩ = some (.int .u8 (l[k].toNat : Int)) := hc k _ (cB_at hlt)
        clear hc
        go_wp2_with fail
        go_round
        case rel =>
          obtain ⟨ha, hb⟩ := and_range (wrap64 (wrap64 (wrap64 (q * 137) + wrap64 ↑l[k].toNat) + 11)) 1073741823
          exact ⟨k + 1, _, by omega, by go_num, rfl, ha, hb⟩
        case measure => simp [intOf]; omega
      · have hd : decide ((k : Int) < 4000) = false := by simp; omega
        go_wp2_with fail
        go_ret
        refine ⟨w.heap.size, rfl, ⟨A, l.length, c, 0, q, heap_alloc_new _ _, by omega, by omega, hn, hq1, hq2, fun j hj => ?_⟩, Nat.le_refl _, (Below.refl _ _).alloc (Nat.le_refl _) _⟩
        obtain ⟨b, off, hA, hc⟩ := HC.out (by rw [cB_len]; omega)
        have hcl := hc j _ (cB_at hj)
        have hlt' := World.block_lt_of_cell? w _ hcl
        exact ⟨b, off, _, hA, hlt', by rw [World.cell?_alloc_lt w _ _ hlt']; exact hcl, by omega, by have := l[j].toNat_lt; omega⟩
    · have hd : decide ((k : Int) < (l.length : Int)) = false := by simp; omega
      go_wp2_with fail
      go_ret
      refine ⟨w.heap.size, rfl, ⟨A, l.length, c, 0, q, heap_alloc_new _ _, by omega, by omega, hn, hq1, hq2, fun j hj => ?_⟩, Nat.le_refl _, (Below.refl _ _).alloc (Nat.le_refl _) _⟩
      obtain ⟨b, off, hA, hc⟩ := HC.out (by rw [cB_len]; omega)
      have hcl := hc j _ (cB_at hj)
      have hlt' := World.block_lt_of_cell? w _ hcl
      exact ⟨b, off, _, hA, hlt', by rw [World.cell?_alloc_lt w _ _ hlt']; exact hcl, by omega, by have := l[j].toNat_lt; omega⟩

end Go.Proofs.Ytfdjamobfhoeiaa
