/-
  The library's table of powers of ten, as the walks ask for it: a fact of a world, kept in every later world; FormatInt of the program; how the listed table gives it.
-/
import Derived.Test.YtfdjamobfhoeiaaDoorProg
import Derived.Test.YtfdjamobfhoeiaaDoorShelf
import Derived.Test.YtfdjamobfhoeiaaDoorBase
import Derived.Test.YtfdjamobfhoeiaaDoorRep
import Derived.Test.YtfdjamobfhoeiaaDoorText
import Derived.Test.YtfdjamobfhoeiaaDoorDec
import Derived.Lib.LaidTab
import Derived.Lib.ItoaNum
import Derived.Lib.Hide
import Derived.KernelRfl
import Derived.WalkSmall
import Derived.Lib.AppendIntMem
import Derived.WalkKit
namespace Go.Proofs.YtfdjamobfhoeiaaDoor
open Go.RowKit

/-- The table of powers of ten holds them. -/
def Tab (w : World) : Prop := Lib.TabIs Tryd.prog w "internal/strconv.uint64pow10" .u64 Lib.pow10Tab
theorem tabG : Tryd.prog.globalNamed "internal/strconv.uint64pow10" = some 0 := by kernel_rfl
theorem tabT : (Tryd.prog.globals[0]?).map (·.type) = some 55 := by kernel_rfl
theorem tab_of_head {W : World} {rest : List (String × DataW Unit)} (h : laidMet Tryd.prog (("internal/strconv.uint64pow10", Lib.tabData .u64 Lib.pow10Tab) :: rest) W) : Tab W :=
  Lib.tabIs_of_head tabG tabT Tryd.underlying55 Tryd.underlying47 (by kernel_rfl) (by kernel_rfl) h
theorem Tab.lt {w : World} (h : Tab w) : 0 < w.heap.size := by
  have h1 := Lib.TabIs.cell h tabG 0 (by rw [Lib.pow10Tab_length]; omega)
  exact World.block_lt_of_cell? w _ h1
theorem Tab.below {w w' : World} (h : Tab w) (hb : Below w.heap.size w w') : Tab w' := var?_below hb tabG h.lt h

theorem dec_decDigits (k : Nat) : ∀ n, n < 10 ^ k → n ≠ 0 → Lib.decDigits n = dec n := by
  induction k with
  | zero => intro n h h0; have : n = 0 := by simpa using h
            exact absurd this h0
  | succ k ih =>
    intro n h h0
    rw [dec_pos h0, Lib.decDigits]
    by_cases h10 : n < 10
    · rw [dif_pos h10, show n / 10 = 0 by omega, dec_zero, Nat.mod_eq_of_lt h10]
      rfl
    · rw [dif_neg h10, ih (n / 10) (by rw [Nat.pow_succ] at h; omega) (by omega)]
      rfl
theorem itoa_fmtInt {n : Int} (h : -9223372036854775808 ≤ n ∧ n ≤ 9223372036854775807) : Lib.itoa n = fmtInt n := by
  unfold Lib.itoa fmtInt
  by_cases h0 : n = 0
  · subst h0
    rw [if_neg (by omega), if_pos rfl, Lib.decDigits]
    rfl
  · rw [if_neg h0]
    have e := dec_decDigits 19 n.natAbs (by omega) (by omega)
    by_cases hn : n < 0
    · rw [if_pos hn, if_pos hn, e]
    · rw [if_neg hn, if_neg hn, ← e]
      congr 1
      omega

set_option maxHeartbeats 1000000 in
theorem i_FormatInt (n : Int) (hn : -9223372036854775808 ≤ n ∧ n ≤ 9223372036854775807) (w : World) (ht : Tab w) :
    Calls Tryd.prog 6 #[.int .i64 n] w fun e w' => e = .returned (.string (mkS (fmtInt n))) ∧ Below w.heap.size w w' := by
  have C1 := Lib.hid (Tryd.strconv_Itoa n hn.1 hn.2 w ht)
  have E1 := Lib.hid (itoa_fmtInt hn)
  clear ht
  go_enter Tryd.func6, Tryd.ntmps6
  go_wp2_with fail
  refine C1.out.mono ?_
  rintro e w' ⟨rfl, k, os, rfl⟩
  go_wp2_with fail
  go_ret
  exact ⟨ret_str (by rw [E1.out]; rfl), Lib.below_grow w.heap.size w (Nat.le_refl _) k os⟩

end Go.Proofs.YtfdjamobfhoeiaaDoor
