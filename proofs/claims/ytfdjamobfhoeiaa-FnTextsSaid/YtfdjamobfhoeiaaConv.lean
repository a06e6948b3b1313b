/-
  A byte slice of the call's own, turned into a string.
-/
import Derived.Test.YtfdjamobfhoeiaaProg
import Derived.Test.YtfdjamobfhoeiaaText
import Derived.Test.YtfdjamobfhoeiaaRep
import Derived.WalkKit
import Derived.Laws.BytesArg
namespace Go.Proofs.Ytfdjamobfhoeiaa
open Go.RowKit
set_option maxRecDepth 100000

theorem conv_one (w : World) (d : Int) :
    (convert 33 9 (.slice (some ⟨w.heap.size, 0, none⟩) 1 1)).run Try.prog (w.alloc (.cells #[.int .u8 d] 5)) = .ok (.string (mkS [UInt8.ofNat d.toNat])) (w.alloc (.cells #[.int .u8 d] 5)) := by
  have h := run_convert_bytes_arg (P := Try.prog) (w.alloc (.cells #[.int .u8 d] 5)) 33 5 Try.underlying33 Try.underlying5 w.heap.size 0 1 1 [d] rfl (by
    intro i hi
    obtain rfl : i = 0 := by omega
    simp [World.cell?_alloc_new]) 9 Try.underlying9
  exact h

/-- A row of bytes of the call's own, turned into a string. -/
theorem conv_own {w : World} {base : Nat} {v : Value} {n : Nat} {l : List UInt8} (h : w.ownsRow base 5 1 v n (cB l)) :
    (convert 33 9 v).run Try.prog w = .ok (.string (mkS l)) w := by
  rcases h.2 with ⟨rfl, rfl⟩ | ⟨g, cap, cur, rfl, _, hg, hnc, hcm, _, htake⟩
  · have hl : l = [] := List.eq_nil_of_length_eq_zero (by have := h.1; rw [cB_len] at this; omega)
    subst hl
    exact run_convert_bytes_nil (P := Try.prog) w 33 5 Try.underlying33 Try.underlying5 0 0 9 Try.underlying9
  · have hlen : l.length = n := by have := h.1; rw [cB_len] at this; omega
    have hr := run_convert_bytes_arg (P := Try.prog) w 33 5 Try.underlying33 Try.underlying5 g 0 n cap (l.map fun b => (b.toNat : Int)) (by simpa using hlen) (by
      intro i hi
      have := h.cells (g := g) rfl i _ (cB_at (l := l) (k := i) (by omega))
      have hadd : (⟨g, 0, none⟩ : Addr).add i = ⟨g, 0 + i, none⟩ := by unfold Addr.add; split <;> simp_all
      rw [hadd] at this
      rw [this]
      simp [List.getD, show i < l.length by omega]) 9 Try.underlying9
    rw [hr]
    have e : strOfNums (l.map fun b => (b.toNat : Int)) = mkS l := by
      unfold strOfNums mkS
      congr 2
      rw [List.map_map]
      apply List.ext_getElem?
      intro i
      rw [List.getElem?_map]
      cases l[i]? with
      | none => rfl
      | some b => simp
    rw [e]

/-- A slice that reads as bytes, turned into a string. -/
theorem conv_rd {w : World} {v : Value} {n : Nat} {l : List UInt8} (h : Rd w v 1 n (cB l)) :
    (convert 33 9 v).run Try.prog w = .ok (.string (mkS l)) w := by
  obtain ⟨hl, A, c, rfl, hnc, hcm, hcell⟩ := h
  have hlen : l.length = n := by rw [cB_len] at hl; omega
  rcases Nat.eq_zero_or_pos n with h0 | h0
  · subst h0
    have hl0 : l = [] := List.eq_nil_of_length_eq_zero hlen
    subst hl0
    rw [run_convert_bytes_string w 33 9 5 A 0 c Try.underlying33 Try.underlying5 Try.underlying9]
    cases A with
    | none => simp [Conv.bytesToString, mkS]; rfl
    | some a =>
      rw [run_bytesToString w a 0 c [] (by simp [loadCells, loadCellsFrom])]
      rfl
  · obtain ⟨b, off, rfl, hc⟩ := hcell (by rw [hl]; omega)
    have hr := run_convert_bytes_arg (P := Try.prog) w 33 5 Try.underlying33 Try.underlying5 b off n c (l.map fun b => (b.toNat : Int)) (by simpa using hlen) (by
      intro i hi
      rw [hc i _ (cB_at (l := l) (k := i) (by omega))]
      simp [List.getD, show i < l.length by omega]) 9 Try.underlying9
    rw [hr]
    have e : strOfNums (l.map fun b => (b.toNat : Int)) = mkS l := by
      unfold strOfNums mkS
      congr 2
      rw [List.map_map]
      apply List.ext_getElem?
      intro i
      rw [List.getElem?_map]
      cases l[i]? with
      | none => rfl
      | some b => simp
    rw [e]

end Go.Proofs.Ytfdjamobfhoeiaa
