/-
  SplitLines, Words, IsComment, CountRuleLines, by both texts.
-/
import Derived.Test.YtabdcngkdgadfaaSplit
import Derived.Laws.OwnMore
namespace Go.Proofs.Ytabdcngkdgadfaa
open Go.RowKit

theorem own_front {w : World} {base : Nat} {e : TypeId} {size n g cap : Nat} {xs : List Value} (h : w.ownsRow base e size (.slice (some ⟨g, 0, none⟩) n cap) n xs) {a : Nat} (ha : a ≤ n) :
    w.ownsRow base e size (.slice (some ⟨g, 0, none⟩) a cap) a (xs.take (a * size)) := by
  rcases h.2 with ⟨h1, _⟩ | ⟨g', cap', cur, hv, hb, hg, hnc, hcm, hcs, ht⟩
  · cases h1
  · injection hv with h1 _ h2
    injection h1 with h1
    injection h1 with h1
    subst h1; subst h2
    have hle : a * size ≤ n * size := Nat.mul_le_mul_right _ ha
    refine ⟨by rw [List.length_take, h.1]; omega, .inr ⟨g, cap, cur, rfl, hb, hg, by omega, hcm, hcs, ?_⟩⟩
    rw [← ht, List.take_take, Nat.min_eq_left hle]
theorem Made.lists {E : TypeId} {a b : List (List UInt8)} {w : World} (h : a = b) {e : Ending} {w' : World} (hm : Made E 1 (tS a).length (cS (tS a)) w e w') : Made E 1 (tS b).length (cS (tS b)) w e w' := by
  subst h; exact hm

theorem mkS_empty {p : List UInt8} : (mkS p).toList.isEmpty = p.isEmpty := by rw [Lib.toList_data, mkS_list]

/-- The words among the first parts. -/
def fullL (ps : List (List UInt8)) : List (List UInt8) := ps.filter fun p => !p.isEmpty
theorem fullL_len (ps : List (List UInt8)) : (fullL ps).length ≤ ps.length := List.length_filter_le _ _
theorem fullL_yes {ps : List (List UInt8)} {k : Nat} (h : k < ps.length) (he : ps[k].isEmpty = false) : fullL (ps.take (k + 1)) = fullL (ps.take k) ++ [ps[k]] := by
  unfold fullL; rw [List.take_succ_eq_append_getElem h, List.filter_append]; simp [he]
theorem fullL_no {ps : List (List UInt8)} {k : Nat} (h : k < ps.length) (he : ps[k].isEmpty = true) : fullL (ps.take (k + 1)) = fullL (ps.take k) := by
  unfold fullL; rw [List.take_succ_eq_append_getElem h, List.filter_append]; simpa using he

/-- The lines among the first that are no comments. -/
def noneL (ps : List (List UInt8)) : Nat := (ps.filter fun p => !isCommentL p).length
theorem noneL_yes {ps : List (List UInt8)} {k : Nat} (h : k < ps.length) (he : isCommentL ps[k] = true) : noneL (ps.take (k + 1)) = noneL (ps.take k) := by
  unfold noneL; rw [List.take_succ_eq_append_getElem h, List.filter_append]; simp [he]
theorem noneL_no {ps : List (List UInt8)} {k : Nat} (h : k < ps.length) (he : isCommentL ps[k] = false) : noneL (ps.take (k + 1)) = noneL (ps.take k) + 1 := by
  unfold noneL; rw [List.take_succ_eq_append_getElem h, List.filter_append]; simp [he]
theorem noneL_le (ps : List (List UInt8)) : noneL ps ≤ ps.length := List.length_filter_le _ _

theorem isComment_cons {l p : List UInt8} {r : List (List UInt8)} (h : wordsL l = p :: r) : isCommentL l = decide (p[0]? = some 35) := by unfold isCommentL; rw [h]
theorem isComment_nil {l : List UInt8} (h : wordsL l = []) : isCommentL l = true := by unfold isCommentL; rw [h]

end Go.Proofs.Ytabdcngkdgadfaa
