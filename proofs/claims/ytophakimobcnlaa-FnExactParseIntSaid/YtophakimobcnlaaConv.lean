/-
  A byte slice of the call's own, turned into a string.
-/
import Derived.Test.YtophakimobcnlaaProg
import Derived.Test.YtophakimobcnlaaText
import Derived.Test.YtophakimobcnlaaRep
import Derived.WalkKit
import Derived.Laws.BytesArg
namespace Go.Proofs.Ytophakimobcnlaa
open Go.RowKit

theorem conv_one (w : World) (d : Int) :
    (convert 39 9 (.slice (some ⟨w.heap.size, 0, none⟩) 1 1)).run Try.prog (w.alloc (.cells #[.int .u8 d] 5)) = .ok (.string (mkS [UInt8.ofNat d.toNat])) (w.alloc (.cells #[.int .u8 d] 5)) := by
  have h := run_convert_bytes_arg (P := Try.prog) (w.alloc (.cells #[.int .u8 d] 5)) 39 5 Try.underlying39 Try.underlying5 w.heap.size 0 1 1 [d] rfl (by
    intro i hi
    obtain rfl : i = 0 := by omega
    simp [World.cell?_alloc_new]) 9 Try.underlying9
  exact h

end Go.Proofs.Ytophakimobcnlaa
