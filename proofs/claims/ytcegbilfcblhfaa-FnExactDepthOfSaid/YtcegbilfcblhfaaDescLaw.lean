/-
  What the exact laws on descriptions share.
-/
import Derived.Test.YtcegbilfcblhfaaSzRule
import Derived.Test.YtcegbilfcblhfaaToDesc
import Derived.Test.YtcegbilfcblhfaaEqDesc
import Derived.Test.YtcegbilfcblhfaaDescRead
namespace Go.Proofs.Ytcegbilfcblhfaa
open Go.RowKit

theorem desc_len {l : List RuleD} (h : (descSize l : Int) ≤ 1048576) : l.length ≤ 1048576 := by unfold descSize at h; omega
theorem desc_small {l : List RuleD} (h : (descSize l : Int) ≤ 1048576) : ∀ r ∈ l, RuleSmall r := by
  intro r hr
  have h1 := rulesSize_mem hr
  unfold descSize at h
  unfold ruleSize at h1
  exact ⟨by omega, by omega, by omega, by omega⟩

end Go.Proofs.Ytcegbilfcblhfaa
