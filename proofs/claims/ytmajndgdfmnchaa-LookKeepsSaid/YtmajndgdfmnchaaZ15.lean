/- Part of a proof: what functions of the given program compute, and plain laws of it. -/
import Derived.Test.YtmajndgdfmnchaaZ12
import Derived.Test.YtmajndgdfmnchaaZ3
import Derived.Test.YtmajndgdfmnchaaT3
/- The law GhostDiffs answers true. -/
namespace Go.Proofs.Ytmajndgdfmnchaa
open Go Go.T Go.Gh Go.Proofs
set_option linter.unusedSimpArgs false
set_option maxRecDepth 10000
set_option maxHeartbeats 4000000
theorem treeR_bad {ps : List Int} (h : ¬ treeR ps = (0, 0)) : (treeR ps).2 ≠ 0 := by
  unfold treeR at h ⊢
  split
  · simp
  · split
    · simp
    · split
      · simp
      · split
        · simp
        · rename_i h1 h2 _ h3 _ h4
          rw [if_neg h1, if_neg h2, h3, h4] at h
          exact absurd rfl h
end Go.Proofs.Ytmajndgdfmnchaa
