/- Part of a proof: what functions of the given program compute, and plain laws of it. -/
import Derived.Test.YtmajndgdfmnchaaZ8
import Derived.Test.YtmajndgdfmnchaaT6
/- fletchref14.Copy. -/
namespace Go.T
open Go
theorem Acc.cell {h H : Hp} {sz : Nat} {v : AV} {xs : List AV} (a : Acc h H sz v xs) : v.isCell = true := by cases a <;> rfl
end Go.T
namespace Go.Gh
end Go.Gh
namespace Go.Proofs.Ytmajndgdfmnchaa
open Go Go.T Go.Gh Go.Proofs
set_option linter.unusedSimpArgs false
set_option linter.unusedVariables false
set_option maxRecDepth 10000
set_option maxHeartbeats 4000000
end Go.Proofs.Ytmajndgdfmnchaa
