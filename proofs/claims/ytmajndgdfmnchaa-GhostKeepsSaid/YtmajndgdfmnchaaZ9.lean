/- Part of a proof: what functions of the given program compute, and plain laws of it. -/
import Derived.Shelf.Lays8
import Derived.Shelf.Spec.SlicesGrow
import Derived.Test.YtmajndgdfmnchaaT4
import Derived.Test.YtmajndgdfmnchaaZ8
import Derived.Test.YtmajndgdfmnchaaT5
import Derived.Test.YtmajndgdfmnchaaZ3
/- Layer 19 wakes. -/
namespace Go.Proofs.Ytmajndgdfmnchaa
open Go Go.T Go.Gh Go.Proofs
set_option linter.unusedSimpArgs false
set_option linter.unusedVariables false
set_option maxRecDepth 10000
set_option maxHeartbeats 4000000
def w0 : List Int := [-1, 0]
end Go.Proofs.Ytmajndgdfmnchaa
