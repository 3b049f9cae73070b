/- Part of a proof: what functions of the given program compute, and plain laws of it. -/
import Derived.Test.YtmajndgdfmnchaaZ1
namespace Go.Proofs.Ytmajndgdfmnchaa
open Go Go.T Go.Proofs
@[go_sem] theorem res6 : Try.f6.results = #[.cell 6 4] := by kernel_rfl
@[go_sem] theorem res17 : Try.f17.results = #[.tmp 4] := by kernel_rfl
end Go.Proofs.Ytmajndgdfmnchaa
