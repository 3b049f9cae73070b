/- Part of a proof: what functions of the given program compute, and plain laws of it. -/
import Derived.Test.YtmajndgdfmnchaaZ3
import Derived.Test.YtmajndgdfmnchaaZ4
import Derived.Test.YtmajndgdfmnchaaT3
/- Clones of ints. -/
namespace Go.Proofs.Ytmajndgdfmnchaa
open Go Go.T Go.Gh Go.Proofs
set_option linter.unusedSimpArgs false
theorem I_lfs (ns : List Int) : AV.lfs (ns.map I) = true := by
  rw [lfs_iff]; intro x hx
  obtain ⟨n, _, rfl⟩ := List.mem_map.1 hx
  simp [I, AV.lf, AV.lfs]
end Go.Proofs.Ytmajndgdfmnchaa
