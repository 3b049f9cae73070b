/- Part of a proof: what functions of the given program compute, and plain laws of it. -/
import Derived.Test.YtmajndgdfmnchaaZ2
import Derived.Test.YtmajndgdfmnchaaT3
import Derived.Test.YtmajndgdfmnchaaRows
import Derived.WalkKit
import Derived.ProofKit
import Derived.OpenShut
import Derived.ChangeOld
/- The rows' openers: what is handed in, as plain values. -/
namespace Go.Proofs.Ytmajndgdfmnchaa
open Go Go.T Go.Gh Go.Proofs Go.ChangeShapes Go.WideShapes Go.ChangeAt Go.RowKit
theorem own : ownKnob Try.prog.godebug = none := by kernel_rfl
theorem laidOut : laidOutB Try.prog = true := by kernel_rfl
def isI (n : Int) : Prop := (Lit.int .i64 n).wf = true
theorem opInt : Opn Try.prog 3 Int (fun n => [I n]) isI := (Opn.int Try.underlying3).iso id (fun _ => rfl) (fun _ h => h)
theorem opHomes : Opn Try.prog 22 (List Int) (fun ys => [.l false 1 (ys.map I)]) (fun ys => (∀ n ∈ ys, isI n) ∧ ys.length ≤ maxLen) :=
  (Opn.slice Try.underlying22 (by kernel_rfl) (by decide) false opInt (fun _ _ => rfl)).iso id (fun _ => rfl) (fun _ h => h)
end Go.Proofs.Ytmajndgdfmnchaa
