/- Part of a proof: what functions of the given program compute, and plain laws of it. -/
import Derived.Test.YtmajndgdfmnchaaZ2
import Derived.Test.YtmajndgdfmnchaaT3
import Derived.Test.YtmajndgdfmnchaaRows
import Derived.WalkKit
import Derived.ProofKit
import Derived.OpenShut
import Derived.ChangeOld
/- The rows' openers: what is handed in, as plain values. -/
namespace Go.Proofs.Ytmajndgdfmnchaa
open Go Go.T Go.Gh Go.Proofs Go.ChangeShapes Go.WideShapes Go.ChangeAt Go.RowKit
theorem own : ownKnob Try.prog.godebug = none := by kernel_rfl
theorem laidOut : laidOutB Try.prog = true := by kernel_rfl
def isI (n : Int) : Prop := (Lit.int .i64 n).wf = true
theorem opInt : Opn Try.prog 3 Int (fun n => [I n]) isI := (Opn.int Try.underlying3).iso id (fun _ => rfl) (fun _ h => h)
theorem opPair : Opn Try.prog 29 (Int × Int) (fun y => [I y.1, I y.2]) (fun y => isI y.1 ∧ isI y.2) :=
  (Opn.array2 Try.underlying29 (by kernel_rfl) (by kernel_rfl) opInt).iso id (fun _ => rfl) (fun _ h => h)
end Go.Proofs.Ytmajndgdfmnchaa
