/- Part of a proof: what functions of the given program compute, and plain laws of it. -/
import Derived.Test.YtmajndgdfmnchaaZ2
import Derived.Test.YtmajndgdfmnchaaT3
import Derived.Test.YtmajndgdfmnchaaRows
import Derived.WalkKit
import Derived.ProofKit
import Derived.OpenShut
import Derived.ChangeOld
/- The rows' openers: what is handed in, as plain values. -/
namespace Go.Proofs.Ytmajndgdfmnchaa
open Go Go.T Go.Gh Go.Proofs Go.ChangeShapes Go.WideShapes Go.ChangeAt Go.RowKit
theorem own : ownKnob Try.prog.godebug = none := by kernel_rfl
theorem laidOut : laidOutB Try.prog = true := by kernel_rfl
def isI (n : Int) : Prop := (Lit.int .i64 n).wf = true
theorem opInt : Opn Try.prog 3 Int (fun n => [I n]) isI := (Opn.int Try.underlying3).iso id (fun _ => rfl) (fun _ h => h)
def isN (n : Note) : Prop := isI n.kind ∧ isI n.obj ∧ isI n.node ∧ isI n.num ∧ isI n.to ∧ isI n.next
theorem opNote : Opn Try.prog 37 Note (fun n => [I n.kind, I n.obj, I n.node, I n.num, I n.to, I n.next]) isN :=
  (Opn.struct Try.underlying37 (n := 6) (by kernel_rfl)
    (OpnFs.cons (m := 1) rfl (by kernel_rfl) (by decide) opInt
    (OpnFs.cons (m := 1) rfl (by kernel_rfl) (by decide) opInt
    (OpnFs.cons (m := 1) rfl (by kernel_rfl) (by decide) opInt
    (OpnFs.cons (m := 1) rfl (by kernel_rfl) (by decide) opInt
    (OpnFs.cons (m := 1) rfl (by kernel_rfl) (by decide) opInt
    (OpnFs.cons (m := 1) rfl (by kernel_rfl) (by decide) opInt
    (OpnFs.nil 6)))))))).iso (fun y => ⟨y.1, y.2.1, y.2.2.1, y.2.2.2.1, y.2.2.2.2.1, y.2.2.2.2.2.1⟩) (fun _ => rfl) (fun _ h => ⟨h.1, h.2.1, h.2.2.1, h.2.2.2.1, h.2.2.2.2.1, h.2.2.2.2.2.1⟩)
end Go.Proofs.Ytmajndgdfmnchaa
