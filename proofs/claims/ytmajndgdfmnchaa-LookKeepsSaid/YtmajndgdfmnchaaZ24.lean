/- Part of a proof: what functions of the given program compute, and plain laws of it. -/
import Derived.Test.YtmajndgdfmnchaaZ23
import Derived.Test.YtmajndgdfmnchaaZ10
/- The rows' openers: states. -/
namespace Go.Proofs.Ytmajndgdfmnchaa
open Go Go.T Go.Gh Go.Proofs Go.ChangeShapes Go.WideShapes Go.ChangeAt Go.RowKit
theorem opMsg : Opn Try.prog 54 Msg (fun m => [I m.kind, I m.obj, I m.node, I m.num, I m.where']) (fun _ => True) :=
  (Opn.struct Try.underlying54 (n := 5) (by kernel_rfl)
    (OpnFs.cons (m := 1) rfl (by kernel_rfl) (by decide) opInt
    (OpnFs.cons (m := 1) rfl (by kernel_rfl) (by decide) opInt
    (OpnFs.cons (m := 1) rfl (by kernel_rfl) (by decide) opInt
    (OpnFs.cons (m := 1) rfl (by kernel_rfl) (by decide) opInt
    (OpnFs.cons (m := 1) rfl (by kernel_rfl) (by decide) opInt
    (OpnFs.nil 5))))))).iso (fun y => ⟨y.1, y.2.1, y.2.2.1, y.2.2.2.1, y.2.2.2.2.1⟩) (fun _ => rfl) (fun _ _ => trivial)
theorem opCel : Opn Try.prog 92 Cel (fun m => [I m.num, I m.state, I m.node, I m.next]) (fun _ => True) :=
  (Opn.struct Try.underlying92 (n := 4) (by kernel_rfl)
    (OpnFs.cons (m := 1) rfl (by kernel_rfl) (by decide) opInt
    (OpnFs.cons (m := 1) rfl (by kernel_rfl) (by decide) opInt
    (OpnFs.cons (m := 1) rfl (by kernel_rfl) (by decide) opInt
    (OpnFs.cons (m := 1) rfl (by kernel_rfl) (by decide) opInt
    (OpnFs.nil 4)))))).iso (fun y => ⟨y.1, y.2.1, y.2.2.1, y.2.2.2.1⟩) (fun _ => rfl) (fun _ _ => trivial)
theorem opAsk : Opn Try.prog 128 Gh.Ask (fun a => [I a.obj, I a.num]) (fun _ => True) :=
  (Opn.struct Try.underlying128 (n := 2) (by kernel_rfl)
    (OpnFs.cons (m := 1) rfl (by kernel_rfl) (by decide) opInt
    (OpnFs.cons (m := 1) rfl (by kernel_rfl) (by decide) opInt
    (OpnFs.nil 2)))).iso (fun y => ⟨y.1, y.2.1⟩) (fun _ => rfl) (fun _ _ => trivial)
theorem opFound : Opn Try.prog 130 Gh.Found (fun a => [I a.obj, I a.num, I a.where']) (fun _ => True) :=
  (Opn.struct Try.underlying130 (n := 3) (by kernel_rfl)
    (OpnFs.cons (m := 1) rfl (by kernel_rfl) (by decide) opInt
    (OpnFs.cons (m := 1) rfl (by kernel_rfl) (by decide) opInt
    (OpnFs.cons (m := 1) rfl (by kernel_rfl) (by decide) opInt
    (OpnFs.nil 3))))).iso (fun y => ⟨y.1, y.2.1, y.2.2.1⟩) (fun _ => rfl) (fun _ _ => trivial)
end Go.Proofs.Ytmajndgdfmnchaa
