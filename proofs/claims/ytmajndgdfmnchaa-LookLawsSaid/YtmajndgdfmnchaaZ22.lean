/- Part of a proof: what functions of the given program compute, and plain laws of it. -/
import Derived.Test.YtmajndgdfmnchaaZ21
import Derived.Test.YtmajndgdfmnchaaZ10
/- The rows' openers: states. -/
namespace Go.Proofs.Ytmajndgdfmnchaa
open Go Go.T Go.Gh Go.Proofs Go.ChangeShapes Go.WideShapes Go.ChangeAt Go.RowKit
theorem opMsg : Opn Try.prog 54 Msg (fun m => [I m.kind, I m.obj, I m.node, I m.num, I m.where']) (fun _ => True) :=
  (Opn.struct Try.underlying54 (n := 5) (by kernel_rfl)
    (OpnFs.cons (m := 1) rfl (by kernel_rfl) (by decide) opInt
    (OpnFs.cons (m := 1) rfl (by kernel_rfl) (by decide) opInt
    (OpnFs.cons (m := 1) rfl (by kernel_rfl) (by decide) opInt
    (OpnFs.cons (m := 1) rfl (by kernel_rfl) (by decide) opInt
    (OpnFs.cons (m := 1) rfl (by kernel_rfl) (by decide) opInt
    (OpnFs.nil 5))))))).iso (fun y => ⟨y.1, y.2.1, y.2.2.1, y.2.2.2.1, y.2.2.2.2.1⟩) (fun _ => rfl) (fun _ _ => trivial)
theorem opMsgs : Opn Try.prog 49 (List Msg) (fun ys => [.l false 5 (ys.map encM)]) (fun ys => ys.length ≤ maxLen) :=
  (Opn.slice Try.underlying49 (by kernel_rfl) (by decide) true opMsg (fun _ _ => rfl)).iso id (fun _ => rfl) (fun _ h => h.2)
theorem opCel : Opn Try.prog 92 Cel (fun m => [I m.num, I m.state, I m.node, I m.next]) (fun _ => True) :=
  (Opn.struct Try.underlying92 (n := 4) (by kernel_rfl)
    (OpnFs.cons (m := 1) rfl (by kernel_rfl) (by decide) opInt
    (OpnFs.cons (m := 1) rfl (by kernel_rfl) (by decide) opInt
    (OpnFs.cons (m := 1) rfl (by kernel_rfl) (by decide) opInt
    (OpnFs.cons (m := 1) rfl (by kernel_rfl) (by decide) opInt
    (OpnFs.nil 4)))))).iso (fun y => ⟨y.1, y.2.1, y.2.2.1, y.2.2.2.1⟩) (fun _ => rfl) (fun _ _ => trivial)
theorem opCels : Opn Try.prog 85 (List Cel) (fun ys => [.l false 4 (ys.map encC)]) (fun ys => ys.length ≤ maxLen) :=
  (Opn.slice Try.underlying85 (by kernel_rfl) (by decide) true opCel (fun _ _ => rfl)).iso id (fun _ => rfl) (fun _ h => h.2)
theorem opOwn : Opn Try.prog 87 Gh.Own (fun o => [I o.arrow, I o.made, .l false 4 (o.cells.map encC)]) (fun o => o.cells.length ≤ maxLen) :=
  (Opn.struct Try.underlying87 (n := 3) (by kernel_rfl)
    (OpnFs.cons (m := 1) rfl (by kernel_rfl) (by decide) opInt
    (OpnFs.cons (m := 1) rfl (by kernel_rfl) (by decide) opInt
    (OpnFs.cons (m := 1) rfl (by kernel_rfl) (by decide) opCels
    (OpnFs.nil 3))))).iso (fun y => ⟨y.1, y.2.1, y.2.2.1⟩) (fun _ => rfl) (fun _ h => h.2.2.1)
theorem opOwns : Opn Try.prog 60 (List Gh.Own) (fun ys => [.l false 3 (ys.map encO)]) (fun ys => (∀ o ∈ ys, o.cells.length ≤ maxLen) ∧ ys.length ≤ maxLen) :=
  (Opn.slice Try.underlying60 (by kernel_rfl) (by decide) true opOwn (fun _ _ => rfl)).iso id (fun _ => rfl) (fun _ h => h)
theorem opSid : Opn Try.prog 101 Sid (fun e => [I e.peer, I e.base, .l false 5 (e.out.map encM), I e.seen]) (fun e => e.out.length ≤ maxLen) :=
  (Opn.struct Try.underlying101 (n := 4) (by kernel_rfl)
    (OpnFs.cons (m := 1) rfl (by kernel_rfl) (by decide) opInt
    (OpnFs.cons (m := 1) rfl (by kernel_rfl) (by decide) opInt
    (OpnFs.cons (m := 1) rfl (by kernel_rfl) (by decide) opMsgs
    (OpnFs.cons (m := 1) rfl (by kernel_rfl) (by decide) opInt
    (OpnFs.nil 4)))))).iso (fun y => ⟨y.1, y.2.1, y.2.2.1, y.2.2.2.1⟩) (fun _ => rfl) (fun _ h => h.2.2.1)
theorem opSids : Opn Try.prog 61 (List Sid) (fun ys => [.l false 4 (ys.map encE)]) (fun ys => (∀ e ∈ ys, e.out.length ≤ maxLen) ∧ ys.length ≤ maxLen) :=
  (Opn.slice Try.underlying61 (by kernel_rfl) (by decide) true opSid (fun _ _ => rfl)).iso id (fun _ => rfl) (fun _ h => h)
theorem opAsk : Opn Try.prog 128 Gh.Ask (fun a => [I a.obj, I a.num]) (fun _ => True) :=
  (Opn.struct Try.underlying128 (n := 2) (by kernel_rfl)
    (OpnFs.cons (m := 1) rfl (by kernel_rfl) (by decide) opInt
    (OpnFs.cons (m := 1) rfl (by kernel_rfl) (by decide) opInt
    (OpnFs.nil 2)))).iso (fun y => ⟨y.1, y.2.1⟩) (fun _ => rfl) (fun _ _ => trivial)
theorem opAsks : Opn Try.prog 62 (List Gh.Ask) (fun ys => [.l false 2 (ys.map encA)]) (fun ys => ys.length ≤ maxLen) :=
  (Opn.slice Try.underlying62 (by kernel_rfl) (by decide) true opAsk (fun _ _ => rfl)).iso id (fun _ => rfl) (fun _ h => h.2)
theorem opFound : Opn Try.prog 130 Gh.Found (fun a => [I a.obj, I a.num, I a.where']) (fun _ => True) :=
  (Opn.struct Try.underlying130 (n := 3) (by kernel_rfl)
    (OpnFs.cons (m := 1) rfl (by kernel_rfl) (by decide) opInt
    (OpnFs.cons (m := 1) rfl (by kernel_rfl) (by decide) opInt
    (OpnFs.cons (m := 1) rfl (by kernel_rfl) (by decide) opInt
    (OpnFs.nil 3))))).iso (fun y => ⟨y.1, y.2.1, y.2.2.1⟩) (fun _ => rfl) (fun _ _ => trivial)
theorem opFounds : Opn Try.prog 63 (List Gh.Found) (fun ys => [.l false 3 (ys.map encF)]) (fun ys => ys.length ≤ maxLen) :=
  (Opn.slice Try.underlying63 (by kernel_rfl) (by decide) true opFound (fun _ _ => rfl)).iso id (fun _ => rfl) (fun _ h => h.2)
theorem opState : Opn Try.prog 65 Nst (fun s => [I s.me, .l false 3 (s.objs.map encO), .l false 4 (s.edges.map encE), I s.asked, .l false 2 (s.asks.map encA), .l false 3 (s.got.map encF)]) Sized :=
  (Opn.struct Try.underlying65 (n := 6) (by kernel_rfl)
    (OpnFs.cons (m := 1) rfl (by kernel_rfl) (by decide) opInt
    (OpnFs.cons (m := 1) rfl (by kernel_rfl) (by decide) opOwns
    (OpnFs.cons (m := 1) rfl (by kernel_rfl) (by decide) opSids
    (OpnFs.cons (m := 1) rfl (by kernel_rfl) (by decide) opInt
    (OpnFs.cons (m := 1) rfl (by kernel_rfl) (by decide) opAsks
    (OpnFs.cons (m := 1) rfl (by kernel_rfl) (by decide) opFounds
    (OpnFs.nil 6)))))))).iso (fun y => ⟨y.1, y.2.1, y.2.2.1, y.2.2.2.1, y.2.2.2.2.1, y.2.2.2.2.2.1⟩) (fun _ => rfl)
    (fun _ h => ⟨h.2.1.2, h.2.2.1.2, h.2.2.2.2.1, h.2.2.2.2.2.1, h.2.1.1, h.2.2.1.1⟩)
theorem opStates : Opn Try.prog 40 (List Nst) (fun ys => [.l false 6 (ys.map encS)]) (fun ys => (∀ s ∈ ys, Sized s) ∧ ys.length ≤ maxLen) :=
  (Opn.slice Try.underlying40 (by kernel_rfl) (by decide) true opState (fun _ _ => rfl)).iso id (fun _ => rfl) (fun _ h => h)
end Go.Proofs.Ytmajndgdfmnchaa
