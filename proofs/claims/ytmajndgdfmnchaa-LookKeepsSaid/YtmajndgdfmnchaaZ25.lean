/- Part of a proof: what functions of the given program compute, and plain laws of it. -/
import Derived.Test.YtmajndgdfmnchaaZ24
import Derived.Test.YtmajndgdfmnchaaZ22
/- The rows' openers, with the bounds of the form's own reach. -/
namespace Go.Proofs.Ytmajndgdfmnchaa
open Go Go.T Go.Gh Go.Proofs Go.ChangeShapes Go.WideShapes Go.ChangeAt Go.RowKit
theorem len47 {P : Program} {el : TypeId} {n : Nat} (hb : 0 < P.bytesOf el) (h : n * P.bytesOf el ≤ reachBytes) : n ≤ 140737488355328 := by
  have h1 : n * 1 ≤ n * P.bytesOf el := Nat.mul_le_mul_left _ hb
  have h2 := reachBytes_lt
  omega
theorem opHomesW : Opn Try.prog 22 (List Int) (fun ys => [.l false 1 (ys.map I)]) (fun ys => (∀ n ∈ ys, isI n) ∧ ys.length * 8 ≤ 140737488351232) :=
  (Opn.sliceW Try.underlying22 (by kernel_rfl) (by decide) false opInt (fun _ _ => rfl)).iso id (fun _ => rfl) (fun _ h => ⟨h.1, by
    have h1 := h.2.2
    rw [show Try.prog.bytesOf 3 = 8 by kernel_rfl] at h1
    exact h1⟩)
theorem opMsgsW : Opn Try.prog 49 (List Msg) (fun ys => [.l false 5 (ys.map encM)]) (fun ys => ys.length ≤ 140737488355328) :=
  (Opn.sliceW Try.underlying49 (by kernel_rfl) (by decide) true opMsg (fun _ _ => rfl)).iso id (fun _ => rfl) (fun _ h => (len47 (of_decide_eq_true (by kernel_rfl)) h.2.2))
theorem opCelsW : Opn Try.prog 85 (List Cel) (fun ys => [.l false 4 (ys.map encC)]) (fun ys => ys.length ≤ 140737488355328) :=
  (Opn.sliceW Try.underlying85 (by kernel_rfl) (by decide) true opCel (fun _ _ => rfl)).iso id (fun _ => rfl) (fun _ h => (len47 (of_decide_eq_true (by kernel_rfl)) h.2.2))
theorem opOwnW : Opn Try.prog 87 Gh.Own (fun o => [I o.arrow, I o.made, .l false 4 (o.cells.map encC)]) (fun o => o.cells.length ≤ 140737488355328) :=
  (Opn.struct Try.underlying87 (n := 3) (by kernel_rfl)
    (OpnFs.cons (m := 1) rfl (by kernel_rfl) (by decide) opInt
    (OpnFs.cons (m := 1) rfl (by kernel_rfl) (by decide) opInt
    (OpnFs.cons (m := 1) rfl (by kernel_rfl) (by decide) opCelsW
    (OpnFs.nil 3))))).iso (fun y => ⟨y.1, y.2.1, y.2.2.1⟩) (fun _ => rfl) (fun _ h => h.2.2.1)
theorem opOwnsW : Opn Try.prog 60 (List Gh.Own) (fun ys => [.l false 3 (ys.map encO)]) (fun ys => (∀ o ∈ ys, o.cells.length ≤ 140737488355328) ∧ ys.length ≤ 140737488355328) :=
  (Opn.sliceW Try.underlying60 (by kernel_rfl) (by decide) true opOwnW (fun _ _ => rfl)).iso id (fun _ => rfl) (fun _ h => ⟨h.1, (len47 (of_decide_eq_true (by kernel_rfl)) h.2.2)⟩)
theorem opSidW : Opn Try.prog 101 Sid (fun e => [I e.peer, I e.base, .l false 5 (e.out.map encM), I e.seen]) (fun e => e.out.length ≤ 140737488355328) :=
  (Opn.struct Try.underlying101 (n := 4) (by kernel_rfl)
    (OpnFs.cons (m := 1) rfl (by kernel_rfl) (by decide) opInt
    (OpnFs.cons (m := 1) rfl (by kernel_rfl) (by decide) opInt
    (OpnFs.cons (m := 1) rfl (by kernel_rfl) (by decide) opMsgsW
    (OpnFs.cons (m := 1) rfl (by kernel_rfl) (by decide) opInt
    (OpnFs.nil 4)))))).iso (fun y => ⟨y.1, y.2.1, y.2.2.1, y.2.2.2.1⟩) (fun _ => rfl) (fun _ h => h.2.2.1)
theorem opSidsW : Opn Try.prog 61 (List Sid) (fun ys => [.l false 4 (ys.map encE)]) (fun ys => (∀ e ∈ ys, e.out.length ≤ 140737488355328) ∧ ys.length ≤ 140737488355328) :=
  (Opn.sliceW Try.underlying61 (by kernel_rfl) (by decide) true opSidW (fun _ _ => rfl)).iso id (fun _ => rfl) (fun _ h => ⟨h.1, (len47 (of_decide_eq_true (by kernel_rfl)) h.2.2)⟩)
theorem opAsksW : Opn Try.prog 62 (List Gh.Ask) (fun ys => [.l false 2 (ys.map encA)]) (fun ys => ys.length ≤ 140737488355328) :=
  (Opn.sliceW Try.underlying62 (by kernel_rfl) (by decide) true opAsk (fun _ _ => rfl)).iso id (fun _ => rfl) (fun _ h => (len47 (of_decide_eq_true (by kernel_rfl)) h.2.2))
theorem opFoundsW : Opn Try.prog 63 (List Gh.Found) (fun ys => [.l false 3 (ys.map encF)]) (fun ys => ys.length ≤ 140737488355328) :=
  (Opn.sliceW Try.underlying63 (by kernel_rfl) (by decide) true opFound (fun _ _ => rfl)).iso id (fun _ => rfl) (fun _ h => (len47 (of_decide_eq_true (by kernel_rfl)) h.2.2))
theorem opStateW : Opn Try.prog 65 Nst (fun s => [I s.me, .l false 3 (s.objs.map encO), .l false 4 (s.edges.map encE), I s.asked, .l false 2 (s.asks.map encA), .l false 3 (s.got.map encF)]) Sized47 :=
  (Opn.struct Try.underlying65 (n := 6) (by kernel_rfl)
    (OpnFs.cons (m := 1) rfl (by kernel_rfl) (by decide) opInt
    (OpnFs.cons (m := 1) rfl (by kernel_rfl) (by decide) opOwnsW
    (OpnFs.cons (m := 1) rfl (by kernel_rfl) (by decide) opSidsW
    (OpnFs.cons (m := 1) rfl (by kernel_rfl) (by decide) opInt
    (OpnFs.cons (m := 1) rfl (by kernel_rfl) (by decide) opAsksW
    (OpnFs.cons (m := 1) rfl (by kernel_rfl) (by decide) opFoundsW
    (OpnFs.nil 6)))))))).iso (fun y => ⟨y.1, y.2.1, y.2.2.1, y.2.2.2.1, y.2.2.2.2.1, y.2.2.2.2.2.1⟩) (fun _ => rfl)
    (fun _ h => ⟨h.2.1.2, h.2.2.1.2, h.2.2.2.2.1, h.2.2.2.2.2.1, h.2.1.1, h.2.2.1.1⟩)
theorem opStatesW : Opn Try.prog 40 (List Nst) (fun ys => [.l false 6 (ys.map encS)]) (fun ys => (∀ s ∈ ys, Sized47 s) ∧ ys.length ≤ 140737488355328) :=
  (Opn.sliceW Try.underlying40 (by kernel_rfl) (by decide) true opStateW (fun _ _ => rfl)).iso id (fun _ => rfl) (fun _ h => ⟨h.1, (len47 (of_decide_eq_true (by kernel_rfl)) h.2.2)⟩)
end Go.Proofs.Ytmajndgdfmnchaa
