/- Part of a proof: what functions of the given program compute, and plain laws of it. -/
import Derived.Test.YtmajndgdfmnchaaZ15
import Derived.Test.YtmajndgdfmnchaaZ7
import Derived.Test.YtmajndgdfmnchaaZ11
/- The rows' openers, with the bounds of the form's own reach. -/
namespace Go.Proofs.Ytmajndgdfmnchaa
open Go Go.T Go.Gh Go.Proofs Go.ChangeShapes Go.WideShapes Go.ChangeAt Go.RowKit
theorem len47 {P : Program} {el : TypeId} {n : Nat} (hb : 0 < P.bytesOf el) (h : n * P.bytesOf el ≤ reachBytes) : n ≤ 140737488355328 := by
  have h1 : n * 1 ≤ n * P.bytesOf el := Nat.mul_le_mul_left _ hb
  have h2 := reachBytes_lt
  omega
theorem opHomesW : Opn Try.prog 22 (List Int) (fun ys => [.l false 1 (ys.map I)]) (fun ys => (∀ n ∈ ys, isI n) ∧ ys.length * 8 ≤ 140737488351232) :=
  (Opn.sliceW Try.underlying22 (by kernel_rfl) (by decide) false opInt (fun _ _ => rfl)).iso id (fun _ => rfl) (fun _ h => ⟨h.1, by
    have h1 := h.2.2
    rw [show Try.prog.bytesOf 3 = 8 by kernel_rfl] at h1
    exact h1⟩)
theorem opNotesW : Opn Try.prog 23 (List Note) (fun ys => [.l false 6 (ys.map encN)]) (fun ys => (∀ n ∈ ys, isN n) ∧ ys.length ≤ 140737488355328) :=
  (Opn.sliceW Try.underlying23 (by kernel_rfl) (by decide) true opNote (fun _ _ => rfl)).iso id (fun _ => rfl) (fun _ h => ⟨h.1, (len47 (of_decide_eq_true (by kernel_rfl)) h.2.2)⟩)
end Go.Proofs.Ytmajndgdfmnchaa
