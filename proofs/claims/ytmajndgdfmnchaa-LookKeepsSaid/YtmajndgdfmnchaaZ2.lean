/- Part of a proof: what functions of the given program compute, and plain laws of it. -/
import Derived.Test.YtmajndgdfmnchaaZ1
import Derived.Test.YtmajndgdfmnchaaT3
/- The reference's functions of layer 23: what they compute. -/
namespace Go.Proofs.Ytmajndgdfmnchaa
open Go Go.T Go.Gh Go.Proofs

theorem wrapS {n : Nat} (h : n < 2 ^ 62) : IntKind.i64.wrap ((n : Int) + 1) = ((n + 1 : Nat) : Int) := by
  rw [IntWalk.i64_in _ (by omega)]; simp

set_option linter.unusedSimpArgs false
end Go.Proofs.Ytmajndgdfmnchaa
/- ghost's own functions: has. -/
namespace Go.Proofs.Ytmajndgdfmnchaa
open Go Go.T Go.Gh Go.Proofs

/-- An object's cells. -/
def objC (made : List Int) (L1 L2 : Lab) (atNode atNum : Int) (freed : Bool) (home : Int) : List AV :=
  made.map (.int .i64) ++ [.mr L1, .mr L2, .int .i64 atNode, .int .i64 atNum, .bool freed, .int .i64 home]
set_option linter.unusedSimpArgs false
end Go.Proofs.Ytmajndgdfmnchaa
/- The reference's Check. -/
namespace Go.Proofs.Ytmajndgdfmnchaa
open Go Go.T Go.Gh Go.Proofs
def I (n : Int) : AV := .int .i64 n
theorem I_eq (n : Int) : I n = .int .i64 n := by simp [I]
theorem I_cells (n : Int) : (I n).cells = [.int .i64 n] := by simp [I, AV.cells]
def pairV (r : Int × Int) : AV := .tup [.int .i64 r.1, .int .i64 r.2]
set_option linter.unusedSimpArgs false
end Go.Proofs.Ytmajndgdfmnchaa
