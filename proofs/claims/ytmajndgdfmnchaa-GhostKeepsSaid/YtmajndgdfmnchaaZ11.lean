/- Part of a proof: what functions of the given program compute, and plain laws of it. -/
import Derived.Test.YtmajndgdfmnchaaZ9
import Derived.Test.YtmajndgdfmnchaaZ10
import Derived.Test.YtmajndgdfmnchaaZ8
import Derived.Test.YtmajndgdfmnchaaT6
/- LookKeeps: what is handed in stays; what Left answers is its own. -/
namespace Go.T
open Go
theorem Acc.old {h H : Hp} {sz : Nat} {v : AV} {xs : List AV} (a : Acc h H sz v xs) : ∀ L, v = .os L → L.k < H.cnt L.f L.s := by
  intro L hL
  subst hL
  have := a.own'.1
  apply Classical.byContradiction
  intro hk
  rw [H.ok L (by omega)] at this
  cases this
theorem Acc.trans {h H H' : Hp} {sz : Nat} {v : AV} {xs : List AV} (a : Acc H H' sz v xs) (k : Keeps h H) : Acc h H' sz v xs := by
  cases a with
  | nil => exact .nil
  | own L xs hc hL =>
    refine .own L xs hc ?_
    rcases k L with h1 | h1
    · exact h1
    · rw [← h1]; exact hL
theorem old_keeps {h H H' : Hp} (k : Keeps h H) (hf : ∀ M : Lab, M.k < H.cnt M.f M.s → H'.con M = H.con M) : Keeps h H' := fun M => by
  by_cases hM : M.k < H.cnt M.f M.s
  · rw [hf M hM]; exact k M
  · rcases k M with h1 | h1
    · exact .inl h1
    · left; rw [← h1, H.ok M (by omega)]
end Go.T
namespace Go.Gh
open Go Go.T
end Go.Gh
namespace Go.Proofs.Ytmajndgdfmnchaa
open Go Go.T Go.Gh Go.Proofs
set_option linter.unusedSimpArgs false
set_option linter.unusedVariables false
set_option maxRecDepth 10000
set_option maxHeartbeats 4000000
end Go.Proofs.Ytmajndgdfmnchaa
