/- Part of a proof: what functions of the given program compute, and plain laws of it. -/
import Derived.Test.YtmajndgdfmnchaaZ6
import Derived.Test.YtmajndgdfmnchaaT3
import Derived.Test.YtmajndgdfmnchaaT4
/- Trees: what is asked of them. -/
namespace Go.Gh
/-- Whether there is a node. -/
def hasN (ps : List Int) (v : Int) : Bool := decide (0 ≤ v ∧ v < ps.length)
def TreeOk (ps : List Int) : Prop := treeR ps = (0, 0)
theorem TreeOk.len {ps : List Int} (h : TreeOk ps) : 0 < ps.length ∧ ps.length ≤ 32 := by
  unfold TreeOk treeR at h
  by_cases hz : ps.length = 0
  · simp [hz] at h
  · by_cases hg : 32 < ps.length
    · simp [hz, hg] at h
    · omega
theorem TreeOk.fault {ps : List Int} (h : TreeOk ps) : ∀ u, u < ps.length → faultB ps u = false := by
  have hl := h.len
  intro u hu
  unfold TreeOk treeR at h
  cases hc : (List.range ps.length).find? (faultB ps) with
  | some v => rw [if_neg (by omega), if_neg (by omega), hc] at h; simp at h
  | none => rw [List.find?_range_eq_none] at hc; simpa using hc u hu
theorem TreeOk.in {ps : List Int} (h : TreeOk ps) {u : Nat} (hu : u < ps.length) : -1 ≤ ps[u] ∧ ps[u] < ps.length ∧ ps[u] ≠ u := in_tree hu (h.fault u hu)
end Go.Gh
namespace Go.Proofs.Ytmajndgdfmnchaa
open Go Go.T Go.Gh Go.Proofs
set_option linter.unusedSimpArgs false
end Go.Proofs.Ytmajndgdfmnchaa
