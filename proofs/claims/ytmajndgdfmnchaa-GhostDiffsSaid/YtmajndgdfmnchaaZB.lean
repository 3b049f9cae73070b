/- ghost's own functions: has. -/
import Derived.Test.YtmajndgdfmnchaaZA
namespace Go.Proofs.Ytmajndgdfmnchaa
open Go Go.T Go.Gh Go.Proofs

/-- An object's cells. -/
def objC (made : List Int) (L1 L2 : Lab) (atNode atNum : Int) (freed : Bool) (home : Int) : List AV :=
  made.map (.int .i64) ++ [.mr L1, .mr L2, .int .i64 atNode, .int .i64 atNum, .bool freed, .int .i64 home]
@[go_sem] theorem res70 : Try.f70.results = #[.tmp 4] := by kernel_rfl
set_option linter.unusedSimpArgs false
set_option maxRecDepth 10000 in
theorem f70_spec (made : List Int) (L1 L2 : Lab) (atNode atNum : Int) (freed : Bool) (home node num : Int) (L : Lab) (h : Hp) (hL : h.con L = .blk (objC made L1 L2 atNode atNum freed home)) (hm : made.length = 32) :
    CallK Try.prog 70 [.pt L 0 0 0, .agg [.int .i64 node, .int .i64 num]] h (fun r h' => r = .bool (hasB made home node num) ∧ h' = h) := by
  refine PureAt.of_awp mixed (fun _ => []) (fn := Try.f70) (by kernel_rfl) rfl (by kernel_rfl) (by show 2 ≤ _; decide) (by simp [AV.lf]) ?_
  have hl : (h.con L).live := by rw [hL]; trivial
  have hne := lab_ne hl
  have hlen : (objC made L1 L2 atNode atNum freed home).length = 38 := by simp [objC, hm]
  have g37 : (objC made L1 L2 atNode atNum freed home).getD 37 .undef = .int .i64 home := by simp [objC, hm]
  have k : ∀ c, Keeps h (h.alloc 70 3 c) := fun c => (Keeps.refl h).alloc 70 3 c
  by_cases hn : 0 ≤ node ∧ node < 32
  · obtain ⟨m, rfl⟩ : ∃ m : Nat, node = m := ⟨node.toNat, by omega⟩
    have hm32 : m < 32 := by omega
    have gm : (objC made L1 L2 atNode atNum freed home).getD m .undef = .int .i64 (made.getD m 0) := by
      have : m < made.length := by omega
      simp [objC, List.getElem?_append_left, this]
    have d1 : decide ((m : Int) < 0) = false := by simp
    have d2 : decide ((m : Int) ≥ 32) = false := by simp; omega
    simp only [go_sem, hne, hL, hlen, g37, gm, d1, d2, Nat.reduceAdd, Nat.reduceBEq, Nat.reduceEqDiff, Nat.reduceLeDiff, Nat.reduceLT, Nat.reduceSub]
    have hb : hasB made home m num = ((decide (1 ≤ num) && decide (num ≤ made.getD m 0)) || (num == 0 && (m : Int) == home)) := by
      simp only [hasB]
      have e1 : decide ((m : Int) < 32) = true := by simp; omega
      simp [e1]
    rw [hb]
    by_cases c1 : 1 ≤ num
    · have c0 : ¬ num = 0 := by omega
      by_cases c2 : num ≤ made.getD m 0
      · simp [c1, c0, c2, k]; omega
      · simp [c1, c0, c2, k]; omega
    · by_cases c0 : num = 0 <;> by_cases c2 : (m : Int) = home <;> simp [c1, c0, c2, k]
  · rcases Int.lt_or_le node 0 with h1 | h1
    · have d1 : decide (node < 0) = true := by simpa using h1
      have hb : hasB made home node num = false := by simp [hasB, Int.not_le.2 h1]
      rw [hb]
      simp only [go_sem, hne, hL, hlen, g37, d1, Nat.reduceAdd, Nat.reduceBEq, Nat.reduceEqDiff, Nat.reduceLeDiff, Nat.reduceLT, Nat.reduceSub]
      exact k _
    · have h2 : ¬ node < 32 := fun h2 => hn ⟨h1, h2⟩
      have d1 : decide (node < 0) = false := by simp; omega
      have d2 : decide (node ≥ 32) = true := by simp; omega
      have hb : hasB made home node num = false := by simp [hasB, h2]
      rw [hb]
      simp only [go_sem, hne, hL, hlen, g37, d1, d2, Nat.reduceAdd, Nat.reduceBEq, Nat.reduceEqDiff, Nat.reduceLeDiff, Nat.reduceLT, Nat.reduceSub]
      exact k _
end Go.Proofs.Ytmajndgdfmnchaa
