/- Chains: small functions. -/
import Derived.Test.YtmajndgdfmnchaaZTH
namespace Go.Proofs.Ytmajndgdfmnchaa
open Go Go.T Go.Gh Go.Proofs
set_option linter.unusedSimpArgs false
def encC (c : Cel) : AV := .agg [.int .i64 c.num, .int .i64 c.state, .int .i64 c.node, .int .i64 c.next]
theorem encC_cells (c : Cel) : (encC c).cells = [.int .i64 c.num, .int .i64 c.state, .int .i64 c.node, .int .i64 c.next] := by simp [encC, AV.cells]
set_option maxRecDepth 10000 in
theorem f123_spec (c : Cel) : PureF Try.prog 123 [encC c] (.bool (bareB c)) := by
  refine PureF.of_awp mixed (fun _ => []) (fn := Try.f123) (by kernel_rfl) rfl (by kernel_rfl) (by show 1 ≤ _; decide) (by simp [AV.lf]) (fun h => ?_)
  have hk := (Keeps.refl h).alloc 123 1 (.blk (encC c).cells)
  rw [encC_cells] at hk
  cases c1 : (c.node == -1)
  · simp only [go_sem, I_eq, I_cells, encC, encC_cells, c1, Nat.reduceAdd, Nat.reduceBEq, Nat.reduceEqDiff, Nat.reduceLeDiff, Nat.reduceLT, Nat.reduceSub]
    exact ⟨by simp only [bareB, c1, Bool.false_and], hk⟩
  · simp only [go_sem, I_eq, I_cells, encC, encC_cells, c1, Nat.reduceAdd, Nat.reduceBEq, Nat.reduceEqDiff, Nat.reduceLeDiff, Nat.reduceLT, Nat.reduceSub]
    exact ⟨by simp only [bareB, c1, Bool.true_and], hk⟩
set_option maxRecDepth 10000 in
theorem f124_spec (c : Cel) : PureF Try.prog 124 [encC c] (.bool (ledB c)) := by
  refine PureF.of_awp mixed (fun _ => []) (fn := Try.f124) (by kernel_rfl) rfl (by kernel_rfl) (by show 1 ≤ _; decide) (by simp [AV.lf]) (fun h => ?_)
  have hk := (Keeps.refl h).alloc 124 1 (.blk (encC c).cells)
  rw [encC_cells] at hk
  cases c1 : decide (c.node ≥ 0)
  · simp only [go_sem, I_eq, I_cells, encC, encC_cells, c1, Nat.reduceAdd, Nat.reduceBEq, Nat.reduceEqDiff, Nat.reduceLeDiff, Nat.reduceLT, Nat.reduceSub]
    simp only [ge_iff_le] at c1
    exact ⟨by simp [ledB, withinB, c1], hk⟩
  cases c2 : decide (c.node < 32)
  · simp only [go_sem, I_eq, I_cells, encC, encC_cells, c1, c2, Nat.reduceAdd, Nat.reduceBEq, Nat.reduceEqDiff, Nat.reduceLeDiff, Nat.reduceLT, Nat.reduceSub]
    simp only [decide_eq_false_iff_not] at c2
    exact ⟨by congr 1; symm; simp [ledB, withinB]; omega, hk⟩
  cases c3 : decide (c.next ≥ 1)
  · simp only [go_sem, I_eq, I_cells, encC, encC_cells, c1, c2, c3, Nat.reduceAdd, Nat.reduceBEq, Nat.reduceEqDiff, Nat.reduceLeDiff, Nat.reduceLT, Nat.reduceSub]
    simp only [decide_eq_false_iff_not] at c3
    exact ⟨by congr 1; symm; simp [ledB, withinB]; omega, hk⟩
  simp only [go_sem, I_eq, I_cells, encC, encC_cells, c1, c2, c3, Nat.reduceAdd, Nat.reduceBEq, Nat.reduceEqDiff, Nat.reduceLeDiff, Nat.reduceLT, Nat.reduceSub]
  simp only [decide_eq_true_eq] at c1 c2 c3
  refine ⟨?_, hk⟩
  congr 1; simp [ledB, withinB, show 0 ≤ c.node from c1, show c.node ≤ 31 by omega, show (1 : Int) ≤ c.next from c3]

set_option maxRecDepth 10000 in
theorem f112_spec (cs : List Cel) (e : Bool) (hlen : cs.length < 2 ^ 61) : PureF Try.prog 112 [.l e 4 (cs.map encC)] (.int .i64 (openN cs)) := by
  refine PureF.of_awp mixed (fun _ => []) (fn := Try.f112) (by kernel_rfl) rfl (by kernel_rfl) (by show 1 ≤ _; decide) (by simp [AV.lf]) (fun h => ?_)
  simp only [go_sem, I_eq, I_cells, Nat.reduceAdd, Nat.reduceBEq, Nat.reduceEqDiff, Nat.reduceLeDiff, Nat.reduceLT, Nat.reduceSub]
  refine awp_count 8 7 cs.length (by omega) (fun i s => s.slots 6 = .l e 4 (cs.map encC) ∧ s.slots 3 = .int .i64 (openN (cs.take i)) ∧ Keeps h s.hp) ?_ ?_ ?_ ?_ ?_
  · simp only [go_sem, I_eq, I_cells, Nat.reduceAdd, Nat.reduceBEq, Nat.reduceEqDiff, Nat.reduceLeDiff, Nat.reduceLT, Nat.reduceSub]
  · simp only [go_sem, I_eq, I_cells, Nat.reduceAdd, Nat.reduceBEq, Nat.reduceEqDiff, Nat.reduceLeDiff, Nat.reduceLT, Nat.reduceSub]
  · simp only [go_sem, I_eq, I_cells, Nat.reduceAdd, Nat.reduceBEq, Nat.reduceEqDiff, Nat.reduceLeDiff, Nat.reduceLT, Nat.reduceSub]
    exact ⟨by simp [openN], Keeps.refl h⟩
  · rintro i s hlt d2 hw g8 g7 ⟨g6, g3, hH⟩
    have hv := hH.var 112 5 (.blk [.int .i64 0, .int .i64 0, .int .i64 0, .int .i64 0]) (.blk (encC cs[i]).cells)
    rw [encC_cells] at hv
    have hst := openN_step cs i hlt
    have ho := openN_le (cs.take i)
    have hi : (cs.take i).length = i := by simp; omega
    have hw3 : IntKind.i64.wrap ((openN (cs.take i) : Int) + 1) = ((openN (cs.take i) + 1 : Nat) : Int) := wrapS (by omega)
    cases b1 : (cs[i].state == 1)
    · cases b2 : (cs[i].state == 2)
      · rw [if_neg (by simp [busyB, b1, b2])] at hst
        simp only [go_sem, I_eq, I_cells, d2, hw, g8, g7, g6, g3, encC_cells, b1, b2, hst, Nat.reduceAdd, Nat.reduceBEq, Nat.reduceEqDiff, Nat.reduceLeDiff, Nat.reduceLT, Nat.reduceSub]
        exact ⟨by omega, hlt, hv⟩
      · rw [if_pos (by simp [busyB, b2])] at hst
        simp only [go_sem, I_eq, I_cells, d2, hw, g8, g7, g6, g3, encC_cells, b1, b2, hst, hw3, Nat.reduceAdd, Nat.reduceBEq, Nat.reduceEqDiff, Nat.reduceLeDiff, Nat.reduceLT, Nat.reduceSub]
        exact ⟨by omega, hlt, hv⟩
    · rw [if_pos (by simp [busyB, b1])] at hst
      simp only [go_sem, I_eq, I_cells, d2, hw, g8, g7, g6, g3, encC_cells, b1, hst, hw3, Nat.reduceAdd, Nat.reduceBEq, Nat.reduceEqDiff, Nat.reduceLeDiff, Nat.reduceLT, Nat.reduceSub]
      exact ⟨by omega, hlt, hv⟩
  · rintro s d2 g8 g7 ⟨g6, g3, hH⟩
    rw [List.take_length] at g3
    simp only [go_sem, I_eq, I_cells, d2, g8, g7, g6, g3, Nat.reduceAdd, Nat.reduceBEq, Nat.reduceEqDiff, Nat.reduceLeDiff, Nat.reduceLT, Nat.reduceSub]
    exact hH
set_option maxRecDepth 10000 in
theorem f116_spec (cs : List Cel) (e : Bool) (hlen : cs.length < 2 ^ 61) : PureF Try.prog 116 [.l e 4 (cs.map encC)] (.int .i64 (openN cs)) := by
  refine PureF.of_awp mixed (fun _ => []) (fn := Try.f116) (by kernel_rfl) rfl (by kernel_rfl) (by show 1 ≤ _; decide) (by simp [AV.lf]) (fun h => ?_)
  simp only [go_sem, I_eq, I_cells, Nat.reduceAdd, Nat.reduceBEq, Nat.reduceEqDiff, Nat.reduceLeDiff, Nat.reduceLT, Nat.reduceSub]
  refine awp_count 8 7 cs.length (by omega) (fun i s => s.slots 6 = .l e 4 (cs.map encC) ∧ s.slots 3 = .int .i64 (openN (cs.take i)) ∧ Keeps h s.hp) ?_ ?_ ?_ ?_ ?_
  · simp only [go_sem, I_eq, I_cells, Nat.reduceAdd, Nat.reduceBEq, Nat.reduceEqDiff, Nat.reduceLeDiff, Nat.reduceLT, Nat.reduceSub]
  · simp only [go_sem, I_eq, I_cells, Nat.reduceAdd, Nat.reduceBEq, Nat.reduceEqDiff, Nat.reduceLeDiff, Nat.reduceLT, Nat.reduceSub]
  · simp only [go_sem, I_eq, I_cells, Nat.reduceAdd, Nat.reduceBEq, Nat.reduceEqDiff, Nat.reduceLeDiff, Nat.reduceLT, Nat.reduceSub]
    exact ⟨by simp [openN], Keeps.refl h⟩
  · rintro i s hlt d2 hw g8 g7 ⟨g6, g3, hH⟩
    have hv := hH.var 116 5 (.blk [.int .i64 0, .int .i64 0, .int .i64 0, .int .i64 0]) (.blk (encC cs[i]).cells)
    rw [encC_cells] at hv
    have hst := openN_step cs i hlt
    have ho := openN_le (cs.take i)
    have hi : (cs.take i).length = i := by simp; omega
    have hw3 : IntKind.i64.wrap ((openN (cs.take i) : Int) + 1) = ((openN (cs.take i) + 1 : Nat) : Int) := wrapS (by omega)
    cases b1 : (cs[i].state == 1)
    · cases b2 : (cs[i].state == 2)
      · rw [if_neg (by simp [busyB, b1, b2])] at hst
        simp only [go_sem, I_eq, I_cells, d2, hw, g8, g7, g6, g3, encC_cells, b1, b2, hst, Nat.reduceAdd, Nat.reduceBEq, Nat.reduceEqDiff, Nat.reduceLeDiff, Nat.reduceLT, Nat.reduceSub]
        exact ⟨by omega, hlt, hv⟩
      · rw [if_pos (by simp [busyB, b2])] at hst
        simp only [go_sem, I_eq, I_cells, d2, hw, g8, g7, g6, g3, encC_cells, b1, b2, hst, hw3, Nat.reduceAdd, Nat.reduceBEq, Nat.reduceEqDiff, Nat.reduceLeDiff, Nat.reduceLT, Nat.reduceSub]
        exact ⟨by omega, hlt, hv⟩
    · rw [if_pos (by simp [busyB, b1])] at hst
      simp only [go_sem, I_eq, I_cells, d2, hw, g8, g7, g6, g3, encC_cells, b1, hst, hw3, Nat.reduceAdd, Nat.reduceBEq, Nat.reduceEqDiff, Nat.reduceLeDiff, Nat.reduceLT, Nat.reduceSub]
      exact ⟨by omega, hlt, hv⟩
  · rintro s d2 g8 g7 ⟨g6, g3, hH⟩
    rw [List.take_length] at g3
    simp only [go_sem, I_eq, I_cells, d2, g8, g7, g6, g3, Nat.reduceAdd, Nat.reduceBEq, Nat.reduceEqDiff, Nat.reduceLeDiff, Nat.reduceLT, Nat.reduceSub]
    exact hH
end Go.Proofs.Ytmajndgdfmnchaa
