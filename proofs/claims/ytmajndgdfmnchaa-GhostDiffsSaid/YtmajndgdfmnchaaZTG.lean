/- Sides of edges. -/
import Derived.Test.YtmajndgdfmnchaaZTF
namespace Go.Proofs.Ytmajndgdfmnchaa
open Go Go.T Go.Gh Go.Proofs
set_option linter.unusedSimpArgs false
def encE (e : Sid) : AV := .agg [.int .i64 e.peer, .int .i64 e.base, .l false 5 (e.out.map encM), .int .i64 e.seen]
theorem encE_cells (e : Sid) : (encE e).cells = [.int .i64 e.peer, .int .i64 e.base, .l false 5 (e.out.map encM), .int .i64 e.seen] := by simp [encE, AV.cells]
set_option maxRecDepth 10000 in
theorem f113_spec (m : Msg) : PureF Try.prog 113 [encM m] (.bool (!validB m)) := by
  refine PureF.of_awp mixed (fun _ => []) (fn := Try.f113) (by kernel_rfl) rfl (by kernel_rfl) (by show 1 ≤ _; decide) (by simp [AV.lf]) (fun h => ?_)
  have hk := (Keeps.refl h).alloc 113 1 (.blk (encM m).cells)
  rw [encM_cells] at hk
  simp only [go_sem, I_eq, I_cells, encM, encM_cells, Nat.reduceAdd, Nat.reduceBEq, Nat.reduceEqDiff, Nat.reduceLeDiff, Nat.reduceLT, Nat.reduceSub]
  refine CallX.pure (f114_spec m) ?_
  simp only [go_sem, I_eq, I_cells, encM, encM_cells, Nat.reduceAdd, Nat.reduceBEq, Nat.reduceEqDiff, Nat.reduceLeDiff, Nat.reduceLT, Nat.reduceSub]
  exact hk
set_option maxRecDepth 10000 in
theorem f84_spec (e : Sid) : PureF Try.prog 84 [encE e] (.bool (goodE e)) := by
  refine PureF.of_awp mixed (fun _ => []) (fn := Try.f84) (by kernel_rfl) rfl (by kernel_rfl) (by show 1 ≤ _; decide) (by simp [AV.lf]) (fun h => ?_)
  have hk := (Keeps.refl h).alloc 84 1 (.blk (encE e).cells)
  rcases Bool.eq_false_or_eq_true (decide (e.peer < 0)) with c1 | c1
  · simp only [go_sem, I_eq, I_cells, encE, encE_cells, c1, Nat.reduceAdd, Nat.reduceBEq, Nat.reduceEqDiff, Nat.reduceLeDiff, Nat.reduceLT, Nat.reduceSub]
    refine ⟨?_, by simpa only [encE_cells] using hk⟩
    simp only [decide_eq_true_eq, decide_eq_false_iff_not] at c1
    congr 1; symm
    first | (simp [goodE, withinB]; omega) | (rw [IntWalk.i64_in _ (by omega)] at c8; simp [goodE, withinB]; omega)
  rcases Bool.eq_false_or_eq_true (decide (e.peer ≥ 32)) with c2 | c2
  · simp only [go_sem, I_eq, I_cells, encE, encE_cells, c1, c2, Nat.reduceAdd, Nat.reduceBEq, Nat.reduceEqDiff, Nat.reduceLeDiff, Nat.reduceLT, Nat.reduceSub]
    refine ⟨?_, by simpa only [encE_cells] using hk⟩
    simp only [decide_eq_true_eq, decide_eq_false_iff_not] at c1 c2
    congr 1; symm
    first | (simp [goodE, withinB]; omega) | (rw [IntWalk.i64_in _ (by omega)] at c8; simp [goodE, withinB]; omega)
  rcases Bool.eq_false_or_eq_true (decide (e.base < 0)) with c3 | c3
  · simp only [go_sem, I_eq, I_cells, encE, encE_cells, c1, c2, c3, Nat.reduceAdd, Nat.reduceBEq, Nat.reduceEqDiff, Nat.reduceLeDiff, Nat.reduceLT, Nat.reduceSub]
    refine ⟨?_, by simpa only [encE_cells] using hk⟩
    simp only [decide_eq_true_eq, decide_eq_false_iff_not] at c1 c2 c3
    congr 1; symm
    first | (simp [goodE, withinB]; omega) | (rw [IntWalk.i64_in _ (by omega)] at c8; simp [goodE, withinB]; omega)
  rcases Bool.eq_false_or_eq_true (decide (e.base > 1099511627776)) with c4 | c4
  · simp only [go_sem, I_eq, I_cells, encE, encE_cells, c1, c2, c3, c4, Nat.reduceAdd, Nat.reduceBEq, Nat.reduceEqDiff, Nat.reduceLeDiff, Nat.reduceLT, Nat.reduceSub]
    refine ⟨?_, by simpa only [encE_cells] using hk⟩
    simp only [decide_eq_true_eq, decide_eq_false_iff_not] at c1 c2 c3 c4
    congr 1; symm
    first | (simp [goodE, withinB]; omega) | (rw [IntWalk.i64_in _ (by omega)] at c8; simp [goodE, withinB]; omega)
  rcases Bool.eq_false_or_eq_true (decide (e.seen < 0)) with c5 | c5
  · simp only [go_sem, I_eq, I_cells, encE, encE_cells, c1, c2, c3, c4, c5, Nat.reduceAdd, Nat.reduceBEq, Nat.reduceEqDiff, Nat.reduceLeDiff, Nat.reduceLT, Nat.reduceSub]
    refine ⟨?_, by simpa only [encE_cells] using hk⟩
    simp only [decide_eq_true_eq, decide_eq_false_iff_not] at c1 c2 c3 c4 c5
    congr 1; symm
    first | (simp [goodE, withinB]; omega) | (rw [IntWalk.i64_in _ (by omega)] at c8; simp [goodE, withinB]; omega)
  rcases Bool.eq_false_or_eq_true (decide (e.seen > 1099511627776)) with c6 | c6
  · simp only [go_sem, I_eq, I_cells, encE, encE_cells, c1, c2, c3, c4, c5, c6, Nat.reduceAdd, Nat.reduceBEq, Nat.reduceEqDiff, Nat.reduceLeDiff, Nat.reduceLT, Nat.reduceSub]
    refine ⟨?_, by simpa only [encE_cells] using hk⟩
    simp only [decide_eq_true_eq, decide_eq_false_iff_not] at c1 c2 c3 c4 c5 c6
    congr 1; symm
    first | (simp [goodE, withinB]; omega) | (rw [IntWalk.i64_in _ (by omega)] at c8; simp [goodE, withinB]; omega)
  rcases Bool.eq_false_or_eq_true (decide ((e.out.length : Int) > 1024)) with c7 | c7
  · simp only [go_sem, I_eq, I_cells, encE, encE_cells, c1, c2, c3, c4, c5, c6, c7, Nat.reduceAdd, Nat.reduceBEq, Nat.reduceEqDiff, Nat.reduceLeDiff, Nat.reduceLT, Nat.reduceSub]
    refine ⟨?_, by simpa only [encE_cells] using hk⟩
    simp only [decide_eq_true_eq, decide_eq_false_iff_not] at c1 c2 c3 c4 c5 c6 c7
    congr 1; symm
    first | (simp [goodE, withinB]; omega) | (rw [IntWalk.i64_in _ (by omega)] at c8; simp [goodE, withinB]; omega)
  rcases Bool.eq_false_or_eq_true (decide ((e.out.length : Int) > IntKind.i64.wrap (1099511627776 - e.base))) with c8 | c8
  · simp only [go_sem, I_eq, I_cells, encE, encE_cells, c1, c2, c3, c4, c5, c6, c7, c8, Nat.reduceAdd, Nat.reduceBEq, Nat.reduceEqDiff, Nat.reduceLeDiff, Nat.reduceLT, Nat.reduceSub]
    refine ⟨?_, by simpa only [encE_cells] using hk⟩
    simp only [decide_eq_true_eq, decide_eq_false_iff_not] at c1 c2 c3 c4 c5 c6 c7 c8
    congr 1; symm
    first | (simp [goodE, withinB]; omega) | (rw [IntWalk.i64_in _ (by omega)] at c8; simp [goodE, withinB]; omega)
  simp only [go_sem, I_eq, I_cells, encE, encE_cells, c1, c2, c3, c4, c5, c6, c7, c8, Nat.reduceAdd, Nat.reduceBEq, Nat.reduceEqDiff, Nat.reduceLeDiff, Nat.reduceLT, Nat.reduceSub]
  refine CallX.pure (f109_spec (fun m => !validB m) e.out false (by have h7 := c7; simp only [decide_eq_false_iff_not] at h7; omega) (by kernel_rfl) (fun m _ => f113_spec m)) ?_
  simp only [go_sem, I_eq, I_cells, Nat.reduceAdd, Nat.reduceBEq, Nat.reduceEqDiff, Nat.reduceLeDiff, Nat.reduceLT, Nat.reduceSub]
  refine ⟨?_, by simpa only [encE_cells] using hk⟩
  simp only [decide_eq_true_eq, decide_eq_false_iff_not] at c1 c2 c3 c4 c5 c6 c7 c8
  rw [IntWalk.i64_in _ (by omega)] at c8
  rw [any_not]
  have h1 : (withinB e.peer 0 31 && withinB e.base 0 1099511627776 && withinB e.seen 0 1099511627776 && decide (e.out.length ≤ 1024) && decide (e.base + e.out.length ≤ 1099511627776)) = true := by simp [withinB]; omega
  unfold goodE; rw [h1, Bool.true_and]
end Go.Proofs.Ytmajndgdfmnchaa
