/- Messages. -/
import Derived.Test.YtmajndgdfmnchaaZTD
import Derived.Test.YtmajndgdfmnchaaT3
namespace Go.Proofs.Ytmajndgdfmnchaa
open Go Go.T Go.Gh Go.Proofs
set_option linter.unusedSimpArgs false
def encM (m : Msg) : AV := .agg [.int .i64 m.kind, .int .i64 m.obj, .int .i64 m.node, .int .i64 m.num, .int .i64 m.where']
theorem encM_cells (m : Msg) : (encM m).cells = [.int .i64 m.kind, .int .i64 m.obj, .int .i64 m.node, .int .i64 m.num, .int .i64 m.where'] := by simp [encM, AV.cells]
theorem f126_spec (x lo hi : Int) : PureF Try.prog 126 [.int .i64 x, .int .i64 lo, .int .i64 hi] (.bool (withinB x lo hi)) := by
  refine PureF.of_awp mixed (fun _ => []) (fn := Try.f126) (by kernel_rfl) rfl (by kernel_rfl) (by show 3 ≤ _; decide) (by simp [AV.lf]) (fun h => ?_)
  cases b1 : decide (x ≥ lo)
  · simp only [go_sem, I_eq, I_cells, b1, Nat.reduceAdd, Nat.reduceBEq, Nat.reduceEqDiff, Nat.reduceLeDiff, Nat.reduceLT, Nat.reduceSub]
    simp only [ge_iff_le] at b1
    exact ⟨by simp [withinB, b1], Keeps.refl h⟩
  · simp only [go_sem, I_eq, I_cells, b1, Nat.reduceAdd, Nat.reduceBEq, Nat.reduceEqDiff, Nat.reduceLeDiff, Nat.reduceLT, Nat.reduceSub]
    simp only [ge_iff_le] at b1
    exact ⟨by simp [withinB, b1], Keeps.refl h⟩
set_option maxRecDepth 10000 in
theorem f115_spec (m : Msg) : PureF Try.prog 115 [encM m] (.bool (validB m)) := by
  refine PureF.of_awp mixed (fun _ => []) (fn := Try.f115) (by kernel_rfl) rfl (by kernel_rfl) (by show 1 ≤ _; decide) (by simp [AV.lf]) (fun h => ?_)
  have hk := (Keeps.refl h).alloc 115 1 (.blk (encM m).cells)
  rcases Bool.eq_false_or_eq_true (decide (m.kind < 1)) with c1 | c1
  · simp only [go_sem, I_eq, I_cells, encM, encM_cells, c1, Nat.reduceAdd, Nat.reduceBEq, Nat.reduceEqDiff, Nat.reduceLeDiff, Nat.reduceLT, Nat.reduceSub]
    refine ⟨?_, by simpa only [encM_cells] using hk⟩
    simp only [decide_eq_true_eq, decide_eq_false_iff_not] at c1
    congr 1; symm; simp [validB, withinB]; omega
  rcases Bool.eq_false_or_eq_true (decide (m.kind > 4)) with c2 | c2
  · simp only [go_sem, I_eq, I_cells, encM, encM_cells, c1, c2, Nat.reduceAdd, Nat.reduceBEq, Nat.reduceEqDiff, Nat.reduceLeDiff, Nat.reduceLT, Nat.reduceSub]
    refine ⟨?_, by simpa only [encM_cells] using hk⟩
    simp only [decide_eq_true_eq, decide_eq_false_iff_not] at c1 c2
    congr 1; symm; simp [validB, withinB]; omega
  rcases Bool.eq_false_or_eq_true (decide (m.obj < 0)) with c3 | c3
  · simp only [go_sem, I_eq, I_cells, encM, encM_cells, c1, c2, c3, Nat.reduceAdd, Nat.reduceBEq, Nat.reduceEqDiff, Nat.reduceLeDiff, Nat.reduceLT, Nat.reduceSub]
    refine ⟨?_, by simpa only [encM_cells] using hk⟩
    simp only [decide_eq_true_eq, decide_eq_false_iff_not] at c1 c2 c3
    congr 1; symm; simp [validB, withinB]; omega
  rcases Bool.eq_false_or_eq_true (decide (m.obj ≥ 8)) with c4 | c4
  · simp only [go_sem, I_eq, I_cells, encM, encM_cells, c1, c2, c3, c4, Nat.reduceAdd, Nat.reduceBEq, Nat.reduceEqDiff, Nat.reduceLeDiff, Nat.reduceLT, Nat.reduceSub]
    refine ⟨?_, by simpa only [encM_cells] using hk⟩
    simp only [decide_eq_true_eq, decide_eq_false_iff_not] at c1 c2 c3 c4
    congr 1; symm; simp [validB, withinB]; omega
  rcases Bool.eq_false_or_eq_true (decide (m.node < 0)) with c5 | c5
  · simp only [go_sem, I_eq, I_cells, encM, encM_cells, c1, c2, c3, c4, c5, Nat.reduceAdd, Nat.reduceBEq, Nat.reduceEqDiff, Nat.reduceLeDiff, Nat.reduceLT, Nat.reduceSub]
    refine ⟨?_, by simpa only [encM_cells] using hk⟩
    simp only [decide_eq_true_eq, decide_eq_false_iff_not] at c1 c2 c3 c4 c5
    congr 1; symm; simp [validB, withinB]; omega
  rcases Bool.eq_false_or_eq_true (decide (m.node ≥ 32)) with c6 | c6
  · simp only [go_sem, I_eq, I_cells, encM, encM_cells, c1, c2, c3, c4, c5, c6, Nat.reduceAdd, Nat.reduceBEq, Nat.reduceEqDiff, Nat.reduceLeDiff, Nat.reduceLT, Nat.reduceSub]
    refine ⟨?_, by simpa only [encM_cells] using hk⟩
    simp only [decide_eq_true_eq, decide_eq_false_iff_not] at c1 c2 c3 c4 c5 c6
    congr 1; symm; simp [validB, withinB]; omega
  rcases Bool.eq_false_or_eq_true (decide (m.num < 1)) with c7 | c7
  · simp only [go_sem, I_eq, I_cells, encM, encM_cells, c1, c2, c3, c4, c5, c6, c7, Nat.reduceAdd, Nat.reduceBEq, Nat.reduceEqDiff, Nat.reduceLeDiff, Nat.reduceLT, Nat.reduceSub]
    refine ⟨?_, by simpa only [encM_cells] using hk⟩
    simp only [decide_eq_true_eq, decide_eq_false_iff_not] at c1 c2 c3 c4 c5 c6 c7
    congr 1; symm; simp [validB, withinB]; omega
  rcases Bool.eq_false_or_eq_true (decide (m.num > 1099511627776)) with c8 | c8
  · simp only [go_sem, I_eq, I_cells, encM, encM_cells, c1, c2, c3, c4, c5, c6, c7, c8, Nat.reduceAdd, Nat.reduceBEq, Nat.reduceEqDiff, Nat.reduceLeDiff, Nat.reduceLT, Nat.reduceSub]
    refine ⟨?_, by simpa only [encM_cells] using hk⟩
    simp only [decide_eq_true_eq, decide_eq_false_iff_not] at c1 c2 c3 c4 c5 c6 c7 c8
    congr 1; symm; simp [validB, withinB]; omega
  simp only [go_sem, I_eq, I_cells, encM, encM_cells, c1, c2, c3, c4, c5, c6, c7, c8, Nat.reduceAdd, Nat.reduceBEq, Nat.reduceEqDiff, Nat.reduceLeDiff, Nat.reduceLT, Nat.reduceSub]
  simp only [decide_eq_true_eq, decide_eq_false_iff_not] at c1 c2 c3 c4 c5 c6 c7 c8
  have hv : validB m = (if m.kind = 4 then withinB m.where' 0 31 else decide (m.where' = 0)) := by
    have h1 : (withinB m.kind 1 4 && withinB m.obj 0 7 && withinB m.node 0 31 && withinB m.num 1 1099511627776) = true := by simp [withinB]; omega
    unfold validB; rw [h1, Bool.true_and]
  have hk' := hk; rw [encM_cells] at hk'
  rw [hv]
  refine ⟨fun c9 => ⟨?_, hk'⟩, fun c9 => ⟨fun c10 => ⟨?_, hk'⟩, fun c10 => ⟨?_, hk'⟩⟩⟩
  all_goals simp only [bne_iff_ne, ne_eq, bne_eq_false_iff_eq] at c9
  · rw [if_neg c9]; congr 1
  · rw [if_pos c9]; simp only [ge_iff_le] at c10; congr 1; simp [withinB, c10]; omega
  · rw [if_pos c9]; simp only [ge_iff_le] at c10; congr 1; simp [withinB, c10]
set_option maxRecDepth 10000 in
theorem f114_spec (m : Msg) : PureF Try.prog 114 [encM m] (.bool (validB m)) := by
  refine PureF.of_awp mixed (fun _ => []) (fn := Try.f114) (by kernel_rfl) rfl (by kernel_rfl) (by show 1 ≤ _; decide) (by simp [AV.lf]) (fun h => ?_)
  have hk := (Keeps.refl h).alloc 114 1 (.blk (encM m).cells)
  rw [encM_cells] at hk
  simp only [go_sem, I_eq, I_cells, encM, encM_cells, Nat.reduceAdd, Nat.reduceBEq, Nat.reduceEqDiff, Nat.reduceLeDiff, Nat.reduceLT, Nat.reduceSub]
  refine CallX.pure (f126_spec _ _ _) ?_
  cases c1 : withinB m.kind 1 4
  · simp only [go_sem, I_eq, I_cells, c1, Nat.reduceAdd, Nat.reduceBEq, Nat.reduceEqDiff, Nat.reduceLeDiff, Nat.reduceLT, Nat.reduceSub]
    exact ⟨by simp only [validB, c1, Bool.false_and], hk⟩
  simp only [go_sem, I_eq, I_cells, c1, Nat.reduceAdd, Nat.reduceBEq, Nat.reduceEqDiff, Nat.reduceLeDiff, Nat.reduceLT, Nat.reduceSub]
  refine CallX.pure (f126_spec _ _ _) ?_
  cases c2 : withinB m.obj 0 7
  · simp only [go_sem, I_eq, I_cells, c1, c2, Nat.reduceAdd, Nat.reduceBEq, Nat.reduceEqDiff, Nat.reduceLeDiff, Nat.reduceLT, Nat.reduceSub]
    exact ⟨by simp only [validB, c1, c2, Bool.false_and, Bool.true_and], hk⟩
  simp only [go_sem, I_eq, I_cells, c1, c2, Nat.reduceAdd, Nat.reduceBEq, Nat.reduceEqDiff, Nat.reduceLeDiff, Nat.reduceLT, Nat.reduceSub]
  refine CallX.pure (f126_spec _ _ _) ?_
  cases c3 : withinB m.node 0 31
  · simp only [go_sem, I_eq, I_cells, c1, c2, c3, Nat.reduceAdd, Nat.reduceBEq, Nat.reduceEqDiff, Nat.reduceLeDiff, Nat.reduceLT, Nat.reduceSub]
    exact ⟨by simp only [validB, c1, c2, c3, Bool.false_and, Bool.true_and], hk⟩
  simp only [go_sem, I_eq, I_cells, c1, c2, c3, Nat.reduceAdd, Nat.reduceBEq, Nat.reduceEqDiff, Nat.reduceLeDiff, Nat.reduceLT, Nat.reduceSub]
  refine CallX.pure (f126_spec _ _ _) ?_
  cases c4 : withinB m.num 1 1099511627776
  · simp only [go_sem, I_eq, I_cells, c1, c2, c3, c4, Nat.reduceAdd, Nat.reduceBEq, Nat.reduceEqDiff, Nat.reduceLeDiff, Nat.reduceLT, Nat.reduceSub]
    exact ⟨by simp only [validB, c1, c2, c3, c4, Bool.false_and, Bool.true_and], hk⟩
  simp only [go_sem, I_eq, I_cells, c1, c2, c3, c4, Nat.reduceAdd, Nat.reduceBEq, Nat.reduceEqDiff, Nat.reduceLeDiff, Nat.reduceLT, Nat.reduceSub]
  refine ⟨fun c5 => CallX.pure (f126_spec _ _ _) ?_, fun c5 => ?_⟩
  · simp only [go_sem, I_eq, I_cells, Nat.reduceAdd, Nat.reduceBEq, Nat.reduceEqDiff, Nat.reduceLeDiff, Nat.reduceLT, Nat.reduceSub]
    simp only [beq_iff_eq] at c5
    exact ⟨by unfold validB; rw [c1, c2, c3, c4, if_pos c5]; rfl, hk⟩
  · simp only [beq_eq_false_iff_ne] at c5
    exact ⟨by unfold validB; rw [c1, c2, c3, c4, if_neg c5]; rfl, hk⟩
end Go.Proofs.Ytmajndgdfmnchaa
