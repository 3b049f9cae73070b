/- The reference's sides of edges. -/
import Derived.Test.YtmajndgdfmnchaaZTG
namespace Go.Proofs.Ytmajndgdfmnchaa
open Go Go.T Go.Gh Go.Proofs
set_option linter.unusedSimpArgs false
theorem all_at {α : Type} (p : α → Bool) (l : List α) (i : Nat) (hlt : i < l.length) (hp : p l[i] = false) : l.all p = false :=
  List.all_eq_false.2 ⟨l[i], List.getElem_mem hlt, by simp [hp]⟩
theorem all_take {α : Type} (p : α → Bool) (l : List α) (i : Nat) (hlt : i < l.length) (hn : (l.take i).all p = true) (hp : p l[i] = true) : (l.take (i + 1)).all p = true := by
  rw [List.take_succ_eq_append_getElem hlt, List.all_append, hn]; simp [hp]
set_option maxRecDepth 10000 in
theorem f91_spec (e : Sid) : PureF Try.prog 91 [encE e] (.bool (goodE e)) := by
  refine PureF.of_awp mixed (fun _ => []) (fn := Try.f91) (by kernel_rfl) rfl (by kernel_rfl) (by show 1 ≤ _; decide) (by simp [AV.lf]) (fun h => ?_)
  have hk := (Keeps.refl h).alloc 91 1 (.blk (encE e).cells)
  rcases Bool.eq_false_or_eq_true (decide (e.peer < 0)) with c1 | c1
  · simp only [go_sem, I_eq, I_cells, encE, encE_cells, c1, Nat.reduceAdd, Nat.reduceBEq, Nat.reduceEqDiff, Nat.reduceLeDiff, Nat.reduceLT, Nat.reduceSub]
    refine ⟨?_, by simpa only [encE_cells] using hk⟩
    simp only [decide_eq_true_eq, decide_eq_false_iff_not] at c1
    congr 1; symm
    first | (simp [goodE, withinB]; omega) | (rw [IntWalk.i64_in _ (by omega)] at c8; simp [goodE, withinB]; omega)
  rcases Bool.eq_false_or_eq_true (decide (e.peer > 31)) with c2 | c2
  · simp only [go_sem, I_eq, I_cells, encE, encE_cells, c1, c2, Nat.reduceAdd, Nat.reduceBEq, Nat.reduceEqDiff, Nat.reduceLeDiff, Nat.reduceLT, Nat.reduceSub]
    refine ⟨?_, by simpa only [encE_cells] using hk⟩
    simp only [decide_eq_true_eq, decide_eq_false_iff_not] at c1 c2
    congr 1; symm
    first | (simp [goodE, withinB]; omega) | (rw [IntWalk.i64_in _ (by omega)] at c8; simp [goodE, withinB]; omega)
  rcases Bool.eq_false_or_eq_true (decide (e.base < 0)) with c3 | c3
  · simp only [go_sem, I_eq, I_cells, encE, encE_cells, c1, c2, c3, Nat.reduceAdd, Nat.reduceBEq, Nat.reduceEqDiff, Nat.reduceLeDiff, Nat.reduceLT, Nat.reduceSub]
    refine ⟨?_, by simpa only [encE_cells] using hk⟩
    simp only [decide_eq_true_eq, decide_eq_false_iff_not] at c1 c2 c3
    congr 1; symm
    first | (simp [goodE, withinB]; omega) | (rw [IntWalk.i64_in _ (by omega)] at c8; simp [goodE, withinB]; omega)
  rcases Bool.eq_false_or_eq_true (decide (e.base > 1099511627776)) with c4 | c4
  · simp only [go_sem, I_eq, I_cells, encE, encE_cells, c1, c2, c3, c4, Nat.reduceAdd, Nat.reduceBEq, Nat.reduceEqDiff, Nat.reduceLeDiff, Nat.reduceLT, Nat.reduceSub]
    refine ⟨?_, by simpa only [encE_cells] using hk⟩
    simp only [decide_eq_true_eq, decide_eq_false_iff_not] at c1 c2 c3 c4
    congr 1; symm
    first | (simp [goodE, withinB]; omega) | (rw [IntWalk.i64_in _ (by omega)] at c8; simp [goodE, withinB]; omega)
  rcases Bool.eq_false_or_eq_true (decide (e.seen < 0)) with c5 | c5
  · simp only [go_sem, I_eq, I_cells, encE, encE_cells, c1, c2, c3, c4, c5, Nat.reduceAdd, Nat.reduceBEq, Nat.reduceEqDiff, Nat.reduceLeDiff, Nat.reduceLT, Nat.reduceSub]
    refine ⟨?_, by simpa only [encE_cells] using hk⟩
    simp only [decide_eq_true_eq, decide_eq_false_iff_not] at c1 c2 c3 c4 c5
    congr 1; symm
    first | (simp [goodE, withinB]; omega) | (rw [IntWalk.i64_in _ (by omega)] at c8; simp [goodE, withinB]; omega)
  rcases Bool.eq_false_or_eq_true (decide (e.seen > 1099511627776)) with c6 | c6
  · simp only [go_sem, I_eq, I_cells, encE, encE_cells, c1, c2, c3, c4, c5, c6, Nat.reduceAdd, Nat.reduceBEq, Nat.reduceEqDiff, Nat.reduceLeDiff, Nat.reduceLT, Nat.reduceSub]
    refine ⟨?_, by simpa only [encE_cells] using hk⟩
    simp only [decide_eq_true_eq, decide_eq_false_iff_not] at c1 c2 c3 c4 c5 c6
    congr 1; symm
    first | (simp [goodE, withinB]; omega) | (rw [IntWalk.i64_in _ (by omega)] at c8; simp [goodE, withinB]; omega)
  rcases Bool.eq_false_or_eq_true (decide ((e.out.length : Int) > 1024)) with c7 | c7
  · simp only [go_sem, I_eq, I_cells, encE, encE_cells, c1, c2, c3, c4, c5, c6, c7, Nat.reduceAdd, Nat.reduceBEq, Nat.reduceEqDiff, Nat.reduceLeDiff, Nat.reduceLT, Nat.reduceSub]
    refine ⟨?_, by simpa only [encE_cells] using hk⟩
    simp only [decide_eq_true_eq, decide_eq_false_iff_not] at c1 c2 c3 c4 c5 c6 c7
    congr 1; symm
    first | (simp [goodE, withinB]; omega) | (rw [IntWalk.i64_in _ (by omega)] at c8; simp [goodE, withinB]; omega)
  rcases Bool.eq_false_or_eq_true (decide (IntKind.i64.wrap (e.base + e.out.length) > 1099511627776)) with c8 | c8
  · simp only [go_sem, I_eq, I_cells, encE, encE_cells, c1, c2, c3, c4, c5, c6, c7, c8, Nat.reduceAdd, Nat.reduceBEq, Nat.reduceEqDiff, Nat.reduceLeDiff, Nat.reduceLT, Nat.reduceSub]
    refine ⟨?_, by simpa only [encE_cells] using hk⟩
    simp only [decide_eq_true_eq, decide_eq_false_iff_not] at c1 c2 c3 c4 c5 c6 c7 c8
    congr 1; symm
    first | (simp [goodE, withinB]; omega) | (rw [IntWalk.i64_in _ (by omega)] at c8; simp [goodE, withinB]; omega)
  simp only [go_sem, I_eq, I_cells, encE, encE_cells, c1, c2, c3, c4, c5, c6, c7, c8, Nat.reduceAdd, Nat.reduceBEq, Nat.reduceEqDiff, Nat.reduceLeDiff, Nat.reduceLT, Nat.reduceSub]
  simp only [decide_eq_true_eq, decide_eq_false_iff_not] at c1 c2 c3 c4 c5 c6 c7 c8
  rw [IntWalk.i64_in _ (by omega)] at c8
  have h1 : (withinB e.peer 0 31 && withinB e.base 0 1099511627776 && withinB e.seen 0 1099511627776 && decide (e.out.length ≤ 1024) && decide (e.base + e.out.length ≤ 1099511627776)) = true := by simp [withinB]; omega
  have hg : goodE e = e.out.all validB := by unfold goodE; rw [h1, Bool.true_and]
  refine awp_count 51 50 e.out.length (by omega) (fun i s => s.slots 49 = .l false 5 (e.out.map encM) ∧ (e.out.take i).all validB = true ∧ Keeps h s.hp) ?_ ?_ ?_ ?_ ?_
  · simp only [go_sem, I_eq, I_cells, Nat.reduceAdd, Nat.reduceBEq, Nat.reduceEqDiff, Nat.reduceLeDiff, Nat.reduceLT, Nat.reduceSub]
  · simp only [go_sem, I_eq, I_cells, Nat.reduceAdd, Nat.reduceBEq, Nat.reduceEqDiff, Nat.reduceLeDiff, Nat.reduceLT, Nat.reduceSub]
  · simp only [go_sem, I_eq, I_cells, Nat.reduceAdd, Nat.reduceBEq, Nat.reduceEqDiff, Nat.reduceLeDiff, Nat.reduceLT, Nat.reduceSub]
    simpa only [encE_cells] using hk
  · rintro i s hlt d2 hw g51 g50 ⟨g49, hn, hH⟩
    have hv := hH.var 91 4 (.blk [.int .i64 0, .int .i64 0, .int .i64 0, .int .i64 0, .int .i64 0]) (.blk (encM e.out[i]).cells)
    rw [encM_cells] at hv
    simp only [go_sem, I_eq, I_cells, d2, hw, g51, g50, g49, encM_cells, Nat.reduceAdd, Nat.reduceBEq, Nat.reduceEqDiff, Nat.reduceLeDiff, Nat.reduceLT, Nat.reduceSub]
    refine ⟨by omega, hlt, CallX.pure (f115_spec e.out[i]) ?_⟩
    cases b : validB e.out[i]
    · simp only [go_sem, I_eq, I_cells, d2, hw, g51, g50, g49, b, Nat.reduceAdd, Nat.reduceBEq, Nat.reduceEqDiff, Nat.reduceLeDiff, Nat.reduceLT, Nat.reduceSub]
      exact ⟨by rw [hg, all_at validB _ i hlt b], hv⟩
    · simp only [go_sem, I_eq, I_cells, d2, hw, g51, g50, g49, b, Nat.reduceAdd, Nat.reduceBEq, Nat.reduceEqDiff, Nat.reduceLeDiff, Nat.reduceLT, Nat.reduceSub]
      exact ⟨all_take validB _ i hlt hn b, hv⟩
  · rintro s d2 g51 g50 ⟨g49, hn, hH⟩
    simp only [go_sem, I_eq, I_cells, d2, g51, g50, g49, Nat.reduceAdd, Nat.reduceBEq, Nat.reduceEqDiff, Nat.reduceLeDiff, Nat.reduceLT, Nat.reduceSub]
    rw [List.take_length] at hn
    exact ⟨by rw [hg, hn], hH⟩
end Go.Proofs.Ytmajndgdfmnchaa
