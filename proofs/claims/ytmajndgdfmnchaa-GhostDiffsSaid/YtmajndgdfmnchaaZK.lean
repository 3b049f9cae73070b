/- wakes; GhostChecks. -/
import Derived.Test.YtmajndgdfmnchaaZJ
import Derived.Test.YtmajndgdfmnchaaT3
namespace Go.Proofs.Ytmajndgdfmnchaa
open Go Go.T Go.Gh Go.Proofs
@[go_sem] theorem res12 : Try.f12.results = #[.tmp 0] := by kernel_rfl
@[go_sem] theorem res3 : Try.f3.results = #[.tmp 4] := by kernel_rfl
set_option linter.unusedSimpArgs false
def wakeN : List Note := [⟨1, 0, 0, 1, 0, 0⟩, ⟨2, 0, 1, 0, 0, 1⟩, ⟨4, 0, 0, 1, 0, 0⟩, ⟨3, 0, 0, 1, 0, 0⟩]
theorem wake1 : checkR [1] wakeN = (0, 0) := by decide
theorem wake2 : checkR [1] (wakeN ++ [⟨3, 0, 0, 1, 0, 0⟩]) = (4, 25) := by decide
set_option maxRecDepth 10000 in
theorem f12_spec : PureF Try.prog 12 [] (.bool true) := by
  refine PureF.of_awp mixed (fun _ => []) (fn := Try.f12) (by kernel_rfl) rfl (by kernel_rfl) (by show 0 ≤ _; decide) (by simp [AV.lf]) (fun h => ?_)
  simp only [go_sem, Nat.reduceAdd, Nat.reduceBEq, Nat.reduceEqDiff, Nat.reduceLeDiff, Nat.reduceLT, Nat.reduceSub]
  refine ⟨by decide, by decide, CallX.pure (f13_spec [1] true wakeN true (by decide)) ?_⟩
  simp only [go_sem, wake1, pairV, Nat.reduceAdd, Nat.reduceBEq, Nat.reduceEqDiff, Nat.reduceLeDiff, Nat.reduceLT, Nat.reduceSub]
  repeat refine ⟨by decide, ?_⟩
  refine CallX.frzArg (c := .arr 6 ((wakeN ++ [(⟨3, 0, 0, 1, 0, 0⟩ : Note)]).map encN)) ⟨12, 24, h.cnt 12 24⟩ (by simp [Hp.alloc, Hp.set, wakeN, encN]) ?_
  have e : ∀ c, [AV.l true 1 [.int .i64 1], .os ⟨12, 24, h.cnt 12 24⟩].map (AV.frz ⟨12, 24, h.cnt 12 24⟩ (.arr 6 c)) = [.l true 1 ([1].map I), .l false 6 c] := fun c => by
    simp [AV.frz, AV.frzs, I]
  rw [e]
  refine (f13_spec [1] true (wakeN ++ [⟨3, 0, 0, 1, 0, 0⟩]) false (by decide)).use ?_
  simp only [go_sem, wake2, pairV, beq_self_eq_true, Nat.reduceAdd, Nat.reduceBEq, Nat.reduceEqDiff, Nat.reduceLeDiff, Nat.reduceLT, Nat.reduceSub]
  have k1 := (Keeps.refl h).var 12 21
  refine Keeps.set ((k1 _ _).alloc 12 24 _) ?_ _
  exact (k1 .none .none).new 12 24
set_option maxRecDepth 10000 in
theorem f3_spec (homes : List Int) (eh : Bool) (ns : List Note) (ex : Bool) : PureF Try.prog 3 [.l eh 1 (homes.map I), .l ex 6 (ns.map encN)] (.bool true) := by
  refine PureF.of_awp mixed (fun _ => []) (fn := Try.f3) (by kernel_rfl) rfl (by kernel_rfl) (by show 2 ≤ _; decide) (by simp [AV.lf]) (fun h => ?_)
  simp only [go_sem, Nat.reduceAdd, Nat.reduceBEq, Nat.reduceEqDiff, Nat.reduceLeDiff, Nat.reduceLT, Nat.reduceSub]
  refine CallX.pure f12_spec ?_
  cases b : decide ((ns.length : Int) > 512)
  · have hlen : ns.length < 2 ^ 60 := by simp at b; omega
    simp only [go_sem, b, Nat.reduceAdd, Nat.reduceBEq, Nat.reduceEqDiff, Nat.reduceLeDiff, Nat.reduceLT, Nat.reduceSub]
    refine CallX.pure (f13_spec homes eh ns ex hlen) ?_
    simp only [go_sem, pairV, b, Nat.reduceAdd, Nat.reduceBEq, Nat.reduceEqDiff, Nat.reduceLeDiff, Nat.reduceLT, Nat.reduceSub]
    refine CallX.pure (f14_spec homes eh ns ex (by omega)) ?_
    simp only [go_sem, pairV, beq_self_eq_true, b, Nat.reduceAdd, Nat.reduceBEq, Nat.reduceEqDiff, Nat.reduceLeDiff, Nat.reduceLT, Nat.reduceSub]
    exact Keeps.refl h
  · simp only [go_sem, b, Nat.reduceAdd, Nat.reduceBEq, Nat.reduceEqDiff, Nat.reduceLeDiff, Nat.reduceLT, Nat.reduceSub]
    exact Keeps.refl h
end Go.Proofs.Ytmajndgdfmnchaa
