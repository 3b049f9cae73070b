/- The law GhostDiffs answers true. -/
import Derived.Test.YtmajndgdfmnchaaZTW
import Derived.Test.YtmajndgdfmnchaaZK
namespace Go.Proofs.Ytmajndgdfmnchaa
open Go Go.T Go.Gh Go.Proofs
set_option linter.unusedSimpArgs false
set_option maxRecDepth 10000
set_option maxHeartbeats 4000000
theorem treeR_bad {ps : List Int} (h : ¬ treeR ps = (0, 0)) : (treeR ps).2 ≠ 0 := by
  unfold treeR at h ⊢
  split
  · simp
  · split
    · simp
    · split
      · simp
      · split
        · simp
        · rename_i h1 h2 _ h3 _ h4
          rw [if_neg h1, if_neg h2, h3, h4] at h
          exact absurd rfl h
theorem GhostDiffs_spec (ps : List Int) (e : Bool) (us ws : List Nst) (e1 e2 : Bool) (hl1 : us.length ≤ 9223372036854775807) (hl2 : ws.length ≤ 9223372036854775807) (hs : ∀ s ∈ us, Sized s) (hs2 : ∀ s ∈ ws, Sized s) :
    PureF Try.prog 7 [.l e 1 (ps.map I), .l e1 6 (us.map encS), .l e2 6 (ws.map encS)] (.bool true) := by
  refine PureF.of_awp mixed (fun _ => []) (fn := Try.f7) (by kernel_rfl) rfl (by kernel_rfl) (by show 3 ≤ _; decide) (by simp [AV.lf]) (fun h => ?_)
  by_cases hok : treeR ps = (0, 0)
  · have hto : TreeOk ps := hok
    have hl := hto.len
    cases hn : (fitB ps us && fitB ps ws && objN us == objN ws)
    · have hn' := hn
      rw [fit_eq hto, fit_eq hto] at hn'
      repeat' first
        | (with_reducible refine CondX.dec (fun c => ?_) (fun c => ?_)) <;> try (exfalso; omega)
        | (with_reducible refine CondX.beq (fun c => ?_) (fun c => ?_)) <;> try (exfalso; omega)
        | (with_reducible refine CondX.bne (fun c => ?_) (fun c => ?_)) <;> try (exfalso; omega)
        | (with_reducible refine CondX.bool (fun c => ?_) (fun c => ?_)) <;> try (exfalso; omega)
        | ((with_reducible refine CallX.id ?_); first | refine CallX.pure (f12_spec) ?_ | refine CallX.pure (Diff_nil us ws e1 e2) ?_ | refine CallX.pure (f19_spec ps e hok) ?_ | refine CallX.pure (heavy_spec us e1 hl1 hs) ?_ | refine CallX.pure (heavy_spec ws e2 hl2 hs2) ?_ | refine CallX.pure (Diff_none ps us ws e1 e2 (by omega) hs hs2 hn) ?_ | refine CallX.pure (ref_Diff_none ps e us ws e1 e2 (by omega) hs hs2 hn') ?_ | refine CallX.pure (sameNotes_spec [] _ _ (by simp)) ?_)
        | simp only [go_sem, I_eq, I_cells, Nat.reduceAdd, Nat.reduceBEq, Nat.reduceEqDiff, Nat.reduceLeDiff, Nat.reduceLT, Nat.reduceSub]
        | simp (disch := omega) only [wrap_in, toNat_succ, toNat_pred, Int.toNat_natCast]
        | with_reducible refine And.intro (by omega) ?_
        | with_reducible refine exI (by omega) ?_
        | fail
      all_goals ((repeat first | with_reducible apply Keeps.alloc | (with_reducible refine Keeps.set ?_ ?hL _; case hL => first | assumption | exact Hp.ok _ _ (by simp) | exact Keeps.new (by assumption) _ _)); first | assumption | exact Keeps.refl _)
    · simp only [Bool.and_eq_true, beq_iff_eq] at hn
      obtain ⟨⟨f1, f2⟩, f3⟩ := hn
      have f1' := f1
      have f2' := f2
      rw [fit_eq hto] at f1' f2'
      have tw := Two.of hto f1 f2 f3
      have ht := tw.tot
      repeat' first
        | (with_reducible refine CondX.dec (fun c => ?_) (fun c => ?_)) <;> try (exfalso; omega)
        | (with_reducible refine CondX.beq (fun c => ?_) (fun c => ?_)) <;> try (exfalso; omega)
        | (with_reducible refine CondX.bne (fun c => ?_) (fun c => ?_)) <;> try (exfalso; omega)
        | (with_reducible refine CondX.bool (fun c => ?_) (fun c => ?_)) <;> try (exfalso; omega)
        | ((with_reducible refine CallX.id ?_); first | refine CallX.pure (f12_spec) ?_ | refine CallX.pure (Diff_nil us ws e1 e2) ?_ | refine CallX.pure (f19_spec ps e hok) ?_ | refine CallX.pure (heavy_spec us e1 hl1 hs) ?_ | refine CallX.pure (heavy_spec ws e2 hl2 hs2) ?_ | refine CallX.pure (Diff_spec ps us ws e1 e2 (by omega) hs hs2 f1 f2 tw) ?_ | refine CallX.pure (ref_Diff_spec ps e us ws e1 e2 (by omega) hs hs2 f1' f2' tw) ?_ | refine CallX.pure (sameNotes_spec (diffT us ws) _ _ (by omega)) ?_)
        | simp only [go_sem, I_eq, I_cells, Nat.reduceAdd, Nat.reduceBEq, Nat.reduceEqDiff, Nat.reduceLeDiff, Nat.reduceLT, Nat.reduceSub]
        | simp (disch := omega) only [wrap_in, toNat_succ, toNat_pred, Int.toNat_natCast]
        | with_reducible refine And.intro (by omega) ?_
        | with_reducible refine exI (by omega) ?_
        | fail
      all_goals ((repeat first | with_reducible apply Keeps.alloc | (with_reducible refine Keeps.set ?_ ?hL _; case hL => first | assumption | exact Hp.ok _ _ (by simp) | exact Keeps.new (by assumption) _ _)); first | assumption | exact Keeps.refl _)
  · have hb := treeR_bad hok
    repeat' first
      | (with_reducible refine CondX.dec (fun c => ?_) (fun c => ?_)) <;> try (exfalso; omega)
      | (with_reducible refine CondX.beq (fun c => ?_) (fun c => ?_)) <;> try (exfalso; omega)
      | (with_reducible refine CondX.bne (fun c => ?_) (fun c => ?_)) <;> try (exfalso; omega)
      | (with_reducible refine CondX.bool (fun c => ?_) (fun c => ?_)) <;> try (exfalso; omega)
      | ((with_reducible refine CallX.id ?_); first | refine CallX.pure (f12_spec) ?_ | refine CallX.pure (Diff_nil us ws e1 e2) ?_ | refine CallX.pure (f19_bad ps e hb) ?_ | refine CallX.pure (heavy_spec us e1 hl1 hs) ?_ | refine CallX.pure (heavy_spec ws e2 hl2 hs2) ?_)
      | simp only [go_sem, I_eq, I_cells, Nat.reduceAdd, Nat.reduceBEq, Nat.reduceEqDiff, Nat.reduceLeDiff, Nat.reduceLT, Nat.reduceSub]
      | simp (disch := omega) only [wrap_in, toNat_succ, toNat_pred, Int.toNat_natCast]
      | with_reducible refine And.intro (by omega) ?_
      | with_reducible refine exI (by omega) ?_
      | fail
    all_goals first
      | ((repeat first | with_reducible apply Keeps.alloc | (with_reducible refine Keeps.set ?_ ?hL _; case hL => first | assumption | exact Hp.ok _ _ (by simp) | exact Keeps.new (by assumption) _ _)); first | assumption | exact Keeps.refl _)
      | (exfalso; exact hb (by assumption))
end Go.Proofs.Ytmajndgdfmnchaa
