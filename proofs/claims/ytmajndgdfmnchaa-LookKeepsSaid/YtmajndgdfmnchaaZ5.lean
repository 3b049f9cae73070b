/- Part of a proof: what functions of the given program compute, and plain laws of it. -/
import Derived.Test.YtmajndgdfmnchaaZ3
import Derived.Test.YtmajndgdfmnchaaT3
import Derived.Test.YtmajndgdfmnchaaZ4
/- tree.Check. -/
namespace Go.Proofs.Ytmajndgdfmnchaa
open Go Go.T Go.Gh Go.Proofs
set_option linter.unusedSimpArgs false
theorem ways5 (a b c d e : Bool) : a = true ∨ (a = false ∧ b = true) ∨ (a = false ∧ b = false ∧ c = true) ∨ (a = false ∧ b = false ∧ c = false ∧ d = false) ∨ (a = false ∧ b = false ∧ c = false ∧ d = true ∧ e = true) ∨ (a = false ∧ b = false ∧ c = false ∧ d = true ∧ e = false) := by cases a <;> cases b <;> cases c <;> cases d <;> cases e <;> simp
set_option maxRecDepth 10000 in
theorem f46_spec (ps : List Int) (e : Bool) : PureF Try.prog 46 [.l e 1 (ps.map I)] (pairV (treeR ps)) := by
  refine PureF.of_awp mixed (fun _ => []) (fn := Try.f46) (by kernel_rfl) rfl (by kernel_rfl) (by show 1 ≤ _; decide) (by simp [AV.lf, AV.lfs, pairV]) (fun h => ?_)
  by_cases hz : ps.length = 0
  · have d0 : ((ps.length : Int) == 0) = true := by rw [hz]; rfl
    simp only [go_sem, I_eq, I_cells, d0, Nat.reduceAdd, Nat.reduceBEq, Nat.reduceEqDiff, Nat.reduceLeDiff, Nat.reduceLT, Nat.reduceSub]
    exact ⟨by simp [treeR, hz, pairV], Keeps.refl h⟩
  have d0 : ((ps.length : Int) == 0) = false := by simp only [beq_eq_false_iff_ne]; omega
  by_cases hg : 32 < ps.length
  · have d1 : decide ((ps.length : Int) > 32) = true := by simp; omega
    simp only [go_sem, I_eq, I_cells, d0, d1, Nat.reduceAdd, Nat.reduceBEq, Nat.reduceEqDiff, Nat.reduceLeDiff, Nat.reduceLT, Nat.reduceSub]
    exact ⟨by simp [treeR, hz, hg, pairV], Keeps.refl h⟩
  have d1 : decide ((ps.length : Int) > 32) = false := by simp; omega
  simp only [go_sem, I_eq, I_cells, d0, d1, Nat.reduceAdd, Nat.reduceBEq, Nat.reduceEqDiff, Nat.reduceLeDiff, Nat.reduceLT, Nat.reduceSub]
  refine awp_count 20 19 ps.length (by omega) (fun i s => s.slots 0 = .l e 1 (ps.map I) ∧ s.slots 18 = .l e 1 (ps.map I) ∧ s.slots 4 = .int .i64 ps.length ∧ s.slots 5 = .bool ((ps.take i).contains (-1)) ∧ (∀ u, u < i → faultB ps u = false) ∧ s.hp = h) ?_ ?_ ?_ ?_ ?_
  · simp only [go_sem, I_eq, I_cells, Nat.reduceAdd, Nat.reduceBEq, Nat.reduceEqDiff, Nat.reduceLeDiff, Nat.reduceLT, Nat.reduceSub]
  · simp only [go_sem, I_eq, I_cells, Nat.reduceAdd, Nat.reduceBEq, Nat.reduceEqDiff, Nat.reduceLeDiff, Nat.reduceLT, Nat.reduceSub]
  · simp only [go_sem, I_eq, I_cells, Nat.reduceAdd, Nat.reduceBEq, Nat.reduceEqDiff, Nat.reduceLeDiff, Nat.reduceLT, Nat.reduceSub]
    exact ⟨by simp, by simp⟩
  · rintro i s hlt d2 hw g20 g19 ⟨h0, h18, h4, h5, hf, hH⟩
    have e0 : ps.getD i 0 = ps[i] := by rw [List.getD_eq_getElem?_getD, List.getElem?_eq_getElem hlt]; rfl
    have hfe : faultB ps i = (decide (ps[i] < -1) || decide (ps[i] ≥ ps.length) || ps[i] == (i : Int) || (ps[i] == -1 && (ps.take i).contains (-1))) := by simp only [faultB, e0]
    have hft : faultB ps i = true → treeR ps = ((i : Int), 10) := fun ht => by unfold treeR; rw [if_neg hz, if_neg hg, find_range_at hlt ht hf]
    rcases ways5 (decide (ps[i] < -1)) (decide (ps[i] ≥ ps.length)) (ps[i] == (i : Int)) (ps[i] == -1) ((ps.take i).contains (-1)) with b1 | ⟨b1, b2⟩ | ⟨b1, b2, b3⟩ | ⟨b1, b2, b3, b4⟩ | ⟨b1, b2, b3, b4, b5⟩ | ⟨b1, b2, b3, b4, b5⟩
    · simp only [go_sem, I_eq, I_cells, h0, h18, h4, h5, hH, d2, hw, g20, g19, b1, Nat.reduceAdd, Nat.reduceBEq, Nat.reduceEqDiff, Nat.reduceLeDiff, Nat.reduceLT, Nat.reduceSub]
      exact ⟨by omega, hlt, by rw [hft (by rw [hfe]; simp only [b1, Bool.true_or])]; rfl, Keeps.refl h⟩
    · simp only [go_sem, I_eq, I_cells, h0, h18, h4, h5, hH, d2, hw, g20, g19, b1, b2, Nat.reduceAdd, Nat.reduceBEq, Nat.reduceEqDiff, Nat.reduceLeDiff, Nat.reduceLT, Nat.reduceSub]
      exact ⟨by omega, hlt, by rw [hft (by rw [hfe]; simp only [b1, b2, Bool.true_or, Bool.or_true, Bool.false_or])]; rfl, Keeps.refl h⟩
    · simp only [go_sem, I_eq, I_cells, h0, h18, h4, h5, hH, d2, hw, g20, g19, b1, b2, b3, Nat.reduceAdd, Nat.reduceBEq, Nat.reduceEqDiff, Nat.reduceLeDiff, Nat.reduceLT, Nat.reduceSub]
      exact ⟨by omega, hlt, by rw [hft (by rw [hfe]; simp only [b1, b2, b3, Bool.true_or, Bool.or_true, Bool.false_or])]; rfl, Keeps.refl h⟩
    · have hff : faultB ps i = false := by rw [hfe]; simp only [b1, b2, b3, b4, Bool.or_false, Bool.false_and]
      have hct : (ps.take (i + 1)).contains (-1) = (ps.take i).contains (-1) := by
        rw [List.take_succ_eq_append_getElem hlt]; simp only [beq_eq_false_iff_ne] at b4; rw [Bool.eq_iff_iff]; simp only [List.contains_iff_mem, List.mem_append, List.mem_singleton]; exact ⟨fun hx => hx.resolve_right fun hc => b4 hc.symm, Or.inl⟩
      cases b5 : (ps.take i).contains (-1) <;> rw [b5] at h5 hct
      all_goals
        simp only [go_sem, I_eq, I_cells, h0, h18, h4, h5, hH, d2, hw, g20, g19, b1, b2, b3, b4, hct, Nat.reduceAdd, Nat.reduceBEq, Nat.reduceEqDiff, Nat.reduceLeDiff, Nat.reduceLT, Nat.reduceSub]
        refine ⟨by omega, hlt, ?_⟩
        intro u hu; rcases Nat.lt_succ_iff_lt_or_eq.1 hu with hu | rfl; exact hf u hu; exact hff
    · simp only [go_sem, I_eq, I_cells, h0, h18, h4, h5, hH, d2, hw, g20, g19, b1, b2, b3, b4, b5, Nat.reduceAdd, Nat.reduceBEq, Nat.reduceEqDiff, Nat.reduceLeDiff, Nat.reduceLT, Nat.reduceSub]
      exact ⟨by omega, hlt, by rw [hft (by rw [hfe]; simp only [b1, b2, b3, b4, b5, Bool.or_false, Bool.true_and, Bool.or_true])]; rfl, Keeps.refl h⟩
    · have hff : faultB ps i = false := by rw [hfe]; simp only [b1, b2, b3, b4, b5, Bool.or_false, Bool.and_false]
      rw [b5] at h5
      have hct : (ps.take (i + 1)).contains (-1) = true := by
        rw [List.take_succ_eq_append_getElem hlt]; simp only [beq_iff_eq] at b4; simp [b4]
      simp only [go_sem, I_eq, I_cells, h0, h18, h4, h5, hH, d2, hw, g20, g19, b1, b2, b3, b4, hct, Nat.reduceAdd, Nat.reduceBEq, Nat.reduceEqDiff, Nat.reduceLeDiff, Nat.reduceLT, Nat.reduceSub]
      refine ⟨by omega, hlt, ?_⟩
      · intro u hu; rcases Nat.lt_succ_iff_lt_or_eq.1 hu with hu | rfl; exact hf u hu; exact hff
  · rintro s d2 g20 g19 ⟨h0, h18, h4, h5, hf, hH⟩
    have hin : ∀ u (hu : u < ps.length), -1 ≤ ps[u] ∧ ps[u] < ps.length := fun u hu => ⟨(in_tree hu (hf u hu)).1, (in_tree hu (hf u hu)).2.1⟩
    simp only [go_sem, I_eq, I_cells, h0, h18, h4, h5, hH, d2, g20, g19, Nat.reduceAdd, Nat.reduceBEq, Nat.reduceEqDiff, Nat.reduceLeDiff, Nat.reduceLT, Nat.reduceSub]
    refine awp_count 53 52 ps.length (by omega) (fun i s => s.slots 0 = .l e 1 (ps.map I) ∧ s.slots 4 = .int .i64 ps.length ∧ (∀ u, u < i → climb ps ps.length u = true) ∧ s.hp = h) ?_ ?_ ?_ ?_ ?_
    · simp only [go_sem, I_eq, I_cells, h0, Nat.reduceAdd, Nat.reduceBEq, Nat.reduceEqDiff, Nat.reduceLeDiff, Nat.reduceLT, Nat.reduceSub]
    · simp only [go_sem, I_eq, I_cells, h0, Nat.reduceAdd, Nat.reduceBEq, Nat.reduceEqDiff, Nat.reduceLeDiff, Nat.reduceLT, Nat.reduceSub]
    · simp only [go_sem, I_eq, I_cells, h0, h4, hH, Nat.reduceAdd, Nat.reduceBEq, Nat.reduceEqDiff, Nat.reduceLeDiff, Nat.reduceLT, Nat.reduceSub]
      exact fun u hu => absurd hu (by omega)
    · clear h0 h18 h4 h5 hH g20 g19
      rintro i s hlt d3 hw g53 g52 ⟨h0, h4, hc, hH⟩
      simp only [go_sem, I_eq, I_cells, h0, h4, hH, d3, hw, g53, g52, Nat.reduceAdd, Nat.reduceBEq, Nat.reduceEqDiff, Nat.reduceLeDiff, Nat.reduceLT, Nat.reduceSub]
      refine awp_count 58 57 ps.length (by omega) (fun j s => s.slots 0 = .l e 1 (ps.map I) ∧ s.slots 4 = .int .i64 ps.length ∧ s.slots 8 = .int .i64 i ∧ s.slots 53 = .int .i64 i ∧ s.slots 52 = .int .i64 ps.length ∧ (∃ a : Nat, a < ps.length ∧ s.slots 9 = .int .i64 a ∧ climb ps ps.length i = climb ps (ps.length - j) a) ∧ s.hp = h) ?_ ?_ ?_ ?_ ?_
      · simp only [go_sem, I_eq, I_cells, h0, Nat.reduceAdd, Nat.reduceBEq, Nat.reduceEqDiff, Nat.reduceLeDiff, Nat.reduceLT, Nat.reduceSub]
      · simp only [go_sem, I_eq, I_cells, h0, h4, Nat.reduceAdd, Nat.reduceBEq, Nat.reduceEqDiff, Nat.reduceLeDiff, Nat.reduceLT, Nat.reduceSub]
      · simp only [go_sem, I_eq, I_cells, h0, h4, hH, g53, g52, Nat.reduceAdd, Nat.reduceBEq, Nat.reduceEqDiff, Nat.reduceLeDiff, Nat.reduceLT, Nat.reduceSub]
        exact ⟨i, hlt, rfl, rfl⟩
      · clear h0 h4 hH g53 g52
        rintro j s hj d4 hw2 g58 g57 ⟨h0, h4, h8, g53, g52, ⟨a, ha, h9, hcl⟩, hH⟩
        have e0 : ps.getD ((a : Int)).toNat 0 = ps[a] := by rw [List.getD_eq_getElem?_getD, Int.toNat_natCast, List.getElem?_eq_getElem ha]; rfl
        have hcl2 : climb ps (ps.length - j) a = if ps[a] = -1 then true else climb ps (ps.length - (j + 1)) ps[a] := by
          rw [show ps.length - j = (ps.length - (j + 1)) + 1 by omega]; simp only [climb, e0]
        have ⟨k0, k1⟩ := hin a ha
        cases b1 : (ps[a] == -1)
        · simp only [go_sem, I_eq, I_cells, h0, h4, h8, h9, hH, d4, hw2, g58, g57, b1, g53, g52, Nat.reduceAdd, Nat.reduceBEq, Nat.reduceEqDiff, Nat.reduceLeDiff, Nat.reduceLT, Nat.reduceSub]
          simp only [beq_eq_false_iff_ne] at b1
          refine ⟨by omega, ha, by omega, ha, ps[a].toNat, by omega, ?_, ?_⟩
          · congr 1; omega
          · rw [hcl, hcl2, if_neg b1, show ((ps[a].toNat : Nat) : Int) = ps[a] by omega]
        · simp only [go_sem, I_eq, I_cells, h0, h4, h8, h9, hH, d4, hw, hw2, g58, g57, b1, g53, g52, Nat.reduceAdd, Nat.reduceBEq, Nat.reduceEqDiff, Nat.reduceLeDiff, Nat.reduceLT, Nat.reduceSub]
          simp only [beq_iff_eq] at b1
          refine ⟨by omega, ha, ?_⟩
          intro u hu; rcases Nat.lt_succ_iff_lt_or_eq.1 hu with hu | rfl
          · exact hc u hu
          · rw [hcl, hcl2, if_pos b1]
      · clear h0 h4 hH g53 g52
        rintro s d4 g58 g57 ⟨h0, h4, h8, g53, g52, ⟨a, ha, h9, hcl⟩, hH⟩
        simp only [go_sem, I_eq, I_cells, h0, h4, h8, h9, hH, d4, g58, g57, g53, g52, Nat.reduceAdd, Nat.reduceBEq, Nat.reduceEqDiff, Nat.reduceLeDiff, Nat.reduceLT, Nat.reduceSub]
        have hno : climb ps ps.length i = false := by rw [hcl, Nat.sub_self]; rfl
        refine ⟨?_, Keeps.refl h⟩
        unfold treeR
        rw [if_neg hz, if_neg hg, find_range_none hf, find_range_at hlt (by simp [hno]) (fun u hu => by simp [hc u hu])]; rfl
    · clear h0 h18 h4 h5 hH g20 g19
      rintro s d3 g53 g52 ⟨h0, h4, hc, hH⟩
      simp only [go_sem, I_eq, I_cells, h0, h4, hH, d3, g53, g52, Nat.reduceAdd, Nat.reduceBEq, Nat.reduceEqDiff, Nat.reduceLeDiff, Nat.reduceLT, Nat.reduceSub]
      refine ⟨?_, Keeps.refl h⟩
      unfold treeR
      rw [if_neg hz, if_neg hg, find_range_none hf, find_range_none (fun u hu => by simp [hc u hu])]; rfl
end Go.Proofs.Ytmajndgdfmnchaa
/- The reference's tree check. -/
namespace Go.Proofs.Ytmajndgdfmnchaa
open Go Go.T Go.Gh Go.Proofs
set_option linter.unusedSimpArgs false
set_option maxRecDepth 10000 in
set_option maxHeartbeats 1000000 in
theorem f36_spec (ps : List Int) (e : Bool) : PureF Try.prog 36 [.l e 1 (ps.map I)] (pairV (treeR ps)) := by
  refine PureF.of_awp mixed (fun _ => []) (fn := Try.f36) (by kernel_rfl) rfl (by kernel_rfl) (by show 1 ≤ _; decide) (by simp [AV.lf, AV.lfs, pairV]) (fun h => ?_)
  by_cases hz : ps.length = 0
  · have d0 : ((ps.length : Int) == 0) = true := by rw [hz]; rfl
    simp only [go_sem, I_eq, I_cells, d0, Nat.reduceAdd, Nat.reduceBEq, Nat.reduceEqDiff, Nat.reduceLeDiff, Nat.reduceLT, Nat.reduceSub]
    exact ⟨by simp [treeR, hz, pairV], Keeps.refl h⟩
  have d0 : ((ps.length : Int) == 0) = false := by simp only [beq_eq_false_iff_ne]; omega
  by_cases hg : 32 < ps.length
  · have d1 : decide ((ps.length : Int) > 32) = true := by simp; omega
    simp only [go_sem, I_eq, I_cells, d0, d1, Nat.reduceAdd, Nat.reduceBEq, Nat.reduceEqDiff, Nat.reduceLeDiff, Nat.reduceLT, Nat.reduceSub]
    exact ⟨by simp [treeR, hz, hg, pairV], Keeps.refl h⟩
  have d1 : decide ((ps.length : Int) > 32) = false := by simp; omega
  simp only [go_sem, I_eq, I_cells, d0, d1, Nat.reduceAdd, Nat.reduceBEq, Nat.reduceEqDiff, Nat.reduceLeDiff, Nat.reduceLT, Nat.reduceSub]
  refine awp_count 6 4 ps.length (by omega) (fun i s => s.slots 0 = .l e 1 (ps.map I) ∧ s.slots 5 = .int .i64 (if (ps.take i).contains (-1) then 1 else 0) ∧ (∀ u, u < i → faultB ps u = false) ∧ s.hp = h) ?_ ?_ ?_ ?_ ?_
  · simp only [go_sem, I_eq, I_cells, Nat.reduceAdd, Nat.reduceBEq, Nat.reduceEqDiff, Nat.reduceLeDiff, Nat.reduceLT, Nat.reduceSub]
  · simp only [go_sem, I_eq, I_cells, Nat.reduceAdd, Nat.reduceBEq, Nat.reduceEqDiff, Nat.reduceLeDiff, Nat.reduceLT, Nat.reduceSub]
  · simp only [go_sem, I_eq, I_cells, Nat.reduceAdd, Nat.reduceBEq, Nat.reduceEqDiff, Nat.reduceLeDiff, Nat.reduceLT, Nat.reduceSub]
    exact ⟨by simp, fun u hu => absurd hu (by omega)⟩
  · rintro i s hlt d2 hw g6 g4 ⟨h0, h5, hf, hH⟩
    have e0 : ps.getD i 0 = ps[i] := by rw [List.getD_eq_getElem?_getD, List.getElem?_eq_getElem hlt]; rfl
    have hfe : faultB ps i = (decide (ps[i] < -1) || decide (ps[i] ≥ ps.length) || ps[i] == (i : Int) || (ps[i] == -1 && (ps.take i).contains (-1))) := by simp only [faultB, e0]
    have hft : faultB ps i = true → treeR ps = ((i : Int), 10) := fun ht => by unfold treeR; rw [if_neg hz, if_neg hg, find_range_at hlt ht hf]
    rcases ways5 (decide (ps[i] < -1)) (decide (ps[i] ≥ ps.length)) (ps[i] == (i : Int)) (ps[i] == -1) ((ps.take i).contains (-1)) with b1 | ⟨b1, b2⟩ | ⟨b1, b2, b3⟩ | ⟨b1, b2, b3, b4⟩ | ⟨b1, b2, b3, b4, b5⟩ | ⟨b1, b2, b3, b4, b5⟩
    · simp only [go_sem, I_eq, I_cells, h0, h5, hH, d2, hw, g6, g4, b1, Nat.reduceAdd, Nat.reduceBEq, Nat.reduceEqDiff, Nat.reduceLeDiff, Nat.reduceLT, Nat.reduceSub]
      exact ⟨by omega, hlt, by rw [hft (by rw [hfe]; simp only [b1, Bool.true_or])]; rfl, Keeps.refl h⟩
    · simp only [go_sem, I_eq, I_cells, h0, h5, hH, d2, hw, g6, g4, b1, b2, Nat.reduceAdd, Nat.reduceBEq, Nat.reduceEqDiff, Nat.reduceLeDiff, Nat.reduceLT, Nat.reduceSub]
      exact ⟨by omega, hlt, by rw [hft (by rw [hfe]; simp only [b1, b2, Bool.true_or, Bool.or_true, Bool.false_or])]; rfl, Keeps.refl h⟩
    · simp only [go_sem, I_eq, I_cells, h0, h5, hH, d2, hw, g6, g4, b1, b2, b3, Nat.reduceAdd, Nat.reduceBEq, Nat.reduceEqDiff, Nat.reduceLeDiff, Nat.reduceLT, Nat.reduceSub]
      exact ⟨by omega, hlt, by rw [hft (by rw [hfe]; simp only [b1, b2, b3, Bool.true_or, Bool.or_true, Bool.false_or])]; rfl, Keeps.refl h⟩
    · have hff : faultB ps i = false := by rw [hfe]; simp only [b1, b2, b3, b4, Bool.or_false, Bool.false_and]
      have hct : (ps.take (i + 1)).contains (-1) = (ps.take i).contains (-1) := by
        rw [List.take_succ_eq_append_getElem hlt]; simp only [beq_eq_false_iff_ne] at b4; rw [Bool.eq_iff_iff]; simp only [List.contains_iff_mem, List.mem_append, List.mem_singleton]; exact ⟨fun hx => hx.resolve_right fun hc => b4 hc.symm, Or.inl⟩
      simp only [go_sem, I_eq, I_cells, h0, h5, hH, d2, hw, g6, g4, b1, b2, b3, b4, hct, Nat.reduceAdd, Nat.reduceBEq, Nat.reduceEqDiff, Nat.reduceLeDiff, Nat.reduceLT, Nat.reduceSub]
      refine ⟨by omega, hlt, ?_⟩
      intro u hu; rcases Nat.lt_succ_iff_lt_or_eq.1 hu with hu | rfl; exact hf u hu; exact hff
    · rw [b5, if_pos rfl] at h5
      have hw1 : IntKind.i64.wrap ((1 : Int) + 1) = 2 := by decide
      have d5 : decide ((2 : Int) > 1) = true := by decide
      simp only [go_sem, I_eq, I_cells, h0, h5, hH, d2, hw, hw1, d5, g6, g4, b1, b2, b3, b4, b5, Nat.reduceAdd, Nat.reduceBEq, Nat.reduceEqDiff, Nat.reduceLeDiff, Nat.reduceLT, Nat.reduceSub]
      exact ⟨by omega, hlt, by rw [hft (by rw [hfe]; simp only [b1, b2, b3, b4, b5, Bool.or_false, Bool.true_and, Bool.or_true])]; rfl, Keeps.refl h⟩
    · have hff : faultB ps i = false := by rw [hfe]; simp only [b1, b2, b3, b4, b5, Bool.or_false, Bool.and_false]
      rw [b5] at h5
      have hw1 : IntKind.i64.wrap ((0 : Int) + 1) = 1 := by decide
      have d5 : decide ((1 : Int) > 1) = false := by decide
      have hct : (ps.take (i + 1)).contains (-1) = true := by
        rw [List.take_succ_eq_append_getElem hlt]; simp only [beq_iff_eq] at b4; simp [b4]
      simp only [go_sem, I_eq, I_cells, h0, h5, hH, d2, hw, hw1, d5, g6, g4, b1, b2, b3, b4, hct, Nat.reduceAdd, Nat.reduceBEq, Nat.reduceEqDiff, Nat.reduceLeDiff, Nat.reduceLT, Nat.reduceSub]
      refine ⟨by omega, hlt, ?_⟩
      · intro u hu; rcases Nat.lt_succ_iff_lt_or_eq.1 hu with hu | rfl; exact hf u hu; exact hff
  · rintro s d2 g6 g4 ⟨h0, h5, hf, hH⟩
    have hin : ∀ u (hu : u < ps.length), -1 ≤ ps[u] ∧ ps[u] < ps.length := fun u hu => ⟨(in_tree hu (hf u hu)).1, (in_tree hu (hf u hu)).2.1⟩
    simp only [go_sem, I_eq, I_cells, h0, h5, hH, d2, g6, g4, Nat.reduceAdd, Nat.reduceBEq, Nat.reduceEqDiff, Nat.reduceLeDiff, Nat.reduceLT, Nat.reduceSub]
    refine awp_count 8 4 ps.length (by omega) (fun i s => s.slots 0 = .l e 1 (ps.map I) ∧ (∀ u, u < i → climb ps ps.length u = true) ∧ s.hp = h) ?_ ?_ ?_ ?_ ?_
    · simp only [go_sem, I_eq, I_cells, h0, Nat.reduceAdd, Nat.reduceBEq, Nat.reduceEqDiff, Nat.reduceLeDiff, Nat.reduceLT, Nat.reduceSub]
    · simp only [go_sem, I_eq, I_cells, h0, g4, Nat.reduceAdd, Nat.reduceBEq, Nat.reduceEqDiff, Nat.reduceLeDiff, Nat.reduceLT, Nat.reduceSub]
    · simp only [go_sem, I_eq, I_cells, h0, g4, hH, Nat.reduceAdd, Nat.reduceBEq, Nat.reduceEqDiff, Nat.reduceLeDiff, Nat.reduceLT, Nat.reduceSub]
      exact fun u hu => absurd hu (by omega)
    · clear h0 h5 hH g6 g4
      rintro i s hlt d3 hw g8 g4 ⟨h0, hc, hH⟩
      simp only [go_sem, I_eq, I_cells, h0, g4, hH, d3, hw, g8, Nat.reduceAdd, Nat.reduceBEq, Nat.reduceEqDiff, Nat.reduceLeDiff, Nat.reduceLT, Nat.reduceSub]
      refine awp_count 10 4 ps.length (by omega) (fun j s => s.slots 0 = .l e 1 (ps.map I) ∧ s.slots 8 = .int .i64 i ∧ (∃ a : Int, -1 ≤ a ∧ a < ps.length ∧ s.slots 9 = .int .i64 a ∧ climb ps ps.length i = (a == -1 || climb ps (ps.length - j) a)) ∧ s.hp = h) ?_ ?_ ?_ ?_ ?_
      · simp only [go_sem, I_eq, I_cells, h0, Nat.reduceAdd, Nat.reduceBEq, Nat.reduceEqDiff, Nat.reduceLeDiff, Nat.reduceLT, Nat.reduceSub]
      · simp only [go_sem, I_eq, I_cells, h0, g4, Nat.reduceAdd, Nat.reduceBEq, Nat.reduceEqDiff, Nat.reduceLeDiff, Nat.reduceLT, Nat.reduceSub]
      · simp only [go_sem, I_eq, I_cells, h0, g4, hH, g8, Nat.reduceAdd, Nat.reduceBEq, Nat.reduceEqDiff, Nat.reduceLeDiff, Nat.reduceLT, Nat.reduceSub]
        refine ⟨i, by omega, by omega, rfl, ?_⟩
        rw [show ((i : Int) == -1) = false by simp only [beq_eq_false_iff_ne]; omega]; rfl
      · clear h0 g4 hH g8
        rintro j s hj d4 hw2 g10 g4 ⟨h0, h8, ⟨a, ha0, ha, h9, hcl⟩, hH⟩
        cases b1 : (a == -1)
        · have b2 : (a != -1) = true := by simp only [bne, b1]; rfl
          obtain ⟨m, rfl⟩ : ∃ m : Nat, a = m := ⟨a.toNat, by simp only [beq_eq_false_iff_ne] at b1; omega⟩
          have ha' : m < ps.length := by omega
          have e0 : ps.getD ((m : Int)).toNat 0 = ps[m] := by rw [List.getD_eq_getElem?_getD, Int.toNat_natCast, List.getElem?_eq_getElem ha']; rfl
          have hcl2 : climb ps (ps.length - j) m = (ps[m] == -1 || climb ps (ps.length - (j + 1)) ps[m]) := by
            rw [show ps.length - j = (ps.length - (j + 1)) + 1 by omega]; simp only [climb, e0]
            by_cases hp : ps[m] = -1 <;> simp [hp]
          have ⟨k0, k1⟩ := hin m ha'
          simp only [go_sem, I_eq, I_cells, h0, h8, h9, hH, d4, hw2, g10, g4, b2, Nat.reduceAdd, Nat.reduceBEq, Nat.reduceEqDiff, Nat.reduceLeDiff, Nat.reduceLT, Nat.reduceSub]
          refine ⟨by omega, ha', ps[m], k0, k1, rfl, ?_⟩
          rw [hcl, hcl2, b1, Bool.false_or]
        · have b2 : (a != -1) = false := by simp only [bne, b1]; rfl
          have hct : climb ps ps.length i = true := by rw [hcl, b1]; rfl
          simp only [go_sem, I_eq, I_cells, h0, h8, h9, hH, d4, hw, hw2, g10, g4, b2, Nat.reduceAdd, Nat.reduceBEq, Nat.reduceEqDiff, Nat.reduceLeDiff, Nat.reduceLT, Nat.reduceSub]
          simp only [beq_iff_eq] at b1
          intro u hu; rcases Nat.lt_succ_iff_lt_or_eq.1 hu with hu | rfl
          · exact hc u hu
          · exact hct
      · clear h0 g4 hH g8
        rintro s d4 g10 g4 ⟨h0, h8, ⟨a, ha0, ha, h9, hcl⟩, hH⟩
        rw [Nat.sub_self, show climb ps 0 a = false from rfl, Bool.or_false] at hcl
        cases b1 : (a == -1)
        · have b2 : (a != -1) = true := by simp only [bne, b1]; rfl
          rw [b1] at hcl
          simp only [go_sem, I_eq, I_cells, h0, h8, h9, hH, d4, hw, g10, g4, b2, Nat.reduceAdd, Nat.reduceBEq, Nat.reduceEqDiff, Nat.reduceLeDiff, Nat.reduceLT, Nat.reduceSub]
          refine ⟨?_, Keeps.refl h⟩
          unfold treeR
          rw [if_neg hz, if_neg hg, find_range_none hf, find_range_at hlt (by simp [hcl]) (fun u hu => by simp [hc u hu])]; rfl
        · have b2 : (a != -1) = false := by simp only [bne, b1]; rfl
          rw [b1] at hcl
          simp only [go_sem, I_eq, I_cells, h0, h8, h9, hH, d4, hw, g10, g4, b2, Nat.reduceAdd, Nat.reduceBEq, Nat.reduceEqDiff, Nat.reduceLeDiff, Nat.reduceLT, Nat.reduceSub]
          intro u hu; rcases Nat.lt_succ_iff_lt_or_eq.1 hu with hu | rfl
          · exact hc u hu
          · exact hcl
    · clear h0 h5 hH g6 g4
      rintro s d3 g8 g4 ⟨h0, hc, hH⟩
      simp only [go_sem, I_eq, I_cells, h0, hH, d3, g8, g4, Nat.reduceAdd, Nat.reduceBEq, Nat.reduceEqDiff, Nat.reduceLeDiff, Nat.reduceLT, Nat.reduceSub]
      refine ⟨?_, Keeps.refl h⟩
      unfold treeR
      rw [if_neg hz, if_neg hg, find_range_none hf, find_range_none (fun u hu => by simp [hc u hu])]; rfl
end Go.Proofs.Ytmajndgdfmnchaa
/- Clones of ints. -/
namespace Go.Proofs.Ytmajndgdfmnchaa
open Go Go.T Go.Gh Go.Proofs
set_option linter.unusedSimpArgs false
theorem I_lfs (ns : List Int) : AV.lfs (ns.map I) = true := by
  rw [lfs_iff]; intro x hx
  obtain ⟨n, _, rfl⟩ := List.mem_map.1 hx
  simp [I, AV.lf, AV.lfs]
theorem I_frzs (L : Lab) (c : Con) (ns : List Int) : AV.frzs L c (ns.map I) = ns.map I := by
  rw [frzs_map, List.map_map]
  apply List.map_congr_left
  intro n _
  simp [I, AV.frz, AV.frzs]
set_option maxRecDepth 10000 in
theorem f47_spec (ns : List Int) (ex : Bool) (hlen : ns.length < 2 ^ 30) : PureF Try.prog 47 [.l ex 1 (ns.map I)] (.l false 1 (ns.map I)) := by
  refine PureF.of_awpZ mixed (fun _ => []) (fn := Try.f47) (by kernel_rfl) rfl (by kernel_rfl) (by show 1 ≤ _; decide) (by simp [AV.lf, I_lfs]) (fun h => ?_)
  simp only [go_sem, I_eq, I_cells, Nat.reduceAdd, Nat.reduceBEq, Nat.reduceEqDiff, Nat.reduceLeDiff, Nat.reduceLT, Nat.reduceSub]
  refine ⟨fun hn => ⟨h, .done _ _ _ (by rw [hn]; exact Le.l0), Keeps.refl h⟩, by decide, by omega, by omega, _, .step _ ⟨47, 7, h.cnt 47 7⟩ _ _ _ (.done _ _ _ ?_), ?_⟩
  · simp [Hp.alloc, AV.frz]
    exact Le.refl _
  · exact Keeps.set ((Keeps.refl h).alloc _ _ _) ((Keeps.refl h).new 47 7) _
end Go.Proofs.Ytmajndgdfmnchaa
