/- Trees: what is asked of them. -/
import Derived.Test.YtmajndgdfmnchaaZTJ
namespace Go.Gh
def idxI (x : Int) (l : List Int) : Int := idxP (fun y => x == y) l
/-- Whether there is a node. -/
def hasN (ps : List Int) (v : Int) : Bool := decide (0 ≤ v ∧ v < ps.length)
/-- The neighbours of a node, rising. -/
def nbr (ps : List Int) (v : Int) : List Int := if hasN ps v then sortI (nearL ps v.toNat ps.length) else []
def TreeOk (ps : List Int) : Prop := treeR ps = (0, 0)
def nextUp (ps : List Int) (v : Int) : Nat → Int → Int
  | 0, _ => ps.getD v.toNat 0
  | k + 1, a => if a < 0 then ps.getD v.toNat 0 else if ps.getD a.toNat 0 = v then a else nextUp ps v k (ps.getD a.toNat 0)
def nextT (ps : List Int) (v to : Int) : Int := if hasN ps v && hasN ps to then (if v = to then to else nextUp ps v ps.length to) else -1
theorem TreeOk.len {ps : List Int} (h : TreeOk ps) : 0 < ps.length ∧ ps.length ≤ 32 := by
  unfold TreeOk treeR at h
  by_cases hz : ps.length = 0
  · simp [hz] at h
  · by_cases hg : 32 < ps.length
    · simp [hz, hg] at h
    · omega
theorem TreeOk.fault {ps : List Int} (h : TreeOk ps) : ∀ u, u < ps.length → faultB ps u = false := by
  have hl := h.len
  intro u hu
  unfold TreeOk treeR at h
  cases hc : (List.range ps.length).find? (faultB ps) with
  | some v => rw [if_neg (by omega), if_neg (by omega), hc] at h; simp at h
  | none => rw [List.find?_range_eq_none] at hc; simpa using hc u hu
theorem TreeOk.in {ps : List Int} (h : TreeOk ps) {u : Nat} (hu : u < ps.length) : -1 ≤ ps[u] ∧ ps[u] < ps.length ∧ ps[u] ≠ u := in_tree hu (h.fault u hu)
theorem TreeOk.climb {ps : List Int} (h : TreeOk ps) : ∀ u : Nat, u < ps.length → climb ps ps.length u = true := by
  have hl := h.len
  have hf := h.fault
  intro u hu
  unfold TreeOk treeR at h
  rw [if_neg (by omega), if_neg (by omega), find_range_none hf] at h
  cases hc : (List.range ps.length).find? (fun v : Nat => !Go.Gh.climb ps ps.length v) with
  | some v => rw [hc] at h; simp at h
  | none => rw [List.find?_range_eq_none] at hc; simpa using hc u hu
theorem idx_at {ps : List Int} {i : Nat} (h : i < ps.length) : ps.getD i 0 = ps[i] := by simp [h]
theorem nbr_len (ps : List Int) (v : Int) : (nbr ps v).length ≤ ps.length := by
  unfold nbr; split
  · have := nearL_len ps v.toNat ps.length
    unfold sortI; rw [List.length_mergeSort]; exact this
  · simp
end Go.Gh
namespace Go.Proofs.Ytmajndgdfmnchaa
open Go Go.T Go.Gh Go.Proofs
set_option linter.unusedSimpArgs false
theorem Index_int_spec (xs : List Int) (e : Bool) (x : Int) (hlen : xs.length < 2 ^ 61) : PureF Try.prog 82 [.l e 1 (xs.map I), .int .i64 x] (.int .i64 (idxI x xs)) := by
  refine PureF.of_awp mixed (fun _ => []) (fn := Try.f82) (by kernel_rfl) rfl (by kernel_rfl) (by show 2 ≤ _; decide) (by simp [AV.lf]) (fun h => ?_)
  simp only [go_sem, I_eq, I_cells, Nat.reduceAdd, Nat.reduceBEq, Nat.reduceEqDiff, Nat.reduceLeDiff, Nat.reduceLT, Nat.reduceSub]
  refine awp_count 8 7 xs.length (by omega) (fun i s => s.slots 0 = .l e 1 (xs.map I) ∧ s.slots 1 = .int .i64 x ∧ (∀ y ∈ xs.take i, (x == y) = false) ∧ Keeps h s.hp) ?_ ?_ ?_ ?_ ?_
  · simp only [go_sem, I_eq, I_cells, Nat.reduceAdd, Nat.reduceBEq, Nat.reduceEqDiff, Nat.reduceLeDiff, Nat.reduceLT, Nat.reduceSub]
  · simp only [go_sem, I_eq, I_cells, Nat.reduceAdd, Nat.reduceBEq, Nat.reduceEqDiff, Nat.reduceLeDiff, Nat.reduceLT, Nat.reduceSub]
  · simp only [go_sem, I_eq, I_cells, Nat.reduceAdd, Nat.reduceBEq, Nat.reduceEqDiff, Nat.reduceLeDiff, Nat.reduceLT, Nat.reduceSub]
    exact ⟨by simp, Keeps.refl h⟩
  · rintro i s hlt d2 hw g8 g7 ⟨h0, h1, hn, hH⟩
    repeat' first
      | (with_reducible refine CondX.dec (fun c => ?_) (fun c => ?_)) <;> try (exfalso; omega)
      | (with_reducible refine CondX.beq (fun c => ?_) (fun c => ?_)) <;> try (exfalso; omega)
      | (with_reducible refine CondX.bne (fun c => ?_) (fun c => ?_)) <;> try (exfalso; omega)
      | (with_reducible refine CondX.bool (fun c => ?_) (fun c => ?_)) <;> try (exfalso; omega)
      | simp only [go_sem, I_eq, I_cells, d2, hw, g8, g7, h0, h1, Nat.reduceAdd, Nat.reduceBEq, Nat.reduceEqDiff, Nat.reduceLeDiff, Nat.reduceLT, Nat.reduceSub]
      | simp (disch := omega) only [wrap_in, toNat_succ, toNat_pred, Int.toNat_natCast]
      | with_reducible refine And.intro (by omega) ?_
      | with_reducible refine exI (by omega) ?_
      | fail
    · exact ⟨by rw [idxI, idxP_at _ xs i hlt (by simpa using c) hn], hH⟩
    · refine ⟨fun y hy => ?_, hH⟩
      rw [List.take_succ_eq_append_getElem hlt] at hy
      rcases List.mem_append.1 hy with hy | hy
      · exact hn y hy
      · rw [List.mem_singleton.1 hy]; simpa using c
  · rintro s d2 g8 g7 ⟨h0, h1, hn, hH⟩
    rw [List.take_length] at hn
    simp only [go_sem, I_eq, I_cells, d2, g8, g7, h0, h1, Nat.reduceAdd, Nat.reduceBEq, Nat.reduceEqDiff, Nat.reduceLeDiff, Nat.reduceLT, Nat.reduceSub]
    exact ⟨by rw [idxI, idxP_none _ xs hn], hH⟩
theorem Contains_int_spec (xs : List Int) (e : Bool) (x : Int) (hlen : xs.length < 2 ^ 61) : PureF Try.prog 54 [.l e 1 (xs.map I), .int .i64 x] (.bool (decide (x ∈ xs))) := by
  refine PureF.of_awp mixed (fun _ => []) (fn := Try.f54) (by kernel_rfl) rfl (by kernel_rfl) (by show 2 ≤ _; decide) (by simp [AV.lf]) (fun h => ?_)
  repeat' first
    | (with_reducible refine CondX.dec (fun c => ?_) (fun c => ?_)) <;> try (exfalso; omega)
    | (with_reducible refine CondX.beq (fun c => ?_) (fun c => ?_)) <;> try (exfalso; omega)
    | (with_reducible refine CondX.bne (fun c => ?_) (fun c => ?_)) <;> try (exfalso; omega)
    | (with_reducible refine CondX.bool (fun c => ?_) (fun c => ?_)) <;> try (exfalso; omega)
    | ((with_reducible refine CallX.id ?_); first | refine CallX.pure (Index_int_spec _ _ _ hlen) ?_)
    | simp only [go_sem, I_eq, I_cells, Nat.reduceAdd, Nat.reduceBEq, Nat.reduceEqDiff, Nat.reduceLeDiff, Nat.reduceLT, Nat.reduceSub]
    | simp (disch := omega) only [wrap_in, toNat_succ, toNat_pred, Int.toNat_natCast]
    | with_reducible refine And.intro (by omega) ?_
    | with_reducible refine exI (by omega) ?_
    | fail
  refine ⟨?_, Keeps.refl h⟩
  rw [idxI, idxP_any]
  congr 1
  rw [Bool.eq_iff_iff]; simp
@[go_sem] theorem treeV_cells (ps : List Int) : (treeV ps).cells = [treeV ps] := by simp [treeV, AV.cells]
@[go_sem] theorem treeV_isCell (ps : List Int) : (treeV ps).isCell = true := by simp [treeV, AV.isCell]
theorem Size_spec (ps : List Int) : PureF Try.prog 52 [treeV ps] (.int .i64 ps.length) := by
  refine PureF.of_awp mixed (fun _ => []) (fn := Try.f52) (by kernel_rfl) rfl (by kernel_rfl) (by show 1 ≤ _; decide) (by simp [AV.lf]) (fun h => ?_)
  repeat' first
    | (with_reducible refine CondX.dec (fun c => ?_) (fun c => ?_)) <;> try (exfalso; omega)
    | (with_reducible refine CondX.beq (fun c => ?_) (fun c => ?_)) <;> try (exfalso; omega)
    | (with_reducible refine CondX.bne (fun c => ?_) (fun c => ?_)) <;> try (exfalso; omega)
    | (with_reducible refine CondX.bool (fun c => ?_) (fun c => ?_)) <;> try (exfalso; omega)
    | simp only [go_sem, I_eq, I_cells, treeV, Nat.reduceAdd, Nat.reduceBEq, Nat.reduceEqDiff, Nat.reduceLeDiff, Nat.reduceLT, Nat.reduceSub]
    | simp (disch := omega) only [wrap_in, toNat_succ, toNat_pred, Int.toNat_natCast]
    | with_reducible refine And.intro (by omega) ?_
    | with_reducible refine exI (by omega) ?_
    | fail
  exact Keeps.refl h
theorem Size_nil : PureF Try.prog 52 [.nilp] (.int .i64 0) := by
  refine PureF.of_awp mixed (fun _ => []) (fn := Try.f52) (by kernel_rfl) rfl (by kernel_rfl) (by show 1 ≤ _; decide) (by simp [AV.lf]) (fun h => ?_)
  repeat' first
    | (with_reducible refine CondX.dec (fun c => ?_) (fun c => ?_)) <;> try (exfalso; omega)
    | (with_reducible refine CondX.beq (fun c => ?_) (fun c => ?_)) <;> try (exfalso; omega)
    | (with_reducible refine CondX.bne (fun c => ?_) (fun c => ?_)) <;> try (exfalso; omega)
    | (with_reducible refine CondX.bool (fun c => ?_) (fun c => ?_)) <;> try (exfalso; omega)
    | simp only [go_sem, I_eq, I_cells, Nat.reduceAdd, Nat.reduceBEq, Nat.reduceEqDiff, Nat.reduceLeDiff, Nat.reduceLT, Nat.reduceSub]
    | simp (disch := omega) only [wrap_in, toNat_succ, toNat_pred, Int.toNat_natCast]
    | with_reducible refine And.intro (by omega) ?_
    | with_reducible refine exI (by omega) ?_
    | fail
  exact Keeps.refl h
theorem has_spec (ps : List Int) (v : Int) : PureF Try.prog 83 [treeV ps, .int .i64 v] (.bool (hasN ps v)) := by
  refine PureF.of_awp mixed (fun _ => []) (fn := Try.f83) (by kernel_rfl) rfl (by kernel_rfl) (by show 2 ≤ _; decide) (by simp [AV.lf]) (fun h => ?_)
  repeat' first
    | (with_reducible refine CondX.dec (fun c => ?_) (fun c => ?_)) <;> try (exfalso; omega)
    | (with_reducible refine CondX.beq (fun c => ?_) (fun c => ?_)) <;> try (exfalso; omega)
    | (with_reducible refine CondX.bne (fun c => ?_) (fun c => ?_)) <;> try (exfalso; omega)
    | (with_reducible refine CondX.bool (fun c => ?_) (fun c => ?_)) <;> try (exfalso; omega)
    | simp only [go_sem, I_eq, I_cells, treeV, Nat.reduceAdd, Nat.reduceBEq, Nat.reduceEqDiff, Nat.reduceLeDiff, Nat.reduceLT, Nat.reduceSub]
    | simp (disch := omega) only [wrap_in, toNat_succ, toNat_pred, Int.toNat_natCast]
    | with_reducible refine And.intro (by omega) ?_
    | with_reducible refine exI (by omega) ?_
    | fail
  all_goals
    refine ⟨?_, Keeps.refl h⟩
    congr 1; symm; unfold hasN; simp; omega
theorem state_within_spec (x lo hi : Int) : PureF Try.prog 64 [.int .i64 x, .int .i64 lo, .int .i64 hi] (.bool (withinB x lo hi)) := by
  refine PureF.of_awp mixed (fun _ => []) (fn := Try.f64) (by kernel_rfl) rfl (by kernel_rfl) (by show 3 ≤ _; decide) (by simp [AV.lf]) (fun h => ?_)
  repeat' first
    | (with_reducible refine CondX.dec (fun c => ?_) (fun c => ?_)) <;> try (exfalso; omega)
    | (with_reducible refine CondX.beq (fun c => ?_) (fun c => ?_)) <;> try (exfalso; omega)
    | (with_reducible refine CondX.bne (fun c => ?_) (fun c => ?_)) <;> try (exfalso; omega)
    | (with_reducible refine CondX.bool (fun c => ?_) (fun c => ?_)) <;> try (exfalso; omega)
    | simp only [go_sem, I_eq, I_cells, Nat.reduceAdd, Nat.reduceBEq, Nat.reduceEqDiff, Nat.reduceLeDiff, Nat.reduceLT, Nat.reduceSub]
    | simp (disch := omega) only [wrap_in, toNat_succ, toNat_pred, Int.toNat_natCast]
    | with_reducible refine And.intro (by omega) ?_
    | with_reducible refine exI (by omega) ?_
    | fail
  all_goals
    refine ⟨?_, Keeps.refl h⟩
    congr 1; symm; unfold withinB; simp; omega
theorem Neighbours_spec (ps : List Int) (v : Int) (hlen : ps.length < 2 ^ 29) : PureF Try.prog 55 [treeV ps, .int .i64 v] (.l false 1 ((nbr ps v).map I)) := by
  refine PureF.of_awpZ mixed (fun _ => []) (fn := Try.f55) (by kernel_rfl) rfl (by kernel_rfl) (by show 2 ≤ _; decide) (by simp [AV.lf, I_lfs]) (fun h => ?_)
  simp only [go_sem, I_eq, I_cells, Nat.reduceAdd, Nat.reduceBEq, Nat.reduceEqDiff, Nat.reduceLeDiff, Nat.reduceLT, Nat.reduceSub]
  refine CallX.pure (has_spec ps v) ?_
  cases hv : hasN ps v
  · simp only [go_sem, I_eq, I_cells, hv, Nat.reduceAdd, Nat.reduceBEq, Nat.reduceEqDiff, Nat.reduceLeDiff, Nat.reduceLT, Nat.reduceSub]
    exact ⟨h, .done _ _ _ (by simp only [nbr, hv]; exact Le.l0), Keeps.refl h⟩
  · have hv' := hv
    unfold hasN at hv'
    simp only [decide_eq_true_eq] at hv'
    have hn : v.toNat < (nears ps).length := by unfold nears; simp; omega
    simp only [go_sem, I_eq, I_cells, hv, treeV, Nat.reduceAdd, Nat.reduceBEq, Nat.reduceEqDiff, Nat.reduceLeDiff, Nat.reduceLT, Nat.reduceSub]
    refine ⟨by omega, by simpa using hn, ?_⟩
    have e1 : (nears ps)[v.toNat] = nbr ps v := by simp [nears, nbr, hv]
    simp only [go_sem, I_eq, I_cells, nearC, e1, Nat.reduceAdd, Nat.reduceBEq, Nat.reduceEqDiff, Nat.reduceLeDiff, Nat.reduceLT, Nat.reduceSub]
    have := nbr_len ps v
    refine CallX.pure (f47_spec _ _ (by omega)) ?_
    exact ⟨h, .done _ _ _ (Le.refl _), Keeps.refl h⟩
theorem Next_spec (ps : List Int) (v to : Int) (hok : TreeOk ps) : PureF Try.prog 67 [treeV ps, .int .i64 v, .int .i64 to] (.int .i64 (nextT ps v to)) := by
  refine PureF.of_awp mixed (fun _ => []) (fn := Try.f67) (by kernel_rfl) rfl (by kernel_rfl) (by show 3 ≤ _; decide) (by simp [AV.lf]) (fun h => ?_)
  repeat' first
    | (with_reducible refine CondX.dec (fun c => ?_) (fun c => ?_)) <;> try (exfalso; omega)
    | (with_reducible refine CondX.beq (fun c => ?_) (fun c => ?_)) <;> try (exfalso; omega)
    | (with_reducible refine CondX.bne (fun c => ?_) (fun c => ?_)) <;> try (exfalso; omega)
    | (with_reducible refine CondX.bool (fun c => ?_) (fun c => ?_)) <;> try (exfalso; omega)
    | ((with_reducible refine CallX.id ?_); first | refine CallX.pure (has_spec ps v) ?_ | refine CallX.pure (has_spec ps to) ?_)
    | simp only [go_sem, I_eq, I_cells, Nat.reduceAdd, Nat.reduceBEq, Nat.reduceEqDiff, Nat.reduceLeDiff, Nat.reduceLT, Nat.reduceSub]
    | simp (disch := omega) only [wrap_in, toNat_succ, toNat_pred, Int.toNat_natCast]
    | with_reducible refine And.intro (by omega) ?_
    | with_reducible refine exI (by omega) ?_
    | fail
  · exact ⟨by simp only [nextT, *, Bool.and_self, if_true], Keeps.refl h⟩
  · rename_i c1 c2
    have e0 : nextT ps v to = nextUp ps v ps.length to := by simp only [nextT, c1, c2, Bool.and_self, if_true, if_neg c]
    simp only [hasN, decide_eq_true_eq] at c1 c2
    obtain ⟨v, rfl⟩ : ∃ v' : Nat, v = v' := ⟨v.toNat, by omega⟩
    obtain ⟨to, rfl⟩ : ∃ v' : Nat, to = v' := ⟨to.toNat, by omega⟩
    have lv : v < ps.length := by omega
    refine awp_fuel (fun k s => s.slots 0 = treeV ps ∧ s.slots 1 = .int .i64 v ∧ s.hp = h ∧ ∃ a : Int, s.slots 7 = .int .i64 a ∧ nextT ps v to = nextUp ps v k a ∧ (a = -1 ∨ ∃ u : Nat, a = u ∧ u < ps.length ∧ climb ps k u = true)) ps.length ?_ ?_
    · simp only [go_sem, I_eq, I_cells, treeV, Nat.reduceAdd, Nat.reduceBEq, Nat.reduceEqDiff, Nat.reduceLeDiff, Nat.reduceLT, Nat.reduceSub]
      exact ⟨to, rfl, e0, .inr ⟨to, rfl, by omega, hok.climb to (by omega)⟩⟩
    · rintro k s ⟨g0, g1, gH, a, g7, ga, ha⟩
      rcases ha with rfl | ⟨u, rfl, hu, hc⟩
      · simp only [go_sem, I_eq, I_cells, g0, g1, gH, g7, treeV, Nat.reduceAdd, Nat.reduceBEq, Nat.reduceEqDiff, Nat.reduceLeDiff, Nat.reduceLT, Nat.reduceSub]
        repeat' first
          | (with_reducible refine CondX.dec (fun c => ?_) (fun c => ?_)) <;> try (exfalso; omega)
          | (with_reducible refine CondX.beq (fun c => ?_) (fun c => ?_)) <;> try (exfalso; omega)
          | (with_reducible refine CondX.bne (fun c => ?_) (fun c => ?_)) <;> try (exfalso; omega)
          | (with_reducible refine CondX.bool (fun c => ?_) (fun c => ?_)) <;> try (exfalso; omega)
          | simp only [go_sem, I_eq, I_cells, g0, g1, gH, g7, treeV, Nat.reduceAdd, Nat.reduceBEq, Nat.reduceEqDiff, Nat.reduceLeDiff, Nat.reduceLT, Nat.reduceSub]
          | simp (disch := omega) only [wrap_in, toNat_succ, toNat_pred, Int.toNat_natCast]
          | with_reducible refine And.intro (by omega) ?_
          | with_reducible refine exI (by omega) ?_
          | fail
        exact ⟨by rw [ga]; cases k <;> simp [nextUp, lv], Keeps.refl h⟩
      · have k0 := hok.in hu
        cases k with
        | zero => simp [climb] at hc
        | succ k =>
          have hs : nextUp ps v (k + 1) u = if ps[u] = v then (u : Int) else nextUp ps v k ps[u] := by
            rw [nextUp, if_neg (by omega)]; simp [hu]
          have hc' : climb ps (k + 1) u = if ps[u] = -1 then true else climb ps k ps[u] := by
            rw [climb]; simp [hu]
          repeat' first
            | (with_reducible refine CondX.dec (fun c => ?_) (fun c => ?_)) <;> try (exfalso; omega)
            | (with_reducible refine CondX.beq (fun c => ?_) (fun c => ?_)) <;> try (exfalso; omega)
            | (with_reducible refine CondX.bne (fun c => ?_) (fun c => ?_)) <;> try (exfalso; omega)
            | (with_reducible refine CondX.bool (fun c => ?_) (fun c => ?_)) <;> try (exfalso; omega)
            | simp only [go_sem, I_eq, I_cells, g0, g1, gH, g7, treeV, Nat.reduceAdd, Nat.reduceBEq, Nat.reduceEqDiff, Nat.reduceLeDiff, Nat.reduceLT, Nat.reduceSub]
            | simp (disch := omega) only [wrap_in, toNat_succ, toNat_pred, Int.toNat_natCast]
            | with_reducible refine And.intro (by omega) ?_
            | with_reducible refine exI (by omega) ?_
            | fail
          · exact ⟨by rw [ga, hs, if_pos c], Keeps.refl h⟩
          · refine ⟨k, by omega, _, rfl, by rw [ga, hs, if_neg c], ?_⟩
            rw [hc'] at hc
            by_cases hm : ps[u] = -1
            · exact .inl hm
            · rw [if_neg hm] at hc
              exact .inr ⟨ps[u].toNat, by omega, by omega, by rw [show ((ps[u].toNat : Nat) : Int) = ps[u] by omega]; exact hc⟩
  all_goals exact ⟨by simp [nextT, *], Keeps.refl h⟩
end Go.Proofs.Ytmajndgdfmnchaa
