/- States: what can be, all of it. -/
import Derived.Test.YtmajndgdfmnchaaZTL
namespace Go.Proofs.Ytmajndgdfmnchaa
open Go Go.T Go.Gh Go.Proofs
set_option linter.unusedSimpArgs false
set_option maxRecDepth 10000
set_option maxHeartbeats 4000000
def T79 : Nat → List Tg := fun id => if id = 1 then [.plain, .plain, .plain, .plain, .plain, .plain, .plain, .pure, .plain, .plain, .pure, .plain, .plain, .plain, .plain, .plain, .pure, .plain, .plain, .plain, .plain, .plain, .plain, .plain, .plain, .plain, .plain, .pure] else if id = 6 then [.plain, .plain, .plain, .pure] else []
theorem own_spec (ps : List Int) (me : Int) (o : Gh.Own) (hlen : ps.length < 2 ^ 29) (hc : o.cells.length ≤ 9223372036854775807) : PureF Try.prog 79 [treeV ps, .int .i64 me, encO o] (.bool (ownB ps me o)) := by
  refine PureF.of_awp mixed T79 (fn := Try.f79) (by kernel_rfl) rfl (by kernel_rfl) (by show 3 ≤ _; decide) (by simp [AV.lf]) (fun h => ?_)
  have hnl := nbr_len ps me
  obtain ⟨g, hg⟩ : ∃ g, goodC o.cells me (o.arrow == me) = g := ⟨_, rfl⟩
  have hown : ownB ps me o = ((o.arrow == me || decide (o.arrow ∈ nbr ps me)) && withinB o.made 0 1099511627776 && g && o.cells.all (fun c => decide (c.node < ps.length)) && lastOk o) := by rw [← hg]; rfl
  rw [awp_assoc]
  refine awp_cut (fun s => s.slots 0 = treeV ps ∧ s.slots 5 = .pt ⟨79, 5, h.cnt 79 5⟩ 0 0 0 ∧ s.hp.con ⟨79, 5, h.cnt 79 5⟩ = .blk (encO o).cells ∧ Keeps h s.hp ∧ ((o.arrow == me || decide (o.arrow ∈ nbr ps me)) && withinB o.made 0 1099511627776 && g) = true) ?_ ?_
  · repeat' first
      | (with_reducible refine CondX.dec (fun c => ?_) (fun c => ?_)) <;> try (exfalso; omega)
      | (with_reducible refine CondX.beq (fun c => ?_) (fun c => ?_)) <;> try (exfalso; omega)
      | (with_reducible refine CondX.bne (fun c => ?_) (fun c => ?_)) <;> try (exfalso; omega)
      | (with_reducible refine CondX.bool (fun c => ?_) (fun c => ?_)) <;> try (exfalso; omega)
      | ((with_reducible refine CallX.id ?_); first | refine CallX.pure (Neighbours_spec ps me hlen) ?_ | refine CallX.pure (Contains_int_spec _ _ _ (by omega)) ?_ | refine CallX.pure (state_within_spec _ _ _) ?_ | refine CallX.pure (chain_Good_spec _ _ _ _ (by omega)) ?_)
      | ((with_reducible refine PureX.id ?_); first | refine PureX.of (Neighbours_spec ps me hlen) ?_ | refine PureX.of (Contains_int_spec _ _ _ (by omega)) ?_ | refine PureX.of (state_within_spec _ _ _) ?_ | refine PureX.of (chain_Good_spec _ _ _ _ (by omega)) ?_)
      | simp only [go_sem, I_eq, I_cells, T79, encO, encO_cells, hg, Nat.reduceAdd, Nat.reduceBEq, Nat.reduceEqDiff, Nat.reduceLeDiff, Nat.reduceLT, Nat.reduceSub]
      | simp (disch := omega) only [wrap_in, toNat_succ, toNat_pred, Int.toNat_natCast]
      | with_reducible refine And.intro (by omega) ?_
      | with_reducible refine exI (by omega) ?_
      | fail
    all_goals first
      | exact ⟨by rw [hown]; simp [*], by ((repeat with_reducible apply Keeps.alloc); first | assumption | exact Keeps.refl _)⟩
      | exact ⟨by ((repeat with_reducible apply Keeps.alloc); first | assumption | exact Keeps.refl _), by simp [*]⟩
  · rintro s ⟨g0, g5, gB, gH, hh⟩
    rw [hh, Bool.true_and] at hown
    repeat' first
      | (with_reducible refine CondX.dec (fun c => ?_) (fun c => ?_)) <;> try (exfalso; omega)
      | (with_reducible refine CondX.beq (fun c => ?_) (fun c => ?_)) <;> try (exfalso; omega)
      | (with_reducible refine CondX.bne (fun c => ?_) (fun c => ?_)) <;> try (exfalso; omega)
      | (with_reducible refine CondX.bool (fun c => ?_) (fun c => ?_)) <;> try (exfalso; omega)
      | simp only [go_sem, I_eq, I_cells, T79, g0, g5, gB, encO_cells, Nat.reduceAdd, Nat.reduceBEq, Nat.reduceEqDiff, Nat.reduceLeDiff, Nat.reduceLT, Nat.reduceSub]
      | simp (disch := omega) only [wrap_in, toNat_succ, toNat_pred, Int.toNat_natCast]
      | with_reducible refine And.intro (by omega) ?_
      | with_reducible refine exI (by omega) ?_
      | fail
    refine awp_count 43 42 o.cells.length (by omega) (fun i s => s.slots 0 = treeV ps ∧ s.slots 41 = .l false 4 (o.cells.map encC) ∧ s.slots 5 = .pt ⟨79, 5, h.cnt 79 5⟩ 0 0 0 ∧ s.hp.con ⟨79, 5, h.cnt 79 5⟩ = .blk (encO o).cells ∧ Keeps h s.hp ∧ o.cells.all (fun c => decide (c.node < ps.length)) = (o.cells.drop i).all (fun c => decide (c.node < ps.length))) ?_ ?_ ?_ ?_ ?_
    · simp only [go_sem, I_eq, I_cells, Nat.reduceAdd, Nat.reduceBEq, Nat.reduceEqDiff, Nat.reduceLeDiff, Nat.reduceLT, Nat.reduceSub]
    · simp only [go_sem, I_eq, I_cells, Nat.reduceAdd, Nat.reduceBEq, Nat.reduceEqDiff, Nat.reduceLeDiff, Nat.reduceLT, Nat.reduceSub]
    · simp only [go_sem, I_eq, I_cells, g0, g5, gB, encO_cells, Nat.reduceAdd, Nat.reduceBEq, Nat.reduceEqDiff, Nat.reduceLeDiff, Nat.reduceLT, Nat.reduceSub]
      exact gH
    · clear g0 g5 gB gH
      rintro i s hlt d2 hw g43 g42 ⟨g0, g41, g5, gB, gH, ha⟩
      rw [drop_cons hlt, List.all_cons] at ha
      repeat' first
        | (with_reducible refine CondX.dec (fun c => ?_) (fun c => ?_)) <;> try (exfalso; omega)
        | (with_reducible refine CondX.beq (fun c => ?_) (fun c => ?_)) <;> try (exfalso; omega)
        | (with_reducible refine CondX.bne (fun c => ?_) (fun c => ?_)) <;> try (exfalso; omega)
        | (with_reducible refine CondX.bool (fun c => ?_) (fun c => ?_)) <;> try (exfalso; omega)
        | ((with_reducible refine CallX.id ?_); first | refine CallX.pure (Size_spec ps) ?_)
        | ((with_reducible refine PureX.id ?_); first | refine PureX.of (Size_spec ps) ?_)
        | simp only [go_sem, I_eq, I_cells, T79, d2, hw, g43, g42, g0, g41, g5, gB, encO_cells, encC_cells, Nat.reduceAdd, Nat.reduceBEq, Nat.reduceEqDiff, Nat.reduceLeDiff, Nat.reduceLT, Nat.reduceSub]
        | simp (disch := omega) only [wrap_in, toNat_succ, toNat_pred, Int.toNat_natCast]
        | with_reducible refine And.intro (by omega) ?_
        | with_reducible refine exI (by omega) ?_
        | fail
      · exact ⟨by rw [hown, ha, decide_eq_false (show ¬ (o.cells[i].node < ps.length) by omega)]; simp, by ((repeat with_reducible apply Keeps.alloc); first | assumption | exact Keeps.refl _)⟩
      · exact ⟨by ((repeat with_reducible apply Keeps.alloc); first | assumption | exact Keeps.refl _), by rw [ha, decide_eq_true (show o.cells[i].node < ps.length by omega)]; simp⟩
    · clear g0 g5 gB gH
      rintro s d2 g43 g42 ⟨g0, g41, g5, gB, gH, ha⟩
      rw [List.drop_length] at ha
      have hwn : IntKind.i64.wrap ((o.cells.length : Int) - 1) = (o.cells.length : Int) - 1 := IntWalk.i64_in _ (by omega)
      repeat' first
        | (with_reducible refine CondX.dec (fun c => ?_) (fun c => ?_)) <;> try (exfalso; omega)
        | (with_reducible refine CondX.beq (fun c => ?_) (fun c => ?_)) <;> try (exfalso; omega)
        | (with_reducible refine CondX.bne (fun c => ?_) (fun c => ?_)) <;> try (exfalso; omega)
        | (with_reducible refine CondX.bool (fun c => ?_) (fun c => ?_)) <;> try (exfalso; omega)
        | simp only [go_sem, I_eq, I_cells, T79, d2, hwn, g43, g42, g0, g41, g5, gB, encO_cells, encC_cells, Nat.reduceAdd, Nat.reduceBEq, Nat.reduceEqDiff, Nat.reduceLeDiff, Nat.reduceLT, Nat.reduceSub]
        | simp (disch := omega) only [wrap_in, toNat_succ, toNat_pred, Int.toNat_natCast]
        | with_reducible refine And.intro (by omega) ?_
        | with_reducible refine exI (by omega) ?_
        | fail
      · refine ⟨?_, by ((repeat with_reducible apply Keeps.alloc); first | assumption | exact Keeps.refl _)⟩
        have : o.cells = [] := List.length_eq_zero_iff.1 (by omega)
        rw [hown, ha]; simp [lastOk, this]
      · refine ⟨?_, by ((repeat with_reducible apply Keeps.alloc); first | assumption | exact Keeps.refl _)⟩
        have : o.cells.getLast? = some o.cells[o.cells.length - 1] := by rw [List.getLast?_eq_getElem?, List.getElem?_eq_getElem]
        rw [hown, ha]; simp [lastOk, this]
theorem edges_spec (ps : List Int) (s : Nst) (hlen : ps.length < 2 ^ 29) (hs : Sized s) : PureF Try.prog 80 [treeV ps, encS s] (.bool (edgesB ps s)) := by
  refine PureF.of_awp mixed (fun _ => []) (fn := Try.f80) (by kernel_rfl) rfl (by kernel_rfl) (by show 2 ≤ _; decide) (by simp [AV.lf]) (fun h => ?_)
  have hnl := nbr_len ps s.me
  have hel := hs.edges
  repeat' first
    | (with_reducible refine CondX.dec (fun c => ?_) (fun c => ?_)) <;> try (exfalso; omega)
    | (with_reducible refine CondX.beq (fun c => ?_) (fun c => ?_)) <;> try (exfalso; omega)
    | (with_reducible refine CondX.bne (fun c => ?_) (fun c => ?_)) <;> try (exfalso; omega)
    | (with_reducible refine CondX.bool (fun c => ?_) (fun c => ?_)) <;> try (exfalso; omega)
    | ((with_reducible refine CallX.id ?_); first | refine CallX.pure (Neighbours_spec ps s.me hlen) ?_)
    | simp only [go_sem, I_eq, I_cells, encS, encS_cells, Nat.reduceAdd, Nat.reduceBEq, Nat.reduceEqDiff, Nat.reduceLeDiff, Nat.reduceLT, Nat.reduceSub]
    | simp (disch := omega) only [wrap_in, toNat_succ, toNat_pred, Int.toNat_natCast]
    | with_reducible refine And.intro (by omega) ?_
    | with_reducible refine exI (by omega) ?_
    | fail
  · exact ⟨by simp only [edgesB]; rw [beq_eq_false_iff_ne.2 (show (nbr ps s.me).length ≠ s.edges.length by omega)]; rfl, by ((repeat with_reducible apply Keeps.alloc); first | assumption | exact Keeps.refl _)⟩
  have hz : ((nbr ps s.me).zip s.edges).length = s.edges.length := by simp; omega
  have he : edgesB ps s = ((nbr ps s.me).zip s.edges).all (edgeB ps.length s.objs.length) := by
    simp only [edgesB]; rw [beq_iff_eq.2 (show (nbr ps s.me).length = s.edges.length by omega)]; rfl
  refine awp_count 21 20 s.edges.length (by omega) (fun i t => t.slots 2 = .pt ⟨80, 2, h.cnt 80 2⟩ 0 0 0 ∧ t.slots 3 = .pt ⟨80, 3, h.cnt 80 3⟩ 0 0 0 ∧ t.slots 5 = .l false 1 ((nbr ps s.me).map I) ∧ t.slots 19 = .l false 4 (s.edges.map encE) ∧
    t.hp.con ⟨80, 2, h.cnt 80 2⟩ = .blk [treeV ps] ∧ t.hp.con ⟨80, 3, h.cnt 80 3⟩ = .blk (encS s).cells ∧ Keeps h t.hp ∧ ((nbr ps s.me).zip s.edges).all (edgeB ps.length s.objs.length) = (((nbr ps s.me).zip s.edges).drop i).all (edgeB ps.length s.objs.length)) ?_ ?_ ?_ ?_ ?_
  · simp only [go_sem, I_eq, I_cells, Nat.reduceAdd, Nat.reduceBEq, Nat.reduceEqDiff, Nat.reduceLeDiff, Nat.reduceLT, Nat.reduceSub]
  · simp only [go_sem, I_eq, I_cells, Nat.reduceAdd, Nat.reduceBEq, Nat.reduceEqDiff, Nat.reduceLeDiff, Nat.reduceLT, Nat.reduceSub]
  · simp only [go_sem, I_eq, I_cells, encS_cells, treeV, Nat.reduceAdd, Nat.reduceBEq, Nat.reduceEqDiff, Nat.reduceLeDiff, Nat.reduceLT, Nat.reduceSub]
    ((repeat with_reducible apply Keeps.alloc); first | assumption | exact Keeps.refl _)
  · rintro i t hlt d2 hw g21 g20 ⟨g2, g3, g5, g19, k2, k3, hH, ha⟩
    rw [drop_cons (by omega), List.all_cons] at ha
    simp only [List.getElem_zip, edgeB] at ha
    have ho := hs.out _ (List.getElem_mem hlt)
    have hi : i < (nbr ps s.me).length := by omega
    repeat' first
      | (with_reducible refine CondX.dec (fun c => ?_) (fun c => ?_)) <;> try (exfalso; omega)
      | (with_reducible refine CondX.beq (fun c => ?_) (fun c => ?_)) <;> try (exfalso; omega)
      | (with_reducible refine CondX.bne (fun c => ?_) (fun c => ?_)) <;> try (exfalso; omega)
      | (with_reducible refine CondX.bool (fun c => ?_) (fun c => ?_)) <;> try (exfalso; omega)
      | ((with_reducible refine CallX.id ?_); first | refine CallX.pure (f84_spec s.edges[i]) ?_ | refine CallX.at (ContainsFunc_Msg_at (fun m => !meantB ps.length s.objs.length m) s.edges[i].out _ (by have := goodE_len c; omega) _ (by kernel_rfl) (fun m hm => edges1_spec ps s m _ _ _ (by simp only [go_sem, I_eq, I_cells, k2, Nat.reduceAdd, Nat.reduceBEq, Nat.reduceEqDiff, Nat.reduceLeDiff, Nat.reduceLT, Nat.reduceSub]) (by simp only [go_sem, I_eq, I_cells, k3, Nat.reduceAdd, Nat.reduceBEq, Nat.reduceEqDiff, Nat.reduceLeDiff, Nat.reduceLT, Nat.reduceSub]) (by simp) (by simp) (by omega))) ?_)
      | simp only [go_sem, I_eq, I_cells, d2, hw, g21, g20, g2, g3, g5, g19, k2, k3, encE_cells, encE, Nat.reduceAdd, Nat.reduceBEq, Nat.reduceEqDiff, Nat.reduceLeDiff, Nat.reduceLT, Nat.reduceSub]
      | simp (disch := omega) only [wrap_in, toNat_succ, toNat_pred, Int.toNat_natCast]
      | with_reducible refine And.intro (by omega) ?_
      | with_reducible refine exI (by omega) ?_
      | fail
    · exact ⟨by rw [he, ha, beq_eq_false_iff_ne.2 c]; rfl, by ((repeat with_reducible apply Keeps.alloc); first | assumption | exact Keeps.refl _)⟩
    · have cc : s.edges[i].out.all (meantB ps.length s.objs.length) = false := by rw [← any_not]; simpa using c
      exact ⟨by rw [he, ha, cc, Bool.and_false, Bool.false_and], by ((repeat with_reducible apply Keeps.alloc); first | assumption | exact Keeps.refl _)⟩
    · rename_i c1 c2
      have cc : s.edges[i].out.all (meantB ps.length s.objs.length) = true := by rw [← any_not]; simpa using c
      exact ⟨by ((repeat with_reducible apply Keeps.alloc); first | assumption | exact Keeps.refl _), by rw [ha, cc, beq_iff_eq.2 c1, c2]; rfl⟩
    · rename_i c1
      exact ⟨by rw [he, ha, c, Bool.and_false, Bool.false_and, Bool.false_and], by ((repeat with_reducible apply Keeps.alloc); first | assumption | exact Keeps.refl _)⟩
  · rintro t d2 g21 g20 ⟨g2, g3, g5, g19, k2, k3, hH, ha⟩
    simp only [go_sem, I_eq, I_cells, d2, g21, g20, Nat.reduceAdd, Nat.reduceBEq, Nat.reduceEqDiff, Nat.reduceLeDiff, Nat.reduceLT, Nat.reduceSub]
    rw [List.drop_eq_nil_of_le (by omega)] at ha
    exact ⟨by rw [he, ha]; rfl, hH⟩
def T53 : Nat → List Tg := fun id => if id = 1 then [.plain, .plain, .plain, .plain, .plain, .plain, .pure, .plain, .pure, .plain, .plain, .plain, .plain, .plain, .plain, .pure, .plain, .plain, .plain, .plain, .plain, .pure] else if id = 20 then [.plain, .plain, .plain, .plain, .plain, .plain, .pure, .plain, .plain, .plain, .plain, .plain, .plain, .pure, .plain, .plain, .plain, .plain, .plain, .plain, .pure, .plain, .pure] else []
theorem Good_nil (s : AV) (hc : s.cells.all AV.isCell = true) : PureF Try.prog 53 [.nilp, s] (.bool false) := by
  refine PureF.of_awp mixed T53 (fn := Try.f53) (by kernel_rfl) rfl (by kernel_rfl) (by show 2 ≤ _; decide) (by simp [AV.lf]) (fun h => ?_)
  repeat' first
    | (with_reducible refine CondX.dec (fun c => ?_) (fun c => ?_)) <;> try (exfalso; omega)
    | (with_reducible refine CondX.beq (fun c => ?_) (fun c => ?_)) <;> try (exfalso; omega)
    | (with_reducible refine CondX.bne (fun c => ?_) (fun c => ?_)) <;> try (exfalso; omega)
    | (with_reducible refine CondX.bool (fun c => ?_) (fun c => ?_)) <;> try (exfalso; omega)
    | simp only [go_sem, I_eq, I_cells, T53, hc, Nat.reduceAdd, Nat.reduceBEq, Nat.reduceEqDiff, Nat.reduceLeDiff, Nat.reduceLT, Nat.reduceSub]
    | simp (disch := omega) only [wrap_in, toNat_succ, toNat_pred, Int.toNat_natCast]
    | with_reducible refine And.intro (by omega) ?_
    | with_reducible refine exI (by omega) ?_
    | fail
  ((repeat with_reducible apply Keeps.alloc); first | assumption | exact Keeps.refl _)
theorem Good_spec (ps : List Int) (s : Nst) (hlen : ps.length < 2 ^ 29) (hs : Sized s) : PureF Try.prog 53 [treeV ps, encS s] (.bool (goodS ps s)) := by
  refine PureF.of_awp mixed T53 (fn := Try.f53) (by kernel_rfl) rfl (by kernel_rfl) (by show 2 ≤ _; decide) (by simp [AV.lf]) (fun h => ?_)
  obtain ⟨ho, he, hk, hg, hc, hu⟩ := id hs
  have hgs : goodS ps s = (withinB s.me 0 (ps.length - 1) && withinB s.objs.length 1 8 && withinB s.asked 0 1099511627776 && decide (s.asks.length ≤ 4) && decide (s.got.length ≤ 4) &&
    s.objs.all (ownB ps s.me) && asksB s.objs.length s.asked 0 s.asks && s.got.all (foundB ps.length s.objs.length s.asked) && edgesB ps s && decide (openS s.objs ≤ 8)) := rfl
  have hwn : IntKind.i64.wrap ((ps.length : Int) - 1) = (ps.length : Int) - 1 := IntWalk.i64_in _ (by omega)
  have hwk : IntKind.i64.wrap ((s.objs.length : Int) - 1) = (s.objs.length : Int) - 1 := IntWalk.i64_in _ (by omega)
  rw [awp_assoc]
  refine awp_cut (fun t => t.slots 0 = treeV ps ∧ t.slots 3 = .pt ⟨53, 3, h.cnt 53 3⟩ 0 0 0 ∧ t.hp.con ⟨53, 3, h.cnt 53 3⟩ = .blk (encS s).cells ∧ Keeps h t.hp ∧ (withinB s.me 0 (ps.length - 1) && withinB s.objs.length 1 8 && withinB s.asked 0 1099511627776 && decide (s.asks.length ≤ 4) && decide (s.got.length ≤ 4)) = true) ?_ ?_
  · repeat' first
      | (with_reducible refine CondX.dec (fun c => ?_) (fun c => ?_)) <;> try (exfalso; omega)
      | (with_reducible refine CondX.beq (fun c => ?_) (fun c => ?_)) <;> try (exfalso; omega)
      | (with_reducible refine CondX.bne (fun c => ?_) (fun c => ?_)) <;> try (exfalso; omega)
      | (with_reducible refine CondX.bool (fun c => ?_) (fun c => ?_)) <;> try (exfalso; omega)
      | ((with_reducible refine CallX.id ?_); first | refine CallX.pure (Size_spec ps) ?_ | refine CallX.pure (state_within_spec _ _ _) ?_)
      | ((with_reducible refine PureX.id ?_); first | refine PureX.of (Size_spec ps) ?_ | refine PureX.of (state_within_spec _ _ _) ?_)
      | simp only [go_sem, I_eq, I_cells, T53, hwn, encS, encS_cells, treeV, Nat.reduceAdd, Nat.reduceBEq, Nat.reduceEqDiff, Nat.reduceLeDiff, Nat.reduceLT, Nat.reduceSub]
      | simp (disch := omega) only [wrap_in, toNat_succ, toNat_pred, Int.toNat_natCast]
      | with_reducible refine And.intro (by omega) ?_
      | with_reducible refine exI (by omega) ?_
      | fail
    all_goals first
      | exact ⟨by rw [hgs]; simp [*]; try omega, by ((repeat with_reducible apply Keeps.alloc); first | assumption | exact Keeps.refl _)⟩
      | exact ⟨by ((repeat with_reducible apply Keeps.alloc); first | assumption | exact Keeps.refl _), by simp [*]; omega⟩
  rintro t ⟨g0, g3, gB, gH, hh⟩
  have ho8 : s.objs.length ≤ 8 := by simp [withinB] at hh; omega
  rw [hh, Bool.true_and] at hgs
  clear hh
  repeat' first
    | (with_reducible refine CondX.dec (fun c => ?_) (fun c => ?_)) <;> try (exfalso; omega)
    | (with_reducible refine CondX.beq (fun c => ?_) (fun c => ?_)) <;> try (exfalso; omega)
    | (with_reducible refine CondX.bne (fun c => ?_) (fun c => ?_)) <;> try (exfalso; omega)
    | (with_reducible refine CondX.bool (fun c => ?_) (fun c => ?_)) <;> try (exfalso; omega)
    | simp only [go_sem, I_eq, I_cells, T53, g0, g3, gB, encS_cells, Nat.reduceAdd, Nat.reduceBEq, Nat.reduceEqDiff, Nat.reduceLeDiff, Nat.reduceLT, Nat.reduceSub]
    | simp (disch := omega) only [wrap_in, toNat_succ, toNat_pred, Int.toNat_natCast]
    | with_reducible refine And.intro (by omega) ?_
    | with_reducible refine exI (by omega) ?_
    | fail
  refine awp_count 51 50 s.objs.length (by omega) (fun i t => t.slots 0 = treeV ps ∧ t.slots 3 = .pt ⟨53, 3, h.cnt 53 3⟩ 0 0 0 ∧ t.hp.con ⟨53, 3, h.cnt 53 3⟩ = .blk (encS s).cells ∧ Keeps h t.hp ∧ t.slots 49 = .l false 3 (s.objs.map encO) ∧ s.objs.all (ownB ps s.me) = (s.objs.drop i).all (ownB ps s.me)) ?_ ?_ ?_ ?_ ?_
  · simp only [go_sem, I_eq, I_cells, Nat.reduceAdd, Nat.reduceBEq, Nat.reduceEqDiff, Nat.reduceLeDiff, Nat.reduceLT, Nat.reduceSub]
  · simp only [go_sem, I_eq, I_cells, Nat.reduceAdd, Nat.reduceBEq, Nat.reduceEqDiff, Nat.reduceLeDiff, Nat.reduceLT, Nat.reduceSub]
  · simp only [go_sem, I_eq, I_cells, g0, g3, gB, encS_cells, Nat.reduceAdd, Nat.reduceBEq, Nat.reduceEqDiff, Nat.reduceLeDiff, Nat.reduceLT, Nat.reduceSub]
    exact gH
  · clear g0 g3 gB gH
    rintro i t hlt d2 hw g51 g50 ⟨g0, g3, gB, gH, g49, ha⟩
    rw [drop_cons hlt, List.all_cons] at ha
    repeat' first
      | (with_reducible refine CondX.dec (fun c => ?_) (fun c => ?_)) <;> try (exfalso; omega)
      | (with_reducible refine CondX.beq (fun c => ?_) (fun c => ?_)) <;> try (exfalso; omega)
      | (with_reducible refine CondX.bne (fun c => ?_) (fun c => ?_)) <;> try (exfalso; omega)
      | (with_reducible refine CondX.bool (fun c => ?_) (fun c => ?_)) <;> try (exfalso; omega)
      | ((with_reducible refine CallX.id ?_); first | refine CallX.pure (own_spec ps s.me s.objs[i] hlen (hc _ (List.getElem_mem hlt))) ?_)
      | simp only [go_sem, I_eq, I_cells, T53, d2, hw, g51, g50, g49, g0, g3, gB, encS_cells, encO_cells, Nat.reduceAdd, Nat.reduceBEq, Nat.reduceEqDiff, Nat.reduceLeDiff, Nat.reduceLT, Nat.reduceSub]
      | simp (disch := omega) only [wrap_in, toNat_succ, toNat_pred, Int.toNat_natCast]
      | with_reducible refine And.intro (by omega) ?_
      | with_reducible refine exI (by omega) ?_
      | fail
    · exact ⟨by ((repeat with_reducible apply Keeps.alloc); first | assumption | exact Keeps.refl _), by rw [ha, c, Bool.true_and]⟩
    · exact ⟨by rw [hgs, ha, c, Bool.false_and]; rfl, by ((repeat with_reducible apply Keeps.alloc); first | assumption | exact Keeps.refl _)⟩
  clear g0 g3 gB gH
  rintro t d2 g51 g50 ⟨g0, g3, gB, gH, g49, ha⟩
  rw [List.drop_length] at ha
  have hcl : ∀ o ∈ s.objs, o.cells.length ≤ 1099511627777 := by
    intro o hm
    have := List.all_eq_true.1 (ha.trans List.all_nil) o hm
    unfold ownB at this
    simp only [Bool.and_eq_true] at this
    exact goodC_len this.1.1.2
  rw [ha, List.all_nil, Bool.true_and] at hgs
  clear ha
  repeat' first
    | (with_reducible refine CondX.dec (fun c => ?_) (fun c => ?_)) <;> try (exfalso; omega)
    | (with_reducible refine CondX.beq (fun c => ?_) (fun c => ?_)) <;> try (exfalso; omega)
    | (with_reducible refine CondX.bne (fun c => ?_) (fun c => ?_)) <;> try (exfalso; omega)
    | (with_reducible refine CondX.bool (fun c => ?_) (fun c => ?_)) <;> try (exfalso; omega)
    | simp only [go_sem, I_eq, I_cells, T53, d2, g51, g50, g0, g3, gB, encS_cells, Nat.reduceAdd, Nat.reduceBEq, Nat.reduceEqDiff, Nat.reduceLeDiff, Nat.reduceLT, Nat.reduceSub]
    | simp (disch := omega) only [wrap_in, toNat_succ, toNat_pred, Int.toNat_natCast]
    | with_reducible refine And.intro (by omega) ?_
    | with_reducible refine exI (by omega) ?_
    | fail
  refine awp_count 65 64 s.asks.length (by omega) (fun i t => t.slots 0 = treeV ps ∧ t.slots 3 = .pt ⟨53, 3, h.cnt 53 3⟩ 0 0 0 ∧ t.hp.con ⟨53, 3, h.cnt 53 3⟩ = .blk (encS s).cells ∧ Keeps h t.hp ∧ t.slots 63 = .l false 2 (s.asks.map encA) ∧ ∃ last : Int, t.slots 7 = .int .i64 last ∧ asksB s.objs.length s.asked 0 s.asks = asksB s.objs.length s.asked last (s.asks.drop i)) ?_ ?_ ?_ ?_ ?_
  · simp only [go_sem, I_eq, I_cells, Nat.reduceAdd, Nat.reduceBEq, Nat.reduceEqDiff, Nat.reduceLeDiff, Nat.reduceLT, Nat.reduceSub]
  · simp only [go_sem, I_eq, I_cells, Nat.reduceAdd, Nat.reduceBEq, Nat.reduceEqDiff, Nat.reduceLeDiff, Nat.reduceLT, Nat.reduceSub]
  · simp only [go_sem, I_eq, I_cells, g0, g3, gB, encS_cells, Nat.reduceAdd, Nat.reduceBEq, Nat.reduceEqDiff, Nat.reduceLeDiff, Nat.reduceLT, Nat.reduceSub]
    exact ⟨gH, 0, rfl, rfl⟩
  · clear g0 g3 gB gH g51 g50
    rintro i t hlt d2 hw g65 g64 ⟨g0, g3, gB, gH, g63, last, g7, ha⟩
    rw [drop_cons hlt, asksB] at ha
    repeat' first
      | (with_reducible refine CondX.dec (fun c => ?_) (fun c => ?_)) <;> try (exfalso; omega)
      | (with_reducible refine CondX.beq (fun c => ?_) (fun c => ?_)) <;> try (exfalso; omega)
      | (with_reducible refine CondX.bne (fun c => ?_) (fun c => ?_)) <;> try (exfalso; omega)
      | (with_reducible refine CondX.bool (fun c => ?_) (fun c => ?_)) <;> try (exfalso; omega)
      | ((with_reducible refine CallX.id ?_); first | refine CallX.pure (state_within_spec _ _ _) ?_)
      | simp only [go_sem, I_eq, I_cells, T53, hwk, d2, hw, g65, g64, g63, g7, g0, g3, gB, encS_cells, encA_cells, Nat.reduceAdd, Nat.reduceBEq, Nat.reduceEqDiff, Nat.reduceLeDiff, Nat.reduceLT, Nat.reduceSub]
      | simp (disch := omega) only [wrap_in, toNat_succ, toNat_pred, Int.toNat_natCast]
      | with_reducible refine And.intro (by omega) ?_
      | with_reducible refine exI (by omega) ?_
      | fail
    · exact ⟨by rw [hgs, ha]; simp [*], by ((repeat with_reducible apply Keeps.alloc); first | assumption | exact Keeps.refl _)⟩
    · exact ⟨by rw [hgs, ha]; simp [*], by ((repeat with_reducible apply Keeps.alloc); first | assumption | exact Keeps.refl _)⟩
    · exact ⟨by ((repeat with_reducible apply Keeps.alloc); first | assumption | exact Keeps.refl _), _, rfl, by rw [ha]; simp [*]⟩
    · exact ⟨by rw [hgs, ha]; simp [*], by ((repeat with_reducible apply Keeps.alloc); first | assumption | exact Keeps.refl _)⟩
  clear g0 g3 gB gH g51 g50
  rintro t d2 g65 g64 ⟨g0, g3, gB, gH, g63, last, g7, ha⟩
  rw [List.drop_length, asksB] at ha
  rw [ha, Bool.true_and] at hgs
  clear ha
  repeat' first
    | (with_reducible refine CondX.dec (fun c => ?_) (fun c => ?_)) <;> try (exfalso; omega)
    | (with_reducible refine CondX.beq (fun c => ?_) (fun c => ?_)) <;> try (exfalso; omega)
    | (with_reducible refine CondX.bne (fun c => ?_) (fun c => ?_)) <;> try (exfalso; omega)
    | (with_reducible refine CondX.bool (fun c => ?_) (fun c => ?_)) <;> try (exfalso; omega)
    | simp only [go_sem, I_eq, I_cells, T53, d2, g65, g64, g0, g3, gB, encS_cells, Nat.reduceAdd, Nat.reduceBEq, Nat.reduceEqDiff, Nat.reduceLeDiff, Nat.reduceLT, Nat.reduceSub]
    | simp (disch := omega) only [wrap_in, toNat_succ, toNat_pred, Int.toNat_natCast]
    | with_reducible refine And.intro (by omega) ?_
    | with_reducible refine exI (by omega) ?_
    | fail
  refine awp_count 96 95 s.got.length (by omega) (fun i t => t.slots 0 = treeV ps ∧ t.slots 3 = .pt ⟨53, 3, h.cnt 53 3⟩ 0 0 0 ∧ t.hp.con ⟨53, 3, h.cnt 53 3⟩ = .blk (encS s).cells ∧ Keeps h t.hp ∧ t.slots 94 = .l false 3 (s.got.map encF) ∧ s.got.all (foundB ps.length s.objs.length s.asked) = (s.got.drop i).all (foundB ps.length s.objs.length s.asked)) ?_ ?_ ?_ ?_ ?_
  · simp only [go_sem, I_eq, I_cells, Nat.reduceAdd, Nat.reduceBEq, Nat.reduceEqDiff, Nat.reduceLeDiff, Nat.reduceLT, Nat.reduceSub]
  · simp only [go_sem, I_eq, I_cells, Nat.reduceAdd, Nat.reduceBEq, Nat.reduceEqDiff, Nat.reduceLeDiff, Nat.reduceLT, Nat.reduceSub]
  · simp only [go_sem, I_eq, I_cells, g0, g3, gB, encS_cells, Nat.reduceAdd, Nat.reduceBEq, Nat.reduceEqDiff, Nat.reduceLeDiff, Nat.reduceLT, Nat.reduceSub]
    exact gH
  · clear g0 g3 gB gH g65 g64
    rintro i t hlt d2 hw g96 g95 ⟨g0, g3, gB, gH, g94, ha⟩
    rw [drop_cons hlt, List.all_cons, foundB] at ha
    repeat' first
      | (with_reducible refine CondX.dec (fun c => ?_) (fun c => ?_)) <;> try (exfalso; omega)
      | (with_reducible refine CondX.beq (fun c => ?_) (fun c => ?_)) <;> try (exfalso; omega)
      | (with_reducible refine CondX.bne (fun c => ?_) (fun c => ?_)) <;> try (exfalso; omega)
      | (with_reducible refine CondX.bool (fun c => ?_) (fun c => ?_)) <;> try (exfalso; omega)
      | ((with_reducible refine CallX.id ?_); first | refine CallX.pure (state_within_spec _ _ _) ?_ | refine CallX.pure (Size_spec ps) ?_)
      | ((with_reducible refine PureX.id ?_); first | refine PureX.of (state_within_spec _ _ _) ?_ | refine PureX.of (Size_spec ps) ?_)
      | simp only [go_sem, I_eq, I_cells, T53, hwk, hwn, d2, hw, g96, g95, g94, g0, g3, gB, encS_cells, encF_cells, Nat.reduceAdd, Nat.reduceBEq, Nat.reduceEqDiff, Nat.reduceLeDiff, Nat.reduceLT, Nat.reduceSub]
      | simp (disch := omega) only [wrap_in, toNat_succ, toNat_pred, Int.toNat_natCast]
      | with_reducible refine And.intro (by omega) ?_
      | with_reducible refine exI (by omega) ?_
      | fail
    all_goals first
      | exact ⟨by rw [hgs, ha]; simp [*], by ((repeat with_reducible apply Keeps.alloc); first | assumption | exact Keeps.refl _)⟩
      | exact ⟨by ((repeat with_reducible apply Keeps.alloc); first | assumption | exact Keeps.refl _), by rw [ha]; simp [*]⟩
  clear g0 g3 gB gH g65 g64
  rintro t d2 g96 g95 ⟨g0, g3, gB, gH, g94, ha⟩
  rw [List.drop_length] at ha
  rw [ha, List.all_nil, Bool.true_and] at hgs
  repeat' first
    | (with_reducible refine CondX.dec (fun c => ?_) (fun c => ?_)) <;> try (exfalso; omega)
    | (with_reducible refine CondX.beq (fun c => ?_) (fun c => ?_)) <;> try (exfalso; omega)
    | (with_reducible refine CondX.bne (fun c => ?_) (fun c => ?_)) <;> try (exfalso; omega)
    | (with_reducible refine CondX.bool (fun c => ?_) (fun c => ?_)) <;> try (exfalso; omega)
    | ((with_reducible refine CallX.id ?_); first | refine CallX.pure (edges_spec ps s hlen hs) ?_ | refine CallX.pure (Open_spec s ho8 hcl) ?_)
    | simp only [go_sem, I_eq, I_cells, T53, d2, g96, g95, g0, g3, gB, encS_cells, Nat.reduceAdd, Nat.reduceBEq, Nat.reduceEqDiff, Nat.reduceLeDiff, Nat.reduceLT, Nat.reduceSub]
    | simp (disch := omega) only [wrap_in, toNat_succ, toNat_pred, Int.toNat_natCast]
    | with_reducible refine And.intro (by omega) ?_
    | with_reducible refine exI (by omega) ?_
    | fail
  · refine ⟨?_, gH⟩
    rw [hgs, c, Bool.true_and]
    congr 1; rw [Bool.eq_iff_iff]; simp; omega
  · exact ⟨by rw [hgs, c]; rfl, gH⟩
end Go.Proofs.Ytmajndgdfmnchaa
