/- Part of a proof: what functions of the given program compute, and plain laws of it. -/
import Derived.Test.YtmajndgdfmnchaaZ14
import Derived.Test.YtmajndgdfmnchaaZ15
/- look.Count. -/
namespace Go.Gh
def cntM (kind obj : Int) (ms : List Msg) : Nat := ms.countP fun m => m.kind == kind && m.obj == obj
def bothL (ps : List Int) (ss : List Nst) (p : Int × Int) : List Msg := leftL ps ss p.1 p.2 ++ leftL ps ss p.2 p.1
def countL (ps : List Int) (ss : List Nst) (kind obj : Int) : List (Int × Int) → Nat
  | [] => 0
  | p :: r => cntM kind obj (bothL ps ss p) + countL ps ss kind obj r
end Go.Gh
namespace Go.Proofs.Ytmajndgdfmnchaa
open Go Go.T Go.Gh Go.Proofs
set_option linter.unusedSimpArgs false
set_option linter.unusedVariables false
set_option maxRecDepth 10000
set_option maxHeartbeats 4000000
theorem rowM_cells (ms : List Msg) : (rowM ms).cells = [rowM ms] := by simp [rowM, AV.cells]
theorem rowM_cell (ms : List Msg) : (rowM ms).isCell = true := by simp [rowM, AV.isCell]
theorem Concat2 (a b : List Msg) (ha : a.length ≤ 1024) (hb : b.length ≤ 1024) : PureF Try.prog 61 [.l true 1 [rowM a, rowM b]] (rowM (a ++ b)) := by
  have h := Concat_spec [a, b] true (by simp [sumL]; omega) (by simp)
  simpa using h
def T33 : Nat → List Tg := fun id => if id = 5 then [.plain, .plain, .plain, .plain, .pure, .plain, .plain, .plain, .plain, .pure, .plain, .pure] else []
theorem Count_spec (ps : List Int) (ss : List Nst) (ex : Bool) (kind obj : Int) (hok : TreeOk ps) (hs : ∀ s ∈ ss, Sized s) (hb : ∀ u v, (leftL ps ss u v).length ≤ 1024) (hc : countL ps ss kind obj (edgesL ps) < 2 ^ 40) : PureF Try.prog 33 [treeV ps, .l ex 6 (ss.map encS), .int .i64 kind, .int .i64 obj] (.int .i64 (countL ps ss kind obj (edgesL ps))) := by
  refine PureF.of_awp mixed T33 (fn := Try.f33) (by kernel_rfl) rfl (by kernel_rfl) (by show 4 ≤ _; decide) (by simp [AV.lf]) (fun h => ?_)
  have hps := hok.len
  obtain ⟨tot, htot⟩ : ∃ x, countL ps ss kind obj (edgesL ps) = x := ⟨_, rfl⟩
  rw [htot] at hc ⊢
  rw [awp_assoc]
  refine awp_cut (fun s => s.slots 4 = .pt ⟨33, 4, h.cnt 33 4⟩ 0 0 0 ∧ s.slots 5 = .pt ⟨33, 5, h.cnt 33 5⟩ 0 0 0 ∧ s.slots 6 = .pt ⟨33, 6, h.cnt 33 6⟩ 0 0 0 ∧ s.slots 7 = .pt ⟨33, 7, h.cnt 33 7⟩ 0 0 0 ∧ s.slots 9 = .pt ⟨33, 9, h.cnt 33 9⟩ 0 0 0 ∧ s.hp.con ⟨33, 4, h.cnt 33 4⟩ = .blk [treeV ps] ∧ s.hp.con ⟨33, 5, h.cnt 33 5⟩ = .blk [.l ex 6 (ss.map encS)] ∧ s.hp.con ⟨33, 6, h.cnt 33 6⟩ = .blk [.int .i64 kind] ∧ s.hp.con ⟨33, 7, h.cnt 33 7⟩ = .blk [.int .i64 obj] ∧ s.hp.con ⟨33, 9, h.cnt 33 9⟩ = .blk [.int .i64 0] ∧ Keeps h s.hp) ?_ ?_
  · repeat' first
      | (with_reducible refine CondX.dec (fun c => ?_) (fun c => ?_)) <;> try (exfalso; omega)
      | (with_reducible refine CondX.beq (fun c => ?_) (fun c => ?_)) <;> try (exfalso; omega)
      | (with_reducible refine CondX.bne (fun c => ?_) (fun c => ?_)) <;> try (exfalso; omega)
      | (with_reducible refine CondX.bool (fun c => ?_) (fun c => ?_)) <;> try (exfalso; omega)
      | ((with_reducible refine CallX.id ?_); first | refine CallX.pure (Edges_spec ps) ?_)
      | simp only [go_sem, I_eq, I_cells, T33, Nat.reduceAdd, Nat.reduceBEq, Nat.reduceEqDiff, Nat.reduceLeDiff, Nat.reduceLT, Nat.reduceSub]
      | simp (disch := omega) only [wrap_in, toNat_succ, toNat_pred, Int.toNat_natCast]
      | with_reducible refine And.intro (by omega) ?_
      | with_reducible refine exI (by omega) ?_
      | fail
    ((repeat first | with_reducible apply Keeps.alloc | (with_reducible refine Keeps.set ?_ ?hL _; case hL => first | assumption | exact Hp.ok _ _ (by simp) | exact Keeps.new (by assumption) _ _)); first | assumption | exact Keeps.refl _)
  rintro s ⟨p4, p5, p6, p7, p9, k4, k5, k6, k7, k9, gK⟩
  rw [← awp_assoc]
  refine awp_cut (fun s => s.slots 4 = .pt ⟨33, 4, h.cnt 33 4⟩ 0 0 0 ∧ s.slots 5 = .pt ⟨33, 5, h.cnt 33 5⟩ 0 0 0 ∧ s.slots 6 = .pt ⟨33, 6, h.cnt 33 6⟩ 0 0 0 ∧ s.slots 7 = .pt ⟨33, 7, h.cnt 33 7⟩ 0 0 0 ∧ s.slots 9 = .pt ⟨33, 9, h.cnt 33 9⟩ 0 0 0 ∧ s.slots 15 = .fn (.func 94) [.ip [treeV ps]] ∧ s.hp.con ⟨33, 4, h.cnt 33 4⟩ = .blk [treeV ps] ∧ s.hp.con ⟨33, 5, h.cnt 33 5⟩ = .blk [.l ex 6 (ss.map encS)] ∧ s.hp.con ⟨33, 6, h.cnt 33 6⟩ = .blk [.int .i64 kind] ∧ s.hp.con ⟨33, 7, h.cnt 33 7⟩ = .blk [.int .i64 obj] ∧ s.hp.con ⟨33, 9, h.cnt 33 9⟩ = .blk [.int .i64 0] ∧ Keeps h s.hp) ?_ ?_
  · repeat' first
      | (with_reducible refine CondX.dec (fun c => ?_) (fun c => ?_)) <;> try (exfalso; omega)
      | (with_reducible refine CondX.beq (fun c => ?_) (fun c => ?_)) <;> try (exfalso; omega)
      | (with_reducible refine CondX.bne (fun c => ?_) (fun c => ?_)) <;> try (exfalso; omega)
      | (with_reducible refine CondX.bool (fun c => ?_) (fun c => ?_)) <;> try (exfalso; omega)
      | ((with_reducible refine CallX.id ?_); first | refine CallX.pure (Edges_spec ps) ?_)
      | simp only [go_sem, I_eq, I_cells, T33, p4, p5, p6, p7, p9, k4, k5, k6, k7, k9, Nat.reduceAdd, Nat.reduceBEq, Nat.reduceEqDiff, Nat.reduceLeDiff, Nat.reduceLT, Nat.reduceSub]
      | simp (disch := omega) only [wrap_in, toNat_succ, toNat_pred, Int.toNat_natCast]
      | with_reducible refine And.intro (by omega) ?_
      | with_reducible refine exI (by omega) ?_
      | fail
    exact gK
  clear p4 p5 p6 p7 p9 k4 k5 k6 k7 k9 gK
  rintro t ⟨p4, p5, p6, p7, p9, g15, k4, k5, k6, k7, k9, gK⟩
  repeat' first
    | (with_reducible refine CondX.dec (fun c => ?_) (fun c => ?_)) <;> try (exfalso; omega)
    | (with_reducible refine CondX.beq (fun c => ?_) (fun c => ?_)) <;> try (exfalso; omega)
    | (with_reducible refine CondX.bne (fun c => ?_) (fun c => ?_)) <;> try (exfalso; omega)
    | (with_reducible refine CondX.bool (fun c => ?_) (fun c => ?_)) <;> try (exfalso; omega)
    | simp only [go_sem, I_eq, I_cells, T33, g15, Nat.reduceAdd, Nat.reduceBEq, Nat.reduceEqDiff, Nat.reduceLeDiff, Nat.reduceLT, Nat.reduceSub]
    | simp (disch := omega) only [wrap_in, toNat_succ, toNat_pred, Int.toNat_natCast]
    | with_reducible refine And.intro (by omega) ?_
    | with_reducible refine exI (by omega) ?_
    | fail
  refine iter_rule (fid := 33) (ps := [16, 17]) (T := T33) mixed (Edges_iter ps (by omega)) (by decide) rfl (of_decide_eq_true (by kernel_rfl)) (by kernel_rfl) (by kernel_rfl) (fun x hx => by obtain ⟨y, _, rfl⟩ := List.mem_map.1 hx; rfl)
    (fun j q => ∃ n : Nat, q.con ⟨33, 9, h.cnt 33 9⟩ = .blk [.int .i64 n] ∧ q.con ⟨33, 4, h.cnt 33 4⟩ = .blk [treeV ps] ∧ q.con ⟨33, 5, h.cnt 33 5⟩ = .blk [.l ex 6 (ss.map encS)] ∧ q.con ⟨33, 6, h.cnt 33 6⟩ = .blk [.int .i64 kind] ∧ q.con ⟨33, 7, h.cnt 33 7⟩ = .blk [.int .i64 obj] ∧ Keeps h q ∧ n + countL ps ss kind obj ((edgesL ps).drop j) = tot) (fun _ _ => False) ?_ (fun _ _ _ hf => hf.elim) ?_ ?_ ?_ (fun _ _ _ hf => hf.elim) _
  · rintro j q q' ⟨n, k9, k4, k5, k6, k7, gk, hd⟩ hs
    have e := fun (a b : Nat) (ha : a < 1000000) => hs ⟨33, a, b⟩ (.inr ⟨by simp, nlp ha⟩)
    exact ⟨n, by rw [e _ _ (by decide), k9], by rw [e _ _ (by decide), k4], by rw [e _ _ (by decide), k5], by rw [e _ _ (by decide), k6], by rw [e _ _ (by decide), k7], hs.keeps gK gk, hd⟩
  · exact ⟨0, k9, k4, k5, k6, k7, gK, by rw [List.drop_zero, htot]; omega⟩
  · clear k4 k5 k6 k7 k9
    rintro j hj q ⟨n, k9, k4, k5, k6, k7, gk, hd⟩
    rw [List.length_map] at hj
    rw [drop_cons hj, countL] at hd
    rw [List.getElem_map]
    repeat' first
      | (with_reducible refine CondX.dec (fun c => ?_) (fun c => ?_)) <;> try (exfalso; omega)
      | (with_reducible refine CondX.beq (fun c => ?_) (fun c => ?_)) <;> try (exfalso; omega)
      | (with_reducible refine CondX.bne (fun c => ?_) (fun c => ?_)) <;> try (exfalso; omega)
      | (with_reducible refine CondX.bool (fun c => ?_) (fun c => ?_)) <;> try (exfalso; omega)
      | ((with_reducible refine CallX.id ?_); first | refine CallX.pure (Left_spec ps ss ex _ _ hok hs) ?_ | refine CallX.pure (Concat2 _ _ (hb _ _) (hb _ _)) ?_)
      | ((with_reducible refine PureX.id ?_); first | refine PureX.of (Left_spec ps ss ex _ _ hok hs) ?_ | refine PureX.of (Concat2 _ _ (hb _ _) (hb _ _)) ?_)
      | simp only [go_sem, I_eq, I_cells, T33, p4, p5, p6, p7, p9, k4, k5, k6, k7, k9, edgeV, rowM_cells, rowM_cell, Nat.reduceAdd, Nat.reduceBEq, Nat.reduceEqDiff, Nat.reduceLeDiff, Nat.reduceLT, Nat.reduceSub]
      | simp (disch := omega) only [wrap_in, toNat_succ, toNat_pred, Int.toNat_natCast]
      | with_reducible refine And.intro (by omega) ?_
      | with_reducible refine exI (by omega) ?_
      | fail
    obtain ⟨ms, hms⟩ : ∃ ms, leftL ps ss (edgesL ps)[j].1 (edgesL ps)[j].2 ++ leftL ps ss (edgesL ps)[j].2 (edgesL ps)[j].1 = ms := ⟨_, rfl⟩
    have hml : ms.length ≤ 2048 := by rw [← hms, List.length_append]; have := hb (edgesL ps)[j].1 (edgesL ps)[j].2; have := hb (edgesL ps)[j].2 (edgesL ps)[j].1; omega
    unfold bothL at hd
    rw [hms] at hd ⊢
    obtain ⟨R, hR⟩ : ∃ R, countL ps ss kind obj ((edgesL ps).drop (j + 1)) = R := ⟨_, rfl⟩
    rw [hR] at hd
    repeat' first
      | (with_reducible refine CondX.dec (fun c => ?_) (fun c => ?_)) <;> try (exfalso; omega)
      | (with_reducible refine CondX.beq (fun c => ?_) (fun c => ?_)) <;> try (exfalso; omega)
      | (with_reducible refine CondX.bne (fun c => ?_) (fun c => ?_)) <;> try (exfalso; omega)
      | (with_reducible refine CondX.bool (fun c => ?_) (fun c => ?_)) <;> try (exfalso; omega)
      | simp only [go_sem, I_eq, I_cells, T33, rowM, p4, p5, p6, p7, p9, Nat.reduceAdd, Nat.reduceBEq, Nat.reduceEqDiff, Nat.reduceLeDiff, Nat.reduceLT, Nat.reduceSub]
      | simp (disch := omega) only [wrap_in, toNat_succ, toNat_pred, Int.toNat_natCast]
      | with_reducible refine And.intro (by omega) ?_
      | with_reducible refine exI (by omega) ?_
      | fail
    refine awp_count 31 30 ms.length (by omega) (fun i t => t.slots 6 = .pt ⟨33, 6, h.cnt 33 6⟩ 0 0 0 ∧ t.slots 7 = .pt ⟨33, 7, h.cnt 33 7⟩ 0 0 0 ∧ t.slots 9 = .pt ⟨33, 9, h.cnt 33 9⟩ 0 0 0 ∧ t.slots 29 = .l false 5 (ms.map encM) ∧ KeepsF [] q t.hp ∧ Keeps h t.hp ∧ ∃ n : Nat, t.hp.con ⟨33, 9, h.cnt 33 9⟩ = .blk [.int .i64 n] ∧ t.hp.con ⟨33, 4, h.cnt 33 4⟩ = .blk [treeV ps] ∧ t.hp.con ⟨33, 5, h.cnt 33 5⟩ = .blk [.l ex 6 (ss.map encS)] ∧ t.hp.con ⟨33, 6, h.cnt 33 6⟩ = .blk [.int .i64 kind] ∧ t.hp.con ⟨33, 7, h.cnt 33 7⟩ = .blk [.int .i64 obj] ∧ n + (Gh.cntM kind obj (ms.drop i) + R) = tot) ?_ ?_ ?_ ?_ ?_
    · simp only [go_sem, I_eq, I_cells, Nat.reduceAdd, Nat.reduceBEq, Nat.reduceEqDiff, Nat.reduceLeDiff, Nat.reduceLT, Nat.reduceSub]
    · simp only [go_sem, I_eq, I_cells, Nat.reduceAdd, Nat.reduceBEq, Nat.reduceEqDiff, Nat.reduceLeDiff, Nat.reduceLT, Nat.reduceSub]
    · simp only [go_sem, I_eq, I_cells, p6, p7, p9, Nat.reduceAdd, Nat.reduceBEq, Nat.reduceEqDiff, Nat.reduceLeDiff, Nat.reduceLT, Nat.reduceSub]
      exact ⟨KeepsF.refl _ _, gk, n, k9, k4, k5, k6, k7, hd⟩
    · clear p4 p5 p6 p7 p9 k4 k5 k6 k7 k9 hd gk
      rintro i t hlt d2 hw g31 g30 ⟨p6, p7, p9, g29, kF, gk, n, k9, k4, k5, k6, k7, hd⟩
      rw [drop_cons hlt, Gh.cntM, List.countP_cons] at hd
      have hw2 : n + 1 ≤ tot → IntKind.i64.wrap ((n : Int) + 1) = ((n + 1 : Nat) : Int) := fun hh => by rw [IntWalk.i64_in _ (by omega)]; omega
      repeat' first
        | (with_reducible refine CondX.dec (fun c => ?_) (fun c => ?_)) <;> try (exfalso; omega)
        | (with_reducible refine CondX.beq (fun c => ?_) (fun c => ?_)) <;> try (exfalso; omega)
        | (with_reducible refine CondX.bne (fun c => ?_) (fun c => ?_)) <;> try (exfalso; omega)
        | (with_reducible refine CondX.bool (fun c => ?_) (fun c => ?_)) <;> try (exfalso; omega)
        | simp only [go_sem, I_eq, I_cells, T33, p6, p7, p9, g29, k4, k5, k6, k7, k9, g30, g31, d2, hw, encM, encM_cells, Nat.reduceAdd, Nat.reduceBEq, Nat.reduceEqDiff, Nat.reduceLeDiff, Nat.reduceLT, Nat.reduceSub]
        | simp (disch := omega) only [wrap_in, toNat_succ, toNat_pred, Int.toNat_natCast]
        | with_reducible refine And.intro (by omega) ?_
        | with_reducible refine exI (by omega) ?_
        | fail
      · rw [if_pos (by simp only [*, beq_self_eq_true, Bool.and_self])] at hd
        exact ⟨(kF.alloc _ _ _).set (by simp) _, by ((repeat first | with_reducible apply Keeps.alloc | (with_reducible refine Keeps.set ?_ ?hL _; case hL => first | assumption | exact Hp.ok _ _ (by simp) | exact Keeps.new (by assumption) _ _)); first | assumption | exact Keeps.refl _), n + 1, by simp, by unfold Gh.cntM; omega⟩
      · rw [if_neg (by simp only [Bool.and_eq_true, beq_iff_eq]; rintro ⟨-, c2⟩; exact c c2)] at hd
        exact ⟨kF.alloc _ _ _, by ((repeat first | with_reducible apply Keeps.alloc | (with_reducible refine Keeps.set ?_ ?hL _; case hL => first | assumption | exact Hp.ok _ _ (by simp) | exact Keeps.new (by assumption) _ _)); first | assumption | exact Keeps.refl _), n, rfl, by unfold Gh.cntM; omega⟩
      · rw [if_neg (by simp only [Bool.and_eq_true, beq_iff_eq]; rintro ⟨c2, -⟩; exact c c2)] at hd
        exact ⟨kF.alloc _ _ _, by ((repeat first | with_reducible apply Keeps.alloc | (with_reducible refine Keeps.set ?_ ?hL _; case hL => first | assumption | exact Hp.ok _ _ (by simp) | exact Keeps.new (by assumption) _ _)); first | assumption | exact Keeps.refl _), n, rfl, by unfold Gh.cntM; omega⟩
    · clear p4 p5 p6 p7 p9 k4 k5 k6 k7 k9 hd gk
      rintro t d2 g31 g30 ⟨p6, p7, p9, g29, kF, gk, n, k9, k4, k5, k6, k7, hd⟩
      rw [List.drop_length] at hd
      repeat' first
        | (with_reducible refine CondX.dec (fun c => ?_) (fun c => ?_)) <;> try (exfalso; omega)
        | (with_reducible refine CondX.beq (fun c => ?_) (fun c => ?_)) <;> try (exfalso; omega)
        | (with_reducible refine CondX.bne (fun c => ?_) (fun c => ?_)) <;> try (exfalso; omega)
        | (with_reducible refine CondX.bool (fun c => ?_) (fun c => ?_)) <;> try (exfalso; omega)
        | simp only [go_sem, I_eq, I_cells, T33, g30, g31, d2, Nat.reduceAdd, Nat.reduceBEq, Nat.reduceEqDiff, Nat.reduceLeDiff, Nat.reduceLT, Nat.reduceSub]
        | simp (disch := omega) only [wrap_in, toNat_succ, toNat_pred, Int.toNat_natCast]
        | with_reducible refine And.intro (by omega) ?_
        | with_reducible refine exI (by omega) ?_
        | fail
      exact ⟨n, k9, k4, k5, k6, k7, gk, by rw [hR]; simpa [Gh.cntM] using hd⟩
  · clear k4 k5 k6 k7 k9
    rintro q ⟨n, k9, k4, k5, k6, k7, gk, hd⟩
    rw [List.length_map, List.drop_length, countL] at hd
    repeat' first
      | (with_reducible refine CondX.dec (fun c => ?_) (fun c => ?_)) <;> try (exfalso; omega)
      | (with_reducible refine CondX.beq (fun c => ?_) (fun c => ?_)) <;> try (exfalso; omega)
      | (with_reducible refine CondX.bne (fun c => ?_) (fun c => ?_)) <;> try (exfalso; omega)
      | (with_reducible refine CondX.bool (fun c => ?_) (fun c => ?_)) <;> try (exfalso; omega)
      | simp only [go_sem, I_eq, I_cells, T33, p9, k9, Nat.reduceAdd, Nat.reduceBEq, Nat.reduceEqDiff, Nat.reduceLeDiff, Nat.reduceLT, Nat.reduceSub]
      | simp (disch := omega) only [wrap_in, toNat_succ, toNat_pred, Int.toNat_natCast]
      | with_reducible refine And.intro (by omega) ?_
      | with_reducible refine exI (by omega) ?_
      | fail
    exact ⟨by rw [← hd]; simp, gk⟩
end Go.Proofs.Ytmajndgdfmnchaa
/- look.Law: the states don't fit. -/
namespace Go.Proofs.Ytmajndgdfmnchaa
open Go Go.T Go.Gh Go.Proofs
set_option linter.unusedSimpArgs false
set_option linter.unusedVariables false
set_option maxRecDepth 10000
set_option maxHeartbeats 4000000
def T28 : Nat → List Tg := fun id => if id = 1 then [.plain, .plain, .pure] else if id = 29 then [.plain, .plain, .plain, .plain, .pure, .plain, .plain, .plain, .plain, .pure, .plain, .pure] else []
theorem Law_unfit (ps : List Int) (ss : List Nst) (ex : Bool) (obj : Int) (hps : 0 < ps.length ∧ ps.length < 2 ^ 29) (hs : ∀ s ∈ ss, Sized s) (hf : fitB ps ss = false) : PureF Try.prog 28 [treeV ps, .l ex 6 (ss.map encS), .int .i64 obj] (.int .i64 1) := by
  refine PureF.of_awp mixed T28 (fn := Try.f28) (by kernel_rfl) rfl (by kernel_rfl) (by show 3 ≤ _; decide) (by simp [AV.lf]) (fun h => ?_)
  rw [awp_assoc]
  refine awp_cut (fun _ => False) ?_ (fun s hs => hs.elim)
  repeat' first
    | (with_reducible refine CondX.dec (fun c => ?_) (fun c => ?_)) <;> try (exfalso; omega)
    | (with_reducible refine CondX.beq (fun c => ?_) (fun c => ?_)) <;> try (exfalso; omega)
    | (with_reducible refine CondX.bne (fun c => ?_) (fun c => ?_)) <;> try (exfalso; omega)
    | (with_reducible refine CondX.bool (fun c => ?_) (fun c => ?_)) <;> try (exfalso; omega)
    | ((with_reducible refine CallX.id ?_); first | refine CallX.pure (Fit_spec ps ss ex hps hs) ?_)
    | ((with_reducible refine PureX.id ?_); first | refine PureX.of (Fit_spec ps ss ex hps hs) ?_)
    | simp only [go_sem, I_eq, I_cells, T28, hf, Nat.reduceAdd, Nat.reduceBEq, Nat.reduceEqDiff, Nat.reduceLeDiff, Nat.reduceLT, Nat.reduceSub]
    | simp (disch := omega) only [wrap_in, toNat_succ, toNat_pred, Int.toNat_natCast]
    | with_reducible refine And.intro (by omega) ?_
    | with_reducible refine exI (by omega) ?_
    | fail
  all_goals ((repeat first | with_reducible apply Keeps.alloc | (with_reducible refine Keeps.set ?_ ?hL _; case hL => first | assumption | exact Hp.ok _ _ (by simp) | exact Keeps.new (by assumption) _ _)); first | assumption | exact Keeps.refl _)
theorem Law_out (ps : List Int) (ss : List Nst) (ex : Bool) (obj : Int) (hps : 0 < ps.length ∧ ps.length < 2 ^ 29) (hs : ∀ s ∈ ss, Sized s) (hf : fitB ps ss = true) (hp : 0 < ss.length) (hk : objN ss ≤ 8) (ho : ¬ (0 ≤ obj ∧ obj < objN ss)) : PureF Try.prog 28 [treeV ps, .l ex 6 (ss.map encS), .int .i64 obj] (.int .i64 1) := by
  have h0 := objN_eq hp
  refine PureF.of_awp mixed T28 (fn := Try.f28) (by kernel_rfl) rfl (by kernel_rfl) (by show 3 ≤ _; decide) (by simp [AV.lf]) (fun h => ?_)
  rw [awp_assoc]
  refine awp_cut (fun _ => False) ?_ (fun s hs => hs.elim)
  repeat' first
    | (with_reducible refine CondX.dec (fun c => ?_) (fun c => ?_)) <;> try (exfalso; omega)
    | (with_reducible refine CondX.beq (fun c => ?_) (fun c => ?_)) <;> try (exfalso; omega)
    | (with_reducible refine CondX.bne (fun c => ?_) (fun c => ?_)) <;> try (exfalso; omega)
    | (with_reducible refine CondX.bool (fun c => ?_) (fun c => ?_)) <;> try (exfalso; omega)
    | ((with_reducible refine CallX.id ?_); first | refine CallX.pure (Fit_spec ps ss ex hps hs) ?_)
    | ((with_reducible refine PureX.id ?_); first | refine PureX.of (Fit_spec ps ss ex hps hs) ?_)
    | simp only [go_sem, I_eq, I_cells, T28, hf, encS_cells, Nat.reduceAdd, Nat.reduceBEq, Nat.reduceEqDiff, Nat.reduceLeDiff, Nat.reduceLT, Nat.reduceSub]
    | simp (disch := omega) only [wrap_in, toNat_succ, toNat_pred, Int.toNat_natCast]
    | with_reducible refine And.intro (by omega) ?_
    | with_reducible refine exI (by omega) ?_
    | fail
  all_goals first | ((repeat first | with_reducible apply Keeps.alloc | (with_reducible refine Keeps.set ?_ ?hL _; case hL => first | assumption | exact Hp.ok _ _ (by simp) | exact Keeps.new (by assumption) _ _)); first | assumption | exact Keeps.refl _) | (exfalso; omega)
end Go.Proofs.Ytmajndgdfmnchaa
/- Plain: sums over a tree's edges; what the laws of an object count. -/
namespace Go.Gh
set_option linter.unusedSimpArgs false
def sumT (f : Nat → Nat) : Nat → Nat
  | 0 => 0
  | n + 1 => sumT f n + f n
theorem sumT_congr {f g : Nat → Nat} : ∀ {n : Nat}, (∀ i, i < n → f i = g i) → sumT f n = sumT g n := by
  intro n
  induction n with
  | zero => intro _; rfl
  | succ n ih => intro h; simp only [sumT]; rw [ih fun i hi => h i (by omega), h n (by omega)]
theorem sumT_add (f g : Nat → Nat) : ∀ n, sumT (fun i => f i + g i) n = sumT f n + sumT g n := by
  intro n
  induction n with
  | zero => rfl
  | succ n ih => simp only [sumT, ih]; omega
theorem sumT_zero : ∀ n, sumT (fun _ => 0) n = 0 := by
  intro n
  induction n with
  | zero => rfl
  | succ n ih => simp only [sumT, ih]
theorem sumT_swap (f : Nat → Nat → Nat) (m : Nat) : ∀ n, sumT (fun u => sumT (fun v => f u v) m) n = sumT (fun v => sumT (fun u => f u v) n) m := by
  intro n
  induction n with
  | zero => simp only [sumT]; exact (sumT_zero m).symm
  | succ n ih => simp only [sumT]; rw [ih, ← sumT_add]
theorem sumT_le {f : Nat → Nat} {b : Nat} : ∀ {n : Nat}, (∀ i, i < n → f i ≤ b) → sumT f n ≤ n * b := by
  intro n
  induction n with
  | zero => intro _; simp [sumT]
  | succ n ih => intro h; have h1 := ih fun i hi => h i (by omega); have h2 := h n (by omega); simp only [sumT, Nat.add_mul]; omega
def sumE (f : Int → Int → Nat) : List (Int × Int) → Nat
  | [] => 0
  | p :: r => f p.1 p.2 + f p.2 p.1 + sumE f r
theorem sumE_append (f : Int → Int → Nat) : ∀ l r, sumE f (l ++ r) = sumE f l + sumE f r := by
  intro l r
  induction l with
  | nil => simp [sumE]
  | cons p l ih => simp only [List.cons_append, sumE, ih]; omega
def rowE (u : Nat) (l : List Int) : List (Int × Int) := (l.filter fun v => decide ((u : Int) < v)).map (fun v => ((u : Int), v))
theorem edgesFrom_snoc (x : List Int) : ∀ (l : List (List Int)) (k : Nat), edgesFrom k (l ++ [x]) = edgesFrom k l ++ rowE (k + l.length) x := by
  intro l
  induction l with
  | nil => intro k; simp [edgesFrom, rowE]
  | cons y l ih =>
    intro k
    rw [List.cons_append, edgesFrom_cons, edgesFrom_cons, ih, List.append_assoc, List.length_cons]
    rw [show k + 1 + l.length = k + (l.length + 1) by omega]
theorem sumE_rows (f : Int → Int → Nat) (g : Nat → List Int) : ∀ n, sumE f (edgesFrom 0 ((List.range n).map g)) = sumT (fun u => sumE f (rowE u (g u))) n := by
  intro n
  induction n with
  | zero => simp [edgesFrom, sumE, sumT]
  | succ n ih => rw [List.range_succ, List.map_append, List.map_singleton, edgesFrom_snoc, sumE_append, ih, sumT]; simp
theorem sumE_row (f : Int → Int → Nat) (u : Nat) (p : Nat → Bool) : ∀ n, sumE f (rowE u (((List.range n).filter p).map fun v : Nat => (v : Int))) = sumT (fun v => if p v && decide (u < v) then f u v + f v u else 0) n := by
  intro n
  induction n with
  | zero => simp [rowE, sumE, sumT]
  | succ n ih =>
    rw [List.range_succ, List.filter_append, List.map_append, sumT, ← ih]
    unfold rowE
    rw [List.filter_append, List.map_append, sumE_append]
    congr 1
    by_cases hp : p n = true
    · by_cases hu : u < n
      · have : (u : Int) < n := by omega
        simp [hp, hu, sumE, this]
      · have : ¬ (u : Int) < n := by omega
        simp [hp, hu, sumE, this]
    · simp [hp, sumE]
theorem edgesL_eq {ps : List Int} (h : TreeOk ps) : edgesL ps = edgesFrom 0 ((List.range ps.length).map fun v : Nat => refN ps v ps.length) := by
  unfold edgesL nears
  congr 1
  apply List.map_congr_left
  intro v hv
  rw [List.mem_range] at hv
  have := nbr_eq h v
  unfold nbr refNbr at this
  have hn : hasN ps v = true := by simp [hasN, hv]
  rwa [if_pos hn, if_pos hn, Int.toNat_natCast] at this
theorem nearB_comm (ps : List Int) (u v : Int) : nearB ps u v = nearB ps v u := by
  unfold nearB; rw [Bool.or_comm]
theorem nearB_self {ps : List Int} (h : TreeOk ps) {u : Nat} (hu : u < ps.length) : nearB ps u u = false := by
  have := (h.in hu).2.2
  unfold nearB
  simp [hu]
  omega
/-- What is summed over the edges, both ways, is what is summed over all pairs. -/
theorem sum_edges {ps : List Int} (h : TreeOk ps) (f : Int → Int → Nat) (h0 : ∀ u v : Nat, u < ps.length → v < ps.length → nearB ps u v = false → f u v = 0) :
    sumE f (edgesL ps) = sumT (fun u => sumT (fun v => f u v) ps.length) ps.length := by
  rw [edgesL_eq h, sumE_rows]
  have e1 : ∀ u, u < ps.length → sumE f (rowE u (refN ps u ps.length)) = sumT (fun v => if u < v then f u v else 0) ps.length + sumT (fun v => if u < v then f v u else 0) ps.length := by
    intro u hu
    rw [← sumT_add]
    unfold refN
    rw [sumE_row]
    apply sumT_congr
    intro v hv
    by_cases huv : u < v
    · cases hn : nearB ps v u
      · rw [h0 v u hv hu hn, h0 u v hu hv (by rw [nearB_comm, hn])]; simp
      · simp [huv]
    · simp [huv]
  rw [sumT_congr e1, sumT_add, sumT_swap (fun u v => if u < v then f v u else 0), ← sumT_add]
  apply sumT_congr
  intro u hu
  rw [← sumT_add]
  apply sumT_congr
  intro v hv
  rcases Nat.lt_trichotomy u v with h1 | h1 | h1
  · rw [if_pos h1, if_neg (by omega)]; omega
  · subst h1
    rw [if_neg (by omega), h0 u u hu hu (nearB_self h hu)]
  · rw [if_neg (by omega), if_pos h1]; omega
theorem mem_rowE {u : Nat} {l : List Int} {p : Int × Int} : p ∈ rowE u l ↔ p.1 = u ∧ p.2 ∈ l ∧ (u : Int) < p.2 := by
  unfold rowE
  simp only [List.mem_map, List.mem_filter, decide_eq_true_eq]
  constructor
  · rintro ⟨v, ⟨h1, h2⟩, rfl⟩; exact ⟨rfl, h1, h2⟩
  · rintro ⟨h1, h2, h3⟩; exact ⟨p.2, ⟨h2, h3⟩, by rw [← h1]⟩
theorem mem_edgesFrom {g : Nat → List Int} {p : Int × Int} : ∀ {n : Nat}, p ∈ edgesFrom 0 ((List.range n).map g) ↔ ∃ u, u < n ∧ p ∈ rowE u (g u) := by
  intro n
  induction n with
  | zero => simp [edgesFrom]
  | succ n ih =>
    rw [List.range_succ, List.map_append, List.map_singleton, edgesFrom_snoc, List.mem_append, ih]
    simp only [List.length_map, List.length_range, Nat.zero_add]
    constructor
    · rintro (⟨u, h1, h2⟩ | h)
      · exact ⟨u, by omega, h2⟩
      · exact ⟨n, by omega, h⟩
    · rintro ⟨u, h1, h2⟩
      by_cases hu : u = n
      · subst hu; exact .inr h2
      · exact .inl ⟨u, by omega, h2⟩
theorem mem_edgesL {ps : List Int} (h : TreeOk ps) {p : Int × Int} : p ∈ edgesL ps ↔ ∃ u v : Nat, u < v ∧ v < ps.length ∧ nearB ps u v = true ∧ p = ((u : Int), (v : Int)) := by
  rw [edgesL_eq h, mem_edgesFrom]
  constructor
  · rintro ⟨u, hu, hp⟩
    rw [mem_rowE, mem_refN] at hp
    obtain ⟨h1, ⟨v, h2, h3, h4⟩, h5⟩ := hp
    exact ⟨u, v, by omega, h2, by rw [nearB_comm]; exact h3, Prod.ext h1 h4⟩
  · rintro ⟨u, v, h1, h2, h3, rfl⟩
    exact ⟨u, by omega, mem_rowE.2 ⟨rfl, mem_refN.2 ⟨v, h2, by rw [nearB_comm]; exact h3, rfl⟩, by simp; omega⟩⟩
theorem edgesL_len {ps : List Int} (h : TreeOk ps) : (edgesL ps).length ≤ 1024 := by
  have h1 := sum_edges h (fun u v => if nearB ps u v && decide (u < v) then 1 else 0) (fun u v _ _ hn => by simp [hn])
  have h2 : ∀ l : List (Int × Int), (∀ p ∈ l, p ∈ edgesL ps) → l.length ≤ sumE (fun u v => if nearB ps u v && decide (u < v) then 1 else 0) l := by
    intro l
    induction l with
    | nil => intro _; simp
    | cons p r ih =>
      intro hl
      have h3 := ih fun x hx => hl x (List.mem_cons_of_mem _ hx)
      obtain ⟨u, v, h4, h5, h6, rfl⟩ := (mem_edgesL h).1 (hl p List.mem_cons_self)
      have : (u : Int) < v := by omega
      simp only [sumE, List.length_cons]
      rw [if_pos (by simp [h6, this])]
      omega
  have h3 := h2 _ (fun p hp => hp)
  have h4 : sumT (fun u => sumT (fun v => if nearB ps u v && decide ((u : Int) < v) then 1 else 0) ps.length) ps.length ≤ ps.length * (ps.length * 1) := sumT_le fun i _ => sumT_le fun j _ => by split <;> omega
  have h5 := h.len
  have h6 : ps.length * (ps.length * 1) ≤ 32 * (32 * 1) := Nat.mul_le_mul h5.2 (Nat.mul_le_mul h5.2 (Nat.le_refl _))
  omega
/- What the laws of an object count. -/
def ownO (obj : Int) (s : Nst) : Own := s.objs.getD obj.toNat ⟨0, 0, []⟩
def placeC (cs : List Cel) : Nat := cs.countP fun c => c.state != 1
def placeS (obj : Int) : List Nst → Nat
  | [] => 0
  | s :: r => placeC (ownO obj s).cells + placeS obj r
def sinkS (obj : Int) : Nat → List Nst → Nat
  | _, [] => 0
  | i, s :: r => (if (ownO obj s).arrow = i then 1 else 0) + sinkS obj (i + 1) r
def toldC (q : Int × Int) (cs : List Cel) : Nat := cs.countP fun c => decide (0 ≤ c.node) && (c.node == q.1 && c.next == q.2)
def toldS (obj : Int) (q : Int × Int) : List Nst → Nat
  | [] => 0
  | s :: r => toldC q (ownO obj s).cells + toldS obj q r
def toldM (obj : Int) (q : Int × Int) (ms : List Msg) : Nat := ms.countP fun m => m.obj == obj && (m.kind == 1 || m.kind == 2) && (m.node == q.1 && m.num == q.2)
def overL (obj : Int) (ss : List Nst) (u v : Int) (ms : List Msg) : Nat :=
  (if (ownO obj (at0 ss u)).arrow = v then 1 else 0) + (if (ownO obj (at0 ss v)).arrow = u then 1 else 0) + cntM 1 obj ms
def overB (ps : List Int) (ss : List Nst) (obj : Int) (p : Int × Int) : Bool := overL obj ss p.1 p.2 (bothL ps ss p) == 1
def heirC (T : Int × Int → Nat) (i : Nat) (cs : List Cel) : Bool := cs.all fun c => !(c.state == 1) || T ((i : Int), c.num) == 1
def heirB (T : Int × Int → Nat) (obj : Int) : Nat → List Nst → Bool
  | _, [] => true
  | i, s :: r => heirC T i (ownO obj s).cells && heirB T obj (i + 1) r
def lawOf (places : Nat) (edges : Bool) (sinks finds : Nat) (heirs : Bool) : Int :=
  if places ≠ 1 then 2 else if edges = false then 3 else if sinks ≠ 1 + finds then 4 else if heirs = false then 5 else 0
theorem cntM_append (k obj : Int) (a b : List Msg) : cntM k obj (a ++ b) = cntM k obj a + cntM k obj b := by unfold cntM; rw [List.countP_append]
theorem toldM_append (obj : Int) (q : Int × Int) (a b : List Msg) : toldM obj q (a ++ b) = toldM obj q a + toldM obj q b := by unfold toldM; rw [List.countP_append]
theorem countL_sumE (ps : List Int) (ss : List Nst) (kind obj : Int) : ∀ l, countL ps ss kind obj l = sumE (fun u v => cntM kind obj (leftL ps ss u v)) l := by
  intro l
  induction l with
  | nil => rfl
  | cons p r ih => simp only [countL, sumE, bothL, cntM_append, ih]
def toldE (ps : List Int) (ss : List Nst) (obj : Int) (q : Int × Int) : List (Int × Int) → Nat
  | [] => 0
  | p :: r => toldM obj q (bothL ps ss p) + toldE ps ss obj q r
theorem toldE_sumE (ps : List Int) (ss : List Nst) (obj : Int) (q : Int × Int) : ∀ l, toldE ps ss obj q l = sumE (fun u v => toldM obj q (leftL ps ss u v)) l := by
  intro l
  induction l with
  | nil => rfl
  | cons p r ih => simp only [toldE, sumE, bothL, toldM_append, ih]
def lawL (ps : List Int) (ss : List Nst) (obj : Int) : Int :=
  if fitB ps ss && decide (0 ≤ obj) && decide (obj < objN ss) then
    lawOf (placeS obj ss + countL ps ss 2 obj (edgesL ps)) ((edgesL ps).all (overB ps ss obj)) (sinkS obj 0 ss) (countL ps ss 1 obj (edgesL ps)) (heirB (fun q => toldS obj q ss + toldE ps ss obj q (edgesL ps)) obj 0 ss)
  else 1
end Go.Gh
