/- How heavy states are; whether notes are the same. -/
import Derived.Test.YtmajndgdfmnchaaZTP
namespace Go.Gh
def outsH : Int → List Sid → Option Int
  | n, [] => some n
  | n, e :: r => if IntKind.i64.wrap (n + e.out.length) > 4096 then none else outsH (IntKind.i64.wrap (n + e.out.length)) r
def celsH : Int → List Own → Option Int
  | n, [] => some n
  | n, o :: r => if IntKind.i64.wrap (n + o.cells.length) > 4096 then none else celsH (IntKind.i64.wrap (n + o.cells.length)) r
def heavyL : Int → List Nst → Bool
  | n, [] => decide (n > 4096)
  | n, s :: r => match outsH (IntKind.i64.wrap (n + IntKind.i64.wrap (IntKind.i64.wrap (IntKind.i64.wrap (s.objs.length + s.edges.length) + s.asks.length) + s.got.length))) s.edges with
    | none => true
    | some m => match celsH m s.objs with
      | none => true
      | some k => if k > 4096 then true else heavyL k r
end Go.Gh
namespace Go.Proofs.Ytmajndgdfmnchaa
open Go Go.T Go.Gh Go.Proofs
set_option linter.unusedSimpArgs false
set_option maxRecDepth 10000
set_option maxHeartbeats 4000000
theorem heavy_spec (ss : List Nst) (e : Bool) (hlen : ss.length ≤ 9223372036854775807) (hs : ∀ s ∈ ss, Sized s) : PureF Try.prog 20 [.l e 6 (ss.map encS)] (.bool (heavyL ss.length ss)) := by
  refine PureF.of_awp mixed (fun _ => []) (fn := Try.f20) (by kernel_rfl) rfl (by kernel_rfl) (by show 1 ≤ _; decide) (by simp [AV.lf]) (fun h => ?_)
  repeat' first
    | (with_reducible refine CondX.dec (fun c => ?_) (fun c => ?_)) <;> try (exfalso; omega)
    | (with_reducible refine CondX.beq (fun c => ?_) (fun c => ?_)) <;> try (exfalso; omega)
    | (with_reducible refine CondX.bne (fun c => ?_) (fun c => ?_)) <;> try (exfalso; omega)
    | (with_reducible refine CondX.bool (fun c => ?_) (fun c => ?_)) <;> try (exfalso; omega)
    | simp only [go_sem, I_eq, I_cells, Nat.reduceAdd, Nat.reduceBEq, Nat.reduceEqDiff, Nat.reduceLeDiff, Nat.reduceLT, Nat.reduceSub]
    | simp (disch := omega) only [wrap_in, toNat_succ, toNat_pred, Int.toNat_natCast]
    | with_reducible refine And.intro (by omega) ?_
    | with_reducible refine exI (by omega) ?_
    | fail
  refine awp_count 14 13 ss.length (by omega) (fun i t => ∃ n : Int, t.slots 3 = .int .i64 n ∧ t.slots 12 = .l e 6 (ss.map encS) ∧ Keeps h t.hp ∧ heavyL ss.length ss = heavyL n (ss.drop i)) ?_ ?_ ?_ ?_ ?_
  · simp only [go_sem, I_eq, I_cells, Nat.reduceAdd, Nat.reduceBEq, Nat.reduceEqDiff, Nat.reduceLeDiff, Nat.reduceLT, Nat.reduceSub]
  · simp only [go_sem, I_eq, I_cells, Nat.reduceAdd, Nat.reduceBEq, Nat.reduceEqDiff, Nat.reduceLeDiff, Nat.reduceLT, Nat.reduceSub]
  · simp only [go_sem, I_eq, I_cells, Nat.reduceAdd, Nat.reduceBEq, Nat.reduceEqDiff, Nat.reduceLeDiff, Nat.reduceLT, Nat.reduceSub]
    exact ⟨_, rfl, Keeps.refl h, rfl⟩
  · rintro i t hlt d2 hw g14 g13 ⟨n, g3, g12, gH, ha⟩
    obtain ⟨so, se, sa, sg, sc, su⟩ := hs _ (List.getElem_mem hlt)
    rw [drop_cons hlt, heavyL] at ha
    obtain ⟨n1, hn1⟩ : ∃ n1, IntKind.i64.wrap (n + IntKind.i64.wrap (IntKind.i64.wrap (IntKind.i64.wrap (ss[i].objs.length + ss[i].edges.length) + ss[i].asks.length) + ss[i].got.length)) = n1 := ⟨_, rfl⟩
    rw [hn1] at ha
    repeat' first
      | (with_reducible refine CondX.dec (fun c => ?_) (fun c => ?_)) <;> try (exfalso; omega)
      | (with_reducible refine CondX.beq (fun c => ?_) (fun c => ?_)) <;> try (exfalso; omega)
      | (with_reducible refine CondX.bne (fun c => ?_) (fun c => ?_)) <;> try (exfalso; omega)
      | (with_reducible refine CondX.bool (fun c => ?_) (fun c => ?_)) <;> try (exfalso; omega)
      | simp only [go_sem, I_eq, I_cells, g3, g12, g13, g14, d2, hw, hn1, encS_cells, Nat.reduceAdd, Nat.reduceBEq, Nat.reduceEqDiff, Nat.reduceLeDiff, Nat.reduceLT, Nat.reduceSub]
      | simp (disch := omega) only [wrap_in, toNat_succ, toNat_pred, Int.toNat_natCast]
      | with_reducible refine And.intro (by omega) ?_
      | with_reducible refine exI (by omega) ?_
      | fail
    refine awp_count 38 37 ss[i].edges.length (by omega) (fun j t => ∃ m : Int, t.slots 3 = .int .i64 m ∧ t.slots 12 = .l e 6 (ss.map encS) ∧ t.slots 13 = .int .i64 ss.length ∧ t.slots 14 = .int .i64 i ∧ (∃ L, t.slots 5 = .pt L 0 0 0 ∧ t.hp.con L = .blk (encS ss[i]).cells) ∧ t.slots 36 = .l false 4 (ss[i].edges.map encE) ∧ Keeps h t.hp ∧ outsH n1 ss[i].edges = outsH m (ss[i].edges.drop j)) ?_ ?_ ?_ ?_ ?_
    · simp only [go_sem, I_eq, I_cells, Nat.reduceAdd, Nat.reduceBEq, Nat.reduceEqDiff, Nat.reduceLeDiff, Nat.reduceLT, Nat.reduceSub]
    · simp only [go_sem, I_eq, I_cells, Nat.reduceAdd, Nat.reduceBEq, Nat.reduceEqDiff, Nat.reduceLeDiff, Nat.reduceLT, Nat.reduceSub]
    · simp only [go_sem, I_eq, I_cells, g12, g13, g14, encS_cells, Nat.reduceAdd, Nat.reduceBEq, Nat.reduceEqDiff, Nat.reduceLeDiff, Nat.reduceLT, Nat.reduceSub]
      exact ⟨n1, rfl, ⟨_, rfl, by simp only [go_sem, I_eq, I_cells, encS_cells, Nat.reduceAdd, Nat.reduceBEq, Nat.reduceEqDiff, Nat.reduceLeDiff, Nat.reduceLT, Nat.reduceSub]⟩, by ((repeat first | with_reducible apply Keeps.alloc | (with_reducible refine Keeps.set ?_ ?hL _; case hL => first | assumption | exact Hp.ok _ _ (by simp) | exact Keeps.new (by assumption) _ _)); first | assumption | exact Keeps.refl _), rfl⟩
    · clear g3 g12 g13 g14 gH
      rintro j t hlj d3 hw2 g38 g37 ⟨m, g3, g12, g13, g14, ⟨L, g5, hL⟩, g36, gH, hb⟩
      rw [drop_cons hlj, outsH] at hb
      have nL : (L = ⟨20, 7, t.hp.cnt 20 7⟩) = False := by
        simp only [eq_iff_iff, iff_false]; rintro rfl; rw [t.hp.ok _ (by simp)] at hL; cases hL
      obtain ⟨m1, hm1⟩ : ∃ m1, IntKind.i64.wrap (m + ss[i].edges[j].out.length) = m1 := ⟨_, rfl⟩
      rw [hm1] at hb
      repeat' first
        | (with_reducible refine CondX.dec (fun c => ?_) (fun c => ?_)) <;> try (exfalso; omega)
        | (with_reducible refine CondX.beq (fun c => ?_) (fun c => ?_)) <;> try (exfalso; omega)
        | (with_reducible refine CondX.bne (fun c => ?_) (fun c => ?_)) <;> try (exfalso; omega)
        | (with_reducible refine CondX.bool (fun c => ?_) (fun c => ?_)) <;> try (exfalso; omega)
        | simp only [go_sem, I_eq, I_cells, g3, g12, g13, g14, g5, hL, nL, g36, g37, g38, d3, hw2, hm1, encE_cells, Nat.reduceAdd, Nat.reduceBEq, Nat.reduceEqDiff, Nat.reduceLeDiff, Nat.reduceLT, Nat.reduceSub]
        | simp (disch := omega) only [wrap_in, toNat_succ, toNat_pred, Int.toNat_natCast]
        | with_reducible refine And.intro (by omega) ?_
        | with_reducible refine exI (by omega) ?_
        | fail
      · exact ⟨by rw [ha, hb, if_pos c], by ((repeat first | with_reducible apply Keeps.alloc | (with_reducible refine Keeps.set ?_ ?hL _; case hL => first | assumption | exact Hp.ok _ _ (by simp) | exact Keeps.new (by assumption) _ _)); first | assumption | exact Keeps.refl _)⟩
      · exact ⟨m1, rfl, ⟨_, rfl, by simp only [go_sem, I_eq, I_cells, nL, hL, Nat.reduceAdd, Nat.reduceBEq, Nat.reduceEqDiff, Nat.reduceLeDiff, Nat.reduceLT, Nat.reduceSub]⟩, by ((repeat first | with_reducible apply Keeps.alloc | (with_reducible refine Keeps.set ?_ ?hL _; case hL => first | assumption | exact Hp.ok _ _ (by simp) | exact Keeps.new (by assumption) _ _)); first | assumption | exact Keeps.refl _), by rw [hb, if_neg c]⟩
    · clear g3 g12 g13 g14 gH
      rintro t d3 g38 g37 ⟨m, g3, g12, g13, g14, ⟨L, g5, hL⟩, g36, gH, hb⟩
      rw [List.drop_length, outsH] at hb
      rw [hb] at ha
      simp only at ha
      repeat' first
        | (with_reducible refine CondX.dec (fun c => ?_) (fun c => ?_)) <;> try (exfalso; omega)
        | (with_reducible refine CondX.beq (fun c => ?_) (fun c => ?_)) <;> try (exfalso; omega)
        | (with_reducible refine CondX.bne (fun c => ?_) (fun c => ?_)) <;> try (exfalso; omega)
        | (with_reducible refine CondX.bool (fun c => ?_) (fun c => ?_)) <;> try (exfalso; omega)
        | simp only [go_sem, I_eq, I_cells, g3, g12, g13, g14, g5, hL, g36, g37, g38, d3, encS_cells, Nat.reduceAdd, Nat.reduceBEq, Nat.reduceEqDiff, Nat.reduceLeDiff, Nat.reduceLT, Nat.reduceSub]
        | simp (disch := omega) only [wrap_in, toNat_succ, toNat_pred, Int.toNat_natCast]
        | with_reducible refine And.intro (by omega) ?_
        | with_reducible refine exI (by omega) ?_
        | fail
      refine awp_count 53 52 ss[i].objs.length (by omega) (fun j t => ∃ q : Int, t.slots 3 = .int .i64 q ∧ t.slots 12 = .l e 6 (ss.map encS) ∧ t.slots 13 = .int .i64 ss.length ∧ t.slots 14 = .int .i64 i ∧ t.slots 51 = .l false 3 (ss[i].objs.map encO) ∧ Keeps h t.hp ∧ celsH m ss[i].objs = celsH q (ss[i].objs.drop j)) ?_ ?_ ?_ ?_ ?_
      · simp only [go_sem, I_eq, I_cells, Nat.reduceAdd, Nat.reduceBEq, Nat.reduceEqDiff, Nat.reduceLeDiff, Nat.reduceLT, Nat.reduceSub]
      · simp only [go_sem, I_eq, I_cells, Nat.reduceAdd, Nat.reduceBEq, Nat.reduceEqDiff, Nat.reduceLeDiff, Nat.reduceLT, Nat.reduceSub]
      · simp only [go_sem, I_eq, I_cells, g12, g13, g14, g3, Nat.reduceAdd, Nat.reduceBEq, Nat.reduceEqDiff, Nat.reduceLeDiff, Nat.reduceLT, Nat.reduceSub]
        exact ⟨m, rfl, gH, rfl⟩
      · clear g3 g12 g13 g14 gH g5 hL
        rintro j t hlj d4 hw2 g53 g52 ⟨q, g3, g12, g13, g14, g51, gH, hc⟩
        rw [drop_cons hlj, celsH] at hc
        obtain ⟨q1, hq1⟩ : ∃ q1, IntKind.i64.wrap (q + ss[i].objs[j].cells.length) = q1 := ⟨_, rfl⟩
        rw [hq1] at hc
        repeat' first
          | (with_reducible refine CondX.dec (fun c => ?_) (fun c => ?_)) <;> try (exfalso; omega)
          | (with_reducible refine CondX.beq (fun c => ?_) (fun c => ?_)) <;> try (exfalso; omega)
          | (with_reducible refine CondX.bne (fun c => ?_) (fun c => ?_)) <;> try (exfalso; omega)
          | (with_reducible refine CondX.bool (fun c => ?_) (fun c => ?_)) <;> try (exfalso; omega)
          | simp only [go_sem, I_eq, I_cells, g3, g12, g13, g14, g51, g52, g53, d4, hw2, hq1, encO_cells, Nat.reduceAdd, Nat.reduceBEq, Nat.reduceEqDiff, Nat.reduceLeDiff, Nat.reduceLT, Nat.reduceSub]
          | simp (disch := omega) only [wrap_in, toNat_succ, toNat_pred, Int.toNat_natCast]
          | with_reducible refine And.intro (by omega) ?_
          | with_reducible refine exI (by omega) ?_
          | fail
        · exact ⟨by rw [ha, hc, if_pos c], by ((repeat first | with_reducible apply Keeps.alloc | (with_reducible refine Keeps.set ?_ ?hL _; case hL => first | assumption | exact Hp.ok _ _ (by simp) | exact Keeps.new (by assumption) _ _)); first | assumption | exact Keeps.refl _)⟩
        · exact ⟨q1, rfl, by ((repeat first | with_reducible apply Keeps.alloc | (with_reducible refine Keeps.set ?_ ?hL _; case hL => first | assumption | exact Hp.ok _ _ (by simp) | exact Keeps.new (by assumption) _ _)); first | assumption | exact Keeps.refl _), by rw [hc, if_neg c]⟩
      · clear g3 g12 g13 g14 gH g5 hL
        rintro t d4 g53 g52 ⟨q, g3, g12, g13, g14, g51, gH, hc⟩
        rw [List.drop_length, celsH] at hc
        rw [hc] at ha
        simp only at ha
        repeat' first
          | (with_reducible refine CondX.dec (fun c => ?_) (fun c => ?_)) <;> try (exfalso; omega)
          | (with_reducible refine CondX.beq (fun c => ?_) (fun c => ?_)) <;> try (exfalso; omega)
          | (with_reducible refine CondX.bne (fun c => ?_) (fun c => ?_)) <;> try (exfalso; omega)
          | (with_reducible refine CondX.bool (fun c => ?_) (fun c => ?_)) <;> try (exfalso; omega)
          | simp only [go_sem, I_eq, I_cells, g3, g12, g13, g14, g51, g52, g53, d4, hw, Nat.reduceAdd, Nat.reduceBEq, Nat.reduceEqDiff, Nat.reduceLeDiff, Nat.reduceLT, Nat.reduceSub]
          | simp (disch := omega) only [wrap_in, toNat_succ, toNat_pred, Int.toNat_natCast]
          | with_reducible refine And.intro (by omega) ?_
          | with_reducible refine exI (by omega) ?_
          | fail
        · exact ⟨by rw [ha, if_pos c], gH⟩
        · exact ⟨q, rfl, gH, by rw [ha, if_neg c]⟩
  · rintro t d2 g14 g13 ⟨n, g3, g12, gH, ha⟩
    rw [List.drop_length] at ha
    simp only [go_sem, I_eq, I_cells, g3, g12, g13, g14, d2, Nat.reduceAdd, Nat.reduceBEq, Nat.reduceEqDiff, Nat.reduceLeDiff, Nat.reduceLT, Nat.reduceSub]
    exact ⟨by rw [ha]; rfl, gH⟩
end Go.Proofs.Ytmajndgdfmnchaa
