/- What a step pushed; how heavy states are. -/
import Derived.Test.YtmajndgdfmnchaaZTO
namespace Go.Gh
def pushE (old obj : Int) (e : Sid) : Option (Int × Int) := match e.out[(old - e.base).toNat]? with
  | some m => if m.kind = 2 ∧ m.obj = obj then some (m.node, m.num) else none
  | none => none
def pushL (obj : Int) : List Sid → List Sid → Option (Int × Int)
  | b :: bs, e :: es => match pushE (b.base + b.out.length) obj e with
    | some p => some p
    | none => pushL obj bs es
  | _, _ => none
structure SidB (e : Sid) : Prop where
  base : 0 ≤ e.base ∧ e.base ≤ 1099511627776
  out : e.out.length ≤ 1024
theorem pushE_some {old obj : Int} {e : Sid} {j : Nat} (hj : j < e.out.length) (h : (old - e.base).toNat = j) : pushE old obj e = if e.out[j].kind = 2 ∧ e.out[j].obj = obj then some (e.out[j].node, e.out[j].num) else none := by
  unfold pushE; rw [h, List.getElem?_eq_getElem hj]
theorem pushE_none {old obj : Int} {e : Sid} (h : e.out.length ≤ (old - e.base).toNat) : pushE old obj e = none := by
  unfold pushE; rw [List.getElem?_eq_none h]
end Go.Gh
namespace Go.Proofs.Ytmajndgdfmnchaa
open Go Go.T Go.Gh Go.Proofs
set_option linter.unusedSimpArgs false
set_option maxRecDepth 10000
set_option maxHeartbeats 4000000
def pushV (o : Option (Int × Int)) : AV := .tup [.agg [.int .i64 (o.getD (0, 0)).1, .int .i64 (o.getD (0, 0)).2], .bool o.isSome]
theorem pushed_spec (b a : Nst) (obj : Int) (hb : ∀ e ∈ b.edges, SidB e) (ha : ∀ e ∈ a.edges, SidB e) (hl : a.edges.length ≤ b.edges.length) (hl2 : a.edges.length < 2 ^ 60) :
    PureF Try.prog 74 [encS b, encS a, .int .i64 obj] (pushV (pushL obj b.edges a.edges)) := by
  refine PureF.of_awp mixed (fun _ => []) (fn := Try.f74) (by kernel_rfl) rfl (by kernel_rfl) (by show 3 ≤ _; decide) (by simp [AV.lf, AV.lfs, pushV]) (fun h => ?_)
  repeat' first
    | (with_reducible refine CondX.dec (fun c => ?_) (fun c => ?_)) <;> try (exfalso; omega)
    | (with_reducible refine CondX.beq (fun c => ?_) (fun c => ?_)) <;> try (exfalso; omega)
    | (with_reducible refine CondX.bne (fun c => ?_) (fun c => ?_)) <;> try (exfalso; omega)
    | (with_reducible refine CondX.bool (fun c => ?_) (fun c => ?_)) <;> try (exfalso; omega)
    | simp only [go_sem, I_eq, I_cells, encS, encS_cells, Nat.reduceAdd, Nat.reduceBEq, Nat.reduceEqDiff, Nat.reduceLeDiff, Nat.reduceLT, Nat.reduceSub]
    | simp (disch := omega) only [wrap_in, toNat_succ, toNat_pred, Int.toNat_natCast]
    | with_reducible refine And.intro (by omega) ?_
    | with_reducible refine exI (by omega) ?_
    | fail
  refine awp_count 16 15 a.edges.length (by omega) (fun i t => t.slots 2 = .int .i64 obj ∧ t.slots 3 = .pt ⟨74, 3, h.cnt 74 3⟩ 0 0 0 ∧ t.slots 4 = .pt ⟨74, 4, h.cnt 74 4⟩ 0 0 0 ∧ t.slots 6 = .pt ⟨74, 6, h.cnt 74 6⟩ 0 0 0 ∧ t.hp.con ⟨74, 3, h.cnt 74 3⟩ = .blk (encS b).cells ∧ t.hp.con ⟨74, 4, h.cnt 74 4⟩ = .blk (encS a).cells ∧ t.hp.con ⟨74, 6, h.cnt 74 6⟩ = .blk [.int .i64 0, .int .i64 0] ∧ Keeps h t.hp ∧ t.slots 14 = .l false 4 (a.edges.map encE) ∧ pushL obj b.edges a.edges = pushL obj (b.edges.drop i) (a.edges.drop i)) ?_ ?_ ?_ ?_ ?_
  · simp only [go_sem, I_eq, I_cells, Nat.reduceAdd, Nat.reduceBEq, Nat.reduceEqDiff, Nat.reduceLeDiff, Nat.reduceLT, Nat.reduceSub]
  · simp only [go_sem, I_eq, I_cells, Nat.reduceAdd, Nat.reduceBEq, Nat.reduceEqDiff, Nat.reduceLeDiff, Nat.reduceLT, Nat.reduceSub]
  · simp only [go_sem, I_eq, I_cells, encS_cells, encS, Nat.reduceAdd, Nat.reduceBEq, Nat.reduceEqDiff, Nat.reduceLeDiff, Nat.reduceLT, Nat.reduceSub]
    ((repeat first | with_reducible apply Keeps.alloc | (with_reducible refine Keeps.set ?_ ?hL _; case hL => first | assumption | exact Hp.ok _ _ (by simp) | exact Keeps.new (by assumption) _ _)); first | assumption | exact Keeps.refl _)
  · rintro i t hlt d2 hw g16 g15 ⟨g2, g3, g4, g6, k3, k4, k6, gH, g14, hq⟩
    have hib : i < b.edges.length := by omega
    obtain ⟨⟨a1, a2⟩, a3⟩ := ha _ (List.getElem_mem hlt)
    obtain ⟨⟨b1, b2⟩, b3⟩ := hb _ (List.getElem_mem hib)
    rw [drop_cons hlt, drop_cons hib, pushL] at hq
    obtain ⟨old, ho⟩ : ∃ o : Int, b.edges[i].base + b.edges[i].out.length = o := ⟨_, rfl⟩
    have hwo : IntKind.i64.wrap (b.edges[i].base + b.edges[i].out.length) = old := by rw [IntWalk.i64_in _ (by omega), ho]
    rw [ho] at hq
    repeat' first
      | (with_reducible refine CondX.dec (fun c => ?_) (fun c => ?_)) <;> try (exfalso; omega)
      | (with_reducible refine CondX.beq (fun c => ?_) (fun c => ?_)) <;> try (exfalso; omega)
      | (with_reducible refine CondX.bne (fun c => ?_) (fun c => ?_)) <;> try (exfalso; omega)
      | (with_reducible refine CondX.bool (fun c => ?_) (fun c => ?_)) <;> try (exfalso; omega)
      | simp only [go_sem, I_eq, I_cells, g2, g3, g4, g6, k3, k4, k6, encS_cells, g14, g15, g16, d2, hw, hwo, encE_cells, Nat.reduceAdd, Nat.reduceBEq, Nat.reduceEqDiff, Nat.reduceLeDiff, Nat.reduceLT, Nat.reduceSub]
      | simp (disch := omega) only [wrap_in, toNat_succ, toNat_pred, Int.toNat_natCast]
      | with_reducible refine And.intro (by omega) ?_
      | with_reducible refine exI (by omega) ?_
      | fail
    refine awp_count 38 37 a.edges[i].out.length (by omega) (fun j t => t.slots 2 = .int .i64 obj ∧ t.slots 3 = .pt ⟨74, 3, h.cnt 74 3⟩ 0 0 0 ∧ t.slots 4 = .pt ⟨74, 4, h.cnt 74 4⟩ 0 0 0 ∧ t.slots 6 = .pt ⟨74, 6, h.cnt 74 6⟩ 0 0 0 ∧ t.hp.con ⟨74, 3, h.cnt 74 3⟩ = .blk (encS b).cells ∧ t.hp.con ⟨74, 4, h.cnt 74 4⟩ = .blk (encS a).cells ∧ t.hp.con ⟨74, 6, h.cnt 74 6⟩ = .blk [.int .i64 0, .int .i64 0] ∧ Keeps h t.hp ∧ t.slots 14 = .l false 4 (a.edges.map encE) ∧ t.slots 15 = .int .i64 a.edges.length ∧ t.slots 16 = .int .i64 i ∧ t.slots 36 = .l false 5 (a.edges[i].out.map encM) ∧ t.slots 10 = .int .i64 old ∧
      (∃ L, t.slots 9 = .pt L 0 0 0 ∧ t.hp.con L = .blk (encE a.edges[i]).cells) ∧ j ≤ (old - a.edges[i].base).toNat) ?_ ?_ ?_ ?_ ?_
    · simp only [go_sem, I_eq, I_cells, Nat.reduceAdd, Nat.reduceBEq, Nat.reduceEqDiff, Nat.reduceLeDiff, Nat.reduceLT, Nat.reduceSub]
    · simp only [go_sem, I_eq, I_cells, Nat.reduceAdd, Nat.reduceBEq, Nat.reduceEqDiff, Nat.reduceLeDiff, Nat.reduceLT, Nat.reduceSub]
    · simp only [go_sem, I_eq, I_cells, g2, g3, g4, g6, k3, k4, k6, encS_cells, g14, g15, g16, encE_cells, Nat.reduceAdd, Nat.reduceBEq, Nat.reduceEqDiff, Nat.reduceLeDiff, Nat.reduceLT, Nat.reduceSub]
      exact ⟨by ((repeat first | with_reducible apply Keeps.alloc | (with_reducible refine Keeps.set ?_ ?hL _; case hL => first | assumption | exact Hp.ok _ _ (by simp) | exact Keeps.new (by assumption) _ _)); first | assumption | exact Keeps.refl _), ⟨_, rfl, by simp only [go_sem, I_eq, I_cells, encE_cells, Nat.reduceAdd, Nat.reduceBEq, Nat.reduceEqDiff, Nat.reduceLeDiff, Nat.reduceLT, Nat.reduceSub]⟩, by omega⟩
    · clear g2 g3 g4 g6 k3 k4 k6 gH g14 g15 g16
      rintro j t hlj d3 hw2 g38 g37 ⟨g2, g3, g4, g6, k3, k4, k6, gH, g14, g15, g16, g36, g10, ⟨L, g9, hL⟩, hj⟩
      have nL : (L = ⟨74, 12, t.hp.cnt 74 12⟩) = False := by
        simp only [eq_iff_iff, iff_false]; rintro rfl; rw [t.hp.ok _ (by simp)] at hL; cases hL
      have hwb : IntKind.i64.wrap (a.edges[i].base + j) = a.edges[i].base + j := IntWalk.i64_in _ (by omega)
      repeat' first
        | (with_reducible refine CondX.dec (fun c => ?_) (fun c => ?_)) <;> try (exfalso; omega)
        | (with_reducible refine CondX.beq (fun c => ?_) (fun c => ?_)) <;> try (exfalso; omega)
        | (with_reducible refine CondX.bne (fun c => ?_) (fun c => ?_)) <;> try (exfalso; omega)
        | (with_reducible refine CondX.bool (fun c => ?_) (fun c => ?_)) <;> try (exfalso; omega)
        | simp only [go_sem, I_eq, I_cells, g2, g3, g4, g6, k3, k4, k6, encS_cells, g14, g15, g16, g36, g37, g38, g10, g9, hL, nL, d3, hw2, hw, hwb, encE_cells, encM_cells, Nat.reduceAdd, Nat.reduceBEq, Nat.reduceEqDiff, Nat.reduceLeDiff, Nat.reduceLT, Nat.reduceSub]
        | simp (disch := omega) only [wrap_in, toNat_succ, toNat_pred, Int.toNat_natCast]
        | with_reducible refine And.intro (by omega) ?_
        | with_reducible refine exI (by omega) ?_
        | fail
      all_goals first
        | exact ⟨by ((repeat first | with_reducible apply Keeps.alloc | (with_reducible refine Keeps.set ?_ ?hL _; case hL => first | assumption | exact Hp.ok _ _ (by simp) | exact Keeps.new (by assumption) _ _)); first | assumption | exact Keeps.refl _), ⟨_, rfl, by simp only [go_sem, I_eq, I_cells, nL, hL, encE_cells, Nat.reduceAdd, Nat.reduceBEq, Nat.reduceEqDiff, Nat.reduceLeDiff, Nat.reduceLT, Nat.reduceSub]⟩, by omega⟩
        | exact ⟨by ((repeat first | with_reducible apply Keeps.alloc | (with_reducible refine Keeps.set ?_ ?hL _; case hL => first | assumption | exact Hp.ok _ _ (by simp) | exact Keeps.new (by assumption) _ _)); first | assumption | exact Keeps.refl _), by rw [hq, pushE_some hlj (by omega), if_neg (fun h => by first | exact c h.1 | exact c h.2)]⟩
        | exact ⟨by rw [hq, pushE_some hlj (by omega), if_pos ⟨by assumption, c⟩]; rfl, by ((repeat first | with_reducible apply Keeps.alloc | (with_reducible refine Keeps.set ?_ ?hL _; case hL => first | assumption | exact Hp.ok _ _ (by simp) | exact Keeps.new (by assumption) _ _)); first | assumption | exact Keeps.refl _)⟩
        | trace_state
    · clear g2 g3 g4 g6 k3 k4 k6 gH g14 g15 g16
      rintro t d3 g38 g37 ⟨g2, g3, g4, g6, k3, k4, k6, gH, g14, g15, g16, g36, g10, ⟨L, g9, hL⟩, hj⟩
      rw [pushE_none (by omega)] at hq
      repeat' first
        | (with_reducible refine CondX.dec (fun c => ?_) (fun c => ?_)) <;> try (exfalso; omega)
        | (with_reducible refine CondX.beq (fun c => ?_) (fun c => ?_)) <;> try (exfalso; omega)
        | (with_reducible refine CondX.bne (fun c => ?_) (fun c => ?_)) <;> try (exfalso; omega)
        | (with_reducible refine CondX.bool (fun c => ?_) (fun c => ?_)) <;> try (exfalso; omega)
        | simp only [go_sem, I_eq, I_cells, g2, g3, g4, g6, k3, k4, k6, encS_cells, g14, g15, g16, g36, g37, g38, g10, g9, hL, d3, hw, Nat.reduceAdd, Nat.reduceBEq, Nat.reduceEqDiff, Nat.reduceLeDiff, Nat.reduceLT, Nat.reduceSub]
        | simp (disch := omega) only [wrap_in, toNat_succ, toNat_pred, Int.toNat_natCast]
        | with_reducible refine And.intro (by omega) ?_
        | with_reducible refine exI (by omega) ?_
        | fail
      exact hq
  · rintro t d2 g16 g15 ⟨g2, g3, g4, g6, k3, k4, k6, gH, g14, hq⟩
    rw [List.drop_eq_nil_of_le (Nat.le_refl a.edges.length)] at hq
    repeat' first
      | (with_reducible refine CondX.dec (fun c => ?_) (fun c => ?_)) <;> try (exfalso; omega)
      | (with_reducible refine CondX.beq (fun c => ?_) (fun c => ?_)) <;> try (exfalso; omega)
      | (with_reducible refine CondX.bne (fun c => ?_) (fun c => ?_)) <;> try (exfalso; omega)
      | (with_reducible refine CondX.bool (fun c => ?_) (fun c => ?_)) <;> try (exfalso; omega)
      | simp only [go_sem, I_eq, I_cells, g2, g3, g4, g6, k3, k4, k6, encS_cells, g14, g15, g16, d2, Nat.reduceAdd, Nat.reduceBEq, Nat.reduceEqDiff, Nat.reduceLeDiff, Nat.reduceLT, Nat.reduceSub]
      | simp (disch := omega) only [wrap_in, toNat_succ, toNat_pred, Int.toNat_natCast]
      | with_reducible refine And.intro (by omega) ?_
      | with_reducible refine exI (by omega) ?_
      | fail
    refine ⟨?_, by ((repeat first | with_reducible apply Keeps.alloc | (with_reducible refine Keeps.set ?_ ?hL _; case hL => first | assumption | exact Hp.ok _ _ (by simp) | exact Keeps.new (by assumption) _ _)); first | assumption | exact Keeps.refl _)⟩
    rw [hq]; cases b.edges.drop a.edges.length <;> rfl
def pushW (o : Option (Int × Int)) : AV := pairV (o.getD (-1, 0))
theorem ref_pushed_spec (b a : Nst) (obj : Int) (hb : ∀ e ∈ b.edges, SidB e) (ha : ∀ e ∈ a.edges, SidB e) (hl : a.edges.length ≤ b.edges.length) (hl2 : a.edges.length < 2 ^ 60) :
    PureF Try.prog 51 [encS b, encS a, .int .i64 obj] (pushW (pushL obj b.edges a.edges)) := by
  refine PureF.of_awp mixed (fun _ => []) (fn := Try.f51) (by kernel_rfl) rfl (by kernel_rfl) (by show 3 ≤ _; decide) (by simp [AV.lf, AV.lfs, pushW, pairV]) (fun h => ?_)
  repeat' first
    | (with_reducible refine CondX.dec (fun c => ?_) (fun c => ?_)) <;> try (exfalso; omega)
    | (with_reducible refine CondX.beq (fun c => ?_) (fun c => ?_)) <;> try (exfalso; omega)
    | (with_reducible refine CondX.bne (fun c => ?_) (fun c => ?_)) <;> try (exfalso; omega)
    | (with_reducible refine CondX.bool (fun c => ?_) (fun c => ?_)) <;> try (exfalso; omega)
    | simp only [go_sem, I_eq, I_cells, encS, encS_cells, Nat.reduceAdd, Nat.reduceBEq, Nat.reduceEqDiff, Nat.reduceLeDiff, Nat.reduceLT, Nat.reduceSub]
    | simp (disch := omega) only [wrap_in, toNat_succ, toNat_pred, Int.toNat_natCast]
    | with_reducible refine And.intro (by omega) ?_
    | with_reducible refine exI (by omega) ?_
    | fail
  refine awp_count 14 13 a.edges.length (by omega) (fun i t => t.slots 2 = .int .i64 obj ∧ t.slots 3 = .pt ⟨51, 3, h.cnt 51 3⟩ 0 0 0 ∧ t.slots 4 = .pt ⟨51, 4, h.cnt 51 4⟩ 0 0 0 ∧ t.hp.con ⟨51, 3, h.cnt 51 3⟩ = .blk (encS b).cells ∧ t.hp.con ⟨51, 4, h.cnt 51 4⟩ = .blk (encS a).cells ∧ Keeps h t.hp ∧ t.slots 12 = .l false 4 (a.edges.map encE) ∧ pushL obj b.edges a.edges = pushL obj (b.edges.drop i) (a.edges.drop i)) ?_ ?_ ?_ ?_ ?_
  · simp only [go_sem, I_eq, I_cells, Nat.reduceAdd, Nat.reduceBEq, Nat.reduceEqDiff, Nat.reduceLeDiff, Nat.reduceLT, Nat.reduceSub]
  · simp only [go_sem, I_eq, I_cells, Nat.reduceAdd, Nat.reduceBEq, Nat.reduceEqDiff, Nat.reduceLeDiff, Nat.reduceLT, Nat.reduceSub]
  · simp only [go_sem, I_eq, I_cells, encS_cells, encS, Nat.reduceAdd, Nat.reduceBEq, Nat.reduceEqDiff, Nat.reduceLeDiff, Nat.reduceLT, Nat.reduceSub]
    ((repeat first | with_reducible apply Keeps.alloc | (with_reducible refine Keeps.set ?_ ?hL _; case hL => first | assumption | exact Hp.ok _ _ (by simp) | exact Keeps.new (by assumption) _ _)); first | assumption | exact Keeps.refl _)
  · rintro i t hlt d2 hw g14 g13 ⟨g2, g3, g4, k3, k4, gH, g12, hq⟩
    have hib : i < b.edges.length := by omega
    obtain ⟨⟨a1, a2⟩, a3⟩ := ha _ (List.getElem_mem hlt)
    obtain ⟨⟨b1, b2⟩, b3⟩ := hb _ (List.getElem_mem hib)
    rw [drop_cons hlt, drop_cons hib, pushL] at hq
    obtain ⟨old, ho⟩ : ∃ o : Int, b.edges[i].base + b.edges[i].out.length = o := ⟨_, rfl⟩
    have hwo : IntKind.i64.wrap (b.edges[i].base + b.edges[i].out.length) = old := by rw [IntWalk.i64_in _ (by omega), ho]
    have hwp : IntKind.i64.wrap (old - a.edges[i].base) = old - a.edges[i].base := IntWalk.i64_in _ (by omega)
    rw [ho] at hq
    repeat' first
      | (with_reducible refine CondX.dec (fun c => ?_) (fun c => ?_)) <;> try (exfalso; omega)
      | (with_reducible refine CondX.beq (fun c => ?_) (fun c => ?_)) <;> try (exfalso; omega)
      | (with_reducible refine CondX.bne (fun c => ?_) (fun c => ?_)) <;> try (exfalso; omega)
      | (with_reducible refine CondX.bool (fun c => ?_) (fun c => ?_)) <;> try (exfalso; omega)
      | simp only [go_sem, I_eq, I_cells, g2, g3, g4, k3, k4, encS_cells, g12, g13, g14, d2, hw, hwo, hwp, encE_cells, encM_cells, Nat.reduceAdd, Nat.reduceBEq, Nat.reduceEqDiff, Nat.reduceLeDiff, Nat.reduceLT, Nat.reduceSub]
      | simp (disch := omega) only [wrap_in, toNat_succ, toNat_pred, Int.toNat_natCast]
      | with_reducible refine And.intro (by omega) ?_
      | with_reducible refine exI (by omega) ?_
      | fail
    all_goals first
      | exact ⟨by ((repeat first | with_reducible apply Keeps.alloc | (with_reducible refine Keeps.set ?_ ?hL _; case hL => first | assumption | exact Hp.ok _ _ (by simp) | exact Keeps.new (by assumption) _ _)); first | assumption | exact Keeps.refl _), by rw [hq, pushE_none (by omega)]⟩
      | exact ⟨by ((repeat first | with_reducible apply Keeps.alloc | (with_reducible refine Keeps.set ?_ ?hL _; case hL => first | assumption | exact Hp.ok _ _ (by simp) | exact Keeps.new (by assumption) _ _)); first | assumption | exact Keeps.refl _), by rw [hq, pushE_some (j := 0) (by omega) (by omega), if_neg (fun h => by first | exact c h.1 | exact c h.2)]⟩
      | exact ⟨by rw [hq, pushE_some (j := 0) (by omega) (by omega), if_pos ⟨by assumption, c⟩]; rfl, by ((repeat first | with_reducible apply Keeps.alloc | (with_reducible refine Keeps.set ?_ ?hL _; case hL => first | assumption | exact Hp.ok _ _ (by simp) | exact Keeps.new (by assumption) _ _)); first | assumption | exact Keeps.refl _)⟩
      | exact ⟨by ((repeat first | with_reducible apply Keeps.alloc | (with_reducible refine Keeps.set ?_ ?hL _; case hL => first | assumption | exact Hp.ok _ _ (by simp) | exact Keeps.new (by assumption) _ _)); first | assumption | exact Keeps.refl _), by rw [hq, pushE_some (j := (old - a.edges[i].base).toNat) (by omega) (by omega), if_neg (fun h => by first | exact c h.1 | exact c h.2)]⟩
      | exact ⟨by rw [hq, pushE_some (j := (old - a.edges[i].base).toNat) (by omega) (by omega), if_pos ⟨by assumption, c⟩]; rfl, by ((repeat first | with_reducible apply Keeps.alloc | (with_reducible refine Keeps.set ?_ ?hL _; case hL => first | assumption | exact Hp.ok _ _ (by simp) | exact Keeps.new (by assumption) _ _)); first | assumption | exact Keeps.refl _)⟩
      | trace_state
  · rintro t d2 g14 g13 ⟨g2, g3, g4, k3, k4, gH, g12, hq⟩
    rw [List.drop_eq_nil_of_le (Nat.le_refl a.edges.length)] at hq
    repeat' first
      | (with_reducible refine CondX.dec (fun c => ?_) (fun c => ?_)) <;> try (exfalso; omega)
      | (with_reducible refine CondX.beq (fun c => ?_) (fun c => ?_)) <;> try (exfalso; omega)
      | (with_reducible refine CondX.bne (fun c => ?_) (fun c => ?_)) <;> try (exfalso; omega)
      | (with_reducible refine CondX.bool (fun c => ?_) (fun c => ?_)) <;> try (exfalso; omega)
      | simp only [go_sem, I_eq, I_cells, g12, g13, g14, d2, Nat.reduceAdd, Nat.reduceBEq, Nat.reduceEqDiff, Nat.reduceLeDiff, Nat.reduceLT, Nat.reduceSub]
      | simp (disch := omega) only [wrap_in, toNat_succ, toNat_pred, Int.toNat_natCast]
      | with_reducible refine And.intro (by omega) ?_
      | with_reducible refine exI (by omega) ?_
      | fail
    refine ⟨?_, by ((repeat first | with_reducible apply Keeps.alloc | (with_reducible refine Keeps.set ?_ ?hL _; case hL => first | assumption | exact Hp.ok _ _ (by simp) | exact Keeps.new (by assumption) _ _)); first | assumption | exact Keeps.refl _)⟩
    rw [hq]; cases b.edges.drop a.edges.length <;> rfl
end Go.Proofs.Ytmajndgdfmnchaa
