/- Part of a proof: what functions of the given program compute, and plain laws of it. -/
import Derived.Test.YtmajndgdfmnchaaZ12
import Derived.Test.YtmajndgdfmnchaaT8
/- fletchref14.Copy. -/
namespace Go.T
open Go
theorem Acc.cell {h H : Hp} {sz : Nat} {v : AV} {xs : List AV} (a : Acc h H sz v xs) : v.isCell = true := by cases a <;> rfl
end Go.T
namespace Go.Gh
structure Small (s : Nst) : Prop where
  objs : s.objs.length ≤ 4096
  edges : s.edges.length ≤ 4096
  asks : s.asks.length ≤ 4096
  got : s.got.length ≤ 4096
  cells : ∀ o ∈ s.objs, o.cells.length ≤ 4096
  out : ∀ e ∈ s.edges, e.out.length ≤ 4096
end Go.Gh
namespace Go.Proofs.Ytmajndgdfmnchaa
open Go Go.T Go.Gh Go.Proofs
set_option linter.unusedSimpArgs false
set_option linter.unusedVariables false
set_option maxRecDepth 10000
set_option maxHeartbeats 4000000
def T34 : Nat → List Tg := fun id => if id = 1 then [.plain, .plain, .plain, .plain, .plain, .plain, .plain, .frz, .plain, .plain, .plain, .frz] else if id = 5 then [.plain, .plain, .plain, .plain, .plain, .plain, .plain, .plain, .plain, .frz] else if id = 10 then [.plain, .plain, .plain, .plain, .plain, .plain, .plain, .plain, .plain, .frz] else []

theorem Copy_spec (s : Nst) (hs : Small s) : PureF Try.prog 34 [encS s] (encS s) := by
  have b1 := hs.objs
  have b2 := hs.edges
  have b3 := hs.asks
  have b4 := hs.got
  refine PureF.of_awpZ mixed T34 (fn := Try.f34) (by kernel_rfl) rfl (by kernel_rfl) (by show 1 ≤ _; decide) (by simp [encS_lf]) (fun h => ?_)
  rw [awp_assoc]
  refine awp_cutF [(1, 3), (8, 20)] (by kernel_rfl) (fun t => t.slots 1 = .pt ⟨34, 1, h.cnt 34 1⟩ 0 0 0 ∧ t.slots 2 = .pt ⟨34, 2, h.cnt 34 2⟩ 0 0 0 ∧ t.slots 3 = .pt ⟨34, 3, h.cnt 34 3⟩ 0 0 0 ∧ t.hp.con ⟨34, 1, h.cnt 34 1⟩ = .blk (encS s).cells ∧ t.hp.con ⟨34, 2, h.cnt 34 2⟩ = .blk [AV.int .i64 0, .l true 0 [], .l true 0 [], .int .i64 0, .l true 0 [], .l true 0 []] ∧ t.hp.con ⟨34, 3, h.cnt 34 3⟩ = .blk [.int .i64 s.me, .l true 0 [], .l true 0 [], .int .i64 s.asked, .l false 2 (s.asks.map encA), .l false 3 (s.got.map encF)] ∧ Keeps h t.hp) ?_ ?_
  · repeat' first
      | (with_reducible refine CondX.dec (fun c => ?_) (fun c => ?_)) <;> try (exfalso; omega)
      | (with_reducible refine CondX.beq (fun c => ?_) (fun c => ?_)) <;> try (exfalso; omega)
      | (with_reducible refine CondX.bne (fun c => ?_) (fun c => ?_)) <;> try (exfalso; omega)
      | (with_reducible refine CondX.bool (fun c => ?_) (fun c => ?_)) <;> try (exfalso; omega)
      | simp only [go_sem, I_eq, I_cells, T34, encS_cells, Nat.reduceAdd, Nat.reduceBEq, Nat.reduceEqDiff, Nat.reduceLeDiff, Nat.reduceLT, Nat.reduceSub]
      | simp (disch := omega) only [wrap_in, toNat_succ, toNat_pred, Int.toNat_natCast]
      | with_reducible refine And.intro (by omega) ?_
      | with_reducible refine exI (by omega) ?_
      | fail
    ((repeat first | with_reducible apply Keeps.alloc | (with_reducible refine Keeps.set ?_ ?hL _; case hL => first | assumption | exact Hp.ok _ _ (by simp) | exact Keeps.new (by assumption) _ _)); first | assumption | exact Keeps.refl _)
  rintro s0 f0 ⟨g1, g2, g3, k1, k2, k3, gK⟩
  rw [encS_cells] at k1
  refine awp_cutF [(5, 5), (21, 42)] (by kernel_rfl) (fun t => (∃ v, t.hp.con ⟨34, 3, h.cnt 34 3⟩ = .blk [.int .i64 s.me, v, .l true 0 [], .int .i64 s.asked, .l false 2 (s.asks.map encA), .l false 3 (s.got.map encF)] ∧ Acc h t.hp 3 v (s.objs.map encO) ∧ ∀ L, v = .os L → L.s = 40 ∧ L.f = 34) ∧ t.hp.con ⟨34, 1, h.cnt 34 1⟩ = .blk (encS s).cells ∧ t.hp.con ⟨34, 2, h.cnt 34 2⟩ = .blk [AV.int .i64 0, .l true 0 [], .l true 0 [], .int .i64 0, .l true 0 [], .l true 0 []] ∧ Keeps h t.hp) ?_ ?_
  · repeat' first
      | (with_reducible refine CondX.dec (fun c => ?_) (fun c => ?_)) <;> try (exfalso; omega)
      | (with_reducible refine CondX.beq (fun c => ?_) (fun c => ?_)) <;> try (exfalso; omega)
      | (with_reducible refine CondX.bne (fun c => ?_) (fun c => ?_)) <;> try (exfalso; omega)
      | (with_reducible refine CondX.bool (fun c => ?_) (fun c => ?_)) <;> try (exfalso; omega)
      | simp only [go_sem, I_eq, I_cells, T34, Frm.at f0, g1, g2, g3, k1, k2, k3, Nat.reduceAdd, Nat.reduceBEq, Nat.reduceEqDiff, Nat.reduceLeDiff, Nat.reduceLT, Nat.reduceSub]
      | simp (disch := omega) only [wrap_in, toNat_succ, toNat_pred, Int.toNat_natCast]
      | with_reducible refine And.intro (by omega) ?_
      | with_reducible refine exI (by omega) ?_
      | fail
    refine awp_countF [(5, 5), (24, 42)] (by kernel_rfl) 24 23 (by kernel_rfl) s.objs.length (by omega) (fun i t => (∃ v, t.hp.con ⟨34, 3, h.cnt 34 3⟩ = .blk [.int .i64 s.me, v, .l true 0 [], .int .i64 s.asked, .l false 2 (s.asks.map encA), .l false 3 (s.got.map encF)] ∧ Acc h t.hp 3 v ((s.objs.take i).map encO) ∧ ∀ L, v = .os L → L.s = 40 ∧ L.f = 34) ∧ t.hp.con ⟨34, 1, h.cnt 34 1⟩ = .blk (encS s).cells ∧ t.hp.con ⟨34, 2, h.cnt 34 2⟩ = .blk [AV.int .i64 0, .l true 0 [], .l true 0 [], .int .i64 0, .l true 0 [], .l true 0 []] ∧ Keeps h t.hp) ?_ ?_ ?_ ?_ ?_
    · simp only [go_sem, I_eq, I_cells, Nat.reduceAdd, Nat.reduceBEq, Nat.reduceEqDiff, Nat.reduceLeDiff, Nat.reduceLT, Nat.reduceSub]
    · simp only [go_sem, I_eq, I_cells, Nat.reduceAdd, Nat.reduceBEq, Nat.reduceEqDiff, Nat.reduceLeDiff, Nat.reduceLT, Nat.reduceSub]
    · simp only [go_sem, I_eq, I_cells, encS_cells, Nat.reduceAdd, Nat.reduceBEq, Nat.reduceEqDiff, Nat.reduceLeDiff, Nat.reduceLT, Nat.reduceSub]
      exact ⟨⟨_, k3, .nil, fun L hL => by cases hL⟩, k1, k2, gK⟩
    · clear gK k1 k2 k3
      rintro i t hlt d2 hw f1 g24 g23 ⟨⟨v, k3, ga, gl⟩, k1, k2, gK⟩
      have ho := hs.cells _ (List.getElem_mem hlt)
      rw [List.take_succ_eq_append_getElem hlt, List.map_append]
      repeat' first
        | (with_reducible refine CondX.dec (fun c => ?_) (fun c => ?_)) <;> try (exfalso; omega)
        | (with_reducible refine CondX.beq (fun c => ?_) (fun c => ?_)) <;> try (exfalso; omega)
        | (with_reducible refine CondX.bne (fun c => ?_) (fun c => ?_)) <;> try (exfalso; omega)
        | (with_reducible refine CondX.bool (fun c => ?_) (fun c => ?_)) <;> try (exfalso; omega)
        | simp only [go_sem, I_eq, I_cells, T34, Frm.at f1, Frm.at f0, g1, g2, g3, k1, k2, k3, g23, g24, d2, hw, encO_cells, Nat.reduceAdd, Nat.reduceBEq, Nat.reduceEqDiff, Nat.reduceLeDiff, Nat.reduceLT, Nat.reduceSub]
        | simp (disch := omega) only [wrap_in, toNat_succ, toNat_pred, Int.toNat_natCast]
        | with_reducible refine And.intro (by omega) ?_
        | with_reducible refine exI (by omega) ?_
        | fail
      refine (ga.alloc _ _ _).app (by ((repeat first | with_reducible apply Keeps.alloc | (with_reducible refine Keeps.set ?_ ?hL _; case hL => first | assumption | exact Hp.ok _ _ (by simp) | exact Keeps.new (by assumption) _ _)); first | assumption | exact Keeps.refl _)) (by simp; omega) (by simp; omega) (by decide) fun H' v' a' kp' fr1 fr2 ev => ?_
      have q1 := fr2 ⟨34, 1, h.cnt 34 1⟩ _ (by simp only [go_sem, I_eq, I_cells, k1, Nat.reduceAdd, Nat.reduceBEq, Nat.reduceEqDiff, Nat.reduceLeDiff, Nat.reduceLT, Nat.reduceSub]; rfl)
      have q2 := fr2 ⟨34, 2, h.cnt 34 2⟩ _ (by simp only [go_sem, I_eq, I_cells, k2, Nat.reduceAdd, Nat.reduceBEq, Nat.reduceEqDiff, Nat.reduceLeDiff, Nat.reduceLT, Nat.reduceSub]; rfl)
      have q3 := fr2 ⟨34, 3, h.cnt 34 3⟩ _ (by simp only [go_sem, I_eq, I_cells, k3, Nat.reduceAdd, Nat.reduceBEq, Nat.reduceEqDiff, Nat.reduceLeDiff, Nat.reduceLT, Nat.reduceSub]; rfl)
      have ev' : v' = .os ⟨34, 40, t.hp.cnt 34 40⟩ := by rw [ev]; congr 2
      clear ev
      subst ev'
      repeat' first
        | (with_reducible refine CondX.dec (fun c => ?_) (fun c => ?_)) <;> try (exfalso; omega)
        | (with_reducible refine CondX.beq (fun c => ?_) (fun c => ?_)) <;> try (exfalso; omega)
        | (with_reducible refine CondX.bne (fun c => ?_) (fun c => ?_)) <;> try (exfalso; omega)
        | (with_reducible refine CondX.bool (fun c => ?_) (fun c => ?_)) <;> try (exfalso; omega)
        | simp only [go_sem, I_eq, I_cells, q1, q2, q3, Nat.reduceAdd, Nat.reduceBEq, Nat.reduceEqDiff, Nat.reduceLeDiff, Nat.reduceLT, Nat.reduceSub]
        | simp (disch := omega) only [wrap_in, toNat_succ, toNat_pred, Int.toNat_natCast]
        | with_reducible refine And.intro (by omega) ?_
        | with_reducible refine exI (by omega) ?_
        | fail
      exact ⟨⟨_, rfl, a'.mono (fun L hL => by cases hL; simp only [go_sem, I_eq, I_cells, Nat.reduceAdd, Nat.reduceBEq, Nat.reduceEqDiff, Nat.reduceLeDiff, Nat.reduceLT, Nat.reduceSub]), fun L hL => by cases hL; exact ⟨rfl, rfl⟩⟩, by ((repeat first | with_reducible apply Keeps.alloc | (with_reducible refine Keeps.set ?_ ?hL _; case hL => first | assumption | exact Hp.ok _ _ (by simp) | exact Keeps.new (by assumption) _ _)); first | assumption | exact Keeps.refl _)⟩
    · rintro t d2 f1 g24 g23 ⟨⟨v, k3, ga, gl⟩, k1, k2, gK⟩
      rw [List.take_length] at ga
      repeat' first
        | (with_reducible refine CondX.dec (fun c => ?_) (fun c => ?_)) <;> try (exfalso; omega)
        | (with_reducible refine CondX.beq (fun c => ?_) (fun c => ?_)) <;> try (exfalso; omega)
        | (with_reducible refine CondX.bne (fun c => ?_) (fun c => ?_)) <;> try (exfalso; omega)
        | (with_reducible refine CondX.bool (fun c => ?_) (fun c => ?_)) <;> try (exfalso; omega)
        | simp only [go_sem, I_eq, I_cells, T34, Frm.at f1, Frm.at f0, g1, g2, g3, k1, k2, k3, g23, g24, d2, Nat.reduceAdd, Nat.reduceBEq, Nat.reduceEqDiff, Nat.reduceLeDiff, Nat.reduceLT, Nat.reduceSub]
        | simp (disch := omega) only [wrap_in, toNat_succ, toNat_pred, Int.toNat_natCast]
        | with_reducible refine And.intro (by omega) ?_
        | with_reducible refine exI (by omega) ?_
        | fail
      exact ⟨⟨v, rfl, ga, gl⟩, gK⟩
  clear k1 k2 k3 gK
  rintro s1 f1 ⟨⟨v, k3, ga, gl⟩, k1, k2, gK⟩
  refine awp_cutF [(7, 7), (43, 66)] (by kernel_rfl) (fun t => (∃ v2, t.hp.con ⟨34, 3, h.cnt 34 3⟩ = .blk [.int .i64 s.me, v, v2, .int .i64 s.asked, .l false 2 (s.asks.map encA), .l false 3 (s.got.map encF)] ∧ Acc h t.hp 4 v2 (s.edges.map encE) ∧ ∀ L, v2 = .os L → L.s = 64 ∧ L.f = 34) ∧ Acc h t.hp 3 v (s.objs.map encO) ∧ t.hp.con ⟨34, 2, h.cnt 34 2⟩ = .blk [AV.int .i64 0, .l true 0 [], .l true 0 [], .int .i64 0, .l true 0 [], .l true 0 []] ∧ Keeps h t.hp) ?_ ?_
  · repeat' first
      | (with_reducible refine CondX.dec (fun c => ?_) (fun c => ?_)) <;> try (exfalso; omega)
      | (with_reducible refine CondX.beq (fun c => ?_) (fun c => ?_)) <;> try (exfalso; omega)
      | (with_reducible refine CondX.bne (fun c => ?_) (fun c => ?_)) <;> try (exfalso; omega)
      | (with_reducible refine CondX.bool (fun c => ?_) (fun c => ?_)) <;> try (exfalso; omega)
      | simp only [go_sem, I_eq, I_cells, T34, Frm.at f1, Frm.at f0, g1, g2, g3, k1, k2, k3, encS_cells, Nat.reduceAdd, Nat.reduceBEq, Nat.reduceEqDiff, Nat.reduceLeDiff, Nat.reduceLT, Nat.reduceSub]
      | simp (disch := omega) only [wrap_in, toNat_succ, toNat_pred, Int.toNat_natCast]
      | with_reducible refine And.intro (by omega) ?_
      | with_reducible refine exI (by omega) ?_
      | fail
    refine awp_countF [(7, 7), (46, 66)] (by kernel_rfl) 46 45 (by kernel_rfl) s.edges.length (by omega) (fun i t => (∃ v2, t.hp.con ⟨34, 3, h.cnt 34 3⟩ = .blk [.int .i64 s.me, v, v2, .int .i64 s.asked, .l false 2 (s.asks.map encA), .l false 3 (s.got.map encF)] ∧ Acc h t.hp 4 v2 ((s.edges.take i).map encE) ∧ ∀ L, v2 = .os L → L.s = 64 ∧ L.f = 34) ∧ Acc h t.hp 3 v (s.objs.map encO) ∧ t.hp.con ⟨34, 2, h.cnt 34 2⟩ = .blk [AV.int .i64 0, .l true 0 [], .l true 0 [], .int .i64 0, .l true 0 [], .l true 0 []] ∧ Keeps h t.hp) ?_ ?_ ?_ ?_ ?_
    · simp only [go_sem, I_eq, I_cells, Nat.reduceAdd, Nat.reduceBEq, Nat.reduceEqDiff, Nat.reduceLeDiff, Nat.reduceLT, Nat.reduceSub]
    · simp only [go_sem, I_eq, I_cells, Nat.reduceAdd, Nat.reduceBEq, Nat.reduceEqDiff, Nat.reduceLeDiff, Nat.reduceLT, Nat.reduceSub]
    · simp only [go_sem, I_eq, I_cells, Nat.reduceAdd, Nat.reduceBEq, Nat.reduceEqDiff, Nat.reduceLeDiff, Nat.reduceLT, Nat.reduceSub]
      exact ⟨⟨_, k3, .nil, fun L hL => by cases hL⟩, ga, k2, gK⟩
    · clear gK k1 k2 k3 ga
      rintro i t hlt d2 hw f2 g24 g23 ⟨⟨v2, k3, gb, gm⟩, ga, k2, gK⟩
      have ho := hs.out _ (List.getElem_mem hlt)
      rw [List.take_succ_eq_append_getElem hlt, List.map_append]
      repeat' first
        | (with_reducible refine CondX.dec (fun c => ?_) (fun c => ?_)) <;> try (exfalso; omega)
        | (with_reducible refine CondX.beq (fun c => ?_) (fun c => ?_)) <;> try (exfalso; omega)
        | (with_reducible refine CondX.bne (fun c => ?_) (fun c => ?_)) <;> try (exfalso; omega)
        | (with_reducible refine CondX.bool (fun c => ?_) (fun c => ?_)) <;> try (exfalso; omega)
        | simp only [go_sem, I_eq, I_cells, T34, Frm.at f2, Frm.at f1, Frm.at f0, g1, g2, g3, k2, k3, g23, g24, d2, hw, encE_cells, Nat.reduceAdd, Nat.reduceBEq, Nat.reduceEqDiff, Nat.reduceLeDiff, Nat.reduceLT, Nat.reduceSub]
        | simp (disch := omega) only [wrap_in, toNat_succ, toNat_pred, Int.toNat_natCast]
        | with_reducible refine And.intro (by omega) ?_
        | with_reducible refine exI (by omega) ?_
        | fail
      refine (gb.alloc _ _ _).app (by ((repeat first | with_reducible apply Keeps.alloc | (with_reducible refine Keeps.set ?_ ?hL _; case hL => first | assumption | exact Hp.ok _ _ (by simp) | exact Keeps.new (by assumption) _ _)); first | assumption | exact Keeps.refl _)) (by simp; omega) (by simp; omega) (by decide) fun H' v' a' kp' fr1 fr2 ev => ?_
      have q2 := fr2 ⟨34, 2, h.cnt 34 2⟩ _ (by simp only [go_sem, I_eq, I_cells, k2, Nat.reduceAdd, Nat.reduceBEq, Nat.reduceEqDiff, Nat.reduceLeDiff, Nat.reduceLT, Nat.reduceSub]; rfl)
      have q3 := fr2 ⟨34, 3, h.cnt 34 3⟩ _ (by simp only [go_sem, I_eq, I_cells, k3, Nat.reduceAdd, Nat.reduceBEq, Nat.reduceEqDiff, Nat.reduceLeDiff, Nat.reduceLT, Nat.reduceSub]; rfl)
      have ev' : v' = .os ⟨34, 64, t.hp.cnt 34 64⟩ := by rw [ev]; congr 2
      clear ev
      subst ev'
      have ga' : Acc h H' 3 v (s.objs.map encO) := (ga.alloc _ _ _).mono fun L hL => by
        subst hL
        have := gl L rfl
        refine fr1 L ?_ fun M hM hE => ?_
        · have hc := (ga.alloc 34 7 (.blk (encE s.edges[i]).cells)).own'.1
          rw [encE_cells] at hc
          rw [hc]; simp
        · subst hE; have := gm L hM; omega
      repeat' first
        | (with_reducible refine CondX.dec (fun c => ?_) (fun c => ?_)) <;> try (exfalso; omega)
        | (with_reducible refine CondX.beq (fun c => ?_) (fun c => ?_)) <;> try (exfalso; omega)
        | (with_reducible refine CondX.bne (fun c => ?_) (fun c => ?_)) <;> try (exfalso; omega)
        | (with_reducible refine CondX.bool (fun c => ?_) (fun c => ?_)) <;> try (exfalso; omega)
        | simp only [go_sem, I_eq, I_cells, q2, q3, Nat.reduceAdd, Nat.reduceBEq, Nat.reduceEqDiff, Nat.reduceLeDiff, Nat.reduceLT, Nat.reduceSub]
        | simp (disch := omega) only [wrap_in, toNat_succ, toNat_pred, Int.toNat_natCast]
        | with_reducible refine And.intro (by omega) ?_
        | with_reducible refine exI (by omega) ?_
        | fail
      exact ⟨⟨_, rfl, a'.mono (fun L hL => by cases hL; simp only [go_sem, I_eq, I_cells, Nat.reduceAdd, Nat.reduceBEq, Nat.reduceEqDiff, Nat.reduceLeDiff, Nat.reduceLT, Nat.reduceSub]), fun L hL => by cases hL; exact ⟨rfl, rfl⟩⟩, ga'.mono (fun L hL => by rw [set_con_ne (fun hE => by have := gl L hL; rw [hE] at this; simp at this)]), by ((repeat first | with_reducible apply Keeps.alloc | (with_reducible refine Keeps.set ?_ ?hL _; case hL => first | assumption | exact Hp.ok _ _ (by simp) | exact Keeps.new (by assumption) _ _)); first | assumption | exact Keeps.refl _)⟩
    · rintro t d2 f2 g24 g23 ⟨⟨v2, k3, gb, gm⟩, ga, k2, gK⟩
      rw [List.take_length] at gb
      repeat' first
        | (with_reducible refine CondX.dec (fun c => ?_) (fun c => ?_)) <;> try (exfalso; omega)
        | (with_reducible refine CondX.beq (fun c => ?_) (fun c => ?_)) <;> try (exfalso; omega)
        | (with_reducible refine CondX.bne (fun c => ?_) (fun c => ?_)) <;> try (exfalso; omega)
        | (with_reducible refine CondX.bool (fun c => ?_) (fun c => ?_)) <;> try (exfalso; omega)
        | simp only [go_sem, I_eq, I_cells, T34, Frm.at f2, Frm.at f1, Frm.at f0, g1, g2, g3, k2, k3, g23, g24, d2, Nat.reduceAdd, Nat.reduceBEq, Nat.reduceEqDiff, Nat.reduceLeDiff, Nat.reduceLT, Nat.reduceSub]
        | simp (disch := omega) only [wrap_in, toNat_succ, toNat_pred, Int.toNat_natCast]
        | with_reducible refine And.intro (by omega) ?_
        | with_reducible refine exI (by omega) ?_
        | fail
      exact ⟨⟨v2, rfl, gb, gm⟩, ga, gK⟩
  clear k1 k2 k3 gK ga
  rintro s2 f2 ⟨⟨v2, k3, gb, gm⟩, ga, k2, gK⟩
  repeat' first
    | (with_reducible refine CondX.dec (fun c => ?_) (fun c => ?_)) <;> try (exfalso; omega)
    | (with_reducible refine CondX.beq (fun c => ?_) (fun c => ?_)) <;> try (exfalso; omega)
    | (with_reducible refine CondX.bne (fun c => ?_) (fun c => ?_)) <;> try (exfalso; omega)
    | (with_reducible refine CondX.bool (fun c => ?_) (fun c => ?_)) <;> try (exfalso; omega)
    | simp only [go_sem, I_eq, I_cells, T34, Frm.at f2, Frm.at f1, Frm.at f0, g1, g2, g3, k2, k3, Nat.reduceAdd, Nat.reduceBEq, Nat.reduceEqDiff, Nat.reduceLeDiff, Nat.reduceLT, Nat.reduceSub]
    | simp (disch := omega) only [wrap_in, toNat_succ, toNat_pred, Int.toNat_natCast]
    | with_reducible refine And.intro (by omega) ?_
    | with_reducible refine exI (by omega) ?_
    | fail
  refine ⟨by rw [ga.cell, gb.cell]; rfl, ?_⟩
  obtain ⟨H, hH⟩ : ∃ H, s2.hp.set ⟨34, 2, h.cnt 34 2⟩ (.blk [.int .i64 s.me, v, v2, .int .i64 s.asked, .l false 2 (s.asks.map encA), .l false 3 (s.got.map encF)]) = H := ⟨_, rfl⟩
  have kH : Keeps h H := by rw [← hH]; ((repeat first | with_reducible apply Keeps.alloc | (with_reducible refine Keeps.set ?_ ?hL _; case hL => first | assumption | exact Hp.ok _ _ (by simp) | exact Keeps.new (by assumption) _ _)); first | assumption | exact Keeps.refl _)
  have ga' : Acc h H 3 v (s.objs.map encO) := ga.mono (fun L hL => by rw [← hH, set_con_ne (fun hE => by have := gl L hL; rw [hE] at this; simp at this)])
  have gb' : Acc h H 4 v2 (s.edges.map encE) := gb.mono (fun L hL => by rw [← hH, set_con_ne (fun hE => by have := gm L hL; rw [hE] at this; simp at this)])
  rw [hH]
  obtain ⟨ex1, sz1, H1, le1, kp1, fr1, st1⟩ := ga'.step kH
  have gb1 : Acc h H1 4 v2 (s.edges.map encE) := gb'.mono (fun L hL => fr1 L (fun M hM hE => by have h1 := gl M hM; have h2 := gm L hL; rw [hE] at h2; omega))
  obtain ⟨ex2, sz2, H2, le2, kp2, fr2, st2⟩ := gb1.step kp1
  refine ⟨H2, ?_, kp2⟩
  refine st1 (fun a => .agg [.int .i64 s.me, a, v2, .int .i64 s.asked, .l false 2 (s.asks.map encA), .l false 3 (s.got.map encF)]) (fun L hL c => ?_) _ _ ?_
  · simp only [AV.frz, AV.frzs, gb'.frz_ne (L := L) (fun M hM hE => by have h1 := gm M hM; have h2 := gl L hL; rw [hE] at h1; omega), frzs_lf _ _ _ (A_lfs _), frzs_lf _ _ _ (F_lfs _)]
  refine st2 (fun a => .agg [.int .i64 s.me, .l ex1 sz1 (s.objs.map encO), a, .int .i64 s.asked, .l false 2 (s.asks.map encA), .l false 3 (s.got.map encF)]) (fun L hL c => ?_) _ _ ?_
  · simp only [AV.frz, AV.frzs, frzs_lf _ _ _ (O_lfs _), frzs_lf _ _ _ (A_lfs _), frzs_lf _ _ _ (F_lfs _)]
  exact .done _ _ _ (Le.aggF (.cons (Le.refl _) (.cons (le1 _ rfl) (.cons (le2 _ rfl) (LeF.refl _)))))
end Go.Proofs.Ytmajndgdfmnchaa
/- Same, at one state twice. -/
namespace Go.Proofs.Ytmajndgdfmnchaa
open Go Go.T Go.Gh Go.Proofs
set_option linter.unusedSimpArgs false
set_option linter.unusedVariables false
set_option maxRecDepth 10000
set_option maxHeartbeats 4000000
theorem Same13_spec (cs : List Cel) (e1 e2 : Bool) (hl : cs.length ≤ 9223372036854775807) : PureF Try.prog 68 [.l e1 4 (cs.map encC), .l e2 4 (cs.map encC)] (.bool true) := by
  refine PureF.of_awp mixed (fun _ => []) (fn := Try.f68) (by kernel_rfl) rfl (by kernel_rfl) (by show 2 ≤ _; decide) (by simp [AV.lf]) (fun h => ?_)
  repeat' first
    | (with_reducible refine CondX.dec (fun c => ?_) (fun c => ?_)) <;> try (exfalso; omega)
    | (with_reducible refine CondX.beq (fun c => ?_) (fun c => ?_)) <;> try (exfalso; omega)
    | (with_reducible refine CondX.bne (fun c => ?_) (fun c => ?_)) <;> try (exfalso; omega)
    | (with_reducible refine CondX.bool (fun c => ?_) (fun c => ?_)) <;> try (exfalso; omega)
    | simp only [go_sem, I_eq, I_cells, Nat.reduceAdd, Nat.reduceBEq, Nat.reduceEqDiff, Nat.reduceLeDiff, Nat.reduceLT, Nat.reduceSub]
    | simp (disch := omega) only [wrap_in, toNat_succ, toNat_pred, Int.toNat_natCast]
    | with_reducible refine And.intro (by omega) ?_
    | with_reducible refine exI (by omega) ?_
    | fail
  refine awp_countF [(4, 5), (13, 25)] (by kernel_rfl) 13 12 (by kernel_rfl) cs.length (by omega) (fun _ t => Keeps h t.hp) ?_ ?_ ?_ ?_ ?_
  · simp only [go_sem, I_eq, I_cells, Nat.reduceAdd, Nat.reduceBEq, Nat.reduceEqDiff, Nat.reduceLeDiff, Nat.reduceLT, Nat.reduceSub]
  · simp only [go_sem, I_eq, I_cells, Nat.reduceAdd, Nat.reduceBEq, Nat.reduceEqDiff, Nat.reduceLeDiff, Nat.reduceLT, Nat.reduceSub]
  · simp only [go_sem, I_eq, I_cells, Nat.reduceAdd, Nat.reduceBEq, Nat.reduceEqDiff, Nat.reduceLeDiff, Nat.reduceLT, Nat.reduceSub]
    exact Keeps.refl h
  · rintro i t hlt d2 hw f1 g13 g12 gK
    repeat' first
      | (with_reducible refine CondX.dec (fun c => ?_) (fun c => ?_)) <;> try (exfalso; omega)
      | (with_reducible refine CondX.beq (fun c => ?_) (fun c => ?_)) <;> try (exfalso; omega)
      | (with_reducible refine CondX.bne (fun c => ?_) (fun c => ?_)) <;> try (exfalso; omega)
      | (with_reducible refine CondX.bool (fun c => ?_) (fun c => ?_)) <;> try (exfalso; omega)
      | simp only [go_sem, I_eq, I_cells, Frm.at f1, g13, g12, d2, hw, encC, encC_cells, beq_self_eq_true, Bool.and_true, Bool.not_true, Nat.reduceAdd, Nat.reduceBEq, Nat.reduceEqDiff, Nat.reduceLeDiff, Nat.reduceLT, Nat.reduceSub]
      | simp (disch := omega) only [wrap_in, toNat_succ, toNat_pred, Int.toNat_natCast]
      | with_reducible refine And.intro (by omega) ?_
      | with_reducible refine exI (by omega) ?_
      | fail
    all_goals exact gK
  · rintro t d2 f1 g13 g12 gK
    repeat' first
      | (with_reducible refine CondX.dec (fun c => ?_) (fun c => ?_)) <;> try (exfalso; omega)
      | (with_reducible refine CondX.beq (fun c => ?_) (fun c => ?_)) <;> try (exfalso; omega)
      | (with_reducible refine CondX.bne (fun c => ?_) (fun c => ?_)) <;> try (exfalso; omega)
      | (with_reducible refine CondX.bool (fun c => ?_) (fun c => ?_)) <;> try (exfalso; omega)
      | simp only [go_sem, I_eq, I_cells, Frm.at f1, g13, g12, d2, Nat.reduceAdd, Nat.reduceBEq, Nat.reduceEqDiff, Nat.reduceLeDiff, Nat.reduceLT, Nat.reduceSub]
      | simp (disch := omega) only [wrap_in, toNat_succ, toNat_pred, Int.toNat_natCast]
      | with_reducible refine And.intro (by omega) ?_
      | with_reducible refine exI (by omega) ?_
      | fail
    all_goals exact gK
theorem Same11_spec (e : Sid) (hl : e.out.length ≤ 9223372036854775807) : PureF Try.prog 69 [encE e, encE e] (.bool true) := by
  refine PureF.of_awp mixed (fun _ => []) (fn := Try.f69) (by kernel_rfl) rfl (by kernel_rfl) (by show 2 ≤ _; decide) (by simp [AV.lf]) (fun h => ?_)
  repeat' first
    | (with_reducible refine CondX.dec (fun c => ?_) (fun c => ?_)) <;> try (exfalso; omega)
    | (with_reducible refine CondX.beq (fun c => ?_) (fun c => ?_)) <;> try (exfalso; omega)
    | (with_reducible refine CondX.bne (fun c => ?_) (fun c => ?_)) <;> try (exfalso; omega)
    | (with_reducible refine CondX.bool (fun c => ?_) (fun c => ?_)) <;> try (exfalso; omega)
    | simp only [go_sem, I_eq, I_cells, encE, Nat.reduceAdd, Nat.reduceBEq, Nat.reduceEqDiff, Nat.reduceLeDiff, Nat.reduceLT, Nat.reduceSub]
    | simp (disch := omega) only [wrap_in, toNat_succ, toNat_pred, Int.toNat_natCast]
    | with_reducible refine And.intro (by omega) ?_
    | with_reducible refine exI (by omega) ?_
    | fail
  refine awp_countF [(4, 5), (37, 51)] (by kernel_rfl) 37 36 (by kernel_rfl) e.out.length (by omega) (fun _ t => t.hp.con ⟨69, 2, h.cnt 69 2⟩ = .blk (encE e).cells ∧ t.hp.con ⟨69, 3, h.cnt 69 3⟩ = .blk (encE e).cells ∧ Keeps h t.hp) ?_ ?_ ?_ ?_ ?_
  · simp only [go_sem, I_eq, I_cells, Nat.reduceAdd, Nat.reduceBEq, Nat.reduceEqDiff, Nat.reduceLeDiff, Nat.reduceLT, Nat.reduceSub]
  · simp only [go_sem, I_eq, I_cells, Nat.reduceAdd, Nat.reduceBEq, Nat.reduceEqDiff, Nat.reduceLeDiff, Nat.reduceLT, Nat.reduceSub]
  · simp only [go_sem, I_eq, I_cells, encE_cells, Nat.reduceAdd, Nat.reduceBEq, Nat.reduceEqDiff, Nat.reduceLeDiff, Nat.reduceLT, Nat.reduceSub]
    ((repeat first | with_reducible apply Keeps.alloc | (with_reducible refine Keeps.set ?_ ?hL _; case hL => first | assumption | exact Hp.ok _ _ (by simp) | exact Keeps.new (by assumption) _ _)); first | assumption | exact Keeps.refl _)
  · rintro i t hlt d2 hw f1 g13 g12 ⟨k2, k3, gK⟩
    repeat' first
      | (with_reducible refine CondX.dec (fun c => ?_) (fun c => ?_)) <;> try (exfalso; omega)
      | (with_reducible refine CondX.beq (fun c => ?_) (fun c => ?_)) <;> try (exfalso; omega)
      | (with_reducible refine CondX.bne (fun c => ?_) (fun c => ?_)) <;> try (exfalso; omega)
      | (with_reducible refine CondX.bool (fun c => ?_) (fun c => ?_)) <;> try (exfalso; omega)
      | simp only [go_sem, I_eq, I_cells, Frm.at f1, g13, g12, k2, k3, d2, hw, encE_cells, encM, encM_cells, beq_self_eq_true, Bool.and_true, Bool.not_true, Nat.reduceAdd, Nat.reduceBEq, Nat.reduceEqDiff, Nat.reduceLeDiff, Nat.reduceLT, Nat.reduceSub]
      | simp (disch := omega) only [wrap_in, toNat_succ, toNat_pred, Int.toNat_natCast]
      | with_reducible refine And.intro (by omega) ?_
      | with_reducible refine exI (by omega) ?_
      | fail
    all_goals exact gK
  · rintro t d2 f1 g13 g12 ⟨k2, k3, gK⟩
    repeat' first
      | (with_reducible refine CondX.dec (fun c => ?_) (fun c => ?_)) <;> try (exfalso; omega)
      | (with_reducible refine CondX.beq (fun c => ?_) (fun c => ?_)) <;> try (exfalso; omega)
      | (with_reducible refine CondX.bne (fun c => ?_) (fun c => ?_)) <;> try (exfalso; omega)
      | (with_reducible refine CondX.bool (fun c => ?_) (fun c => ?_)) <;> try (exfalso; omega)
      | simp only [go_sem, I_eq, I_cells, Frm.at f1, g13, g12, d2, Nat.reduceAdd, Nat.reduceBEq, Nat.reduceEqDiff, Nat.reduceLeDiff, Nat.reduceLT, Nat.reduceSub]
      | simp (disch := omega) only [wrap_in, toNat_succ, toNat_pred, Int.toNat_natCast]
      | with_reducible refine And.intro (by omega) ?_
      | with_reducible refine exI (by omega) ?_
      | fail
    all_goals exact gK
def T35 : Nat → List Tg := fun id => if id = 6 then [.plain, .plain, .plain, .plain, .plain, .plain, .plain, .plain, .plain, .plain, .plain, .plain, .plain, .plain, .plain, .plain, .plain, .plain, .plain, .plain, .plain, .plain, .plain, .plain, .plain, .plain, .plain, .plain, .plain, .plain, .plain, .plain, .plain, .plain, .plain, .plain, .plain, .plain, .plain, .plain, .plain, .pure] else if id = 12 then [.plain, .plain, .plain, .plain, .plain, .plain, .plain, .plain, .plain, .plain, .pure] else []
theorem Same14_spec (s : Nst) (hs : Sized s) : PureF Try.prog 35 [encS s, encS s] (.bool true) := by
  refine PureF.of_awp mixed T35 (fn := Try.f35) (by kernel_rfl) rfl (by kernel_rfl) (by show 2 ≤ _; decide) (by simp [AV.lf]) (fun h => ?_)
  rw [awp_assoc]
  refine awp_cutF [(2, 4), (9, 56)] (by kernel_rfl) (fun t => t.slots 2 = .pt ⟨35, 2, h.cnt 35 2⟩ 0 0 0 ∧ t.slots 3 = .pt ⟨35, 3, h.cnt 35 3⟩ 0 0 0 ∧ t.hp.con ⟨35, 2, h.cnt 35 2⟩ = .blk (encS s).cells ∧ t.hp.con ⟨35, 3, h.cnt 35 3⟩ = .blk (encS s).cells ∧ Keeps h t.hp) ?_ ?_
  · repeat' first
      | (with_reducible refine CondX.dec (fun c => ?_) (fun c => ?_)) <;> try (exfalso; omega)
      | (with_reducible refine CondX.beq (fun c => ?_) (fun c => ?_)) <;> try (exfalso; omega)
      | (with_reducible refine CondX.bne (fun c => ?_) (fun c => ?_)) <;> try (exfalso; omega)
      | (with_reducible refine CondX.bool (fun c => ?_) (fun c => ?_)) <;> try (exfalso; omega)
      | simp only [go_sem, I_eq, I_cells, T35, encS, beq_self_eq_true, Bool.and_true, Bool.not_true, Nat.reduceAdd, Nat.reduceBEq, Nat.reduceEqDiff, Nat.reduceLeDiff, Nat.reduceLT, Nat.reduceSub]
      | simp (disch := omega) only [wrap_in, toNat_succ, toNat_pred, Int.toNat_natCast]
      | with_reducible refine And.intro (by omega) ?_
      | with_reducible refine exI (by omega) ?_
      | fail
    ((repeat first | with_reducible apply Keeps.alloc | (with_reducible refine Keeps.set ?_ ?hL _; case hL => first | assumption | exact Hp.ok _ _ (by simp) | exact Keeps.new (by assumption) _ _)); first | assumption | exact Keeps.refl _)
  rintro s0 f0 ⟨g2, g3, k2, k3, gK⟩
  refine awp_cutF [(4, 5), (57, 107)] (by kernel_rfl) (fun t => t.hp.con ⟨35, 2, h.cnt 35 2⟩ = .blk (encS s).cells ∧ t.hp.con ⟨35, 3, h.cnt 35 3⟩ = .blk (encS s).cells ∧ Keeps h t.hp) ?_ ?_
  · repeat' first
      | (with_reducible refine CondX.dec (fun c => ?_) (fun c => ?_)) <;> try (exfalso; omega)
      | (with_reducible refine CondX.beq (fun c => ?_) (fun c => ?_)) <;> try (exfalso; omega)
      | (with_reducible refine CondX.bne (fun c => ?_) (fun c => ?_)) <;> try (exfalso; omega)
      | (with_reducible refine CondX.bool (fun c => ?_) (fun c => ?_)) <;> try (exfalso; omega)
      | simp only [go_sem, I_eq, I_cells, T35, Frm.at f0, g2, g3, k2, k3, encS_cells, Nat.reduceAdd, Nat.reduceBEq, Nat.reduceEqDiff, Nat.reduceLeDiff, Nat.reduceLT, Nat.reduceSub]
      | simp (disch := omega) only [wrap_in, toNat_succ, toNat_pred, Int.toNat_natCast]
      | with_reducible refine And.intro (by omega) ?_
      | with_reducible refine exI (by omega) ?_
      | fail
    refine awp_countF [(4, 5), (60, 107)] (by kernel_rfl) 60 59 (by kernel_rfl) s.objs.length hs.objs (fun _ t => t.hp.con ⟨35, 2, h.cnt 35 2⟩ = .blk (encS s).cells ∧ t.hp.con ⟨35, 3, h.cnt 35 3⟩ = .blk (encS s).cells ∧ Keeps h t.hp) ?_ ?_ ?_ ?_ ?_
    · simp only [go_sem, I_eq, I_cells, Nat.reduceAdd, Nat.reduceBEq, Nat.reduceEqDiff, Nat.reduceLeDiff, Nat.reduceLT, Nat.reduceSub]
    · simp only [go_sem, I_eq, I_cells, Nat.reduceAdd, Nat.reduceBEq, Nat.reduceEqDiff, Nat.reduceLeDiff, Nat.reduceLT, Nat.reduceSub]
    · simp only [go_sem, I_eq, I_cells, encS_cells, Nat.reduceAdd, Nat.reduceBEq, Nat.reduceEqDiff, Nat.reduceLeDiff, Nat.reduceLT, Nat.reduceSub]
      exact ⟨k2, k3, gK⟩
    · clear k2 k3 gK
      rintro i t hlt d2 hw f1 ga gb ⟨k2, k3, gK⟩
      repeat' first
        | (with_reducible refine CondX.dec (fun c => ?_) (fun c => ?_)) <;> try (exfalso; omega)
        | (with_reducible refine CondX.beq (fun c => ?_) (fun c => ?_)) <;> try (exfalso; omega)
        | (with_reducible refine CondX.bne (fun c => ?_) (fun c => ?_)) <;> try (exfalso; omega)
        | (with_reducible refine CondX.bool (fun c => ?_) (fun c => ?_)) <;> try (exfalso; omega)
        | ((with_reducible refine CallX.id ?_); first | refine CallX.pure (Same13_spec s.objs[i].cells false false (hs.cells _ (List.getElem_mem hlt))) ?_)
        | ((with_reducible refine PureX.id ?_); first | refine PureX.of (Same13_spec s.objs[i].cells false false (hs.cells _ (List.getElem_mem hlt))) ?_)
        | simp only [go_sem, I_eq, I_cells, T35, Frm.at f1, Frm.at f0, g2, g3, k2, k3, ga, gb, d2, hw, encS_cells, encO, encO_cells, beq_self_eq_true, Bool.and_true, Bool.not_true, Nat.reduceAdd, Nat.reduceBEq, Nat.reduceEqDiff, Nat.reduceLeDiff, Nat.reduceLT, Nat.reduceSub]
        | simp (disch := omega) only [wrap_in, toNat_succ, toNat_pred, Int.toNat_natCast]
        | with_reducible refine And.intro (by omega) ?_
        | with_reducible refine exI (by omega) ?_
        | fail
      all_goals first | exact gK | exact ⟨rfl, rfl, gK⟩
    · clear k2 k3 gK
      rintro t d2 f1 ga gb ⟨k2, k3, gK⟩
      repeat' first
        | (with_reducible refine CondX.dec (fun c => ?_) (fun c => ?_)) <;> try (exfalso; omega)
        | (with_reducible refine CondX.beq (fun c => ?_) (fun c => ?_)) <;> try (exfalso; omega)
        | (with_reducible refine CondX.bne (fun c => ?_) (fun c => ?_)) <;> try (exfalso; omega)
        | (with_reducible refine CondX.bool (fun c => ?_) (fun c => ?_)) <;> try (exfalso; omega)
        | simp only [go_sem, I_eq, I_cells, T35, Frm.at f1, Frm.at f0, g2, g3, k2, k3, ga, gb, d2, Nat.reduceAdd, Nat.reduceBEq, Nat.reduceEqDiff, Nat.reduceLeDiff, Nat.reduceLT, Nat.reduceSub]
        | simp (disch := omega) only [wrap_in, toNat_succ, toNat_pred, Int.toNat_natCast]
        | with_reducible refine And.intro (by omega) ?_
        | with_reducible refine exI (by omega) ?_
        | fail
      all_goals first | exact gK | exact ⟨rfl, rfl, gK⟩
  clear k2 k3 gK
  rintro s1 f1 ⟨k2, k3, gK⟩
  refine awp_cutF [(4, 4), (6, 6), (108, 126)] (by kernel_rfl) (fun t => t.hp.con ⟨35, 2, h.cnt 35 2⟩ = .blk (encS s).cells ∧ t.hp.con ⟨35, 3, h.cnt 35 3⟩ = .blk (encS s).cells ∧ Keeps h t.hp) ?_ ?_
  · repeat' first
      | (with_reducible refine CondX.dec (fun c => ?_) (fun c => ?_)) <;> try (exfalso; omega)
      | (with_reducible refine CondX.beq (fun c => ?_) (fun c => ?_)) <;> try (exfalso; omega)
      | (with_reducible refine CondX.bne (fun c => ?_) (fun c => ?_)) <;> try (exfalso; omega)
      | (with_reducible refine CondX.bool (fun c => ?_) (fun c => ?_)) <;> try (exfalso; omega)
      | simp only [go_sem, I_eq, I_cells, T35, Frm.at f1, Frm.at f0, g2, g3, k2, k3, encS_cells, Nat.reduceAdd, Nat.reduceBEq, Nat.reduceEqDiff, Nat.reduceLeDiff, Nat.reduceLT, Nat.reduceSub]
      | simp (disch := omega) only [wrap_in, toNat_succ, toNat_pred, Int.toNat_natCast]
      | with_reducible refine And.intro (by omega) ?_
      | with_reducible refine exI (by omega) ?_
      | fail
    refine awp_countF [(4, 4), (6, 6), (111, 126)] (by kernel_rfl) 111 110 (by kernel_rfl) s.edges.length hs.edges (fun _ t => t.hp.con ⟨35, 2, h.cnt 35 2⟩ = .blk (encS s).cells ∧ t.hp.con ⟨35, 3, h.cnt 35 3⟩ = .blk (encS s).cells ∧ Keeps h t.hp) ?_ ?_ ?_ ?_ ?_
    · simp only [go_sem, I_eq, I_cells, Nat.reduceAdd, Nat.reduceBEq, Nat.reduceEqDiff, Nat.reduceLeDiff, Nat.reduceLT, Nat.reduceSub]
    · simp only [go_sem, I_eq, I_cells, Nat.reduceAdd, Nat.reduceBEq, Nat.reduceEqDiff, Nat.reduceLeDiff, Nat.reduceLT, Nat.reduceSub]
    · simp only [go_sem, I_eq, I_cells, encS_cells, Nat.reduceAdd, Nat.reduceBEq, Nat.reduceEqDiff, Nat.reduceLeDiff, Nat.reduceLT, Nat.reduceSub]
      exact ⟨k2, k3, gK⟩
    · clear k2 k3 gK
      rintro i t hlt d2 hw f2 ga gb ⟨k2, k3, gK⟩
      repeat' first
        | (with_reducible refine CondX.dec (fun c => ?_) (fun c => ?_)) <;> try (exfalso; omega)
        | (with_reducible refine CondX.beq (fun c => ?_) (fun c => ?_)) <;> try (exfalso; omega)
        | (with_reducible refine CondX.bne (fun c => ?_) (fun c => ?_)) <;> try (exfalso; omega)
        | (with_reducible refine CondX.bool (fun c => ?_) (fun c => ?_)) <;> try (exfalso; omega)
        | ((with_reducible refine CallX.id ?_); first | refine CallX.pure (Same11_spec s.edges[i] (hs.out _ (List.getElem_mem hlt))) ?_)
        | ((with_reducible refine PureX.id ?_); first | refine PureX.of (Same11_spec s.edges[i] (hs.out _ (List.getElem_mem hlt))) ?_)
        | simp only [go_sem, I_eq, I_cells, T35, Frm.at f2, Frm.at f1, Frm.at f0, g2, g3, k2, k3, ga, gb, d2, hw, encS_cells, encE, encE_cells, beq_self_eq_true, Bool.and_true, Bool.not_true, Nat.reduceAdd, Nat.reduceBEq, Nat.reduceEqDiff, Nat.reduceLeDiff, Nat.reduceLT, Nat.reduceSub]
        | simp (disch := omega) only [wrap_in, toNat_succ, toNat_pred, Int.toNat_natCast]
        | with_reducible refine And.intro (by omega) ?_
        | with_reducible refine exI (by omega) ?_
        | fail
      all_goals first | exact gK | exact ⟨rfl, rfl, gK⟩
    · clear k2 k3 gK
      rintro t d2 f2 ga gb ⟨k2, k3, gK⟩
      repeat' first
        | (with_reducible refine CondX.dec (fun c => ?_) (fun c => ?_)) <;> try (exfalso; omega)
        | (with_reducible refine CondX.beq (fun c => ?_) (fun c => ?_)) <;> try (exfalso; omega)
        | (with_reducible refine CondX.bne (fun c => ?_) (fun c => ?_)) <;> try (exfalso; omega)
        | (with_reducible refine CondX.bool (fun c => ?_) (fun c => ?_)) <;> try (exfalso; omega)
        | simp only [go_sem, I_eq, I_cells, T35, Frm.at f2, Frm.at f1, Frm.at f0, g2, g3, k2, k3, ga, gb, d2, Nat.reduceAdd, Nat.reduceBEq, Nat.reduceEqDiff, Nat.reduceLeDiff, Nat.reduceLT, Nat.reduceSub]
        | simp (disch := omega) only [wrap_in, toNat_succ, toNat_pred, Int.toNat_natCast]
        | with_reducible refine And.intro (by omega) ?_
        | with_reducible refine exI (by omega) ?_
        | fail
      all_goals first | exact gK | exact ⟨rfl, rfl, gK⟩
  clear k2 k3 gK
  rintro s2 f2 ⟨k2, k3, gK⟩
  refine awp_cutF [(4, 4), (7, 7), (127, 144)] (by kernel_rfl) (fun t => t.hp.con ⟨35, 2, h.cnt 35 2⟩ = .blk (encS s).cells ∧ t.hp.con ⟨35, 3, h.cnt 35 3⟩ = .blk (encS s).cells ∧ Keeps h t.hp) ?_ ?_
  · repeat' first
      | (with_reducible refine CondX.dec (fun c => ?_) (fun c => ?_)) <;> try (exfalso; omega)
      | (with_reducible refine CondX.beq (fun c => ?_) (fun c => ?_)) <;> try (exfalso; omega)
      | (with_reducible refine CondX.bne (fun c => ?_) (fun c => ?_)) <;> try (exfalso; omega)
      | (with_reducible refine CondX.bool (fun c => ?_) (fun c => ?_)) <;> try (exfalso; omega)
      | simp only [go_sem, I_eq, I_cells, T35, Frm.at f2, Frm.at f1, Frm.at f0, g2, g3, k2, k3, encS_cells, Nat.reduceAdd, Nat.reduceBEq, Nat.reduceEqDiff, Nat.reduceLeDiff, Nat.reduceLT, Nat.reduceSub]
      | simp (disch := omega) only [wrap_in, toNat_succ, toNat_pred, Int.toNat_natCast]
      | with_reducible refine And.intro (by omega) ?_
      | with_reducible refine exI (by omega) ?_
      | fail
    refine awp_countF [(4, 4), (7, 7), (130, 144)] (by kernel_rfl) 130 129 (by kernel_rfl) s.asks.length hs.asks (fun _ t => t.hp.con ⟨35, 2, h.cnt 35 2⟩ = .blk (encS s).cells ∧ t.hp.con ⟨35, 3, h.cnt 35 3⟩ = .blk (encS s).cells ∧ Keeps h t.hp) ?_ ?_ ?_ ?_ ?_
    · simp only [go_sem, I_eq, I_cells, Nat.reduceAdd, Nat.reduceBEq, Nat.reduceEqDiff, Nat.reduceLeDiff, Nat.reduceLT, Nat.reduceSub]
    · simp only [go_sem, I_eq, I_cells, Nat.reduceAdd, Nat.reduceBEq, Nat.reduceEqDiff, Nat.reduceLeDiff, Nat.reduceLT, Nat.reduceSub]
    · simp only [go_sem, I_eq, I_cells, encS_cells, Nat.reduceAdd, Nat.reduceBEq, Nat.reduceEqDiff, Nat.reduceLeDiff, Nat.reduceLT, Nat.reduceSub]
      exact ⟨k2, k3, gK⟩
    · clear k2 k3 gK
      rintro i t hlt d2 hw f3 ga gb ⟨k2, k3, gK⟩
      repeat' first
        | (with_reducible refine CondX.dec (fun c => ?_) (fun c => ?_)) <;> try (exfalso; omega)
        | (with_reducible refine CondX.beq (fun c => ?_) (fun c => ?_)) <;> try (exfalso; omega)
        | (with_reducible refine CondX.bne (fun c => ?_) (fun c => ?_)) <;> try (exfalso; omega)
        | (with_reducible refine CondX.bool (fun c => ?_) (fun c => ?_)) <;> try (exfalso; omega)
        | simp only [go_sem, I_eq, I_cells, T35, Frm.at f3, Frm.at f2, Frm.at f1, Frm.at f0, g2, g3, k2, k3, ga, gb, d2, hw, encS_cells, encA, encA_cells, beq_self_eq_true, Bool.and_true, Bool.not_true, Nat.reduceAdd, Nat.reduceBEq, Nat.reduceEqDiff, Nat.reduceLeDiff, Nat.reduceLT, Nat.reduceSub]
        | simp (disch := omega) only [wrap_in, toNat_succ, toNat_pred, Int.toNat_natCast]
        | with_reducible refine And.intro (by omega) ?_
        | with_reducible refine exI (by omega) ?_
        | fail
      all_goals first | exact gK | exact ⟨rfl, rfl, gK⟩
    · clear k2 k3 gK
      rintro t d2 f3 ga gb ⟨k2, k3, gK⟩
      repeat' first
        | (with_reducible refine CondX.dec (fun c => ?_) (fun c => ?_)) <;> try (exfalso; omega)
        | (with_reducible refine CondX.beq (fun c => ?_) (fun c => ?_)) <;> try (exfalso; omega)
        | (with_reducible refine CondX.bne (fun c => ?_) (fun c => ?_)) <;> try (exfalso; omega)
        | (with_reducible refine CondX.bool (fun c => ?_) (fun c => ?_)) <;> try (exfalso; omega)
        | simp only [go_sem, I_eq, I_cells, T35, Frm.at f3, Frm.at f2, Frm.at f1, Frm.at f0, g2, g3, k2, k3, ga, gb, d2, Nat.reduceAdd, Nat.reduceBEq, Nat.reduceEqDiff, Nat.reduceLeDiff, Nat.reduceLT, Nat.reduceSub]
        | simp (disch := omega) only [wrap_in, toNat_succ, toNat_pred, Int.toNat_natCast]
        | with_reducible refine And.intro (by omega) ?_
        | with_reducible refine exI (by omega) ?_
        | fail
      all_goals first | exact gK | exact ⟨rfl, rfl, gK⟩
  clear k2 k3 gK
  rintro s3 f3 ⟨k2, k3, gK⟩
  repeat' first
    | (with_reducible refine CondX.dec (fun c => ?_) (fun c => ?_)) <;> try (exfalso; omega)
    | (with_reducible refine CondX.beq (fun c => ?_) (fun c => ?_)) <;> try (exfalso; omega)
    | (with_reducible refine CondX.bne (fun c => ?_) (fun c => ?_)) <;> try (exfalso; omega)
    | (with_reducible refine CondX.bool (fun c => ?_) (fun c => ?_)) <;> try (exfalso; omega)
    | simp only [go_sem, I_eq, I_cells, T35, Frm.at f3, Frm.at f2, Frm.at f1, Frm.at f0, g2, g3, k2, k3, encS_cells, Nat.reduceAdd, Nat.reduceBEq, Nat.reduceEqDiff, Nat.reduceLeDiff, Nat.reduceLT, Nat.reduceSub]
    | simp (disch := omega) only [wrap_in, toNat_succ, toNat_pred, Int.toNat_natCast]
    | with_reducible refine And.intro (by omega) ?_
    | with_reducible refine exI (by omega) ?_
    | fail
  refine awp_countF [(4, 4), (8, 8), (148, 162)] (by kernel_rfl) 148 147 (by kernel_rfl) s.got.length hs.got (fun _ t => t.hp.con ⟨35, 2, h.cnt 35 2⟩ = .blk (encS s).cells ∧ t.hp.con ⟨35, 3, h.cnt 35 3⟩ = .blk (encS s).cells ∧ Keeps h t.hp) ?_ ?_ ?_ ?_ ?_
  · simp only [go_sem, I_eq, I_cells, Nat.reduceAdd, Nat.reduceBEq, Nat.reduceEqDiff, Nat.reduceLeDiff, Nat.reduceLT, Nat.reduceSub]
  · simp only [go_sem, I_eq, I_cells, Nat.reduceAdd, Nat.reduceBEq, Nat.reduceEqDiff, Nat.reduceLeDiff, Nat.reduceLT, Nat.reduceSub]
  · simp only [go_sem, I_eq, I_cells, encS_cells, Nat.reduceAdd, Nat.reduceBEq, Nat.reduceEqDiff, Nat.reduceLeDiff, Nat.reduceLT, Nat.reduceSub]
    exact ⟨k2, k3, gK⟩
  · clear k2 k3 gK
    rintro i t hlt d2 hw f4 ga gb ⟨k2, k3, gK⟩
    repeat' first
      | (with_reducible refine CondX.dec (fun c => ?_) (fun c => ?_)) <;> try (exfalso; omega)
      | (with_reducible refine CondX.beq (fun c => ?_) (fun c => ?_)) <;> try (exfalso; omega)
      | (with_reducible refine CondX.bne (fun c => ?_) (fun c => ?_)) <;> try (exfalso; omega)
      | (with_reducible refine CondX.bool (fun c => ?_) (fun c => ?_)) <;> try (exfalso; omega)
      | simp only [go_sem, I_eq, I_cells, T35, Frm.at f4, Frm.at f3, Frm.at f2, Frm.at f1, Frm.at f0, g2, g3, k2, k3, ga, gb, d2, hw, encS_cells, encF, encF_cells, beq_self_eq_true, Bool.and_true, Bool.not_true, Nat.reduceAdd, Nat.reduceBEq, Nat.reduceEqDiff, Nat.reduceLeDiff, Nat.reduceLT, Nat.reduceSub]
      | simp (disch := omega) only [wrap_in, toNat_succ, toNat_pred, Int.toNat_natCast]
      | with_reducible refine And.intro (by omega) ?_
      | with_reducible refine exI (by omega) ?_
      | fail
    all_goals exact gK
  · clear k2 k3 gK
    rintro t d2 f4 ga gb ⟨k2, k3, gK⟩
    repeat' first
      | (with_reducible refine CondX.dec (fun c => ?_) (fun c => ?_)) <;> try (exfalso; omega)
      | (with_reducible refine CondX.beq (fun c => ?_) (fun c => ?_)) <;> try (exfalso; omega)
      | (with_reducible refine CondX.bne (fun c => ?_) (fun c => ?_)) <;> try (exfalso; omega)
      | (with_reducible refine CondX.bool (fun c => ?_) (fun c => ?_)) <;> try (exfalso; omega)
      | simp only [go_sem, I_eq, I_cells, T35, Frm.at f4, Frm.at f3, Frm.at f2, Frm.at f1, Frm.at f0, g2, g3, k2, k3, ga, gb, d2, Nat.reduceAdd, Nat.reduceBEq, Nat.reduceEqDiff, Nat.reduceLeDiff, Nat.reduceLT, Nat.reduceSub]
      | simp (disch := omega) only [wrap_in, toNat_succ, toNat_pred, Int.toNat_natCast]
      | with_reducible refine And.intro (by omega) ?_
      | with_reducible refine exI (by omega) ?_
      | fail
    all_goals exact gK
end Go.Proofs.Ytmajndgdfmnchaa
