/- Part of a proof: what functions of the given program compute, and plain laws of it. -/
import Derived.Test.YtocfaflghcgniaaDoorZ6
import Derived.Lib.IndexLaws
/- strings.SplitSeq: the pieces of a text, one by one. -/
namespace Go.Sc
theorem indexByte_lt {l : Bs} {c : UInt8} {i : Nat} (h : Lib.indexByte l c = i) : i < l.length := by
  have h1 := (Lib.indexByte_some h).1
  rcases Nat.lt_or_ge i l.length with h2 | h2
  · exact h2
  · rw [List.getElem?_eq_none h2] at h1; cases h1
theorem cut_none {l : Bs} {c : UInt8} (h : Lib.indexByte l c = -1) : cut c l = [l] := by
  refine cut_one c l fun hm => ?_
  obtain ⟨k, hk, e⟩ := List.mem_iff_getElem.1 hm
  exact Lib.indexByte_none h k (by rw [List.getElem?_eq_getElem hk, e])
theorem cut_some {l : Bs} {c : UInt8} {i : Nat} (h : Lib.indexByte l c = i) : cut c l = l.take i :: cut c (l.drop (i + 1)) := by
  have hi := indexByte_lt h
  obtain ⟨h1, h2⟩ := Lib.indexByte_some h
  have e : l = l.take i ++ c :: l.drop (i + 1) := by
    rw [List.getElem?_eq_getElem hi] at h1
    injection h1 with h1
    rw [← h1, ← List.drop_eq_getElem_cons hi, List.take_append_drop]
  have hn : c ∉ l.take i := fun hm => by
    obtain ⟨k, hk, e⟩ := List.mem_iff_getElem.1 hm
    have hk' : k < i := by simp at hk; omega
    exact h2 k hk' (by rw [List.getElem?_eq_getElem (by omega), ← e, List.getElem_take])
  conv => lhs; rw [e]
  exact cut_app c _ _ hn
end Go.Sc
namespace Go.Proofs.YtocfaflghcgniaaDoor
open Go Go.T Go.Proofs Go.Sc Go.RowKit
set_option linter.unusedSimpArgs false
set_option linter.unusedVariables false
set_option maxRecDepth 10000
theorem splitSeq_spec (s p : Bs) (h : Hp) : CallK Tryd.prog 28 [strV s, strV p, .int .i64 0] h (fun r H => Keeps h H ∧ ∃ a b c : Nat, r = .fn (.func 35) [.pt ⟨28, 4, b⟩ 0 0 0, .pt ⟨28, 3, a⟩ 0 0 0, .pt ⟨28, 5, c⟩ 0 0 0] ∧
    H.con ⟨28, 3, a⟩ = .blk [strV s] ∧ H.con ⟨28, 4, b⟩ = .blk [strV p] ∧ H.con ⟨28, 5, c⟩ = .blk [.int .i64 0] ∧ h.con ⟨28, 3, a⟩ = .none) := by
  refine CallK.of_awpH mixed (fun _ => []) (fn := Tryd.f28) (by kernel_rfl) rfl (by kernel_rfl) (by show 3 ≤ _; decide) ?_
  repeat' first
    | (with_reducible refine CondX.dec (fun c => ?_) (fun c => ?_)) <;> try (exfalso; omega)
    | (with_reducible refine CondX.beq (fun c => ?_) (fun c => ?_)) <;> try (exfalso; omega)
    | (with_reducible refine CondX.bne (fun c => ?_) (fun c => ?_)) <;> try (exfalso; omega)
    | (with_reducible refine CondX.bool (fun c => ?_) (fun c => ?_)) <;> try (exfalso; omega)
    | simp only [go_sem, I_eq, I_cells, Nat.reduceAdd, Nat.reduceBEq, Nat.reduceEqDiff, Nat.reduceLeDiff, Nat.reduceLT, Nat.reduceSub]
    | simp (disch := omega) only [wrap_in, toNat_succ, toNat_pred, Int.toNat_natCast]
    | with_reducible refine And.intro (by omega) ?_
    | with_reducible refine exI (by omega) ?_
    | fail
  refine ⟨by ((repeat first | with_reducible apply Keeps.alloc | (with_reducible refine Keeps.set ?_ ?hL _; case hL => first | assumption | exact Hp.ok _ _ (by simp) | exact Keeps.new (by assumption) _ _)); first | assumption | exact Keeps.refl _), _, _, _, rfl, ?_⟩
  simp only [if_true]
  exact ⟨trivial, trivial, trivial, h.ok _ (by simp)⟩
theorem SplitSeq_spec (s p : Bs) (h : Hp) : CallK Tryd.prog 15 [strV s, strV p] h (fun r H => Keeps h H ∧ ∃ a b c : Nat, r = .fn (.func 35) [.pt ⟨28, 4, b⟩ 0 0 0, .pt ⟨28, 3, a⟩ 0 0 0, .pt ⟨28, 5, c⟩ 0 0 0] ∧
    H.con ⟨28, 3, a⟩ = .blk [strV s] ∧ H.con ⟨28, 4, b⟩ = .blk [strV p] ∧ H.con ⟨28, 5, c⟩ = .blk [.int .i64 0] ∧ h.con ⟨28, 3, a⟩ = .none) := by
  refine CallK.of_awpH mixed (fun _ => []) (fn := Tryd.f15) (by kernel_rfl) rfl (by kernel_rfl) (by show 2 ≤ _; decide) ?_
  repeat' first
    | (with_reducible refine CondX.dec (fun c => ?_) (fun c => ?_)) <;> try (exfalso; omega)
    | (with_reducible refine CondX.beq (fun c => ?_) (fun c => ?_)) <;> try (exfalso; omega)
    | (with_reducible refine CondX.bne (fun c => ?_) (fun c => ?_)) <;> try (exfalso; omega)
    | (with_reducible refine CondX.bool (fun c => ?_) (fun c => ?_)) <;> try (exfalso; omega)
    | simp only [go_sem, I_eq, I_cells, Nat.reduceAdd, Nat.reduceBEq, Nat.reduceEqDiff, Nat.reduceLeDiff, Nat.reduceLT, Nat.reduceSub]
    | simp (disch := omega) only [wrap_in, toNat_succ, toNat_pred, Int.toNat_natCast]
    | with_reducible refine And.intro (by omega) ?_
    | with_reducible refine exI (by omega) ?_
    | fail
  refine CallX.of ((splitSeq_spec s p h).mono ?_)
  rintro r H ⟨gk, a, b, c, rfl, g3, g4, g5, gn⟩
  repeat' first
    | (with_reducible refine CondX.dec (fun c => ?_) (fun c => ?_)) <;> try (exfalso; omega)
    | (with_reducible refine CondX.beq (fun c => ?_) (fun c => ?_)) <;> try (exfalso; omega)
    | (with_reducible refine CondX.bne (fun c => ?_) (fun c => ?_)) <;> try (exfalso; omega)
    | (with_reducible refine CondX.bool (fun c => ?_) (fun c => ?_)) <;> try (exfalso; omega)
    | simp only [go_sem, I_eq, I_cells, Nat.reduceAdd, Nat.reduceBEq, Nat.reduceEqDiff, Nat.reduceLeDiff, Nat.reduceLT, Nat.reduceSub]
    | simp (disch := omega) only [wrap_in, toNat_succ, toNat_pred, Int.toNat_natCast]
    | with_reducible refine And.intro (by omega) ?_
    | with_reducible refine exI (by omega) ?_
    | fail
  exact ⟨a, b, c, rfl, g3, g4, g5, gn⟩
theorem splitSeq_iter (l : Bs) (sp : UInt8) (a b d : Nat) (hl : l.length ≤ 65536) : IterL Tryd.prog 35 [.pt ⟨28, 4, b⟩ 0 0 0, .pt ⟨28, 3, a⟩ 0 0 0, .pt ⟨28, 5, d⟩ 0 0 0] [28] ⟨28, 3, a⟩
    [(⟨28, 3, a⟩, .blk [strV l]), (⟨28, 4, b⟩, .blk [strV [sp]]), (⟨28, 5, d⟩, .blk [.int .i64 0])] ((cut sp l).map fun p => [strV p]) := by
  intro L h K Iv D hcs stab stabD hF I0 hY hE hD
  obtain ⟨xs, hxs⟩ : ∃ xs, (cut sp l).map (fun p => [strV p]) = xs := ⟨_, rfl⟩
  rw [hxs] at hY hE
  have k3 := (hcs (⟨28, 3, a⟩, .blk [strV l]) (by simp)).2
  have k4 := (hcs (⟨28, 4, b⟩, .blk [strV [sp]]) (by simp)).2
  have k5 := (hcs (⟨28, 5, d⟩, .blk [.int .i64 0]) (by simp)).2
  clear hcs
  have hc1 : [sp].length = 1 := rfl
  refine CallK.of_awpH mixed (fun _ => []) (fn := Tryd.f35) (by kernel_rfl) rfl (by kernel_rfl) (by show 4 ≤ _; decide) ?_
  repeat' first
    | (with_reducible refine CondX.dec (fun c => ?_) (fun c => ?_)) <;> try (exfalso; omega)
    | (with_reducible refine CondX.beq (fun c => ?_) (fun c => ?_)) <;> try (exfalso; omega)
    | (with_reducible refine CondX.bne (fun c => ?_) (fun c => ?_)) <;> try (exfalso; omega)
    | (with_reducible refine CondX.bool (fun c => ?_) (fun c => ?_)) <;> try (exfalso; omega)
    | simp only [go_sem, I_eq, I_cells, k3, k4, k5, hc1, Nat.reduceAdd, Nat.reduceBEq, Nat.reduceEqDiff, Nat.reduceLeDiff, Nat.reduceLT, Nat.reduceSub]
    | simp (disch := omega) only [wrap_in, toNat_succ, toNat_pred, Int.toNat_natCast]
    | with_reducible refine And.intro (by omega) ?_
    | with_reducible refine exI (by omega) ?_
    | fail
  clear c
  simp only at k3 k4 k5
  have stab3 : ∀ i g (r : Con), Iv i g → Iv i (g.set ⟨28, 3, a⟩ r) := fun i g r hi => stab i g _ hi (fun M hM => by
    have : M ≠ ⟨28, 3, a⟩ := by
      rintro rfl
      rcases hM with h1 | h1
      · exact h1 (by rw [set_none_at, if_pos rfl])
      · exact h1.1 (by simp)
    simp [Hp.set, this]) (by
    have : L ≠ ⟨28, 3, a⟩ := fun hE => hF (by rw [hE]; simp)
    simp [Hp.set, this])
  refine awp_fuelF [(7, 8), (29, 48)] (by kernel_rfl) (fun n t => ∃ (r : Bs) (k : Nat), r.length = n ∧ n ≤ 65536 ∧ t.hp.con ⟨28, 3, a⟩ = .blk [strV r] ∧ t.hp.con ⟨28, 4, b⟩ = .blk [strV [sp]] ∧ t.hp.con ⟨28, 5, d⟩ = .blk [.int .i64 0] ∧ k ≤ xs.length ∧ Iv k t.hp ∧ xs.drop k = (cut sp r).map fun p => [strV p]) l.length ?_ ?_
  · simp only [go_sem, I_eq, I_cells, Nat.reduceAdd, Nat.reduceBEq, Nat.reduceEqDiff, Nat.reduceLeDiff, Nat.reduceLT, Nat.reduceSub]
    exact ⟨l, 0, rfl, hl, k3, k4, k5, Nat.zero_le _, I0, by rw [← hxs]; rfl⟩
  · clear k3 k4 k5 I0
    rintro n t fr ⟨r, k, hr, hn, k3, k4, k5, hk, hI, hd⟩
    have ix := Index_at r sp
    obtain ⟨o, ho⟩ : ∃ o, Lib.indexByte r sp = o := ⟨_, rfl⟩
    have ho1 := Lib.indexByte_ge r sp
    rw [ho] at ix ho1
    repeat' first
      | (with_reducible refine CondX.dec (fun c => ?_) (fun c => ?_)) <;> try (exfalso; omega)
      | (with_reducible refine CondX.beq (fun c => ?_) (fun c => ?_)) <;> try (exfalso; omega)
      | (with_reducible refine CondX.bne (fun c => ?_) (fun c => ?_)) <;> try (exfalso; omega)
      | (with_reducible refine CondX.bool (fun c => ?_) (fun c => ?_)) <;> try (exfalso; omega)
      | ((with_reducible refine CallX.id ?_); first | refine CallX.pure (ix) ?_)
      | simp only [go_sem, I_eq, I_cells, fr.at, k3, k4, k5, hc1, Nat.reduceAdd, Nat.reduceBEq, Nat.reduceEqDiff, Nat.reduceLeDiff, Nat.reduceLT, Nat.reduceSub]
      | simp (disch := omega) only [wrap_in, toNat_succ, toNat_pred, Int.toNat_natCast]
      | with_reducible refine And.intro (by omega) ?_
      | with_reducible refine exI (by omega) ?_
      | fail
    · have e1 : o = -1 := by omega
      rw [e1] at ho
      rw [cut_none ho] at hd
      refine yield_step hY (r := []) (by rw [hd]; rfl) hI (fun g2 kf hI2 hd2 hk2 => ?_) (fun g2 kf hD2 => ?_)
      · repeat' first
          | (with_reducible refine CondX.dec (fun c => ?_) (fun c => ?_)) <;> try (exfalso; omega)
          | (with_reducible refine CondX.beq (fun c => ?_) (fun c => ?_)) <;> try (exfalso; omega)
          | (with_reducible refine CondX.bne (fun c => ?_) (fun c => ?_)) <;> try (exfalso; omega)
          | (with_reducible refine CondX.bool (fun c => ?_) (fun c => ?_)) <;> try (exfalso; omega)
          | simp only [go_sem, I_eq, I_cells, fr.at, Nat.reduceAdd, Nat.reduceBEq, Nat.reduceEqDiff, Nat.reduceLeDiff, Nat.reduceLT, Nat.reduceSub]
          | simp (disch := omega) only [wrap_in, toNat_succ, toNat_pred, Int.toNat_natCast]
          | with_reducible refine And.intro (by omega) ?_
          | with_reducible refine exI (by omega) ?_
          | fail
        exact hE _ ((drop_end hd2 hk2) ▸ hI2)
      · repeat' first
          | (with_reducible refine CondX.dec (fun c => ?_) (fun c => ?_)) <;> try (exfalso; omega)
          | (with_reducible refine CondX.beq (fun c => ?_) (fun c => ?_)) <;> try (exfalso; omega)
          | (with_reducible refine CondX.bne (fun c => ?_) (fun c => ?_)) <;> try (exfalso; omega)
          | (with_reducible refine CondX.bool (fun c => ?_) (fun c => ?_)) <;> try (exfalso; omega)
          | simp only [go_sem, I_eq, I_cells, fr.at, Nat.reduceAdd, Nat.reduceBEq, Nat.reduceEqDiff, Nat.reduceLeDiff, Nat.reduceLT, Nat.reduceSub]
          | simp (disch := omega) only [wrap_in, toNat_succ, toNat_pred, Int.toNat_natCast]
          | with_reducible refine And.intro (by omega) ?_
          | with_reducible refine exI (by omega) ?_
          | fail
        exact hD _ hD2
    · obtain ⟨i, rfl⟩ := Int.eq_ofNat_of_zero_le (show 0 ≤ o by omega)
      have hi := indexByte_lt ho
      have w1 : IntKind.i64.wrap ((i : Int) + 0) = (i : Int) := by rw [IntWalk.i64_in _ (by omega)]; simp
      have w2 : IntKind.i64.wrap ((i : Int) + 1) = ((i + 1 : Nat) : Int) := by rw [IntWalk.i64_in _ (by omega)]; simp
      rw [cut_some ho] at hd
      repeat' first
        | (with_reducible refine CondX.dec (fun c => ?_) (fun c => ?_)) <;> try (exfalso; omega)
        | (with_reducible refine CondX.beq (fun c => ?_) (fun c => ?_)) <;> try (exfalso; omega)
        | (with_reducible refine CondX.bne (fun c => ?_) (fun c => ?_)) <;> try (exfalso; omega)
        | (with_reducible refine CondX.bool (fun c => ?_) (fun c => ?_)) <;> try (exfalso; omega)
        | simp only [go_sem, I_eq, I_cells, fr.at, k3, k4, k5, w1, w2, hc1, Nat.reduceAdd, Nat.reduceBEq, Nat.reduceEqDiff, Nat.reduceLeDiff, Nat.reduceLT, Nat.reduceSub]
        | simp (disch := omega) only [wrap_in, toNat_succ, toNat_pred, Int.toNat_natCast]
        | with_reducible refine And.intro (by omega) ?_
        | with_reducible refine exI (by omega) ?_
        | fail
      refine yield_step hY (r := (cut sp (r.drop (i + 1))).map fun p => [strV p]) (by rw [hd]; rfl) hI (fun g2 kf hI2 hd2 hk2 => ?_) (fun g2 kf hD2 => ?_)
      · have q3 : g2.con ⟨28, 3, a⟩ = .blk [strV r] := by rw [kf _ (by simp) (by rw [k3]; simp), k3]
        have q4 : g2.con ⟨28, 4, b⟩ = .blk [strV [sp]] := by rw [kf _ (by simp) (by rw [k4]; simp), k4]
        have q5 : g2.con ⟨28, 5, d⟩ = .blk [.int .i64 0] := by rw [kf _ (by simp) (by rw [k5]; simp), k5]
        repeat' first
          | (with_reducible refine CondX.dec (fun c => ?_) (fun c => ?_)) <;> try (exfalso; omega)
          | (with_reducible refine CondX.beq (fun c => ?_) (fun c => ?_)) <;> try (exfalso; omega)
          | (with_reducible refine CondX.bne (fun c => ?_) (fun c => ?_)) <;> try (exfalso; omega)
          | (with_reducible refine CondX.bool (fun c => ?_) (fun c => ?_)) <;> try (exfalso; omega)
          | simp only [go_sem, I_eq, I_cells, fr.at, q3, q4, q5, w1, w2, hc1, Nat.reduceAdd, Nat.reduceBEq, Nat.reduceEqDiff, Nat.reduceLeDiff, Nat.reduceLT, Nat.reduceSub]
          | simp (disch := omega) only [wrap_in, toNat_succ, toNat_pred, Int.toNat_natCast]
          | with_reducible refine And.intro (by omega) ?_
          | with_reducible refine exI (by omega) ?_
          | fail
        refine ⟨_, ?_, r.drop (i + 1), k + 1, rfl, by rw [List.length_drop]; omega, rfl, hk2, stab3 _ _ _ hI2, hd2⟩
        rw [List.length_drop]; omega
      · repeat' first
          | (with_reducible refine CondX.dec (fun c => ?_) (fun c => ?_)) <;> try (exfalso; omega)
          | (with_reducible refine CondX.beq (fun c => ?_) (fun c => ?_)) <;> try (exfalso; omega)
          | (with_reducible refine CondX.bne (fun c => ?_) (fun c => ?_)) <;> try (exfalso; omega)
          | (with_reducible refine CondX.bool (fun c => ?_) (fun c => ?_)) <;> try (exfalso; omega)
          | simp only [go_sem, I_eq, I_cells, fr.at, Nat.reduceAdd, Nat.reduceBEq, Nat.reduceEqDiff, Nat.reduceLeDiff, Nat.reduceLT, Nat.reduceSub]
          | simp (disch := omega) only [wrap_in, toNat_succ, toNat_pred, Int.toNat_natCast]
          | with_reducible refine And.intro (by omega) ?_
          | with_reducible refine exI (by omega) ?_
          | fail
        exact hD _ hD2
end Go.Proofs.YtocfaflghcgniaaDoor
