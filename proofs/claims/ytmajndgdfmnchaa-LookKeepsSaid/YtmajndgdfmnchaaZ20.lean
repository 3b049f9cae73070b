/- Part of a proof: what functions of the given program compute, and plain laws of it. -/
import Derived.Test.YtmajndgdfmnchaaZ18
import Derived.Test.YtmajndgdfmnchaaZ19
import Derived.Test.YtmajndgdfmnchaaT7
/- Layer 19 wakes. -/
namespace Go.Proofs.Ytmajndgdfmnchaa
open Go Go.T Go.Gh Go.Proofs
set_option linter.unusedSimpArgs false
set_option linter.unusedVariables false
set_option maxRecDepth 10000
set_option maxHeartbeats 4000000
theorem First_spec (ps : List Int) (homes : List Int) (e : Bool) (me : Int) (hok : TreeOk ps) (hh : homesB ps.length homes = true) (hm : 0 ≤ me ∧ me < ps.length) :
    PureF Try.prog 31 [treeV ps, .l e 1 (homes.map I), .int .i64 me] (.tup [encS (firstS ps homes me), .int .i64 0]) := by
  intro h
  refine CallK.pure (K := fun r => r = .tup [encS (firstS ps homes me), .int .i64 0]) (CallK.frz (First_own ps homes e me hok hh hm h _ fun L H cL nL kp => ?_))
  refine ⟨H.set L .none, _, .step _ L _ _ _ (.done _ _ _ ?_), by simp [AV.lf, AV.lfs, encS_lf], kp.set nL _, rfl⟩
  have hE : AV.lfs ((nbr ps me).map fun v => encE (firstE v)) = true := by
    have := E_lfs ((nbr ps me).map firstE)
    rwa [List.map_map] at this
  have hR : ∀ L c (l : List Int), AV.frzs L c (l.map (rawO ps me)) = l.map (rawO ps me) := fun L c l => frzs_lf L c _ (by
    rw [lfs_iff]; intro x hx; obtain ⟨v, _, rfl⟩ := List.mem_map.1 hx
    unfold rawO; split <;> simp [AV.lf, AV.lfs, encC])
  rw [cL]
  simp only [AV.frz, AV.frzs, if_true, frzs_lf _ _ _ hE]
  refine Le.tupF (.cons ?_ (LeF.refl _))
  unfold encS firstS
  refine Le.aggF (.cons (Le.refl _) (.cons ?_ (.cons ?_ (LeF.refl _))))
  · rw [List.map_map]
    refine Le.lstR (LeR.map (fun x => ?_) homes)
    show LeF (rawO ps me x).cells (encO (firstO ps me x)).cells
    refine .cons (Le.refl _) (.cons (Le.refl _) (.cons ?_ .nil))
    simp only [firstO]
    split
    · exact Le.l
    · exact Le.l0
  · rw [List.map_map]; exact Le.refl _
def w0 : List Int := [-1, 0]
def wa : Nst := ⟨0, [⟨1, 0, []⟩], [⟨1, 0, [], 0⟩], 0, [], []⟩
def wb : Nst := ⟨1, [⟨1, 0, [⟨0, 3, -1, 0⟩]⟩], [⟨0, 0, [], 0⟩], 0, [], []⟩
def wc : Nst := ⟨0, [⟨0, 1, [⟨1, 1, -1, 0⟩]⟩], [⟨1, 0, [], 0⟩], 0, [], []⟩
theorem w0_ok : TreeOk w0 := by unfold TreeOk; kernel_rfl
theorem w0_n0 : nbr w0 0 = [1] := by rw [nbr_eq w0_ok]; kernel_rfl
theorem w0_n1 : nbr w0 1 = [0] := by rw [nbr_eq w0_ok]; kernel_rfl
theorem w0_b : firstS w0 [1] 1 = wb := by
  unfold firstS; rw [w0_n1]; kernel_rfl
theorem w0_h : holder [wa, wb] 0 = (1, 0) := by kernel_rfl
theorem w0_l : lawR w0 [wa, wb] 0 = 0 := by kernel_rfl
theorem w0_l3 : lawR w0 [wc, wb] 0 = 3 := by kernel_rfl
theorem w_sized : ∀ s ∈ [wa, wb], Sized s := by
  intro s hs
  simp only [List.mem_cons, List.not_mem_nil, or_false] at hs
  rcases hs with rfl | rfl <;> exact ⟨by decide, by decide, by decide, by decide, by decide, by decide⟩
theorem wc_sized : ∀ s ∈ [wc, wb], Sized s := by
  intro s hs
  simp only [List.mem_cons, List.not_mem_nil, or_false] at hs
  rcases hs with rfl | rfl <;> exact ⟨by decide, by decide, by decide, by decide, by decide, by decide⟩
theorem treeV_lf (ps : List Int) : (treeV ps).lf = true := by simp [treeV, AV.lf, AV.lfs, I_lfs, near_lfs]
theorem encE_lf (e : Sid) : (encE e).lf = true := by simp [encE, AV.lf, AV.lfs, M_lfs]
theorem wakes19_spec : PureF Try.prog 22 [] (.bool true) := by
  refine PureF.of_awp mixed (fun _ => []) (fn := Try.f22) (by kernel_rfl) rfl (by kernel_rfl) (by show 0 ≤ _; decide) (by simp [AV.lf]) (fun h => ?_)
  repeat' first
    | (with_reducible refine CondX.dec (fun c => ?_) (fun c => ?_)) <;> try (exfalso; omega)
    | (with_reducible refine CondX.beq (fun c => ?_) (fun c => ?_)) <;> try (exfalso; omega)
    | (with_reducible refine CondX.bne (fun c => ?_) (fun c => ?_)) <;> try (exfalso; omega)
    | (with_reducible refine CondX.bool (fun c => ?_) (fun c => ?_)) <;> try (exfalso; omega)
    | ((with_reducible refine CallX.id ?_); first | refine CallX.pure (f19_spec w0 true w0_ok) ?_)
    | simp only [go_sem, I_eq, I_cells, Nat.reduceAdd, Nat.reduceBEq, Nat.reduceEqDiff, Nat.reduceLeDiff, Nat.reduceLT, Nat.reduceSub]
    | simp (disch := omega) only [wrap_in, toNat_succ, toNat_pred, Int.toNat_natCast]
    | with_reducible refine And.intro (by omega) ?_
    | with_reducible refine exI (by omega) ?_
    | fail
  refine CallX.of (First_own w0 [1] true 0 w0_ok (by decide) (by decide) _ _ fun La H1 cL nL kp1 => ?_)
  rw [w0_n0]
  have fb := First_spec w0 [1] true 1 w0_ok (by decide) (by decide)
  rw [w0_b] at fb
  have l3 := fun s => lab_ne (L := La) (h := H1) (by rw [cL]; trivial) 22 s
  have l3' := fun s => ne_lab (L := La) (h := H1) (by rw [cL]; trivial) 22 s
  have cL' : H1.con La = .arr 3 [.agg [.int .i64 1, .int .i64 0, .l true 0 []]] := by rw [cL]; rfl
  repeat' first
    | (with_reducible refine CondX.dec (fun c => ?_) (fun c => ?_)) <;> try (exfalso; omega)
    | (with_reducible refine CondX.beq (fun c => ?_) (fun c => ?_)) <;> try (exfalso; omega)
    | (with_reducible refine CondX.bne (fun c => ?_) (fun c => ?_)) <;> try (exfalso; omega)
    | (with_reducible refine CondX.bool (fun c => ?_) (fun c => ?_)) <;> try (exfalso; omega)
    | ((with_reducible refine CallX.id ?_); first | refine CallX.pure (fb) ?_)
    | simp only [go_sem, I_eq, I_cells, encS_cells, l3, cL', Nat.reduceAdd, Nat.reduceBEq, Nat.reduceEqDiff, Nat.reduceLeDiff, Nat.reduceLT, Nat.reduceSub]
    | simp (disch := omega) only [wrap_in, toNat_succ, toNat_pred, Int.toNat_natCast]
    | with_reducible refine And.intro (by omega) ?_
    | with_reducible refine exI (by omega) ?_
    | fail
  refine CallX.of (CallK.lendL [La] (Holder_spec [wa, wb] true 0 (by decide)) ?_ (by rw [w0_h]; simp [pairV, AV.sn, AV.sns]) ?_)
  · simp only [go_sem, I_eq, I_cells, lendA, List.map, AV.frz, AV.frzs, l3, l3', cL', frzs_lf _ _ _ (O_lfs _), frzs_lf _ _ _ (E_lfs _), frzs_lf _ _ _ (A_lfs _), frzs_lf _ _ _ (F_lfs _), frz_lf _ _ _ (encE_lf _), frz_lf _ _ _ (treeV_lf _), Nat.reduceAdd, Nat.reduceBEq, Nat.reduceEqDiff, Nat.reduceLeDiff, Nat.reduceLT, Nat.reduceSub]
    refine .cons (Le.lstR (.cons ?_ (.cons (LeF.refl _) .nil))) (LeF.refl _)
    refine .cons (Le.refl _) (.cons (Le.lstR (LeR.cons ?_ .nil)) (LeF.refl _))
    exact .cons (Le.refl _) (.cons (Le.refl _) (.cons Le.l0 .nil))
  rw [w0_h]
  repeat' first
    | (with_reducible refine CondX.dec (fun c => ?_) (fun c => ?_)) <;> try (exfalso; omega)
    | (with_reducible refine CondX.beq (fun c => ?_) (fun c => ?_)) <;> try (exfalso; omega)
    | (with_reducible refine CondX.bne (fun c => ?_) (fun c => ?_)) <;> try (exfalso; omega)
    | (with_reducible refine CondX.bool (fun c => ?_) (fun c => ?_)) <;> try (exfalso; omega)
    | simp only [go_sem, I_eq, I_cells, pairV, encS_cells, l3, cL', Nat.reduceAdd, Nat.reduceBEq, Nat.reduceEqDiff, Nat.reduceLeDiff, Nat.reduceLT, Nat.reduceSub]
    | simp (disch := omega) only [wrap_in, toNat_succ, toNat_pred, Int.toNat_natCast]
    | with_reducible refine And.intro (by omega) ?_
    | with_reducible refine exI (by omega) ?_
    | fail
  refine CallX.of (CallK.lendL [La] (Law_spec w0 [wa, wb] true 0 w0_ok w_sized) ?_ (by simp [AV.sn]) ?_)
  · simp only [go_sem, I_eq, I_cells, lendA, List.map, AV.frz, AV.frzs, l3, l3', cL', frzs_lf _ _ _ (O_lfs _), frzs_lf _ _ _ (E_lfs _), frzs_lf _ _ _ (A_lfs _), frzs_lf _ _ _ (F_lfs _), frz_lf _ _ _ (encE_lf _), frz_lf _ _ _ (treeV_lf _), Nat.reduceAdd, Nat.reduceBEq, Nat.reduceEqDiff, Nat.reduceLeDiff, Nat.reduceLT, Nat.reduceSub]
    refine .cons (Le.refl _) (.cons (Le.lstR (.cons ?_ (.cons (LeF.refl _) .nil))) (LeF.refl _))
    refine .cons (Le.refl _) (.cons (Le.lstR (LeR.cons ?_ .nil)) (LeF.refl _))
    exact .cons (Le.refl _) (.cons (Le.refl _) (.cons Le.l0 .nil))
  rw [w0_l]
  repeat' first
    | (with_reducible refine CondX.dec (fun c => ?_) (fun c => ?_)) <;> try (exfalso; omega)
    | (with_reducible refine CondX.beq (fun c => ?_) (fun c => ?_)) <;> try (exfalso; omega)
    | (with_reducible refine CondX.bne (fun c => ?_) (fun c => ?_)) <;> try (exfalso; omega)
    | (with_reducible refine CondX.bool (fun c => ?_) (fun c => ?_)) <;> try (exfalso; omega)
    | simp only [go_sem, I_eq, I_cells, encS_cells, l3, l3', cL', AV.over, List.length_set, List.length_cons, List.length_nil, List.set_cons_zero, List.getElem_cons_zero, Nat.reduceAdd, Nat.reduceBEq, Nat.reduceEqDiff, Nat.reduceLeDiff, Nat.reduceLT, Nat.reduceSub]
    | simp (disch := omega) only [wrap_in, toNat_succ, toNat_pred, Int.toNat_natCast]
    | with_reducible refine And.intro (by omega) ?_
    | with_reducible refine exI (by omega) ?_
    | fail
  refine CallX.of (CallK.lendL [La] (Law_spec w0 [wc, wb] true 0 w0_ok wc_sized) ?_ (by simp [AV.sn]) ?_)
  · simp only [go_sem, I_eq, I_cells, lendA, List.map, AV.frz, AV.frzs, l3, l3', cL', frzs_lf _ _ _ (O_lfs _), frzs_lf _ _ _ (E_lfs _), frzs_lf _ _ _ (A_lfs _), frzs_lf _ _ _ (F_lfs _), frz_lf _ _ _ (encE_lf _), frz_lf _ _ _ (treeV_lf _), Nat.reduceAdd, Nat.reduceBEq, Nat.reduceEqDiff, Nat.reduceLeDiff, Nat.reduceLT, Nat.reduceSub]
    refine .cons (Le.refl _) (.cons (Le.lstR (.cons ?_ (.cons (LeF.refl _) .nil))) (LeF.refl _))
    refine .cons (Le.refl _) (.cons (Le.lstR (LeR.cons ?_ .nil)) (LeF.refl _))
    exact .cons (Le.refl _) (.cons (Le.refl _) (.cons Le.l .nil))
  rw [w0_l3]
  repeat' first
    | (with_reducible refine CondX.dec (fun c => ?_) (fun c => ?_)) <;> try (exfalso; omega)
    | (with_reducible refine CondX.beq (fun c => ?_) (fun c => ?_)) <;> try (exfalso; omega)
    | (with_reducible refine CondX.bne (fun c => ?_) (fun c => ?_)) <;> try (exfalso; omega)
    | (with_reducible refine CondX.bool (fun c => ?_) (fun c => ?_)) <;> try (exfalso; omega)
    | simp only [go_sem, I_eq, I_cells, Nat.reduceAdd, Nat.reduceBEq, Nat.reduceEqDiff, Nat.reduceLeDiff, Nat.reduceLT, Nat.reduceSub]
    | simp (disch := omega) only [wrap_in, toNat_succ, toNat_pred, Int.toNat_natCast]
    | with_reducible refine And.intro (by omega) ?_
    | with_reducible refine exI (by omega) ?_
    | fail
  exact ⟨rfl, by ((repeat first | with_reducible apply Keeps.alloc | (with_reducible refine Keeps.set ?_ ?hL _; case hL => first | assumption | exact Hp.ok _ _ (by simp) | exact Keeps.new (by assumption) _ _)); first | assumption | exact Keeps.refl _)⟩
end Go.Proofs.Ytmajndgdfmnchaa
