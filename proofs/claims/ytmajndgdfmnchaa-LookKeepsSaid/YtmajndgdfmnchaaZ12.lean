/- Part of a proof: what functions of the given program compute, and plain laws of it. -/
import Derived.Test.YtmajndgdfmnchaaZ11
import Derived.Test.YtmajndgdfmnchaaT4
/- Looks at states: whether they fit, where an object is. -/
namespace Go.Gh
def allI {α : Type} (p : Nat → α → Bool) : Nat → List α → Bool
  | _, [] => true
  | i, x :: r => p i x && allI p (i + 1) r
theorem allI_iff {α : Type} {p : Nat → α → Bool} {l : List α} : ∀ {k}, allI p k l = true ↔ ∀ i (h : i < l.length), p (k + i) l[i] = true := by
  induction l with
  | nil => intro k; simp [allI]
  | cons x r ih =>
    intro k
    rw [allI, Bool.and_eq_true, ih]
    constructor
    · rintro ⟨h1, h2⟩ i hi
      cases i with
      | zero => exact h1
      | succ i => have := h2 i (by simpa using hi); rwa [show k + 1 + i = k + (i + 1) by omega] at this
    · intro h
      exact ⟨h 0 (by simp), fun i hi => by have := h (i + 1) (by simpa using hi); rwa [show k + (i + 1) = k + 1 + i by omega] at this⟩
def objN (ss : List Nst) : Nat := match ss with
  | [] => 0
  | s :: _ => s.objs.length
def fitAt (ps : List Int) (k : Nat) (i : Nat) (s : Nst) : Bool := s.me == (i : Int) && goodS ps s && s.objs.length == k
def fitAtR (ps : List Int) (k : Nat) (i : Nat) (s : Nst) : Bool := s.me == (i : Int) && goodR ps s && s.objs.length == k
def fitB (ps : List Int) (ss : List Nst) : Bool := ss.length == ps.length && allI (fitAt ps (objN ss)) 0 ss
def fitR (ps : List Int) (ss : List Nst) : Bool := ss.length == ps.length && allI (fitAtR ps (objN ss)) 0 ss
theorem objN_eq {ss : List Nst} (h : 0 < ss.length) : objN ss = ss[0].objs.length := by
  cases ss with
  | nil => simp at h
  | cons s r => rfl
/-- The request at which an object is, at this node. -/
def hereAt (obj : Int) (s : Nst) : Option Int :=
  if 0 ≤ obj ∧ obj < s.objs.length then (match (s.objs[obj.toNat]?.map Own.cells).getD [] with
    | c :: _ => if c.state = 1 then none else some c.num
    | [] => none) else none
def holdL (obj : Int) : Nat → List Nst → Int × Int
  | _, [] => (-1, 0)
  | i, s :: r => match hereAt obj s with
    | some n => ((i : Int), n)
    | none => holdL obj (i + 1) r
def holder (ss : List Nst) (obj : Int) : Int × Int := holdL obj 0 ss
theorem hereAt_out {obj : Int} {s : Nst} (h : ¬ (0 ≤ obj ∧ obj < s.objs.length)) : hereAt obj s = none := by unfold hereAt; rw [if_neg h]
theorem hereAt_nil {obj : Int} {s : Nst} (h0 : 0 ≤ obj) (h : obj.toNat < s.objs.length) (hc : ¬ 0 < s.objs[obj.toNat].cells.length) : hereAt obj s = none := by
  unfold hereAt; rw [if_pos (by omega), List.getElem?_eq_getElem h]
  simp only [Option.map_some, Option.getD_some]
  rw [List.length_eq_zero_iff.1 (show s.objs[obj.toNat].cells.length = 0 by omega)]
theorem hereAt_one {obj : Int} {s : Nst} (h0 : 0 ≤ obj) (h : obj.toNat < s.objs.length) (hc : 0 < s.objs[obj.toNat].cells.length) : hereAt obj s = if s.objs[obj.toNat].cells[0].state = 1 then none else some s.objs[obj.toNat].cells[0].num := by
  unfold hereAt; rw [if_pos (by omega), List.getElem?_eq_getElem h]
  simp only [Option.map_some, Option.getD_some]
  generalize s.objs[obj.toNat].cells = cs at hc ⊢
  cases cs with
  | nil => simp at hc
  | cons c r => rfl
end Go.Gh
namespace Go.Proofs.Ytmajndgdfmnchaa
open Go Go.T Go.Gh Go.Proofs
set_option linter.unusedSimpArgs false
set_option maxRecDepth 10000
set_option maxHeartbeats 4000000
def T23 : Nat → List Tg := fun id => if id = 6 then [.plain, .plain, .plain, .plain, .plain, .plain, .plain, .pure] else []
theorem Fit_spec (ps : List Int) (ss : List Nst) (e : Bool) (hps : 0 < ps.length ∧ ps.length < 2 ^ 29) (hs : ∀ s ∈ ss, Sized s) : PureF Try.prog 23 [treeV ps, .l e 6 (ss.map encS)] (.bool (fitB ps ss)) := by
  refine PureF.of_awp mixed T23 (fn := Try.f23) (by kernel_rfl) rfl (by kernel_rfl) (by show 2 ≤ _; decide) (by simp [AV.lf]) (fun h => ?_)
  repeat' first
    | (with_reducible refine CondX.dec (fun c => ?_) (fun c => ?_)) <;> try (exfalso; omega)
    | (with_reducible refine CondX.beq (fun c => ?_) (fun c => ?_)) <;> try (exfalso; omega)
    | (with_reducible refine CondX.bne (fun c => ?_) (fun c => ?_)) <;> try (exfalso; omega)
    | (with_reducible refine CondX.bool (fun c => ?_) (fun c => ?_)) <;> try (exfalso; omega)
    | ((with_reducible refine CallX.id ?_); first | refine CallX.pure (Size_spec ps) ?_)
    | ((with_reducible refine PureX.id ?_); first | refine PureX.of (Size_spec ps) ?_)
    | simp only [go_sem, I_eq, I_cells, T23, Nat.reduceAdd, Nat.reduceBEq, Nat.reduceEqDiff, Nat.reduceLeDiff, Nat.reduceLT, Nat.reduceSub]
    | simp (disch := omega) only [wrap_in, toNat_succ, toNat_pred, Int.toNat_natCast]
    | with_reducible refine And.intro (by omega) ?_
    | with_reducible refine exI (by omega) ?_
    | fail
  · exact ⟨by rw [fitB, beq_eq_false_iff_ne.2 (show ss.length ≠ ps.length by omega)]; rfl, by ((repeat first | with_reducible apply Keeps.alloc | (with_reducible refine Keeps.set ?_ ?hL _; case hL => first | assumption | exact Hp.ok _ _ (by simp) | exact Keeps.new (by assumption) _ _)); first | assumption | exact Keeps.refl _)⟩
  have hl : ss.length = ps.length := by omega
  have hf : fitB ps ss = allI (fitAt ps (objN ss)) 0 ss := by rw [fitB, beq_iff_eq.2 hl]; rfl
  refine awp_count 19 18 ss.length (by omega) (fun i t => t.slots 0 = treeV ps ∧ t.slots 1 = .l e 6 (ss.map encS) ∧ t.slots 17 = .l e 6 (ss.map encS) ∧ Keeps h t.hp ∧ allI (fitAt ps (objN ss)) 0 ss = allI (fitAt ps (objN ss)) i (ss.drop i)) ?_ ?_ ?_ ?_ ?_
  · simp only [go_sem, I_eq, I_cells, Nat.reduceAdd, Nat.reduceBEq, Nat.reduceEqDiff, Nat.reduceLeDiff, Nat.reduceLT, Nat.reduceSub]
  · simp only [go_sem, I_eq, I_cells, Nat.reduceAdd, Nat.reduceBEq, Nat.reduceEqDiff, Nat.reduceLeDiff, Nat.reduceLT, Nat.reduceSub]
  · simp only [go_sem, I_eq, I_cells, Nat.reduceAdd, Nat.reduceBEq, Nat.reduceEqDiff, Nat.reduceLeDiff, Nat.reduceLT, Nat.reduceSub]
    exact Keeps.refl h
  · rintro i t hlt d2 hw g19 g18 ⟨g0, g1, g17, gH, ha⟩
    have h0 : 0 < ss.length := by omega
    rw [drop_cons hlt, allI, fitAt, objN_eq h0] at ha
    rw [objN_eq h0] at hf
    repeat' first
      | (with_reducible refine CondX.dec (fun c => ?_) (fun c => ?_)) <;> try (exfalso; omega)
      | (with_reducible refine CondX.beq (fun c => ?_) (fun c => ?_)) <;> try (exfalso; omega)
      | (with_reducible refine CondX.bne (fun c => ?_) (fun c => ?_)) <;> try (exfalso; omega)
      | (with_reducible refine CondX.bool (fun c => ?_) (fun c => ?_)) <;> try (exfalso; omega)
      | ((with_reducible refine CallX.id ?_); first | refine CallX.pure (Good_spec ps ss[i] hps.2 (hs _ (List.getElem_mem hlt))) ?_)
      | ((with_reducible refine PureX.id ?_); first | refine PureX.of (Good_spec ps ss[i] hps.2 (hs _ (List.getElem_mem hlt))) ?_)
      | simp only [go_sem, I_eq, I_cells, T23, g0, g1, g17, g18, g19, d2, hw, encS_cells, encS, Nat.reduceAdd, Nat.reduceBEq, Nat.reduceEqDiff, Nat.reduceLeDiff, Nat.reduceLT, Nat.reduceSub]
      | simp (disch := omega) only [wrap_in, toNat_succ, toNat_pred, Int.toNat_natCast]
      | with_reducible refine And.intro (by omega) ?_
      | with_reducible refine exI (by omega) ?_
      | fail
    · exact ⟨by rw [hf, ha, beq_eq_false_iff_ne.2 c]; rfl, by ((repeat first | with_reducible apply Keeps.alloc | (with_reducible refine Keeps.set ?_ ?hL _; case hL => first | assumption | exact Hp.ok _ _ (by simp) | exact Keeps.new (by assumption) _ _)); first | assumption | exact Keeps.refl _)⟩
    · exact ⟨by rw [hf, ha, beq_eq_false_iff_ne.2 (show ss[i].objs.length ≠ ss[0].objs.length by omega), Bool.and_false]; rfl, by ((repeat first | with_reducible apply Keeps.alloc | (with_reducible refine Keeps.set ?_ ?hL _; case hL => first | assumption | exact Hp.ok _ _ (by simp) | exact Keeps.new (by assumption) _ _)); first | assumption | exact Keeps.refl _)⟩
    · rename_i c1 c2
      exact ⟨by ((repeat first | with_reducible apply Keeps.alloc | (with_reducible refine Keeps.set ?_ ?hL _; case hL => first | assumption | exact Hp.ok _ _ (by simp) | exact Keeps.new (by assumption) _ _)); first | assumption | exact Keeps.refl _), by rw [objN_eq h0, ha, beq_iff_eq.2 c1, c2, beq_iff_eq.2 (show ss[i].objs.length = ss[0].objs.length by omega)]; rfl⟩
    · exact ⟨by rw [hf, ha, c, Bool.and_false]; rfl, by ((repeat first | with_reducible apply Keeps.alloc | (with_reducible refine Keeps.set ?_ ?hL _; case hL => first | assumption | exact Hp.ok _ _ (by simp) | exact Keeps.new (by assumption) _ _)); first | assumption | exact Keeps.refl _)⟩
  · rintro t d2 g19 g18 ⟨g0, g1, g17, gH, ha⟩
    rw [List.drop_length] at ha
    simp only [go_sem, I_eq, I_cells, T23, g0, g1, g17, g18, g19, d2, Nat.reduceAdd, Nat.reduceBEq, Nat.reduceEqDiff, Nat.reduceLeDiff, Nat.reduceLT, Nat.reduceSub]
    exact ⟨by rw [hf, ha]; rfl, gH⟩
def T26 : Nat → List Tg := fun id => if id = 6 then [.plain, .plain, .plain, .plain, .plain, .plain, .plain, .pure] else []
theorem ref_Fit_spec (ps : List Int) (e1 : Bool) (ss : List Nst) (e : Bool) (hps : ps.length < 2 ^ 29) (hs : ∀ s ∈ ss, Sized s) : PureF Try.prog 26 [.l e1 1 (ps.map I), .l e 6 (ss.map encS)] (.bool (fitR ps ss)) := by
  refine PureF.of_awp mixed T26 (fn := Try.f26) (by kernel_rfl) rfl (by kernel_rfl) (by show 2 ≤ _; decide) (by simp [AV.lf]) (fun h => ?_)
  repeat' first
    | (with_reducible refine CondX.dec (fun c => ?_) (fun c => ?_)) <;> try (exfalso; omega)
    | (with_reducible refine CondX.beq (fun c => ?_) (fun c => ?_)) <;> try (exfalso; omega)
    | (with_reducible refine CondX.bne (fun c => ?_) (fun c => ?_)) <;> try (exfalso; omega)
    | (with_reducible refine CondX.bool (fun c => ?_) (fun c => ?_)) <;> try (exfalso; omega)
    | simp only [go_sem, I_eq, I_cells, T26, Nat.reduceAdd, Nat.reduceBEq, Nat.reduceEqDiff, Nat.reduceLeDiff, Nat.reduceLT, Nat.reduceSub]
    | simp (disch := omega) only [wrap_in, toNat_succ, toNat_pred, Int.toNat_natCast]
    | with_reducible refine And.intro (by omega) ?_
    | with_reducible refine exI (by omega) ?_
    | fail
  · exact ⟨by rw [fitR, beq_eq_false_iff_ne.2 (show ss.length ≠ ps.length by omega)]; rfl, by ((repeat first | with_reducible apply Keeps.alloc | (with_reducible refine Keeps.set ?_ ?hL _; case hL => first | assumption | exact Hp.ok _ _ (by simp) | exact Keeps.new (by assumption) _ _)); first | assumption | exact Keeps.refl _)⟩
  have hl : ss.length = ps.length := by omega
  have hf : fitR ps ss = allI (fitAtR ps (objN ss)) 0 ss := by rw [fitR, beq_iff_eq.2 hl]; rfl
  refine awp_count 14 13 ss.length (by omega) (fun i t => t.slots 0 = .l e1 1 (ps.map I) ∧ t.slots 1 = .l e 6 (ss.map encS) ∧ t.slots 12 = .l e 6 (ss.map encS) ∧ Keeps h t.hp ∧ allI (fitAtR ps (objN ss)) 0 ss = allI (fitAtR ps (objN ss)) i (ss.drop i)) ?_ ?_ ?_ ?_ ?_
  · simp only [go_sem, I_eq, I_cells, Nat.reduceAdd, Nat.reduceBEq, Nat.reduceEqDiff, Nat.reduceLeDiff, Nat.reduceLT, Nat.reduceSub]
  · simp only [go_sem, I_eq, I_cells, Nat.reduceAdd, Nat.reduceBEq, Nat.reduceEqDiff, Nat.reduceLeDiff, Nat.reduceLT, Nat.reduceSub]
  · simp only [go_sem, I_eq, I_cells, Nat.reduceAdd, Nat.reduceBEq, Nat.reduceEqDiff, Nat.reduceLeDiff, Nat.reduceLT, Nat.reduceSub]
    exact Keeps.refl h
  · rintro i t hlt d2 hw g14 g13 ⟨g0, g1, g12, gH, ha⟩
    have h0 : 0 < ss.length := by omega
    rw [drop_cons hlt, allI, fitAtR, objN_eq h0] at ha
    rw [objN_eq h0] at hf
    repeat' first
      | (with_reducible refine CondX.dec (fun c => ?_) (fun c => ?_)) <;> try (exfalso; omega)
      | (with_reducible refine CondX.beq (fun c => ?_) (fun c => ?_)) <;> try (exfalso; omega)
      | (with_reducible refine CondX.bne (fun c => ?_) (fun c => ?_)) <;> try (exfalso; omega)
      | (with_reducible refine CondX.bool (fun c => ?_) (fun c => ?_)) <;> try (exfalso; omega)
      | ((with_reducible refine CallX.id ?_); first | refine CallX.pure (ref_Good_spec ps e1 ss[i] hps (hs _ (List.getElem_mem hlt))) ?_)
      | ((with_reducible refine PureX.id ?_); first | refine PureX.of (ref_Good_spec ps e1 ss[i] hps (hs _ (List.getElem_mem hlt))) ?_)
      | simp only [go_sem, I_eq, I_cells, T26, g0, g1, g12, g13, g14, d2, hw, encS_cells, encS, Nat.reduceAdd, Nat.reduceBEq, Nat.reduceEqDiff, Nat.reduceLeDiff, Nat.reduceLT, Nat.reduceSub]
      | simp (disch := omega) only [wrap_in, toNat_succ, toNat_pred, Int.toNat_natCast]
      | with_reducible refine And.intro (by omega) ?_
      | with_reducible refine exI (by omega) ?_
      | fail
    · exact ⟨by rw [hf, ha, beq_eq_false_iff_ne.2 c]; rfl, by ((repeat first | with_reducible apply Keeps.alloc | (with_reducible refine Keeps.set ?_ ?hL _; case hL => first | assumption | exact Hp.ok _ _ (by simp) | exact Keeps.new (by assumption) _ _)); first | assumption | exact Keeps.refl _)⟩
    · exact ⟨by rw [hf, ha, beq_eq_false_iff_ne.2 (show ss[i].objs.length ≠ ss[0].objs.length by omega), Bool.and_false]; rfl, by ((repeat first | with_reducible apply Keeps.alloc | (with_reducible refine Keeps.set ?_ ?hL _; case hL => first | assumption | exact Hp.ok _ _ (by simp) | exact Keeps.new (by assumption) _ _)); first | assumption | exact Keeps.refl _)⟩
    · rename_i c1 c2
      exact ⟨by ((repeat first | with_reducible apply Keeps.alloc | (with_reducible refine Keeps.set ?_ ?hL _; case hL => first | assumption | exact Hp.ok _ _ (by simp) | exact Keeps.new (by assumption) _ _)); first | assumption | exact Keeps.refl _), by rw [objN_eq h0, ha, beq_iff_eq.2 c1, c2, beq_iff_eq.2 (show ss[i].objs.length = ss[0].objs.length by omega)]; rfl⟩
    · exact ⟨by rw [hf, ha, c, Bool.and_false]; rfl, by ((repeat first | with_reducible apply Keeps.alloc | (with_reducible refine Keeps.set ?_ ?hL _; case hL => first | assumption | exact Hp.ok _ _ (by simp) | exact Keeps.new (by assumption) _ _)); first | assumption | exact Keeps.refl _)⟩
  · rintro t d2 g14 g13 ⟨g0, g1, g12, gH, ha⟩
    rw [List.drop_length] at ha
    simp only [go_sem, I_eq, I_cells, T26, g0, g1, g12, g13, g14, d2, Nat.reduceAdd, Nat.reduceBEq, Nat.reduceEqDiff, Nat.reduceLeDiff, Nat.reduceLT, Nat.reduceSub]
    exact ⟨by rw [hf, ha]; rfl, gH⟩
theorem Holder_spec (ss : List Nst) (e : Bool) (obj : Int) (hlen : ss.length < 2 ^ 62) : PureF Try.prog 32 [.l e 6 (ss.map encS), .int .i64 obj] (pairV (holder ss obj)) := by
  refine PureF.of_awp mixed (fun _ => []) (fn := Try.f32) (by kernel_rfl) rfl (by kernel_rfl) (by show 2 ≤ _; decide) (by simp [AV.lf, AV.lfs, pairV]) (fun h => ?_)
  repeat' first
    | (with_reducible refine CondX.dec (fun c => ?_) (fun c => ?_)) <;> try (exfalso; omega)
    | (with_reducible refine CondX.beq (fun c => ?_) (fun c => ?_)) <;> try (exfalso; omega)
    | (with_reducible refine CondX.bne (fun c => ?_) (fun c => ?_)) <;> try (exfalso; omega)
    | (with_reducible refine CondX.bool (fun c => ?_) (fun c => ?_)) <;> try (exfalso; omega)
    | simp only [go_sem, I_eq, I_cells, Nat.reduceAdd, Nat.reduceBEq, Nat.reduceEqDiff, Nat.reduceLeDiff, Nat.reduceLT, Nat.reduceSub]
    | simp (disch := omega) only [wrap_in, toNat_succ, toNat_pred, Int.toNat_natCast]
    | with_reducible refine And.intro (by omega) ?_
    | with_reducible refine exI (by omega) ?_
    | fail
  refine awp_count 11 10 ss.length (by omega) (fun i t => t.slots 1 = .int .i64 obj ∧ t.slots 9 = .l e 6 (ss.map encS) ∧ Keeps h t.hp ∧ holdL obj 0 ss = holdL obj i (ss.drop i)) ?_ ?_ ?_ ?_ ?_
  · simp only [go_sem, I_eq, I_cells, Nat.reduceAdd, Nat.reduceBEq, Nat.reduceEqDiff, Nat.reduceLeDiff, Nat.reduceLT, Nat.reduceSub]
  · simp only [go_sem, I_eq, I_cells, Nat.reduceAdd, Nat.reduceBEq, Nat.reduceEqDiff, Nat.reduceLeDiff, Nat.reduceLT, Nat.reduceSub]
  · simp only [go_sem, I_eq, I_cells, Nat.reduceAdd, Nat.reduceBEq, Nat.reduceEqDiff, Nat.reduceLeDiff, Nat.reduceLT, Nat.reduceSub]
    exact Keeps.refl h
  · rintro i t hlt d2 hw g11 g10 ⟨g1, g9, gH, ha⟩
    rw [drop_cons hlt, holdL] at ha
    repeat' first
      | (with_reducible refine CondX.dec (fun c => ?_) (fun c => ?_)) <;> try (exfalso; omega)
      | (with_reducible refine CondX.beq (fun c => ?_) (fun c => ?_)) <;> try (exfalso; omega)
      | (with_reducible refine CondX.bne (fun c => ?_) (fun c => ?_)) <;> try (exfalso; omega)
      | (with_reducible refine CondX.bool (fun c => ?_) (fun c => ?_)) <;> try (exfalso; omega)
      | simp only [go_sem, I_eq, I_cells, g1, g9, g10, g11, d2, hw, encS_cells, encO_cells, encC_cells, Nat.reduceAdd, Nat.reduceBEq, Nat.reduceEqDiff, Nat.reduceLeDiff, Nat.reduceLT, Nat.reduceSub]
      | simp (disch := omega) only [wrap_in, toNat_succ, toNat_pred, Int.toNat_natCast]
      | with_reducible refine And.intro (by omega) ?_
      | with_reducible refine exI (by omega) ?_
      | fail
    all_goals first
      | exact ⟨by ((repeat first | with_reducible apply Keeps.alloc | (with_reducible refine Keeps.set ?_ ?hL _; case hL => first | assumption | exact Hp.ok _ _ (by simp) | exact Keeps.new (by assumption) _ _)); first | assumption | exact Keeps.refl _), by rw [ha, hereAt_out (by omega)]⟩
      | exact ⟨by ((repeat first | with_reducible apply Keeps.alloc | (with_reducible refine Keeps.set ?_ ?hL _; case hL => first | assumption | exact Hp.ok _ _ (by simp) | exact Keeps.new (by assumption) _ _)); first | assumption | exact Keeps.refl _), by rw [ha, hereAt_nil (by omega) (by omega) (by omega)]⟩
      | exact ⟨by ((repeat first | with_reducible apply Keeps.alloc | (with_reducible refine Keeps.set ?_ ?hL _; case hL => first | assumption | exact Hp.ok _ _ (by simp) | exact Keeps.new (by assumption) _ _)); first | assumption | exact Keeps.refl _), by rw [ha, hereAt_one (by omega) (by omega) (by omega), if_pos c]⟩
      | exact ⟨by rw [holder, ha, hereAt_one (by omega) (by omega) (by omega), if_neg c]; rfl, by ((repeat first | with_reducible apply Keeps.alloc | (with_reducible refine Keeps.set ?_ ?hL _; case hL => first | assumption | exact Hp.ok _ _ (by simp) | exact Keeps.new (by assumption) _ _)); first | assumption | exact Keeps.refl _)⟩
  · rintro t d2 g11 g10 ⟨g1, g9, gH, ha⟩
    rw [List.drop_length] at ha
    simp only [go_sem, I_eq, I_cells, g1, g9, g10, g11, d2, Nat.reduceAdd, Nat.reduceBEq, Nat.reduceEqDiff, Nat.reduceLeDiff, Nat.reduceLT, Nat.reduceSub]
    exact ⟨by rw [holder, ha]; rfl, gH⟩
end Go.Proofs.Ytmajndgdfmnchaa
/- What a step pushed; how heavy states are. -/
namespace Go.Gh
structure SidB (e : Sid) : Prop where
  base : 0 ≤ e.base ∧ e.base ≤ 1099511627776
  out : e.out.length ≤ 1024
end Go.Gh
namespace Go.Proofs.Ytmajndgdfmnchaa
open Go Go.T Go.Gh Go.Proofs
set_option linter.unusedSimpArgs false
set_option maxRecDepth 10000
set_option maxHeartbeats 4000000
end Go.Proofs.Ytmajndgdfmnchaa
/- How heavy states are; whether notes are the same. -/
namespace Go.Gh
def outsH : Int → List Sid → Option Int
  | n, [] => some n
  | n, e :: r => if IntKind.i64.wrap (n + e.out.length) > 4096 then none else outsH (IntKind.i64.wrap (n + e.out.length)) r
def celsH : Int → List Own → Option Int
  | n, [] => some n
  | n, o :: r => if IntKind.i64.wrap (n + o.cells.length) > 4096 then none else celsH (IntKind.i64.wrap (n + o.cells.length)) r
def heavyL : Int → List Nst → Bool
  | n, [] => decide (n > 4096)
  | n, s :: r => match outsH (IntKind.i64.wrap (n + IntKind.i64.wrap (IntKind.i64.wrap (IntKind.i64.wrap (s.objs.length + s.edges.length) + s.asks.length) + s.got.length))) s.edges with
    | none => true
    | some m => match celsH m s.objs with
      | none => true
      | some k => if k > 4096 then true else heavyL k r
end Go.Gh
namespace Go.Proofs.Ytmajndgdfmnchaa
open Go Go.T Go.Gh Go.Proofs
set_option linter.unusedSimpArgs false
set_option maxRecDepth 10000
set_option maxHeartbeats 4000000
end Go.Proofs.Ytmajndgdfmnchaa
/- The requests that got a successor: an iterator. -/
namespace Go.Gh
end Go.Gh
namespace Go.Proofs.Ytmajndgdfmnchaa
open Go Go.T Go.Gh Go.Proofs
set_option linter.unusedSimpArgs false
set_option maxRecDepth 10000
set_option maxHeartbeats 4000000
theorem C_lfs (cs : List Cel) : AV.lfs (cs.map encC) = true := by
  rw [lfs_iff]; intro x hx; obtain ⟨n, _, rfl⟩ := List.mem_map.1 hx; simp [encC, AV.lf, AV.lfs]
theorem M_lfs (cs : List Msg) : AV.lfs (cs.map encM) = true := by
  rw [lfs_iff]; intro x hx; obtain ⟨n, _, rfl⟩ := List.mem_map.1 hx; simp [encM, AV.lf, AV.lfs]
theorem O_lfs (cs : List Gh.Own) : AV.lfs (cs.map encO) = true := by
  rw [lfs_iff]; intro x hx; obtain ⟨n, _, rfl⟩ := List.mem_map.1 hx; simp [encO, AV.lf, AV.lfs, C_lfs]
theorem E_lfs (cs : List Sid) : AV.lfs (cs.map encE) = true := by
  rw [lfs_iff]; intro x hx; obtain ⟨n, _, rfl⟩ := List.mem_map.1 hx; simp [encE, AV.lf, AV.lfs, M_lfs]
theorem A_lfs (cs : List Gh.Ask) : AV.lfs (cs.map encA) = true := by
  rw [lfs_iff]; intro x hx; obtain ⟨n, _, rfl⟩ := List.mem_map.1 hx; simp [encA, AV.lf, AV.lfs]
theorem F_lfs (cs : List Gh.Found) : AV.lfs (cs.map encF) = true := by
  rw [lfs_iff]; intro x hx; obtain ⟨n, _, rfl⟩ := List.mem_map.1 hx; simp [encF, AV.lf, AV.lfs]
theorem encS_lf (s : Nst) : (encS s).lf = true := by simp [encS, AV.lf, AV.lfs, O_lfs, E_lfs, A_lfs, F_lfs]
theorem frzs_lf (L : Lab) (c : Con) (xs : List AV) (h : AV.lfs xs = true) : AV.frzs L c xs = xs := by
  rw [frzs_map]; conv => rhs; rw [← List.map_id xs]
  exact List.map_congr_left fun x hx => frz_lf L c x (lfs_iff.1 h x hx)
end Go.Proofs.Ytmajndgdfmnchaa
/- The notes between states. -/
namespace Go.Gh
end Go.Gh
namespace Go.Proofs.Ytmajndgdfmnchaa
open Go Go.T Go.Gh Go.Proofs
set_option linter.unusedSimpArgs false
set_option maxRecDepth 10000
set_option maxHeartbeats 4000000
theorem nlp {n : Nat} (h : n < 1000000) : n ≠ lpSlot := by rw [ne_eq, ne_lpSlot h]; exact id
end Go.Proofs.Ytmajndgdfmnchaa
/- Plain laws: the reference's checks say the same. -/
namespace Go.Gh
set_option linter.unusedSimpArgs false
theorem TreeOk.cyc {ps : List Int} (h : TreeOk ps) {u v : Nat} (hu : u < ps.length) (hv : v < ps.length) : ¬ (ps[u] = v ∧ ps[v] = u) := by
  rintro ⟨h1, h2⟩
  have key : ∀ k, Gh.climb ps k u = false ∧ Gh.climb ps k v = false := by
    intro k
    induction k with
    | zero => exact ⟨rfl, rfl⟩
    | succ k ih =>
      constructor
      · rw [Gh.climb]; simp only [Int.toNat_natCast, idx_at hu, h1]; rw [if_neg (by omega)]; exact ih.2
      · rw [Gh.climb]; simp only [Int.toNat_natCast, idx_at hv, h2]; rw [if_neg (by omega)]; exact ih.1
  have := h.climb u hu
  rw [(key _).1] at this
  cases this
theorem mem_nearL {ps : List Int} {v : Nat} : ∀ {i : Nat} {x : Int}, x ∈ nearL ps v i ↔ (v < i ∧ 0 ≤ ps.getD v 0 ∧ x = ps.getD v 0) ∨ ∃ u, u < i ∧ u ≠ v ∧ ps.getD u 0 = v ∧ x = (u : Int) := by
  intro i
  induction i with
  | zero => intro x; simp [nearL]
  | succ i ih =>
    intro x
    unfold nearL
    by_cases h0 : 0 ≤ ps.getD i 0
    · rw [if_pos h0]
      by_cases h1 : i = v
      · subst h1
        rw [if_pos rfl, List.mem_append, ih, List.mem_singleton]
        constructor
        · rintro ((h | ⟨u, h2, h3⟩) | h)
          · omega
          · exact .inr ⟨u, by omega, h3⟩
          · exact .inl ⟨by omega, h0, h⟩
        · rintro (⟨_, _, h⟩ | ⟨u, h2, h3, h4⟩)
          · exact .inr h
          · exact .inl (.inr ⟨u, by omega, h3, h4⟩)
      · rw [if_neg h1]
        by_cases h2 : ps.getD i 0 = v
        · rw [if_pos h2, List.mem_append, ih, List.mem_singleton]
          constructor
          · rintro ((h | ⟨u, h3, h4⟩) | h)
            · exact .inl ⟨by omega, h.2⟩
            · exact .inr ⟨u, by omega, h4⟩
            · exact .inr ⟨i, by omega, h1, h2, h⟩
          · rintro (⟨h3, h4⟩ | ⟨u, h3, h4, h5, h6⟩)
            · exact .inl (.inl ⟨by omega, h4⟩)
            · by_cases hu : u = i
              · subst hu; exact .inr h6
              · exact .inl (.inr ⟨u, by omega, h4, h5, h6⟩)
        · rw [if_neg h2, ih]
          constructor
          · rintro (h | ⟨u, h3, h4⟩)
            · exact .inl ⟨by omega, h.2⟩
            · exact .inr ⟨u, by omega, h4⟩
          · rintro (⟨h3, h4⟩ | ⟨u, h3, h4, h5, h6⟩)
            · exact .inl ⟨by omega, h4⟩
            · exact .inr ⟨u, by rcases Nat.lt_succ_iff_lt_or_eq.1 h3 with h7 | rfl; exact h7; exact absurd h5 h2, h4, h5, h6⟩
    · rw [if_neg h0, ih]
      constructor
      · rintro (h | ⟨u, h3, h4⟩)
        · exact .inl ⟨by omega, h.2⟩
        · exact .inr ⟨u, by omega, h4⟩
      · rintro (⟨h3, h4⟩ | ⟨u, h3, h4, h5, h6⟩)
        · exact .inl ⟨by rcases Nat.lt_succ_iff_lt_or_eq.1 h3 with h7 | rfl; exact h7; exact absurd h4.1 h0, h4⟩
        · exact .inr ⟨u, by rcases Nat.lt_succ_iff_lt_or_eq.1 h3 with h7 | rfl; exact h7; omega, h4, h5, h6⟩
theorem nodup_nearL {ps : List Int} (h : TreeOk ps) {v : Nat} (hv : v < ps.length) : ∀ {i : Nat}, i ≤ ps.length → (nearL ps v i).Nodup := by
  intro i
  induction i with
  | zero => intro _; simp [nearL]
  | succ i ih =>
    intro hi
    have ih' := ih (by omega)
    unfold nearL
    split
    · split
      · rename_i h0 h1
        subst h1
        refine List.nodup_append.2 ⟨ih', by simp, ?_⟩
        rintro a ha b hb rfl
        rw [List.mem_singleton] at hb
        rcases mem_nearL.1 ha with h2 | ⟨u, h2, h3, h4, h5⟩
        · omega
        · rw [idx_at hv] at hb
          rw [idx_at (by omega)] at h4
          exact h.cyc (u := u) (v := i) (by omega) hv ⟨h4, by omega⟩
      · split
        · rename_i h0 h1 h2
          refine List.nodup_append.2 ⟨ih', by simp, ?_⟩
          rintro a ha b hb rfl
          rw [List.mem_singleton] at hb
          rcases mem_nearL.1 ha with ⟨h3, h4, h5⟩ | ⟨u, h3, h4, h5, h6⟩
          · rw [idx_at hv] at h5
            rw [idx_at (by omega)] at h2
            exact h.cyc (u := i) (v := v) (by omega) hv ⟨h2, by omega⟩
          · omega
        · exact ih'
    · exact ih'
theorem mem_refN {ps : List Int} {v : Int} {n : Nat} {x : Int} : x ∈ refN ps v n ↔ ∃ u : Nat, u < n ∧ nearB ps u v = true ∧ x = u := by
  unfold refN
  simp only [List.mem_map, List.mem_filter, List.mem_range]
  constructor
  · rintro ⟨u, ⟨h1, h2⟩, rfl⟩; exact ⟨u, h1, h2, rfl⟩
  · rintro ⟨u, h1, h2, rfl⟩; exact ⟨u, ⟨h1, h2⟩, rfl⟩
theorem lt_refN (ps : List Int) (v : Int) (n : Nat) : (refN ps v n).Pairwise (· < ·) := by
  unfold refN
  rw [List.pairwise_map]
  have h1 : ((List.range n).filter fun u : Nat => nearB ps u v).Pairwise (· < ·) := List.Pairwise.filter _ List.pairwise_lt_range
  exact h1.imp (fun h => by omega)
theorem near_perm {ps : List Int} (h : TreeOk ps) {v : Nat} (hv : v < ps.length) : (nearL ps v ps.length).Perm (refN ps v ps.length) := by
  rw [List.perm_ext_iff_of_nodup (nodup_nearL h hv (Nat.le_refl _)) ((lt_refN ps v ps.length).imp (fun h => by omega))]
  intro x
  rw [mem_nearL, mem_refN]
  have hin := h.in hv
  constructor
  · rintro (⟨h1, h2, rfl⟩ | ⟨u, h1, h2, h3, rfl⟩)
    · rw [idx_at hv] at h2 ⊢
      refine ⟨ps[v].toNat, by omega, ?_, by omega⟩
      unfold nearB
      rw [Int.toNat_natCast v, idx_at hv]
      simp; omega
    · refine ⟨u, h1, ?_, rfl⟩
      unfold nearB
      rw [Int.toNat_natCast, h3]; simp
  · rintro ⟨u, h1, h2, rfl⟩
    unfold nearB at h2
    simp only [Int.toNat_natCast, Bool.or_eq_true, beq_iff_eq] at h2
    rcases h2 with h2 | h2
    · refine .inr ⟨u, h1, ?_, h2, rfl⟩
      rintro rfl
      rw [idx_at hv] at h2
      exact hin.2.2 h2
    · exact .inl ⟨hv, by omega, h2.symm⟩
theorem nbr_eq {ps : List Int} (h : TreeOk ps) (v : Int) : nbr ps v = refNbr ps v := by
  unfold nbr refNbr
  split
  · rename_i hv
    simp only [hasN, decide_eq_true_eq] at hv
    obtain ⟨w, rfl⟩ : ∃ w : Nat, v = w := ⟨v.toNat, by omega⟩
    rw [Int.toNat_natCast]
    have hp := near_perm h (v := w) (by omega)
    unfold sortI
    refine List.Perm.eq_of_pairwise (le := fun a b : Int => a ≤ b) (fun a b _ _ h1 h2 => by omega) ?_ ?_ ((List.mergeSort_perm _ _).trans hp)
    · have := List.pairwise_mergeSort (le := fun x y : Int => decide (x ≤ y)) (fun a b c h1 h2 => by simp at *; omega) (fun a b => by simp; omega) (nearL ps w ps.length)
      exact this.imp (fun h => by simpa using h)
    · exact (lt_refN ps w ps.length).imp (fun h => by omega)
  · rfl
theorem goodC_inc {cs : List Cel} {me : Int} {sink : Bool} (h : goodC cs me sink = true) {i : Nat} (hi : i + 1 < cs.length) : cs[i].num < cs[i + 1].num := by
  unfold goodC at h
  simp only [Bool.and_eq_true, List.all_eq_true, List.mem_range] at h
  have h1 := h.2 (i + 1) hi
  simp only [cellAt, List.getElem?_eq_getElem hi] at h1
  have h2 := Go.Proofs.Ytmajndgdfmnchaa.cellOk_iff.1 h1
  unfold Go.Proofs.Ytmajndgdfmnchaa.CellP at h2
  rw [Nat.add_sub_cancel, Go.Proofs.Ytmajndgdfmnchaa.cell_nx (show i < cs.length by omega)] at h2
  omega
theorem goodC_last {cs : List Cel} {me : Int} {sink : Bool} (h : goodC cs me sink = true) {i j : Nat} (hij : i ≤ j) (hj : j < cs.length) : cs[i].num ≤ cs[j].num := by
  induction j with
  | zero => have : i = 0 := by omega
            subst this; omega
  | succ j ih =>
    by_cases he : i = j + 1
    · subst he; omega
    · have := ih (by omega) (by omega)
      have := goodC_inc h hj
      omega
theorem own_eq {ps : List Int} (h : TreeOk ps) (me : Int) (o : Own) : ownB ps me o = ownR ps.length (refNbr ps me) me o := by
  unfold ownB ownR
  rw [nbr_eq h]
  rw [Bool.eq_iff_iff]
  simp only [Bool.and_eq_true, withinB, decide_eq_true_eq, List.all_eq_true, and_assoc]
  refine and_congr Iff.rfl (and_congr Iff.rfl (and_congr Iff.rfl (and_congr_right fun hg => ?_)))
  constructor
  · rintro ⟨h1, h2⟩ c hc
    refine ⟨?_, h1 c hc⟩
    obtain ⟨i, hi, rfl⟩ := List.getElem_of_mem hc
    have hl := goodC_last hg (show i ≤ o.cells.length - 1 by omega) (by omega)
    unfold lastOk at h2
    rw [List.getLast?_eq_getElem?, List.getElem?_eq_getElem (show o.cells.length - 1 < o.cells.length by omega)] at h2
    simp at h2
    omega
  · intro h1
    refine ⟨fun c hc => (h1 c hc).2, ?_⟩
    unfold lastOk
    split
    · rfl
    · rename_i c hc
      have := (h1 c (List.mem_of_getLast? hc)).1
      simpa using this
theorem asks_eq (k asked : Int) : ∀ (l : List Ask) (q : Int), 0 ≤ q → asksB k asked q l = asksR k asked (some q) l := by
  intro l
  induction l with
  | nil => intro q _; unfold asksB asksR; rfl
  | cons a r ih =>
    intro q hq
    rw [asksR_cons]
    unfold asksB
    by_cases h1 : a.num ≤ q
    · simp [h1]
      intro _ _ _ h2
      omega
    · rw [ih a.num (by omega), Bool.eq_iff_iff]
      simp only [withinB, Bool.and_eq_true, decide_eq_true_eq, Bool.not_eq_true', decide_eq_false_iff_not]
      constructor
      · rintro ⟨⟨⟨h2, h3⟩, h4⟩, h5⟩; exact ⟨⟨⟨⟨h2.1, by omega⟩, by omega⟩, by omega⟩, h5⟩
      · rintro ⟨⟨⟨h2, h3⟩, h4⟩, h5⟩; exact ⟨⟨⟨by omega, h1⟩, by omega⟩, h5⟩
theorem asks_none (k asked : Int) (l : List Ask) : asksR k asked none l = asksR k asked (some 0) l := by
  cases l with
  | nil => unfold asksR; rfl
  | cons a r =>
    rw [asksR_cons, asksR_cons, Bool.eq_iff_iff]
    simp only [Bool.and_eq_true, decide_eq_true_eq, and_true]
    constructor
    · rintro ⟨⟨h1, h2⟩, h3⟩; exact ⟨⟨⟨h1, h2⟩, by omega⟩, h3⟩
    · rintro ⟨⟨⟨h1, h2⟩, _⟩, h3⟩; exact ⟨⟨h1, h2⟩, h3⟩
theorem found_eq (n k asked : Int) : foundB n k asked = foundR n k asked := by
  funext f
  unfold foundB foundR withinB
  rw [Bool.eq_iff_iff]
  simp only [Bool.and_eq_true, decide_eq_true_eq]
  omega
theorem good_eq {ps : List Int} (h : TreeOk ps) (s : Nst) : goodS ps s = goodR ps s := by
  have ho : ownB ps s.me = ownR ps.length (refNbr ps s.me) s.me := funext fun o => own_eq h s.me o
  unfold goodS goodR
  rw [ho, found_eq, asks_eq _ _ _ 0 (by omega), asks_none, edgesB, nbr_eq h, Bool.eq_iff_iff]
  simp only [Bool.and_eq_true, withinB, decide_eq_true_eq, beq_iff_eq]
  constructor
  · rintro ⟨⟨⟨⟨⟨⟨⟨⟨⟨h1, h2⟩, h3⟩, h4⟩, h5⟩, h6⟩, h7⟩, h8⟩, h9, h10⟩, h11⟩
    exact ⟨⟨⟨⟨⟨⟨⟨⟨by omega, by omega⟩, h6⟩, h9.symm⟩, h10⟩, ⟨h3, h4⟩, h5⟩, h7⟩, h8⟩, h11⟩
  · rintro ⟨⟨⟨⟨⟨⟨⟨⟨h1, h2⟩, h6⟩, h9⟩, h10⟩, ⟨h3, h4⟩, h5⟩, h7⟩, h8⟩, h11⟩
    exact ⟨⟨⟨⟨⟨⟨⟨⟨⟨by omega, by omega⟩, h3⟩, h4⟩, h5⟩, h6⟩, h7⟩, h8⟩, h9.symm, h10⟩, h11⟩
theorem fit_eq {ps : List Int} (h : TreeOk ps) (ss : List Nst) : fitB ps ss = fitR ps ss := by
  have : fitAt ps (objN ss) = fitAtR ps (objN ss) := funext fun i => funext fun s => by unfold fitAt fitAtR; rw [good_eq h]
  unfold fitB fitR; rw [this]
end Go.Gh
/- Plain laws: states that fit can be compared. -/
namespace Go.Gh
set_option linter.unusedSimpArgs false
/-- At most the last cell has no successor. -/
def BareOk (cs : List Cel) : Prop := ∀ j (hj : j < cs.length), cs[j].node ≥ -1 ∧ (j + 1 < cs.length → cs[j].node ≥ 0)
/-- What a state that can be is like. -/
structure Fine (ps : List Int) (s : Nst) : Prop where
  k1 : 1 ≤ s.objs.length
  k8 : s.objs.length ≤ 8
  edges : s.edges.length = (nbr ps s.me).length
  sid : ∀ e ∈ s.edges, SidB e
  cells : ∀ o ∈ s.objs, o.cells.length ≤ 1099511627777
  bare : ∀ o ∈ s.objs, BareOk o.cells
theorem Fine.of {ps : List Int} {s : Nst} (h : goodS ps s = true) : Fine ps s := by
  unfold goodS at h
  simp only [Bool.and_eq_true, withinB, decide_eq_true_eq] at h
  obtain ⟨⟨⟨⟨⟨⟨⟨⟨⟨h1, h2⟩, h3⟩, h4⟩, h5⟩, h6⟩, h7⟩, h8⟩, h9⟩, h10⟩ := h
  have hgc : ∀ o ∈ s.objs, goodC o.cells s.me (o.arrow == s.me) = true := by
    intro o ho
    have := List.all_eq_true.1 h6 o ho
    unfold ownB at this
    simp only [Bool.and_eq_true] at this
    exact this.1.1.2
  unfold edgesB at h9
  simp only [Bool.and_eq_true, beq_iff_eq] at h9
  refine ⟨by omega, by omega, h9.1.symm, ?_, fun o ho => Go.Proofs.Ytmajndgdfmnchaa.goodC_len (hgc o ho), ?_⟩
  · intro e he
    obtain ⟨i, hi, rfl⟩ := List.getElem_of_mem he
    have h11 := List.all_eq_true.1 h9.2 ((nbr ps s.me)[i], s.edges[i]) (by
      have hz : i < ((nbr ps s.me).zip s.edges).length := by simp; omega
      have := List.getElem_mem hz
      rwa [List.getElem_zip] at this)
    unfold edgeB at h11
    simp only [Bool.and_eq_true] at h11
    have h12 := h11.1.2
    unfold goodE at h12
    simp only [Bool.and_eq_true, withinB, decide_eq_true_eq] at h12
    exact ⟨by omega, by omega⟩
  · intro o ho j hj
    have hg := hgc o ho
    unfold goodC at hg
    simp only [Bool.and_eq_true, List.all_eq_true, List.mem_range] at hg
    have h11 := hg.2 j hj
    simp only [cellAt, List.getElem?_eq_getElem hj] at h11
    have h12 := Go.Proofs.Ytmajndgdfmnchaa.cellOk_iff.1 h11
    unfold Go.Proofs.Ytmajndgdfmnchaa.CellP at h12
    obtain ⟨_, _, _, _, _, h13, h14⟩ := h12
    by_cases hs : (o.arrow == s.me) = true ∧ j + 1 = o.cells.length
    · have := h13 hs; omega
    · have := h14 hs; omega
theorem fit_at {ps : List Int} {ss : List Nst} (h : fitB ps ss = true) : ss.length = ps.length ∧ ∀ i (hi : i < ss.length), ss[i].me = i ∧ goodS ps ss[i] = true ∧ ss[i].objs.length = objN ss := by
  unfold fitB at h
  simp only [Bool.and_eq_true, beq_iff_eq] at h
  refine ⟨h.1, fun i hi => ?_⟩
  have := allI_iff.1 h.2 i hi
  unfold fitAt at this
  simp only [Bool.and_eq_true, beq_iff_eq, Nat.zero_add] at this
  exact ⟨this.1.1, this.1.2, this.2⟩
end Go.Gh
/- Iterators: a tree's edges; what is left on a side. -/
namespace Go.Gh
def edgesFrom : Nat → List (List Int) → List (Int × Int)
  | _, [] => []
  | u, l :: r => (l.filter fun v => decide ((u : Int) < v)).map (fun v => ((u : Int), v)) ++ edgesFrom (u + 1) r
def edgesL (ps : List Int) : List (Int × Int) := edgesFrom 0 (nears ps)
def leftI (base seen : Int) : Nat → List Msg → List (Int × Msg)
  | _, [] => []
  | i, m :: r => if base + 1 + i ≤ seen then leftI base seen (i + 1) r else (base + 1 + i, m) :: leftI base seen (i + 1) r
theorem edgesFrom_cons (u : Nat) (l : List Int) (r : List (List Int)) : edgesFrom u (l :: r) = (l.filter fun v => decide ((u : Int) < v)).map (fun v => ((u : Int), v)) ++ edgesFrom (u + 1) r := rfl
theorem leftI_cons (base seen : Int) (i : Nat) (m : Msg) (r : List Msg) : leftI base seen i (m :: r) = if base + 1 + i ≤ seen then leftI base seen (i + 1) r else (base + 1 + i, m) :: leftI base seen (i + 1) r := rfl
end Go.Gh
namespace Go.Proofs.Ytmajndgdfmnchaa
open Go Go.T Go.Gh Go.Proofs
set_option linter.unusedSimpArgs false
set_option maxRecDepth 10000
set_option maxHeartbeats 4000000
def edgeV (p : Int × Int) : List AV := [.int .i64 p.1, .int .i64 p.2]
theorem Edges_iter (ps : List Int) (hlen : ps.length < 2 ^ 29) : IterF Try.prog 94 [.ip [treeV ps]] [] ((edgesL ps).map edgeV) := by
  intro L h K Iv D stab stabD hF I0 hY hE hD
  obtain ⟨xs, hxs⟩ : ∃ xs, (edgesL ps).map edgeV = xs := ⟨_, rfl⟩
  rw [hxs] at hY hE
  refine CallK.of_awpH mixed (fun _ => []) (fn := Try.f94) (by kernel_rfl) rfl (by kernel_rfl) (by show 2 ≤ _; decide) ?_
  have hn : (nears ps).length = ps.length := by simp [nears]
  have hnl : ∀ l ∈ nears ps, l.length ≤ ps.length := by
    intro l hl
    unfold nears at hl
    obtain ⟨v, _, rfl⟩ := List.mem_map.1 hl
    unfold sortI; rw [List.length_mergeSort]; exact nearL_len ps v _
  repeat' first
    | (with_reducible refine CondX.dec (fun c => ?_) (fun c => ?_)) <;> try (exfalso; omega)
    | (with_reducible refine CondX.beq (fun c => ?_) (fun c => ?_)) <;> try (exfalso; omega)
    | (with_reducible refine CondX.bne (fun c => ?_) (fun c => ?_)) <;> try (exfalso; omega)
    | (with_reducible refine CondX.bool (fun c => ?_) (fun c => ?_)) <;> try (exfalso; omega)
    | simp only [go_sem, I_eq, I_cells, treeV, Nat.reduceAdd, Nat.reduceBEq, Nat.reduceEqDiff, Nat.reduceLeDiff, Nat.reduceLT, Nat.reduceSub]
    | simp (disch := omega) only [wrap_in, toNat_succ, toNat_pred, Int.toNat_natCast]
    | with_reducible refine And.intro (by omega) ?_
    | with_reducible refine exI (by omega) ?_
    | fail
  refine awp_count 14 13 (nears ps).length (by omega) (fun i t => t.slots 0 = .yl L ∧ t.slots 12 = .l false 1 ((nears ps).map nearC) ∧ ∃ k, k ≤ xs.length ∧ Iv k t.hp ∧ xs.drop k = (edgesFrom i ((nears ps).drop i)).map edgeV) ?_ ?_ ?_ ?_ ?_
  · simp only [go_sem, I_eq, I_cells, Nat.reduceAdd, Nat.reduceBEq, Nat.reduceEqDiff, Nat.reduceLeDiff, Nat.reduceLT, Nat.reduceSub]
  · simp only [go_sem, I_eq, I_cells, Nat.reduceAdd, Nat.reduceBEq, Nat.reduceEqDiff, Nat.reduceLeDiff, Nat.reduceLT, Nat.reduceSub]
  · simp only [go_sem, I_eq, I_cells, Nat.reduceAdd, Nat.reduceBEq, Nat.reduceEqDiff, Nat.reduceLeDiff, Nat.reduceLT, Nat.reduceSub]
    exact ⟨0, by omega, I0, by rw [← hxs]; rfl⟩
  · rintro i t hlt d2 hw g14 g13 ⟨g0, g12, k, hk, hI, hd⟩
    have hml := hnl _ (List.getElem_mem hlt)
    rw [drop_cons hlt, edgesFrom_cons] at hd
    obtain ⟨rest, hrest⟩ : ∃ r, edgesFrom (i + 1) ((nears ps).drop (i + 1)) = r := ⟨_, rfl⟩
    rw [hrest] at hd
    repeat' first
      | (with_reducible refine CondX.dec (fun c => ?_) (fun c => ?_)) <;> try (exfalso; omega)
      | (with_reducible refine CondX.beq (fun c => ?_) (fun c => ?_)) <;> try (exfalso; omega)
      | (with_reducible refine CondX.bne (fun c => ?_) (fun c => ?_)) <;> try (exfalso; omega)
      | (with_reducible refine CondX.bool (fun c => ?_) (fun c => ?_)) <;> try (exfalso; omega)
      | simp only [go_sem, I_eq, I_cells, g0, g12, g13, g14, d2, hw, nearC, Nat.reduceAdd, Nat.reduceBEq, Nat.reduceEqDiff, Nat.reduceLeDiff, Nat.reduceLT, Nat.reduceSub]
      | simp (disch := omega) only [wrap_in, toNat_succ, toNat_pred, Int.toNat_natCast]
      | with_reducible refine And.intro (by omega) ?_
      | with_reducible refine exI (by omega) ?_
      | fail
    refine awp_count 21 20 (nears ps)[i].length (by omega) (fun j t => t.slots 0 = .yl L ∧ t.slots 12 = .l false 1 ((nears ps).map nearC) ∧ t.slots 13 = .int .i64 (nears ps).length ∧ t.slots 14 = .int .i64 i ∧ t.slots 3 = .int .i64 i ∧ t.slots 19 = .l false 1 ((nears ps)[i].map I) ∧ ∃ k, k ≤ xs.length ∧ Iv k t.hp ∧ xs.drop k = ((((nears ps)[i].drop j).filter fun v => decide ((i : Int) < v)).map (fun v => ((i : Int), v)) ++ rest).map edgeV) ?_ ?_ ?_ ?_ ?_
    · simp only [go_sem, I_eq, I_cells, Nat.reduceAdd, Nat.reduceBEq, Nat.reduceEqDiff, Nat.reduceLeDiff, Nat.reduceLT, Nat.reduceSub]
    · simp only [go_sem, I_eq, I_cells, Nat.reduceAdd, Nat.reduceBEq, Nat.reduceEqDiff, Nat.reduceLeDiff, Nat.reduceLT, Nat.reduceSub]
    · simp only [go_sem, I_eq, I_cells, g0, g12, g13, g14, Nat.reduceAdd, Nat.reduceBEq, Nat.reduceEqDiff, Nat.reduceLeDiff, Nat.reduceLT, Nat.reduceSub]
      exact ⟨k, hk, hI, hd⟩
    · clear g0 g12 g13 g14 hI hd hk k
      rintro j t hlj d3 hw2 g21 g20 ⟨g0, g12, g13, g14, g3, g19, k, hk, hI, hd⟩
      rw [drop_cons hlj, List.filter_cons] at hd
      repeat' first
        | (with_reducible refine CondX.dec (fun c => ?_) (fun c => ?_)) <;> try (exfalso; omega)
        | (with_reducible refine CondX.beq (fun c => ?_) (fun c => ?_)) <;> try (exfalso; omega)
        | (with_reducible refine CondX.bne (fun c => ?_) (fun c => ?_)) <;> try (exfalso; omega)
        | (with_reducible refine CondX.bool (fun c => ?_) (fun c => ?_)) <;> try (exfalso; omega)
        | simp only [go_sem, I_eq, I_cells, g0, g12, g13, g14, g3, g19, g20, g21, d2, d3, hw, hw2, Nat.reduceAdd, Nat.reduceBEq, Nat.reduceEqDiff, Nat.reduceLeDiff, Nat.reduceLT, Nat.reduceSub]
        | simp (disch := omega) only [wrap_in, toNat_succ, toNat_pred, Int.toNat_natCast]
        | with_reducible refine And.intro (by omega) ?_
        | with_reducible refine exI (by omega) ?_
        | fail
      · rw [if_pos (by simpa using c)] at hd
        refine yield_step hY (r := ((((nears ps)[i].drop (j + 1)).filter fun v => decide ((i : Int) < v)).map (fun v => ((i : Int), v)) ++ rest).map edgeV) (by rw [hd]; rfl) hI (fun q2 kf2 hI2 hd2 hk2 => ?_) (fun q2 kf2 hD2 => ?_)
        · repeat' first
            | (with_reducible refine CondX.dec (fun c => ?_) (fun c => ?_)) <;> try (exfalso; omega)
            | (with_reducible refine CondX.beq (fun c => ?_) (fun c => ?_)) <;> try (exfalso; omega)
            | (with_reducible refine CondX.bne (fun c => ?_) (fun c => ?_)) <;> try (exfalso; omega)
            | (with_reducible refine CondX.bool (fun c => ?_) (fun c => ?_)) <;> try (exfalso; omega)
            | simp only [go_sem, I_eq, I_cells, g0, g12, g13, g14, g3, g19, g20, g21, d2, d3, hw, hw2, Nat.reduceAdd, Nat.reduceBEq, Nat.reduceEqDiff, Nat.reduceLeDiff, Nat.reduceLT, Nat.reduceSub]
            | simp (disch := omega) only [wrap_in, toNat_succ, toNat_pred, Int.toNat_natCast]
            | with_reducible refine And.intro (by omega) ?_
            | with_reducible refine exI (by omega) ?_
            | fail
          exact ⟨k + 1, hk2, hI2, hd2⟩
        · repeat' first
            | (with_reducible refine CondX.dec (fun c => ?_) (fun c => ?_)) <;> try (exfalso; omega)
            | (with_reducible refine CondX.beq (fun c => ?_) (fun c => ?_)) <;> try (exfalso; omega)
            | (with_reducible refine CondX.bne (fun c => ?_) (fun c => ?_)) <;> try (exfalso; omega)
            | (with_reducible refine CondX.bool (fun c => ?_) (fun c => ?_)) <;> try (exfalso; omega)
            | simp only [go_sem, I_eq, I_cells, g0, g12, g13, g14, g3, g19, g20, g21, d2, d3, hw, hw2, Nat.reduceAdd, Nat.reduceBEq, Nat.reduceEqDiff, Nat.reduceLeDiff, Nat.reduceLT, Nat.reduceSub]
            | simp (disch := omega) only [wrap_in, toNat_succ, toNat_pred, Int.toNat_natCast]
            | with_reducible refine And.intro (by omega) ?_
            | with_reducible refine exI (by omega) ?_
            | fail
          exact hD _ hD2
      · rw [if_neg (by simpa using c)] at hd
        exact ⟨k, hk, hI, hd⟩
    · clear g0 g12 g13 g14 hI hd hk k
      rintro t d3 g21 g20 ⟨g0, g12, g13, g14, g3, g19, k, hk, hI, hd⟩
      rw [List.drop_length, List.filter_nil, List.map_nil, List.nil_append] at hd
      repeat' first
        | (with_reducible refine CondX.dec (fun c => ?_) (fun c => ?_)) <;> try (exfalso; omega)
        | (with_reducible refine CondX.beq (fun c => ?_) (fun c => ?_)) <;> try (exfalso; omega)
        | (with_reducible refine CondX.bne (fun c => ?_) (fun c => ?_)) <;> try (exfalso; omega)
        | (with_reducible refine CondX.bool (fun c => ?_) (fun c => ?_)) <;> try (exfalso; omega)
        | simp only [go_sem, I_eq, I_cells, g0, g12, g13, g14, g3, g19, g20, g21, d3, hw, Nat.reduceAdd, Nat.reduceBEq, Nat.reduceEqDiff, Nat.reduceLeDiff, Nat.reduceLT, Nat.reduceSub]
        | simp (disch := omega) only [wrap_in, toNat_succ, toNat_pred, Int.toNat_natCast]
        | with_reducible refine And.intro (by omega) ?_
        | with_reducible refine exI (by omega) ?_
        | fail
      exact ⟨k, hk, hI, by rw [hd, hrest]⟩
  · rintro t d2 g14 g13 ⟨g0, g12, k, hk, hI, hd⟩
    rw [List.drop_length, edgesFrom, List.map_nil] at hd
    have hke := drop_end hd hk
    repeat' first
      | (with_reducible refine CondX.dec (fun c => ?_) (fun c => ?_)) <;> try (exfalso; omega)
      | (with_reducible refine CondX.beq (fun c => ?_) (fun c => ?_)) <;> try (exfalso; omega)
      | (with_reducible refine CondX.bne (fun c => ?_) (fun c => ?_)) <;> try (exfalso; omega)
      | (with_reducible refine CondX.bool (fun c => ?_) (fun c => ?_)) <;> try (exfalso; omega)
      | simp only [go_sem, I_eq, I_cells, g0, g12, g13, g14, d2, Nat.reduceAdd, Nat.reduceBEq, Nat.reduceEqDiff, Nat.reduceLeDiff, Nat.reduceLT, Nat.reduceSub]
      | simp (disch := omega) only [wrap_in, toNat_succ, toNat_pred, Int.toNat_natCast]
      | with_reducible refine And.intro (by omega) ?_
      | with_reducible refine exI (by omega) ?_
      | fail
    exact hE _ (hke ▸ hI)
theorem Edges_spec (ps : List Int) : PureF Try.prog 60 [treeV ps] (.fn (.func 94) [.ip [treeV ps]]) := by
  refine PureF.of_awpZ mixed (fun _ => []) (fn := Try.f60) (by kernel_rfl) rfl (by kernel_rfl) (by show 1 ≤ _; decide) (by simp [AV.lf, AV.lfs, treeV, I_lfs, near_lfs]) (fun h => ?_)
  repeat' first
    | (with_reducible refine CondX.dec (fun c => ?_) (fun c => ?_)) <;> try (exfalso; omega)
    | (with_reducible refine CondX.beq (fun c => ?_) (fun c => ?_)) <;> try (exfalso; omega)
    | (with_reducible refine CondX.bne (fun c => ?_) (fun c => ?_)) <;> try (exfalso; omega)
    | (with_reducible refine CondX.bool (fun c => ?_) (fun c => ?_)) <;> try (exfalso; omega)
    | simp only [go_sem, I_eq, I_cells, Nat.reduceAdd, Nat.reduceBEq, Nat.reduceEqDiff, Nat.reduceLeDiff, Nat.reduceLT, Nat.reduceSub]
    | simp (disch := omega) only [wrap_in, toNat_succ, toNat_pred, Int.toNat_natCast]
    | with_reducible refine And.intro (by omega) ?_
    | with_reducible refine exI (by omega) ?_
    | fail
  refine ⟨_, .step _ ⟨60, 1, h.cnt 60 1⟩ _ _ _ (.done _ _ _ ?_), ?_⟩
  · simp [Hp.alloc, Hp.set, AV.frz, AV.frzs]
    exact Le.refl _
  · ((repeat first | with_reducible apply Keeps.alloc | (with_reducible refine Keeps.set ?_ ?hL _; case hL => first | assumption | exact Hp.ok _ _ (by simp) | exact Keeps.new (by assumption) _ _)); first | assumption | exact Keeps.refl _)
def leftV (p : Int × Msg) : List AV := [.int .i64 p.1, encM p.2]
theorem Left_iter (e : Sid) (good : Bool) (seen : Int) (hg : good = true → SidB e) : IterF Try.prog 86 [.ip [.bool good], .ip [.l false 5 (e.out.map encM)], .ip (encE e).cells, .ip [.int .i64 seen]] [86] ((if good then leftI e.base seen 0 e.out else []).map leftV) := by
  intro L h K Iv D stab stabD hF I0 hY hE hD
  refine CallK.of_awpH mixed (fun _ => []) (fn := Try.f86) (by kernel_rfl) rfl (by kernel_rfl) (by show 5 ≤ _; decide) ?_
  cases good
  · repeat' first
      | (with_reducible refine CondX.dec (fun c => ?_) (fun c => ?_)) <;> try (exfalso; omega)
      | (with_reducible refine CondX.beq (fun c => ?_) (fun c => ?_)) <;> try (exfalso; omega)
      | (with_reducible refine CondX.bne (fun c => ?_) (fun c => ?_)) <;> try (exfalso; omega)
      | (with_reducible refine CondX.bool (fun c => ?_) (fun c => ?_)) <;> try (exfalso; omega)
      | simp only [go_sem, I_eq, I_cells, Nat.reduceAdd, Nat.reduceBEq, Nat.reduceEqDiff, Nat.reduceLeDiff, Nat.reduceLT, Nat.reduceSub]
      | simp (disch := omega) only [wrap_in, toNat_succ, toNat_pred, Int.toNat_natCast]
      | with_reducible refine And.intro (by omega) ?_
      | with_reducible refine exI (by omega) ?_
      | fail
    exact hE _ I0
  obtain ⟨⟨b1, b2⟩, b3⟩ := hg rfl
  obtain ⟨xs, hxs⟩ : ∃ xs, (if true = true then leftI e.base seen 0 e.out else []).map leftV = xs := ⟨_, rfl⟩
  rw [hxs] at hY hE
  rw [if_pos rfl] at hxs
  have kf0 : KeepsF [86] h h := KeepsF.refl _ _
  repeat' first
    | (with_reducible refine CondX.dec (fun c => ?_) (fun c => ?_)) <;> try (exfalso; omega)
    | (with_reducible refine CondX.beq (fun c => ?_) (fun c => ?_)) <;> try (exfalso; omega)
    | (with_reducible refine CondX.bne (fun c => ?_) (fun c => ?_)) <;> try (exfalso; omega)
    | (with_reducible refine CondX.bool (fun c => ?_) (fun c => ?_)) <;> try (exfalso; omega)
    | simp only [go_sem, I_eq, I_cells, encE_cells, Nat.reduceAdd, Nat.reduceBEq, Nat.reduceEqDiff, Nat.reduceLeDiff, Nat.reduceLT, Nat.reduceSub]
    | simp (disch := omega) only [wrap_in, toNat_succ, toNat_pred, Int.toNat_natCast]
    | with_reducible refine And.intro (by omega) ?_
    | with_reducible refine exI (by omega) ?_
    | fail
  refine awp_count 13 12 e.out.length (by omega) (fun i t => t.slots 0 = .yl L ∧ t.slots 3 = .ip (encE e).cells ∧ t.slots 4 = .ip [.int .i64 seen] ∧ t.slots 11 = .l false 5 (e.out.map encM) ∧ KeepsF [86] h t.hp ∧ ∃ k, k ≤ xs.length ∧ Iv k t.hp ∧ xs.drop k = (leftI e.base seen i (e.out.drop i)).map leftV) ?_ ?_ ?_ ?_ ?_
  · simp only [go_sem, I_eq, I_cells, Nat.reduceAdd, Nat.reduceBEq, Nat.reduceEqDiff, Nat.reduceLeDiff, Nat.reduceLT, Nat.reduceSub]
  · simp only [go_sem, I_eq, I_cells, Nat.reduceAdd, Nat.reduceBEq, Nat.reduceEqDiff, Nat.reduceLeDiff, Nat.reduceLT, Nat.reduceSub]
  · simp only [go_sem, I_eq, I_cells, encE_cells, Nat.reduceAdd, Nat.reduceBEq, Nat.reduceEqDiff, Nat.reduceLeDiff, Nat.reduceLT, Nat.reduceSub]
    exact ⟨kf0, 0, by omega, I0, by rw [← hxs]; rfl⟩
  · rintro i t hlt d2 hw g13 g12 ⟨g0, g3, g4, g11, gK, k, hk, hI, hd⟩
    rw [drop_cons hlt, leftI_cons] at hd
    have hw1 : IntKind.i64.wrap (e.base + 1) = e.base + 1 := IntWalk.i64_in _ (by omega)
    have hw2 : IntKind.i64.wrap (e.base + 1 + i) = e.base + 1 + i := IntWalk.i64_in _ (by omega)
    repeat' first
      | (with_reducible refine CondX.dec (fun c => ?_) (fun c => ?_)) <;> try (exfalso; omega)
      | (with_reducible refine CondX.beq (fun c => ?_) (fun c => ?_)) <;> try (exfalso; omega)
      | (with_reducible refine CondX.bne (fun c => ?_) (fun c => ?_)) <;> try (exfalso; omega)
      | (with_reducible refine CondX.bool (fun c => ?_) (fun c => ?_)) <;> try (exfalso; omega)
      | simp only [go_sem, I_eq, I_cells, g0, g3, g4, g11, g12, g13, d2, hw, hw1, hw2, encE_cells, encM_cells, Nat.reduceAdd, Nat.reduceBEq, Nat.reduceEqDiff, Nat.reduceLeDiff, Nat.reduceLT, Nat.reduceSub]
      | simp (disch := omega) only [wrap_in, toNat_succ, toNat_pred, Int.toNat_natCast]
      | with_reducible refine And.intro (by omega) ?_
      | with_reducible refine exI (by omega) ?_
      | fail
    · refine ⟨(?o : OwnF [86] h L t.hp _).kf, k, hk, stab k _ _ hI (?o).same (?o).con, by rw [hd, if_pos c]⟩
      case o => ((repeat first | (with_reducible refine OwnF.alloc ?_ (by assumption) (by simp) _ _) | (with_reducible refine OwnF.set ?_ (by assumption) (by simp) ?hn _; case hn => first | assumption | exact KeepsF.fresh (by assumption) (by simp) _)); exact OwnF.refl (by assumption))
    · rw [if_neg c] at hd
      refine yield_step hY (r := (leftI e.base seen (i + 1) (e.out.drop (i + 1))).map leftV) (by rw [hd]; rfl) (stab k _ _ hI (?o : OwnF [86] h L t.hp _).same (?o).con) (fun q2 kf2 hI2 hd2 hk2 => ?y1) (fun q2 kf2 hD2 => ?y2)
      case o => ((repeat first | (with_reducible refine OwnF.alloc ?_ (by assumption) (by simp) _ _) | (with_reducible refine OwnF.set ?_ (by assumption) (by simp) ?hn _; case hn => first | assumption | exact KeepsF.fresh (by assumption) (by simp) _)); exact OwnF.refl (by assumption))
      case y1 =>
        have kk := KeepsF.trans (OwnF.kf (g := t.hp) (L := L) (F := [86]) (h := h) (by ((repeat first | (with_reducible refine OwnF.alloc ?_ (by assumption) (by simp) _ _) | (with_reducible refine OwnF.set ?_ (by assumption) (by simp) ?hn _; case hn => first | assumption | exact KeepsF.fresh (by assumption) (by simp) _)); exact OwnF.refl (by assumption)))) kf2
        repeat' first
          | (with_reducible refine CondX.dec (fun c => ?_) (fun c => ?_)) <;> try (exfalso; omega)
          | (with_reducible refine CondX.beq (fun c => ?_) (fun c => ?_)) <;> try (exfalso; omega)
          | (with_reducible refine CondX.bne (fun c => ?_) (fun c => ?_)) <;> try (exfalso; omega)
          | (with_reducible refine CondX.bool (fun c => ?_) (fun c => ?_)) <;> try (exfalso; omega)
          | simp only [go_sem, I_eq, I_cells, g0, g3, g4, g11, g12, g13, d2, hw, hw1, hw2, encE_cells, encM_cells, Nat.reduceAdd, Nat.reduceBEq, Nat.reduceEqDiff, Nat.reduceLeDiff, Nat.reduceLT, Nat.reduceSub]
          | simp (disch := omega) only [wrap_in, toNat_succ, toNat_pred, Int.toNat_natCast]
          | with_reducible refine And.intro (by omega) ?_
          | with_reducible refine exI (by omega) ?_
          | fail
        exact ⟨k + 1, hk2, hI2, hd2⟩
      case y2 =>
        repeat' first
          | (with_reducible refine CondX.dec (fun c => ?_) (fun c => ?_)) <;> try (exfalso; omega)
          | (with_reducible refine CondX.beq (fun c => ?_) (fun c => ?_)) <;> try (exfalso; omega)
          | (with_reducible refine CondX.bne (fun c => ?_) (fun c => ?_)) <;> try (exfalso; omega)
          | (with_reducible refine CondX.bool (fun c => ?_) (fun c => ?_)) <;> try (exfalso; omega)
          | simp only [go_sem, I_eq, I_cells, g0, g3, g4, g11, g12, g13, d2, hw, hw1, hw2, encE_cells, encM_cells, Nat.reduceAdd, Nat.reduceBEq, Nat.reduceEqDiff, Nat.reduceLeDiff, Nat.reduceLT, Nat.reduceSub]
          | simp (disch := omega) only [wrap_in, toNat_succ, toNat_pred, Int.toNat_natCast]
          | with_reducible refine And.intro (by omega) ?_
          | with_reducible refine exI (by omega) ?_
          | fail
        exact hD _ hD2
  · rintro t d2 g13 g12 ⟨g0, g3, g4, g11, gK, k, hk, hI, hd⟩
    rw [List.drop_length, leftI, List.map_nil] at hd
    have hke := drop_end hd hk
    repeat' first
      | (with_reducible refine CondX.dec (fun c => ?_) (fun c => ?_)) <;> try (exfalso; omega)
      | (with_reducible refine CondX.beq (fun c => ?_) (fun c => ?_)) <;> try (exfalso; omega)
      | (with_reducible refine CondX.bne (fun c => ?_) (fun c => ?_)) <;> try (exfalso; omega)
      | (with_reducible refine CondX.bool (fun c => ?_) (fun c => ?_)) <;> try (exfalso; omega)
      | simp only [go_sem, I_eq, I_cells, g0, g3, g4, g11, g12, g13, d2, Nat.reduceAdd, Nat.reduceBEq, Nat.reduceEqDiff, Nat.reduceLeDiff, Nat.reduceLT, Nat.reduceSub]
      | simp (disch := omega) only [wrap_in, toNat_succ, toNat_pred, Int.toNat_natCast]
      | with_reducible refine And.intro (by omega) ?_
      | with_reducible refine exI (by omega) ?_
      | fail
    exact hE _ (hke ▸ hI)
theorem Clone_Msg (ns : List Msg) (ex : Bool) (hlen : ns.length < 2 ^ 30) : PureF Try.prog 85 [.l ex 5 (ns.map encM)] (.l false 5 (ns.map encM)) := by
  refine PureF.of_awpZ mixed (fun _ => []) (fn := Try.f85) (by kernel_rfl) rfl (by kernel_rfl) (by show 1 ≤ _; decide) (by simp [AV.lf, M_lfs]) (fun h => ?_)
  simp only [go_sem, I_eq, I_cells, Nat.reduceAdd, Nat.reduceBEq, Nat.reduceEqDiff, Nat.reduceLeDiff, Nat.reduceLT, Nat.reduceSub]
  refine ⟨fun hn => ⟨h, .done _ _ _ (by rw [hn]; exact Le.l0), Keeps.refl h⟩, by decide, by omega, by omega, _, .step _ ⟨85, 7, h.cnt 85 7⟩ _ _ _ (.done _ _ _ ?_), ?_⟩
  · simp [Hp.alloc, AV.frz]
    exact Le.refl _
  · exact Keeps.set ((Keeps.refl h).alloc _ _ _) ((Keeps.refl h).new _ _) _
theorem M_frzs (L : Lab) (c : Con) (ns : List Msg) : AV.frzs L c (ns.map encM) = ns.map encM := frzs_lf L c _ (M_lfs ns)
theorem half_Left_spec (e : Sid) (seen : Int) (hg : goodE e = true) : PureF Try.prog 56 [encE e, .int .i64 seen] (.fn (.func 86) [.ip [.bool true], .ip [.l false 5 (e.out.map encM)], .ip (encE e).cells, .ip [.int .i64 seen]]) := by
  refine PureF.of_awpZ mixed (fun _ => []) (fn := Try.f56) (by kernel_rfl) rfl (by kernel_rfl) (by show 2 ≤ _; decide) (by simp [AV.lf, AV.lfs, encE_cells, M_lfs]) (fun h => ?_)
  have hl := goodE_len hg
  repeat' first
    | (with_reducible refine CondX.dec (fun c => ?_) (fun c => ?_)) <;> try (exfalso; omega)
    | (with_reducible refine CondX.beq (fun c => ?_) (fun c => ?_)) <;> try (exfalso; omega)
    | (with_reducible refine CondX.bne (fun c => ?_) (fun c => ?_)) <;> try (exfalso; omega)
    | (with_reducible refine CondX.bool (fun c => ?_) (fun c => ?_)) <;> try (exfalso; omega)
    | ((with_reducible refine CallX.id ?_); first | refine CallX.pure (f84_spec e) ?_ | refine CallX.pure (Clone_Msg e.out _ (by omega)) ?_)
    | simp only [go_sem, I_eq, I_cells, encE, encE_cells, hg, Nat.reduceAdd, Nat.reduceBEq, Nat.reduceEqDiff, Nat.reduceLeDiff, Nat.reduceLT, Nat.reduceSub]
    | simp (disch := omega) only [wrap_in, toNat_succ, toNat_pred, Int.toNat_natCast]
    | with_reducible refine And.intro (by omega) ?_
    | with_reducible refine exI (by omega) ?_
    | fail
  refine ⟨_, .step _ ⟨56, 5, h.cnt 56 5⟩ _ _ _ (.step _ ⟨56, 6, h.cnt 56 6⟩ _ _ _ (.step _ ⟨56, 2, h.cnt 56 2⟩ _ _ _ (.step _ ⟨56, 3, h.cnt 56 3⟩ _ _ _ (.done _ _ _ ?_)))), ?_⟩
  · simp [Hp.alloc, Hp.set, AV.frz, AV.frzs, M_frzs, encE_cells]
    exact Le.refl _
  · ((repeat first | with_reducible apply Keeps.alloc | (with_reducible refine Keeps.set ?_ ?hL _; case hL => first | assumption | exact Hp.ok _ _ (by simp) | exact Keeps.new (by assumption) _ _)); first | assumption | exact Keeps.refl _)
end Go.Proofs.Ytmajndgdfmnchaa
