/- Looks at states: whether they fit, where an object is. -/
import Derived.Test.YtmajndgdfmnchaaZTN
import Derived.Test.YtmajndgdfmnchaaT4
namespace Go.Gh
def allI {α : Type} (p : Nat → α → Bool) : Nat → List α → Bool
  | _, [] => true
  | i, x :: r => p i x && allI p (i + 1) r
theorem allI_iff {α : Type} {p : Nat → α → Bool} {l : List α} : ∀ {k}, allI p k l = true ↔ ∀ i (h : i < l.length), p (k + i) l[i] = true := by
  induction l with
  | nil => intro k; simp [allI]
  | cons x r ih =>
    intro k
    rw [allI, Bool.and_eq_true, ih]
    constructor
    · rintro ⟨h1, h2⟩ i hi
      cases i with
      | zero => exact h1
      | succ i => have := h2 i (by simpa using hi); rwa [show k + 1 + i = k + (i + 1) by omega] at this
    · intro h
      exact ⟨h 0 (by simp), fun i hi => by have := h (i + 1) (by simpa using hi); rwa [show k + (i + 1) = k + 1 + i by omega] at this⟩
def objN (ss : List Nst) : Nat := match ss with
  | [] => 0
  | s :: _ => s.objs.length
def fitAt (ps : List Int) (k : Nat) (i : Nat) (s : Nst) : Bool := s.me == (i : Int) && goodS ps s && s.objs.length == k
def fitAtR (ps : List Int) (k : Nat) (i : Nat) (s : Nst) : Bool := s.me == (i : Int) && goodR ps s && s.objs.length == k
def fitB (ps : List Int) (ss : List Nst) : Bool := ss.length == ps.length && allI (fitAt ps (objN ss)) 0 ss
def fitR (ps : List Int) (ss : List Nst) : Bool := ss.length == ps.length && allI (fitAtR ps (objN ss)) 0 ss
theorem objN_eq {ss : List Nst} (h : 0 < ss.length) : objN ss = ss[0].objs.length := by
  cases ss with
  | nil => simp at h
  | cons s r => rfl
/-- The request at which an object is, at this node. -/
def hereAt (obj : Int) (s : Nst) : Option Int :=
  if 0 ≤ obj ∧ obj < s.objs.length then (match (s.objs[obj.toNat]?.map Own.cells).getD [] with
    | c :: _ => if c.state = 1 then none else some c.num
    | [] => none) else none
def holdL (obj : Int) : Nat → List Nst → Int × Int
  | _, [] => (-1, 0)
  | i, s :: r => match hereAt obj s with
    | some n => ((i : Int), n)
    | none => holdL obj (i + 1) r
def holder (ss : List Nst) (obj : Int) : Int × Int := holdL obj 0 ss
theorem hereAt_out {obj : Int} {s : Nst} (h : ¬ (0 ≤ obj ∧ obj < s.objs.length)) : hereAt obj s = none := by unfold hereAt; rw [if_neg h]
theorem hereAt_nil {obj : Int} {s : Nst} (h0 : 0 ≤ obj) (h : obj.toNat < s.objs.length) (hc : ¬ 0 < s.objs[obj.toNat].cells.length) : hereAt obj s = none := by
  unfold hereAt; rw [if_pos (by omega), List.getElem?_eq_getElem h]
  simp only [Option.map_some, Option.getD_some]
  rw [List.length_eq_zero_iff.1 (show s.objs[obj.toNat].cells.length = 0 by omega)]
theorem hereAt_one {obj : Int} {s : Nst} (h0 : 0 ≤ obj) (h : obj.toNat < s.objs.length) (hc : 0 < s.objs[obj.toNat].cells.length) : hereAt obj s = if s.objs[obj.toNat].cells[0].state = 1 then none else some s.objs[obj.toNat].cells[0].num := by
  unfold hereAt; rw [if_pos (by omega), List.getElem?_eq_getElem h]
  simp only [Option.map_some, Option.getD_some]
  generalize s.objs[obj.toNat].cells = cs at hc ⊢
  cases cs with
  | nil => simp at hc
  | cons c r => rfl
end Go.Gh
namespace Go.Proofs.Ytmajndgdfmnchaa
open Go Go.T Go.Gh Go.Proofs
set_option linter.unusedSimpArgs false
set_option maxRecDepth 10000
set_option maxHeartbeats 4000000
def T23 : Nat → List Tg := fun id => if id = 6 then [.plain, .plain, .plain, .plain, .plain, .plain, .plain, .pure] else []
theorem Fit_nil (ss : List Nst) (e : Bool) : PureF Try.prog 23 [.nilp, .l e 6 (ss.map encS)] (.bool false) := by
  refine PureF.of_awp mixed T23 (fn := Try.f23) (by kernel_rfl) rfl (by kernel_rfl) (by show 2 ≤ _; decide) (by simp [AV.lf]) (fun h => ?_)
  repeat' first
    | (with_reducible refine CondX.dec (fun c => ?_) (fun c => ?_)) <;> try (exfalso; omega)
    | (with_reducible refine CondX.beq (fun c => ?_) (fun c => ?_)) <;> try (exfalso; omega)
    | (with_reducible refine CondX.bne (fun c => ?_) (fun c => ?_)) <;> try (exfalso; omega)
    | (with_reducible refine CondX.bool (fun c => ?_) (fun c => ?_)) <;> try (exfalso; omega)
    | ((with_reducible refine CallX.id ?_); first | refine CallX.pure (Size_nil) ?_)
    | simp only [go_sem, I_eq, I_cells, T23, Nat.reduceAdd, Nat.reduceBEq, Nat.reduceEqDiff, Nat.reduceLeDiff, Nat.reduceLT, Nat.reduceSub]
    | simp (disch := omega) only [wrap_in, toNat_succ, toNat_pred, Int.toNat_natCast]
    | with_reducible refine And.intro (by omega) ?_
    | with_reducible refine exI (by omega) ?_
    | fail
  ((repeat first | with_reducible apply Keeps.alloc | (with_reducible refine Keeps.set ?_ ?hL _; case hL => first | assumption | exact Hp.ok _ _ (by simp) | exact Keeps.new (by assumption) _ _)); first | assumption | exact Keeps.refl _)
theorem Fit_spec (ps : List Int) (ss : List Nst) (e : Bool) (hps : 0 < ps.length ∧ ps.length < 2 ^ 29) (hs : ∀ s ∈ ss, Sized s) : PureF Try.prog 23 [treeV ps, .l e 6 (ss.map encS)] (.bool (fitB ps ss)) := by
  refine PureF.of_awp mixed T23 (fn := Try.f23) (by kernel_rfl) rfl (by kernel_rfl) (by show 2 ≤ _; decide) (by simp [AV.lf]) (fun h => ?_)
  repeat' first
    | (with_reducible refine CondX.dec (fun c => ?_) (fun c => ?_)) <;> try (exfalso; omega)
    | (with_reducible refine CondX.beq (fun c => ?_) (fun c => ?_)) <;> try (exfalso; omega)
    | (with_reducible refine CondX.bne (fun c => ?_) (fun c => ?_)) <;> try (exfalso; omega)
    | (with_reducible refine CondX.bool (fun c => ?_) (fun c => ?_)) <;> try (exfalso; omega)
    | ((with_reducible refine CallX.id ?_); first | refine CallX.pure (Size_spec ps) ?_)
    | ((with_reducible refine PureX.id ?_); first | refine PureX.of (Size_spec ps) ?_)
    | simp only [go_sem, I_eq, I_cells, T23, Nat.reduceAdd, Nat.reduceBEq, Nat.reduceEqDiff, Nat.reduceLeDiff, Nat.reduceLT, Nat.reduceSub]
    | simp (disch := omega) only [wrap_in, toNat_succ, toNat_pred, Int.toNat_natCast]
    | with_reducible refine And.intro (by omega) ?_
    | with_reducible refine exI (by omega) ?_
    | fail
  · exact ⟨by rw [fitB, beq_eq_false_iff_ne.2 (show ss.length ≠ ps.length by omega)]; rfl, by ((repeat first | with_reducible apply Keeps.alloc | (with_reducible refine Keeps.set ?_ ?hL _; case hL => first | assumption | exact Hp.ok _ _ (by simp) | exact Keeps.new (by assumption) _ _)); first | assumption | exact Keeps.refl _)⟩
  have hl : ss.length = ps.length := by omega
  have hf : fitB ps ss = allI (fitAt ps (objN ss)) 0 ss := by rw [fitB, beq_iff_eq.2 hl]; rfl
  refine awp_count 19 18 ss.length (by omega) (fun i t => t.slots 0 = treeV ps ∧ t.slots 1 = .l e 6 (ss.map encS) ∧ t.slots 17 = .l e 6 (ss.map encS) ∧ Keeps h t.hp ∧ allI (fitAt ps (objN ss)) 0 ss = allI (fitAt ps (objN ss)) i (ss.drop i)) ?_ ?_ ?_ ?_ ?_
  · simp only [go_sem, I_eq, I_cells, Nat.reduceAdd, Nat.reduceBEq, Nat.reduceEqDiff, Nat.reduceLeDiff, Nat.reduceLT, Nat.reduceSub]
  · simp only [go_sem, I_eq, I_cells, Nat.reduceAdd, Nat.reduceBEq, Nat.reduceEqDiff, Nat.reduceLeDiff, Nat.reduceLT, Nat.reduceSub]
  · simp only [go_sem, I_eq, I_cells, Nat.reduceAdd, Nat.reduceBEq, Nat.reduceEqDiff, Nat.reduceLeDiff, Nat.reduceLT, Nat.reduceSub]
    exact Keeps.refl h
  · rintro i t hlt d2 hw g19 g18 ⟨g0, g1, g17, gH, ha⟩
    have h0 : 0 < ss.length := by omega
    rw [drop_cons hlt, allI, fitAt, objN_eq h0] at ha
    rw [objN_eq h0] at hf
    repeat' first
      | (with_reducible refine CondX.dec (fun c => ?_) (fun c => ?_)) <;> try (exfalso; omega)
      | (with_reducible refine CondX.beq (fun c => ?_) (fun c => ?_)) <;> try (exfalso; omega)
      | (with_reducible refine CondX.bne (fun c => ?_) (fun c => ?_)) <;> try (exfalso; omega)
      | (with_reducible refine CondX.bool (fun c => ?_) (fun c => ?_)) <;> try (exfalso; omega)
      | ((with_reducible refine CallX.id ?_); first | refine CallX.pure (Good_spec ps ss[i] hps.2 (hs _ (List.getElem_mem hlt))) ?_)
      | ((with_reducible refine PureX.id ?_); first | refine PureX.of (Good_spec ps ss[i] hps.2 (hs _ (List.getElem_mem hlt))) ?_)
      | simp only [go_sem, I_eq, I_cells, T23, g0, g1, g17, g18, g19, d2, hw, encS_cells, encS, Nat.reduceAdd, Nat.reduceBEq, Nat.reduceEqDiff, Nat.reduceLeDiff, Nat.reduceLT, Nat.reduceSub]
      | simp (disch := omega) only [wrap_in, toNat_succ, toNat_pred, Int.toNat_natCast]
      | with_reducible refine And.intro (by omega) ?_
      | with_reducible refine exI (by omega) ?_
      | fail
    · exact ⟨by rw [hf, ha, beq_eq_false_iff_ne.2 c]; rfl, by ((repeat first | with_reducible apply Keeps.alloc | (with_reducible refine Keeps.set ?_ ?hL _; case hL => first | assumption | exact Hp.ok _ _ (by simp) | exact Keeps.new (by assumption) _ _)); first | assumption | exact Keeps.refl _)⟩
    · exact ⟨by rw [hf, ha, beq_eq_false_iff_ne.2 (show ss[i].objs.length ≠ ss[0].objs.length by omega), Bool.and_false]; rfl, by ((repeat first | with_reducible apply Keeps.alloc | (with_reducible refine Keeps.set ?_ ?hL _; case hL => first | assumption | exact Hp.ok _ _ (by simp) | exact Keeps.new (by assumption) _ _)); first | assumption | exact Keeps.refl _)⟩
    · rename_i c1 c2
      exact ⟨by ((repeat first | with_reducible apply Keeps.alloc | (with_reducible refine Keeps.set ?_ ?hL _; case hL => first | assumption | exact Hp.ok _ _ (by simp) | exact Keeps.new (by assumption) _ _)); first | assumption | exact Keeps.refl _), by rw [objN_eq h0, ha, beq_iff_eq.2 c1, c2, beq_iff_eq.2 (show ss[i].objs.length = ss[0].objs.length by omega)]; rfl⟩
    · exact ⟨by rw [hf, ha, c, Bool.and_false]; rfl, by ((repeat first | with_reducible apply Keeps.alloc | (with_reducible refine Keeps.set ?_ ?hL _; case hL => first | assumption | exact Hp.ok _ _ (by simp) | exact Keeps.new (by assumption) _ _)); first | assumption | exact Keeps.refl _)⟩
  · rintro t d2 g19 g18 ⟨g0, g1, g17, gH, ha⟩
    rw [List.drop_length] at ha
    simp only [go_sem, I_eq, I_cells, T23, g0, g1, g17, g18, g19, d2, Nat.reduceAdd, Nat.reduceBEq, Nat.reduceEqDiff, Nat.reduceLeDiff, Nat.reduceLT, Nat.reduceSub]
    exact ⟨by rw [hf, ha]; rfl, gH⟩
def T26 : Nat → List Tg := fun id => if id = 6 then [.plain, .plain, .plain, .plain, .plain, .plain, .plain, .pure] else []
theorem ref_Fit_spec (ps : List Int) (e1 : Bool) (ss : List Nst) (e : Bool) (hps : ps.length < 2 ^ 29) (hs : ∀ s ∈ ss, Sized s) : PureF Try.prog 26 [.l e1 1 (ps.map I), .l e 6 (ss.map encS)] (.bool (fitR ps ss)) := by
  refine PureF.of_awp mixed T26 (fn := Try.f26) (by kernel_rfl) rfl (by kernel_rfl) (by show 2 ≤ _; decide) (by simp [AV.lf]) (fun h => ?_)
  repeat' first
    | (with_reducible refine CondX.dec (fun c => ?_) (fun c => ?_)) <;> try (exfalso; omega)
    | (with_reducible refine CondX.beq (fun c => ?_) (fun c => ?_)) <;> try (exfalso; omega)
    | (with_reducible refine CondX.bne (fun c => ?_) (fun c => ?_)) <;> try (exfalso; omega)
    | (with_reducible refine CondX.bool (fun c => ?_) (fun c => ?_)) <;> try (exfalso; omega)
    | simp only [go_sem, I_eq, I_cells, T26, Nat.reduceAdd, Nat.reduceBEq, Nat.reduceEqDiff, Nat.reduceLeDiff, Nat.reduceLT, Nat.reduceSub]
    | simp (disch := omega) only [wrap_in, toNat_succ, toNat_pred, Int.toNat_natCast]
    | with_reducible refine And.intro (by omega) ?_
    | with_reducible refine exI (by omega) ?_
    | fail
  · exact ⟨by rw [fitR, beq_eq_false_iff_ne.2 (show ss.length ≠ ps.length by omega)]; rfl, by ((repeat first | with_reducible apply Keeps.alloc | (with_reducible refine Keeps.set ?_ ?hL _; case hL => first | assumption | exact Hp.ok _ _ (by simp) | exact Keeps.new (by assumption) _ _)); first | assumption | exact Keeps.refl _)⟩
  have hl : ss.length = ps.length := by omega
  have hf : fitR ps ss = allI (fitAtR ps (objN ss)) 0 ss := by rw [fitR, beq_iff_eq.2 hl]; rfl
  refine awp_count 14 13 ss.length (by omega) (fun i t => t.slots 0 = .l e1 1 (ps.map I) ∧ t.slots 1 = .l e 6 (ss.map encS) ∧ t.slots 12 = .l e 6 (ss.map encS) ∧ Keeps h t.hp ∧ allI (fitAtR ps (objN ss)) 0 ss = allI (fitAtR ps (objN ss)) i (ss.drop i)) ?_ ?_ ?_ ?_ ?_
  · simp only [go_sem, I_eq, I_cells, Nat.reduceAdd, Nat.reduceBEq, Nat.reduceEqDiff, Nat.reduceLeDiff, Nat.reduceLT, Nat.reduceSub]
  · simp only [go_sem, I_eq, I_cells, Nat.reduceAdd, Nat.reduceBEq, Nat.reduceEqDiff, Nat.reduceLeDiff, Nat.reduceLT, Nat.reduceSub]
  · simp only [go_sem, I_eq, I_cells, Nat.reduceAdd, Nat.reduceBEq, Nat.reduceEqDiff, Nat.reduceLeDiff, Nat.reduceLT, Nat.reduceSub]
    exact Keeps.refl h
  · rintro i t hlt d2 hw g14 g13 ⟨g0, g1, g12, gH, ha⟩
    have h0 : 0 < ss.length := by omega
    rw [drop_cons hlt, allI, fitAtR, objN_eq h0] at ha
    rw [objN_eq h0] at hf
    repeat' first
      | (with_reducible refine CondX.dec (fun c => ?_) (fun c => ?_)) <;> try (exfalso; omega)
      | (with_reducible refine CondX.beq (fun c => ?_) (fun c => ?_)) <;> try (exfalso; omega)
      | (with_reducible refine CondX.bne (fun c => ?_) (fun c => ?_)) <;> try (exfalso; omega)
      | (with_reducible refine CondX.bool (fun c => ?_) (fun c => ?_)) <;> try (exfalso; omega)
      | ((with_reducible refine CallX.id ?_); first | refine CallX.pure (ref_Good_spec ps e1 ss[i] hps (hs _ (List.getElem_mem hlt))) ?_)
      | ((with_reducible refine PureX.id ?_); first | refine PureX.of (ref_Good_spec ps e1 ss[i] hps (hs _ (List.getElem_mem hlt))) ?_)
      | simp only [go_sem, I_eq, I_cells, T26, g0, g1, g12, g13, g14, d2, hw, encS_cells, encS, Nat.reduceAdd, Nat.reduceBEq, Nat.reduceEqDiff, Nat.reduceLeDiff, Nat.reduceLT, Nat.reduceSub]
      | simp (disch := omega) only [wrap_in, toNat_succ, toNat_pred, Int.toNat_natCast]
      | with_reducible refine And.intro (by omega) ?_
      | with_reducible refine exI (by omega) ?_
      | fail
    · exact ⟨by rw [hf, ha, beq_eq_false_iff_ne.2 c]; rfl, by ((repeat first | with_reducible apply Keeps.alloc | (with_reducible refine Keeps.set ?_ ?hL _; case hL => first | assumption | exact Hp.ok _ _ (by simp) | exact Keeps.new (by assumption) _ _)); first | assumption | exact Keeps.refl _)⟩
    · exact ⟨by rw [hf, ha, beq_eq_false_iff_ne.2 (show ss[i].objs.length ≠ ss[0].objs.length by omega), Bool.and_false]; rfl, by ((repeat first | with_reducible apply Keeps.alloc | (with_reducible refine Keeps.set ?_ ?hL _; case hL => first | assumption | exact Hp.ok _ _ (by simp) | exact Keeps.new (by assumption) _ _)); first | assumption | exact Keeps.refl _)⟩
    · rename_i c1 c2
      exact ⟨by ((repeat first | with_reducible apply Keeps.alloc | (with_reducible refine Keeps.set ?_ ?hL _; case hL => first | assumption | exact Hp.ok _ _ (by simp) | exact Keeps.new (by assumption) _ _)); first | assumption | exact Keeps.refl _), by rw [objN_eq h0, ha, beq_iff_eq.2 c1, c2, beq_iff_eq.2 (show ss[i].objs.length = ss[0].objs.length by omega)]; rfl⟩
    · exact ⟨by rw [hf, ha, c, Bool.and_false]; rfl, by ((repeat first | with_reducible apply Keeps.alloc | (with_reducible refine Keeps.set ?_ ?hL _; case hL => first | assumption | exact Hp.ok _ _ (by simp) | exact Keeps.new (by assumption) _ _)); first | assumption | exact Keeps.refl _)⟩
  · rintro t d2 g14 g13 ⟨g0, g1, g12, gH, ha⟩
    rw [List.drop_length] at ha
    simp only [go_sem, I_eq, I_cells, T26, g0, g1, g12, g13, g14, d2, Nat.reduceAdd, Nat.reduceBEq, Nat.reduceEqDiff, Nat.reduceLeDiff, Nat.reduceLT, Nat.reduceSub]
    exact ⟨by rw [hf, ha]; rfl, gH⟩
theorem Holder_spec (ss : List Nst) (e : Bool) (obj : Int) (hlen : ss.length < 2 ^ 62) : PureF Try.prog 32 [.l e 6 (ss.map encS), .int .i64 obj] (pairV (holder ss obj)) := by
  refine PureF.of_awp mixed (fun _ => []) (fn := Try.f32) (by kernel_rfl) rfl (by kernel_rfl) (by show 2 ≤ _; decide) (by simp [AV.lf, AV.lfs, pairV]) (fun h => ?_)
  repeat' first
    | (with_reducible refine CondX.dec (fun c => ?_) (fun c => ?_)) <;> try (exfalso; omega)
    | (with_reducible refine CondX.beq (fun c => ?_) (fun c => ?_)) <;> try (exfalso; omega)
    | (with_reducible refine CondX.bne (fun c => ?_) (fun c => ?_)) <;> try (exfalso; omega)
    | (with_reducible refine CondX.bool (fun c => ?_) (fun c => ?_)) <;> try (exfalso; omega)
    | simp only [go_sem, I_eq, I_cells, Nat.reduceAdd, Nat.reduceBEq, Nat.reduceEqDiff, Nat.reduceLeDiff, Nat.reduceLT, Nat.reduceSub]
    | simp (disch := omega) only [wrap_in, toNat_succ, toNat_pred, Int.toNat_natCast]
    | with_reducible refine And.intro (by omega) ?_
    | with_reducible refine exI (by omega) ?_
    | fail
  refine awp_count 11 10 ss.length (by omega) (fun i t => t.slots 1 = .int .i64 obj ∧ t.slots 9 = .l e 6 (ss.map encS) ∧ Keeps h t.hp ∧ holdL obj 0 ss = holdL obj i (ss.drop i)) ?_ ?_ ?_ ?_ ?_
  · simp only [go_sem, I_eq, I_cells, Nat.reduceAdd, Nat.reduceBEq, Nat.reduceEqDiff, Nat.reduceLeDiff, Nat.reduceLT, Nat.reduceSub]
  · simp only [go_sem, I_eq, I_cells, Nat.reduceAdd, Nat.reduceBEq, Nat.reduceEqDiff, Nat.reduceLeDiff, Nat.reduceLT, Nat.reduceSub]
  · simp only [go_sem, I_eq, I_cells, Nat.reduceAdd, Nat.reduceBEq, Nat.reduceEqDiff, Nat.reduceLeDiff, Nat.reduceLT, Nat.reduceSub]
    exact Keeps.refl h
  · rintro i t hlt d2 hw g11 g10 ⟨g1, g9, gH, ha⟩
    rw [drop_cons hlt, holdL] at ha
    repeat' first
      | (with_reducible refine CondX.dec (fun c => ?_) (fun c => ?_)) <;> try (exfalso; omega)
      | (with_reducible refine CondX.beq (fun c => ?_) (fun c => ?_)) <;> try (exfalso; omega)
      | (with_reducible refine CondX.bne (fun c => ?_) (fun c => ?_)) <;> try (exfalso; omega)
      | (with_reducible refine CondX.bool (fun c => ?_) (fun c => ?_)) <;> try (exfalso; omega)
      | simp only [go_sem, I_eq, I_cells, g1, g9, g10, g11, d2, hw, encS_cells, encO_cells, encC_cells, Nat.reduceAdd, Nat.reduceBEq, Nat.reduceEqDiff, Nat.reduceLeDiff, Nat.reduceLT, Nat.reduceSub]
      | simp (disch := omega) only [wrap_in, toNat_succ, toNat_pred, Int.toNat_natCast]
      | with_reducible refine And.intro (by omega) ?_
      | with_reducible refine exI (by omega) ?_
      | fail
    all_goals first
      | exact ⟨by ((repeat first | with_reducible apply Keeps.alloc | (with_reducible refine Keeps.set ?_ ?hL _; case hL => first | assumption | exact Hp.ok _ _ (by simp) | exact Keeps.new (by assumption) _ _)); first | assumption | exact Keeps.refl _), by rw [ha, hereAt_out (by omega)]⟩
      | exact ⟨by ((repeat first | with_reducible apply Keeps.alloc | (with_reducible refine Keeps.set ?_ ?hL _; case hL => first | assumption | exact Hp.ok _ _ (by simp) | exact Keeps.new (by assumption) _ _)); first | assumption | exact Keeps.refl _), by rw [ha, hereAt_nil (by omega) (by omega) (by omega)]⟩
      | exact ⟨by ((repeat first | with_reducible apply Keeps.alloc | (with_reducible refine Keeps.set ?_ ?hL _; case hL => first | assumption | exact Hp.ok _ _ (by simp) | exact Keeps.new (by assumption) _ _)); first | assumption | exact Keeps.refl _), by rw [ha, hereAt_one (by omega) (by omega) (by omega), if_pos c]⟩
      | exact ⟨by rw [holder, ha, hereAt_one (by omega) (by omega) (by omega), if_neg c]; rfl, by ((repeat first | with_reducible apply Keeps.alloc | (with_reducible refine Keeps.set ?_ ?hL _; case hL => first | assumption | exact Hp.ok _ _ (by simp) | exact Keeps.new (by assumption) _ _)); first | assumption | exact Keeps.refl _)⟩
  · rintro t d2 g11 g10 ⟨g1, g9, gH, ha⟩
    rw [List.drop_length] at ha
    simp only [go_sem, I_eq, I_cells, g1, g9, g10, g11, d2, Nat.reduceAdd, Nat.reduceBEq, Nat.reduceEqDiff, Nat.reduceLeDiff, Nat.reduceLT, Nat.reduceSub]
    exact ⟨by rw [holder, ha]; rfl, gH⟩
theorem ref_holder_spec (ss : List Nst) (e : Bool) (obj : Int) (hlen : ss.length < 2 ^ 62) (ho : ∀ s ∈ ss, 0 ≤ obj ∧ obj < s.objs.length) : PureF Try.prog 49 [.l e 6 (ss.map encS), .int .i64 obj] (pairV (holder ss obj)) := by
  refine PureF.of_awp mixed (fun _ => []) (fn := Try.f49) (by kernel_rfl) rfl (by kernel_rfl) (by show 2 ≤ _; decide) (by simp [AV.lf, AV.lfs, pairV]) (fun h => ?_)
  repeat' first
    | (with_reducible refine CondX.dec (fun c => ?_) (fun c => ?_)) <;> try (exfalso; omega)
    | (with_reducible refine CondX.beq (fun c => ?_) (fun c => ?_)) <;> try (exfalso; omega)
    | (with_reducible refine CondX.bne (fun c => ?_) (fun c => ?_)) <;> try (exfalso; omega)
    | (with_reducible refine CondX.bool (fun c => ?_) (fun c => ?_)) <;> try (exfalso; omega)
    | simp only [go_sem, I_eq, I_cells, Nat.reduceAdd, Nat.reduceBEq, Nat.reduceEqDiff, Nat.reduceLeDiff, Nat.reduceLT, Nat.reduceSub]
    | simp (disch := omega) only [wrap_in, toNat_succ, toNat_pred, Int.toNat_natCast]
    | with_reducible refine And.intro (by omega) ?_
    | with_reducible refine exI (by omega) ?_
    | fail
  refine awp_count 11 10 ss.length (by omega) (fun i t => t.slots 1 = .int .i64 obj ∧ t.slots 9 = .l e 6 (ss.map encS) ∧ Keeps h t.hp ∧ holdL obj 0 ss = holdL obj i (ss.drop i)) ?_ ?_ ?_ ?_ ?_
  · simp only [go_sem, I_eq, I_cells, Nat.reduceAdd, Nat.reduceBEq, Nat.reduceEqDiff, Nat.reduceLeDiff, Nat.reduceLT, Nat.reduceSub]
  · simp only [go_sem, I_eq, I_cells, Nat.reduceAdd, Nat.reduceBEq, Nat.reduceEqDiff, Nat.reduceLeDiff, Nat.reduceLT, Nat.reduceSub]
  · simp only [go_sem, I_eq, I_cells, Nat.reduceAdd, Nat.reduceBEq, Nat.reduceEqDiff, Nat.reduceLeDiff, Nat.reduceLT, Nat.reduceSub]
    exact Keeps.refl h
  · rintro i t hlt d2 hw g11 g10 ⟨g1, g9, gH, ha⟩
    have hoi := ho _ (List.getElem_mem hlt)
    rw [drop_cons hlt, holdL] at ha
    repeat' first
      | (with_reducible refine CondX.dec (fun c => ?_) (fun c => ?_)) <;> try (exfalso; omega)
      | (with_reducible refine CondX.beq (fun c => ?_) (fun c => ?_)) <;> try (exfalso; omega)
      | (with_reducible refine CondX.bne (fun c => ?_) (fun c => ?_)) <;> try (exfalso; omega)
      | (with_reducible refine CondX.bool (fun c => ?_) (fun c => ?_)) <;> try (exfalso; omega)
      | simp only [go_sem, I_eq, I_cells, g1, g9, g10, g11, d2, hw, encS_cells, encO_cells, encC_cells, Nat.reduceAdd, Nat.reduceBEq, Nat.reduceEqDiff, Nat.reduceLeDiff, Nat.reduceLT, Nat.reduceSub]
      | simp (disch := omega) only [wrap_in, toNat_succ, toNat_pred, Int.toNat_natCast]
      | with_reducible refine And.intro (by omega) ?_
      | with_reducible refine exI (by omega) ?_
      | fail
    all_goals first
      | exact ⟨by ((repeat first | with_reducible apply Keeps.alloc | (with_reducible refine Keeps.set ?_ ?hL _; case hL => first | assumption | exact Hp.ok _ _ (by simp) | exact Keeps.new (by assumption) _ _)); first | assumption | exact Keeps.refl _), by rw [ha, hereAt_nil (by omega) (by omega) (by omega)]⟩
      | exact ⟨by ((repeat first | with_reducible apply Keeps.alloc | (with_reducible refine Keeps.set ?_ ?hL _; case hL => first | assumption | exact Hp.ok _ _ (by simp) | exact Keeps.new (by assumption) _ _)); first | assumption | exact Keeps.refl _), by rw [ha, hereAt_one (by omega) (by omega) (by omega), if_pos c]⟩
      | exact ⟨by rw [holder, ha, hereAt_one (by omega) (by omega) (by omega), if_neg c]; rfl, by ((repeat first | with_reducible apply Keeps.alloc | (with_reducible refine Keeps.set ?_ ?hL _; case hL => first | assumption | exact Hp.ok _ _ (by simp) | exact Keeps.new (by assumption) _ _)); first | assumption | exact Keeps.refl _)⟩
  · rintro t d2 g11 g10 ⟨g1, g9, gH, ha⟩
    rw [List.drop_length] at ha
    simp only [go_sem, I_eq, I_cells, g1, g9, g10, g11, d2, Nat.reduceAdd, Nat.reduceBEq, Nat.reduceEqDiff, Nat.reduceLeDiff, Nat.reduceLT, Nat.reduceSub]
    exact ⟨by rw [holder, ha]; rfl, gH⟩
theorem IndexFunc_Cel_at {g : Nat} {caps : List AV} (p : Cel → Bool) (ns : List Cel) (ex : Bool) (hlen : ns.length < 2 ^ 61) (h : Hp) (hb : hasBody Try.prog g = true)
    (hf : ∀ x ∈ ns, CallK Try.prog g ([encC x] ++ caps) h (fun r h' => r = .bool (p x) ∧ h' = h)) :
    CallK Try.prog 75 [.l ex 4 (ns.map encC), .fn (.func g) caps] h (fun r h' => r = .int .i64 (idxP p ns) ∧ h' = h) := by
  refine PureAt.of_awp mixed (fun _ => []) (fn := Try.f75) (by kernel_rfl) rfl (by kernel_rfl) (by show 2 ≤ _; decide) (by simp [AV.lf]) ?_
  simp only [go_sem, I_eq, I_cells, Nat.reduceAdd, Nat.reduceBEq, Nat.reduceEqDiff, Nat.reduceLeDiff, Nat.reduceLT, Nat.reduceSub]
  refine awp_count 8 7 ns.length (by omega) (fun i s => s.slots 0 = .l ex 4 (ns.map encC) ∧ s.slots 1 = .fn (.func g) caps ∧ (∀ x ∈ ns.take i, p x = false) ∧ s.hp = h) ?_ ?_ ?_ ?_ ?_
  · simp only [go_sem, I_eq, I_cells, Nat.reduceAdd, Nat.reduceBEq, Nat.reduceEqDiff, Nat.reduceLeDiff, Nat.reduceLT, Nat.reduceSub]
  · simp only [go_sem, I_eq, I_cells, Nat.reduceAdd, Nat.reduceBEq, Nat.reduceEqDiff, Nat.reduceLeDiff, Nat.reduceLT, Nat.reduceSub]
  · simp only [go_sem, I_eq, I_cells, Nat.reduceAdd, Nat.reduceBEq, Nat.reduceEqDiff, Nat.reduceLeDiff, Nat.reduceLT, Nat.reduceSub]
    exact fun x hx => by simp at hx
  · rintro i s hlt d2 hw g8 g7 ⟨h0, h1, hn, hH⟩
    repeat' first
      | (with_reducible refine CondX.dec (fun c => ?_) (fun c => ?_)) <;> try (exfalso; omega)
      | (with_reducible refine CondX.beq (fun c => ?_) (fun c => ?_)) <;> try (exfalso; omega)
      | (with_reducible refine CondX.bne (fun c => ?_) (fun c => ?_)) <;> try (exfalso; omega)
      | (with_reducible refine CondX.bool (fun c => ?_) (fun c => ?_)) <;> try (exfalso; omega)
      | ((with_reducible refine CallX.id ?_); first | refine CallX.at (hf ns[i] (List.getElem_mem hlt)) ?_)
      | simp only [go_sem, I_eq, I_cells, d2, hw, g8, g7, h0, h1, hH, hb, encC_cells, Nat.reduceAdd, Nat.reduceBEq, Nat.reduceEqDiff, Nat.reduceLeDiff, Nat.reduceLT, Nat.reduceSub]
      | simp (disch := omega) only [wrap_in, toNat_succ, toNat_pred, Int.toNat_natCast]
      | with_reducible refine And.intro (by omega) ?_
      | with_reducible refine exI (by omega) ?_
      | fail
    · exact ⟨by rw [idxP_at p ns i hlt c hn], Keeps.refl h⟩
    · intro x hx
      rw [List.take_succ_eq_append_getElem hlt] at hx
      rcases List.mem_append.1 hx with hx | hx
      · exact hn x hx
      · rw [List.mem_singleton.1 hx]; exact c
  · rintro s d2 g8 g7 ⟨h0, h1, hn, hH⟩
    rw [List.take_length] at hn
    simp only [go_sem, I_eq, I_cells, d2, g8, g7, h0, h1, hH, Nat.reduceAdd, Nat.reduceBEq, Nat.reduceEqDiff, Nat.reduceLeDiff, Nat.reduceLT, Nat.reduceSub]
    exact ⟨by rw [idxP_none p ns hn], Keeps.refl h⟩
theorem IndexFunc_Cel {g : Nat} {caps : List AV} (p : Cel → Bool) (ns : List Cel) (ex : Bool) (hlen : ns.length < 2 ^ 61) (hb : hasBody Try.prog g = true)
    (hf : ∀ x ∈ ns, PureF Try.prog g ([encC x] ++ caps) (.bool (p x))) : PureF Try.prog 75 [.l ex 4 (ns.map encC), .fn (.func g) caps] (.int .i64 (idxP p ns)) :=
  fun h => IndexFunc_Cel_at p ns ex hlen h hb (fun x hx => hf x hx h)
theorem cell1_spec (num : Int) (c : Cel) (L3 : Lab) (h : Hp) (h3 : h.con L3 = .blk [.int .i64 num]) (n3 : L3.f ≠ 76) : CallK Try.prog 76 [encC c, .pt L3 0 0 0] h (fun r h' => r = .bool (c.num == num) ∧ h' = h) := by
  refine PureAt.of_awp mixed (fun _ => []) (fn := Try.f76) (by kernel_rfl) rfl (by kernel_rfl) (by show 2 ≤ _; decide) (by simp [AV.lf]) ?_
  have e3 : (L3 = ⟨76, 2, h.cnt 76 2⟩) = False := by simp; rintro rfl; exact n3 rfl
  repeat' first
    | (with_reducible refine CondX.dec (fun c => ?_) (fun c => ?_)) <;> try (exfalso; omega)
    | (with_reducible refine CondX.beq (fun c => ?_) (fun c => ?_)) <;> try (exfalso; omega)
    | (with_reducible refine CondX.bne (fun c => ?_) (fun c => ?_)) <;> try (exfalso; omega)
    | (with_reducible refine CondX.bool (fun c => ?_) (fun c => ?_)) <;> try (exfalso; omega)
    | simp only [go_sem, I_eq, I_cells, encC, encC_cells, e3, h3, Nat.reduceAdd, Nat.reduceBEq, Nat.reduceEqDiff, Nat.reduceLeDiff, Nat.reduceLT, Nat.reduceSub]
    | simp (disch := omega) only [wrap_in, toNat_succ, toNat_pred, Int.toNat_natCast]
    | with_reducible refine And.intro (by omega) ?_
    | with_reducible refine exI (by omega) ?_
    | fail
  ((repeat first | with_reducible apply Keeps.alloc | (with_reducible refine Keeps.set ?_ ?hL _; case hL => first | assumption | exact Hp.ok _ _ (by simp) | exact Keeps.new (by assumption) _ _)); first | assumption | exact Keeps.refl _)
/-- The cell of a number, or none. -/
def cellV (o : Option Cel) : AV := .tup [encC (o.getD ⟨0, 0, 0, 0⟩), .bool o.isSome]
theorem cell_spec (cs : List Cel) (e : Bool) (num : Int) (hlen : cs.length < 2 ^ 61) : PureF Try.prog 45 [.l e 4 (cs.map encC), .int .i64 num] (cellV (cs.find? fun c => c.num == num)) := by
  refine PureF.of_awp mixed (fun _ => []) (fn := Try.f45) (by kernel_rfl) rfl (by kernel_rfl) (by show 2 ≤ _; decide) (by simp [AV.lf, AV.lfs, cellV, encC]) (fun h => ?_)
  repeat' first
    | (with_reducible refine CondX.dec (fun c => ?_) (fun c => ?_)) <;> try (exfalso; omega)
    | (with_reducible refine CondX.beq (fun c => ?_) (fun c => ?_)) <;> try (exfalso; omega)
    | (with_reducible refine CondX.bne (fun c => ?_) (fun c => ?_)) <;> try (exfalso; omega)
    | (with_reducible refine CondX.bool (fun c => ?_) (fun c => ?_)) <;> try (exfalso; omega)
    | ((with_reducible refine CallX.id ?_); first | refine CallX.at (IndexFunc_Cel_at (fun c => c.num == num) cs e hlen _ (by kernel_rfl) (fun c hc => cell1_spec num c _ _ (by simp only [go_sem, I_eq, I_cells, Nat.reduceAdd, Nat.reduceBEq, Nat.reduceEqDiff, Nat.reduceLeDiff, Nat.reduceLT, Nat.reduceSub]) (by simp))) ?_)
    | simp only [go_sem, I_eq, I_cells, encC_cells, cellV, Nat.reduceAdd, Nat.reduceBEq, Nat.reduceEqDiff, Nat.reduceLeDiff, Nat.reduceLT, Nat.reduceSub]
    | simp (disch := omega) only [wrap_in, toNat_succ, toNat_pred, Int.toNat_natCast]
    | with_reducible refine And.intro (by omega) ?_
    | with_reducible refine exI (by omega) ?_
    | fail
  · rcases idxP_cases (fun c : Cel => c.num == num) cs with ⟨hp, hf⟩ | ⟨j, hj, hp, hf⟩
    · exact ⟨by rw [hf]; rfl, by ((repeat first | with_reducible apply Keeps.alloc | (with_reducible refine Keeps.set ?_ ?hL _; case hL => first | assumption | exact Hp.ok _ _ (by simp) | exact Keeps.new (by assumption) _ _)); first | assumption | exact Keeps.refl _)⟩
    · rw [hp] at c; exfalso; omega
  · rcases idxP_cases (fun c : Cel => c.num == num) cs with ⟨hp, hf⟩ | ⟨j, hj, hp, hf⟩
    · rw [hp] at c; exfalso; omega
    · simp only [go_sem, I_eq, I_cells, hp, Nat.reduceAdd, Nat.reduceBEq, Nat.reduceEqDiff, Nat.reduceLeDiff, Nat.reduceLT, Nat.reduceSub]
      exact ⟨hj, by rw [hf]; rfl, by ((repeat first | with_reducible apply Keeps.alloc | (with_reducible refine Keeps.set ?_ ?hL _; case hL => first | assumption | exact Hp.ok _ _ (by simp) | exact Keeps.new (by assumption) _ _)); first | assumption | exact Keeps.refl _)⟩
theorem find_spec (cs : List Cel) (e : Bool) (num : Int) (hlen : cs.length < 2 ^ 61) : PureF Try.prog 50 [.l e 4 (cs.map encC), .int .i64 num] (.int .i64 (idxP (fun c => c.num == num) cs)) := by
  refine PureF.of_awp mixed (fun _ => []) (fn := Try.f50) (by kernel_rfl) rfl (by kernel_rfl) (by show 2 ≤ _; decide) (by simp [AV.lf]) (fun h => ?_)
  repeat' first
    | (with_reducible refine CondX.dec (fun c => ?_) (fun c => ?_)) <;> try (exfalso; omega)
    | (with_reducible refine CondX.beq (fun c => ?_) (fun c => ?_)) <;> try (exfalso; omega)
    | (with_reducible refine CondX.bne (fun c => ?_) (fun c => ?_)) <;> try (exfalso; omega)
    | (with_reducible refine CondX.bool (fun c => ?_) (fun c => ?_)) <;> try (exfalso; omega)
    | simp only [go_sem, I_eq, I_cells, Nat.reduceAdd, Nat.reduceBEq, Nat.reduceEqDiff, Nat.reduceLeDiff, Nat.reduceLT, Nat.reduceSub]
    | simp (disch := omega) only [wrap_in, toNat_succ, toNat_pred, Int.toNat_natCast]
    | with_reducible refine And.intro (by omega) ?_
    | with_reducible refine exI (by omega) ?_
    | fail
  refine awp_count 9 8 cs.length (by omega) (fun i t => t.slots 1 = .int .i64 num ∧ t.slots 7 = .l e 4 (cs.map encC) ∧ Keeps h t.hp ∧ ∀ c ∈ cs.take i, (c.num == num) = false) ?_ ?_ ?_ ?_ ?_
  · simp only [go_sem, I_eq, I_cells, Nat.reduceAdd, Nat.reduceBEq, Nat.reduceEqDiff, Nat.reduceLeDiff, Nat.reduceLT, Nat.reduceSub]
  · simp only [go_sem, I_eq, I_cells, Nat.reduceAdd, Nat.reduceBEq, Nat.reduceEqDiff, Nat.reduceLeDiff, Nat.reduceLT, Nat.reduceSub]
  · simp only [go_sem, I_eq, I_cells, Nat.reduceAdd, Nat.reduceBEq, Nat.reduceEqDiff, Nat.reduceLeDiff, Nat.reduceLT, Nat.reduceSub]
    exact ⟨Keeps.refl h, by simp⟩
  · rintro i t hlt d2 hw g9 g8 ⟨g1, g7, gH, ha⟩
    repeat' first
      | (with_reducible refine CondX.dec (fun c => ?_) (fun c => ?_)) <;> try (exfalso; omega)
      | (with_reducible refine CondX.beq (fun c => ?_) (fun c => ?_)) <;> try (exfalso; omega)
      | (with_reducible refine CondX.bne (fun c => ?_) (fun c => ?_)) <;> try (exfalso; omega)
      | (with_reducible refine CondX.bool (fun c => ?_) (fun c => ?_)) <;> try (exfalso; omega)
      | simp only [go_sem, I_eq, I_cells, g1, g7, g8, g9, d2, hw, encC_cells, Nat.reduceAdd, Nat.reduceBEq, Nat.reduceEqDiff, Nat.reduceLeDiff, Nat.reduceLT, Nat.reduceSub]
      | simp (disch := omega) only [wrap_in, toNat_succ, toNat_pred, Int.toNat_natCast]
      | with_reducible refine And.intro (by omega) ?_
      | with_reducible refine exI (by omega) ?_
      | fail
    · exact ⟨by rw [idxP_at _ cs i hlt (by simpa using c) ha], by ((repeat first | with_reducible apply Keeps.alloc | (with_reducible refine Keeps.set ?_ ?hL _; case hL => first | assumption | exact Hp.ok _ _ (by simp) | exact Keeps.new (by assumption) _ _)); first | assumption | exact Keeps.refl _)⟩
    · refine ⟨by ((repeat first | with_reducible apply Keeps.alloc | (with_reducible refine Keeps.set ?_ ?hL _; case hL => first | assumption | exact Hp.ok _ _ (by simp) | exact Keeps.new (by assumption) _ _)); first | assumption | exact Keeps.refl _), fun x hx => ?_⟩
      rw [List.take_succ_eq_append_getElem hlt] at hx
      rcases List.mem_append.1 hx with hx | hx
      · exact ha x hx
      · rw [List.mem_singleton.1 hx]; simpa using c
  · rintro t d2 g9 g8 ⟨g1, g7, gH, ha⟩
    rw [List.take_length] at ha
    simp only [go_sem, I_eq, I_cells, g1, g7, g8, g9, d2, Nat.reduceAdd, Nat.reduceBEq, Nat.reduceEqDiff, Nat.reduceLeDiff, Nat.reduceLT, Nat.reduceSub]
    exact ⟨by rw [idxP_none _ cs ha], gH⟩
end Go.Proofs.Ytmajndgdfmnchaa
