/- Part of a proof: what functions of the given program compute, and plain laws of it. -/
import Derived.Test.YtmajndgdfmnchaaZ16
import Derived.Test.YtmajndgdfmnchaaT6
/- The states in which nodes begin. -/
namespace Go.Gh
open Go.Proofs.Ytmajndgdfmnchaa
def homesB (n : Nat) (homes : List Int) : Bool := withinB homes.length 1 8 && homes.all fun h => withinB h 0 ((n : Int) - 1)
def homesE (n : Nat) (homes : List Int) : Int := if homesB n homes then 0 else 1
def firstO (ps : List Int) (me h : Int) : Own := ⟨nextT ps me h, 0, if h = me then [⟨0, 3, -1, 0⟩] else []⟩
def firstE (v : Int) : Sid := ⟨v, 0, [], 0⟩
def firstS (ps homes : List Int) (me : Int) : Nst := ⟨me, homes.map (firstO ps me), (nbr ps me).map firstE, 0, [], []⟩
end Go.Gh
namespace Go.Proofs.Ytmajndgdfmnchaa
open Go Go.T Go.Gh Go.Proofs
set_option linter.unusedSimpArgs false
set_option linter.unusedVariables false
set_option maxRecDepth 10000
set_option maxHeartbeats 4000000
def rawO (ps : List Int) (me h : Int) : AV := .agg [.int .i64 (nextT ps me h), .int .i64 0, if h = me then .l true 4 [encC ⟨0, 3, -1, 0⟩] else .l true 0 []]
def rawE (v : Int) : AV := .agg [.int .i64 v, .int .i64 0, .l true 0 [], .int .i64 0]
theorem Homes1_spec (ps : List Int) (x : Int) (L3 : Lab) (h : Hp) (hlen : ps.length < 2 ^ 61) (h3 : h.con L3 = .blk [treeV ps]) (n3 : L3.f ≠ 66) : CallK Try.prog 66 [.int .i64 x, .pt L3 0 0 0] h (fun r h' => r = .bool (!withinB x 0 ((ps.length : Int) - 1)) ∧ h' = h) := by
  refine PureAt.of_awp mixed (fun _ => []) (fn := Try.f66) (by kernel_rfl) rfl (by kernel_rfl) (by show 2 ≤ _; decide) (by simp [AV.lf]) ?_
  have hw : IntKind.i64.wrap ((ps.length : Int) - 1) = (ps.length : Int) - 1 := IntWalk.i64_in _ (by omega)
  repeat' first
    | (with_reducible refine CondX.dec (fun c => ?_) (fun c => ?_)) <;> try (exfalso; omega)
    | (with_reducible refine CondX.beq (fun c => ?_) (fun c => ?_)) <;> try (exfalso; omega)
    | (with_reducible refine CondX.bne (fun c => ?_) (fun c => ?_)) <;> try (exfalso; omega)
    | (with_reducible refine CondX.bool (fun c => ?_) (fun c => ?_)) <;> try (exfalso; omega)
    | ((with_reducible refine CallX.id ?_); first | refine CallX.pure (Size_spec ps) ?_ | refine CallX.pure (state_within_spec _ _ _) ?_)
    | simp only [go_sem, I_eq, I_cells, h3, hw, Nat.reduceAdd, Nat.reduceBEq, Nat.reduceEqDiff, Nat.reduceLeDiff, Nat.reduceLT, Nat.reduceSub]
    | simp (disch := omega) only [wrap_in, toNat_succ, toNat_pred, Int.toNat_natCast]
    | with_reducible refine And.intro (by omega) ?_
    | with_reducible refine exI (by omega) ?_
    | fail
  ((repeat first | with_reducible apply Keeps.alloc | (with_reducible refine Keeps.set ?_ ?hL _; case hL => first | assumption | exact Hp.ok _ _ (by simp) | exact Keeps.new (by assumption) _ _)); first | assumption | exact Keeps.refl _)
theorem ContainsFunc_int_at {g : Nat} {caps : List AV} (p : Int → Bool) (ns : List Int) (ex : Bool) (hlen : ns.length < 2 ^ 61) (h : Hp) (hb : hasBody Try.prog g = true)
    (hf : ∀ x ∈ ns, CallK Try.prog g ([I x] ++ caps) h (fun r h' => r = .bool (p x) ∧ h' = h)) :
    CallK Try.prog 65 [.l ex 1 (ns.map I), .fn (.func g) caps] h (fun r h' => r = .bool (ns.any p) ∧ h' = h) := by
  refine PureAt.of_awp mixed (fun _ => []) (fn := Try.f65) (by kernel_rfl) rfl (by kernel_rfl) (by show 2 ≤ _; decide) (by simp [AV.lf]) ?_
  repeat' first
    | (with_reducible refine CondX.dec (fun c => ?_) (fun c => ?_)) <;> try (exfalso; omega)
    | (with_reducible refine CondX.beq (fun c => ?_) (fun c => ?_)) <;> try (exfalso; omega)
    | (with_reducible refine CondX.bne (fun c => ?_) (fun c => ?_)) <;> try (exfalso; omega)
    | (with_reducible refine CondX.bool (fun c => ?_) (fun c => ?_)) <;> try (exfalso; omega)
    | ((with_reducible refine CallX.id ?_); first | refine CallX.at (f96_at p ns ex hlen h hb hf) ?_)
    | simp only [go_sem, I_eq, I_cells, Nat.reduceAdd, Nat.reduceBEq, Nat.reduceEqDiff, Nat.reduceLeDiff, Nat.reduceLT, Nat.reduceSub]
    | simp (disch := omega) only [wrap_in, toNat_succ, toNat_pred, Int.toNat_natCast]
    | with_reducible refine And.intro (by omega) ?_
    | with_reducible refine exI (by omega) ?_
    | fail
  exact ⟨by rw [idxP_any], Keeps.refl h⟩
theorem Homes_spec (ps : List Int) (homes : List Int) (e : Bool) (hlen : ps.length < 2 ^ 61) (hl : homes.length ≤ 9223372036854775807) : PureF Try.prog 30 [treeV ps, .l e 1 (homes.map I)] (.int .i64 (homesE ps.length homes)) := by
  refine PureF.of_awp mixed (fun _ => []) (fn := Try.f30) (by kernel_rfl) rfl (by kernel_rfl) (by show 2 ≤ _; decide) (by simp [AV.lf]) (fun h => ?_)
  by_cases hw : withinB homes.length 1 8 = true
  · have hw' := hw
    simp only [withinB, Bool.and_eq_true, decide_eq_true_eq] at hw'
    repeat' first
      | (with_reducible refine CondX.dec (fun c => ?_) (fun c => ?_)) <;> try (exfalso; omega)
      | (with_reducible refine CondX.beq (fun c => ?_) (fun c => ?_)) <;> try (exfalso; omega)
      | (with_reducible refine CondX.bne (fun c => ?_) (fun c => ?_)) <;> try (exfalso; omega)
      | (with_reducible refine CondX.bool (fun c => ?_) (fun c => ?_)) <;> try (exfalso; omega)
      | ((with_reducible refine CallX.id ?_); first | refine CallX.pure (state_within_spec _ _ _) ?_ | refine CallX.at (ContainsFunc_int_at (fun x => !withinB x 0 ((ps.length : Int) - 1)) homes e (by omega) _ (by kernel_rfl) (fun c hc => Homes1_spec ps c _ _ hlen (by simp only [go_sem, I_eq, I_cells, treeV, Nat.reduceAdd, Nat.reduceBEq, Nat.reduceEqDiff, Nat.reduceLeDiff, Nat.reduceLT, Nat.reduceSub]) (by simp))) ?_)
      | simp only [go_sem, I_eq, I_cells, hw, treeV, Nat.reduceAdd, Nat.reduceBEq, Nat.reduceEqDiff, Nat.reduceLeDiff, Nat.reduceLT, Nat.reduceSub]
      | simp (disch := omega) only [wrap_in, toNat_succ, toNat_pred, Int.toNat_natCast]
      | with_reducible refine And.intro (by omega) ?_
      | with_reducible refine exI (by omega) ?_
      | fail
    · exact ⟨by unfold homesE homesB; rw [← any_not, c, hw]; rfl, by ((repeat first | with_reducible apply Keeps.alloc | (with_reducible refine Keeps.set ?_ ?hL _; case hL => first | assumption | exact Hp.ok _ _ (by simp) | exact Keeps.new (by assumption) _ _)); first | assumption | exact Keeps.refl _)⟩
    · exact ⟨by unfold homesE homesB; rw [← any_not, c, hw]; rfl, by ((repeat first | with_reducible apply Keeps.alloc | (with_reducible refine Keeps.set ?_ ?hL _; case hL => first | assumption | exact Hp.ok _ _ (by simp) | exact Keeps.new (by assumption) _ _)); first | assumption | exact Keeps.refl _)⟩
  · have hw' : withinB homes.length 1 8 = false := by simpa using hw
    repeat' first
      | (with_reducible refine CondX.dec (fun c => ?_) (fun c => ?_)) <;> try (exfalso; omega)
      | (with_reducible refine CondX.beq (fun c => ?_) (fun c => ?_)) <;> try (exfalso; omega)
      | (with_reducible refine CondX.bne (fun c => ?_) (fun c => ?_)) <;> try (exfalso; omega)
      | (with_reducible refine CondX.bool (fun c => ?_) (fun c => ?_)) <;> try (exfalso; omega)
      | ((with_reducible refine CallX.id ?_); first | refine CallX.pure (state_within_spec _ _ _) ?_)
      | simp only [go_sem, I_eq, I_cells, hw', treeV, Nat.reduceAdd, Nat.reduceBEq, Nat.reduceEqDiff, Nat.reduceLeDiff, Nat.reduceLT, Nat.reduceSub]
      | simp (disch := omega) only [wrap_in, toNat_succ, toNat_pred, Int.toNat_natCast]
      | with_reducible refine And.intro (by omega) ?_
      | with_reducible refine exI (by omega) ?_
      | fail
    all_goals exact ⟨by unfold homesE homesB; rw [hw']; rfl, by ((repeat first | with_reducible apply Keeps.alloc | (with_reducible refine Keeps.set ?_ ?hL _; case hL => first | assumption | exact Hp.ok _ _ (by simp) | exact Keeps.new (by assumption) _ _)); first | assumption | exact Keeps.refl _)⟩

theorem First_own (ps : List Int) (homes : List Int) (e : Bool) (me : Int) (hok : TreeOk ps) (hh : homesB ps.length homes = true) (hm : 0 ≤ me ∧ me < ps.length) (h : Hp) (K : AV → Hp → Prop)
    (hK : ∀ (L : Lab) (H : Hp), H.con L = .arr 3 (homes.map (rawO ps me)) → h.con L = .none → Keeps h H → K (.tup [.agg [.int .i64 me, .os L, .l false 4 ((nbr ps me).map (fun v => encE (firstE v))), .int .i64 0, .l false 2 [], .l false 3 []], .int .i64 0]) H) :
    CallK Try.prog 31 [treeV ps, .l e 1 (homes.map I), .int .i64 me] h K := by
  refine CallK.frz ?_
  have hps := hok.len
  have hh' := hh
  unfold homesB withinB at hh'
  simp only [Bool.and_eq_true, decide_eq_true_eq] at hh'
  have hE : homesE ps.length homes = 0 := by unfold homesE; rw [hh]; rfl
  have hw1 : IntKind.i64.wrap ((ps.length : Int) - 1) = (ps.length : Int) - 1 := IntWalk.i64_in _ (by omega)
  have hwt : withinB me 0 ((ps.length : Int) - 1) = true := by simp [withinB]; omega
  have hnl := nbr_len ps me
  refine CallK.of_awpH mixed (fun _ => []) (fn := Try.f31) (by kernel_rfl) rfl (by kernel_rfl) (by show 3 ≤ _; decide) ?_
  rw [awp_assoc, awp_assoc, awp_assoc]
  refine awp_cut (fun s => s.slots 0 = treeV ps ∧ s.slots 1 = .l e 1 (homes.map I) ∧ s.slots 2 = .int .i64 me ∧ s.slots 6 = .pt ⟨31, 6, h.cnt 31 6⟩ 0 0 0 ∧ s.slots 9 = .pt ⟨31, 9, h.cnt 31 9⟩ 0 0 0 ∧ s.hp.con ⟨31, 6, h.cnt 31 6⟩ = .blk [AV.int .i64 0, .l true 0 [], .l true 0 [], .int .i64 0, .l true 0 [], .l true 0 []] ∧ s.hp.con ⟨31, 9, h.cnt 31 9⟩ = .blk [.int .i64 me, .l true 0 [], .l true 0 [], .int .i64 0, .l true 0 [], .l true 0 []] ∧ Keeps h s.hp) ?_ ?_
  · repeat' first
      | (with_reducible refine CondX.dec (fun c => ?_) (fun c => ?_)) <;> try (exfalso; omega)
      | (with_reducible refine CondX.beq (fun c => ?_) (fun c => ?_)) <;> try (exfalso; omega)
      | (with_reducible refine CondX.bne (fun c => ?_) (fun c => ?_)) <;> try (exfalso; omega)
      | (with_reducible refine CondX.bool (fun c => ?_) (fun c => ?_)) <;> try (exfalso; omega)
      | ((with_reducible refine CallX.id ?_); first | refine CallX.pure (Homes_spec ps homes e (by omega) (by omega)) ?_ | refine CallX.pure (Size_spec ps) ?_ | refine CallX.pure (state_within_spec _ _ _) ?_)
      | simp only [go_sem, I_eq, I_cells, hE, hw1, hwt, Nat.reduceAdd, Nat.reduceBEq, Nat.reduceEqDiff, Nat.reduceLeDiff, Nat.reduceLT, Nat.reduceSub]
      | simp (disch := omega) only [wrap_in, toNat_succ, toNat_pred, Int.toNat_natCast]
      | with_reducible refine And.intro (by omega) ?_
      | with_reducible refine exI (by omega) ?_
      | fail
    all_goals first | ((repeat first | with_reducible apply Keeps.alloc | (with_reducible refine Keeps.set ?_ ?hL _; case hL => first | assumption | exact Hp.ok _ _ (by simp) | exact Keeps.new (by assumption) _ _)); first | assumption | exact Keeps.refl _) | (exfalso; omega)
  rintro s0 ⟨g0, g1, g2, p6, p9, k6, k9, gK⟩
  refine awp_cutF [(11, 12), (31, 54)] (by kernel_rfl) (fun s => s.hp.con ⟨31, 6, h.cnt 31 6⟩ = .blk [AV.int .i64 0, .l true 0 [], .l true 0 [], .int .i64 0, .l true 0 [], .l true 0 []] ∧ (∃ v, s.hp.con ⟨31, 9, h.cnt 31 9⟩ = .blk [.int .i64 me, v, .l true 0 [], .int .i64 0, .l true 0 [], .l true 0 []] ∧ Acc h s.hp 3 v (homes.map (rawO ps me)) ∧ (∀ L, v = .os L → L.f = 31 ∧ L.s = 52)) ∧ Keeps h s.hp) ?_ ?_
  · repeat' first
      | (with_reducible refine CondX.dec (fun c => ?_) (fun c => ?_)) <;> try (exfalso; omega)
      | (with_reducible refine CondX.beq (fun c => ?_) (fun c => ?_)) <;> try (exfalso; omega)
      | (with_reducible refine CondX.bne (fun c => ?_) (fun c => ?_)) <;> try (exfalso; omega)
      | (with_reducible refine CondX.bool (fun c => ?_) (fun c => ?_)) <;> try (exfalso; omega)
      | simp only [go_sem, I_eq, I_cells, g0, g1, g2, p6, p9, k6, k9, Nat.reduceAdd, Nat.reduceBEq, Nat.reduceEqDiff, Nat.reduceLeDiff, Nat.reduceLT, Nat.reduceSub]
      | simp (disch := omega) only [wrap_in, toNat_succ, toNat_pred, Int.toNat_natCast]
      | with_reducible refine And.intro (by omega) ?_
      | with_reducible refine exI (by omega) ?_
      | fail
    refine awp_countF [(11, 12), (33, 54)] (by kernel_rfl) 33 32 (by kernel_rfl) homes.length (by omega) (fun i t => t.hp.con ⟨31, 6, h.cnt 31 6⟩ = .blk [AV.int .i64 0, .l true 0 [], .l true 0 [], .int .i64 0, .l true 0 [], .l true 0 []] ∧ (∃ v, t.hp.con ⟨31, 9, h.cnt 31 9⟩ = .blk [.int .i64 me, v, .l true 0 [], .int .i64 0, .l true 0 [], .l true 0 []] ∧ Acc h t.hp 3 v ((homes.take i).map (rawO ps me)) ∧ (∀ L, v = .os L → L.f = 31 ∧ L.s = 52)) ∧ Keeps h t.hp) ?_ ?_ ?_ ?_ ?_
    · simp only [go_sem, I_eq, I_cells, Nat.reduceAdd, Nat.reduceBEq, Nat.reduceEqDiff, Nat.reduceLeDiff, Nat.reduceLT, Nat.reduceSub]
    · simp only [go_sem, I_eq, I_cells, Nat.reduceAdd, Nat.reduceBEq, Nat.reduceEqDiff, Nat.reduceLeDiff, Nat.reduceLT, Nat.reduceSub]
    · simp only [go_sem, I_eq, I_cells, k6, k9, Nat.reduceAdd, Nat.reduceBEq, Nat.reduceEqDiff, Nat.reduceLeDiff, Nat.reduceLT, Nat.reduceSub]
      exact ⟨⟨_, rfl, .nil, fun L hL => by cases hL⟩, gK⟩
    · clear k6 k9 gK
      rintro i t hlt d2 hw f1 g33 g32 ⟨k6, ⟨v, k9, ga, gl⟩, gK⟩
      rw [List.take_succ_eq_append_getElem hlt, List.map_append]
      have hal := hh'.1
      repeat' first
        | (with_reducible refine CondX.dec (fun c => ?_) (fun c => ?_)) <;> try (exfalso; omega)
        | (with_reducible refine CondX.beq (fun c => ?_) (fun c => ?_)) <;> try (exfalso; omega)
        | (with_reducible refine CondX.bne (fun c => ?_) (fun c => ?_)) <;> try (exfalso; omega)
        | (with_reducible refine CondX.bool (fun c => ?_) (fun c => ?_)) <;> try (exfalso; omega)
        | ((with_reducible refine CallX.id ?_); first | refine CallX.pure (Next_spec ps me homes[i] hok) ?_)
        | simp only [go_sem, I_eq, I_cells, Frm.at f1, g0, g1, g2, p6, p9, k6, k9, g32, g33, d2, hw, Nat.reduceAdd, Nat.reduceBEq, Nat.reduceEqDiff, Nat.reduceLeDiff, Nat.reduceLT, Nat.reduceSub]
        | simp (disch := omega) only [wrap_in, toNat_succ, toNat_pred, Int.toNat_natCast]
        | with_reducible refine And.intro (by omega) ?_
        | with_reducible refine exI (by omega) ?_
        | fail
      all_goals (
        have hr : rawO ps me homes[i] = .agg [.int .i64 (nextT ps me homes[i]), .int .i64 0, if homes[i] = me then .l true 4 [encC ⟨0, 3, -1, 0⟩] else .l true 0 []] := rfl
        first | rw [if_pos c] at hr | rw [if_neg c] at hr
        try simp only [encC] at hr
        rw [← hr]
        refine (ga.alloc _ _ _).app (by ((repeat first | with_reducible apply Keeps.alloc | (with_reducible refine Keeps.set ?_ ?hL _; case hL => first | assumption | exact Hp.ok _ _ (by simp) | exact Keeps.new (by assumption) _ _)); first | assumption | exact Keeps.refl _)) (by simp; omega) (by simp; omega) (by decide) fun H' v' a' kp' fr1 fr2 ev => ?_
        have f9 := fr2 ⟨31, 9, h.cnt 31 9⟩ _ (by simp only [go_sem, I_eq, I_cells, k9, Nat.reduceAdd, Nat.reduceBEq, Nat.reduceEqDiff, Nat.reduceLeDiff, Nat.reduceLT, Nat.reduceSub]; exact rfl)
        have f6 := fr2 ⟨31, 6, h.cnt 31 6⟩ _ (by simp only [go_sem, I_eq, I_cells, k6, Nat.reduceAdd, Nat.reduceBEq, Nat.reduceEqDiff, Nat.reduceLeDiff, Nat.reduceLT, Nat.reduceSub]; exact rfl)
        subst ev
        repeat' first
          | (with_reducible refine CondX.dec (fun c => ?_) (fun c => ?_)) <;> try (exfalso; omega)
          | (with_reducible refine CondX.beq (fun c => ?_) (fun c => ?_)) <;> try (exfalso; omega)
          | (with_reducible refine CondX.bne (fun c => ?_) (fun c => ?_)) <;> try (exfalso; omega)
          | (with_reducible refine CondX.bool (fun c => ?_) (fun c => ?_)) <;> try (exfalso; omega)
          | simp only [go_sem, I_eq, I_cells, f9, f6, Nat.reduceAdd, Nat.reduceBEq, Nat.reduceEqDiff, Nat.reduceLeDiff, Nat.reduceLT, Nat.reduceSub]
          | simp (disch := omega) only [wrap_in, toNat_succ, toNat_pred, Int.toNat_natCast]
          | with_reducible refine And.intro (by omega) ?_
          | with_reducible refine exI (by omega) ?_
          | fail
        exact ⟨⟨_, rfl, a'.mono (fun L hL => by cases hL; simp only [go_sem, I_eq, I_cells, Nat.reduceAdd, Nat.reduceBEq, Nat.reduceEqDiff, Nat.reduceLeDiff, Nat.reduceLT, Nat.reduceSub]), fun L hL => by cases hL; exact ⟨rfl, rfl⟩⟩, by ((repeat first | with_reducible apply Keeps.alloc | (with_reducible refine Keeps.set ?_ ?hL _; case hL => first | assumption | exact Hp.ok _ _ (by simp) | exact Keeps.new (by assumption) _ _)); first | assumption | exact Keeps.refl _)⟩)
    · rintro t d2 f1 g33 g32 ⟨k6, ⟨v, k9, ga, gl⟩, gK⟩
      rw [List.take_length] at ga
      repeat' first
        | (with_reducible refine CondX.dec (fun c => ?_) (fun c => ?_)) <;> try (exfalso; omega)
        | (with_reducible refine CondX.beq (fun c => ?_) (fun c => ?_)) <;> try (exfalso; omega)
        | (with_reducible refine CondX.bne (fun c => ?_) (fun c => ?_)) <;> try (exfalso; omega)
        | (with_reducible refine CondX.bool (fun c => ?_) (fun c => ?_)) <;> try (exfalso; omega)
        | simp only [go_sem, I_eq, I_cells, Frm.at f1, g32, g33, d2, Nat.reduceAdd, Nat.reduceBEq, Nat.reduceEqDiff, Nat.reduceLeDiff, Nat.reduceLT, Nat.reduceSub]
        | simp (disch := omega) only [wrap_in, toNat_succ, toNat_pred, Int.toNat_natCast]
        | with_reducible refine And.intro (by omega) ?_
        | with_reducible refine exI (by omega) ?_
        | fail
      exact ⟨⟨v, k9, ga, gl⟩, gK⟩
  clear k6 k9 gK
  rintro s1 f1 ⟨k6, ⟨v, k9, ga, gl⟩, gK⟩
  obtain ⟨L, hv, cL, nL, fL, sL⟩ : ∃ L, v = .os L ∧ s1.hp.con L = .arr 3 (homes.map (rawO ps me)) ∧ h.con L = .none ∧ L.f = 31 ∧ L.s = 52 := by
    generalize hx : homes.map (rawO ps me) = xs at ga
    cases ga with
    | nil => exfalso; have := congrArg List.length hx; simp at this; rw [this] at hh'; simp at hh'
    | own L xs hc hL => exact ⟨L, rfl, hc, hL, gl L rfl⟩
  subst hv
  clear ga gl
  have e9 : (L = ⟨31, 9, h.cnt 31 9⟩) = False := by simp only [eq_iff_iff, iff_false]; rintro rfl; simp at sL
  have e6 : (L = ⟨31, 6, h.cnt 31 6⟩) = False := by simp only [eq_iff_iff, iff_false]; rintro rfl; simp at sL
  refine awp_cutF [(14, 14), (55, 70)] (by kernel_rfl) (fun s => s.hp.con ⟨31, 6, h.cnt 31 6⟩ = .blk [AV.int .i64 0, .l true 0 [], .l true 0 [], .int .i64 0, .l true 0 [], .l true 0 []] ∧ s.hp.con L = .arr 3 (homes.map (rawO ps me)) ∧ (∃ v, s.hp.con ⟨31, 9, h.cnt 31 9⟩ = .blk [.int .i64 me, .os L, v, .int .i64 0, .l true 0 [], .l true 0 []] ∧ Acc h s.hp 4 v ((nbr ps me).map rawE) ∧ (∀ L, v = .os L → L.f = 31 ∧ L.s = 68)) ∧ Keeps h s.hp) ?_ ?_
  · repeat' first
      | (with_reducible refine CondX.dec (fun c => ?_) (fun c => ?_)) <;> try (exfalso; omega)
      | (with_reducible refine CondX.beq (fun c => ?_) (fun c => ?_)) <;> try (exfalso; omega)
      | (with_reducible refine CondX.bne (fun c => ?_) (fun c => ?_)) <;> try (exfalso; omega)
      | (with_reducible refine CondX.bool (fun c => ?_) (fun c => ?_)) <;> try (exfalso; omega)
      | ((with_reducible refine CallX.id ?_); first | refine CallX.pure (Neighbours_spec ps me (by omega)) ?_)
      | simp only [go_sem, I_eq, I_cells, Frm.at f1, g0, g1, g2, p6, p9, k6, k9, Nat.reduceAdd, Nat.reduceBEq, Nat.reduceEqDiff, Nat.reduceLeDiff, Nat.reduceLT, Nat.reduceSub]
      | simp (disch := omega) only [wrap_in, toNat_succ, toNat_pred, Int.toNat_natCast]
      | with_reducible refine And.intro (by omega) ?_
      | with_reducible refine exI (by omega) ?_
      | fail
    refine awp_countF [(14, 14), (59, 70)] (by kernel_rfl) 59 58 (by kernel_rfl) (nbr ps me).length (by omega) (fun i t => t.hp.con ⟨31, 6, h.cnt 31 6⟩ = .blk [AV.int .i64 0, .l true 0 [], .l true 0 [], .int .i64 0, .l true 0 [], .l true 0 []] ∧ t.hp.con L = .arr 3 (homes.map (rawO ps me)) ∧ (∃ v, t.hp.con ⟨31, 9, h.cnt 31 9⟩ = .blk [.int .i64 me, .os L, v, .int .i64 0, .l true 0 [], .l true 0 []] ∧ Acc h t.hp 4 v (((nbr ps me).take i).map rawE) ∧ (∀ L, v = .os L → L.f = 31 ∧ L.s = 68)) ∧ Keeps h t.hp) ?_ ?_ ?_ ?_ ?_
    · simp only [go_sem, I_eq, I_cells, Nat.reduceAdd, Nat.reduceBEq, Nat.reduceEqDiff, Nat.reduceLeDiff, Nat.reduceLT, Nat.reduceSub]
    · simp only [go_sem, I_eq, I_cells, Nat.reduceAdd, Nat.reduceBEq, Nat.reduceEqDiff, Nat.reduceLeDiff, Nat.reduceLT, Nat.reduceSub]
    · simp only [go_sem, I_eq, I_cells, k6, k9, Nat.reduceAdd, Nat.reduceBEq, Nat.reduceEqDiff, Nat.reduceLeDiff, Nat.reduceLT, Nat.reduceSub]
      exact ⟨cL, ⟨_, rfl, .nil, fun L hL => by cases hL⟩, gK⟩
    · clear k6 k9 gK cL
      rintro i t hlt d2 hw f2 g59 g58 ⟨k6, cL, ⟨v, k9, ga, gl⟩, gK⟩
      rw [List.take_succ_eq_append_getElem hlt, List.map_append]
      repeat' first
        | (with_reducible refine CondX.dec (fun c => ?_) (fun c => ?_)) <;> try (exfalso; omega)
        | (with_reducible refine CondX.beq (fun c => ?_) (fun c => ?_)) <;> try (exfalso; omega)
        | (with_reducible refine CondX.bne (fun c => ?_) (fun c => ?_)) <;> try (exfalso; omega)
        | (with_reducible refine CondX.bool (fun c => ?_) (fun c => ?_)) <;> try (exfalso; omega)
        | simp only [go_sem, I_eq, I_cells, Frm.at f2, Frm.at f1, g0, g1, g2, p6, p9, k6, k9, g58, g59, d2, hw, Nat.reduceAdd, Nat.reduceBEq, Nat.reduceEqDiff, Nat.reduceLeDiff, Nat.reduceLT, Nat.reduceSub]
        | simp (disch := omega) only [wrap_in, toNat_succ, toNat_pred, Int.toNat_natCast]
        | with_reducible refine And.intro (by omega) ?_
        | with_reducible refine exI (by omega) ?_
        | fail
      have hr : rawE (nbr ps me)[i] = .agg [.int .i64 (nbr ps me)[i], .int .i64 0, .l true 0 [], .int .i64 0] := rfl
      rw [← hr]
      refine ga.app (by ((repeat first | with_reducible apply Keeps.alloc | (with_reducible refine Keeps.set ?_ ?hL _; case hL => first | assumption | exact Hp.ok _ _ (by simp) | exact Keeps.new (by assumption) _ _)); first | assumption | exact Keeps.refl _)) (by simp; omega) (by simp; omega) (by decide) fun H' v' a' kp' fr1 fr2 ev => ?_
      have f9 := fr2 ⟨31, 9, h.cnt 31 9⟩ _ k9
      have f6 := fr2 ⟨31, 6, h.cnt 31 6⟩ _ k6
      have fL := fr1 L (by rw [cL]; simp) (fun M hM e => by have := (gl M hM).2; rw [← e, sL] at this; omega)
      subst ev
      repeat' first
        | (with_reducible refine CondX.dec (fun c => ?_) (fun c => ?_)) <;> try (exfalso; omega)
        | (with_reducible refine CondX.beq (fun c => ?_) (fun c => ?_)) <;> try (exfalso; omega)
        | (with_reducible refine CondX.bne (fun c => ?_) (fun c => ?_)) <;> try (exfalso; omega)
        | (with_reducible refine CondX.bool (fun c => ?_) (fun c => ?_)) <;> try (exfalso; omega)
        | simp only [go_sem, I_eq, I_cells, f9, f6, e9, e6, fL, cL, Nat.reduceAdd, Nat.reduceBEq, Nat.reduceEqDiff, Nat.reduceLeDiff, Nat.reduceLT, Nat.reduceSub]
        | simp (disch := omega) only [wrap_in, toNat_succ, toNat_pred, Int.toNat_natCast]
        | with_reducible refine And.intro (by omega) ?_
        | with_reducible refine exI (by omega) ?_
        | fail
      exact ⟨⟨_, rfl, a'.mono (fun L hL => by cases hL; simp only [go_sem, I_eq, I_cells, Nat.reduceAdd, Nat.reduceBEq, Nat.reduceEqDiff, Nat.reduceLeDiff, Nat.reduceLT, Nat.reduceSub]), fun L hL => by cases hL; exact ⟨rfl, rfl⟩⟩, by ((repeat first | with_reducible apply Keeps.alloc | (with_reducible refine Keeps.set ?_ ?hL _; case hL => first | assumption | exact Hp.ok _ _ (by simp) | exact Keeps.new (by assumption) _ _)); first | assumption | exact Keeps.refl _)⟩
    · rintro t d2 f2 g59 g58 ⟨k6, cL, ⟨v, k9, ga, gl⟩, gK⟩
      rw [List.take_length] at ga
      repeat' first
        | (with_reducible refine CondX.dec (fun c => ?_) (fun c => ?_)) <;> try (exfalso; omega)
        | (with_reducible refine CondX.beq (fun c => ?_) (fun c => ?_)) <;> try (exfalso; omega)
        | (with_reducible refine CondX.bne (fun c => ?_) (fun c => ?_)) <;> try (exfalso; omega)
        | (with_reducible refine CondX.bool (fun c => ?_) (fun c => ?_)) <;> try (exfalso; omega)
        | simp only [go_sem, I_eq, I_cells, Frm.at f2, g58, g59, d2, Nat.reduceAdd, Nat.reduceBEq, Nat.reduceEqDiff, Nat.reduceLeDiff, Nat.reduceLT, Nat.reduceSub]
        | simp (disch := omega) only [wrap_in, toNat_succ, toNat_pred, Int.toNat_natCast]
        | with_reducible refine And.intro (by omega) ?_
        | with_reducible refine exI (by omega) ?_
        | fail
      exact ⟨⟨v, k9, ga, gl⟩, gK⟩
  clear k6 k9 gK cL
  rintro s2 f2 ⟨k6, cL, ⟨v, k9, ga, gl⟩, gK⟩
  have sz : ∀ w x : AV, Le w x → Le (.tup [.agg [.int .i64 me, .os L, w, .int .i64 0, .l true 0 [], .l true 0 []], .int .i64 0]) (.tup [.agg [.int .i64 me, .os L, x, .int .i64 0, .l false 2 [], .l false 3 []], .int .i64 0]) := by
    intro w x hwx
    refine Le.tup rfl fun j hj => ?_
    have : j = 0 ∨ j = 1 := by simp at hj; omega
    rcases this with rfl | rfl
    · refine Le.agg rfl fun j hj => ?_
      have : j = 0 ∨ j = 1 ∨ j = 2 ∨ j = 3 ∨ j = 4 ∨ j = 5 := by simp at hj; omega
      rcases this with rfl | rfl | rfl | rfl | rfl | rfl
      · exact Le.refl _
      · exact Le.refl _
      · exact hwx
      · exact Le.refl _
      · exact Le.l0
      · exact Le.l0
    · exact Le.refl _
  have sE : ∀ xs : List Int, Le (.l false 4 (xs.map rawE)) (.l false 4 (xs.map fun v => encE (firstE v))) := by
    intro xs
    refine Le.lst (by simp) fun i hi => ?_
    simp only [List.getElem_map]
    refine ⟨by rw [encE_cells]; rfl, fun j => ?_⟩
    by_cases hj : j < 4
    · have : j = 0 ∨ j = 1 ∨ j = 2 ∨ j = 3 := by omega
      rw [encE_cells]
      rcases this with rfl | rfl | rfl | rfl
      · exact Le.refl _
      · exact Le.refl _
      · exact Le.l0
      · exact Le.refl _
    · rw [encE_cells]
      rw [List.getD_eq_getElem?_getD, List.getD_eq_getElem?_getD, List.getElem?_eq_none (by simp [rawE, AV.cells]; omega), List.getElem?_eq_none (by simp; omega)]
      exact Le.refl _
  repeat' first
    | (with_reducible refine CondX.dec (fun c => ?_) (fun c => ?_)) <;> try (exfalso; omega)
    | (with_reducible refine CondX.beq (fun c => ?_) (fun c => ?_)) <;> try (exfalso; omega)
    | (with_reducible refine CondX.bne (fun c => ?_) (fun c => ?_)) <;> try (exfalso; omega)
    | (with_reducible refine CondX.bool (fun c => ?_) (fun c => ?_)) <;> try (exfalso; omega)
    | simp only [go_sem, I_eq, I_cells, Frm.at f2, Frm.at f1, p6, p9, k6, k9, Nat.reduceAdd, Nat.reduceBEq, Nat.reduceEqDiff, Nat.reduceLeDiff, Nat.reduceLT, Nat.reduceSub]
    | simp (disch := omega) only [wrap_in, toNat_succ, toNat_pred, Int.toNat_natCast]
    | with_reducible refine And.intro (by omega) ?_
    | with_reducible refine exI (by omega) ?_
    | fail
  generalize hx : (nbr ps me).map rawE = xs at ga
  cases ga with
  | nil =>
    have hn : nbr ps me = [] := by simpa using hx
    rw [hn] at hK
    refine ⟨rfl, _, _, .done _ _ _ (sz _ _ Le.l0), hK L _ ?_ nL (by ((repeat first | with_reducible apply Keeps.alloc | (with_reducible refine Keeps.set ?_ ?hL _; case hL => first | assumption | exact Hp.ok _ _ (by simp) | exact Keeps.new (by assumption) _ _)); first | assumption | exact Keeps.refl _))⟩
    simp only [go_sem, I_eq, I_cells, e6, cL, Nat.reduceAdd, Nat.reduceBEq, Nat.reduceEqDiff, Nat.reduceLeDiff, Nat.reduceLT, Nat.reduceSub]
  | own L' xs hc hL =>
    have gl' := gl L' rfl
    have eL : (L = L') = False := by simp only [eq_iff_iff, iff_false]; rintro rfl; rw [sL] at gl'; simp at gl'
    have eL6 : (L' = ⟨31, 6, h.cnt 31 6⟩) = False := by simp only [eq_iff_iff, iff_false]; rintro rfl; simp at gl'
    refine ⟨rfl, _, _, .step _ L' _ _ _ (.done _ _ _ ?_), hK L _ ?_ nL ((show Keeps h _ by ((repeat first | with_reducible apply Keeps.alloc | (with_reducible refine Keeps.set ?_ ?hL _; case hL => first | assumption | exact Hp.ok _ _ (by simp) | exact Keeps.new (by assumption) _ _)); first | assumption | exact Keeps.refl _)).set hL _)⟩
    · simp only [go_sem, I_eq, I_cells, eL6, hc, Nat.reduceAdd, Nat.reduceBEq, Nat.reduceEqDiff, Nat.reduceLeDiff, Nat.reduceLT, Nat.reduceSub]
      simp only [AV.frz, AV.frzs, eL, if_true, if_false, ← hx]
      exact sz _ _ (sE _)
    · simp only [go_sem, I_eq, I_cells, e6, eL, cL, Nat.reduceAdd, Nat.reduceBEq, Nat.reduceEqDiff, Nat.reduceLeDiff, Nat.reduceLT, Nat.reduceSub]
end Go.Proofs.Ytmajndgdfmnchaa
