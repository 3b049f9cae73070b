/- The reference's notes between states. -/
import Derived.Test.YtmajndgdfmnchaaZTS
namespace Go.Gh
/-- As ledC, but a cell of which nothing is known is left out alone. -/
def ledR (at_ : Int × Int) (psh : Option (Int × Int)) (now : List Cel) (v : Int) : List Cel → List Led
  | [] => []
  | c :: r => if c.node ≠ -1 then ledR at_ psh now v r else match now.find? (fun x => x.num == c.num) with
    | some x => if x.node ≥ 0 then ((v, c.num), (x.node, x.next)) :: ledR at_ psh now v r else ledR at_ psh now v r
    | none => if at_.1 ≥ 0 then ((v, c.num), at_) :: ledR at_ psh now v r else if (psh.getD (-1, 0)).1 ≥ 0 then ((v, c.num), psh.getD (-1, 0)) :: ledR at_ psh now v r else ledR at_ psh now v r
theorem ledR_cons (at_ : Int × Int) (psh : Option (Int × Int)) (now : List Cel) (v : Int) (c : Cel) (r : List Cel) : ledR at_ psh now v (c :: r) = if c.node ≠ -1 then ledR at_ psh now v r else match now.find? (fun x => x.num == c.num) with
    | some x => if x.node ≥ 0 then ((v, c.num), (x.node, x.next)) :: ledR at_ psh now v r else ledR at_ psh now v r
    | none => if at_.1 ≥ 0 then ((v, c.num), at_) :: ledR at_ psh now v r else if (psh.getD (-1, 0)).1 ≥ 0 then ((v, c.num), psh.getD (-1, 0)) :: ledR at_ psh now v r else ledR at_ psh now v r := by rw [ledR.eq_def]
theorem ledR_eq (at_ : Int × Int) (psh : Option (Int × Int)) (now : List Cel) (v : Int) : ∀ cs : List Cel, (∀ j (hj : j < cs.length), cs[j].node ≥ -1 ∧ (j + 1 < cs.length → cs[j].node ≥ 0)) → ledC at_ psh now v cs = ledR at_ psh now v cs := by
  intro cs
  induction cs with
  | nil => intro _; rfl
  | cons c r ih =>
    intro hb
    have h0 := hb 0 (by simp)
    have ih' := ih (fun j hj => by have := hb (j + 1) (by simpa using hj); simpa using this)
    rw [ledC_cons, ledR_cons]
    simp only [List.getElem_cons_zero, List.length_cons] at h0
    by_cases hc : c.node ≥ 0
    · rw [if_pos hc, if_pos (by omega), ih']
    · have hr : r = [] := List.length_eq_zero_iff.1 (by omega)
      subst hr
      rw [if_neg hc, if_neg (show ¬ c.node ≠ -1 by omega), ih']
      cases now.find? (fun x => x.num == c.num) with
      | some x => rfl
      | none =>
        cases psh with
        | none => simp [ledR]
        | some p => rfl
end Go.Gh
namespace Go.Proofs.Ytmajndgdfmnchaa
open Go Go.T Go.Gh Go.Proofs
set_option linter.unusedSimpArgs false
set_option maxRecDepth 10000
set_option maxHeartbeats 4000000
def T21 : Nat → List Tg := fun id => if id = 2 then [.plain, .plain, .pure, .plain, .plain, .plain, .plain, .pure] else if id = 28 then [.plain, .plain, .plain, .plain, .plain, .plain, .plain, .plain, .plain, .pure] else []
theorem ref_Diff_none (ps : List Int) (e0 : Bool) (us ws : List Nst) (e1 e2 : Bool) (hps : 0 < ps.length ∧ ps.length < 2 ^ 29) (hs : ∀ s ∈ us, Sized s) (hs2 : ∀ s ∈ ws, Sized s)
    (hn : (fitR ps us && fitR ps ws && objN us == objN ws) = false) : PureF Try.prog 21 [.l e0 1 (ps.map I), .l e1 6 (us.map encS), .l e2 6 (ws.map encS)] (.l false 6 []) := by
  refine PureF.of_awpZ mixed T21 (fn := Try.f21) (by kernel_rfl) rfl (by kernel_rfl) (by show 3 ≤ _; decide) (by simp [AV.lf, AV.lfs]) (fun h => ?_)
  rw [awp_assoc, awp_assoc]
  refine awp_cut (fun _ => False) ?_ (fun s hs => hs.elim)
  cases f1 : fitR ps us
  · repeat' first
      | (with_reducible refine CondX.dec (fun c => ?_) (fun c => ?_)) <;> try (exfalso; omega)
      | (with_reducible refine CondX.beq (fun c => ?_) (fun c => ?_)) <;> try (exfalso; omega)
      | (with_reducible refine CondX.bne (fun c => ?_) (fun c => ?_)) <;> try (exfalso; omega)
      | (with_reducible refine CondX.bool (fun c => ?_) (fun c => ?_)) <;> try (exfalso; omega)
      | ((with_reducible refine CallX.id ?_); first | refine CallX.pure (ref_Fit_spec ps e0 us e1 hps.2 hs) ?_)
      | ((with_reducible refine PureX.id ?_); first | refine PureX.of (ref_Fit_spec ps e0 us e1 hps.2 hs) ?_)
      | simp only [go_sem, I_eq, I_cells, T21, f1, Nat.reduceAdd, Nat.reduceBEq, Nat.reduceEqDiff, Nat.reduceLeDiff, Nat.reduceLT, Nat.reduceSub]
      | simp (disch := omega) only [wrap_in, toNat_succ, toNat_pred, Int.toNat_natCast]
      | with_reducible refine And.intro (by omega) ?_
      | with_reducible refine exI (by omega) ?_
      | fail
    exact ⟨h, .done _ _ _ Le.l0, Keeps.refl h⟩
  cases f2 : fitR ps ws
  · repeat' first
      | (with_reducible refine CondX.dec (fun c => ?_) (fun c => ?_)) <;> try (exfalso; omega)
      | (with_reducible refine CondX.beq (fun c => ?_) (fun c => ?_)) <;> try (exfalso; omega)
      | (with_reducible refine CondX.bne (fun c => ?_) (fun c => ?_)) <;> try (exfalso; omega)
      | (with_reducible refine CondX.bool (fun c => ?_) (fun c => ?_)) <;> try (exfalso; omega)
      | ((with_reducible refine CallX.id ?_); first | refine CallX.pure (ref_Fit_spec ps e0 us e1 hps.2 hs) ?_ | refine CallX.pure (ref_Fit_spec ps e0 ws e2 hps.2 hs2) ?_)
      | ((with_reducible refine PureX.id ?_); first | refine PureX.of (ref_Fit_spec ps e0 us e1 hps.2 hs) ?_ | refine PureX.of (ref_Fit_spec ps e0 ws e2 hps.2 hs2) ?_)
      | simp only [go_sem, I_eq, I_cells, T21, f1, f2, Nat.reduceAdd, Nat.reduceBEq, Nat.reduceEqDiff, Nat.reduceLeDiff, Nat.reduceLT, Nat.reduceSub]
      | simp (disch := omega) only [wrap_in, toNat_succ, toNat_pred, Int.toNat_natCast]
      | with_reducible refine And.intro (by omega) ?_
      | with_reducible refine exI (by omega) ?_
      | fail
    exact ⟨h, .done _ _ _ Le.l0, Keeps.refl h⟩
  · have l1 : 0 < us.length := by have := f1; unfold fitR at this; simp at this; omega
    have l2 : 0 < ws.length := by have := f2; unfold fitR at this; simp at this; omega
    rw [f1, f2, objN_eq l1, objN_eq l2] at hn
    simp at hn
    repeat' first
      | (with_reducible refine CondX.dec (fun c => ?_) (fun c => ?_)) <;> try (exfalso; omega)
      | (with_reducible refine CondX.beq (fun c => ?_) (fun c => ?_)) <;> try (exfalso; omega)
      | (with_reducible refine CondX.bne (fun c => ?_) (fun c => ?_)) <;> try (exfalso; omega)
      | (with_reducible refine CondX.bool (fun c => ?_) (fun c => ?_)) <;> try (exfalso; omega)
      | ((with_reducible refine CallX.id ?_); first | refine CallX.pure (ref_Fit_spec ps e0 us e1 hps.2 hs) ?_ | refine CallX.pure (ref_Fit_spec ps e0 ws e2 hps.2 hs2) ?_)
      | ((with_reducible refine PureX.id ?_); first | refine PureX.of (ref_Fit_spec ps e0 us e1 hps.2 hs) ?_ | refine PureX.of (ref_Fit_spec ps e0 ws e2 hps.2 hs2) ?_)
      | simp only [go_sem, I_eq, I_cells, T21, f1, f2, encS_cells, Nat.reduceAdd, Nat.reduceBEq, Nat.reduceEqDiff, Nat.reduceLeDiff, Nat.reduceLT, Nat.reduceSub]
      | simp (disch := omega) only [wrap_in, toNat_succ, toNat_pred, Int.toNat_natCast]
      | with_reducible refine And.intro (by omega) ?_
      | with_reducible refine exI (by omega) ?_
      | fail
    · exact ⟨h, .done _ _ _ Le.l0, Keeps.refl h⟩
theorem ref_Diff_spec (ps : List Int) (e0 : Bool) (us ws : List Nst) (e1 e2 : Bool) (hps : 0 < ps.length ∧ ps.length < 2 ^ 29) (hs : ∀ s ∈ us, Sized s) (hs2 : ∀ s ∈ ws, Sized s)
    (f1 : fitR ps us = true) (f2 : fitR ps ws = true) (tw : Two us ws) : PureF Try.prog 21 [.l e0 1 (ps.map I), .l e1 6 (us.map encS), .l e2 6 (ws.map encS)] (.l false 6 ((diffT us ws).map encN)) := by
  refine PureF.of_awpZ mixed T21 (fn := Try.f21) (by kernel_rfl) rfl (by kernel_rfl) (by show 3 ≤ _; decide) (by simp [AV.lf, N_lfs]) (fun h => ?_)
  obtain ⟨tl, tn, tp, tk, te, tpr, tt, tb⟩ := tw
  have l2 : 0 < ws.length := by omega
  have o1 : us[0].objs.length = objN us := (objN_eq tp).symm
  have o2 : ws[0].objs.length = objN us := by rw [← te]; exact (objN_eq l2).symm
  have hou : ∀ k, k < objN us → ∀ s ∈ us, 0 ≤ (k : Int) ∧ (k : Int) < s.objs.length := by
    intro k hk s hm
    obtain ⟨i, hi, rfl⟩ := List.getElem_of_mem hm
    have := (tpr k hk i hi (by omega)).ob
    simp at this; omega
  have how : ∀ k, k < objN us → ∀ s ∈ ws, 0 ≤ (k : Int) ∧ (k : Int) < s.objs.length := by
    intro k hk s hm
    obtain ⟨i, hi, rfl⟩ := List.getElem_of_mem hm
    have := (tpr k hk i (by omega) hi).oa
    simp at this; omega
  obtain ⟨tot, htot⟩ : ∃ x, diffT us ws = x := ⟨_, rfl⟩
  rw [htot] at tt ⊢
  repeat' first
    | (with_reducible refine CondX.dec (fun c => ?_) (fun c => ?_)) <;> try (exfalso; omega)
    | (with_reducible refine CondX.beq (fun c => ?_) (fun c => ?_)) <;> try (exfalso; omega)
    | (with_reducible refine CondX.bne (fun c => ?_) (fun c => ?_)) <;> try (exfalso; omega)
    | (with_reducible refine CondX.bool (fun c => ?_) (fun c => ?_)) <;> try (exfalso; omega)
    | ((with_reducible refine CallX.id ?_); first | refine CallX.pure (ref_Fit_spec ps e0 us e1 hps.2 hs) ?_ | refine CallX.pure (ref_Fit_spec ps e0 ws e2 hps.2 hs2) ?_)
    | ((with_reducible refine PureX.id ?_); first | refine PureX.of (ref_Fit_spec ps e0 us e1 hps.2 hs) ?_ | refine PureX.of (ref_Fit_spec ps e0 ws e2 hps.2 hs2) ?_)
    | simp only [go_sem, I_eq, I_cells, T21, f1, f2, encS_cells, o1, o2, Nat.reduceAdd, Nat.reduceBEq, Nat.reduceEqDiff, Nat.reduceLeDiff, Nat.reduceLT, Nat.reduceSub]
    | simp (disch := omega) only [wrap_in, toNat_succ, toNat_pred, Int.toNat_natCast]
    | with_reducible refine And.intro (by omega) ?_
    | with_reducible refine exI (by omega) ?_
    | fail
  refine awp_count 54 53 (objN us) (by omega) (fun k t => t.slots 0 = .l e0 1 (ps.map I) ∧ t.slots 1 = .l e1 6 (us.map encS) ∧ t.slots 2 = .l e2 6 (ws.map encS) ∧ Keeps h t.hp ∧ ∃ v ns, t.slots 7 = v ∧ Acc h t.hp 6 v (ns.map encN) ∧ ns ++ diffG us ws k (objN us - k) = tot) ?_ ?_ ?_ ?_ ?_
  · simp only [go_sem, I_eq, I_cells, Nat.reduceAdd, Nat.reduceBEq, Nat.reduceEqDiff, Nat.reduceLeDiff, Nat.reduceLT, Nat.reduceSub]
  · simp only [go_sem, I_eq, I_cells, Nat.reduceAdd, Nat.reduceBEq, Nat.reduceEqDiff, Nat.reduceLeDiff, Nat.reduceLT, Nat.reduceSub]
  · simp only [go_sem, I_eq, I_cells, Nat.reduceAdd, Nat.reduceBEq, Nat.reduceEqDiff, Nat.reduceLeDiff, Nat.reduceLT, Nat.reduceSub]
    exact ⟨by ((repeat first | with_reducible apply Keeps.alloc | (with_reducible refine Keeps.set ?_ ?hL _; case hL => first | assumption | exact Hp.ok _ _ (by simp) | exact Keeps.new (by assumption) _ _)); first | assumption | exact Keeps.refl _), _, [], rfl, .nil, htot⟩
  · rintro k t hlk d2 hw g54 g53 ⟨g0, g1, g2, gH, v, ns, g7, ga, hd⟩
    rw [show objN us - k = (objN us - (k + 1)) + 1 by omega, diffG, diffK] at hd
    obtain ⟨G, hG⟩ : ∃ G, diffG us ws (k + 1) (objN us - (k + 1)) = G := ⟨_, rfl⟩
    obtain ⟨at_, hat⟩ : ∃ x, holder ws k = x := ⟨_, rfl⟩
    obtain ⟨R2, hR2⟩ : ∃ R, (freeL k 0 us ws ++ gotN k (holder us k) at_) ++ G = R := ⟨_, rfl⟩
    rw [hat, hG, List.append_assoc, List.append_assoc, hR2] at hd
    repeat' first
      | (with_reducible refine CondX.dec (fun c => ?_) (fun c => ?_)) <;> try (exfalso; omega)
      | (with_reducible refine CondX.beq (fun c => ?_) (fun c => ?_)) <;> try (exfalso; omega)
      | (with_reducible refine CondX.bne (fun c => ?_) (fun c => ?_)) <;> try (exfalso; omega)
      | (with_reducible refine CondX.bool (fun c => ?_) (fun c => ?_)) <;> try (exfalso; omega)
      | ((with_reducible refine CallX.id ?_); first | refine CallX.pure (ref_holder_spec ws e2 k (by omega) (how k hlk)) ?_)
      | simp only [go_sem, I_eq, I_cells, T21, g0, g1, g2, g7, g53, g54, d2, hw, pairV, hat, Nat.reduceAdd, Nat.reduceBEq, Nat.reduceEqDiff, Nat.reduceLeDiff, Nat.reduceLT, Nat.reduceSub]
      | simp (disch := omega) only [wrap_in, toNat_succ, toNat_pred, Int.toNat_natCast]
      | with_reducible refine And.intro (by omega) ?_
      | with_reducible refine exI (by omega) ?_
      | fail
    refine awp_count 65 64 us.length (by omega) (fun i t => t.slots 0 = .l e0 1 (ps.map I) ∧ t.slots 1 = .l e1 6 (us.map encS) ∧ t.slots 2 = .l e2 6 (ws.map encS) ∧ Keeps h t.hp ∧ t.slots 53 = .int .i64 (objN us) ∧ t.slots 54 = .int .i64 k ∧ t.slots 8 = .int .i64 k ∧ t.slots 9 = .int .i64 at_.1 ∧ t.slots 10 = .int .i64 at_.2 ∧ ∃ v ns, t.slots 7 = v ∧ Acc h t.hp 6 v (ns.map encN) ∧ ns ++ (askL k i (us.drop i) (ws.drop i) ++ ((ledL k at_ 0 us ws).map (ledNote k) ++ R2)) = tot) ?_ ?_ ?_ ?_ ?_
    · simp only [go_sem, I_eq, I_cells, Nat.reduceAdd, Nat.reduceBEq, Nat.reduceEqDiff, Nat.reduceLeDiff, Nat.reduceLT, Nat.reduceSub]
    · simp only [go_sem, I_eq, I_cells, Nat.reduceAdd, Nat.reduceBEq, Nat.reduceEqDiff, Nat.reduceLeDiff, Nat.reduceLT, Nat.reduceSub]
    · simp only [go_sem, I_eq, I_cells, g0, g1, g2, g7, g53, g54, Nat.reduceAdd, Nat.reduceBEq, Nat.reduceEqDiff, Nat.reduceLeDiff, Nat.reduceLT, Nat.reduceSub]
      exact ⟨gH, v, ns, rfl, ga, hd⟩
    · clear g0 g1 g2 g7 gH ga hd g53 g54
      rintro i t hli d3 hw2 g65 g64 ⟨g0, g1, g2, gH, g53, g54, g8, g9, g10, v, ns, g7, ga, hd⟩
      have hlw : i < ws.length := by omega
      obtain ⟨pob, poa, -, -, -, -, -, -⟩ := tpr k hlk i hli hlw
      simp only [Int.toNat_natCast] at pob poa
      rw [drop_cons hli, drop_cons hlw, askL, show (ws[i].objs[k]?.map Own.made).getD 0 = ws[i].objs[k].made by simp [poa], show (us[i].objs[k]?.map Own.made).getD 0 = us[i].objs[k].made by simp [pob]] at hd
      have hln := congrArg List.length hd
      simp only [List.length_append] at hln
      repeat' first
        | (with_reducible refine CondX.dec (fun c => ?_) (fun c => ?_)) <;> try (exfalso; omega)
        | (with_reducible refine CondX.beq (fun c => ?_) (fun c => ?_)) <;> try (exfalso; omega)
        | (with_reducible refine CondX.bne (fun c => ?_) (fun c => ?_)) <;> try (exfalso; omega)
        | (with_reducible refine CondX.bool (fun c => ?_) (fun c => ?_)) <;> try (exfalso; omega)
        | simp only [go_sem, I_eq, I_cells, T21, g0, g1, g2, g53, g54, g8, g9, g10, g7, g64, g65, d3, hw, hw2, encS_cells, encO_cells, Nat.reduceAdd, Nat.reduceBEq, Nat.reduceEqDiff, Nat.reduceLeDiff, Nat.reduceLT, Nat.reduceSub]
        | simp (disch := omega) only [wrap_in, toNat_succ, toNat_pred, Int.toNat_natCast]
        | with_reducible refine And.intro (by omega) ?_
        | with_reducible refine exI (by omega) ?_
        | fail
      · rw [if_pos c] at hd hln
        refine ga.app (by ((repeat first | with_reducible apply Keeps.alloc | (with_reducible refine Keeps.set ?_ ?hL _; case hL => first | assumption | exact Hp.ok _ _ (by simp) | exact Keeps.new (by assumption) _ _)); first | assumption | exact Keeps.refl _)) (by simp at hln ⊢; omega) (by simp at hln ⊢; omega) (by decide) fun H' v' a' kp' fr1 fr2 ev => ?_
        repeat' first
          | (with_reducible refine CondX.dec (fun c => ?_) (fun c => ?_)) <;> try (exfalso; omega)
          | (with_reducible refine CondX.beq (fun c => ?_) (fun c => ?_)) <;> try (exfalso; omega)
          | (with_reducible refine CondX.bne (fun c => ?_) (fun c => ?_)) <;> try (exfalso; omega)
          | (with_reducible refine CondX.bool (fun c => ?_) (fun c => ?_)) <;> try (exfalso; omega)
          | simp only [go_sem, I_eq, I_cells, T21, g0, g1, g2, g53, g54, g8, g9, g10, g7, g64, g65, d3, hw, hw2, encS_cells, encO_cells, Nat.reduceAdd, Nat.reduceBEq, Nat.reduceEqDiff, Nat.reduceLeDiff, Nat.reduceLT, Nat.reduceSub]
          | simp (disch := omega) only [wrap_in, toNat_succ, toNat_pred, Int.toNat_natCast]
          | with_reducible refine And.intro (by omega) ?_
          | with_reducible refine exI (by omega) ?_
          | fail
        exact ⟨_, ns ++ [⟨1, k, i, ws[i].objs[k].made, 0, 0⟩], rfl, (by rw [List.map_append]; exact a'), (by rw [← hd]; simp)⟩
      · rw [if_neg c] at hd
        exact ⟨v, ns, rfl, ga, hd⟩
    · clear g0 g1 g2 g7 gH ga hd g53 g54
      rintro t d3 g65 g64 ⟨g0, g1, g2, gH, g53, g54, g8, g9, g10, v, ns, g7, ga, hd⟩
      rw [List.drop_length, askL.eq_def, List.nil_append] at hd
      repeat' first
        | (with_reducible refine CondX.dec (fun c => ?_) (fun c => ?_)) <;> try (exfalso; omega)
        | (with_reducible refine CondX.beq (fun c => ?_) (fun c => ?_)) <;> try (exfalso; omega)
        | (with_reducible refine CondX.bne (fun c => ?_) (fun c => ?_)) <;> try (exfalso; omega)
        | (with_reducible refine CondX.bool (fun c => ?_) (fun c => ?_)) <;> try (exfalso; omega)
        | simp only [go_sem, I_eq, I_cells, T21, g0, g1, g2, g53, g54, g8, g9, g10, g7, g64, g65, d3, Nat.reduceAdd, Nat.reduceBEq, Nat.reduceEqDiff, Nat.reduceLeDiff, Nat.reduceLT, Nat.reduceSub]
        | simp (disch := omega) only [wrap_in, toNat_succ, toNat_pred, Int.toNat_natCast]
        | with_reducible refine And.intro (by omega) ?_
        | with_reducible refine exI (by omega) ?_
        | fail
      refine awp_count 105 104 us.length (by omega) (fun i t => t.slots 0 = .l e0 1 (ps.map I) ∧ t.slots 1 = .l e1 6 (us.map encS) ∧ t.slots 2 = .l e2 6 (ws.map encS) ∧ Keeps h t.hp ∧ t.slots 53 = .int .i64 (objN us) ∧ t.slots 54 = .int .i64 k ∧ t.slots 8 = .int .i64 k ∧ t.slots 9 = .int .i64 at_.1 ∧ t.slots 10 = .int .i64 at_.2 ∧ ∃ v ns, t.slots 7 = v ∧ Acc h t.hp 6 v (ns.map encN) ∧ ns ++ ((ledL k at_ i (us.drop i) (ws.drop i)).map (ledNote k) ++ R2) = tot) ?_ ?_ ?_ ?_ ?_
      · simp only [go_sem, I_eq, I_cells, Nat.reduceAdd, Nat.reduceBEq, Nat.reduceEqDiff, Nat.reduceLeDiff, Nat.reduceLT, Nat.reduceSub]
      · simp only [go_sem, I_eq, I_cells, Nat.reduceAdd, Nat.reduceBEq, Nat.reduceEqDiff, Nat.reduceLeDiff, Nat.reduceLT, Nat.reduceSub]
      · simp only [go_sem, I_eq, I_cells, T21, g0, g1, g2, g53, g54, g8, g9, g10, g7, Nat.reduceAdd, Nat.reduceBEq, Nat.reduceEqDiff, Nat.reduceLeDiff, Nat.reduceLT, Nat.reduceSub]
        exact ⟨gH, v, ns, rfl, ga, hd⟩
      · clear g0 g1 g2 gH g53 g54 g8 g9 g10 g7 ga hd
        rintro i t hli d3 hw2 g105 g104 ⟨g0, g1, g2, gH, g53, g54, g8, g9, g10, v, ns, g7, ga, hd⟩
        have hlw : i < ws.length := by omega
        obtain ⟨pob, poa, peb, pea, ple, ple2, pcb, pca⟩ := tpr k hlk i hli hlw
        simp only [Int.toNat_natCast] at pob poa
        have pcb' := pcb _ (List.getElem_mem pob)
        have pca' := pca _ (List.getElem_mem poa)
        have eu : cellsOf k us[i] = us[i].objs[k].cells := cellsOf_at (by simpa using pob)
        have ew : cellsOf k ws[i] = ws[i].objs[k].cells := cellsOf_at (by simpa using poa)
        rw [drop_cons hli, drop_cons hlw, ledL, eu, ew, ledR_eq _ _ _ _ _ (tb k hlk i hli pob), List.map_append, List.append_assoc] at hd
        obtain ⟨psh, hpsh⟩ : ∃ p, pushL k us[i].edges ws[i].edges = p := ⟨_, rfl⟩
        obtain ⟨rest, hrest⟩ : ∃ r, (ledL k at_ (i + 1) (us.drop (i + 1)) (ws.drop (i + 1))).map (ledNote k) ++ R2 = r := ⟨_, rfl⟩
        rw [hpsh, hrest] at hd
        repeat' first
          | (with_reducible refine CondX.dec (fun c => ?_) (fun c => ?_)) <;> try (exfalso; omega)
          | (with_reducible refine CondX.beq (fun c => ?_) (fun c => ?_)) <;> try (exfalso; omega)
          | (with_reducible refine CondX.bne (fun c => ?_) (fun c => ?_)) <;> try (exfalso; omega)
          | (with_reducible refine CondX.bool (fun c => ?_) (fun c => ?_)) <;> try (exfalso; omega)
          | simp only [go_sem, I_eq, I_cells, T21, g0, g1, g2, g53, g54, g8, g9, g10, g7, g104, g105, d3, hw, hw2, encS_cells, encO_cells, Nat.reduceAdd, Nat.reduceBEq, Nat.reduceEqDiff, Nat.reduceLeDiff, Nat.reduceLT, Nat.reduceSub]
          | simp (disch := omega) only [wrap_in, toNat_succ, toNat_pred, Int.toNat_natCast]
          | with_reducible refine And.intro (by omega) ?_
          | with_reducible refine exI (by omega) ?_
          | fail
        refine awp_count 127 126 us[i].objs[k].cells.length (by omega) (fun j t => t.slots 0 = .l e0 1 (ps.map I) ∧ t.slots 1 = .l e1 6 (us.map encS) ∧ t.slots 2 = .l e2 6 (ws.map encS) ∧ Keeps h t.hp ∧ t.slots 53 = .int .i64 (objN us) ∧ t.slots 54 = .int .i64 k ∧ t.slots 8 = .int .i64 k ∧ t.slots 9 = .int .i64 at_.1 ∧ t.slots 10 = .int .i64 at_.2 ∧ t.slots 12 = .int .i64 i ∧ t.slots 13 = .l false 4 (ws[i].objs[k].cells.map encC) ∧ t.slots 104 = .int .i64 us.length ∧ t.slots 105 = .int .i64 i ∧ t.slots 125 = .l false 4 (us[i].objs[k].cells.map encC) ∧ ∃ v ns, t.slots 7 = v ∧ Acc h t.hp 6 v (ns.map encN) ∧ ns ++ ((ledR at_ psh ws[i].objs[k].cells i (us[i].objs[k].cells.drop j)).map (ledNote k) ++ rest) = tot) ?_ ?_ ?_ ?_ ?_
        · simp only [go_sem, I_eq, I_cells, Nat.reduceAdd, Nat.reduceBEq, Nat.reduceEqDiff, Nat.reduceLeDiff, Nat.reduceLT, Nat.reduceSub]
        · simp only [go_sem, I_eq, I_cells, Nat.reduceAdd, Nat.reduceBEq, Nat.reduceEqDiff, Nat.reduceLeDiff, Nat.reduceLT, Nat.reduceSub]
        · simp only [go_sem, I_eq, I_cells, T21, g0, g1, g2, g53, g54, g8, g9, g10, g7, g104, g105, Nat.reduceAdd, Nat.reduceBEq, Nat.reduceEqDiff, Nat.reduceLeDiff, Nat.reduceLT, Nat.reduceSub]
          exact ⟨gH, v, ns, rfl, ga, hd⟩
        · clear g0 g1 g2 gH g53 g54 g8 g9 g10 g7 ga hd g104 g105
          rintro j t hlj d4 hw3 g127 g126 ⟨g0, g1, g2, gH, g53, g54, g8, g9, g10, g12, g13, g104, g105, g125, v, ns, g7, ga, hd⟩
          have hbj := (tb k hlk i hli pob j hlj).1
          rw [drop_cons hlj, ledR_cons] at hd
          obtain ⟨cc, hc⟩ : ∃ c, us[i].objs[k].cells[j] = c := ⟨_, rfl⟩
          obtain ⟨pp, hpp⟩ : ∃ p, psh.getD (-1, 0) = p := ⟨_, rfl⟩
          rw [hc] at hd hbj
          rw [hpp] at hd
          have hln := congrArg List.length hd
          rcases idxP_cases (fun x : Cel => x.num == cc.num) ws[i].objs[k].cells with ⟨hp, hf⟩ | ⟨m, hm, hp, hf⟩
          · rw [hf] at hd hln
            simp only at hd hln
            by_cases b1 : cc.node ≠ -1
            · rw [if_pos b1] at hd
              repeat' first
                | (with_reducible refine CondX.dec (fun c => ?_) (fun c => ?_)) <;> try (exfalso; omega)
                | (with_reducible refine CondX.beq (fun c => ?_) (fun c => ?_)) <;> try (exfalso; omega)
                | (with_reducible refine CondX.bne (fun c => ?_) (fun c => ?_)) <;> try (exfalso; omega)
                | (with_reducible refine CondX.bool (fun c => ?_) (fun c => ?_)) <;> try (exfalso; omega)
                | ((with_reducible refine CallX.id ?_); first | refine CallX.pure (find_spec _ _ _ (by omega)) ?_ | refine CallX.pure (ref_pushed_spec us[i] ws[i] k peb pea ple ple2) ?_)
                | ((with_reducible refine PureX.id ?_); first | refine PureX.of (find_spec _ _ _ (by omega)) ?_ | refine PureX.of (ref_pushed_spec us[i] ws[i] k peb pea ple ple2) ?_)
                | simp only [go_sem, I_eq, I_cells, T21, g0, g1, g2, g53, g54, g8, g9, g10, g7, g104, g105, g12, g13, g125, g126, g127, d4, d3, hw, hw2, hw3, encC_cells, encS_cells, encS, hc, hpp, pushW, pairV, hp, hpsh, Nat.reduceAdd, Nat.reduceBEq, Nat.reduceEqDiff, Nat.reduceLeDiff, Nat.reduceLT, Nat.reduceSub]
                | simp (disch := omega) only [wrap_in, toNat_succ, toNat_pred, Int.toNat_natCast]
                | with_reducible refine And.intro (by omega) ?_
                | with_reducible refine exI (by omega) ?_
                | fail
              exact ⟨by ((repeat first | with_reducible apply Keeps.alloc | (with_reducible refine Keeps.set ?_ ?hL _; case hL => first | assumption | exact Hp.ok _ _ (by simp) | exact Keeps.new (by assumption) _ _)); first | assumption | exact Keeps.refl _), v, ns, rfl, ga.alloc _ _ _, hd⟩
            rw [if_neg b1] at hd hln
            by_cases b2 : at_.1 ≥ 0
            · rw [if_pos b2] at hd hln
              repeat' first
                | (with_reducible refine CondX.dec (fun c => ?_) (fun c => ?_)) <;> try (exfalso; omega)
                | (with_reducible refine CondX.beq (fun c => ?_) (fun c => ?_)) <;> try (exfalso; omega)
                | (with_reducible refine CondX.bne (fun c => ?_) (fun c => ?_)) <;> try (exfalso; omega)
                | (with_reducible refine CondX.bool (fun c => ?_) (fun c => ?_)) <;> try (exfalso; omega)
                | ((with_reducible refine CallX.id ?_); first | refine CallX.pure (find_spec _ _ _ (by omega)) ?_ | refine CallX.pure (ref_pushed_spec us[i] ws[i] k peb pea ple ple2) ?_)
                | ((with_reducible refine PureX.id ?_); first | refine PureX.of (find_spec _ _ _ (by omega)) ?_ | refine PureX.of (ref_pushed_spec us[i] ws[i] k peb pea ple ple2) ?_)
                | simp only [go_sem, I_eq, I_cells, T21, g0, g1, g2, g53, g54, g8, g9, g10, g7, g104, g105, g12, g13, g125, g126, g127, d4, d3, hw, hw2, hw3, encC_cells, encS_cells, encS, hc, hpp, pushW, pairV, hp, hpsh, Nat.reduceAdd, Nat.reduceBEq, Nat.reduceEqDiff, Nat.reduceLeDiff, Nat.reduceLT, Nat.reduceSub]
                | simp (disch := omega) only [wrap_in, toNat_succ, toNat_pred, Int.toNat_natCast]
                | with_reducible refine And.intro (by omega) ?_
                | with_reducible refine exI (by omega) ?_
                | fail
              refine (ga.alloc _ _ _).app (by ((repeat first | with_reducible apply Keeps.alloc | (with_reducible refine Keeps.set ?_ ?hL _; case hL => first | assumption | exact Hp.ok _ _ (by simp) | exact Keeps.new (by assumption) _ _)); first | assumption | exact Keeps.refl _)) (by simp at hln ⊢; omega) (by simp at hln ⊢; omega) (by decide) fun H' v' a' kp' fr1 fr2 ev => ?_
              repeat' first
                | (with_reducible refine CondX.dec (fun c => ?_) (fun c => ?_)) <;> try (exfalso; omega)
                | (with_reducible refine CondX.beq (fun c => ?_) (fun c => ?_)) <;> try (exfalso; omega)
                | (with_reducible refine CondX.bne (fun c => ?_) (fun c => ?_)) <;> try (exfalso; omega)
                | (with_reducible refine CondX.bool (fun c => ?_) (fun c => ?_)) <;> try (exfalso; omega)
                | simp only [go_sem, I_eq, I_cells, T21, g0, g1, g2, g53, g54, g8, g9, g10, g7, g104, g105, g12, g13, g125, g126, g127, d4, d3, hw, hw2, hw3, encC_cells, encS_cells, encS, hc, hpp, pushW, pairV, hp, hpsh, Nat.reduceAdd, Nat.reduceBEq, Nat.reduceEqDiff, Nat.reduceLeDiff, Nat.reduceLT, Nat.reduceSub]
                | simp (disch := omega) only [wrap_in, toNat_succ, toNat_pred, Int.toNat_natCast]
                | with_reducible refine And.intro (by omega) ?_
                | with_reducible refine exI (by omega) ?_
                | fail
              exact ⟨_, ns ++ [ledNote k ((i, cc.num), at_)], rfl, (by rw [List.map_append]; exact a'), (by rw [← hd]; simp)⟩
            rw [if_neg b2] at hd hln
            by_cases b3 : pp.1 ≥ 0
            · rw [if_pos b3] at hd hln
              repeat' first
                | (with_reducible refine CondX.dec (fun c => ?_) (fun c => ?_)) <;> try (exfalso; omega)
                | (with_reducible refine CondX.beq (fun c => ?_) (fun c => ?_)) <;> try (exfalso; omega)
                | (with_reducible refine CondX.bne (fun c => ?_) (fun c => ?_)) <;> try (exfalso; omega)
                | (with_reducible refine CondX.bool (fun c => ?_) (fun c => ?_)) <;> try (exfalso; omega)
                | ((with_reducible refine CallX.id ?_); first | refine CallX.pure (find_spec _ _ _ (by omega)) ?_ | refine CallX.pure (ref_pushed_spec us[i] ws[i] k peb pea ple ple2) ?_)
                | ((with_reducible refine PureX.id ?_); first | refine PureX.of (find_spec _ _ _ (by omega)) ?_ | refine PureX.of (ref_pushed_spec us[i] ws[i] k peb pea ple ple2) ?_)
                | simp only [go_sem, I_eq, I_cells, T21, g0, g1, g2, g53, g54, g8, g9, g10, g7, g104, g105, g12, g13, g125, g126, g127, d4, d3, hw, hw2, hw3, encC_cells, encS_cells, encS, hc, hpp, pushW, pairV, hp, hpsh, Nat.reduceAdd, Nat.reduceBEq, Nat.reduceEqDiff, Nat.reduceLeDiff, Nat.reduceLT, Nat.reduceSub]
                | simp (disch := omega) only [wrap_in, toNat_succ, toNat_pred, Int.toNat_natCast]
                | with_reducible refine And.intro (by omega) ?_
                | with_reducible refine exI (by omega) ?_
                | fail
              refine (ga.alloc _ _ _).app (by ((repeat first | with_reducible apply Keeps.alloc | (with_reducible refine Keeps.set ?_ ?hL _; case hL => first | assumption | exact Hp.ok _ _ (by simp) | exact Keeps.new (by assumption) _ _)); first | assumption | exact Keeps.refl _)) (by simp at hln ⊢; omega) (by simp at hln ⊢; omega) (by decide) fun H' v' a' kp' fr1 fr2 ev => ?_
              repeat' first
                | (with_reducible refine CondX.dec (fun c => ?_) (fun c => ?_)) <;> try (exfalso; omega)
                | (with_reducible refine CondX.beq (fun c => ?_) (fun c => ?_)) <;> try (exfalso; omega)
                | (with_reducible refine CondX.bne (fun c => ?_) (fun c => ?_)) <;> try (exfalso; omega)
                | (with_reducible refine CondX.bool (fun c => ?_) (fun c => ?_)) <;> try (exfalso; omega)
                | simp only [go_sem, I_eq, I_cells, T21, g0, g1, g2, g53, g54, g8, g9, g10, g7, g104, g105, g12, g13, g125, g126, g127, d4, d3, hw, hw2, hw3, encC_cells, encS_cells, encS, hc, hpp, pushW, pairV, hp, hpsh, Nat.reduceAdd, Nat.reduceBEq, Nat.reduceEqDiff, Nat.reduceLeDiff, Nat.reduceLT, Nat.reduceSub]
                | simp (disch := omega) only [wrap_in, toNat_succ, toNat_pred, Int.toNat_natCast]
                | with_reducible refine And.intro (by omega) ?_
                | with_reducible refine exI (by omega) ?_
                | fail
              exact ⟨_, ns ++ [ledNote k ((i, cc.num), pp)], rfl, (by rw [List.map_append]; exact a'), (by rw [← hd]; simp)⟩
            · rw [if_neg b3] at hd
              repeat' first
                | (with_reducible refine CondX.dec (fun c => ?_) (fun c => ?_)) <;> try (exfalso; omega)
                | (with_reducible refine CondX.beq (fun c => ?_) (fun c => ?_)) <;> try (exfalso; omega)
                | (with_reducible refine CondX.bne (fun c => ?_) (fun c => ?_)) <;> try (exfalso; omega)
                | (with_reducible refine CondX.bool (fun c => ?_) (fun c => ?_)) <;> try (exfalso; omega)
                | ((with_reducible refine CallX.id ?_); first | refine CallX.pure (find_spec _ _ _ (by omega)) ?_ | refine CallX.pure (ref_pushed_spec us[i] ws[i] k peb pea ple ple2) ?_)
                | ((with_reducible refine PureX.id ?_); first | refine PureX.of (find_spec _ _ _ (by omega)) ?_ | refine PureX.of (ref_pushed_spec us[i] ws[i] k peb pea ple ple2) ?_)
                | simp only [go_sem, I_eq, I_cells, T21, g0, g1, g2, g53, g54, g8, g9, g10, g7, g104, g105, g12, g13, g125, g126, g127, d4, d3, hw, hw2, hw3, encC_cells, encS_cells, encS, hc, hpp, pushW, pairV, hp, hpsh, Nat.reduceAdd, Nat.reduceBEq, Nat.reduceEqDiff, Nat.reduceLeDiff, Nat.reduceLT, Nat.reduceSub]
                | simp (disch := omega) only [wrap_in, toNat_succ, toNat_pred, Int.toNat_natCast]
                | with_reducible refine And.intro (by omega) ?_
                | with_reducible refine exI (by omega) ?_
                | fail
              exact ⟨by ((repeat first | with_reducible apply Keeps.alloc | (with_reducible refine Keeps.set ?_ ?hL _; case hL => first | assumption | exact Hp.ok _ _ (by simp) | exact Keeps.new (by assumption) _ _)); first | assumption | exact Keeps.refl _), v, ns, rfl, ga.alloc _ _ _, hd⟩
          · rw [hf] at hd hln
            obtain ⟨mx, hmx⟩ : ∃ x, ws[i].objs[k].cells[m] = x := ⟨_, rfl⟩
            rw [hmx] at hd hln
            simp only at hd hln
            by_cases b1 : cc.node ≠ -1
            · rw [if_pos b1] at hd
              repeat' first
                | (with_reducible refine CondX.dec (fun c => ?_) (fun c => ?_)) <;> try (exfalso; omega)
                | (with_reducible refine CondX.beq (fun c => ?_) (fun c => ?_)) <;> try (exfalso; omega)
                | (with_reducible refine CondX.bne (fun c => ?_) (fun c => ?_)) <;> try (exfalso; omega)
                | (with_reducible refine CondX.bool (fun c => ?_) (fun c => ?_)) <;> try (exfalso; omega)
                | ((with_reducible refine CallX.id ?_); first | refine CallX.pure (find_spec _ _ _ (by omega)) ?_ | refine CallX.pure (ref_pushed_spec us[i] ws[i] k peb pea ple ple2) ?_)
                | ((with_reducible refine PureX.id ?_); first | refine PureX.of (find_spec _ _ _ (by omega)) ?_ | refine PureX.of (ref_pushed_spec us[i] ws[i] k peb pea ple ple2) ?_)
                | simp only [go_sem, I_eq, I_cells, T21, g0, g1, g2, g53, g54, g8, g9, g10, g7, g104, g105, g12, g13, g125, g126, g127, d4, d3, hw, hw2, hw3, encC_cells, encS_cells, encS, hc, hpp, pushW, pairV, hp, hpsh, hmx, Nat.reduceAdd, Nat.reduceBEq, Nat.reduceEqDiff, Nat.reduceLeDiff, Nat.reduceLT, Nat.reduceSub]
                | simp (disch := omega) only [wrap_in, toNat_succ, toNat_pred, Int.toNat_natCast]
                | with_reducible refine And.intro (by omega) ?_
                | with_reducible refine exI (by omega) ?_
                | fail
              exact ⟨by ((repeat first | with_reducible apply Keeps.alloc | (with_reducible refine Keeps.set ?_ ?hL _; case hL => first | assumption | exact Hp.ok _ _ (by simp) | exact Keeps.new (by assumption) _ _)); first | assumption | exact Keeps.refl _), v, ns, rfl, ga.alloc _ _ _, hd⟩
            rw [if_neg b1] at hd hln
            by_cases b2 : mx.node ≥ 0
            · rw [if_pos b2] at hd hln
              repeat' first
                | (with_reducible refine CondX.dec (fun c => ?_) (fun c => ?_)) <;> try (exfalso; omega)
                | (with_reducible refine CondX.beq (fun c => ?_) (fun c => ?_)) <;> try (exfalso; omega)
                | (with_reducible refine CondX.bne (fun c => ?_) (fun c => ?_)) <;> try (exfalso; omega)
                | (with_reducible refine CondX.bool (fun c => ?_) (fun c => ?_)) <;> try (exfalso; omega)
                | ((with_reducible refine CallX.id ?_); first | refine CallX.pure (find_spec _ _ _ (by omega)) ?_ | refine CallX.pure (ref_pushed_spec us[i] ws[i] k peb pea ple ple2) ?_)
                | ((with_reducible refine PureX.id ?_); first | refine PureX.of (find_spec _ _ _ (by omega)) ?_ | refine PureX.of (ref_pushed_spec us[i] ws[i] k peb pea ple ple2) ?_)
                | simp only [go_sem, I_eq, I_cells, T21, g0, g1, g2, g53, g54, g8, g9, g10, g7, g104, g105, g12, g13, g125, g126, g127, d4, d3, hw, hw2, hw3, encC_cells, encS_cells, encS, hc, hpp, pushW, pairV, hp, hpsh, hmx, Nat.reduceAdd, Nat.reduceBEq, Nat.reduceEqDiff, Nat.reduceLeDiff, Nat.reduceLT, Nat.reduceSub]
                | simp (disch := omega) only [wrap_in, toNat_succ, toNat_pred, Int.toNat_natCast]
                | with_reducible refine And.intro (by omega) ?_
                | with_reducible refine exI (by omega) ?_
                | fail
              refine (ga.alloc _ _ _).app (by ((repeat first | with_reducible apply Keeps.alloc | (with_reducible refine Keeps.set ?_ ?hL _; case hL => first | assumption | exact Hp.ok _ _ (by simp) | exact Keeps.new (by assumption) _ _)); first | assumption | exact Keeps.refl _)) (by simp at hln ⊢; omega) (by simp at hln ⊢; omega) (by decide) fun H' v' a' kp' fr1 fr2 ev => ?_
              repeat' first
                | (with_reducible refine CondX.dec (fun c => ?_) (fun c => ?_)) <;> try (exfalso; omega)
                | (with_reducible refine CondX.beq (fun c => ?_) (fun c => ?_)) <;> try (exfalso; omega)
                | (with_reducible refine CondX.bne (fun c => ?_) (fun c => ?_)) <;> try (exfalso; omega)
                | (with_reducible refine CondX.bool (fun c => ?_) (fun c => ?_)) <;> try (exfalso; omega)
                | simp only [go_sem, I_eq, I_cells, T21, g0, g1, g2, g53, g54, g8, g9, g10, g7, g104, g105, g12, g13, g125, g126, g127, d4, d3, hw, hw2, hw3, encC_cells, encS_cells, encS, hc, hpp, pushW, pairV, hp, hpsh, hmx, Nat.reduceAdd, Nat.reduceBEq, Nat.reduceEqDiff, Nat.reduceLeDiff, Nat.reduceLT, Nat.reduceSub]
                | simp (disch := omega) only [wrap_in, toNat_succ, toNat_pred, Int.toNat_natCast]
                | with_reducible refine And.intro (by omega) ?_
                | with_reducible refine exI (by omega) ?_
                | fail
              exact ⟨_, ns ++ [ledNote k ((i, cc.num), (mx.node, mx.next))], rfl, (by rw [List.map_append]; exact a'), (by rw [← hd]; simp)⟩
            · rw [if_neg b2] at hd
              repeat' first
                | (with_reducible refine CondX.dec (fun c => ?_) (fun c => ?_)) <;> try (exfalso; omega)
                | (with_reducible refine CondX.beq (fun c => ?_) (fun c => ?_)) <;> try (exfalso; omega)
                | (with_reducible refine CondX.bne (fun c => ?_) (fun c => ?_)) <;> try (exfalso; omega)
                | (with_reducible refine CondX.bool (fun c => ?_) (fun c => ?_)) <;> try (exfalso; omega)
                | ((with_reducible refine CallX.id ?_); first | refine CallX.pure (find_spec _ _ _ (by omega)) ?_ | refine CallX.pure (ref_pushed_spec us[i] ws[i] k peb pea ple ple2) ?_)
                | ((with_reducible refine PureX.id ?_); first | refine PureX.of (find_spec _ _ _ (by omega)) ?_ | refine PureX.of (ref_pushed_spec us[i] ws[i] k peb pea ple ple2) ?_)
                | simp only [go_sem, I_eq, I_cells, T21, g0, g1, g2, g53, g54, g8, g9, g10, g7, g104, g105, g12, g13, g125, g126, g127, d4, d3, hw, hw2, hw3, encC_cells, encS_cells, encS, hc, hpp, pushW, pairV, hp, hpsh, hmx, Nat.reduceAdd, Nat.reduceBEq, Nat.reduceEqDiff, Nat.reduceLeDiff, Nat.reduceLT, Nat.reduceSub]
                | simp (disch := omega) only [wrap_in, toNat_succ, toNat_pred, Int.toNat_natCast]
                | with_reducible refine And.intro (by omega) ?_
                | with_reducible refine exI (by omega) ?_
                | fail
              exact ⟨by ((repeat first | with_reducible apply Keeps.alloc | (with_reducible refine Keeps.set ?_ ?hL _; case hL => first | assumption | exact Hp.ok _ _ (by simp) | exact Keeps.new (by assumption) _ _)); first | assumption | exact Keeps.refl _), v, ns, rfl, ga.alloc _ _ _, hd⟩
        · clear g0 g1 g2 gH g53 g54 g8 g9 g10 g7 ga hd g104 g105
          rintro t d4 g127 g126 ⟨g0, g1, g2, gH, g53, g54, g8, g9, g10, g12, g13, g104, g105, g125, v, ns, g7, ga, hd⟩
          rw [List.drop_length, ledR.eq_def, List.map_nil, List.nil_append] at hd
          repeat' first
            | (with_reducible refine CondX.dec (fun c => ?_) (fun c => ?_)) <;> try (exfalso; omega)
            | (with_reducible refine CondX.beq (fun c => ?_) (fun c => ?_)) <;> try (exfalso; omega)
            | (with_reducible refine CondX.bne (fun c => ?_) (fun c => ?_)) <;> try (exfalso; omega)
            | (with_reducible refine CondX.bool (fun c => ?_) (fun c => ?_)) <;> try (exfalso; omega)
            | simp only [go_sem, I_eq, I_cells, T21, g0, g1, g2, g53, g54, g8, g9, g10, g7, g104, g105, g125, g126, g127, d3, d4, hw, hw2, Nat.reduceAdd, Nat.reduceBEq, Nat.reduceEqDiff, Nat.reduceLeDiff, Nat.reduceLT, Nat.reduceSub]
            | simp (disch := omega) only [wrap_in, toNat_succ, toNat_pred, Int.toNat_natCast]
            | with_reducible refine And.intro (by omega) ?_
            | with_reducible refine exI (by omega) ?_
            | fail
          exact ⟨v, ns, rfl, ga, by rw [hrest]; exact hd⟩
      · clear g0 g1 g2 gH g53 g54 g8 g9 g10 g7 ga hd
        rintro t d3 g105 g104 ⟨g0, g1, g2, gH, g53, g54, g8, g9, g10, v, ns, g7, ga, hd⟩
        rw [List.drop_length, ledL.eq_def, List.map_nil, List.nil_append] at hd
        repeat' first
          | (with_reducible refine CondX.dec (fun c => ?_) (fun c => ?_)) <;> try (exfalso; omega)
          | (with_reducible refine CondX.beq (fun c => ?_) (fun c => ?_)) <;> try (exfalso; omega)
          | (with_reducible refine CondX.bne (fun c => ?_) (fun c => ?_)) <;> try (exfalso; omega)
          | (with_reducible refine CondX.bool (fun c => ?_) (fun c => ?_)) <;> try (exfalso; omega)
          | simp only [go_sem, I_eq, I_cells, T21, g0, g1, g2, g53, g54, g8, g9, g10, g7, g104, g105, d3, Nat.reduceAdd, Nat.reduceBEq, Nat.reduceEqDiff, Nat.reduceLeDiff, Nat.reduceLT, Nat.reduceSub]
          | simp (disch := omega) only [wrap_in, toNat_succ, toNat_pred, Int.toNat_natCast]
          | with_reducible refine And.intro (by omega) ?_
          | with_reducible refine exI (by omega) ?_
          | fail
        rw [← hR2, List.append_assoc] at hd
        refine awp_count 183 182 us.length (by omega) (fun i t => t.slots 0 = .l e0 1 (ps.map I) ∧ t.slots 1 = .l e1 6 (us.map encS) ∧ t.slots 2 = .l e2 6 (ws.map encS) ∧ Keeps h t.hp ∧ t.slots 53 = .int .i64 (objN us) ∧ t.slots 54 = .int .i64 k ∧ t.slots 8 = .int .i64 k ∧ t.slots 9 = .int .i64 at_.1 ∧ t.slots 10 = .int .i64 at_.2 ∧ ∃ v ns, t.slots 7 = v ∧ Acc h t.hp 6 v (ns.map encN) ∧ ns ++ (freeL k i (us.drop i) (ws.drop i) ++ (gotN k (holder us k) at_ ++ G)) = tot) ?_ ?_ ?_ ?_ ?_
        · simp only [go_sem, I_eq, I_cells, Nat.reduceAdd, Nat.reduceBEq, Nat.reduceEqDiff, Nat.reduceLeDiff, Nat.reduceLT, Nat.reduceSub]
        · simp only [go_sem, I_eq, I_cells, Nat.reduceAdd, Nat.reduceBEq, Nat.reduceEqDiff, Nat.reduceLeDiff, Nat.reduceLT, Nat.reduceSub]
        · simp only [go_sem, I_eq, I_cells, T21, g0, g1, g2, g53, g54, g8, g9, g10, g7, Nat.reduceAdd, Nat.reduceBEq, Nat.reduceEqDiff, Nat.reduceLeDiff, Nat.reduceLT, Nat.reduceSub]
          exact ⟨gH, v, ns, rfl, ga, hd⟩
        · clear g0 g1 g2 gH g53 g54 g8 g9 g10 g7 ga hd
          rintro i t hli d3 hw2 g183 g182 ⟨g0, g1, g2, gH, g53, g54, g8, g9, g10, v, ns, g7, ga, hd⟩
          have hlw : i < ws.length := by omega
          obtain ⟨pob, poa, -, -, -, -, pcb, pca⟩ := tpr k hlk i hli hlw
          simp only [Int.toNat_natCast] at pob poa
          have pcb' := pcb _ (List.getElem_mem pob)
          have pca' := pca _ (List.getElem_mem poa)
          have eu : cellsOf k us[i] = us[i].objs[k].cells := cellsOf_at (by simpa using pob)
          have ew : cellsOf k ws[i] = ws[i].objs[k].cells := cellsOf_at (by simpa using poa)
          rw [drop_cons hli, drop_cons hlw, freeL, List.append_assoc] at hd
          by_cases hc : 0 < us[i].objs[k].cells.length
          · rw [freeN_cons (by rw [eu]; exact hc)] at hd
            simp only [eu, ew] at hd
            have hln := congrArg List.length hd
            by_cases b1 : us[i].objs[k].cells[0].state = 2
            · rw [if_pos b1] at hd hln
              rcases idxP_cases (fun x : Cel => x.num == us[i].objs[k].cells[0].num) ws[i].objs[k].cells with ⟨hp, hf⟩ | ⟨m, hm, hp, hf⟩
              · rw [hf] at hd hln
                simp only at hd hln
                repeat' first
                  | (with_reducible refine CondX.dec (fun c => ?_) (fun c => ?_)) <;> try (exfalso; omega)
                  | (with_reducible refine CondX.beq (fun c => ?_) (fun c => ?_)) <;> try (exfalso; omega)
                  | (with_reducible refine CondX.bne (fun c => ?_) (fun c => ?_)) <;> try (exfalso; omega)
                  | (with_reducible refine CondX.bool (fun c => ?_) (fun c => ?_)) <;> try (exfalso; omega)
                  | ((with_reducible refine CallX.id ?_); first | refine CallX.pure (find_spec _ _ _ (by omega)) ?_)
                  | simp only [go_sem, I_eq, I_cells, T21, g0, g1, g2, g53, g54, g8, g9, g10, g7, g182, g183, d3, hw, hw2, encS_cells, encO_cells, encC_cells, hp, Nat.reduceAdd, Nat.reduceBEq, Nat.reduceEqDiff, Nat.reduceLeDiff, Nat.reduceLT, Nat.reduceSub]
                  | simp (disch := omega) only [wrap_in, toNat_succ, toNat_pred, Int.toNat_natCast]
                  | with_reducible refine And.intro (by omega) ?_
                  | with_reducible refine exI (by omega) ?_
                  | fail
                refine ga.app (by ((repeat first | with_reducible apply Keeps.alloc | (with_reducible refine Keeps.set ?_ ?hL _; case hL => first | assumption | exact Hp.ok _ _ (by simp) | exact Keeps.new (by assumption) _ _)); first | assumption | exact Keeps.refl _)) (by simp at hln ⊢; omega) (by simp at hln ⊢; omega) (by decide) fun H' v' a' kp' fr1 fr2 ev => ?_
                repeat' first
                  | (with_reducible refine CondX.dec (fun c => ?_) (fun c => ?_)) <;> try (exfalso; omega)
                  | (with_reducible refine CondX.beq (fun c => ?_) (fun c => ?_)) <;> try (exfalso; omega)
                  | (with_reducible refine CondX.bne (fun c => ?_) (fun c => ?_)) <;> try (exfalso; omega)
                  | (with_reducible refine CondX.bool (fun c => ?_) (fun c => ?_)) <;> try (exfalso; omega)
                  | simp only [go_sem, I_eq, I_cells, T21, g0, g1, g2, g53, g54, g8, g9, g10, g7, g182, g183, d3, hw, hw2, encS_cells, encO_cells, encC_cells, hp, Nat.reduceAdd, Nat.reduceBEq, Nat.reduceEqDiff, Nat.reduceLeDiff, Nat.reduceLT, Nat.reduceSub]
                  | simp (disch := omega) only [wrap_in, toNat_succ, toNat_pred, Int.toNat_natCast]
                  | with_reducible refine And.intro (by omega) ?_
                  | with_reducible refine exI (by omega) ?_
                  | fail
                exact ⟨_, ns ++ [⟨3, k, i, us[i].objs[k].cells[0].num, 0, 0⟩], rfl, (by rw [List.map_append]; exact a'), (by rw [← hd]; simp)⟩
              · rw [hf] at hd hln
                obtain ⟨mx, hmx⟩ : ∃ x, ws[i].objs[k].cells[m] = x := ⟨_, rfl⟩
                rw [hmx] at hd hln
                simp only at hd hln
                by_cases b2 : mx.state = 2
                · rw [if_pos b2, List.nil_append] at hd
                  repeat' first
                    | (with_reducible refine CondX.dec (fun c => ?_) (fun c => ?_)) <;> try (exfalso; omega)
                    | (with_reducible refine CondX.beq (fun c => ?_) (fun c => ?_)) <;> try (exfalso; omega)
                    | (with_reducible refine CondX.bne (fun c => ?_) (fun c => ?_)) <;> try (exfalso; omega)
                    | (with_reducible refine CondX.bool (fun c => ?_) (fun c => ?_)) <;> try (exfalso; omega)
                    | ((with_reducible refine CallX.id ?_); first | refine CallX.pure (find_spec _ _ _ (by omega)) ?_)
                    | simp only [go_sem, I_eq, I_cells, T21, g0, g1, g2, g53, g54, g8, g9, g10, g7, g182, g183, d3, hw, hw2, encS_cells, encO_cells, encC_cells, hp, hmx, Nat.reduceAdd, Nat.reduceBEq, Nat.reduceEqDiff, Nat.reduceLeDiff, Nat.reduceLT, Nat.reduceSub]
                    | simp (disch := omega) only [wrap_in, toNat_succ, toNat_pred, Int.toNat_natCast]
                    | with_reducible refine And.intro (by omega) ?_
                    | with_reducible refine exI (by omega) ?_
                    | fail
                  exact ⟨v, ns, rfl, ga, hd⟩
                · rw [if_neg b2] at hd hln
                  repeat' first
                    | (with_reducible refine CondX.dec (fun c => ?_) (fun c => ?_)) <;> try (exfalso; omega)
                    | (with_reducible refine CondX.beq (fun c => ?_) (fun c => ?_)) <;> try (exfalso; omega)
                    | (with_reducible refine CondX.bne (fun c => ?_) (fun c => ?_)) <;> try (exfalso; omega)
                    | (with_reducible refine CondX.bool (fun c => ?_) (fun c => ?_)) <;> try (exfalso; omega)
                    | ((with_reducible refine CallX.id ?_); first | refine CallX.pure (find_spec _ _ _ (by omega)) ?_)
                    | simp only [go_sem, I_eq, I_cells, T21, g0, g1, g2, g53, g54, g8, g9, g10, g7, g182, g183, d3, hw, hw2, encS_cells, encO_cells, encC_cells, hp, hmx, Nat.reduceAdd, Nat.reduceBEq, Nat.reduceEqDiff, Nat.reduceLeDiff, Nat.reduceLT, Nat.reduceSub]
                    | simp (disch := omega) only [wrap_in, toNat_succ, toNat_pred, Int.toNat_natCast]
                    | with_reducible refine And.intro (by omega) ?_
                    | with_reducible refine exI (by omega) ?_
                    | fail
                  refine ga.app (by ((repeat first | with_reducible apply Keeps.alloc | (with_reducible refine Keeps.set ?_ ?hL _; case hL => first | assumption | exact Hp.ok _ _ (by simp) | exact Keeps.new (by assumption) _ _)); first | assumption | exact Keeps.refl _)) (by simp at hln ⊢; omega) (by simp at hln ⊢; omega) (by decide) fun H' v' a' kp' fr1 fr2 ev => ?_
                  repeat' first
                    | (with_reducible refine CondX.dec (fun c => ?_) (fun c => ?_)) <;> try (exfalso; omega)
                    | (with_reducible refine CondX.beq (fun c => ?_) (fun c => ?_)) <;> try (exfalso; omega)
                    | (with_reducible refine CondX.bne (fun c => ?_) (fun c => ?_)) <;> try (exfalso; omega)
                    | (with_reducible refine CondX.bool (fun c => ?_) (fun c => ?_)) <;> try (exfalso; omega)
                    | simp only [go_sem, I_eq, I_cells, T21, g0, g1, g2, g53, g54, g8, g9, g10, g7, g182, g183, d3, hw, hw2, encS_cells, encO_cells, encC_cells, hp, hmx, Nat.reduceAdd, Nat.reduceBEq, Nat.reduceEqDiff, Nat.reduceLeDiff, Nat.reduceLT, Nat.reduceSub]
                    | simp (disch := omega) only [wrap_in, toNat_succ, toNat_pred, Int.toNat_natCast]
                    | with_reducible refine And.intro (by omega) ?_
                    | with_reducible refine exI (by omega) ?_
                    | fail
                  exact ⟨_, ns ++ [⟨3, k, i, us[i].objs[k].cells[0].num, 0, 0⟩], rfl, (by rw [List.map_append]; exact a'), (by rw [← hd]; simp)⟩
            · rw [if_neg b1, List.nil_append] at hd
              repeat' first
                | (with_reducible refine CondX.dec (fun c => ?_) (fun c => ?_)) <;> try (exfalso; omega)
                | (with_reducible refine CondX.beq (fun c => ?_) (fun c => ?_)) <;> try (exfalso; omega)
                | (with_reducible refine CondX.bne (fun c => ?_) (fun c => ?_)) <;> try (exfalso; omega)
                | (with_reducible refine CondX.bool (fun c => ?_) (fun c => ?_)) <;> try (exfalso; omega)
                | ((with_reducible refine CallX.id ?_); first | refine CallX.pure (find_spec _ _ _ (by omega)) ?_)
                | simp only [go_sem, I_eq, I_cells, T21, g0, g1, g2, g53, g54, g8, g9, g10, g7, g182, g183, d3, hw, hw2, encS_cells, encO_cells, encC_cells, Nat.reduceAdd, Nat.reduceBEq, Nat.reduceEqDiff, Nat.reduceLeDiff, Nat.reduceLT, Nat.reduceSub]
                | simp (disch := omega) only [wrap_in, toNat_succ, toNat_pred, Int.toNat_natCast]
                | with_reducible refine And.intro (by omega) ?_
                | with_reducible refine exI (by omega) ?_
                | fail
              exact ⟨v, ns, rfl, ga, hd⟩
          · rw [freeN_nil (by rw [eu]; exact List.length_eq_zero_iff.1 (by omega)), List.nil_append] at hd
            repeat' first
              | (with_reducible refine CondX.dec (fun c => ?_) (fun c => ?_)) <;> try (exfalso; omega)
              | (with_reducible refine CondX.beq (fun c => ?_) (fun c => ?_)) <;> try (exfalso; omega)
              | (with_reducible refine CondX.bne (fun c => ?_) (fun c => ?_)) <;> try (exfalso; omega)
              | (with_reducible refine CondX.bool (fun c => ?_) (fun c => ?_)) <;> try (exfalso; omega)
              | ((with_reducible refine CallX.id ?_); first | refine CallX.pure (find_spec _ _ _ (by omega)) ?_)
              | simp only [go_sem, I_eq, I_cells, T21, g0, g1, g2, g53, g54, g8, g9, g10, g7, g182, g183, d3, hw, hw2, encS_cells, encO_cells, encC_cells, Nat.reduceAdd, Nat.reduceBEq, Nat.reduceEqDiff, Nat.reduceLeDiff, Nat.reduceLT, Nat.reduceSub]
              | simp (disch := omega) only [wrap_in, toNat_succ, toNat_pred, Int.toNat_natCast]
              | with_reducible refine And.intro (by omega) ?_
              | with_reducible refine exI (by omega) ?_
              | fail
            exact ⟨v, ns, rfl, ga, hd⟩
        · clear g0 g1 g2 gH g53 g54 g8 g9 g10 g7 ga hd
          rintro t d3 g183 g182 ⟨g0, g1, g2, gH, g53, g54, g8, g9, g10, v, ns, g7, ga, hd⟩
          rw [List.drop_length, freeL.eq_def, List.nil_append] at hd
          have hln := congrArg List.length hd
          obtain ⟨wu, hwu⟩ : ∃ x, holder us k = x := ⟨_, rfl⟩
          rw [hwu] at hd hln
          by_cases hgot : at_.1 ≥ 0 ∧ (at_.1 ≠ wu.1 ∨ at_.2 ≠ wu.2)
          · rw [gotN, if_pos hgot] at hd hln
            repeat' first
              | (with_reducible refine CondX.dec (fun c => ?_) (fun c => ?_)) <;> try (exfalso; omega)
              | (with_reducible refine CondX.beq (fun c => ?_) (fun c => ?_)) <;> try (exfalso; omega)
              | (with_reducible refine CondX.bne (fun c => ?_) (fun c => ?_)) <;> try (exfalso; omega)
              | (with_reducible refine CondX.bool (fun c => ?_) (fun c => ?_)) <;> try (exfalso; omega)
              | ((with_reducible refine CallX.id ?_); first | refine CallX.pure (ref_holder_spec us e1 k (by omega) (hou k hlk)) ?_)
              | simp only [go_sem, I_eq, I_cells, T21, g0, g1, g2, g53, g54, g8, g9, g10, g7, g182, g183, d3, hw, pairV, hwu, Nat.reduceAdd, Nat.reduceBEq, Nat.reduceEqDiff, Nat.reduceLeDiff, Nat.reduceLT, Nat.reduceSub]
              | simp (disch := omega) only [wrap_in, toNat_succ, toNat_pred, Int.toNat_natCast]
              | with_reducible refine And.intro (by omega) ?_
              | with_reducible refine exI (by omega) ?_
              | fail
            all_goals
              refine ga.app (by ((repeat first | with_reducible apply Keeps.alloc | (with_reducible refine Keeps.set ?_ ?hL _; case hL => first | assumption | exact Hp.ok _ _ (by simp) | exact Keeps.new (by assumption) _ _)); first | assumption | exact Keeps.refl _)) (by simp at hln ⊢; omega) (by simp at hln ⊢; omega) (by decide) fun H' v' a' kp' fr1 fr2 ev => ?_
              repeat' first
                | (with_reducible refine CondX.dec (fun c => ?_) (fun c => ?_)) <;> try (exfalso; omega)
                | (with_reducible refine CondX.beq (fun c => ?_) (fun c => ?_)) <;> try (exfalso; omega)
                | (with_reducible refine CondX.bne (fun c => ?_) (fun c => ?_)) <;> try (exfalso; omega)
                | (with_reducible refine CondX.bool (fun c => ?_) (fun c => ?_)) <;> try (exfalso; omega)
                | simp only [go_sem, I_eq, I_cells, T21, g0, g1, g2, g53, g54, g8, g9, g10, g7, g182, g183, d3, hw, pairV, hwu, Nat.reduceAdd, Nat.reduceBEq, Nat.reduceEqDiff, Nat.reduceLeDiff, Nat.reduceLT, Nat.reduceSub]
                | simp (disch := omega) only [wrap_in, toNat_succ, toNat_pred, Int.toNat_natCast]
                | with_reducible refine And.intro (by omega) ?_
                | with_reducible refine exI (by omega) ?_
                | fail
              exact ⟨_, ns ++ [⟨4, k, at_.1, at_.2, 0, 0⟩], rfl, (by rw [List.map_append]; exact a'), (by rw [← hd, hG]; simp)⟩
          · rw [gotN, if_neg hgot, List.nil_append] at hd
            repeat' first
              | (with_reducible refine CondX.dec (fun c => ?_) (fun c => ?_)) <;> try (exfalso; omega)
              | (with_reducible refine CondX.beq (fun c => ?_) (fun c => ?_)) <;> try (exfalso; omega)
              | (with_reducible refine CondX.bne (fun c => ?_) (fun c => ?_)) <;> try (exfalso; omega)
              | (with_reducible refine CondX.bool (fun c => ?_) (fun c => ?_)) <;> try (exfalso; omega)
              | ((with_reducible refine CallX.id ?_); first | refine CallX.pure (ref_holder_spec us e1 k (by omega) (hou k hlk)) ?_)
              | simp only [go_sem, I_eq, I_cells, T21, g0, g1, g2, g53, g54, g8, g9, g10, g7, g182, g183, d3, hw, pairV, hwu, Nat.reduceAdd, Nat.reduceBEq, Nat.reduceEqDiff, Nat.reduceLeDiff, Nat.reduceLT, Nat.reduceSub]
              | simp (disch := omega) only [wrap_in, toNat_succ, toNat_pred, Int.toNat_natCast]
              | with_reducible refine And.intro (by omega) ?_
              | with_reducible refine exI (by omega) ?_
              | fail
            all_goals exact ⟨v, ns, rfl, ga, by rw [hG]; exact hd⟩
  · rintro k d2 g54 g53 ⟨g0, g1, g2, gH, v, ns, g7, ga, hd⟩
    rw [Nat.sub_self, diffG, List.append_nil] at hd
    repeat' first
      | (with_reducible refine CondX.dec (fun c => ?_) (fun c => ?_)) <;> try (exfalso; omega)
      | (with_reducible refine CondX.beq (fun c => ?_) (fun c => ?_)) <;> try (exfalso; omega)
      | (with_reducible refine CondX.bne (fun c => ?_) (fun c => ?_)) <;> try (exfalso; omega)
      | (with_reducible refine CondX.bool (fun c => ?_) (fun c => ?_)) <;> try (exfalso; omega)
      | simp only [go_sem, I_eq, I_cells, T21, g0, g1, g2, g7, g53, g54, d2, Nat.reduceAdd, Nat.reduceBEq, Nat.reduceEqDiff, Nat.reduceLeDiff, Nat.reduceLT, Nat.reduceSub]
      | simp (disch := omega) only [wrap_in, toNat_succ, toNat_pred, Int.toNat_natCast]
      | with_reducible refine And.intro (by omega) ?_
      | with_reducible refine exI (by omega) ?_
      | fail
    rw [← hd]
    exact ga.frz gH
end Go.Proofs.Ytmajndgdfmnchaa
