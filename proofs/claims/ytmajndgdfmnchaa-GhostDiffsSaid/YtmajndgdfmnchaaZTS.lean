/- The notes between states. -/
import Derived.Test.YtmajndgdfmnchaaZTR
namespace Go.Gh
def askL (k : Nat) : Nat → List Nst → List Nst → List Note
  | v, b :: r1, a :: r2 => (if ((a.objs[k]?.map Own.made).getD 0) > ((b.objs[k]?.map Own.made).getD 0) then [⟨1, k, v, (a.objs[k]?.map Own.made).getD 0, 0, 0⟩] else []) ++ askL k (v + 1) r1 r2
  | _, _, _ => []
def ledNote (k : Nat) (p : Led) : Note := ⟨2, k, p.1.1, p.1.2, p.2.1, p.2.2⟩
def freeN (k v : Nat) (b a : Nst) : List Note := match cellsOf k b with
  | c :: _ => if c.state = 2 then (match (cellsOf k a).find? (fun x => x.num == c.num) with
    | some x => if x.state = 2 then [] else [⟨3, k, v, c.num, 0, 0⟩]
    | none => [⟨3, k, v, c.num, 0, 0⟩]) else []
  | [] => []
def freeL (k : Nat) : Nat → List Nst → List Nst → List Note
  | v, b :: r1, a :: r2 => freeN k v b a ++ freeL k (v + 1) r1 r2
  | _, _, _ => []
def gotN (k : Nat) (w g : Int × Int) : List Note := if g.1 ≥ 0 ∧ (g.1 ≠ w.1 ∨ g.2 ≠ w.2) then [⟨4, k, g.1, g.2, 0, 0⟩] else []
def diffK (us ws : List Nst) (k : Nat) : List Note :=
  askL k 0 us ws ++ ((ledL k (holder ws k) 0 us ws).map (ledNote k) ++ (freeL k 0 us ws ++ gotN k (holder us k) (holder ws k)))
def diffG (us ws : List Nst) : Nat → Nat → List Note
  | _, 0 => []
  | k, m + 1 => diffK us ws k ++ diffG us ws (k + 1) m
def diffT (us ws : List Nst) : List Note := diffG us ws 0 (objN us)
theorem freeN_nil {k v : Nat} {b a : Nst} (h : cellsOf k b = []) : freeN k v b a = [] := by unfold freeN; rw [h]
theorem freeN_cons {k v : Nat} {b a : Nst} (h : 0 < (cellsOf k b).length) : freeN k v b a = if (cellsOf k b)[0].state = 2 then (match (cellsOf k a).find? (fun x => x.num == (cellsOf k b)[0].num) with
    | some x => if x.state = 2 then [] else [⟨3, k, v, (cellsOf k b)[0].num, 0, 0⟩]
    | none => [⟨3, k, v, (cellsOf k b)[0].num, 0, 0⟩]) else [] := by
  unfold freeN
  generalize cellsOf k b = cs at h ⊢
  cases cs with
  | nil => simp at h
  | cons c r => rfl
/-- What is asked of the states of two looks. -/
structure Two (us ws : List Nst) : Prop where
  len : ws.length = us.length
  n : us.length ≤ 32
  pos : 0 < us.length
  k8 : objN us ≤ 8
  eqk : objN ws = objN us
  pair : ∀ k, k < objN us → ∀ i (h1 : i < us.length) (h2 : i < ws.length), Pair k us[i] ws[i]
  tot : (diffT us ws).length < 2 ^ 20
  bare : ∀ k, k < objN us → ∀ i (h1 : i < us.length) (h2 : k < us[i].objs.length), ∀ j (hj : j < us[i].objs[k].cells.length), us[i].objs[k].cells[j].node ≥ -1 ∧ (j + 1 < us[i].objs[k].cells.length → us[i].objs[k].cells[j].node ≥ 0)
end Go.Gh
namespace Go.Proofs.Ytmajndgdfmnchaa
open Go Go.T Go.Gh Go.Proofs
set_option linter.unusedSimpArgs false
set_option maxRecDepth 10000
set_option maxHeartbeats 4000000
theorem N_lfs (ns : List Note) : AV.lfs (ns.map encN) = true := by
  rw [lfs_iff]; intro x hx; obtain ⟨n, _, rfl⟩ := List.mem_map.1 hx; simp [encN, AV.lf, AV.lfs]
theorem nlp {n : Nat} (h : n < 1000000) : n ≠ lpSlot := by rw [ne_eq, ne_lpSlot h]; exact id
def T18 : Nat → List Tg := fun id => if id = 1 then [.plain, .plain, .pure, .plain, .plain, .plain, .plain, .pure] else if id = 23 then [.plain, .plain, .plain, .plain, .plain, .plain, .plain, .plain, .plain, .plain, .plain, .plain, .plain, .pure] else []
theorem Diff_nil (us ws : List Nst) (e1 e2 : Bool) : PureF Try.prog 18 [.nilp, .l e1 6 (us.map encS), .l e2 6 (ws.map encS)] (.l false 6 []) := by
  refine PureF.of_awpZ mixed T18 (fn := Try.f18) (by kernel_rfl) rfl (by kernel_rfl) (by show 3 ≤ _; decide) (by simp [AV.lf, AV.lfs]) (fun h => ?_)
  repeat' first
    | (with_reducible refine CondX.dec (fun c => ?_) (fun c => ?_)) <;> try (exfalso; omega)
    | (with_reducible refine CondX.beq (fun c => ?_) (fun c => ?_)) <;> try (exfalso; omega)
    | (with_reducible refine CondX.bne (fun c => ?_) (fun c => ?_)) <;> try (exfalso; omega)
    | (with_reducible refine CondX.bool (fun c => ?_) (fun c => ?_)) <;> try (exfalso; omega)
    | ((with_reducible refine CallX.id ?_); first | refine CallX.pure (Fit_nil us e1) ?_)
    | ((with_reducible refine PureX.id ?_); first | refine PureX.of (Fit_nil us e1) ?_)
    | simp only [go_sem, I_eq, I_cells, T18, Nat.reduceAdd, Nat.reduceBEq, Nat.reduceEqDiff, Nat.reduceLeDiff, Nat.reduceLT, Nat.reduceSub]
    | simp (disch := omega) only [wrap_in, toNat_succ, toNat_pred, Int.toNat_natCast]
    | with_reducible refine And.intro (by omega) ?_
    | with_reducible refine exI (by omega) ?_
    | fail
  exact ⟨h, .done _ _ _ Le.l0, Keeps.refl h⟩
theorem Diff_none (ps : List Int) (us ws : List Nst) (e1 e2 : Bool) (hps : 0 < ps.length ∧ ps.length < 2 ^ 29) (hs : ∀ s ∈ us, Sized s) (hs2 : ∀ s ∈ ws, Sized s)
    (hn : (fitB ps us && fitB ps ws && objN us == objN ws) = false) : PureF Try.prog 18 [treeV ps, .l e1 6 (us.map encS), .l e2 6 (ws.map encS)] (.l false 6 []) := by
  refine PureF.of_awpZ mixed T18 (fn := Try.f18) (by kernel_rfl) rfl (by kernel_rfl) (by show 3 ≤ _; decide) (by simp [AV.lf, AV.lfs]) (fun h => ?_)
  rw [awp_assoc]
  refine awp_cut (fun _ => False) ?_ (fun s hs => hs.elim)
  cases f1 : fitB ps us
  · repeat' first
      | (with_reducible refine CondX.dec (fun c => ?_) (fun c => ?_)) <;> try (exfalso; omega)
      | (with_reducible refine CondX.beq (fun c => ?_) (fun c => ?_)) <;> try (exfalso; omega)
      | (with_reducible refine CondX.bne (fun c => ?_) (fun c => ?_)) <;> try (exfalso; omega)
      | (with_reducible refine CondX.bool (fun c => ?_) (fun c => ?_)) <;> try (exfalso; omega)
      | ((with_reducible refine CallX.id ?_); first | refine CallX.pure (Fit_spec ps us e1 hps hs) ?_)
      | ((with_reducible refine PureX.id ?_); first | refine PureX.of (Fit_spec ps us e1 hps hs) ?_)
      | simp only [go_sem, I_eq, I_cells, T18, f1, Nat.reduceAdd, Nat.reduceBEq, Nat.reduceEqDiff, Nat.reduceLeDiff, Nat.reduceLT, Nat.reduceSub]
      | simp (disch := omega) only [wrap_in, toNat_succ, toNat_pred, Int.toNat_natCast]
      | with_reducible refine And.intro (by omega) ?_
      | with_reducible refine exI (by omega) ?_
      | fail
    exact ⟨h, .done _ _ _ Le.l0, Keeps.refl h⟩
  cases f2 : fitB ps ws
  · repeat' first
      | (with_reducible refine CondX.dec (fun c => ?_) (fun c => ?_)) <;> try (exfalso; omega)
      | (with_reducible refine CondX.beq (fun c => ?_) (fun c => ?_)) <;> try (exfalso; omega)
      | (with_reducible refine CondX.bne (fun c => ?_) (fun c => ?_)) <;> try (exfalso; omega)
      | (with_reducible refine CondX.bool (fun c => ?_) (fun c => ?_)) <;> try (exfalso; omega)
      | ((with_reducible refine CallX.id ?_); first | refine CallX.pure (Fit_spec ps us e1 hps hs) ?_ | refine CallX.pure (Fit_spec ps ws e2 hps hs2) ?_)
      | ((with_reducible refine PureX.id ?_); first | refine PureX.of (Fit_spec ps us e1 hps hs) ?_ | refine PureX.of (Fit_spec ps ws e2 hps hs2) ?_)
      | simp only [go_sem, I_eq, I_cells, T18, f1, f2, Nat.reduceAdd, Nat.reduceBEq, Nat.reduceEqDiff, Nat.reduceLeDiff, Nat.reduceLT, Nat.reduceSub]
      | simp (disch := omega) only [wrap_in, toNat_succ, toNat_pred, Int.toNat_natCast]
      | with_reducible refine And.intro (by omega) ?_
      | with_reducible refine exI (by omega) ?_
      | fail
    exact ⟨h, .done _ _ _ Le.l0, Keeps.refl h⟩
  · have l1 : 0 < us.length := by have := f1; unfold fitB at this; simp at this; omega
    have l2 : 0 < ws.length := by have := f2; unfold fitB at this; simp at this; omega
    rw [f1, f2, objN_eq l1, objN_eq l2] at hn
    simp at hn
    repeat' first
      | (with_reducible refine CondX.dec (fun c => ?_) (fun c => ?_)) <;> try (exfalso; omega)
      | (with_reducible refine CondX.beq (fun c => ?_) (fun c => ?_)) <;> try (exfalso; omega)
      | (with_reducible refine CondX.bne (fun c => ?_) (fun c => ?_)) <;> try (exfalso; omega)
      | (with_reducible refine CondX.bool (fun c => ?_) (fun c => ?_)) <;> try (exfalso; omega)
      | ((with_reducible refine CallX.id ?_); first | refine CallX.pure (Fit_spec ps us e1 hps hs) ?_ | refine CallX.pure (Fit_spec ps ws e2 hps hs2) ?_)
      | ((with_reducible refine PureX.id ?_); first | refine PureX.of (Fit_spec ps us e1 hps hs) ?_ | refine PureX.of (Fit_spec ps ws e2 hps hs2) ?_)
      | simp only [go_sem, I_eq, I_cells, T18, f1, f2, encS_cells, Nat.reduceAdd, Nat.reduceBEq, Nat.reduceEqDiff, Nat.reduceLeDiff, Nat.reduceLT, Nat.reduceSub]
      | simp (disch := omega) only [wrap_in, toNat_succ, toNat_pred, Int.toNat_natCast]
      | with_reducible refine And.intro (by omega) ?_
      | with_reducible refine exI (by omega) ?_
      | fail
    · exact ⟨h, .done _ _ _ Le.l0, Keeps.refl h⟩
theorem Diff_spec (ps : List Int) (us ws : List Nst) (e1 e2 : Bool) (hps : 0 < ps.length ∧ ps.length < 2 ^ 29) (hs : ∀ s ∈ us, Sized s) (hs2 : ∀ s ∈ ws, Sized s)
    (f1 : fitB ps us = true) (f2 : fitB ps ws = true) (tw : Two us ws) : PureF Try.prog 18 [treeV ps, .l e1 6 (us.map encS), .l e2 6 (ws.map encS)] (.l false 6 ((diffT us ws).map encN)) := by
  refine PureF.of_awpZ mixed T18 (fn := Try.f18) (by kernel_rfl) rfl (by kernel_rfl) (by show 3 ≤ _; decide) (by simp [AV.lf, N_lfs]) (fun h => ?_)
  obtain ⟨tl, tn, tp, tk, te, tpr, tt, -⟩ := tw
  have l2 : 0 < ws.length := by omega
  have o1 : us[0].objs.length = objN us := (objN_eq tp).symm
  have o2 : ws[0].objs.length = objN us := by rw [← te]; exact (objN_eq l2).symm
  obtain ⟨tot, htot⟩ : ∃ x, diffT us ws = x := ⟨_, rfl⟩
  rw [htot] at tt ⊢
  repeat' first
    | (with_reducible refine CondX.dec (fun c => ?_) (fun c => ?_)) <;> try (exfalso; omega)
    | (with_reducible refine CondX.beq (fun c => ?_) (fun c => ?_)) <;> try (exfalso; omega)
    | (with_reducible refine CondX.bne (fun c => ?_) (fun c => ?_)) <;> try (exfalso; omega)
    | (with_reducible refine CondX.bool (fun c => ?_) (fun c => ?_)) <;> try (exfalso; omega)
    | ((with_reducible refine CallX.id ?_); first | refine CallX.pure (Fit_spec ps us e1 hps hs) ?_ | refine CallX.pure (Fit_spec ps ws e2 hps hs2) ?_)
    | ((with_reducible refine PureX.id ?_); first | refine PureX.of (Fit_spec ps us e1 hps hs) ?_ | refine PureX.of (Fit_spec ps ws e2 hps hs2) ?_)
    | simp only [go_sem, I_eq, I_cells, T18, f1, f2, encS_cells, o1, o2, Nat.reduceAdd, Nat.reduceBEq, Nat.reduceEqDiff, Nat.reduceLeDiff, Nat.reduceLT, Nat.reduceSub]
    | simp (disch := omega) only [wrap_in, toNat_succ, toNat_pred, Int.toNat_natCast]
    | with_reducible refine And.intro (by omega) ?_
    | with_reducible refine exI (by omega) ?_
    | fail
  refine awp_count 49 48 (objN us) (by omega) (fun k t => t.slots 0 = treeV ps ∧ t.slots 1 = .l e1 6 (us.map encS) ∧ t.slots 2 = .l e2 6 (ws.map encS) ∧ t.slots 7 = .pt ⟨18, 7, h.cnt 18 7⟩ 0 0 0 ∧ Keeps h t.hp ∧ ∃ v ns, t.hp.con ⟨18, 7, h.cnt 18 7⟩ = .blk [v] ∧ Acc h t.hp 6 v (ns.map encN) ∧ (∀ L, v = .os L → L.f = 18 ∧ 8 < L.s ∧ L.s < 1000000) ∧ ns ++ diffG us ws k (objN us - k) = tot) ?_ ?_ ?_ ?_ ?_
  · simp only [go_sem, I_eq, I_cells, Nat.reduceAdd, Nat.reduceBEq, Nat.reduceEqDiff, Nat.reduceLeDiff, Nat.reduceLT, Nat.reduceSub]
  · simp only [go_sem, I_eq, I_cells, Nat.reduceAdd, Nat.reduceBEq, Nat.reduceEqDiff, Nat.reduceLeDiff, Nat.reduceLT, Nat.reduceSub]
  · simp only [go_sem, I_eq, I_cells, Nat.reduceAdd, Nat.reduceBEq, Nat.reduceEqDiff, Nat.reduceLeDiff, Nat.reduceLT, Nat.reduceSub]
    first
      | exact ⟨by ((repeat first | with_reducible apply Keeps.alloc | (with_reducible refine Keeps.set ?_ ?hL _; case hL => first | assumption | exact Hp.ok _ _ (by simp) | exact Keeps.new (by assumption) _ _)); first | assumption | exact Keeps.refl _), _, [], rfl, .nil, (fun L hL => by cases hL), htot⟩
      | exact ⟨_, [], rfl, .nil, (fun L hL => by cases hL), htot⟩
  · rintro k t hlk d2 hw g49 g48 ⟨g0, g1, g2, g7, gH, v, ns, k7, ga, gl, hd⟩
    rw [show objN us - k = (objN us - (k + 1)) + 1 by omega, diffG, diffK] at hd
    obtain ⟨G, hG⟩ : ∃ G, diffG us ws (k + 1) (objN us - (k + 1)) = G := ⟨_, rfl⟩
    obtain ⟨R2, hR2⟩ : ∃ R, (freeL k 0 us ws ++ gotN k (holder us k) (holder ws k)) ++ G = R := ⟨_, rfl⟩
    obtain ⟨leds, hleds⟩ : ∃ R, ledL k (holder ws k) 0 us ws = R := ⟨_, rfl⟩
    rw [hG, hleds, List.append_assoc, List.append_assoc, hR2] at hd
    repeat' first
      | (with_reducible refine CondX.dec (fun c => ?_) (fun c => ?_)) <;> try (exfalso; omega)
      | (with_reducible refine CondX.beq (fun c => ?_) (fun c => ?_)) <;> try (exfalso; omega)
      | (with_reducible refine CondX.bne (fun c => ?_) (fun c => ?_)) <;> try (exfalso; omega)
      | (with_reducible refine CondX.bool (fun c => ?_) (fun c => ?_)) <;> try (exfalso; omega)
      | simp only [go_sem, I_eq, I_cells, T18, g0, g1, g2, g7, g48, g49, d2, hw, Nat.reduceAdd, Nat.reduceBEq, Nat.reduceEqDiff, Nat.reduceLeDiff, Nat.reduceLT, Nat.reduceSub]
      | simp (disch := omega) only [wrap_in, toNat_succ, toNat_pred, Int.toNat_natCast]
      | with_reducible refine And.intro (by omega) ?_
      | with_reducible refine exI (by omega) ?_
      | fail
    refine awp_count 54 53 us.length (by omega) (fun i t => t.slots 0 = treeV ps ∧ t.slots 1 = .l e1 6 (us.map encS) ∧ t.slots 2 = .l e2 6 (ws.map encS) ∧ t.slots 7 = .pt ⟨18, 7, h.cnt 18 7⟩ 0 0 0 ∧ Keeps h t.hp ∧ t.slots 48 = .int .i64 (objN us) ∧ t.slots 49 = .int .i64 k ∧ ∃ k8 v ns, t.slots 8 = .pt ⟨18, 8, k8⟩ 0 0 0 ∧ t.hp.con ⟨18, 8, k8⟩ = .blk [.int .i64 k] ∧ t.hp.con ⟨18, 7, h.cnt 18 7⟩ = .blk [v] ∧ Acc h t.hp 6 v (ns.map encN) ∧ (∀ L, v = .os L → L.f = 18 ∧ 8 < L.s ∧ L.s < 1000000) ∧ ns ++ (askL k i (us.drop i) (ws.drop i) ++ (leds.map (ledNote k) ++ R2)) = tot) ?_ ?_ ?_ ?_ ?_
    · simp only [go_sem, I_eq, I_cells, Nat.reduceAdd, Nat.reduceBEq, Nat.reduceEqDiff, Nat.reduceLeDiff, Nat.reduceLT, Nat.reduceSub]
    · simp only [go_sem, I_eq, I_cells, Nat.reduceAdd, Nat.reduceBEq, Nat.reduceEqDiff, Nat.reduceLeDiff, Nat.reduceLT, Nat.reduceSub]
    · simp only [go_sem, I_eq, I_cells, g0, g1, g2, g7, g48, g49, Nat.reduceAdd, Nat.reduceBEq, Nat.reduceEqDiff, Nat.reduceLeDiff, Nat.reduceLT, Nat.reduceSub]
      exact ⟨by ((repeat first | with_reducible apply Keeps.alloc | (with_reducible refine Keeps.set ?_ ?hL _; case hL => first | assumption | exact Hp.ok _ _ (by simp) | exact Keeps.new (by assumption) _ _)); first | assumption | exact Keeps.refl _), _, v, ns, rfl, by simp only [go_sem, I_eq, I_cells, Nat.reduceAdd, Nat.reduceBEq, Nat.reduceEqDiff, Nat.reduceLeDiff, Nat.reduceLT, Nat.reduceSub], by simp only [go_sem, I_eq, I_cells, k7, Nat.reduceAdd, Nat.reduceBEq, Nat.reduceEqDiff, Nat.reduceLeDiff, Nat.reduceLT, Nat.reduceSub], ga.alloc _ _ _, gl, hd⟩
    · clear g0 g1 g2 g7 gH ga gl k7 hd g48 g49
      rintro i t hli d3 hw2 g54 g53 ⟨g0, g1, g2, g7, gH, g48, g49, k8, v, ns, g8, k8', k7', ga, gl, hd⟩
      have hlw : i < ws.length := by omega
      obtain ⟨pob, poa, -, -, -, -, -, -⟩ := tpr k hlk i hli hlw
      simp only [Int.toNat_natCast] at pob poa
      rw [drop_cons hli, drop_cons hlw, askL, show (ws[i].objs[k]?.map Own.made).getD 0 = ws[i].objs[k].made by simp [poa], show (us[i].objs[k]?.map Own.made).getD 0 = us[i].objs[k].made by simp [pob]] at hd
      have hln := congrArg List.length hd
      simp only [List.length_append] at hln
      repeat' first
        | (with_reducible refine CondX.dec (fun c => ?_) (fun c => ?_)) <;> try (exfalso; omega)
        | (with_reducible refine CondX.beq (fun c => ?_) (fun c => ?_)) <;> try (exfalso; omega)
        | (with_reducible refine CondX.bne (fun c => ?_) (fun c => ?_)) <;> try (exfalso; omega)
        | (with_reducible refine CondX.bool (fun c => ?_) (fun c => ?_)) <;> try (exfalso; omega)
        | simp only [go_sem, I_eq, I_cells, T18, g0, g1, g2, g7, g48, g49, g8, k8', k7', g53, g54, d3, hw, hw2, encS_cells, encO_cells, Nat.reduceAdd, Nat.reduceBEq, Nat.reduceEqDiff, Nat.reduceLeDiff, Nat.reduceLT, Nat.reduceSub]
        | simp (disch := omega) only [wrap_in, toNat_succ, toNat_pred, Int.toNat_natCast]
        | with_reducible refine And.intro (by omega) ?_
        | with_reducible refine exI (by omega) ?_
        | fail
      · rw [if_pos c] at hd hln
        refine ga.app (by ((repeat first | with_reducible apply Keeps.alloc | (with_reducible refine Keeps.set ?_ ?hL _; case hL => first | assumption | exact Hp.ok _ _ (by simp) | exact Keeps.new (by assumption) _ _)); first | assumption | exact Keeps.refl _)) (by simp at hln ⊢; omega) (by simp at hln ⊢; omega) (by decide) fun H' v' a' kp' fr1 fr2 ev => ?_
        have f7 := fr2 _ _ k7'
        have f8 := fr2 _ _ k8'
        subst ev
        repeat' first
          | (with_reducible refine CondX.dec (fun c => ?_) (fun c => ?_)) <;> try (exfalso; omega)
          | (with_reducible refine CondX.beq (fun c => ?_) (fun c => ?_)) <;> try (exfalso; omega)
          | (with_reducible refine CondX.bne (fun c => ?_) (fun c => ?_)) <;> try (exfalso; omega)
          | (with_reducible refine CondX.bool (fun c => ?_) (fun c => ?_)) <;> try (exfalso; omega)
          | simp only [go_sem, I_eq, I_cells, T18, g0, g1, g2, g7, g48, g49, g8, k8', k7', g53, g54, d3, hw, hw2, encS_cells, encO_cells, f7, f8, Nat.reduceAdd, Nat.reduceBEq, Nat.reduceEqDiff, Nat.reduceLeDiff, Nat.reduceLT, Nat.reduceSub]
          | simp (disch := omega) only [wrap_in, toNat_succ, toNat_pred, Int.toNat_natCast]
          | with_reducible refine And.intro (by omega) ?_
          | with_reducible refine exI (by omega) ?_
          | fail
        exact ⟨by ((repeat first | with_reducible apply Keeps.alloc | (with_reducible refine Keeps.set ?_ ?hL _; case hL => first | assumption | exact Hp.ok _ _ (by simp) | exact Keeps.new (by assumption) _ _)); first | assumption | exact Keeps.refl _), k8, _, ns ++ [⟨1, k, i, ws[i].objs[k].made, 0, 0⟩], rfl, f8, rfl, (by rw [List.map_append]; exact a'.mono (fun L hL => by cases hL; simp only [go_sem, I_eq, I_cells, Nat.reduceAdd, Nat.reduceBEq, Nat.reduceEqDiff, Nat.reduceLeDiff, Nat.reduceLT, Nat.reduceSub])), (fun L hL => by cases hL; simp), (by rw [← hd]; simp)⟩
      · rw [if_neg c] at hd
        exact ⟨k8, v, ns, rfl, k8', rfl, ga, gl, hd⟩
    · clear g0 g1 g2 g7 gH ga gl k7 hd g48 g49
      rintro t d3 g54 g53 ⟨g0, g1, g2, g7, gH, g48, g49, k8, v, ns, g8, k8', k7', ga, gl, hd⟩
      rw [List.drop_length, askL.eq_def, List.nil_append] at hd
      repeat' first
        | (with_reducible refine CondX.dec (fun c => ?_) (fun c => ?_)) <;> try (exfalso; omega)
        | (with_reducible refine CondX.beq (fun c => ?_) (fun c => ?_)) <;> try (exfalso; omega)
        | (with_reducible refine CondX.bne (fun c => ?_) (fun c => ?_)) <;> try (exfalso; omega)
        | (with_reducible refine CondX.bool (fun c => ?_) (fun c => ?_)) <;> try (exfalso; omega)
        | ((with_reducible refine CallX.id ?_); first | refine CallX.pure (led_spec us ws e1 e2 k) ?_)
        | simp only [go_sem, I_eq, I_cells, T18, g0, g1, g2, g7, g48, g49, g8, k8', k7', g53, g54, d3, Nat.reduceAdd, Nat.reduceBEq, Nat.reduceEqDiff, Nat.reduceLeDiff, Nat.reduceLT, Nat.reduceSub]
        | simp (disch := omega) only [wrap_in, toNat_succ, toNat_pred, Int.toNat_natCast]
        | with_reducible refine And.intro (by omega) ?_
        | with_reducible refine exI (by omega) ?_
        | fail
      refine iter_rule (fid := 18) (ps := [89, 90]) (T := T18) mixed (led_iter us ws e1 e2 k (by omega) tl (by omega) (fun i h1 h2 => tpr k hlk i h1 h2)) (by decide) rfl (of_decide_eq_true (by kernel_rfl)) (by kernel_rfl) (by kernel_rfl) (fun x hx => by obtain ⟨y, _, rfl⟩ := List.mem_map.1 hx; rfl)
        (fun j q => ∃ v ns, q.con ⟨18, 8, k8⟩ = .blk [.int .i64 k] ∧ q.con ⟨18, 7, h.cnt 18 7⟩ = .blk [v] ∧ Acc h q 6 v (ns.map encN) ∧ (∀ L, v = .os L → L.f = 18 ∧ 8 < L.s ∧ L.s < 1000000) ∧ Keeps h q ∧ ns ++ ((leds.drop j).map (ledNote k) ++ R2) = tot) (fun _ _ => False) ?_ (fun _ _ _ hf => hf.elim) ?_ ?_ ?_ (fun _ _ _ hf => hf.elim) _
      · rintro j q q' ⟨v, ns, k8', k7', ga, gl, gH2, hd⟩ hs
        exact ⟨v, ns, by rw [hs _ (.inr ⟨by simp, nlp (show 8 < 1000000 by decide)⟩), k8'], by rw [hs _ (.inr ⟨by simp, nlp (show 7 < 1000000 by decide)⟩), k7'], hs.acc ga (fun L hL => ⟨by rw [(gl L hL).1]; simp, nlp (gl L hL).2.2⟩), gl, hs.keeps gH gH2, hd⟩
      · exact ⟨v, ns, k8', k7', ga, gl, gH, hd⟩
      · rintro j hj q ⟨v, ns, k8', k7', ga, gl, gH2, hd⟩
        rw [List.length_map, hleds] at hj
        rw [drop_cons hj, List.map_cons] at hd
        have hln := congrArg List.length hd
        have hx : ((ledL k (holder ws k) 0 us ws).map ledV)[j]'(by rw [List.length_map, hleds]; exact hj) = ledV leds[j] := by rw [List.getElem_map]; congr 1; simp only [hleds]
        rw [hx]
        repeat' first
          | (with_reducible refine CondX.dec (fun c => ?_) (fun c => ?_)) <;> try (exfalso; omega)
          | (with_reducible refine CondX.beq (fun c => ?_) (fun c => ?_)) <;> try (exfalso; omega)
          | (with_reducible refine CondX.bne (fun c => ?_) (fun c => ?_)) <;> try (exfalso; omega)
          | (with_reducible refine CondX.bool (fun c => ?_) (fun c => ?_)) <;> try (exfalso; omega)
          | simp only [go_sem, I_eq, I_cells, T18, g0, g1, g2, g7, g48, g49, g8, k8', k7', ledV, pr2, Nat.reduceAdd, Nat.reduceBEq, Nat.reduceEqDiff, Nat.reduceLeDiff, Nat.reduceLT, Nat.reduceSub]
          | simp (disch := omega) only [wrap_in, toNat_succ, toNat_pred, Int.toNat_natCast]
          | with_reducible refine And.intro (by omega) ?_
          | with_reducible refine exI (by omega) ?_
          | fail
        refine ((ga.alloc _ _ _).alloc _ _ _).app (by ((repeat first | with_reducible apply Keeps.alloc | (with_reducible refine Keeps.set ?_ ?hL _; case hL => first | assumption | exact Hp.ok _ _ (by simp) | exact Keeps.new (by assumption) _ _)); first | assumption | exact Keeps.refl _)) (by simp at hln ⊢; omega) (by simp at hln ⊢; omega) (by decide) fun H' v' a' kp' fr1 fr2 ev => ?_
        have f7 := fr2 ⟨18, 7, h.cnt 18 7⟩ [v] (by simp only [go_sem, I_eq, I_cells, k7', Nat.reduceAdd, Nat.reduceBEq, Nat.reduceEqDiff, Nat.reduceLeDiff, Nat.reduceLT, Nat.reduceSub])
        have f8 := fr2 ⟨18, 8, k8⟩ [.int .i64 k] (by simp only [go_sem, I_eq, I_cells, k8', Nat.reduceAdd, Nat.reduceBEq, Nat.reduceEqDiff, Nat.reduceLeDiff, Nat.reduceLT, Nat.reduceSub])
        have kf := KeepsF.app (((KeepsF.refl [73] q).alloc _ _ _).alloc _ _ _) fr1 (fun L hL => by rw [(gl L hL).1]; simp)
        subst ev
        repeat' first
          | (with_reducible refine CondX.dec (fun c => ?_) (fun c => ?_)) <;> try (exfalso; omega)
          | (with_reducible refine CondX.beq (fun c => ?_) (fun c => ?_)) <;> try (exfalso; omega)
          | (with_reducible refine CondX.bne (fun c => ?_) (fun c => ?_)) <;> try (exfalso; omega)
          | (with_reducible refine CondX.bool (fun c => ?_) (fun c => ?_)) <;> try (exfalso; omega)
          | simp only [go_sem, I_eq, I_cells, T18, g0, g1, g2, g7, g48, g49, g8, k8', k7', f7, f8, Nat.reduceAdd, Nat.reduceBEq, Nat.reduceEqDiff, Nat.reduceLeDiff, Nat.reduceLT, Nat.reduceSub]
          | simp (disch := omega) only [wrap_in, toNat_succ, toNat_pred, Int.toNat_natCast]
          | with_reducible refine And.intro (by omega) ?_
          | with_reducible refine exI (by omega) ?_
          | fail
        exact ⟨kf.set (by simp) _, _, ns ++ [ledNote k leds[j]], rfl, (by rw [List.map_append]; exact a'.mono (fun L hL => by cases hL; simp only [go_sem, I_eq, I_cells, Nat.reduceAdd, Nat.reduceBEq, Nat.reduceEqDiff, Nat.reduceLeDiff, Nat.reduceLT, Nat.reduceSub])), (fun L hL => by cases hL; simp), by ((repeat first | with_reducible apply Keeps.alloc | (with_reducible refine Keeps.set ?_ ?hL _; case hL => first | assumption | exact Hp.ok _ _ (by simp) | exact Keeps.new (by assumption) _ _)); first | assumption | exact Keeps.refl _), (by rw [← hd]; simp)⟩
      · rintro q ⟨v, ns, k8', k7', ga, gl, gH2, hd⟩
        rw [List.length_map, hleds, List.drop_length, List.map_nil, List.nil_append, ← hR2, List.append_assoc] at hd
        repeat' first
          | (with_reducible refine CondX.dec (fun c => ?_) (fun c => ?_)) <;> try (exfalso; omega)
          | (with_reducible refine CondX.beq (fun c => ?_) (fun c => ?_)) <;> try (exfalso; omega)
          | (with_reducible refine CondX.bne (fun c => ?_) (fun c => ?_)) <;> try (exfalso; omega)
          | (with_reducible refine CondX.bool (fun c => ?_) (fun c => ?_)) <;> try (exfalso; omega)
          | simp only [go_sem, I_eq, I_cells, T18, g0, g1, g2, g7, g48, g49, g8, k8', k7', Nat.reduceAdd, Nat.reduceBEq, Nat.reduceEqDiff, Nat.reduceLeDiff, Nat.reduceLT, Nat.reduceSub]
          | simp (disch := omega) only [wrap_in, toNat_succ, toNat_pred, Int.toNat_natCast]
          | with_reducible refine And.intro (by omega) ?_
          | with_reducible refine exI (by omega) ?_
          | fail
        refine awp_count 106 105 us.length (by omega) (fun i t => t.slots 0 = treeV ps ∧ t.slots 1 = .l e1 6 (us.map encS) ∧ t.slots 2 = .l e2 6 (ws.map encS) ∧ t.slots 7 = .pt ⟨18, 7, h.cnt 18 7⟩ 0 0 0 ∧ Keeps h t.hp ∧ t.slots 48 = .int .i64 (objN us) ∧ t.slots 49 = .int .i64 k ∧ ∃ k8 v ns, t.slots 8 = .pt ⟨18, 8, k8⟩ 0 0 0 ∧ t.hp.con ⟨18, 8, k8⟩ = .blk [.int .i64 k] ∧ t.hp.con ⟨18, 7, h.cnt 18 7⟩ = .blk [v] ∧ Acc h t.hp 6 v (ns.map encN) ∧ (∀ L, v = .os L → L.f = 18 ∧ 8 < L.s ∧ L.s < 1000000) ∧ ns ++ (freeL k i (us.drop i) (ws.drop i) ++ (gotN k (holder us k) (holder ws k) ++ G)) = tot) ?_ ?_ ?_ ?_ ?_
        · simp only [go_sem, I_eq, I_cells, Nat.reduceAdd, Nat.reduceBEq, Nat.reduceEqDiff, Nat.reduceLeDiff, Nat.reduceLT, Nat.reduceSub]
        · simp only [go_sem, I_eq, I_cells, Nat.reduceAdd, Nat.reduceBEq, Nat.reduceEqDiff, Nat.reduceLeDiff, Nat.reduceLT, Nat.reduceSub]
        · simp only [go_sem, I_eq, I_cells, g0, g1, g2, g7, g48, g49, g8, k8', k7', Nat.reduceAdd, Nat.reduceBEq, Nat.reduceEqDiff, Nat.reduceLeDiff, Nat.reduceLT, Nat.reduceSub]
          exact ⟨gH2, k8, v, ns, rfl, k8', rfl, ga, gl, hd⟩
        · clear g0 g1 g2 g7 gH g48 g49 g8 ga gl k7' k8' hd gH2
          rintro i t hli d3 hw2 g106 g105 ⟨g0, g1, g2, g7, gH, g48, g49, k8, v, ns, g8, k8', k7', ga, gl, hd⟩
          have hlw : i < ws.length := by omega
          obtain ⟨pob, poa, -, -, -, -, pcb, pca⟩ := tpr k hlk i hli hlw
          simp only [Int.toNat_natCast] at pob poa
          have pcb' := pcb _ (List.getElem_mem pob)
          have pca' := pca _ (List.getElem_mem poa)
          have eu : cellsOf k us[i] = us[i].objs[k].cells := cellsOf_at (by simpa using pob)
          have ew : cellsOf k ws[i] = ws[i].objs[k].cells := cellsOf_at (by simpa using poa)
          rw [drop_cons hli, drop_cons hlw, freeL, List.append_assoc] at hd
          by_cases hc : 0 < us[i].objs[k].cells.length
          · rw [freeN_cons (by rw [eu]; exact hc)] at hd
            simp only [eu, ew] at hd
            cases hf : ws[i].objs[k].cells.find? (fun x => x.num == us[i].objs[k].cells[0].num) with
            | none =>
              rw [hf] at hd
              simp only at hd
              have hln := congrArg List.length hd
              repeat' first
                | (with_reducible refine CondX.dec (fun c => ?_) (fun c => ?_)) <;> try (exfalso; omega)
                | (with_reducible refine CondX.beq (fun c => ?_) (fun c => ?_)) <;> try (exfalso; omega)
                | (with_reducible refine CondX.bne (fun c => ?_) (fun c => ?_)) <;> try (exfalso; omega)
                | (with_reducible refine CondX.bool (fun c => ?_) (fun c => ?_)) <;> try (exfalso; omega)
                | ((with_reducible refine CallX.id ?_); first | refine CallX.pure (cell_spec _ _ _ (by omega)) ?_)
                | ((with_reducible refine PureX.id ?_); first | refine PureX.of (cell_spec _ _ _ (by omega)) ?_)
                | simp only [go_sem, I_eq, I_cells, T18, g0, g1, g2, g7, g48, g49, g8, k8', k7', g105, g106, d3, hw, hw2, encS_cells, encO_cells, encC_cells, hf, cellV_none, Nat.reduceAdd, Nat.reduceBEq, Nat.reduceEqDiff, Nat.reduceLeDiff, Nat.reduceLT, Nat.reduceSub]
                | simp (disch := omega) only [wrap_in, toNat_succ, toNat_pred, Int.toNat_natCast]
                | with_reducible refine And.intro (by omega) ?_
                | with_reducible refine exI (by omega) ?_
                | fail
              · rw [if_neg c, List.nil_append] at hd
                exact ⟨k8, v, ns, rfl, k8', rfl, ga, gl, hd⟩
              · have c2 : us[i].objs[k].cells[0].state = 2 := by assumption
                rw [if_pos c2] at hd hln
                refine (((ga.alloc _ _ _))).app (by ((repeat first | with_reducible apply Keeps.alloc | (with_reducible refine Keeps.set ?_ ?hL _; case hL => first | assumption | exact Hp.ok _ _ (by simp) | exact Keeps.new (by assumption) _ _)); first | assumption | exact Keeps.refl _)) (by simp at hln ⊢; omega) (by simp at hln ⊢; omega) (by decide) fun H' v' a' kp' fr1 fr2 ev => ?_
                have f7 := fr2 ⟨18, 7, h.cnt 18 7⟩ [v] (by simp only [go_sem, I_eq, I_cells, k7', Nat.reduceAdd, Nat.reduceBEq, Nat.reduceEqDiff, Nat.reduceLeDiff, Nat.reduceLT, Nat.reduceSub])
                have f8 := fr2 ⟨18, 8, k8⟩ [.int .i64 k] (by simp only [go_sem, I_eq, I_cells, k8', Nat.reduceAdd, Nat.reduceBEq, Nat.reduceEqDiff, Nat.reduceLeDiff, Nat.reduceLT, Nat.reduceSub])
                subst ev
                repeat' first
                  | (with_reducible refine CondX.dec (fun c => ?_) (fun c => ?_)) <;> try (exfalso; omega)
                  | (with_reducible refine CondX.beq (fun c => ?_) (fun c => ?_)) <;> try (exfalso; omega)
                  | (with_reducible refine CondX.bne (fun c => ?_) (fun c => ?_)) <;> try (exfalso; omega)
                  | (with_reducible refine CondX.bool (fun c => ?_) (fun c => ?_)) <;> try (exfalso; omega)
                  | simp only [go_sem, I_eq, I_cells, T18, g0, g1, g2, g7, g48, g49, g8, k8', k7', g105, g106, d3, hw, hw2, encS_cells, encO_cells, encC_cells, hf, cellV_none, f7, f8, Nat.reduceAdd, Nat.reduceBEq, Nat.reduceEqDiff, Nat.reduceLeDiff, Nat.reduceLT, Nat.reduceSub]
                  | simp (disch := omega) only [wrap_in, toNat_succ, toNat_pred, Int.toNat_natCast]
                  | with_reducible refine And.intro (by omega) ?_
                  | with_reducible refine exI (by omega) ?_
                  | fail
                exact ⟨by ((repeat first | with_reducible apply Keeps.alloc | (with_reducible refine Keeps.set ?_ ?hL _; case hL => first | assumption | exact Hp.ok _ _ (by simp) | exact Keeps.new (by assumption) _ _)); first | assumption | exact Keeps.refl _), k8, _, ns ++ [⟨3, k, i, us[i].objs[k].cells[0].num, 0, 0⟩], rfl, f8, rfl, (by rw [List.map_append]; exact a'.mono (fun L hL => by cases hL; simp only [go_sem, I_eq, I_cells, Nat.reduceAdd, Nat.reduceBEq, Nat.reduceEqDiff, Nat.reduceLeDiff, Nat.reduceLT, Nat.reduceSub])), (fun L hL => by cases hL; simp), (by rw [← hd]; simp)⟩
            | some x =>
              rw [hf] at hd
              simp only at hd
              have hln := congrArg List.length hd
              repeat' first
                | (with_reducible refine CondX.dec (fun c => ?_) (fun c => ?_)) <;> try (exfalso; omega)
                | (with_reducible refine CondX.beq (fun c => ?_) (fun c => ?_)) <;> try (exfalso; omega)
                | (with_reducible refine CondX.bne (fun c => ?_) (fun c => ?_)) <;> try (exfalso; omega)
                | (with_reducible refine CondX.bool (fun c => ?_) (fun c => ?_)) <;> try (exfalso; omega)
                | ((with_reducible refine CallX.id ?_); first | refine CallX.pure (cell_spec _ _ _ (by omega)) ?_)
                | ((with_reducible refine PureX.id ?_); first | refine PureX.of (cell_spec _ _ _ (by omega)) ?_)
                | simp only [go_sem, I_eq, I_cells, T18, g0, g1, g2, g7, g48, g49, g8, k8', k7', g105, g106, d3, hw, hw2, encS_cells, encO_cells, encC_cells, hf, cellV_some, Nat.reduceAdd, Nat.reduceBEq, Nat.reduceEqDiff, Nat.reduceLeDiff, Nat.reduceLT, Nat.reduceSub]
                | simp (disch := omega) only [wrap_in, toNat_succ, toNat_pred, Int.toNat_natCast]
                | with_reducible refine And.intro (by omega) ?_
                | with_reducible refine exI (by omega) ?_
                | fail
              · rw [if_neg c, List.nil_append] at hd
                exact ⟨k8, v, ns, rfl, k8', rfl, ga, gl, hd⟩
              · have c2 : us[i].objs[k].cells[0].state = 2 := by assumption
                rw [if_pos c2, if_neg c] at hd hln
                refine (ga.alloc _ _ _).app (by ((repeat first | with_reducible apply Keeps.alloc | (with_reducible refine Keeps.set ?_ ?hL _; case hL => first | assumption | exact Hp.ok _ _ (by simp) | exact Keeps.new (by assumption) _ _)); first | assumption | exact Keeps.refl _)) (by simp at hln ⊢; omega) (by simp at hln ⊢; omega) (by decide) fun H' v' a' kp' fr1 fr2 ev => ?_
                have f7 := fr2 ⟨18, 7, h.cnt 18 7⟩ [v] (by simp only [go_sem, I_eq, I_cells, k7', Nat.reduceAdd, Nat.reduceBEq, Nat.reduceEqDiff, Nat.reduceLeDiff, Nat.reduceLT, Nat.reduceSub])
                have f8 := fr2 ⟨18, 8, k8⟩ [.int .i64 k] (by simp only [go_sem, I_eq, I_cells, k8', Nat.reduceAdd, Nat.reduceBEq, Nat.reduceEqDiff, Nat.reduceLeDiff, Nat.reduceLT, Nat.reduceSub])
                subst ev
                repeat' first
                  | (with_reducible refine CondX.dec (fun c => ?_) (fun c => ?_)) <;> try (exfalso; omega)
                  | (with_reducible refine CondX.beq (fun c => ?_) (fun c => ?_)) <;> try (exfalso; omega)
                  | (with_reducible refine CondX.bne (fun c => ?_) (fun c => ?_)) <;> try (exfalso; omega)
                  | (with_reducible refine CondX.bool (fun c => ?_) (fun c => ?_)) <;> try (exfalso; omega)
                  | simp only [go_sem, I_eq, I_cells, T18, g0, g1, g2, g7, g48, g49, g8, k8', k7', g105, g106, d3, hw, hw2, encS_cells, encO_cells, encC_cells, hf, cellV_some, f7, f8, Nat.reduceAdd, Nat.reduceBEq, Nat.reduceEqDiff, Nat.reduceLeDiff, Nat.reduceLT, Nat.reduceSub]
                  | simp (disch := omega) only [wrap_in, toNat_succ, toNat_pred, Int.toNat_natCast]
                  | with_reducible refine And.intro (by omega) ?_
                  | with_reducible refine exI (by omega) ?_
                  | fail
                exact ⟨by ((repeat first | with_reducible apply Keeps.alloc | (with_reducible refine Keeps.set ?_ ?hL _; case hL => first | assumption | exact Hp.ok _ _ (by simp) | exact Keeps.new (by assumption) _ _)); first | assumption | exact Keeps.refl _), k8, _, ns ++ [⟨3, k, i, us[i].objs[k].cells[0].num, 0, 0⟩], rfl, f8, rfl, (by rw [List.map_append]; exact a'.mono (fun L hL => by cases hL; simp only [go_sem, I_eq, I_cells, Nat.reduceAdd, Nat.reduceBEq, Nat.reduceEqDiff, Nat.reduceLeDiff, Nat.reduceLT, Nat.reduceSub])), (fun L hL => by cases hL; simp), (by rw [← hd]; simp)⟩
              · have c2 : us[i].objs[k].cells[0].state = 2 := by assumption
                rw [if_pos c2, if_pos c, List.nil_append] at hd
                exact ⟨by ((repeat first | with_reducible apply Keeps.alloc | (with_reducible refine Keeps.set ?_ ?hL _; case hL => first | assumption | exact Hp.ok _ _ (by simp) | exact Keeps.new (by assumption) _ _)); first | assumption | exact Keeps.refl _), k8, v, ns, rfl, by simp only [go_sem, I_eq, I_cells, k8', Nat.reduceAdd, Nat.reduceBEq, Nat.reduceEqDiff, Nat.reduceLeDiff, Nat.reduceLT, Nat.reduceSub], rfl, ga.alloc _ _ _, gl, hd⟩
          · rw [freeN_nil (by rw [eu]; exact List.length_eq_zero_iff.1 (by omega)), List.nil_append] at hd
            repeat' first
              | (with_reducible refine CondX.dec (fun c => ?_) (fun c => ?_)) <;> try (exfalso; omega)
              | (with_reducible refine CondX.beq (fun c => ?_) (fun c => ?_)) <;> try (exfalso; omega)
              | (with_reducible refine CondX.bne (fun c => ?_) (fun c => ?_)) <;> try (exfalso; omega)
              | (with_reducible refine CondX.bool (fun c => ?_) (fun c => ?_)) <;> try (exfalso; omega)
              | simp only [go_sem, I_eq, I_cells, T18, g0, g1, g2, g7, g48, g49, g8, k8', k7', g105, g106, d3, hw, hw2, encS_cells, encO_cells, encC_cells, Nat.reduceAdd, Nat.reduceBEq, Nat.reduceEqDiff, Nat.reduceLeDiff, Nat.reduceLT, Nat.reduceSub]
              | simp (disch := omega) only [wrap_in, toNat_succ, toNat_pred, Int.toNat_natCast]
              | with_reducible refine And.intro (by omega) ?_
              | with_reducible refine exI (by omega) ?_
              | fail
            exact ⟨k8, v, ns, rfl, k8', rfl, ga, gl, hd⟩
        · clear g0 g1 g2 g7 gH g48 g49 g8 ga gl k7' k8' hd gH2
          rintro t d3 g106 g105 ⟨g0, g1, g2, g7, gH, g48, g49, k8, v, ns, g8, k8', k7', ga, gl, hd⟩
          rw [List.drop_length, freeL.eq_def, List.nil_append] at hd
          have hln := congrArg List.length hd
          obtain ⟨wu, hwu⟩ : ∃ x, holder us k = x := ⟨_, rfl⟩
          obtain ⟨ww, hww⟩ : ∃ x, holder ws k = x := ⟨_, rfl⟩
          rw [hwu, hww] at hd hln
          by_cases hgot : ww.1 ≥ 0 ∧ (ww.1 ≠ wu.1 ∨ ww.2 ≠ wu.2)
          · rw [gotN, if_pos hgot] at hd hln
            repeat' first
              | (with_reducible refine CondX.dec (fun c => ?_) (fun c => ?_)) <;> try (exfalso; omega)
              | (with_reducible refine CondX.beq (fun c => ?_) (fun c => ?_)) <;> try (exfalso; omega)
              | (with_reducible refine CondX.bne (fun c => ?_) (fun c => ?_)) <;> try (exfalso; omega)
              | (with_reducible refine CondX.bool (fun c => ?_) (fun c => ?_)) <;> try (exfalso; omega)
              | ((with_reducible refine CallX.id ?_); first | refine CallX.pure (Holder_spec us e1 k (by omega)) ?_ | refine CallX.pure (Holder_spec ws e2 k (by omega)) ?_)
              | simp only [go_sem, I_eq, I_cells, T18, g0, g1, g2, g7, g48, g49, g8, k8', k7', d3, hw, pairV, hwu, hww, g105, g106, Nat.reduceAdd, Nat.reduceBEq, Nat.reduceEqDiff, Nat.reduceLeDiff, Nat.reduceLT, Nat.reduceSub]
              | simp (disch := omega) only [wrap_in, toNat_succ, toNat_pred, Int.toNat_natCast]
              | with_reducible refine And.intro (by omega) ?_
              | with_reducible refine exI (by omega) ?_
              | fail
            all_goals
              refine ga.app (by ((repeat first | with_reducible apply Keeps.alloc | (with_reducible refine Keeps.set ?_ ?hL _; case hL => first | assumption | exact Hp.ok _ _ (by simp) | exact Keeps.new (by assumption) _ _)); first | assumption | exact Keeps.refl _)) (by simp at hln ⊢; omega) (by simp at hln ⊢; omega) (by decide) fun H' v' a' kp' fr1 fr2 ev => ?_
              have f7 := fr2 ⟨18, 7, h.cnt 18 7⟩ [v] (by simp only [go_sem, I_eq, I_cells, k7', Nat.reduceAdd, Nat.reduceBEq, Nat.reduceEqDiff, Nat.reduceLeDiff, Nat.reduceLT, Nat.reduceSub])
              have f8 := fr2 ⟨18, 8, k8⟩ [.int .i64 k] (by simp only [go_sem, I_eq, I_cells, k8', Nat.reduceAdd, Nat.reduceBEq, Nat.reduceEqDiff, Nat.reduceLeDiff, Nat.reduceLT, Nat.reduceSub])
              subst ev
              repeat' first
                | (with_reducible refine CondX.dec (fun c => ?_) (fun c => ?_)) <;> try (exfalso; omega)
                | (with_reducible refine CondX.beq (fun c => ?_) (fun c => ?_)) <;> try (exfalso; omega)
                | (with_reducible refine CondX.bne (fun c => ?_) (fun c => ?_)) <;> try (exfalso; omega)
                | (with_reducible refine CondX.bool (fun c => ?_) (fun c => ?_)) <;> try (exfalso; omega)
                | simp only [go_sem, I_eq, I_cells, T18, g0, g1, g2, g7, g48, g49, g8, k8', k7', d3, hw, pairV, hwu, hww, f7, f8, Nat.reduceAdd, Nat.reduceBEq, Nat.reduceEqDiff, Nat.reduceLeDiff, Nat.reduceLT, Nat.reduceSub]
                | simp (disch := omega) only [wrap_in, toNat_succ, toNat_pred, Int.toNat_natCast]
                | with_reducible refine And.intro (by omega) ?_
                | with_reducible refine exI (by omega) ?_
                | fail
              exact ⟨by ((repeat first | with_reducible apply Keeps.alloc | (with_reducible refine Keeps.set ?_ ?hL _; case hL => first | assumption | exact Hp.ok _ _ (by simp) | exact Keeps.new (by assumption) _ _)); first | assumption | exact Keeps.refl _), _, ns ++ [⟨4, k, ww.1, ww.2, 0, 0⟩], rfl, (by rw [List.map_append]; exact a'.mono (fun L hL => by cases hL; simp only [go_sem, I_eq, I_cells, Nat.reduceAdd, Nat.reduceBEq, Nat.reduceEqDiff, Nat.reduceLeDiff, Nat.reduceLT, Nat.reduceSub])), (fun L hL => by cases hL; simp), (by rw [← hd, hG]; simp)⟩
          · rw [gotN, if_neg hgot, List.nil_append] at hd
            repeat' first
              | (with_reducible refine CondX.dec (fun c => ?_) (fun c => ?_)) <;> try (exfalso; omega)
              | (with_reducible refine CondX.beq (fun c => ?_) (fun c => ?_)) <;> try (exfalso; omega)
              | (with_reducible refine CondX.bne (fun c => ?_) (fun c => ?_)) <;> try (exfalso; omega)
              | (with_reducible refine CondX.bool (fun c => ?_) (fun c => ?_)) <;> try (exfalso; omega)
              | ((with_reducible refine CallX.id ?_); first | refine CallX.pure (Holder_spec us e1 k (by omega)) ?_ | refine CallX.pure (Holder_spec ws e2 k (by omega)) ?_)
              | simp only [go_sem, I_eq, I_cells, T18, g0, g1, g2, g7, g48, g49, g8, k8', k7', d3, hw, pairV, hwu, hww, g105, g106, Nat.reduceAdd, Nat.reduceBEq, Nat.reduceEqDiff, Nat.reduceLeDiff, Nat.reduceLT, Nat.reduceSub]
              | simp (disch := omega) only [wrap_in, toNat_succ, toNat_pred, Int.toNat_natCast]
              | with_reducible refine And.intro (by omega) ?_
              | with_reducible refine exI (by omega) ?_
              | fail
            all_goals exact ⟨v, ns, rfl, ga, gl, by rw [hG]; exact hd⟩
  · rintro k d2 g49 g48 ⟨g0, g1, g2, g7, gH, v, ns, k7, ga, gl, hd⟩
    rw [Nat.sub_self, diffG, List.append_nil] at hd
    repeat' first
      | (with_reducible refine CondX.dec (fun c => ?_) (fun c => ?_)) <;> try (exfalso; omega)
      | (with_reducible refine CondX.beq (fun c => ?_) (fun c => ?_)) <;> try (exfalso; omega)
      | (with_reducible refine CondX.bne (fun c => ?_) (fun c => ?_)) <;> try (exfalso; omega)
      | (with_reducible refine CondX.bool (fun c => ?_) (fun c => ?_)) <;> try (exfalso; omega)
      | simp only [go_sem, I_eq, I_cells, T18, g0, g1, g2, g7, g48, g49, d2, k7, Nat.reduceAdd, Nat.reduceBEq, Nat.reduceEqDiff, Nat.reduceLeDiff, Nat.reduceLT, Nat.reduceSub]
      | simp (disch := omega) only [wrap_in, toNat_succ, toNat_pred, Int.toNat_natCast]
      | with_reducible refine And.intro (by omega) ?_
      | with_reducible refine exI (by omega) ?_
      | fail
    rw [← hd]
    exact ga.frz gH
end Go.Proofs.Ytmajndgdfmnchaa
