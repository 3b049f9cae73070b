/- Part of a proof: what functions of the given program compute, and plain laws of it. -/
import Derived.Test.YtocfaflghcgniaaDoorZ8
/- ScriptKeeps. -/
namespace Go.Proofs.YtocfaflghcgniaaDoor
open Go Go.T Go.Proofs Go.Sc Go.RowKit
set_option linter.unusedSimpArgs false
set_option linter.unusedVariables false
set_option maxRecDepth 10000
set_option maxHeartbeats 4000000
theorem sl_le {H : Hp} {L : Lab} {xs ys : List AV} {n : Nat} (hc : H.con L = .arr 5 (xs ++ ys)) (hn : n = xs.length) : Le (AV.frz L (H.con L) (.sl L 5 0 n)) (.l false 5 xs) := by
  subst hn
  rw [hc]
  simp only [AV.frz, if_true]
  rw [if_pos ⟨trivial, by simp⟩]
  simp only [List.drop_zero, List.take_left]
  exact Le.refl _
theorem text_sl {H : Hp} {L : Lab} {ss : List Stp} {ys : List AV} {n : Nat} {K : AV → Hp → Prop} {u : Tok K} (hc : H.con L = .arr 5 (ss.map encP ++ ys)) (hn : n = ss.length) (hp : H.con powL = powC) (hl : ss.length ≤ 8192) (hk : K (textV (textR ss)) H) : CallX Tryd.prog 13 [.sl L 5 0 n] H K u := by
  refine CallX.of (CallK.lendH [L] (Text_at ss false hl H.bare (bare_gl hp)) ?_ (by simp [textV, AV.sn, AV.sns, strV]) hk)
  have := sl_le (n := n) hc (by simpa using hn)
  rw [hc] at this
  simp only [lendA, hc, List.map_cons, List.map_nil]
  exact .cons this .nil
theorem same_sl {H : Hp} {L : Lab} {ss b : List Stp} {ys : List AV} {n : Nat} {ex : Bool} {K : AV → Hp → Prop} {u : Tok K} (hc : H.con L = .arr 5 (ss.map encP ++ ys)) (hn : n = ss.length) (ha : ss.length < 2 ^ 60) (hb : b.length < 2 ^ 60) (hk : K (.bool (decide (ss = b))) H) : CallX Tryd.prog 12 [.sl L 5 0 n, .l ex 5 (b.map encP)] H K u := by
  refine CallX.of (CallK.lendL [L] (same_spec ss b false ex ha hb) ?_ (by simp [AV.sn]) hk)
  have := sl_le (n := n) hc (by simpa using hn)
  rw [hc] at this
  simp only [lendA, hc, List.map_cons, List.map_nil]
  refine .cons this (.cons ?_ .nil)
  rw [frz_lf _ _ _ (by simp [AV.lf, P_lfs])]
  exact Le.refl _
theorem Keeps_at (ss : List Stp) (ex : Bool) (t : Bs) (h : Hp) (hp : h.con powL = powC) (hl : ss.length < 2 ^ 60) : CallK Tryd.prog 7 [.l ex 5 (ss.map encP), strV t] h (fun r _ => r = .bool true) := by
  refine CallK.of_awpH mixed (fun _ => []) (fn := Tryd.f7) (by kernel_rfl) rfl (by kernel_rfl) (by show 2 ≤ _; decide) ?_
  repeat' first
    | (with_reducible refine CondX.dec (fun c => ?_) (fun c => ?_)) <;> try (exfalso; omega)
    | (with_reducible refine CondX.beq (fun c => ?_) (fun c => ?_)) <;> try (exfalso; omega)
    | (with_reducible refine CondX.bne (fun c => ?_) (fun c => ?_)) <;> try (exfalso; omega)
    | (with_reducible refine CondX.bool (fun c => ?_) (fun c => ?_)) <;> try (exfalso; omega)
    | ((with_reducible refine CallX.id ?_); first | refine CallX.at (wakes_at h hp) ?_)
    | simp only [go_sem, I_eq, I_cells, List.length_map, Nat.reduceAdd, Nat.reduceBEq, Nat.reduceEqDiff, Nat.reduceLeDiff, Nat.reduceLT, Nat.reduceSub]
    | simp (disch := omega) only [wrap_in, toNat_succ, toNat_pred, Int.toNat_natCast]
    | with_reducible refine And.intro (by omega) ?_
    | with_reducible refine exI (by omega) ?_
    | fail
  obtain ⟨z, hz⟩ : ∃ z : AV, AV.agg [AV.int IntKind.i64 71, AV.int IntKind.i64 0, AV.int IntKind.i64 0, AV.int IntKind.i64 0, AV.int IntKind.i64 0] = z := ⟨_, rfl⟩
  have hzc : z.cells = [AV.int IntKind.i64 71, AV.int IntKind.i64 0, AV.int IntKind.i64 0, AV.int IntKind.i64 0, AV.int IntKind.i64 0] := by rw [← hz]; rfl
  rw [hz]
  obtain ⟨H1, hH1⟩ : ∃ H1, (h.alloc 7 26 .none).alloc 7 29 (.arr 5 (ss.map encP ++ [z])) = H1 := ⟨_, rfl⟩
  have c29 : H1.con ⟨7, 29, h.cnt 7 29⟩ = .arr 5 (ss.map encP ++ [z]) := by rw [← hH1]; simp only [go_sem, I_eq, I_cells, Nat.reduceAdd, Nat.reduceBEq, Nat.reduceEqDiff, Nat.reduceLeDiff, Nat.reduceLT, Nat.reduceSub]
  have kp1 : Keeps h H1 := by rw [← hH1]; ((repeat first | with_reducible apply Keeps.alloc | (with_reducible refine Keeps.set ?_ ?hL _; case hL => first | assumption | exact Hp.ok _ _ (by simp) | exact Keeps.new (by assumption) _ _)); first | assumption | exact Keeps.refl _)
  have hp1 : H1.con powL = powC := kp1.cons hp (by simp [powC])
  have hg : ∀ hi : ss.length < (ss.map encP ++ [z]).length, (ss.map encP ++ [z])[ss.length] = z := fun hi => by rw [List.getElem_append_right (by simp)]; simp
  rw [hH1]
  refine ⟨by simp; omega, text_sl c29 rfl hp1 (by omega) ?_⟩
  repeat' first
    | (with_reducible refine CondX.dec (fun c => ?_) (fun c => ?_)) <;> try (exfalso; omega)
    | (with_reducible refine CondX.beq (fun c => ?_) (fun c => ?_)) <;> try (exfalso; omega)
    | (with_reducible refine CondX.bne (fun c => ?_) (fun c => ?_)) <;> try (exfalso; omega)
    | (with_reducible refine CondX.bool (fun c => ?_) (fun c => ?_)) <;> try (exfalso; omega)
    | simp only [go_sem, I_eq, I_cells, textV, List.length_map, c29, Nat.reduceAdd, Nat.reduceBEq, Nat.reduceEqDiff, Nat.reduceLeDiff, Nat.reduceLT, Nat.reduceSub]
    | simp (disch := omega) only [wrap_in, toNat_succ, toNat_pred, Int.toNat_natCast]
    | with_reducible refine And.intro (by omega) ?_
    | with_reducible refine exI (by omega) ?_
    | fail
  refine ⟨by simp; omega, same_sl c29 rfl (by omega) (by omega) ?_⟩
  rw [decide_eq_true rfl]
  repeat' first
    | (with_reducible refine CondX.dec (fun c => ?_) (fun c => ?_)) <;> try (exfalso; omega)
    | (with_reducible refine CondX.beq (fun c => ?_) (fun c => ?_)) <;> try (exfalso; omega)
    | (with_reducible refine CondX.bne (fun c => ?_) (fun c => ?_)) <;> try (exfalso; omega)
    | (with_reducible refine CondX.bool (fun c => ?_) (fun c => ?_)) <;> try (exfalso; omega)
    | simp only [go_sem, I_eq, I_cells, textV, List.length_map, c29, hg, hzc, List.length_append, Nat.reduceAdd, Nat.reduceBEq, Nat.reduceEqDiff, Nat.reduceLeDiff, Nat.reduceLT, Nat.reduceSub]
    | simp (disch := omega) only [wrap_in, toNat_succ, toNat_pred, Int.toNat_natCast]
    | with_reducible refine And.intro (by omega) ?_
    | with_reducible refine exI (by omega) ?_
    | fail
  refine awp_countF [(8, 8), (56, 63)] (by kernel_rfl) 56 55 (by kernel_rfl) (ss.length + 1) (by omega) (fun i s => ∃ zs : List AV, zs.length = ss.length + 1 ∧ s.hp.con ⟨7, 29, h.cnt 7 29⟩ = .arr 5 zs ∧ Keeps h s.hp) ?_ ?_ ?_ ?_ ?_
  · simp only [go_sem, I_eq, I_cells, Nat.reduceAdd, Nat.reduceBEq, Nat.reduceEqDiff, Nat.reduceLeDiff, Nat.reduceLT, Nat.reduceSub]
  · simp only [go_sem, I_eq, I_cells, List.length_append, List.length_map, Nat.reduceAdd, Nat.reduceBEq, Nat.reduceEqDiff, Nat.reduceLeDiff, Nat.reduceLT, Nat.reduceSub]
    all_goals simp
  · simp only [go_sem, I_eq, I_cells, Nat.reduceAdd, Nat.reduceBEq, Nat.reduceEqDiff, Nat.reduceLeDiff, Nat.reduceLT, Nat.reduceSub]
    exact ⟨_, by simp, c29, kp1⟩
  · rintro i s hlt d2 hw fr g56 g55 ⟨zs, hzl, hcz, gk⟩
    have hn0 : h.con ⟨7, 29, h.cnt 7 29⟩ = .none := h.ok _ (by simp)
    repeat' first
      | (with_reducible refine CondX.dec (fun c => ?_) (fun c => ?_)) <;> try (exfalso; omega)
      | (with_reducible refine CondX.beq (fun c => ?_) (fun c => ?_)) <;> try (exfalso; omega)
      | (with_reducible refine CondX.bne (fun c => ?_) (fun c => ?_)) <;> try (exfalso; omega)
      | (with_reducible refine CondX.bool (fun c => ?_) (fun c => ?_)) <;> try (exfalso; omega)
      | simp only [go_sem, I_eq, I_cells, fr.at, g56, g55, d2, hw, hcz, Nat.reduceAdd, Nat.reduceBEq, Nat.reduceEqDiff, Nat.reduceLeDiff, Nat.reduceLT, Nat.reduceSub]
      | simp (disch := omega) only [wrap_in, toNat_succ, toNat_pred, Int.toNat_natCast]
      | with_reducible refine And.intro (by omega) ?_
      | with_reducible refine exI (by omega) ?_
      | fail
    exact ⟨_, by rw [List.length_set]; exact hzl, rfl, gk.set hn0 _⟩
  · rintro s d2 fr g56 g55 ⟨zs, hzl, hcz, gk⟩
    repeat' first
      | (with_reducible refine CondX.dec (fun c => ?_) (fun c => ?_)) <;> try (exfalso; omega)
      | (with_reducible refine CondX.beq (fun c => ?_) (fun c => ?_)) <;> try (exfalso; omega)
      | (with_reducible refine CondX.bne (fun c => ?_) (fun c => ?_)) <;> try (exfalso; omega)
      | (with_reducible refine CondX.bool (fun c => ?_) (fun c => ?_)) <;> try (exfalso; omega)
      | simp only [go_sem, I_eq, I_cells, fr.at, g56, g55, d2, Nat.reduceAdd, Nat.reduceBEq, Nat.reduceEqDiff, Nat.reduceLeDiff, Nat.reduceLT, Nat.reduceSub]
      | simp (disch := omega) only [wrap_in, toNat_succ, toNat_pred, Int.toNat_natCast]
      | with_reducible refine And.intro (by omega) ?_
      | with_reducible refine exI (by omega) ?_
      | fail
    refine CallX.at (Text_at ss ex (by omega) s.hp (gk.cons hp (by simp [powC]))) ?_
    repeat' first
      | (with_reducible refine CondX.dec (fun c => ?_) (fun c => ?_)) <;> try (exfalso; omega)
      | (with_reducible refine CondX.beq (fun c => ?_) (fun c => ?_)) <;> try (exfalso; omega)
      | (with_reducible refine CondX.bne (fun c => ?_) (fun c => ?_)) <;> try (exfalso; omega)
      | (with_reducible refine CondX.bool (fun c => ?_) (fun c => ?_)) <;> try (exfalso; omega)
      | simp only [go_sem, I_eq, I_cells, textV, fr.at, Nat.reduceAdd, Nat.reduceBEq, Nat.reduceEqDiff, Nat.reduceLeDiff, Nat.reduceLT, Nat.reduceSub]
      | simp (disch := omega) only [wrap_in, toNat_succ, toNat_pred, Int.toNat_natCast]
      | with_reducible refine And.intro (by omega) ?_
      | with_reducible refine exI (by omega) ?_
      | fail
    refine CallX.of ((Parse_spec t s.hp).mono ?_)
    obtain ⟨p, hpp⟩ : ∃ p, parse 65536 4096 t = p := ⟨_, rfl⟩
    have hlen := parse_len 65536 4096 t
    have hsp := Parse_spec t
    rw [hpp] at hlen hsp ⊢
    rintro r H2 ⟨v1, rfl, ga1, gk1⟩
    repeat' first
      | (with_reducible refine CondX.dec (fun c => ?_) (fun c => ?_)) <;> try (exfalso; omega)
      | (with_reducible refine CondX.beq (fun c => ?_) (fun c => ?_)) <;> try (exfalso; omega)
      | (with_reducible refine CondX.bne (fun c => ?_) (fun c => ?_)) <;> try (exfalso; omega)
      | (with_reducible refine CondX.bool (fun c => ?_) (fun c => ?_)) <;> try (exfalso; omega)
      | simp only [go_sem, I_eq, I_cells, textV, fr.at, Nat.reduceAdd, Nat.reduceBEq, Nat.reduceEqDiff, Nat.reduceLeDiff, Nat.reduceLT, Nat.reduceSub]
      | simp (disch := omega) only [wrap_in, toNat_succ, toNat_pred, Int.toNat_natCast]
      | with_reducible refine And.intro (by omega) ?_
      | with_reducible refine exI (by omega) ?_
      | fail
    refine CallX.of ((hsp H2).mono ?_)
    rintro r H3 ⟨v2, rfl, ga2, gk2⟩
    obtain ⟨sz', hel, hsz⟩ := ga2.elems
    obtain ⟨ls, n, e⟩ := p
    dsimp only at ga1 ga2 hlen hel hsz
    repeat' first
      | (with_reducible refine CondX.dec (fun c => ?_) (fun c => ?_)) <;> try (exfalso; omega)
      | (with_reducible refine CondX.beq (fun c => ?_) (fun c => ?_)) <;> try (exfalso; omega)
      | (with_reducible refine CondX.bne (fun c => ?_) (fun c => ?_)) <;> try (exfalso; omega)
      | (with_reducible refine CondX.bool (fun c => ?_) (fun c => ?_)) <;> try (exfalso; omega)
      | simp only [go_sem, I_eq, I_cells, textV, fr.at, hel, List.length_map, Nat.reduceAdd, Nat.reduceBEq, Nat.reduceEqDiff, Nat.reduceLeDiff, Nat.reduceLT, Nat.reduceSub]
      | simp (disch := omega) only [wrap_in, toNat_succ, toNat_pred, Int.toNat_natCast]
      | with_reducible refine And.intro (by omega) ?_
      | with_reducible refine exI (by omega) ?_
      | fail
    obtain ⟨H4, hH4⟩ : ∃ H4, H3.alloc 7 83 (.arr 5 (ls.map encP)) = H4 := ⟨_, rfl⟩
    have n83 : H3.con ⟨7, 83, H3.cnt 7 83⟩ = .none := H3.ok _ (by simp)
    obtain ⟨W, hW⟩ : ∃ W : Lab, (⟨7, 83, H3.cnt 7 83⟩ : Lab) = W := ⟨_, rfl⟩
    have cW : H4.con W = .arr 5 (ls.map encP) := by rw [← hH4, ← hW]; simp only [go_sem, I_eq, I_cells, Nat.reduceAdd, Nat.reduceBEq, Nat.reduceEqDiff, Nat.reduceLeDiff, Nat.reduceLT, Nat.reduceSub]
    rw [hW] at n83
    have gb1 : Acc s.hp H4 5 v1 (ls.map encP) := by rw [← hH4]; exact (ga1.keep gk2).alloc _ _ _
    have gb2 : Acc H2 H4 5 v2 (ls.map encP) := by rw [← hH4]; exact ga2.alloc _ _ _
    have gk4 : Keeps h H4 := by rw [← hH4]; exact ((gk.trans gk1).trans gk2).alloc _ _ _
    have dL : ∀ L, v1 = .os L → v2 = .os L → False := fun L h1 h2 => by
      subst h1
      subst h2
      have e1 := ga1.own'.1
      rw [ga2.own'.2] at e1; cases e1
    have dW : ∀ L, v1 = .os L → L ≠ W := fun L h1 h2 => by
      subst h1
      have e1 := (ga1.keep gk2).own'.1
      rw [h2, n83] at e1; cases e1
    have dW2 : ∀ L, v2 = .os L → L ≠ W := fun L h1 h2 => by
      subst h1
      have e1 := ga2.own'.1
      rw [h2, n83] at e1; cases e1
    have hsn : ∀ L, v1 = .os L → s.hp.con L = .none := fun L h1 => by subst h1; exact ga1.own'.2
    rw [hH4, gb1.lenE, List.length_map]
    clear hH4 hel hsz ga1 ga2
    refine awp_countF [(18, 18), (86, 93)] (by kernel_rfl) 86 85 (by kernel_rfl) ls.length (by omega) (fun i s' => ∃ zs : List AV, zs.length = ls.length ∧ Acc s.hp s'.hp 5 v1 zs ∧ Acc H2 s'.hp 5 v2 (ls.map encP) ∧ s'.hp.con W = .arr 5 (ls.map encP) ∧ Keeps h s'.hp) ?_ ?_ ?_ ?_ ?_
    · simp only [go_sem, I_eq, I_cells, Nat.reduceAdd, Nat.reduceBEq, Nat.reduceEqDiff, Nat.reduceLeDiff, Nat.reduceLT, Nat.reduceSub]
    · simp only [go_sem, I_eq, I_cells, Nat.reduceAdd, Nat.reduceBEq, Nat.reduceEqDiff, Nat.reduceLeDiff, Nat.reduceLT, Nat.reduceSub]
    · simp only [go_sem, I_eq, I_cells, Nat.reduceAdd, Nat.reduceBEq, Nat.reduceEqDiff, Nat.reduceLeDiff, Nat.reduceLT, Nat.reduceSub]
      exact ⟨_, by simp, gb1, gb2, cW, gk4⟩
    · rintro i s' hlt d2 hw fr2 g86 g85 ⟨zs, hzl, gc1, gc2, cW', gk'⟩
      obtain ⟨L, hv1, hcL⟩ : ∃ L, v1 = .os L ∧ s'.hp.con L = .arr 5 zs := by
        cases gc1 with
        | nil => simp at hzl; omega
        | own L xs hc hL => exact ⟨L, rfl, hc⟩
      have hLn := hsn L hv1
      have hLW := dW L hv1
      have hL2 := dL L hv1
      subst hv1
      repeat' first
        | (with_reducible refine CondX.dec (fun c => ?_) (fun c => ?_)) <;> try (exfalso; omega)
        | (with_reducible refine CondX.beq (fun c => ?_) (fun c => ?_)) <;> try (exfalso; omega)
        | (with_reducible refine CondX.bne (fun c => ?_) (fun c => ?_)) <;> try (exfalso; omega)
        | (with_reducible refine CondX.bool (fun c => ?_) (fun c => ?_)) <;> try (exfalso; omega)
        | simp only [go_sem, I_eq, I_cells, fr2.at, g86, g85, d2, hw, hcL, Nat.reduceAdd, Nat.reduceBEq, Nat.reduceEqDiff, Nat.reduceLeDiff, Nat.reduceLT, Nat.reduceSub]
        | simp (disch := omega) only [wrap_in, toNat_succ, toNat_pred, Int.toNat_natCast]
        | with_reducible refine And.intro (by omega) ?_
        | with_reducible refine exI (by omega) ?_
        | fail
      generalize hz' : zs.set i ((zs[i]'(by omega)).over 0 [AV.int IntKind.i64 9, AV.int IntKind.i64 0, AV.int IntKind.i64 0, AV.int IntKind.i64 0, AV.int IntKind.i64 0]) = zs'
      have hl' : zs'.length = ls.length := by rw [← hz', List.length_set]; exact hzl
      exact ⟨zs', hl', .own L zs' (by simp only [go_sem, I_eq, I_cells, hcL, Nat.reduceAdd, Nat.reduceBEq, Nat.reduceEqDiff, Nat.reduceLeDiff, Nat.reduceLT, Nat.reduceSub]) hLn, gc2.mono (fun M hM => set_con_ne (fun e => hL2 (by rw [hM, e]))), by rw [if_neg (Ne.symm hLW)]; exact cW', gk'.set (gk.gone hLn) _⟩
    · rintro s' d2 fr2 g86 g85 ⟨zs, hzl, gc1, gc2, cW', gk'⟩
      repeat' first
        | (with_reducible refine CondX.dec (fun c => ?_) (fun c => ?_)) <;> try (exfalso; omega)
        | (with_reducible refine CondX.beq (fun c => ?_) (fun c => ?_)) <;> try (exfalso; omega)
        | (with_reducible refine CondX.bne (fun c => ?_) (fun c => ?_)) <;> try (exfalso; omega)
        | (with_reducible refine CondX.bool (fun c => ?_) (fun c => ?_)) <;> try (exfalso; omega)
        | simp only [go_sem, I_eq, I_cells, fr2.at, g86, g85, d2, Nat.reduceAdd, Nat.reduceBEq, Nat.reduceEqDiff, Nat.reduceLeDiff, Nat.reduceLT, Nat.reduceSub]
        | simp (disch := omega) only [wrap_in, toNat_succ, toNat_pred, Int.toNat_natCast]
        | with_reducible refine And.intro (by omega) ?_
        | with_reducible refine exI (by omega) ?_
        | fail
      have gcb : Acc h s'.hp 5 v1 zs := by
        cases gc1 with
        | nil => exact .nil
        | own L _ hc hL => exact .own L _ hc (gk.gone hL)
      refine gcb.app gk' (by simp only [List.length_cons, List.length_nil]; omega) (by simp only [List.length_cons, List.length_nil]; omega) (by decide) fun H' v' a' kp' f1 f2 ev => ?_
      have hlE : ∀ K, lenK H' v' K = K (.int .i64 ((ls.length + 2 : Nat) : Int)) := fun K => by rw [a'.lenE, List.length_append, hzl]; rfl
      repeat' first
        | (with_reducible refine CondX.dec (fun c => ?_) (fun c => ?_)) <;> try (exfalso; omega)
        | (with_reducible refine CondX.beq (fun c => ?_) (fun c => ?_)) <;> try (exfalso; omega)
        | (with_reducible refine CondX.bne (fun c => ?_) (fun c => ?_)) <;> try (exfalso; omega)
        | (with_reducible refine CondX.bool (fun c => ?_) (fun c => ?_)) <;> try (exfalso; omega)
        | simp only [go_sem, I_eq, I_cells, fr2.at, fr.at, textV, hlE, Nat.reduceAdd, Nat.reduceBEq, Nat.reduceEqDiff, Nat.reduceLeDiff, Nat.reduceLT, Nat.reduceSub]
        | simp (disch := omega) only [wrap_in, toNat_succ, toNat_pred, Int.toNat_natCast]
        | with_reducible refine And.intro (by omega) ?_
        | with_reducible refine exI (by omega) ?_
        | fail
      · rw [hW]
        have gd2 : Acc H2 H' 5 v2 (ls.map encP) := gc2.mono fun M hM => f1 M (by subst hM; rw [gc2.own'.1]; simp) (fun L hL e => dL L hL (by rw [← e]; exact hM))
        have gdW : Acc H3 H' 5 (.os W) (ls.map encP) := .own W _ (by rw [f1 W (by rw [cW']; simp) (fun L hL e => dW L hL e.symm)]; exact cW') n83
        refine same_oo gd2 gdW (fun L h1 h2 => ?_) (by omega) (by omega) ?_
        · injection h2 with h2
          exact dW2 L h1 h2.symm
        rw [decide_eq_true rfl]
        repeat' first
          | (with_reducible refine CondX.dec (fun c => ?_) (fun c => ?_)) <;> try (exfalso; omega)
          | (with_reducible refine CondX.beq (fun c => ?_) (fun c => ?_)) <;> try (exfalso; omega)
          | (with_reducible refine CondX.bne (fun c => ?_) (fun c => ?_)) <;> try (exfalso; omega)
          | (with_reducible refine CondX.bool (fun c => ?_) (fun c => ?_)) <;> try (exfalso; omega)
          | simp only [go_sem, I_eq, I_cells, Nat.reduceAdd, Nat.reduceBEq, Nat.reduceEqDiff, Nat.reduceLeDiff, Nat.reduceLT, Nat.reduceSub]
          | simp (disch := omega) only [wrap_in, toNat_succ, toNat_pred, Int.toNat_natCast]
          | with_reducible refine And.intro (by omega) ?_
          | with_reducible refine exI (by omega) ?_
          | fail
      all_goals exact absurd rfl c
end Go.Proofs.YtocfaflghcgniaaDoor
